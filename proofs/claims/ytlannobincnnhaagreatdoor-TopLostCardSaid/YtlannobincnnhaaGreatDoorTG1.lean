/-
  No claim by itself: the functions do what their texts mean. No condition.
-/
import Derived.Test.YtlannobincnnhaaGreatDoorTD4
import Derived.Test.YtlannobincnnhaaGreatDoorE7
namespace Go.Proofs.YtlannobincnnhaaGreatDoor
set_option linter.unusedVariables false
theorem mix : Tryz.prog.follows .mixedOrders = true := by kernel_rfl
set_option maxRecDepth 100000 in
theorem e33 : S33 = fnF Tryz.prog [] MM Tryz.f33 a33 := by kernel_rfl
theorem d33 : SoundF Tryz.prog 33 s33 := sound_fn (fn := Tryz.f33) (T := []) (M := MM) (ann := a33) (by kernel_rfl) (by kernel_rfl) (by kernel_rfl) (by kernel_rfl) mix .nil (e33)
set_option maxRecDepth 100000 in
theorem e34 : S34 = fnF Tryz.prog [] MM Tryz.f34 a34 := by kernel_rfl
theorem d34 : SoundF Tryz.prog 34 s34 := sound_fn (fn := Tryz.f34) (T := []) (M := MM) (ann := a34) (by kernel_rfl) (by kernel_rfl) (by kernel_rfl) (by kernel_rfl) mix .nil (e34)
set_option maxRecDepth 100000 in
theorem e54 : S54 = fnF Tryz.prog [] MM Tryz.f54 a54 := by kernel_rfl
theorem d54 : SoundF Tryz.prog 54 s54 := sound_fn (fn := Tryz.f54) (T := []) (M := MM) (ann := a54) (by kernel_rfl) (by kernel_rfl) (by kernel_rfl) (by kernel_rfl) mix .nil (e54)
set_option maxRecDepth 100000 in
theorem e181 : S181 = fnF Tryz.prog [] MM Tryz.f181 a181 := by kernel_rfl
theorem d181 : SoundF Tryz.prog 181 s181 := sound_fn (fn := Tryz.f181) (T := []) (M := MM) (ann := a181) (by kernel_rfl) (by kernel_rfl) (by kernel_rfl) (by kernel_rfl) mix .nil (e181)
set_option maxRecDepth 100000 in
theorem e107 (s181 : FS) : S107 s181 = fnF Tryz.prog [(181, s181)] MM Tryz.f107 a107 := by kernel_rfl
theorem d107 : SoundF Tryz.prog 107 s107 := sound_fn (fn := Tryz.f107) (T := [(181, s181)]) (M := MM) (ann := a107) (by kernel_rfl) (by kernel_rfl) (by kernel_rfl) (by kernel_rfl) mix (.cons d181 .nil) (e107 s181)
theorem d108 : SoundF Tryz.prog 108 s108 := sound_stub (fn := Tryz.f108) (by kernel_rfl) (by kernel_rfl) (by kernel_rfl)
theorem d109 : SoundF Tryz.prog 109 s109 := sound_stub (fn := Tryz.f109) (by kernel_rfl) (by kernel_rfl) (by kernel_rfl)
theorem d110 : SoundF Tryz.prog 110 s110 := sound_stub (fn := Tryz.f110) (by kernel_rfl) (by kernel_rfl) (by kernel_rfl)
set_option maxRecDepth 100000 in
theorem e188 : S188 = fnF Tryz.prog [] MM Tryz.f188 a188 := by kernel_rfl
theorem d188 : SoundF Tryz.prog 188 s188 := sound_fn (fn := Tryz.f188) (T := []) (M := MM) (ann := a188) (by kernel_rfl) (by kernel_rfl) (by kernel_rfl) (by kernel_rfl) mix .nil (e188)
set_option maxRecDepth 100000 in
theorem e111 (s188 s181 : FS) : S111 s188 s181 = fnF Tryz.prog [(188, s188), (181, s181)] MM Tryz.f111 a111 := by kernel_rfl
theorem d111 : SoundF Tryz.prog 111 s111 := sound_fn (fn := Tryz.f111) (T := [(188, s188), (181, s181)]) (M := MM) (ann := a111) (by kernel_rfl) (by kernel_rfl) (by kernel_rfl) (by kernel_rfl) mix (.cons d188 (.cons d181 .nil)) (e111 s188 s181)
set_option maxRecDepth 100000 in
theorem e55 (s107 s108 s109 s110 s111 : FS) : S55 s107 s108 s109 s110 s111 = fnF Tryz.prog [(107, s107), (108, s108), (109, s109), (110, s110), (111, s111)] MM Tryz.f55 a55 := by kernel_rfl
theorem d55 : SoundF Tryz.prog 55 s55 := sound_fn (fn := Tryz.f55) (T := [(107, s107), (108, s108), (109, s109), (110, s110), (111, s111)]) (M := MM) (ann := a55) (by kernel_rfl) (by kernel_rfl) (by kernel_rfl) (by kernel_rfl) mix (.cons d107 (.cons d108 (.cons d109 (.cons d110 (.cons d111 .nil))))) (e55 s107 s108 s109 s110 s111)
set_option maxRecDepth 100000 in
theorem e113 : S113 = fnF Tryz.prog [] MM Tryz.f113 a113 := by kernel_rfl
theorem d113 : SoundF Tryz.prog 113 s113 := sound_fn (fn := Tryz.f113) (T := []) (M := MM) (ann := a113) (by kernel_rfl) (by kernel_rfl) (by kernel_rfl) (by kernel_rfl) mix .nil (e113)
theorem d189 : SoundF Tryz.prog 189 s189 := sound_stub (fn := Tryz.f189) (by kernel_rfl) (by kernel_rfl) (by kernel_rfl)
theorem d268 : SoundF Tryz.prog 268 s268 := sound_stub (fn := Tryz.f268) (by kernel_rfl) (by kernel_rfl) (by kernel_rfl)
set_option maxRecDepth 100000 in
theorem e269 : S269 = fnF Tryz.prog [] MM Tryz.f269 a269 := by kernel_rfl
theorem d269 : SoundF Tryz.prog 269 s269 := sound_fn (fn := Tryz.f269) (T := []) (M := MM) (ann := a269) (by kernel_rfl) (by kernel_rfl) (by kernel_rfl) (by kernel_rfl) mix .nil (e269)
set_option maxRecDepth 100000 in
theorem e233 (s268 s269 : FS) : S233 s268 s269 = fnF Tryz.prog [(268, s268), (269, s269)] MM Tryz.f233 a233 := by kernel_rfl
theorem d233 : SoundF Tryz.prog 233 s233 := sound_fn (fn := Tryz.f233) (T := [(268, s268), (269, s269)]) (M := MM) (ann := a233) (by kernel_rfl) (by kernel_rfl) (by kernel_rfl) (by kernel_rfl) mix (.cons d268 (.cons d269 .nil)) (e233 s268 s269)
theorem d265 : SoundF Tryz.prog 265 s265 := sound_stub (fn := Tryz.f265) (by kernel_rfl) (by kernel_rfl) (by kernel_rfl)
set_option maxRecDepth 100000 in
theorem e259 (s265 : FS) : S259 s265 = fnF Tryz.prog [(265, s265)] MM Tryz.f259 a259 := by kernel_rfl
theorem d259 : SoundF Tryz.prog 259 s259 := sound_fn (fn := Tryz.f259) (T := [(265, s265)]) (M := MM) (ann := a259) (by kernel_rfl) (by kernel_rfl) (by kernel_rfl) (by kernel_rfl) mix (.cons d265 .nil) (e259 s265)
theorem d260 : SoundF Tryz.prog 260 s260 := sound_stub (fn := Tryz.f260) (by kernel_rfl) (by kernel_rfl) (by kernel_rfl)
theorem d261 : SoundF Tryz.prog 261 s261 := sound_stub (fn := Tryz.f261) (by kernel_rfl) (by kernel_rfl) (by kernel_rfl)
theorem d262 : SoundF Tryz.prog 262 s262 := sound_stub (fn := Tryz.f262) (by kernel_rfl) (by kernel_rfl) (by kernel_rfl)
theorem d263 : SoundF Tryz.prog 263 s263 := sound_stub (fn := Tryz.f263) (by kernel_rfl) (by kernel_rfl) (by kernel_rfl)
theorem d264 : SoundF Tryz.prog 264 s264 := sound_stub (fn := Tryz.f264) (by kernel_rfl) (by kernel_rfl) (by kernel_rfl)
theorem d266 : SoundF Tryz.prog 266 s266 := sound_stub (fn := Tryz.f266) (by kernel_rfl) (by kernel_rfl) (by kernel_rfl)
theorem d267 : SoundF Tryz.prog 267 s267 := sound_stub (fn := Tryz.f267) (by kernel_rfl) (by kernel_rfl) (by kernel_rfl)
set_option maxRecDepth 100000 in
theorem e232 (s259 s260 s261 s262 s263 s264 s265 s266 s267 s232 : FS) : S232 s259 s260 s261 s262 s263 s264 s265 s266 s267 s232 = fnF Tryz.prog [(259, s259), (260, s260), (261, s261), (262, s262), (263, s263), (264, s264), (265, s265), (266, s266), (267, s267), (232, s232)] MM Tryz.f232 a232 := by kernel_rfl
theorem d232 : SoundF Tryz.prog 232 s232 := sound_fn (fn := Tryz.f232) (T := [(259, s259), (260, s260), (261, s261), (262, s262), (263, s263), (264, s264), (265, s265), (266, s266), (267, s267), (232, sx)]) (M := MM) (ann := a232) (by kernel_rfl) (by kernel_rfl) (by kernel_rfl) (by kernel_rfl) mix (.cons d259 (.cons d260 (.cons d261 (.cons d262 (.cons d263 (.cons d264 (.cons d265 (.cons d266 (.cons d267 (.cons (sound_stub (fn := Tryz.f232) (by kernel_rfl) (by kernel_rfl) (by kernel_rfl)) .nil)))))))))) (e232 s259 s260 s261 s262 s263 s264 s265 s266 s267 sx)
set_option maxRecDepth 100000 in
theorem e190 (s233 s232 : FS) : S190 s233 s232 = fnF Tryz.prog [(233, s233), (232, s232)] MM Tryz.f190 a190 := by kernel_rfl
theorem d190 : SoundF Tryz.prog 190 s190 := sound_fn (fn := Tryz.f190) (T := [(233, s233), (232, s232)]) (M := MM) (ann := a190) (by kernel_rfl) (by kernel_rfl) (by kernel_rfl) (by kernel_rfl) mix (.cons d233 (.cons d232 .nil)) (e190 s233 s232)
theorem d112 : SoundF Tryz.prog 112 s112 := soF_sound d190 (by kernel_rfl)
set_option maxRecDepth 100000 in
theorem e56 (s113 s112 : FS) : S56 s113 s112 = fnF Tryz.prog [(113, s113), (112, s112)] MM Tryz.f56 a56 := by kernel_rfl
theorem d56 : SoundF Tryz.prog 56 s56 := sound_fn (fn := Tryz.f56) (T := [(113, s113), (112, s112)]) (M := MM) (ann := a56) (by kernel_rfl) (by kernel_rfl) (by kernel_rfl) (by kernel_rfl) mix (.cons d113 (.cons d112 .nil)) (e56 s113 s112)
set_option maxRecDepth 100000 in
theorem e58 (s54 : FS) : S58 s54 = fnF Tryz.prog [(54, s54)] MM Tryz.f58 a58 := by kernel_rfl
theorem d58 : SoundF Tryz.prog 58 s58 := sound_fn (fn := Tryz.f58) (T := [(54, s54)]) (M := MM) (ann := a58) (by kernel_rfl) (by kernel_rfl) (by kernel_rfl) (by kernel_rfl) mix (.cons d54 .nil) (e58 s54)
set_option maxRecDepth 100000 in
theorem e169 : S169 = fnF Tryz.prog [] MM Tryz.f169 a169 := by kernel_rfl
theorem d169 : SoundF Tryz.prog 169 s169 := sound_fn (fn := Tryz.f169) (T := []) (M := MM) (ann := a169) (by kernel_rfl) (by kernel_rfl) (by kernel_rfl) (by kernel_rfl) mix .nil (e169)
set_option maxRecDepth 100000 in
theorem e116 (s169 : FS) : S116 s169 = fnF Tryz.prog [(169, s169)] MM Tryz.f116 a116 := by kernel_rfl
theorem d116 : SoundF Tryz.prog 116 s116 := sound_fn (fn := Tryz.f116) (T := [(169, s169)]) (M := MM) (ann := a116) (by kernel_rfl) (by kernel_rfl) (by kernel_rfl) (by kernel_rfl) mix (.cons d169 .nil) (e116 s169)
set_option maxRecDepth 100000 in
theorem e59 (s116 : FS) : S59 s116 = fnF Tryz.prog [(116, s116)] MM Tryz.f59 a59 := by kernel_rfl
theorem d59 : SoundF Tryz.prog 59 s59 := sound_fn (fn := Tryz.f59) (T := [(116, s116)]) (M := MM) (ann := a59) (by kernel_rfl) (by kernel_rfl) (by kernel_rfl) (by kernel_rfl) mix (.cons d116 .nil) (e59 s116)
set_option maxRecDepth 100000 in
theorem e117 : S117 = fnF Tryz.prog [] MM Tryz.f117 a117 := by kernel_rfl
theorem d117 : SoundF Tryz.prog 117 s117 := sound_fn (fn := Tryz.f117) (T := []) (M := MM) (ann := a117) (by kernel_rfl) (by kernel_rfl) (by kernel_rfl) (by kernel_rfl) mix .nil (e117)
theorem d297 : SoundF Tryz.prog 297 s297 := sound_stub (fn := Tryz.f297) (by kernel_rfl) (by kernel_rfl) (by kernel_rfl)
set_option maxRecDepth 100000 in
theorem e294 (s297 : FS) : S294 s297 = fnF Tryz.prog [(297, s297)] MM Tryz.f294 a294 := by kernel_rfl
theorem d294 : SoundF Tryz.prog 294 s294 := sound_fn (fn := Tryz.f294) (T := [(297, s297)]) (M := MM) (ann := a294) (by kernel_rfl) (by kernel_rfl) (by kernel_rfl) (by kernel_rfl) mix (.cons d297 .nil) (e294 s297)
set_option maxRecDepth 100000 in
theorem e277 (s294 : FS) : S277 s294 = fnF Tryz.prog [(294, s294)] MM Tryz.f277 a277 := by kernel_rfl
theorem d277 : SoundF Tryz.prog 277 s277 := sound_fn (fn := Tryz.f277) (T := [(294, s294)]) (M := MM) (ann := a277) (by kernel_rfl) (by kernel_rfl) (by kernel_rfl) (by kernel_rfl) mix (.cons d294 .nil) (e277 s294)
set_option maxRecDepth 100000 in
theorem e241 (s277 : FS) : S241 s277 = fnF Tryz.prog [(277, s277)] MM Tryz.f241 a241 := by kernel_rfl
theorem d241 : SoundF Tryz.prog 241 s241 := sound_fn (fn := Tryz.f241) (T := [(277, s277)]) (M := MM) (ann := a241) (by kernel_rfl) (by kernel_rfl) (by kernel_rfl) (by kernel_rfl) mix (.cons d277 .nil) (e241 s277)
set_option maxRecDepth 100000 in
theorem e271 (s277 : FS) : S271 s277 = fnF Tryz.prog [(277, s277)] MM Tryz.f271 a271 := by kernel_rfl
theorem d271 : SoundF Tryz.prog 271 s271 := sound_fn (fn := Tryz.f271) (T := [(277, s277)]) (M := MM) (ann := a271) (by kernel_rfl) (by kernel_rfl) (by kernel_rfl) (by kernel_rfl) mix (.cons d277 .nil) (e271 s277)
set_option maxRecDepth 100000 in
theorem e242 (s271 : FS) : S242 s271 = fnF Tryz.prog [(271, s271)] MM Tryz.f242 a242 := by kernel_rfl
theorem d242 : SoundF Tryz.prog 242 s242 := sound_fn (fn := Tryz.f242) (T := [(271, s271)]) (M := MM) (ann := a242) (by kernel_rfl) (by kernel_rfl) (by kernel_rfl) (by kernel_rfl) mix (.cons d271 .nil) (e242 s271)
set_option maxRecDepth 100000 in
theorem e203 (s241 s242 : FS) : S203 s241 s242 = fnF Tryz.prog [(241, s241), (242, s242)] MM Tryz.f203 a203 := by kernel_rfl
theorem d203 : SoundF Tryz.prog 203 s203 := sound_fn (fn := Tryz.f203) (T := [(241, s241), (242, s242)]) (M := MM) (ann := a203) (by kernel_rfl) (by kernel_rfl) (by kernel_rfl) (by kernel_rfl) mix (.cons d241 (.cons d242 .nil)) (e203 s241 s242)
set_option maxRecDepth 100000 in
theorem e118 (s117 : FS) : S118 s117 = fnF Tryz.prog [(117, s117)] MM Tryz.f118 a118 := by kernel_rfl
theorem d118 : SoundF Tryz.prog 118 s118 := sound_fn (fn := Tryz.f118) (T := [(117, s117)]) (M := MM) (ann := a118) (by kernel_rfl) (by kernel_rfl) (by kernel_rfl) (by kernel_rfl) mix (.cons d117 .nil) (e118 s117)
theorem d204 : SoundF Tryz.prog 204 s204 := sound_stub (fn := Tryz.f204) (by kernel_rfl) (by kernel_rfl) (by kernel_rfl)
set_option maxRecDepth 100000 in
theorem e135 (s117 s118 s204 : FS) : S135 s117 s118 s204 = fnF Tryz.prog [(117, s117), (118, s118), (204, s204)] MM Tryz.f135 a135 := by kernel_rfl
theorem d135 : SoundF Tryz.prog 135 s135 := sound_fn (fn := Tryz.f135) (T := [(117, s117), (118, s118), (204, s204)]) (M := MM) (ann := a135) (by kernel_rfl) (by kernel_rfl) (by kernel_rfl) (by kernel_rfl) mix (.cons d117 (.cons d118 (.cons d204 .nil))) (e135 s117 s118 s204)
set_option maxRecDepth 100000 in
theorem e134 (s203 s135 : FS) : S134 s203 s135 = fnF Tryz.prog [(203, s203), (135, s135)] MM Tryz.f134 a134 := by kernel_rfl
theorem d134 : SoundF Tryz.prog 134 s134 := sound_fn (fn := Tryz.f134) (T := [(203, s203), (135, s135)]) (M := MM) (ann := a134) (by kernel_rfl) (by kernel_rfl) (by kernel_rfl) (by kernel_rfl) mix (.cons d203 (.cons d135 .nil)) (e134 s203 s135)
set_option maxRecDepth 100000 in
theorem e68 (s134 s135 : FS) : S68 s134 s135 = fnF Tryz.prog [(134, s134), (135, s135)] MM Tryz.f68 a68 := by kernel_rfl
theorem d68 : SoundF Tryz.prog 68 s68 := sound_fn (fn := Tryz.f68) (T := [(134, s134), (135, s135)]) (M := MM) (ann := a68) (by kernel_rfl) (by kernel_rfl) (by kernel_rfl) (by kernel_rfl) mix (.cons d134 (.cons d135 .nil)) (e68 s134 s135)
set_option maxRecDepth 100000 in
theorem e60 (s117 s68 s118 : FS) : S60 s117 s68 s118 = fnF Tryz.prog [(117, s117), (68, s68), (118, s118)] MM Tryz.f60 a60 := by kernel_rfl
theorem d60 : SoundF Tryz.prog 60 s60 := sound_fn (fn := Tryz.f60) (T := [(117, s117), (68, s68), (118, s118)]) (M := MM) (ann := a60) (by kernel_rfl) (by kernel_rfl) (by kernel_rfl) (by kernel_rfl) mix (.cons d117 (.cons d68 (.cons d118 .nil))) (e60 s117 s68 s118)
set_option maxRecDepth 100000 in
theorem e186 : S186 = fnF Tryz.prog [] MM Tryz.f186 a186 := by kernel_rfl
theorem d186 : SoundF Tryz.prog 186 s186 := sound_fn (fn := Tryz.f186) (T := []) (M := MM) (ann := a186) (by kernel_rfl) (by kernel_rfl) (by kernel_rfl) (by kernel_rfl) mix .nil (e186)
set_option maxRecDepth 100000 in
theorem e185 (s186 : FS) : S185 s186 = fnF Tryz.prog [(186, s186)] MM Tryz.f185 a185 := by kernel_rfl
theorem d185 : SoundF Tryz.prog 185 s185 := sound_fn (fn := Tryz.f185) (T := [(186, s186)]) (M := MM) (ann := a185) (by kernel_rfl) (by kernel_rfl) (by kernel_rfl) (by kernel_rfl) mix (.cons d186 .nil) (e185 s186)
set_option maxRecDepth 100000 in
theorem e139 : S139 = fnF Tryz.prog [] MM Tryz.f139 a139 := by kernel_rfl
theorem d139 : SoundF Tryz.prog 139 s139 := sound_fn (fn := Tryz.f139) (T := []) (M := MM) (ann := a139) (by kernel_rfl) (by kernel_rfl) (by kernel_rfl) (by kernel_rfl) mix .nil (e139)
set_option maxRecDepth 100000 in
theorem e140 (s139 : FS) : S140 s139 = fnF Tryz.prog [(139, s139)] MM Tryz.f140 a140 := by kernel_rfl
theorem d140 : SoundF Tryz.prog 140 s140 := sound_fn (fn := Tryz.f140) (T := [(139, s139)]) (M := MM) (ann := a140) (by kernel_rfl) (by kernel_rfl) (by kernel_rfl) (by kernel_rfl) mix (.cons d139 .nil) (e140 s139)
set_option maxRecDepth 100000 in
theorem e141 : S141 = fnF Tryz.prog [] MM Tryz.f141 a141 := by kernel_rfl
theorem d141 : SoundF Tryz.prog 141 s141 := sound_fn (fn := Tryz.f141) (T := []) (M := MM) (ann := a141) (by kernel_rfl) (by kernel_rfl) (by kernel_rfl) (by kernel_rfl) mix .nil (e141)
set_option maxRecDepth 100000 in
theorem e71 (s117 s140 s139 s141 : FS) : S71 s117 s140 s139 s141 = fnF Tryz.prog [(117, s117), (140, s140), (139, s139), (141, s141)] MM Tryz.f71 a71 := by kernel_rfl
theorem d71 : SoundF Tryz.prog 71 s71 := sound_fn (fn := Tryz.f71) (T := [(117, s117), (140, s140), (139, s139), (141, s141)]) (M := MM) (ann := a71) (by kernel_rfl) (by kernel_rfl) (by kernel_rfl) (by kernel_rfl) mix (.cons d117 (.cons d140 (.cons d139 (.cons d141 .nil)))) (e71 s117 s140 s139 s141)
set_option maxRecDepth 100000 in
theorem e114 (s185 s117 s118 s71 : FS) : S114 s185 s117 s118 s71 = fnF Tryz.prog [(185, s185), (117, s117), (118, s118), (71, s71)] MM Tryz.f114 a114 := by kernel_rfl
theorem d114 : SoundF Tryz.prog 114 s114 := sound_fn (fn := Tryz.f114) (T := [(185, s185), (117, s117), (118, s118), (71, s71)]) (M := MM) (ann := a114) (by kernel_rfl) (by kernel_rfl) (by kernel_rfl) (by kernel_rfl) mix (.cons d185 (.cons d117 (.cons d118 (.cons d71 .nil)))) (e114 s185 s117 s118 s71)
set_option maxRecDepth 100000 in
theorem e119 : S119 = fnF Tryz.prog [] MM Tryz.f119 a119 := by kernel_rfl
theorem d119 : SoundF Tryz.prog 119 s119 := sound_fn (fn := Tryz.f119) (T := []) (M := MM) (ann := a119) (by kernel_rfl) (by kernel_rfl) (by kernel_rfl) (by kernel_rfl) mix .nil (e119)
set_option maxRecDepth 100000 in
theorem e61 (s119 : FS) : S61 s119 = fnF Tryz.prog [(119, s119)] MM Tryz.f61 a61 := by kernel_rfl
theorem d61 : SoundF Tryz.prog 61 s61 := sound_fn (fn := Tryz.f61) (T := [(119, s119)]) (M := MM) (ann := a61) (by kernel_rfl) (by kernel_rfl) (by kernel_rfl) (by kernel_rfl) mix (.cons d119 .nil) (e61 s119)
set_option maxRecDepth 100000 in
theorem e125 (s186 : FS) : S125 s186 = fnF Tryz.prog [(186, s186)] MM Tryz.f125 a125 := by kernel_rfl
theorem d125 : SoundF Tryz.prog 125 s125 := sound_fn (fn := Tryz.f125) (T := [(186, s186)]) (M := MM) (ann := a125) (by kernel_rfl) (by kernel_rfl) (by kernel_rfl) (by kernel_rfl) mix (.cons d186 .nil) (e125 s186)
set_option maxRecDepth 100000 in
theorem e206 (s125 s117 s71 s118 : FS) : S206 s125 s117 s71 s118 = fnF Tryz.prog [(125, s125), (117, s117), (71, s71), (118, s118)] MM Tryz.f206 a206 := by kernel_rfl
theorem d206 : SoundF Tryz.prog 206 s206 := sound_fn (fn := Tryz.f206) (T := [(125, s125), (117, s117), (71, s71), (118, s118)]) (M := MM) (ann := a206) (by kernel_rfl) (by kernel_rfl) (by kernel_rfl) (by kernel_rfl) mix (.cons d125 (.cons d117 (.cons d71 (.cons d118 .nil)))) (e206 s125 s117 s71 s118)
set_option maxRecDepth 100000 in
theorem e192 (s114 s206 : FS) : S192 s114 s206 = fnF Tryz.prog [(114, s114), (206, s206)] MM Tryz.f192 a192 := by kernel_rfl
theorem d192 : SoundF Tryz.prog 192 s192 := sound_fn (fn := Tryz.f192) (T := [(114, s114), (206, s206)]) (M := MM) (ann := a192) (by kernel_rfl) (by kernel_rfl) (by kernel_rfl) (by kernel_rfl) mix (.cons d114 (.cons d206 .nil)) (e192 s114 s206)
set_option maxRecDepth 100000 in
theorem e115 (s192 s111 : FS) : S115 s192 s111 = fnF Tryz.prog [(192, s192), (111, s111)] MM Tryz.f115 a115 := by kernel_rfl
theorem d115 : SoundF Tryz.prog 115 s115 := sound_fn (fn := Tryz.f115) (T := [(192, s192), (111, s111)]) (M := MM) (ann := a115) (by kernel_rfl) (by kernel_rfl) (by kernel_rfl) (by kernel_rfl) mix (.cons d192 (.cons d111 .nil)) (e115 s192 s111)
set_option maxRecDepth 100000 in
theorem e57 (s114 s61 s115 : FS) : S57 s114 s61 s115 = fnF Tryz.prog [(114, s114), (61, s61), (115, s115)] MM Tryz.f57 a57 := by kernel_rfl
theorem d57 : SoundF Tryz.prog 57 s57 := sound_fn (fn := Tryz.f57) (T := [(114, s114), (61, s61), (115, s115)]) (M := MM) (ann := a57) (by kernel_rfl) (by kernel_rfl) (by kernel_rfl) (by kernel_rfl) mix (.cons d114 (.cons d61 (.cons d115 .nil))) (e57 s114 s61 s115)
set_option maxRecDepth 100000 in
theorem e120 : S120 = fnF Tryz.prog [] MM Tryz.f120 a120 := by kernel_rfl
theorem d120 : SoundF Tryz.prog 120 s120 := sound_fn (fn := Tryz.f120) (T := []) (M := MM) (ann := a120) (by kernel_rfl) (by kernel_rfl) (by kernel_rfl) (by kernel_rfl) mix .nil (e120)
set_option maxRecDepth 100000 in
theorem e121 (s120 : FS) : S121 s120 = fnF Tryz.prog [(120, s120)] MM Tryz.f121 a121 := by kernel_rfl
theorem d121 : SoundF Tryz.prog 121 s121 := sound_fn (fn := Tryz.f121) (T := [(120, s120)]) (M := MM) (ann := a121) (by kernel_rfl) (by kernel_rfl) (by kernel_rfl) (by kernel_rfl) mix (.cons d120 .nil) (e121 s120)
set_option maxRecDepth 100000 in
theorem e234 : S234 = fnF Tryz.prog [] MM Tryz.f234 a234 := by kernel_rfl
theorem d234 : SoundF Tryz.prog 234 s234 := sound_fn (fn := Tryz.f234) (T := []) (M := MM) (ann := a234) (by kernel_rfl) (by kernel_rfl) (by kernel_rfl) (by kernel_rfl) mix .nil (e234)
set_option maxRecDepth 100000 in
theorem e193 (s120 s234 : FS) : S193 s120 s234 = fnF Tryz.prog [(120, s120), (234, s234)] MM Tryz.f193 a193 := by kernel_rfl
theorem d193 : SoundF Tryz.prog 193 s193 := sound_fn (fn := Tryz.f193) (T := [(120, s120), (234, s234)]) (M := MM) (ann := a193) (by kernel_rfl) (by kernel_rfl) (by kernel_rfl) (by kernel_rfl) mix (.cons d120 (.cons d234 .nil)) (e193 s120 s234)
theorem d235 : SoundF Tryz.prog 235 s235 := sound_stub (fn := Tryz.f235) (by kernel_rfl) (by kernel_rfl) (by kernel_rfl)
set_option maxRecDepth 100000 in
theorem e194 (s193 s121 s234 s235 : FS) : S194 s193 s121 s234 s235 = fnF Tryz.prog [(193, s193), (121, s121), (234, s234), (235, s235)] MM Tryz.f194 a194 := by kernel_rfl
theorem d194 : SoundF Tryz.prog 194 s194 := sound_fn (fn := Tryz.f194) (T := [(193, s193), (121, s121), (234, s234), (235, s235)]) (M := MM) (ann := a194) (by kernel_rfl) (by kernel_rfl) (by kernel_rfl) (by kernel_rfl) mix (.cons d193 (.cons d121 (.cons d234 (.cons d235 .nil)))) (e194 s193 s121 s234 s235)
set_option maxRecDepth 100000 in
theorem e124 : S124 = fnF Tryz.prog [] MM Tryz.f124 a124 := by kernel_rfl
theorem d124 : SoundF Tryz.prog 124 s124 := sound_fn (fn := Tryz.f124) (T := []) (M := MM) (ann := a124) (by kernel_rfl) (by kernel_rfl) (by kernel_rfl) (by kernel_rfl) mix .nil (e124)
set_option maxRecDepth 100000 in
theorem e122 (s193 s194 s68 s124 : FS) : S122 s193 s194 s68 s124 = fnF Tryz.prog [(193, s193), (194, s194), (68, s68), (124, s124)] MM Tryz.f122 a122 := by kernel_rfl
theorem d122 : SoundF Tryz.prog 122 s122 := sound_fn (fn := Tryz.f122) (T := [(193, s193), (194, s194), (68, s68), (124, s124)]) (M := MM) (ann := a122) (by kernel_rfl) (by kernel_rfl) (by kernel_rfl) (by kernel_rfl) mix (.cons d193 (.cons d194 (.cons d68 (.cons d124 .nil)))) (e122 s193 s194 s68 s124)
set_option maxRecDepth 100000 in
theorem e236 : S236 = fnF Tryz.prog [] MM Tryz.f236 a236 := by kernel_rfl
theorem d236 : SoundF Tryz.prog 236 s236 := sound_fn (fn := Tryz.f236) (T := []) (M := MM) (ann := a236) (by kernel_rfl) (by kernel_rfl) (by kernel_rfl) (by kernel_rfl) mix .nil (e236)
set_option maxRecDepth 100000 in
theorem e195 (s236 : FS) : S195 s236 = fnF Tryz.prog [(236, s236)] MM Tryz.f195 a195 := by kernel_rfl
theorem d195 : SoundF Tryz.prog 195 s195 := sound_fn (fn := Tryz.f195) (T := [(236, s236)]) (M := MM) (ann := a195) (by kernel_rfl) (by kernel_rfl) (by kernel_rfl) (by kernel_rfl) mix (.cons d236 .nil) (e195 s236)
theorem d170 : SoundF Tryz.prog 170 s170 := cpF_sound
set_option maxRecDepth 100000 in
theorem e98 (s169 s170 : FS) : S98 s169 s170 = fnF Tryz.prog [(169, s169), (170, s170)] MM Tryz.f98 a98 := by kernel_rfl
theorem d98 : SoundF Tryz.prog 98 s98 := sound_fn (fn := Tryz.f98) (T := [(169, s169), (170, s170)]) (M := MM) (ann := a98) (by kernel_rfl) (by kernel_rfl) (by kernel_rfl) (by kernel_rfl) mix (.cons d169 (.cons d170 .nil)) (e98 s169 s170)
theorem d272 : SoundF Tryz.prog 272 s272 := sound_stub (fn := Tryz.f272) (by kernel_rfl) (by kernel_rfl) (by kernel_rfl)
set_option maxRecDepth 100000 in
theorem e273 : S273 = fnF Tryz.prog [] MM Tryz.f273 a273 := by kernel_rfl
theorem d273 : SoundF Tryz.prog 273 s273 := sound_fn (fn := Tryz.f273) (T := []) (M := MM) (ann := a273) (by kernel_rfl) (by kernel_rfl) (by kernel_rfl) (by kernel_rfl) mix .nil (e273)
set_option maxRecDepth 100000 in
theorem e333 : S333 = fnF Tryz.prog [] MM Tryz.f333 a333 := by kernel_rfl
theorem d333 : SoundF Tryz.prog 333 s333 := sound_fn (fn := Tryz.f333) (T := []) (M := MM) (ann := a333) (by kernel_rfl) (by kernel_rfl) (by kernel_rfl) (by kernel_rfl) mix .nil (e333)
theorem d334 : SoundF Tryz.prog 334 s334 := sound_stub (fn := Tryz.f334) (by kernel_rfl) (by kernel_rfl) (by kernel_rfl)
set_option maxRecDepth 100000 in
theorem e99 (s333 s334 : FS) : S99 s333 s334 = fnF Tryz.prog [(333, s333), (334, s334)] MM Tryz.f99 a99 := by kernel_rfl
theorem d99 : SoundF Tryz.prog 99 s99 := sound_fn (fn := Tryz.f99) (T := [(333, s333), (334, s334)]) (M := MM) (ann := a99) (by kernel_rfl) (by kernel_rfl) (by kernel_rfl) (by kernel_rfl) mix (.cons d333 (.cons d334 .nil)) (e99 s333 s334)
set_option maxRecDepth 100000 in
theorem e274 : S274 = fnF Tryz.prog [] MM Tryz.f274 a274 := by kernel_rfl
theorem d274 : SoundF Tryz.prog 274 s274 := sound_fn (fn := Tryz.f274) (T := []) (M := MM) (ann := a274) (by kernel_rfl) (by kernel_rfl) (by kernel_rfl) (by kernel_rfl) mix .nil (e274)
set_option maxRecDepth 100000 in
theorem e46 (s99 : FS) : S46 s99 = fnF Tryz.prog [(99, s99)] MM Tryz.f46 a46 := by kernel_rfl
theorem d46 : SoundF Tryz.prog 46 s46 := sound_fn (fn := Tryz.f46) (T := [(99, s99)]) (M := MM) (ann := a46) (by kernel_rfl) (by kernel_rfl) (by kernel_rfl) (by kernel_rfl) mix (.cons d99 .nil) (e46 s99)
set_option maxRecDepth 100000 in
theorem e275 (s99 s46 : FS) : S275 s99 s46 = fnF Tryz.prog [(99, s99), (46, s46)] MM Tryz.f275 a275 := by kernel_rfl
theorem d275 : SoundF Tryz.prog 275 s275 := sound_fn (fn := Tryz.f275) (T := [(99, s99), (46, s46)]) (M := MM) (ann := a275) (by kernel_rfl) (by kernel_rfl) (by kernel_rfl) (by kernel_rfl) mix (.cons d99 (.cons d46 .nil)) (e275 s99 s46)
set_option maxRecDepth 100000 in
theorem e237 (s271 s272 s273 s99 s274 s275 : FS) : S237 s271 s272 s273 s99 s274 s275 = fnF Tryz.prog [(271, s271), (272, s272), (273, s273), (99, s99), (274, s274), (275, s275)] MM Tryz.f237 a237 := by kernel_rfl
theorem d237 : SoundF Tryz.prog 237 s237 := sound_fn (fn := Tryz.f237) (T := [(271, s271), (272, s272), (273, s273), (99, s99), (274, s274), (275, s275)]) (M := MM) (ann := a237) (by kernel_rfl) (by kernel_rfl) (by kernel_rfl) (by kernel_rfl) mix (.cons d271 (.cons d272 (.cons d273 (.cons d99 (.cons d274 (.cons d275 .nil)))))) (e237 s271 s272 s273 s99 s274 s275)
set_option maxRecDepth 100000 in
theorem e197 (s98 s203 s237 : FS) : S197 s98 s203 s237 = fnF Tryz.prog [(98, s98), (203, s203), (237, s237)] MM Tryz.f197 a197 := by kernel_rfl
theorem d197 : SoundF Tryz.prog 197 s197 := sound_fn (fn := Tryz.f197) (T := [(98, s98), (203, s203), (237, s237)]) (M := MM) (ann := a197) (by kernel_rfl) (by kernel_rfl) (by kernel_rfl) (by kernel_rfl) mix (.cons d98 (.cons d203 (.cons d237 .nil))) (e197 s98 s203 s237)
set_option maxRecDepth 100000 in
theorem e133 : S133 = fnF Tryz.prog [] MM Tryz.f133 a133 := by kernel_rfl
theorem d133 : SoundF Tryz.prog 133 s133 := sound_fn (fn := Tryz.f133) (T := []) (M := MM) (ann := a133) (by kernel_rfl) (by kernel_rfl) (by kernel_rfl) (by kernel_rfl) mix .nil (e133)
set_option maxRecDepth 100000 in
theorem e196 (s133 : FS) : S196 s133 = fnF Tryz.prog [(133, s133)] MM Tryz.f196 a196 := by kernel_rfl
theorem d196 : SoundF Tryz.prog 196 s196 := sound_fn (fn := Tryz.f196) (T := [(133, s133)]) (M := MM) (ann := a196) (by kernel_rfl) (by kernel_rfl) (by kernel_rfl) (by kernel_rfl) mix (.cons d133 .nil) (e196 s133)
set_option maxRecDepth 100000 in
theorem e123 (s134 s195 s197 s196 : FS) : S123 s134 s195 s197 s196 = fnF Tryz.prog [(134, s134), (195, s195), (197, s197), (196, s196)] MM Tryz.f123 a123 := by kernel_rfl
theorem d123 : SoundF Tryz.prog 123 s123 := sound_fn (fn := Tryz.f123) (T := [(134, s134), (195, s195), (197, s197), (196, s196)]) (M := MM) (ann := a123) (by kernel_rfl) (by kernel_rfl) (by kernel_rfl) (by kernel_rfl) mix (.cons d134 (.cons d195 (.cons d197 (.cons d196 .nil)))) (e123 s134 s195 s197 s196)
set_option maxRecDepth 100000 in
theorem e62 (s120 s59 s121 s122 s123 s60 s124 : FS) : S62 s120 s59 s121 s122 s123 s60 s124 = fnF Tryz.prog [(120, s120), (59, s59), (121, s121), (122, s122), (123, s123), (60, s60), (124, s124)] MM Tryz.f62 a62 := by kernel_rfl
theorem d62 : SoundF Tryz.prog 62 s62 := sound_fn (fn := Tryz.f62) (T := [(120, s120), (59, s59), (121, s121), (122, s122), (123, s123), (60, s60), (124, s124)]) (M := MM) (ann := a62) (by kernel_rfl) (by kernel_rfl) (by kernel_rfl) (by kernel_rfl) mix (.cons d120 (.cons d59 (.cons d121 (.cons d122 (.cons d123 (.cons d60 (.cons d124 .nil))))))) (e62 s120 s59 s121 s122 s123 s60 s124)
set_option maxRecDepth 100000 in
theorem e199 : S199 = fnF Tryz.prog [] MM Tryz.f199 a199 := by kernel_rfl
theorem d199 : SoundF Tryz.prog 199 s199 := sound_fn (fn := Tryz.f199) (T := []) (M := MM) (ann := a199) (by kernel_rfl) (by kernel_rfl) (by kernel_rfl) (by kernel_rfl) mix .nil (e199)
set_option maxRecDepth 100000 in
theorem e238 (s199 : FS) : S238 s199 = fnF Tryz.prog [(199, s199)] MM Tryz.f238 a238 := by kernel_rfl
theorem d238 : SoundF Tryz.prog 238 s238 := sound_fn (fn := Tryz.f238) (T := [(199, s199)]) (M := MM) (ann := a238) (by kernel_rfl) (by kernel_rfl) (by kernel_rfl) (by kernel_rfl) mix (.cons d199 .nil) (e238 s199)
set_option maxRecDepth 100000 in
theorem e198 (s238 : FS) : S198 s238 = fnF Tryz.prog [(238, s238)] MM Tryz.f198 a198 := by kernel_rfl
theorem d198 : SoundF Tryz.prog 198 s198 := sound_fn (fn := Tryz.f198) (T := [(238, s238)]) (M := MM) (ann := a198) (by kernel_rfl) (by kernel_rfl) (by kernel_rfl) (by kernel_rfl) mix (.cons d238 .nil) (e198 s238)
set_option maxRecDepth 100000 in
theorem e127 (s198 : FS) : S127 s198 = fnF Tryz.prog [(198, s198)] MM Tryz.f127 a127 := by kernel_rfl
theorem d127 : SoundF Tryz.prog 127 s127 := sound_fn (fn := Tryz.f127) (T := [(198, s198)]) (M := MM) (ann := a127) (by kernel_rfl) (by kernel_rfl) (by kernel_rfl) (by kernel_rfl) mix (.cons d198 .nil) (e127 s198)
set_option maxRecDepth 100000 in
theorem e128 : S128 = fnF Tryz.prog [] MM Tryz.f128 a128 := by kernel_rfl
theorem d128 : SoundF Tryz.prog 128 s128 := sound_fn (fn := Tryz.f128) (T := []) (M := MM) (ann := a128) (by kernel_rfl) (by kernel_rfl) (by kernel_rfl) (by kernel_rfl) mix .nil (e128)
set_option maxRecDepth 100000 in
theorem e64 (s127 s128 s119 : FS) : S64 s127 s128 s119 = fnF Tryz.prog [(127, s127), (128, s128), (119, s119)] MM Tryz.f64 a64 := by kernel_rfl
theorem d64 : SoundF Tryz.prog 64 s64 := sound_fn (fn := Tryz.f64) (T := [(127, s127), (128, s128), (119, s119)]) (M := MM) (ann := a64) (by kernel_rfl) (by kernel_rfl) (by kernel_rfl) (by kernel_rfl) mix (.cons d127 (.cons d128 (.cons d119 .nil))) (e64 s127 s128 s119)
set_option maxRecDepth 100000 in
theorem e126 : S126 = fnF Tryz.prog [] MM Tryz.f126 a126 := by kernel_rfl
theorem d126 : SoundF Tryz.prog 126 s126 := sound_fn (fn := Tryz.f126) (T := []) (M := MM) (ann := a126) (by kernel_rfl) (by kernel_rfl) (by kernel_rfl) (by kernel_rfl) mix .nil (e126)
set_option maxRecDepth 100000 in
theorem e88 : S88 = fnF Tryz.prog [] MM Tryz.f88 a88 := by kernel_rfl
theorem d88 : SoundF Tryz.prog 88 s88 := sound_fn (fn := Tryz.f88) (T := []) (M := MM) (ann := a88) (by kernel_rfl) (by kernel_rfl) (by kernel_rfl) (by kernel_rfl) mix .nil (e88)
set_option maxRecDepth 100000 in
theorem e63 (s125 s126 s88 : FS) : S63 s125 s126 s88 = fnF Tryz.prog [(125, s125), (126, s126), (88, s88)] MM Tryz.f63 a63 := by kernel_rfl
theorem d63 : SoundF Tryz.prog 63 s63 := sound_fn (fn := Tryz.f63) (T := [(125, s125), (126, s126), (88, s88)]) (M := MM) (ann := a63) (by kernel_rfl) (by kernel_rfl) (by kernel_rfl) (by kernel_rfl) mix (.cons d125 (.cons d126 (.cons d88 .nil))) (e63 s125 s126 s88)
set_option maxRecDepth 100000 in
theorem e65 : S65 = fnF Tryz.prog [] MM Tryz.f65 a65 := by kernel_rfl
theorem d65 : SoundF Tryz.prog 65 s65 := sound_fn (fn := Tryz.f65) (T := []) (M := MM) (ann := a65) (by kernel_rfl) (by kernel_rfl) (by kernel_rfl) (by kernel_rfl) mix .nil (e65)
set_option maxRecDepth 100000 in
theorem e35 (s54 s55 s56 s58 s59 s60 s57 s61 s62 s64 s63 s65 : FS) : S35 s54 s55 s56 s58 s59 s60 s57 s61 s62 s64 s63 s65 = fnF Tryz.prog [(54, s54), (55, s55), (56, s56), (58, s58), (59, s59), (60, s60), (57, s57), (61, s61), (62, s62), (64, s64), (63, s63), (65, s65)] MM Tryz.f35 a35 := by kernel_rfl
theorem d35 : SoundF Tryz.prog 35 s35 := sound_fn (fn := Tryz.f35) (T := [(54, s54), (55, s55), (56, s56), (58, s58), (59, s59), (60, s60), (57, s57), (61, s61), (62, s62), (64, s64), (63, s63), (65, s65)]) (M := MM) (ann := a35) (by kernel_rfl) (by kernel_rfl) (by kernel_rfl) (by kernel_rfl) mix (.cons d54 (.cons d55 (.cons d56 (.cons d58 (.cons d59 (.cons d60 (.cons d57 (.cons d61 (.cons d62 (.cons d64 (.cons d63 (.cons d65 .nil)))))))))))) (e35 s54 s55 s56 s58 s59 s60 s57 s61 s62 s64 s63 s65)
set_option maxRecDepth 100000 in
theorem e129 (s116 : FS) : S129 s116 = fnF Tryz.prog [(116, s116)] MM Tryz.f129 a129 := by kernel_rfl
theorem d129 : SoundF Tryz.prog 129 s129 := sound_fn (fn := Tryz.f129) (T := [(116, s116)]) (M := MM) (ann := a129) (by kernel_rfl) (by kernel_rfl) (by kernel_rfl) (by kernel_rfl) mix (.cons d116 .nil) (e129 s116)
theorem d132 : SoundF Tryz.prog 132 s132 := sound_stub (fn := Tryz.f132) (by kernel_rfl) (by kernel_rfl) (by kernel_rfl)
set_option maxRecDepth 100000 in
theorem e130 (s132 : FS) : S130 s132 = fnF Tryz.prog [(132, s132)] MM Tryz.f130 a130 := by kernel_rfl
theorem d130 : SoundF Tryz.prog 130 s130 := sound_fn (fn := Tryz.f130) (T := [(132, s132)]) (M := MM) (ann := a130) (by kernel_rfl) (by kernel_rfl) (by kernel_rfl) (by kernel_rfl) mix (.cons d132 .nil) (e130 s132)
theorem d131 : SoundF Tryz.prog 131 s131 := sound_stub (fn := Tryz.f131) (by kernel_rfl) (by kernel_rfl) (by kernel_rfl)
set_option maxRecDepth 100000 in
theorem e66 (s129 s107 s130 s131 s132 s111 : FS) : S66 s129 s107 s130 s131 s132 s111 = fnF Tryz.prog [(129, s129), (107, s107), (130, s130), (131, s131), (132, s132), (111, s111)] MM Tryz.f66 a66 := by kernel_rfl
theorem d66 : SoundF Tryz.prog 66 s66 := sound_fn (fn := Tryz.f66) (T := [(129, s129), (107, s107), (130, s130), (131, s131), (132, s132), (111, s111)]) (M := MM) (ann := a66) (by kernel_rfl) (by kernel_rfl) (by kernel_rfl) (by kernel_rfl) mix (.cons d129 (.cons d107 (.cons d130 (.cons d131 (.cons d132 (.cons d111 .nil)))))) (e66 s129 s107 s130 s131 s132 s111)
set_option maxRecDepth 100000 in
theorem e36 (s66 : FS) : S36 s66 = fnF Tryz.prog [(66, s66)] MM Tryz.f36 a36 := by kernel_rfl
theorem d36 : SoundF Tryz.prog 36 s36 := sound_fn (fn := Tryz.f36) (T := [(66, s66)]) (M := MM) (ann := a36) (by kernel_rfl) (by kernel_rfl) (by kernel_rfl) (by kernel_rfl) mix (.cons d66 .nil) (e36 s66)
set_option maxRecDepth 100000 in
theorem e18 (s33 s34 s35 s36 : FS) : S18 s33 s34 s35 s36 = fnF Tryz.prog [(33, s33), (34, s34), (35, s35), (36, s36)] MM Tryz.f18 a18 := by kernel_rfl
theorem d18 : SoundF Tryz.prog 18 s18 := sound_fn (fn := Tryz.f18) (T := [(33, s33), (34, s34), (35, s35), (36, s36)]) (M := MM) (ann := a18) (by kernel_rfl) (by kernel_rfl) (by kernel_rfl) (by kernel_rfl) mix (.cons d33 (.cons d34 (.cons d35 (.cons d36 .nil)))) (e18 s33 s34 s35 s36)
set_option maxRecDepth 100000 in
theorem e6 (s18 : FS) : S6 s18 = fnF Tryz.prog [(18, s18)] MM Tryz.f6 a6 := by kernel_rfl
theorem d6 : SoundF Tryz.prog 6 s6 := sound_fn (fn := Tryz.f6) (T := [(18, s18)]) (M := MM) (ann := a6) (by kernel_rfl) (by kernel_rfl) (by kernel_rfl) (by kernel_rfl) mix (.cons d18 .nil) (e6 s18)
set_option maxRecDepth 100000 in
theorem e8 : S8 = fnF Tryz.prog [] MM Tryz.f8 a8 := by kernel_rfl
theorem d8 : SoundF Tryz.prog 8 s8 := sound_fn (fn := Tryz.f8) (T := []) (M := MM) (ann := a8) (by kernel_rfl) (by kernel_rfl) (by kernel_rfl) (by kernel_rfl) mix .nil (e8)
set_option maxRecDepth 100000 in
theorem e19 : S19 = fnF Tryz.prog [] MM Tryz.f19 a19 := by kernel_rfl
theorem d19 : SoundF Tryz.prog 19 s19 := sound_fn (fn := Tryz.f19) (T := []) (M := MM) (ann := a19) (by kernel_rfl) (by kernel_rfl) (by kernel_rfl) (by kernel_rfl) mix .nil (e19)
set_option maxRecDepth 100000 in
theorem e67 (s133 : FS) : S67 s133 = fnF Tryz.prog [(133, s133)] MM Tryz.f67 a67 := by kernel_rfl
theorem d67 : SoundF Tryz.prog 67 s67 := sound_fn (fn := Tryz.f67) (T := [(133, s133)]) (M := MM) (ann := a67) (by kernel_rfl) (by kernel_rfl) (by kernel_rfl) (by kernel_rfl) mix (.cons d133 .nil) (e67 s133)
set_option maxRecDepth 100000 in
theorem e136 (s195 : FS) : S136 s195 = fnF Tryz.prog [(195, s195)] MM Tryz.f136 a136 := by kernel_rfl
theorem d136 : SoundF Tryz.prog 136 s136 := sound_fn (fn := Tryz.f136) (T := [(195, s195)]) (M := MM) (ann := a136) (by kernel_rfl) (by kernel_rfl) (by kernel_rfl) (by kernel_rfl) mix (.cons d195 .nil) (e136 s195)
set_option maxRecDepth 100000 in
theorem e69 (s136 : FS) : S69 s136 = fnF Tryz.prog [(136, s136)] MM Tryz.f69 a69 := by kernel_rfl
theorem d69 : SoundF Tryz.prog 69 s69 := sound_fn (fn := Tryz.f69) (T := [(136, s136)]) (M := MM) (ann := a69) (by kernel_rfl) (by kernel_rfl) (by kernel_rfl) (by kernel_rfl) mix (.cons d136 .nil) (e69 s136)
set_option maxRecDepth 100000 in
theorem e137 (s188 : FS) : S137 s188 = fnF Tryz.prog [(188, s188)] MM Tryz.f137 a137 := by kernel_rfl
theorem d137 : SoundF Tryz.prog 137 s137 := sound_fn (fn := Tryz.f137) (T := [(188, s188)]) (M := MM) (ann := a137) (by kernel_rfl) (by kernel_rfl) (by kernel_rfl) (by kernel_rfl) mix (.cons d188 .nil) (e137 s188)
set_option maxRecDepth 100000 in
theorem e138 : S138 = fnF Tryz.prog [] MM Tryz.f138 a138 := by kernel_rfl
theorem d138 : SoundF Tryz.prog 138 s138 := sound_fn (fn := Tryz.f138) (T := []) (M := MM) (ann := a138) (by kernel_rfl) (by kernel_rfl) (by kernel_rfl) (by kernel_rfl) mix .nil (e138)
set_option maxRecDepth 100000 in
theorem e70 (s137 s138 : FS) : S70 s137 s138 = fnF Tryz.prog [(137, s137), (138, s138)] MM Tryz.f70 a70 := by kernel_rfl
theorem d70 : SoundF Tryz.prog 70 s70 := sound_fn (fn := Tryz.f70) (T := [(137, s137), (138, s138)]) (M := MM) (ann := a70) (by kernel_rfl) (by kernel_rfl) (by kernel_rfl) (by kernel_rfl) mix (.cons d137 (.cons d138 .nil)) (e70 s137 s138)
set_option maxRecDepth 100000 in
theorem e37 (s67 s68 s69 s71 s70 : FS) : S37 s67 s68 s69 s71 s70 = fnF Tryz.prog [(67, s67), (68, s68), (69, s69), (71, s71), (70, s70)] MM Tryz.f37 a37 := by kernel_rfl
theorem d37 : SoundF Tryz.prog 37 s37 := sound_fn (fn := Tryz.f37) (T := [(67, s67), (68, s68), (69, s69), (71, s71), (70, s70)]) (M := MM) (ann := a37) (by kernel_rfl) (by kernel_rfl) (by kernel_rfl) (by kernel_rfl) mix (.cons d67 (.cons d68 (.cons d69 (.cons d71 (.cons d70 .nil))))) (e37 s67 s68 s69 s71 s70)
set_option maxRecDepth 100000 in
theorem e20 (s37 : FS) : S20 s37 = fnF Tryz.prog [(37, s37)] MM Tryz.f20 a20 := by kernel_rfl
theorem d20 : SoundF Tryz.prog 20 s20 := sound_fn (fn := Tryz.f20) (T := [(37, s37)]) (M := MM) (ann := a20) (by kernel_rfl) (by kernel_rfl) (by kernel_rfl) (by kernel_rfl) mix (.cons d37 .nil) (e20 s37)
set_option maxRecDepth 100000 in
theorem e9 : S9 = fnF Tryz.prog [] MM Tryz.f9 a9 := by kernel_rfl
theorem d9 : SoundF Tryz.prog 9 s9 := sound_fn (fn := Tryz.f9) (T := []) (M := MM) (ann := a9) (by kernel_rfl) (by kernel_rfl) (by kernel_rfl) (by kernel_rfl) mix .nil (e9)
set_option maxRecDepth 100000 in
theorem e7 (s19 s20 s9 : FS) : S7 s19 s20 s9 = fnF Tryz.prog [(19, s19), (20, s20), (9, s9)] MM Tryz.f7 a7 := by kernel_rfl
theorem d7 : SoundF Tryz.prog 7 s7 := sound_fn (fn := Tryz.f7) (T := [(19, s19), (20, s20), (9, s9)]) (M := MM) (ann := a7) (by kernel_rfl) (by kernel_rfl) (by kernel_rfl) (by kernel_rfl) mix (.cons d19 (.cons d20 (.cons d9 .nil))) (e7 s19 s20 s9)
set_option maxRecDepth 100000 in
theorem e21 : S21 = fnF Tryz.prog [] MM Tryz.f21 a21 := by kernel_rfl
theorem d21 : SoundF Tryz.prog 21 s21 := sound_fn (fn := Tryz.f21) (T := []) (M := MM) (ann := a21) (by kernel_rfl) (by kernel_rfl) (by kernel_rfl) (by kernel_rfl) mix .nil (e21)
set_option maxRecDepth 100000 in
theorem e22 : S22 = fnF Tryz.prog [] MM Tryz.f22 a22 := by kernel_rfl
theorem d22 : SoundF Tryz.prog 22 s22 := sound_fn (fn := Tryz.f22) (T := []) (M := MM) (ann := a22) (by kernel_rfl) (by kernel_rfl) (by kernel_rfl) (by kernel_rfl) mix .nil (e22)
set_option maxRecDepth 100000 in
theorem e39 : S39 = fnF Tryz.prog [] MM Tryz.f39 a39 := by kernel_rfl
theorem d39 : SoundF Tryz.prog 39 s39 := sound_fn (fn := Tryz.f39) (T := []) (M := MM) (ann := a39) (by kernel_rfl) (by kernel_rfl) (by kernel_rfl) (by kernel_rfl) mix .nil (e39)
set_option maxRecDepth 100000 in
theorem e150 : S150 = fnF Tryz.prog [] MM Tryz.f150 a150 := by kernel_rfl
theorem d150 : SoundF Tryz.prog 150 s150 := sound_fn (fn := Tryz.f150) (T := []) (M := MM) (ann := a150) (by kernel_rfl) (by kernel_rfl) (by kernel_rfl) (by kernel_rfl) mix .nil (e150)
end Go.Proofs.YtlannobincnnhaaGreatDoor
