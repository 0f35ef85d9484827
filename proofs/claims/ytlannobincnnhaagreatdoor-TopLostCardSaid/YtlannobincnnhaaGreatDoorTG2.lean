/-
  No claim by itself: the functions do what their texts mean. No condition.
-/
import Derived.Test.YtlannobincnnhaaGreatDoorTG1
namespace Go.Proofs.YtlannobincnnhaaGreatDoor
set_option linter.unusedVariables false
set_option maxRecDepth 100000 in
theorem e145 (s54 : FS) : S145 s54 = fnF Tryz.prog [(54, s54)] MM Tryz.f145 a145 := by kernel_rfl
theorem d145 : SoundF Tryz.prog 145 s145 := sound_fn (fn := Tryz.f145) (T := [(54, s54)]) (M := MM) (ann := a145) (by kernel_rfl) (by kernel_rfl) (by kernel_rfl) (by kernel_rfl) mix (.cons d54 .nil) (e145 s54)
set_option maxRecDepth 100000 in
theorem e152 (s88 s150 s145 : FS) : S152 s88 s150 s145 = fnF Tryz.prog [(88, s88), (150, s150), (145, s145)] MM Tryz.f152 a152 := by kernel_rfl
theorem d152 : SoundF Tryz.prog 152 s152 := sound_fn (fn := Tryz.f152) (T := [(88, s88), (150, s150), (145, s145)]) (M := MM) (ann := a152) (by kernel_rfl) (by kernel_rfl) (by kernel_rfl) (by kernel_rfl) mix (.cons d88 (.cons d150 (.cons d145 .nil))) (e152 s88 s150 s145)
set_option maxRecDepth 100000 in
theorem e79 (s88 s152 : FS) : S79 s88 s152 = fnF Tryz.prog [(88, s88), (152, s152)] MM Tryz.f79 a79 := by kernel_rfl
theorem d79 : SoundF Tryz.prog 79 s79 := sound_fn (fn := Tryz.f79) (T := [(88, s88), (152, s152)]) (M := MM) (ann := a79) (by kernel_rfl) (by kernel_rfl) (by kernel_rfl) (by kernel_rfl) mix (.cons d88 (.cons d152 .nil)) (e79 s88 s152)
set_option maxRecDepth 100000 in
theorem e89 (s79 : FS) : S89 s79 = fnF Tryz.prog [(79, s79)] MM Tryz.f89 a89 := by kernel_rfl
theorem d89 : SoundF Tryz.prog 89 s89 := sound_fn (fn := Tryz.f89) (T := [(79, s79)]) (M := MM) (ann := a89) (by kernel_rfl) (by kernel_rfl) (by kernel_rfl) (by kernel_rfl) mix (.cons d79 .nil) (e89 s79)
set_option maxRecDepth 100000 in
theorem e243 : S243 = fnF Tryz.prog [] MM Tryz.f243 a243 := by kernel_rfl
theorem d243 : SoundF Tryz.prog 243 s243 := sound_fn (fn := Tryz.f243) (T := []) (M := MM) (ann := a243) (by kernel_rfl) (by kernel_rfl) (by kernel_rfl) (by kernel_rfl) mix .nil (e243)
set_option maxRecDepth 100000 in
theorem e207 (s243 : FS) : S207 s243 = fnF Tryz.prog [(243, s243)] MM Tryz.f207 a207 := by kernel_rfl
theorem d207 : SoundF Tryz.prog 207 s207 := sound_fn (fn := Tryz.f207) (T := [(243, s243)]) (M := MM) (ann := a207) (by kernel_rfl) (by kernel_rfl) (by kernel_rfl) (by kernel_rfl) mix (.cons d243 .nil) (e207 s243)
set_option maxRecDepth 100000 in
theorem e90 : S90 = fnF Tryz.prog [] MM Tryz.f90 a90 := by kernel_rfl
theorem d90 : SoundF Tryz.prog 90 s90 := sound_fn (fn := Tryz.f90) (T := []) (M := MM) (ann := a90) (by kernel_rfl) (by kernel_rfl) (by kernel_rfl) (by kernel_rfl) mix .nil (e90)
set_option maxRecDepth 100000 in
theorem e87 (s88 s150 : FS) : S87 s88 s150 = fnF Tryz.prog [(88, s88), (150, s150)] MM Tryz.f87 a87 := by kernel_rfl
theorem d87 : SoundF Tryz.prog 87 s87 := sound_fn (fn := Tryz.f87) (T := [(88, s88), (150, s150)]) (M := MM) (ann := a87) (by kernel_rfl) (by kernel_rfl) (by kernel_rfl) (by kernel_rfl) mix (.cons d88 (.cons d150 .nil)) (e87 s88 s150)
set_option maxRecDepth 100000 in
theorem e77 (s150 s88 s119 : FS) : S77 s150 s88 s119 = fnF Tryz.prog [(150, s150), (88, s88), (119, s119)] MM Tryz.f77 a77 := by kernel_rfl
theorem d77 : SoundF Tryz.prog 77 s77 := sound_fn (fn := Tryz.f77) (T := [(150, s150), (88, s88), (119, s119)]) (M := MM) (ann := a77) (by kernel_rfl) (by kernel_rfl) (by kernel_rfl) (by kernel_rfl) mix (.cons d150 (.cons d88 (.cons d119 .nil))) (e77 s150 s88 s119)
set_option maxRecDepth 100000 in
theorem e210 : S210 = fnF Tryz.prog [] MM Tryz.f210 a210 := by kernel_rfl
theorem d210 : SoundF Tryz.prog 210 s210 := sound_fn (fn := Tryz.f210) (T := []) (M := MM) (ann := a210) (by kernel_rfl) (by kernel_rfl) (by kernel_rfl) (by kernel_rfl) mix .nil (e210)
set_option maxRecDepth 100000 in
theorem e208 (s243 s210 : FS) : S208 s243 s210 = fnF Tryz.prog [(243, s243), (210, s210)] MM Tryz.f208 a208 := by kernel_rfl
theorem d208 : SoundF Tryz.prog 208 s208 := sound_fn (fn := Tryz.f208) (T := [(243, s243), (210, s210)]) (M := MM) (ann := a208) (by kernel_rfl) (by kernel_rfl) (by kernel_rfl) (by kernel_rfl) mix (.cons d243 (.cons d210 .nil)) (e208 s243 s210)
set_option maxRecDepth 100000 in
theorem e153 (s207 s150 s126 s90 s87 s77 s208 : FS) : S153 s207 s150 s126 s90 s87 s77 s208 = fnF Tryz.prog [(207, s207), (150, s150), (126, s126), (90, s90), (87, s87), (77, s77), (208, s208)] MM Tryz.f153 a153 := by kernel_rfl
theorem d153 : SoundF Tryz.prog 153 s153 := sound_fn (fn := Tryz.f153) (T := [(207, s207), (150, s150), (126, s126), (90, s90), (87, s87), (77, s77), (208, s208)]) (M := MM) (ann := a153) (by kernel_rfl) (by kernel_rfl) (by kernel_rfl) (by kernel_rfl) mix (.cons d207 (.cons d150 (.cons d126 (.cons d90 (.cons d87 (.cons d77 (.cons d208 .nil))))))) (e153 s207 s150 s126 s90 s87 s77 s208)
set_option maxRecDepth 100000 in
theorem e80 (s89 s153 : FS) : S80 s89 s153 = fnF Tryz.prog [(89, s89), (153, s153)] MM Tryz.f80 a80 := by kernel_rfl
theorem d80 : SoundF Tryz.prog 80 s80 := sound_fn (fn := Tryz.f80) (T := [(89, s89), (153, s153)]) (M := MM) (ann := a80) (by kernel_rfl) (by kernel_rfl) (by kernel_rfl) (by kernel_rfl) mix (.cons d89 (.cons d153 .nil)) (e80 s89 s153)
set_option maxRecDepth 100000 in
theorem e209 : S209 = fnF Tryz.prog [] MM Tryz.f209 a209 := by kernel_rfl
theorem d209 : SoundF Tryz.prog 209 s209 := sound_fn (fn := Tryz.f209) (T := []) (M := MM) (ann := a209) (by kernel_rfl) (by kernel_rfl) (by kernel_rfl) (by kernel_rfl) mix .nil (e209)
set_option maxRecDepth 100000 in
theorem e154 (s209 : FS) : S154 s209 = fnF Tryz.prog [(209, s209)] MM Tryz.f154 a154 := by kernel_rfl
theorem d154 : SoundF Tryz.prog 154 s154 := sound_fn (fn := Tryz.f154) (T := [(209, s209)]) (M := MM) (ann := a154) (by kernel_rfl) (by kernel_rfl) (by kernel_rfl) (by kernel_rfl) mix (.cons d209 .nil) (e154 s209)
set_option maxRecDepth 100000 in
theorem e81 (s154 : FS) : S81 s154 = fnF Tryz.prog [(154, s154)] MM Tryz.f81 a81 := by kernel_rfl
theorem d81 : SoundF Tryz.prog 81 s81 := sound_fn (fn := Tryz.f81) (T := [(154, s154)]) (M := MM) (ann := a81) (by kernel_rfl) (by kernel_rfl) (by kernel_rfl) (by kernel_rfl) mix (.cons d154 .nil) (e81 s154)
set_option maxRecDepth 100000 in
theorem e82 : S82 = fnF Tryz.prog [] MM Tryz.f82 a82 := by kernel_rfl
theorem d82 : SoundF Tryz.prog 82 s82 := sound_fn (fn := Tryz.f82) (T := []) (M := MM) (ann := a82) (by kernel_rfl) (by kernel_rfl) (by kernel_rfl) (by kernel_rfl) mix .nil (e82)
set_option maxRecDepth 100000 in
theorem e155 : S155 = fnF Tryz.prog [] MM Tryz.f155 a155 := by kernel_rfl
theorem d155 : SoundF Tryz.prog 155 s155 := sound_fn (fn := Tryz.f155) (T := []) (M := MM) (ann := a155) (by kernel_rfl) (by kernel_rfl) (by kernel_rfl) (by kernel_rfl) mix .nil (e155)
set_option maxRecDepth 100000 in
theorem e83 (s54 s155 : FS) : S83 s54 s155 = fnF Tryz.prog [(54, s54), (155, s155)] MM Tryz.f83 a83 := by kernel_rfl
theorem d83 : SoundF Tryz.prog 83 s83 := sound_fn (fn := Tryz.f83) (T := [(54, s54), (155, s155)]) (M := MM) (ann := a83) (by kernel_rfl) (by kernel_rfl) (by kernel_rfl) (by kernel_rfl) mix (.cons d54 (.cons d155 .nil)) (e83 s54 s155)
set_option maxRecDepth 100000 in
theorem e156 (s81 : FS) : S156 s81 = fnF Tryz.prog [(81, s81)] MM Tryz.f156 a156 := by kernel_rfl
theorem d156 : SoundF Tryz.prog 156 s156 := sound_fn (fn := Tryz.f156) (T := [(81, s81)]) (M := MM) (ann := a156) (by kernel_rfl) (by kernel_rfl) (by kernel_rfl) (by kernel_rfl) mix (.cons d81 .nil) (e156 s81)
set_option maxRecDepth 100000 in
theorem e84 (s156 : FS) : S84 s156 = fnF Tryz.prog [(156, s156)] MM Tryz.f84 a84 := by kernel_rfl
theorem d84 : SoundF Tryz.prog 84 s84 := sound_fn (fn := Tryz.f84) (T := [(156, s156)]) (M := MM) (ann := a84) (by kernel_rfl) (by kernel_rfl) (by kernel_rfl) (by kernel_rfl) mix (.cons d156 .nil) (e84 s156)
set_option maxRecDepth 100000 in
theorem e157 (s81 s54 : FS) : S157 s81 s54 = fnF Tryz.prog [(81, s81), (54, s54)] MM Tryz.f157 a157 := by kernel_rfl
theorem d157 : SoundF Tryz.prog 157 s157 := sound_fn (fn := Tryz.f157) (T := [(81, s81), (54, s54)]) (M := MM) (ann := a157) (by kernel_rfl) (by kernel_rfl) (by kernel_rfl) (by kernel_rfl) mix (.cons d81 (.cons d54 .nil)) (e157 s81 s54)
set_option maxRecDepth 100000 in
theorem e85 (s157 : FS) : S85 s157 = fnF Tryz.prog [(157, s157)] MM Tryz.f85 a85 := by kernel_rfl
theorem d85 : SoundF Tryz.prog 85 s85 := sound_fn (fn := Tryz.f85) (T := [(157, s157)]) (M := MM) (ann := a85) (by kernel_rfl) (by kernel_rfl) (by kernel_rfl) (by kernel_rfl) mix (.cons d157 .nil) (e85 s157)
set_option maxRecDepth 100000 in
theorem e158 (s210 : FS) : S158 s210 = fnF Tryz.prog [(210, s210)] MM Tryz.f158 a158 := by kernel_rfl
theorem d158 : SoundF Tryz.prog 158 s158 := sound_fn (fn := Tryz.f158) (T := [(210, s210)]) (M := MM) (ann := a158) (by kernel_rfl) (by kernel_rfl) (by kernel_rfl) (by kernel_rfl) mix (.cons d210 .nil) (e158 s210)
set_option maxRecDepth 100000 in
theorem e214 (s87 : FS) : S214 s87 = fnF Tryz.prog [(87, s87)] MM Tryz.f214 a214 := by kernel_rfl
theorem d214 : SoundF Tryz.prog 214 s214 := sound_fn (fn := Tryz.f214) (T := [(87, s87)]) (M := MM) (ann := a214) (by kernel_rfl) (by kernel_rfl) (by kernel_rfl) (by kernel_rfl) mix (.cons d87 .nil) (e214 s87)
set_option maxRecDepth 100000 in
theorem e212 (s88 s128 s214 s150 s87 : FS) : S212 s88 s128 s214 s150 s87 = fnF Tryz.prog [(88, s88), (128, s128), (214, s214), (150, s150), (87, s87)] MM Tryz.f212 a212 := by kernel_rfl
theorem d212 : SoundF Tryz.prog 212 s212 := sound_fn (fn := Tryz.f212) (T := [(88, s88), (128, s128), (214, s214), (150, s150), (87, s87)]) (M := MM) (ann := a212) (by kernel_rfl) (by kernel_rfl) (by kernel_rfl) (by kernel_rfl) mix (.cons d88 (.cons d128 (.cons d214 (.cons d150 (.cons d87 .nil))))) (e212 s88 s128 s214 s150 s87)
set_option maxRecDepth 100000 in
theorem e211 : S211 = fnF Tryz.prog [] MM Tryz.f211 a211 := by kernel_rfl
theorem d211 : SoundF Tryz.prog 211 s211 := sound_fn (fn := Tryz.f211) (T := []) (M := MM) (ann := a211) (by kernel_rfl) (by kernel_rfl) (by kernel_rfl) (by kernel_rfl) mix .nil (e211)
set_option maxRecDepth 100000 in
theorem e159 (s88 s212 s211 : FS) : S159 s88 s212 s211 = fnF Tryz.prog [(88, s88), (212, s212), (211, s211)] MM Tryz.f159 a159 := by kernel_rfl
theorem d159 : SoundF Tryz.prog 159 s159 := sound_fn (fn := Tryz.f159) (T := [(88, s88), (212, s212), (211, s211)]) (M := MM) (ann := a159) (by kernel_rfl) (by kernel_rfl) (by kernel_rfl) (by kernel_rfl) mix (.cons d88 (.cons d212 (.cons d211 .nil))) (e159 s88 s212 s211)
set_option maxRecDepth 100000 in
theorem e310 : S310 = fnF Tryz.prog [] MM Tryz.f310 a310 := by kernel_rfl
theorem d310 : SoundF Tryz.prog 310 s310 := sound_fn (fn := Tryz.f310) (T := []) (M := MM) (ann := a310) (by kernel_rfl) (by kernel_rfl) (by kernel_rfl) (by kernel_rfl) mix .nil (e310)
set_option maxRecDepth 100000 in
theorem e304 (s310 : FS) : S304 s310 = fnF Tryz.prog [(310, s310)] MM Tryz.f304 a304 := by kernel_rfl
theorem d304 : SoundF Tryz.prog 304 s304 := sound_fn (fn := Tryz.f304) (T := [(310, s310)]) (M := MM) (ann := a304) (by kernel_rfl) (by kernel_rfl) (by kernel_rfl) (by kernel_rfl) mix (.cons d310 .nil) (e304 s310)
set_option maxRecDepth 100000 in
theorem e298 (s304 : FS) : S298 s304 = fnF Tryz.prog [(304, s304)] MM Tryz.f298 a298 := by kernel_rfl
theorem d298 : SoundF Tryz.prog 298 s298 := sound_fn (fn := Tryz.f298) (T := [(304, s304)]) (M := MM) (ann := a298) (by kernel_rfl) (by kernel_rfl) (by kernel_rfl) (by kernel_rfl) mix (.cons d304 .nil) (e298 s304)
theorem d299 : SoundF Tryz.prog 299 s299 := sound_stub (fn := Tryz.f299) (by kernel_rfl) (by kernel_rfl) (by kernel_rfl)
theorem d300 : SoundF Tryz.prog 300 s300 := sound_stub (fn := Tryz.f300) (by kernel_rfl) (by kernel_rfl) (by kernel_rfl)
theorem d301 : SoundF Tryz.prog 301 s301 := sound_stub (fn := Tryz.f301) (by kernel_rfl) (by kernel_rfl) (by kernel_rfl)
theorem d302 : SoundF Tryz.prog 302 s302 := sound_stub (fn := Tryz.f302) (by kernel_rfl) (by kernel_rfl) (by kernel_rfl)
theorem d303 : SoundF Tryz.prog 303 s303 := sound_stub (fn := Tryz.f303) (by kernel_rfl) (by kernel_rfl) (by kernel_rfl)
theorem d305 : SoundF Tryz.prog 305 s305 := sound_stub (fn := Tryz.f305) (by kernel_rfl) (by kernel_rfl) (by kernel_rfl)
theorem d306 : SoundF Tryz.prog 306 s306 := sound_stub (fn := Tryz.f306) (by kernel_rfl) (by kernel_rfl) (by kernel_rfl)
set_option maxRecDepth 100000 in
theorem e295 (s298 s299 s300 s301 s302 s303 s304 s305 s306 s295 : FS) : S295 s298 s299 s300 s301 s302 s303 s304 s305 s306 s295 = fnF Tryz.prog [(298, s298), (299, s299), (300, s300), (301, s301), (302, s302), (303, s303), (304, s304), (305, s305), (306, s306), (295, s295)] MM Tryz.f295 a295 := by kernel_rfl
theorem d295 : SoundF Tryz.prog 295 s295 := sound_fn (fn := Tryz.f295) (T := [(298, s298), (299, s299), (300, s300), (301, s301), (302, s302), (303, s303), (304, s304), (305, s305), (306, s306), (295, sx)]) (M := MM) (ann := a295) (by kernel_rfl) (by kernel_rfl) (by kernel_rfl) (by kernel_rfl) mix (.cons d298 (.cons d299 (.cons d300 (.cons d301 (.cons d302 (.cons d303 (.cons d304 (.cons d305 (.cons d306 (.cons (sound_stub (fn := Tryz.f295) (by kernel_rfl) (by kernel_rfl) (by kernel_rfl)) .nil)))))))))) (e295 s298 s299 s300 s301 s302 s303 s304 s305 s306 sx)
set_option maxRecDepth 100000 in
theorem e278 (s233 s295 : FS) : S278 s233 s295 = fnF Tryz.prog [(233, s233), (295, s295)] MM Tryz.f278 a278 := by kernel_rfl
theorem d278 : SoundF Tryz.prog 278 s278 := sound_fn (fn := Tryz.f278) (T := [(233, s233), (295, s295)]) (M := MM) (ann := a278) (by kernel_rfl) (by kernel_rfl) (by kernel_rfl) (by kernel_rfl) mix (.cons d233 (.cons d295 .nil)) (e278 s233 s295)
set_option maxRecDepth 100000 in
theorem e244 (s54 s278 : FS) : S244 s54 s278 = fnF Tryz.prog [(54, s54), (278, s278)] MM Tryz.f244 a244 := by kernel_rfl
theorem d244 : SoundF Tryz.prog 244 s244 := sound_fn (fn := Tryz.f244) (T := [(54, s54), (278, s278)]) (M := MM) (ann := a244) (by kernel_rfl) (by kernel_rfl) (by kernel_rfl) (by kernel_rfl) mix (.cons d54 (.cons d278 .nil)) (e244 s54 s278)
set_option maxRecDepth 100000 in
theorem e213 (s243 s244 : FS) : S213 s243 s244 = fnF Tryz.prog [(243, s243), (244, s244)] MM Tryz.f213 a213 := by kernel_rfl
theorem d213 : SoundF Tryz.prog 213 s213 := sound_fn (fn := Tryz.f213) (T := [(243, s243), (244, s244)]) (M := MM) (ann := a213) (by kernel_rfl) (by kernel_rfl) (by kernel_rfl) (by kernel_rfl) mix (.cons d243 (.cons d244 .nil)) (e213 s243 s244)
set_option maxRecDepth 100000 in
theorem e160 (s79 s88 s213 s214 s81 : FS) : S160 s79 s88 s213 s214 s81 = fnF Tryz.prog [(79, s79), (88, s88), (213, s213), (214, s214), (81, s81)] MM Tryz.f160 a160 := by kernel_rfl
theorem d160 : SoundF Tryz.prog 160 s160 := sound_fn (fn := Tryz.f160) (T := [(79, s79), (88, s88), (213, s213), (214, s214), (81, s81)]) (M := MM) (ann := a160) (by kernel_rfl) (by kernel_rfl) (by kernel_rfl) (by kernel_rfl) mix (.cons d79 (.cons d88 (.cons d213 (.cons d214 (.cons d81 .nil))))) (e160 s79 s88 s213 s214 s81)
set_option maxRecDepth 100000 in
theorem e86 (s88 s158 s150 s77 s159 s160 s80 : FS) : S86 s88 s158 s150 s77 s159 s160 s80 = fnF Tryz.prog [(88, s88), (158, s158), (150, s150), (77, s77), (159, s159), (160, s160), (80, s80)] MM Tryz.f86 a86 := by kernel_rfl
theorem d86 : SoundF Tryz.prog 86 s86 := sound_fn (fn := Tryz.f86) (T := [(88, s88), (158, s158), (150, s150), (77, s77), (159, s159), (160, s160), (80, s80)]) (M := MM) (ann := a86) (by kernel_rfl) (by kernel_rfl) (by kernel_rfl) (by kernel_rfl) mix (.cons d88 (.cons d158 (.cons d150 (.cons d77 (.cons d159 (.cons d160 (.cons d80 .nil))))))) (e86 s88 s158 s150 s77 s159 s160 s80)
set_option maxRecDepth 100000 in
theorem e91 : S91 = fnF Tryz.prog [] MM Tryz.f91 a91 := by kernel_rfl
theorem d91 : SoundF Tryz.prog 91 s91 := sound_fn (fn := Tryz.f91) (T := []) (M := MM) (ann := a91) (by kernel_rfl) (by kernel_rfl) (by kernel_rfl) (by kernel_rfl) mix .nil (e91)
set_option maxRecDepth 100000 in
theorem e41 (s79 s80 s81 s82 s83 s84 s85 s86 s88 s87 s89 s90 s91 : FS) : S41 s79 s80 s81 s82 s83 s84 s85 s86 s88 s87 s89 s90 s91 = fnF Tryz.prog [(79, s79), (80, s80), (81, s81), (82, s82), (83, s83), (84, s84), (85, s85), (86, s86), (88, s88), (87, s87), (89, s89), (90, s90), (91, s91)] MM Tryz.f41 a41 := by kernel_rfl
theorem d41 : SoundF Tryz.prog 41 s41 := sound_fn (fn := Tryz.f41) (T := [(79, s79), (80, s80), (81, s81), (82, s82), (83, s83), (84, s84), (85, s85), (86, s86), (88, s88), (87, s87), (89, s89), (90, s90), (91, s91)]) (M := MM) (ann := a41) (by kernel_rfl) (by kernel_rfl) (by kernel_rfl) (by kernel_rfl) mix (.cons d79 (.cons d80 (.cons d81 (.cons d82 (.cons d83 (.cons d84 (.cons d85 (.cons d86 (.cons d88 (.cons d87 (.cons d89 (.cons d90 (.cons d91 .nil))))))))))))) (e41 s79 s80 s81 s82 s83 s84 s85 s86 s88 s87 s89 s90 s91)
set_option maxRecDepth 100000 in
theorem e147 : S147 = fnF Tryz.prog [] MM Tryz.f147 a147 := by kernel_rfl
theorem d147 : SoundF Tryz.prog 147 s147 := sound_fn (fn := Tryz.f147) (T := []) (M := MM) (ann := a147) (by kernel_rfl) (by kernel_rfl) (by kernel_rfl) (by kernel_rfl) mix .nil (e147)
set_option maxRecDepth 100000 in
theorem e205 (s115 s137 : FS) : S205 s115 s137 = fnF Tryz.prog [(115, s115), (137, s137)] MM Tryz.f205 a205 := by kernel_rfl
theorem d205 : SoundF Tryz.prog 205 s205 := sound_fn (fn := Tryz.f205) (T := [(115, s115), (137, s137)]) (M := MM) (ann := a205) (by kernel_rfl) (by kernel_rfl) (by kernel_rfl) (by kernel_rfl) mix (.cons d115 (.cons d137 .nil)) (e205 s115 s137)
set_option maxRecDepth 100000 in
theorem e146 (s125 s61 s206 s205 : FS) : S146 s125 s61 s206 s205 = fnF Tryz.prog [(125, s125), (61, s61), (206, s206), (205, s205)] MM Tryz.f146 a146 := by kernel_rfl
theorem d146 : SoundF Tryz.prog 146 s146 := sound_fn (fn := Tryz.f146) (T := [(125, s125), (61, s61), (206, s206), (205, s205)]) (M := MM) (ann := a146) (by kernel_rfl) (by kernel_rfl) (by kernel_rfl) (by kernel_rfl) mix (.cons d125 (.cons d61 (.cons d206 (.cons d205 .nil)))) (e146 s125 s61 s206 s205)
set_option maxRecDepth 100000 in
theorem e76 : S76 = fnF Tryz.prog [] MM Tryz.f76 a76 := by kernel_rfl
theorem d76 : SoundF Tryz.prog 76 s76 := sound_fn (fn := Tryz.f76) (T := []) (M := MM) (ann := a76) (by kernel_rfl) (by kernel_rfl) (by kernel_rfl) (by kernel_rfl) mix .nil (e76)
set_option maxRecDepth 100000 in
theorem e148 (s61 s125 s206 s205 : FS) : S148 s61 s125 s206 s205 = fnF Tryz.prog [(61, s61), (125, s125), (206, s206), (205, s205)] MM Tryz.f148 a148 := by kernel_rfl
theorem d148 : SoundF Tryz.prog 148 s148 := sound_fn (fn := Tryz.f148) (T := [(61, s61), (125, s125), (206, s206), (205, s205)]) (M := MM) (ann := a148) (by kernel_rfl) (by kernel_rfl) (by kernel_rfl) (by kernel_rfl) mix (.cons d61 (.cons d125 (.cons d206 (.cons d205 .nil)))) (e148 s61 s125 s206 s205)
set_option maxRecDepth 100000 in
theorem e149 (s138 : FS) : S149 s138 = fnF Tryz.prog [(138, s138)] MM Tryz.f149 a149 := by kernel_rfl
theorem d149 : SoundF Tryz.prog 149 s149 := sound_fn (fn := Tryz.f149) (T := [(138, s138)]) (M := MM) (ann := a149) (by kernel_rfl) (by kernel_rfl) (by kernel_rfl) (by kernel_rfl) mix (.cons d138 .nil) (e149 s138)
set_option maxRecDepth 100000 in
theorem e74 (s147 s146 s76 s126 s57 s65 s62 s77 s148 s149 : FS) : S74 s147 s146 s76 s126 s57 s65 s62 s77 s148 s149 = fnF Tryz.prog [(147, s147), (146, s146), (76, s76), (126, s126), (57, s57), (65, s65), (62, s62), (77, s77), (148, s148), (149, s149)] MM Tryz.f74 a74 := by kernel_rfl
theorem d74 : SoundF Tryz.prog 74 s74 := sound_fn (fn := Tryz.f74) (T := [(147, s147), (146, s146), (76, s76), (126, s126), (57, s57), (65, s65), (62, s62), (77, s77), (148, s148), (149, s149)]) (M := MM) (ann := a74) (by kernel_rfl) (by kernel_rfl) (by kernel_rfl) (by kernel_rfl) mix (.cons d147 (.cons d146 (.cons d76 (.cons d126 (.cons d57 (.cons d65 (.cons d62 (.cons d77 (.cons d148 (.cons d149 .nil)))))))))) (e74 s147 s146 s76 s126 s57 s65 s62 s77 s148 s149)
set_option maxRecDepth 100000 in
theorem e75 : S75 = fnF Tryz.prog [] MM Tryz.f75 a75 := by kernel_rfl
theorem d75 : SoundF Tryz.prog 75 s75 := sound_fn (fn := Tryz.f75) (T := []) (M := MM) (ann := a75) (by kernel_rfl) (by kernel_rfl) (by kernel_rfl) (by kernel_rfl) mix .nil (e75)
set_option maxRecDepth 100000 in
theorem e151 (s133 : FS) : S151 s133 = fnF Tryz.prog [(133, s133)] MM Tryz.f151 a151 := by kernel_rfl
theorem d151 : SoundF Tryz.prog 151 s151 := sound_fn (fn := Tryz.f151) (T := [(133, s133)]) (M := MM) (ann := a151) (by kernel_rfl) (by kernel_rfl) (by kernel_rfl) (by kernel_rfl) mix (.cons d133 .nil) (e151 s133)
set_option maxRecDepth 100000 in
theorem e78 (s122 s123 s151 : FS) : S78 s122 s123 s151 = fnF Tryz.prog [(122, s122), (123, s123), (151, s151)] MM Tryz.f78 a78 := by kernel_rfl
theorem d78 : SoundF Tryz.prog 78 s78 := sound_fn (fn := Tryz.f78) (T := [(122, s122), (123, s123), (151, s151)]) (M := MM) (ann := a78) (by kernel_rfl) (by kernel_rfl) (by kernel_rfl) (by kernel_rfl) mix (.cons d122 (.cons d123 (.cons d151 .nil))) (e78 s122 s123 s151)
set_option maxRecDepth 100000 in
theorem e40 (s74 s65 s75 s76 s77 s78 : FS) : S40 s74 s65 s75 s76 s77 s78 = fnF Tryz.prog [(74, s74), (65, s65), (75, s75), (76, s76), (77, s77), (78, s78)] MM Tryz.f40 a40 := by kernel_rfl
theorem d40 : SoundF Tryz.prog 40 s40 := sound_fn (fn := Tryz.f40) (T := [(74, s74), (65, s65), (75, s75), (76, s76), (77, s77), (78, s78)]) (M := MM) (ann := a40) (by kernel_rfl) (by kernel_rfl) (by kernel_rfl) (by kernel_rfl) mix (.cons d74 (.cons d65 (.cons d75 (.cons d76 (.cons d77 (.cons d78 .nil)))))) (e40 s74 s65 s75 s76 s77 s78)
set_option maxRecDepth 100000 in
theorem e24 (s39 s41 s40 : FS) : S24 s39 s41 s40 = fnF Tryz.prog [(39, s39), (41, s41), (40, s40)] MM Tryz.f24 a24 := by kernel_rfl
theorem d24 : SoundF Tryz.prog 24 s24 := sound_fn (fn := Tryz.f24) (T := [(39, s39), (41, s41), (40, s40)]) (M := MM) (ann := a24) (by kernel_rfl) (by kernel_rfl) (by kernel_rfl) (by kernel_rfl) mix (.cons d39 (.cons d41 (.cons d40 .nil))) (e24 s39 s41 s40)
set_option maxRecDepth 100000 in
theorem e142 : S142 = fnF Tryz.prog [] MM Tryz.f142 a142 := by kernel_rfl
theorem d142 : SoundF Tryz.prog 142 s142 := sound_fn (fn := Tryz.f142) (T := []) (M := MM) (ann := a142) (by kernel_rfl) (by kernel_rfl) (by kernel_rfl) (by kernel_rfl) mix .nil (e142)
set_option maxRecDepth 100000 in
theorem e143 : S143 = fnF Tryz.prog [] MM Tryz.f143 a143 := by kernel_rfl
theorem d143 : SoundF Tryz.prog 143 s143 := sound_fn (fn := Tryz.f143) (T := []) (M := MM) (ann := a143) (by kernel_rfl) (by kernel_rfl) (by kernel_rfl) (by kernel_rfl) mix .nil (e143)
set_option maxRecDepth 100000 in
theorem e144 (s125 : FS) : S144 s125 = fnF Tryz.prog [(125, s125)] MM Tryz.f144 a144 := by kernel_rfl
theorem d144 : SoundF Tryz.prog 144 s144 := sound_fn (fn := Tryz.f144) (T := [(125, s125)]) (M := MM) (ann := a144) (by kernel_rfl) (by kernel_rfl) (by kernel_rfl) (by kernel_rfl) mix (.cons d125 .nil) (e144 s125)
set_option maxRecDepth 100000 in
theorem e72 (s142 s143 s144 s145 s114 : FS) : S72 s142 s143 s144 s145 s114 = fnF Tryz.prog [(142, s142), (143, s143), (144, s144), (145, s145), (114, s114)] MM Tryz.f72 a72 := by kernel_rfl
theorem d72 : SoundF Tryz.prog 72 s72 := sound_fn (fn := Tryz.f72) (T := [(142, s142), (143, s143), (144, s144), (145, s145), (114, s114)]) (M := MM) (ann := a72) (by kernel_rfl) (by kernel_rfl) (by kernel_rfl) (by kernel_rfl) mix (.cons d142 (.cons d143 (.cons d144 (.cons d145 (.cons d114 .nil))))) (e72 s142 s143 s144 s145 s114)
set_option maxRecDepth 100000 in
theorem e73 (s119 : FS) : S73 s119 = fnF Tryz.prog [(119, s119)] MM Tryz.f73 a73 := by kernel_rfl
theorem d73 : SoundF Tryz.prog 73 s73 := sound_fn (fn := Tryz.f73) (T := [(119, s119)]) (M := MM) (ann := a73) (by kernel_rfl) (by kernel_rfl) (by kernel_rfl) (by kernel_rfl) mix (.cons d119 .nil) (e73 s119)
set_option maxRecDepth 100000 in
theorem e38 (s72 s73 : FS) : S38 s72 s73 = fnF Tryz.prog [(72, s72), (73, s73)] MM Tryz.f38 a38 := by kernel_rfl
theorem d38 : SoundF Tryz.prog 38 s38 := sound_fn (fn := Tryz.f38) (T := [(72, s72), (73, s73)]) (M := MM) (ann := a38) (by kernel_rfl) (by kernel_rfl) (by kernel_rfl) (by kernel_rfl) mix (.cons d72 (.cons d73 .nil)) (e38 s72 s73)
set_option maxRecDepth 100000 in
theorem e23 (s38 : FS) : S23 s38 = fnF Tryz.prog [(38, s38)] MM Tryz.f23 a23 := by kernel_rfl
theorem d23 : SoundF Tryz.prog 23 s23 := sound_fn (fn := Tryz.f23) (T := [(38, s38)]) (M := MM) (ann := a23) (by kernel_rfl) (by kernel_rfl) (by kernel_rfl) (by kernel_rfl) mix (.cons d38 .nil) (e23 s38)
set_option maxRecDepth 100000 in
theorem e10 (s21 s22 s24 s23 : FS) : S10 s21 s22 s24 s23 = fnF Tryz.prog [(21, s21), (22, s22), (24, s24), (23, s23)] MM Tryz.f10 a10 := by kernel_rfl
theorem d10 : SoundF Tryz.prog 10 s10 := sound_fn (fn := Tryz.f10) (T := [(21, s21), (22, s22), (24, s24), (23, s23)]) (M := MM) (ann := a10) (by kernel_rfl) (by kernel_rfl) (by kernel_rfl) (by kernel_rfl) mix (.cons d21 (.cons d22 (.cons d24 (.cons d23 .nil)))) (e10 s21 s22 s24 s23)
set_option maxRecDepth 100000 in
theorem e11 : S11 = fnF Tryz.prog [] MM Tryz.f11 a11 := by kernel_rfl
theorem d11 : SoundF Tryz.prog 11 s11 := sound_fn (fn := Tryz.f11) (T := []) (M := MM) (ann := a11) (by kernel_rfl) (by kernel_rfl) (by kernel_rfl) (by kernel_rfl) mix .nil (e11)
set_option maxRecDepth 100000 in
theorem e12 : S12 = fnF Tryz.prog [] MM Tryz.f12 a12 := by kernel_rfl
theorem d12 : SoundF Tryz.prog 12 s12 := sound_fn (fn := Tryz.f12) (T := []) (M := MM) (ann := a12) (by kernel_rfl) (by kernel_rfl) (by kernel_rfl) (by kernel_rfl) mix .nil (e12)
set_option maxRecDepth 100000 in
theorem e25 : S25 = fnF Tryz.prog [] MM Tryz.f25 a25 := by kernel_rfl
theorem d25 : SoundF Tryz.prog 25 s25 := sound_fn (fn := Tryz.f25) (T := []) (M := MM) (ann := a25) (by kernel_rfl) (by kernel_rfl) (by kernel_rfl) (by kernel_rfl) mix .nil (e25)
set_option maxRecDepth 100000 in
theorem e13 (s12 s25 : FS) : S13 s12 s25 = fnF Tryz.prog [(12, s12), (25, s25)] MM Tryz.f13 a13 := by kernel_rfl
theorem d13 : SoundF Tryz.prog 13 s13 := sound_fn (fn := Tryz.f13) (T := [(12, s12), (25, s25)]) (M := MM) (ann := a13) (by kernel_rfl) (by kernel_rfl) (by kernel_rfl) (by kernel_rfl) mix (.cons d12 (.cons d25 .nil)) (e13 s12 s25)
set_option maxRecDepth 100000 in
theorem e161 : S161 = fnF Tryz.prog [] MM Tryz.f161 a161 := by kernel_rfl
theorem d161 : SoundF Tryz.prog 161 s161 := sound_fn (fn := Tryz.f161) (T := []) (M := MM) (ann := a161) (by kernel_rfl) (by kernel_rfl) (by kernel_rfl) (by kernel_rfl) mix .nil (e161)
theorem d162 : SoundF Tryz.prog 162 s162 := sound_stub (fn := Tryz.f162) (by kernel_rfl) (by kernel_rfl) (by kernel_rfl)
set_option maxRecDepth 100000 in
theorem e92 (s21 s161 s76 s150 s77 s162 : FS) : S92 s21 s161 s76 s150 s77 s162 = fnF Tryz.prog [(21, s21), (161, s161), (76, s76), (150, s150), (77, s77), (162, s162)] MM Tryz.f92 a92 := by kernel_rfl
theorem d92 : SoundF Tryz.prog 92 s92 := sound_fn (fn := Tryz.f92) (T := [(21, s21), (161, s161), (76, s76), (150, s150), (77, s77), (162, s162)]) (M := MM) (ann := a92) (by kernel_rfl) (by kernel_rfl) (by kernel_rfl) (by kernel_rfl) mix (.cons d21 (.cons d161 (.cons d76 (.cons d150 (.cons d77 (.cons d162 .nil)))))) (e92 s21 s161 s76 s150 s77 s162)
set_option maxRecDepth 100000 in
theorem e179 (s12 s73 : FS) : S179 s12 s73 = fnF Tryz.prog [(12, s12), (73, s73)] MM Tryz.f179 a179 := by kernel_rfl
theorem d179 : SoundF Tryz.prog 179 s179 := sound_fn (fn := Tryz.f179) (T := [(12, s12), (73, s73)]) (M := MM) (ann := a179) (by kernel_rfl) (by kernel_rfl) (by kernel_rfl) (by kernel_rfl) mix (.cons d12 (.cons d73 .nil)) (e179 s12 s73)
set_option maxRecDepth 100000 in
theorem e253 (s82 : FS) : S253 s82 = fnF Tryz.prog [(82, s82)] MM Tryz.f253 a253 := by kernel_rfl
theorem d253 : SoundF Tryz.prog 253 s253 := sound_fn (fn := Tryz.f253) (T := [(82, s82)]) (M := MM) (ann := a253) (by kernel_rfl) (by kernel_rfl) (by kernel_rfl) (by kernel_rfl) mix (.cons d82 .nil) (e253 s82)
set_option maxRecDepth 100000 in
theorem e281 (s88 s87 : FS) : S281 s88 s87 = fnF Tryz.prog [(88, s88), (87, s87)] MM Tryz.f281 a281 := by kernel_rfl
theorem d281 : SoundF Tryz.prog 281 s281 := sound_fn (fn := Tryz.f281) (T := [(88, s88), (87, s87)]) (M := MM) (ann := a281) (by kernel_rfl) (by kernel_rfl) (by kernel_rfl) (by kernel_rfl) mix (.cons d88 (.cons d87 .nil)) (e281 s88 s87)
set_option maxRecDepth 100000 in
theorem e254 (s281 s82 s90 : FS) : S254 s281 s82 s90 = fnF Tryz.prog [(281, s281), (82, s82), (90, s90)] MM Tryz.f254 a254 := by kernel_rfl
theorem d254 : SoundF Tryz.prog 254 s254 := sound_fn (fn := Tryz.f254) (T := [(281, s281), (82, s82), (90, s90)]) (M := MM) (ann := a254) (by kernel_rfl) (by kernel_rfl) (by kernel_rfl) (by kernel_rfl) mix (.cons d281 (.cons d82 (.cons d90 .nil))) (e254 s281 s82 s90)
set_option maxRecDepth 100000 in
theorem e282 (s156 : FS) : S282 s156 = fnF Tryz.prog [(156, s156)] MM Tryz.f282 a282 := by kernel_rfl
theorem d282 : SoundF Tryz.prog 282 s282 := sound_fn (fn := Tryz.f282) (T := [(156, s156)]) (M := MM) (ann := a282) (by kernel_rfl) (by kernel_rfl) (by kernel_rfl) (by kernel_rfl) mix (.cons d156 .nil) (e282 s156)
set_option maxRecDepth 100000 in
theorem e283 : S283 = fnF Tryz.prog [] MM Tryz.f283 a283 := by kernel_rfl
theorem d283 : SoundF Tryz.prog 283 s283 := sound_fn (fn := Tryz.f283) (T := []) (M := MM) (ann := a283) (by kernel_rfl) (by kernel_rfl) (by kernel_rfl) (by kernel_rfl) mix .nil (e283)
set_option maxRecDepth 100000 in
theorem e255 (s84 s282 s85 s86 s283 : FS) : S255 s84 s282 s85 s86 s283 = fnF Tryz.prog [(84, s84), (282, s282), (85, s85), (86, s86), (283, s283)] MM Tryz.f255 a255 := by kernel_rfl
theorem d255 : SoundF Tryz.prog 255 s255 := sound_fn (fn := Tryz.f255) (T := [(84, s84), (282, s282), (85, s85), (86, s86), (283, s283)]) (M := MM) (ann := a255) (by kernel_rfl) (by kernel_rfl) (by kernel_rfl) (by kernel_rfl) mix (.cons d84 (.cons d282 (.cons d85 (.cons d86 (.cons d283 .nil))))) (e255 s84 s282 s85 s86 s283)
set_option maxRecDepth 100000 in
theorem e284 : S284 = fnF Tryz.prog [] MM Tryz.f284 a284 := by kernel_rfl
theorem d284 : SoundF Tryz.prog 284 s284 := sound_fn (fn := Tryz.f284) (T := []) (M := MM) (ann := a284) (by kernel_rfl) (by kernel_rfl) (by kernel_rfl) (by kernel_rfl) mix .nil (e284)
set_option maxRecDepth 100000 in
theorem e256 (s284 s214 s88 s90 s212 s211 : FS) : S256 s284 s214 s88 s90 s212 s211 = fnF Tryz.prog [(284, s284), (214, s214), (88, s88), (90, s90), (212, s212), (211, s211)] MM Tryz.f256 a256 := by kernel_rfl
theorem d256 : SoundF Tryz.prog 256 s256 := sound_fn (fn := Tryz.f256) (T := [(284, s284), (214, s214), (88, s88), (90, s90), (212, s212), (211, s211)]) (M := MM) (ann := a256) (by kernel_rfl) (by kernel_rfl) (by kernel_rfl) (by kernel_rfl) mix (.cons d284 (.cons d214 (.cons d88 (.cons d90 (.cons d212 (.cons d211 .nil)))))) (e256 s284 s214 s88 s90 s212 s211)
set_option maxRecDepth 100000 in
theorem e285 (s243 s210 : FS) : S285 s243 s210 = fnF Tryz.prog [(243, s243), (210, s210)] MM Tryz.f285 a285 := by kernel_rfl
theorem d285 : SoundF Tryz.prog 285 s285 := sound_fn (fn := Tryz.f285) (T := [(243, s243), (210, s210)]) (M := MM) (ann := a285) (by kernel_rfl) (by kernel_rfl) (by kernel_rfl) (by kernel_rfl) mix (.cons d243 (.cons d210 .nil)) (e285 s243 s210)
set_option maxRecDepth 100000 in
theorem e286 (s243 s210 : FS) : S286 s243 s210 = fnF Tryz.prog [(243, s243), (210, s210)] MM Tryz.f286 a286 := by kernel_rfl
theorem d286 : SoundF Tryz.prog 286 s286 := sound_fn (fn := Tryz.f286) (T := [(243, s243), (210, s210)]) (M := MM) (ann := a286) (by kernel_rfl) (by kernel_rfl) (by kernel_rfl) (by kernel_rfl) mix (.cons d243 (.cons d210 .nil)) (e286 s243 s210)
set_option maxRecDepth 100000 in
theorem e257 (s88 s285 s153 s286 s160 s207 : FS) : S257 s88 s285 s153 s286 s160 s207 = fnF Tryz.prog [(88, s88), (285, s285), (153, s153), (286, s286), (160, s160), (207, s207)] MM Tryz.f257 a257 := by kernel_rfl
theorem d257 : SoundF Tryz.prog 257 s257 := sound_fn (fn := Tryz.f257) (T := [(88, s88), (285, s285), (153, s153), (286, s286), (160, s160), (207, s207)]) (M := MM) (ann := a257) (by kernel_rfl) (by kernel_rfl) (by kernel_rfl) (by kernel_rfl) mix (.cons d88 (.cons d285 (.cons d153 (.cons d286 (.cons d160 (.cons d207 .nil)))))) (e257 s88 s285 s153 s286 s160 s207)
theorem d258 : SoundF Tryz.prog 258 s258 := sound_stub (fn := Tryz.f258) (by kernel_rfl) (by kernel_rfl) (by kernel_rfl)
set_option maxRecDepth 100000 in
theorem e230 (s72 s253 s90 s91 s254 s255 s256 s257 s258 : FS) : S230 s72 s253 s90 s91 s254 s255 s256 s257 s258 = fnF Tryz.prog [(72, s72), (253, s253), (90, s90), (91, s91), (254, s254), (255, s255), (256, s256), (257, s257), (258, s258)] MM Tryz.f230 a230 := by kernel_rfl
theorem d230 : SoundF Tryz.prog 230 s230 := sound_fn (fn := Tryz.f230) (T := [(72, s72), (253, s253), (90, s90), (91, s91), (254, s254), (255, s255), (256, s256), (257, s257), (258, s258)]) (M := MM) (ann := a230) (by kernel_rfl) (by kernel_rfl) (by kernel_rfl) (by kernel_rfl) mix (.cons d72 (.cons d253 (.cons d90 (.cons d91 (.cons d254 (.cons d255 (.cons d256 (.cons d257 (.cons d258 .nil))))))))) (e230 s72 s253 s90 s91 s254 s255 s256 s257 s258)
set_option maxRecDepth 100000 in
theorem e180 (s39 s230 s40 : FS) : S180 s39 s230 s40 = fnF Tryz.prog [(39, s39), (230, s230), (40, s40)] MM Tryz.f180 a180 := by kernel_rfl
theorem d180 : SoundF Tryz.prog 180 s180 := sound_fn (fn := Tryz.f180) (T := [(39, s39), (230, s230), (40, s40)]) (M := MM) (ann := a180) (by kernel_rfl) (by kernel_rfl) (by kernel_rfl) (by kernel_rfl) mix (.cons d39 (.cons d230 (.cons d40 .nil))) (e180 s39 s230 s40)
set_option maxRecDepth 100000 in
theorem e106 (s179 s13 s180 s23 : FS) : S106 s179 s13 s180 s23 = fnF Tryz.prog [(179, s179), (13, s13), (180, s180), (23, s23)] MM Tryz.f106 a106 := by kernel_rfl
theorem d106 : SoundF Tryz.prog 106 s106 := sound_fn (fn := Tryz.f106) (T := [(179, s179), (13, s13), (180, s180), (23, s23)]) (M := MM) (ann := a106) (by kernel_rfl) (by kernel_rfl) (by kernel_rfl) (by kernel_rfl) mix (.cons d179 (.cons d13 (.cons d180 (.cons d23 .nil)))) (e106 s179 s13 s180 s23)
set_option maxRecDepth 100000 in
theorem e53 (s11 s12 s106 : FS) : S53 s11 s12 s106 = fnF Tryz.prog [(11, s11), (12, s12), (106, s106)] MM Tryz.f53 a53 := by kernel_rfl
theorem d53 : SoundF Tryz.prog 53 s53 := sound_fn (fn := Tryz.f53) (T := [(11, s11), (12, s12), (106, s106)]) (M := MM) (ann := a53) (by kernel_rfl) (by kernel_rfl) (by kernel_rfl) (by kernel_rfl) mix (.cons d11 (.cons d12 (.cons d106 .nil))) (e53 s11 s12 s106)
set_option maxRecDepth 100000 in
theorem e223 (s136 s67 : FS) : S223 s136 s67 = fnF Tryz.prog [(136, s136), (67, s67)] MM Tryz.f223 a223 := by kernel_rfl
theorem d223 : SoundF Tryz.prog 223 s223 := sound_fn (fn := Tryz.f223) (T := [(136, s136), (67, s67)]) (M := MM) (ann := a223) (by kernel_rfl) (by kernel_rfl) (by kernel_rfl) (by kernel_rfl) mix (.cons d136 (.cons d67 .nil)) (e223 s136 s67)
set_option maxRecDepth 100000 in
theorem e168 (s223 : FS) : S168 s223 = fnF Tryz.prog [(223, s223)] MM Tryz.f168 a168 := by kernel_rfl
theorem d168 : SoundF Tryz.prog 168 s168 := sound_fn (fn := Tryz.f168) (T := [(223, s223)]) (M := MM) (ann := a168) (by kernel_rfl) (by kernel_rfl) (by kernel_rfl) (by kernel_rfl) mix (.cons d223 .nil) (e168 s223)
set_option maxRecDepth 100000 in
theorem e163 (s168 : FS) : S163 s168 = fnF Tryz.prog [(168, s168)] MM Tryz.f163 a163 := by kernel_rfl
theorem d163 : SoundF Tryz.prog 163 s163 := sound_fn (fn := Tryz.f163) (T := [(168, s168)]) (M := MM) (ann := a163) (by kernel_rfl) (by kernel_rfl) (by kernel_rfl) (by kernel_rfl) mix (.cons d168 .nil) (e163 s168)
set_option maxRecDepth 100000 in
theorem e216 : S216 = fnF Tryz.prog [] MM Tryz.f216 a216 := by kernel_rfl
theorem d216 : SoundF Tryz.prog 216 s216 := sound_fn (fn := Tryz.f216) (T := []) (M := MM) (ann := a216) (by kernel_rfl) (by kernel_rfl) (by kernel_rfl) (by kernel_rfl) mix .nil (e216)
set_option maxRecDepth 100000 in
theorem e217 (s195 : FS) : S217 s195 = fnF Tryz.prog [(195, s195)] MM Tryz.f217 a217 := by kernel_rfl
theorem d217 : SoundF Tryz.prog 217 s217 := sound_fn (fn := Tryz.f217) (T := [(195, s195)]) (M := MM) (ann := a217) (by kernel_rfl) (by kernel_rfl) (by kernel_rfl) (by kernel_rfl) mix (.cons d195 .nil) (e217 s195)
set_option maxRecDepth 100000 in
theorem e246 (s195 s196 : FS) : S246 s195 s196 = fnF Tryz.prog [(195, s195), (196, s196)] MM Tryz.f246 a246 := by kernel_rfl
theorem d246 : SoundF Tryz.prog 246 s246 := sound_fn (fn := Tryz.f246) (T := [(195, s195), (196, s196)]) (M := MM) (ann := a246) (by kernel_rfl) (by kernel_rfl) (by kernel_rfl) (by kernel_rfl) mix (.cons d195 (.cons d196 .nil)) (e246 s195 s196)
set_option maxRecDepth 100000 in
theorem e218 (s246 : FS) : S218 s246 = fnF Tryz.prog [(246, s246)] MM Tryz.f218 a218 := by kernel_rfl
theorem d218 : SoundF Tryz.prog 218 s218 := sound_fn (fn := Tryz.f218) (T := [(246, s246)]) (M := MM) (ann := a218) (by kernel_rfl) (by kernel_rfl) (by kernel_rfl) (by kernel_rfl) mix (.cons d246 .nil) (e218 s246)
set_option maxRecDepth 100000 in
theorem e219 (s76 s65 s77 s122 : FS) : S219 s76 s65 s77 s122 = fnF Tryz.prog [(76, s76), (65, s65), (77, s77), (122, s122)] MM Tryz.f219 a219 := by kernel_rfl
theorem d219 : SoundF Tryz.prog 219 s219 := sound_fn (fn := Tryz.f219) (T := [(76, s76), (65, s65), (77, s77), (122, s122)]) (M := MM) (ann := a219) (by kernel_rfl) (by kernel_rfl) (by kernel_rfl) (by kernel_rfl) mix (.cons d76 (.cons d65 (.cons d77 (.cons d122 .nil)))) (e219 s76 s65 s77 s122)
theorem d247 : SoundF Tryz.prog 247 s247 := sound_stub (fn := Tryz.f247) (by kernel_rfl) (by kernel_rfl) (by kernel_rfl)
set_option maxRecDepth 100000 in
theorem e220 (s79 s145 s247 s214 s150 s77 s159 s160 s80 s91 : FS) : S220 s79 s145 s247 s214 s150 s77 s159 s160 s80 s91 = fnF Tryz.prog [(79, s79), (145, s145), (247, s247), (214, s214), (150, s150), (77, s77), (159, s159), (160, s160), (80, s80), (91, s91)] MM Tryz.f220 a220 := by kernel_rfl
theorem d220 : SoundF Tryz.prog 220 s220 := sound_fn (fn := Tryz.f220) (T := [(79, s79), (145, s145), (247, s247), (214, s214), (150, s150), (77, s77), (159, s159), (160, s160), (80, s80), (91, s91)]) (M := MM) (ann := a220) (by kernel_rfl) (by kernel_rfl) (by kernel_rfl) (by kernel_rfl) mix (.cons d79 (.cons d145 (.cons d247 (.cons d214 (.cons d150 (.cons d77 (.cons d159 (.cons d160 (.cons d80 (.cons d91 .nil)))))))))) (e220 s79 s145 s247 s214 s150 s77 s159 s160 s80 s91)
set_option maxRecDepth 100000 in
theorem e164 (s39 s134 s216 s217 s218 s219 s68 s220 s40 : FS) : S164 s39 s134 s216 s217 s218 s219 s68 s220 s40 = fnF Tryz.prog [(39, s39), (134, s134), (216, s216), (217, s217), (218, s218), (219, s219), (68, s68), (220, s220), (40, s40)] MM Tryz.f164 a164 := by kernel_rfl
theorem d164 : SoundF Tryz.prog 164 s164 := sound_fn (fn := Tryz.f164) (T := [(39, s39), (134, s134), (216, s216), (217, s217), (218, s218), (219, s219), (68, s68), (220, s220), (40, s40)]) (M := MM) (ann := a164) (by kernel_rfl) (by kernel_rfl) (by kernel_rfl) (by kernel_rfl) mix (.cons d39 (.cons d134 (.cons d216 (.cons d217 (.cons d218 (.cons d219 (.cons d68 (.cons d220 (.cons d40 .nil))))))))) (e164 s39 s134 s216 s217 s218 s219 s68 s220 s40)
set_option maxRecDepth 100000 in
theorem e94 (s19 s21 s163 s164 s23 : FS) : S94 s19 s21 s163 s164 s23 = fnF Tryz.prog [(19, s19), (21, s21), (163, s163), (164, s164), (23, s23)] MM Tryz.f94 a94 := by kernel_rfl
theorem d94 : SoundF Tryz.prog 94 s94 := sound_fn (fn := Tryz.f94) (T := [(19, s19), (21, s21), (163, s163), (164, s164), (23, s23)]) (M := MM) (ann := a94) (by kernel_rfl) (by kernel_rfl) (by kernel_rfl) (by kernel_rfl) mix (.cons d19 (.cons d21 (.cons d163 (.cons d164 (.cons d23 .nil))))) (e94 s19 s21 s163 s164 s23)
set_option maxRecDepth 100000 in
theorem e43 : S43 = fnF Tryz.prog [] MM Tryz.f43 a43 := by kernel_rfl
theorem d43 : SoundF Tryz.prog 43 s43 := sound_fn (fn := Tryz.f43) (T := []) (M := MM) (ann := a43) (by kernel_rfl) (by kernel_rfl) (by kernel_rfl) (by kernel_rfl) mix .nil (e43)
end Go.Proofs.YtlannobincnnhaaGreatDoor
