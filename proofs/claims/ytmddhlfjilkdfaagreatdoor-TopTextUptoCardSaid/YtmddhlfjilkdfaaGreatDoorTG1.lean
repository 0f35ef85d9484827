/-
  No claim by itself: the functions do what their texts mean. No condition.
-/
import Derived.Test.YtmddhlfjilkdfaaGreatDoorTD3
import Derived.Test.YtmddhlfjilkdfaaGreatDoorE10
namespace Go.Proofs.YtmddhlfjilkdfaaGreatDoor
set_option linter.unusedVariables false
theorem mix : Tryz.prog.follows .mixedOrders = true := by kernel_rfl
set_option maxRecDepth 100000 in
theorem e29 : S29 = fnF Tryz.prog [] MM Tryz.f29 a29 := by kernel_rfl
theorem d29 : SoundF Tryz.prog 29 s29 := sound_fn (fn := Tryz.f29) (T := []) (M := MM) (ann := a29) (by kernel_rfl) (by kernel_rfl) (by kernel_rfl) (by kernel_rfl) mix .nil (e29)
set_option maxRecDepth 100000 in
theorem e30 : S30 = fnF Tryz.prog [] MM Tryz.f30 a30 := by kernel_rfl
theorem d30 : SoundF Tryz.prog 30 s30 := sound_fn (fn := Tryz.f30) (T := []) (M := MM) (ann := a30) (by kernel_rfl) (by kernel_rfl) (by kernel_rfl) (by kernel_rfl) mix .nil (e30)
set_option maxRecDepth 100000 in
theorem e42 : S42 = fnF Tryz.prog [] MM Tryz.f42 a42 := by kernel_rfl
theorem d42 : SoundF Tryz.prog 42 s42 := sound_fn (fn := Tryz.f42) (T := []) (M := MM) (ann := a42) (by kernel_rfl) (by kernel_rfl) (by kernel_rfl) (by kernel_rfl) mix .nil (e42)
set_option maxRecDepth 100000 in
theorem e125 : S125 = fnF Tryz.prog [] MM Tryz.f125 a125 := by kernel_rfl
theorem d125 : SoundF Tryz.prog 125 s125 := sound_fn (fn := Tryz.f125) (T := []) (M := MM) (ann := a125) (by kernel_rfl) (by kernel_rfl) (by kernel_rfl) (by kernel_rfl) mix .nil (e125)
set_option maxRecDepth 100000 in
theorem e71 (s125 : FS) : S71 s125 = fnF Tryz.prog [(125, s125)] MM Tryz.f71 a71 := by kernel_rfl
theorem d71 : SoundF Tryz.prog 71 s71 := sound_fn (fn := Tryz.f71) (T := [(125, s125)]) (M := MM) (ann := a71) (by kernel_rfl) (by kernel_rfl) (by kernel_rfl) (by kernel_rfl) mix (.cons d125 .nil) (e71 s125)
theorem d72 : SoundF Tryz.prog 72 s72 := sound_stub (fn := Tryz.f72) (by kernel_rfl) (by kernel_rfl) (by kernel_rfl)
theorem d73 : SoundF Tryz.prog 73 s73 := sound_stub (fn := Tryz.f73) (by kernel_rfl) (by kernel_rfl) (by kernel_rfl)
theorem d74 : SoundF Tryz.prog 74 s74 := sound_stub (fn := Tryz.f74) (by kernel_rfl) (by kernel_rfl) (by kernel_rfl)
set_option maxRecDepth 100000 in
theorem e132 : S132 = fnF Tryz.prog [] MM Tryz.f132 a132 := by kernel_rfl
theorem d132 : SoundF Tryz.prog 132 s132 := sound_fn (fn := Tryz.f132) (T := []) (M := MM) (ann := a132) (by kernel_rfl) (by kernel_rfl) (by kernel_rfl) (by kernel_rfl) mix .nil (e132)
set_option maxRecDepth 100000 in
theorem e75 (s132 s125 : FS) : S75 s132 s125 = fnF Tryz.prog [(132, s132), (125, s125)] MM Tryz.f75 a75 := by kernel_rfl
theorem d75 : SoundF Tryz.prog 75 s75 := sound_fn (fn := Tryz.f75) (T := [(132, s132), (125, s125)]) (M := MM) (ann := a75) (by kernel_rfl) (by kernel_rfl) (by kernel_rfl) (by kernel_rfl) mix (.cons d132 (.cons d125 .nil)) (e75 s132 s125)
set_option maxRecDepth 100000 in
theorem e43 (s71 s72 s73 s74 s75 : FS) : S43 s71 s72 s73 s74 s75 = fnF Tryz.prog [(71, s71), (72, s72), (73, s73), (74, s74), (75, s75)] MM Tryz.f43 a43 := by kernel_rfl
theorem d43 : SoundF Tryz.prog 43 s43 := sound_fn (fn := Tryz.f43) (T := [(71, s71), (72, s72), (73, s73), (74, s74), (75, s75)]) (M := MM) (ann := a43) (by kernel_rfl) (by kernel_rfl) (by kernel_rfl) (by kernel_rfl) mix (.cons d71 (.cons d72 (.cons d73 (.cons d74 (.cons d75 .nil))))) (e43 s71 s72 s73 s74 s75)
set_option maxRecDepth 100000 in
theorem e77 : S77 = fnF Tryz.prog [] MM Tryz.f77 a77 := by kernel_rfl
theorem d77 : SoundF Tryz.prog 77 s77 := sound_fn (fn := Tryz.f77) (T := []) (M := MM) (ann := a77) (by kernel_rfl) (by kernel_rfl) (by kernel_rfl) (by kernel_rfl) mix .nil (e77)
theorem d133 : SoundF Tryz.prog 133 s133 := sound_stub (fn := Tryz.f133) (by kernel_rfl) (by kernel_rfl) (by kernel_rfl)
theorem d223 : SoundF Tryz.prog 223 s223 := sound_stub (fn := Tryz.f223) (by kernel_rfl) (by kernel_rfl) (by kernel_rfl)
set_option maxRecDepth 100000 in
theorem e224 : S224 = fnF Tryz.prog [] MM Tryz.f224 a224 := by kernel_rfl
theorem d224 : SoundF Tryz.prog 224 s224 := sound_fn (fn := Tryz.f224) (T := []) (M := MM) (ann := a224) (by kernel_rfl) (by kernel_rfl) (by kernel_rfl) (by kernel_rfl) mix .nil (e224)
set_option maxRecDepth 100000 in
theorem e168 (s223 s224 : FS) : S168 s223 s224 = fnF Tryz.prog [(223, s223), (224, s224)] MM Tryz.f168 a168 := by kernel_rfl
theorem d168 : SoundF Tryz.prog 168 s168 := sound_fn (fn := Tryz.f168) (T := [(223, s223), (224, s224)]) (M := MM) (ann := a168) (by kernel_rfl) (by kernel_rfl) (by kernel_rfl) (by kernel_rfl) mix (.cons d223 (.cons d224 .nil)) (e168 s223 s224)
theorem d220 : SoundF Tryz.prog 220 s220 := sound_stub (fn := Tryz.f220) (by kernel_rfl) (by kernel_rfl) (by kernel_rfl)
set_option maxRecDepth 100000 in
theorem e214 (s220 : FS) : S214 s220 = fnF Tryz.prog [(220, s220)] MM Tryz.f214 a214 := by kernel_rfl
theorem d214 : SoundF Tryz.prog 214 s214 := sound_fn (fn := Tryz.f214) (T := [(220, s220)]) (M := MM) (ann := a214) (by kernel_rfl) (by kernel_rfl) (by kernel_rfl) (by kernel_rfl) mix (.cons d220 .nil) (e214 s220)
theorem d215 : SoundF Tryz.prog 215 s215 := sound_stub (fn := Tryz.f215) (by kernel_rfl) (by kernel_rfl) (by kernel_rfl)
theorem d216 : SoundF Tryz.prog 216 s216 := sound_stub (fn := Tryz.f216) (by kernel_rfl) (by kernel_rfl) (by kernel_rfl)
theorem d217 : SoundF Tryz.prog 217 s217 := sound_stub (fn := Tryz.f217) (by kernel_rfl) (by kernel_rfl) (by kernel_rfl)
theorem d218 : SoundF Tryz.prog 218 s218 := sound_stub (fn := Tryz.f218) (by kernel_rfl) (by kernel_rfl) (by kernel_rfl)
theorem d219 : SoundF Tryz.prog 219 s219 := sound_stub (fn := Tryz.f219) (by kernel_rfl) (by kernel_rfl) (by kernel_rfl)
theorem d221 : SoundF Tryz.prog 221 s221 := sound_stub (fn := Tryz.f221) (by kernel_rfl) (by kernel_rfl) (by kernel_rfl)
theorem d222 : SoundF Tryz.prog 222 s222 := sound_stub (fn := Tryz.f222) (by kernel_rfl) (by kernel_rfl) (by kernel_rfl)
set_option maxRecDepth 100000 in
theorem e167 (s214 s215 s216 s217 s218 s219 s220 s221 s222 s167 : FS) : S167 s214 s215 s216 s217 s218 s219 s220 s221 s222 s167 = fnF Tryz.prog [(214, s214), (215, s215), (216, s216), (217, s217), (218, s218), (219, s219), (220, s220), (221, s221), (222, s222), (167, s167)] MM Tryz.f167 a167 := by kernel_rfl
theorem d167 : SoundF Tryz.prog 167 s167 := sound_fn (fn := Tryz.f167) (T := [(214, s214), (215, s215), (216, s216), (217, s217), (218, s218), (219, s219), (220, s220), (221, s221), (222, s222), (167, sx)]) (M := MM) (ann := a167) (by kernel_rfl) (by kernel_rfl) (by kernel_rfl) (by kernel_rfl) mix (.cons d214 (.cons d215 (.cons d216 (.cons d217 (.cons d218 (.cons d219 (.cons d220 (.cons d221 (.cons d222 (.cons (sound_stub (fn := Tryz.f167) (by kernel_rfl) (by kernel_rfl) (by kernel_rfl)) .nil)))))))))) (e167 s214 s215 s216 s217 s218 s219 s220 s221 s222 sx)
set_option maxRecDepth 100000 in
theorem e134 (s168 s167 : FS) : S134 s168 s167 = fnF Tryz.prog [(168, s168), (167, s167)] MM Tryz.f134 a134 := by kernel_rfl
theorem d134 : SoundF Tryz.prog 134 s134 := sound_fn (fn := Tryz.f134) (T := [(168, s168), (167, s167)]) (M := MM) (ann := a134) (by kernel_rfl) (by kernel_rfl) (by kernel_rfl) (by kernel_rfl) mix (.cons d168 (.cons d167 .nil)) (e134 s168 s167)
theorem d76 : SoundF Tryz.prog 76 s76 := soF_sound d134 (by kernel_rfl)
set_option maxRecDepth 100000 in
theorem e44 (s77 s76 : FS) : S44 s77 s76 = fnF Tryz.prog [(77, s77), (76, s76)] MM Tryz.f44 a44 := by kernel_rfl
theorem d44 : SoundF Tryz.prog 44 s44 := sound_fn (fn := Tryz.f44) (T := [(77, s77), (76, s76)]) (M := MM) (ann := a44) (by kernel_rfl) (by kernel_rfl) (by kernel_rfl) (by kernel_rfl) mix (.cons d77 (.cons d76 .nil)) (e44 s77 s76)
set_option maxRecDepth 100000 in
theorem e46 (s42 : FS) : S46 s42 = fnF Tryz.prog [(42, s42)] MM Tryz.f46 a46 := by kernel_rfl
theorem d46 : SoundF Tryz.prog 46 s46 := sound_fn (fn := Tryz.f46) (T := [(42, s42)]) (M := MM) (ann := a46) (by kernel_rfl) (by kernel_rfl) (by kernel_rfl) (by kernel_rfl) mix (.cons d42 .nil) (e46 s42)
set_option maxRecDepth 100000 in
theorem e67 : S67 = fnF Tryz.prog [] MM Tryz.f67 a67 := by kernel_rfl
theorem d67 : SoundF Tryz.prog 67 s67 := sound_fn (fn := Tryz.f67) (T := []) (M := MM) (ann := a67) (by kernel_rfl) (by kernel_rfl) (by kernel_rfl) (by kernel_rfl) mix .nil (e67)
set_option maxRecDepth 100000 in
theorem e80 (s67 : FS) : S80 s67 = fnF Tryz.prog [(67, s67)] MM Tryz.f80 a80 := by kernel_rfl
theorem d80 : SoundF Tryz.prog 80 s80 := sound_fn (fn := Tryz.f80) (T := [(67, s67)]) (M := MM) (ann := a80) (by kernel_rfl) (by kernel_rfl) (by kernel_rfl) (by kernel_rfl) mix (.cons d67 .nil) (e80 s67)
set_option maxRecDepth 100000 in
theorem e47 (s80 : FS) : S47 s80 = fnF Tryz.prog [(80, s80)] MM Tryz.f47 a47 := by kernel_rfl
theorem d47 : SoundF Tryz.prog 47 s47 := sound_fn (fn := Tryz.f47) (T := [(80, s80)]) (M := MM) (ann := a47) (by kernel_rfl) (by kernel_rfl) (by kernel_rfl) (by kernel_rfl) mix (.cons d80 .nil) (e47 s80)
set_option maxRecDepth 100000 in
theorem e81 : S81 = fnF Tryz.prog [] MM Tryz.f81 a81 := by kernel_rfl
theorem d81 : SoundF Tryz.prog 81 s81 := sound_fn (fn := Tryz.f81) (T := []) (M := MM) (ann := a81) (by kernel_rfl) (by kernel_rfl) (by kernel_rfl) (by kernel_rfl) mix .nil (e81)
theorem d272 : SoundF Tryz.prog 272 s272 := sound_stub (fn := Tryz.f272) (by kernel_rfl) (by kernel_rfl) (by kernel_rfl)
set_option maxRecDepth 100000 in
theorem e264 (s272 : FS) : S264 s272 = fnF Tryz.prog [(272, s272)] MM Tryz.f264 a264 := by kernel_rfl
theorem d264 : SoundF Tryz.prog 264 s264 := sound_fn (fn := Tryz.f264) (T := [(272, s272)]) (M := MM) (ann := a264) (by kernel_rfl) (by kernel_rfl) (by kernel_rfl) (by kernel_rfl) mix (.cons d272 .nil) (e264 s272)
set_option maxRecDepth 100000 in
theorem e232 (s264 : FS) : S232 s264 = fnF Tryz.prog [(264, s264)] MM Tryz.f232 a232 := by kernel_rfl
theorem do232 : SoundF Tryz.prog 232 o232 := sound_fn (fn := Tryz.f232) (T := [(264, s264)]) (M := MM) (ann := a232) (by kernel_rfl) (by kernel_rfl) (by kernel_rfl) (by kernel_rfl) mix (.cons d264 .nil) (e232 s264)
theorem d232 : SoundF Tryz.prog 232 s232 := validF_sound do232
set_option maxRecDepth 100000 in
theorem e177 (s232 : FS) : S177 s232 = fnF Tryz.prog [(232, s232)] MM Tryz.f177 a177 := by kernel_rfl
theorem do177 : SoundF Tryz.prog 177 o177 := sound_fn (fn := Tryz.f177) (T := [(232, s232)]) (M := MM) (ann := a177) (by kernel_rfl) (by kernel_rfl) (by kernel_rfl) (by kernel_rfl) mix (.cons d232 .nil) (e177 s232)
theorem d177 : SoundF Tryz.prog 177 s177 := keyF_sound do177
set_option maxRecDepth 100000 in
theorem e226 (s232 : FS) : S226 s232 = fnF Tryz.prog [(232, s232)] MM Tryz.f226 a226 := by kernel_rfl
theorem d226 : SoundF Tryz.prog 226 s226 := sound_fn (fn := Tryz.f226) (T := [(232, s232)]) (M := MM) (ann := a226) (by kernel_rfl) (by kernel_rfl) (by kernel_rfl) (by kernel_rfl) mix (.cons d232 .nil) (e226 s232)
set_option maxRecDepth 100000 in
theorem e178 (s226 : FS) : S178 s226 = fnF Tryz.prog [(226, s226)] MM Tryz.f178 a178 := by kernel_rfl
theorem d178 : SoundF Tryz.prog 178 s178 := sound_fn (fn := Tryz.f178) (T := [(226, s226)]) (M := MM) (ann := a178) (by kernel_rfl) (by kernel_rfl) (by kernel_rfl) (by kernel_rfl) mix (.cons d226 .nil) (e178 s226)
set_option maxRecDepth 100000 in
theorem e147 (s177 s178 : FS) : S147 s177 s178 = fnF Tryz.prog [(177, s177), (178, s178)] MM Tryz.f147 a147 := by kernel_rfl
theorem d147 : SoundF Tryz.prog 147 s147 := sound_fn (fn := Tryz.f147) (T := [(177, s177), (178, s178)]) (M := MM) (ann := a147) (by kernel_rfl) (by kernel_rfl) (by kernel_rfl) (by kernel_rfl) mix (.cons d177 (.cons d178 .nil)) (e147 s177 s178)
set_option maxRecDepth 100000 in
theorem e82 (s81 : FS) : S82 s81 = fnF Tryz.prog [(81, s81)] MM Tryz.f82 a82 := by kernel_rfl
theorem do82 : SoundF Tryz.prog 82 o82 := sound_fn (fn := Tryz.f82) (T := [(81, s81)]) (M := MM) (ann := a82) (by kernel_rfl) (by kernel_rfl) (by kernel_rfl) (by kernel_rfl) mix (.cons d81 .nil) (e82 s81)
theorem d82 : SoundF Tryz.prog 82 s82 := putTextF_sound do82
theorem d148 : SoundF Tryz.prog 148 s148 := sound_stub (fn := Tryz.f148) (by kernel_rfl) (by kernel_rfl) (by kernel_rfl)
set_option maxRecDepth 100000 in
theorem e100 (s81 s82 s148 : FS) : S100 s81 s82 s148 = fnF Tryz.prog [(81, s81), (82, s82), (148, s148)] MM Tryz.f100 a100 := by kernel_rfl
theorem do100 : SoundF Tryz.prog 100 o100 := sound_fn (fn := Tryz.f100) (T := [(81, s81), (82, s82), (148, s148)]) (M := MM) (ann := a100) (by kernel_rfl) (by kernel_rfl) (by kernel_rfl) (by kernel_rfl) mix (.cons d81 (.cons d82 (.cons d148 .nil))) (e100 s81 s82 s148)
theorem d100 : SoundF Tryz.prog 100 s100 := opTextF_sound do100
set_option maxRecDepth 100000 in
theorem e99 (s147 s100 : FS) : S99 s147 s100 = fnF Tryz.prog [(147, s147), (100, s100)] MM Tryz.f99 a99 := by kernel_rfl
theorem d99 : SoundF Tryz.prog 99 s99 := sound_fn (fn := Tryz.f99) (T := [(147, s147), (100, s100)]) (M := MM) (ann := a99) (by kernel_rfl) (by kernel_rfl) (by kernel_rfl) (by kernel_rfl) mix (.cons d147 (.cons d100 .nil)) (e99 s147 s100)
set_option maxRecDepth 100000 in
theorem e56 (s99 s100 : FS) : S56 s99 s100 = fnF Tryz.prog [(99, s99), (100, s100)] MM Tryz.f56 a56 := by kernel_rfl
theorem d56 : SoundF Tryz.prog 56 s56 := sound_fn (fn := Tryz.f56) (T := [(99, s99), (100, s100)]) (M := MM) (ann := a56) (by kernel_rfl) (by kernel_rfl) (by kernel_rfl) (by kernel_rfl) mix (.cons d99 (.cons d100 .nil)) (e56 s99 s100)
set_option maxRecDepth 100000 in
theorem e48 (s81 s56 s82 : FS) : S48 s81 s56 s82 = fnF Tryz.prog [(81, s81), (56, s56), (82, s82)] MM Tryz.f48 a48 := by kernel_rfl
theorem d48 : SoundF Tryz.prog 48 s48 := sound_fn (fn := Tryz.f48) (T := [(81, s81), (56, s56), (82, s82)]) (M := MM) (ann := a48) (by kernel_rfl) (by kernel_rfl) (by kernel_rfl) (by kernel_rfl) mix (.cons d81 (.cons d56 (.cons d82 .nil))) (e48 s81 s56 s82)
set_option maxRecDepth 100000 in
theorem e130 : S130 = fnF Tryz.prog [] MM Tryz.f130 a130 := by kernel_rfl
theorem d130 : SoundF Tryz.prog 130 s130 := sound_fn (fn := Tryz.f130) (T := []) (M := MM) (ann := a130) (by kernel_rfl) (by kernel_rfl) (by kernel_rfl) (by kernel_rfl) mix .nil (e130)
set_option maxRecDepth 100000 in
theorem e129 (s130 : FS) : S129 s130 = fnF Tryz.prog [(130, s130)] MM Tryz.f129 a129 := by kernel_rfl
theorem d129 : SoundF Tryz.prog 129 s129 := sound_fn (fn := Tryz.f129) (T := [(130, s130)]) (M := MM) (ann := a129) (by kernel_rfl) (by kernel_rfl) (by kernel_rfl) (by kernel_rfl) mix (.cons d130 .nil) (e129 s130)
set_option maxRecDepth 100000 in
theorem e104 : S104 = fnF Tryz.prog [] MM Tryz.f104 a104 := by kernel_rfl
theorem d104 : SoundF Tryz.prog 104 s104 := sound_fn (fn := Tryz.f104) (T := []) (M := MM) (ann := a104) (by kernel_rfl) (by kernel_rfl) (by kernel_rfl) (by kernel_rfl) mix .nil (e104)
set_option maxRecDepth 100000 in
theorem e105 (s104 : FS) : S105 s104 = fnF Tryz.prog [(104, s104)] MM Tryz.f105 a105 := by kernel_rfl
theorem d105 : SoundF Tryz.prog 105 s105 := sound_fn (fn := Tryz.f105) (T := [(104, s104)]) (M := MM) (ann := a105) (by kernel_rfl) (by kernel_rfl) (by kernel_rfl) (by kernel_rfl) mix (.cons d104 .nil) (e105 s104)
set_option maxRecDepth 100000 in
theorem e106 : S106 = fnF Tryz.prog [] MM Tryz.f106 a106 := by kernel_rfl
theorem d106 : SoundF Tryz.prog 106 s106 := sound_fn (fn := Tryz.f106) (T := []) (M := MM) (ann := a106) (by kernel_rfl) (by kernel_rfl) (by kernel_rfl) (by kernel_rfl) mix .nil (e106)
set_option maxRecDepth 100000 in
theorem e59 (s81 s105 s104 s106 : FS) : S59 s81 s105 s104 s106 = fnF Tryz.prog [(81, s81), (105, s105), (104, s104), (106, s106)] MM Tryz.f59 a59 := by kernel_rfl
theorem do59 : SoundF Tryz.prog 59 o59 := sound_fn (fn := Tryz.f59) (T := [(81, s81), (105, s105), (104, s104), (106, s106)]) (M := MM) (ann := a59) (by kernel_rfl) (by kernel_rfl) (by kernel_rfl) (by kernel_rfl) mix (.cons d81 (.cons d105 (.cons d104 (.cons d106 .nil)))) (e59 s81 s105 s104 s106)
theorem d59 : SoundF Tryz.prog 59 s59 := sealF_sound do59
set_option maxRecDepth 100000 in
theorem e78 (s129 s81 s82 s59 : FS) : S78 s129 s81 s82 s59 = fnF Tryz.prog [(129, s129), (81, s81), (82, s82), (59, s59)] MM Tryz.f78 a78 := by kernel_rfl
theorem d78 : SoundF Tryz.prog 78 s78 := sound_fn (fn := Tryz.f78) (T := [(129, s129), (81, s81), (82, s82), (59, s59)]) (M := MM) (ann := a78) (by kernel_rfl) (by kernel_rfl) (by kernel_rfl) (by kernel_rfl) mix (.cons d129 (.cons d81 (.cons d82 (.cons d59 .nil)))) (e78 s129 s81 s82 s59)
set_option maxRecDepth 100000 in
theorem e83 : S83 = fnF Tryz.prog [] MM Tryz.f83 a83 := by kernel_rfl
theorem d83 : SoundF Tryz.prog 83 s83 := sound_fn (fn := Tryz.f83) (T := []) (M := MM) (ann := a83) (by kernel_rfl) (by kernel_rfl) (by kernel_rfl) (by kernel_rfl) mix .nil (e83)
set_option maxRecDepth 100000 in
theorem e49 (s83 : FS) : S49 s83 = fnF Tryz.prog [(83, s83)] MM Tryz.f49 a49 := by kernel_rfl
theorem d49 : SoundF Tryz.prog 49 s49 := sound_fn (fn := Tryz.f49) (T := [(83, s83)]) (M := MM) (ann := a49) (by kernel_rfl) (by kernel_rfl) (by kernel_rfl) (by kernel_rfl) mix (.cons d83 .nil) (e49 s83)
set_option maxRecDepth 100000 in
theorem e89 (s130 : FS) : S89 s130 = fnF Tryz.prog [(130, s130)] MM Tryz.f89 a89 := by kernel_rfl
theorem d89 : SoundF Tryz.prog 89 s89 := sound_fn (fn := Tryz.f89) (T := [(130, s130)]) (M := MM) (ann := a89) (by kernel_rfl) (by kernel_rfl) (by kernel_rfl) (by kernel_rfl) mix (.cons d130 .nil) (e89 s130)
set_option maxRecDepth 100000 in
theorem e169 (s89 s81 s59 s82 : FS) : S169 s89 s81 s59 s82 = fnF Tryz.prog [(89, s89), (81, s81), (59, s59), (82, s82)] MM Tryz.f169 a169 := by kernel_rfl
theorem d169 : SoundF Tryz.prog 169 s169 := sound_fn (fn := Tryz.f169) (T := [(89, s89), (81, s81), (59, s59), (82, s82)]) (M := MM) (ann := a169) (by kernel_rfl) (by kernel_rfl) (by kernel_rfl) (by kernel_rfl) mix (.cons d89 (.cons d81 (.cons d59 (.cons d82 .nil)))) (e169 s89 s81 s59 s82)
set_option maxRecDepth 100000 in
theorem e136 (s78 s169 : FS) : S136 s78 s169 = fnF Tryz.prog [(78, s78), (169, s169)] MM Tryz.f136 a136 := by kernel_rfl
theorem d136 : SoundF Tryz.prog 136 s136 := sound_fn (fn := Tryz.f136) (T := [(78, s78), (169, s169)]) (M := MM) (ann := a136) (by kernel_rfl) (by kernel_rfl) (by kernel_rfl) (by kernel_rfl) mix (.cons d78 (.cons d169 .nil)) (e136 s78 s169)
set_option maxRecDepth 100000 in
theorem e79 (s136 s75 : FS) : S79 s136 s75 = fnF Tryz.prog [(136, s136), (75, s75)] MM Tryz.f79 a79 := by kernel_rfl
theorem d79 : SoundF Tryz.prog 79 s79 := sound_fn (fn := Tryz.f79) (T := [(136, s136), (75, s75)]) (M := MM) (ann := a79) (by kernel_rfl) (by kernel_rfl) (by kernel_rfl) (by kernel_rfl) mix (.cons d136 (.cons d75 .nil)) (e79 s136 s75)
set_option maxRecDepth 100000 in
theorem e45 (s78 s49 s79 : FS) : S45 s78 s49 s79 = fnF Tryz.prog [(78, s78), (49, s49), (79, s79)] MM Tryz.f45 a45 := by kernel_rfl
theorem d45 : SoundF Tryz.prog 45 s45 := sound_fn (fn := Tryz.f45) (T := [(78, s78), (49, s49), (79, s79)]) (M := MM) (ann := a45) (by kernel_rfl) (by kernel_rfl) (by kernel_rfl) (by kernel_rfl) mix (.cons d78 (.cons d49 (.cons d79 .nil))) (e45 s78 s49 s79)
set_option maxRecDepth 100000 in
theorem e84 : S84 = fnF Tryz.prog [] MM Tryz.f84 a84 := by kernel_rfl
theorem d84 : SoundF Tryz.prog 84 s84 := sound_fn (fn := Tryz.f84) (T := []) (M := MM) (ann := a84) (by kernel_rfl) (by kernel_rfl) (by kernel_rfl) (by kernel_rfl) mix .nil (e84)
set_option maxRecDepth 100000 in
theorem e85 (s84 : FS) : S85 s84 = fnF Tryz.prog [(84, s84)] MM Tryz.f85 a85 := by kernel_rfl
theorem d85 : SoundF Tryz.prog 85 s85 := sound_fn (fn := Tryz.f85) (T := [(84, s84)]) (M := MM) (ann := a85) (by kernel_rfl) (by kernel_rfl) (by kernel_rfl) (by kernel_rfl) mix (.cons d84 .nil) (e85 s84)
set_option maxRecDepth 100000 in
theorem e170 : S170 = fnF Tryz.prog [] MM Tryz.f170 a170 := by kernel_rfl
theorem d170 : SoundF Tryz.prog 170 s170 := sound_fn (fn := Tryz.f170) (T := []) (M := MM) (ann := a170) (by kernel_rfl) (by kernel_rfl) (by kernel_rfl) (by kernel_rfl) mix .nil (e170)
set_option maxRecDepth 100000 in
theorem e137 (s84 s170 : FS) : S137 s84 s170 = fnF Tryz.prog [(84, s84), (170, s170)] MM Tryz.f137 a137 := by kernel_rfl
theorem d137 : SoundF Tryz.prog 137 s137 := sound_fn (fn := Tryz.f137) (T := [(84, s84), (170, s170)]) (M := MM) (ann := a137) (by kernel_rfl) (by kernel_rfl) (by kernel_rfl) (by kernel_rfl) mix (.cons d84 (.cons d170 .nil)) (e137 s84 s170)
theorem d171 : SoundF Tryz.prog 171 s171 := sound_stub (fn := Tryz.f171) (by kernel_rfl) (by kernel_rfl) (by kernel_rfl)
set_option maxRecDepth 100000 in
theorem e138 (s137 s85 s170 s171 : FS) : S138 s137 s85 s170 s171 = fnF Tryz.prog [(137, s137), (85, s85), (170, s170), (171, s171)] MM Tryz.f138 a138 := by kernel_rfl
theorem d138 : SoundF Tryz.prog 138 s138 := sound_fn (fn := Tryz.f138) (T := [(137, s137), (85, s85), (170, s170), (171, s171)]) (M := MM) (ann := a138) (by kernel_rfl) (by kernel_rfl) (by kernel_rfl) (by kernel_rfl) mix (.cons d137 (.cons d85 (.cons d170 (.cons d171 .nil)))) (e138 s137 s85 s170 s171)
set_option maxRecDepth 100000 in
theorem e88 : S88 = fnF Tryz.prog [] MM Tryz.f88 a88 := by kernel_rfl
theorem d88 : SoundF Tryz.prog 88 s88 := sound_fn (fn := Tryz.f88) (T := []) (M := MM) (ann := a88) (by kernel_rfl) (by kernel_rfl) (by kernel_rfl) (by kernel_rfl) mix .nil (e88)
set_option maxRecDepth 100000 in
theorem e86 (s137 s138 s56 s88 : FS) : S86 s137 s138 s56 s88 = fnF Tryz.prog [(137, s137), (138, s138), (56, s56), (88, s88)] MM Tryz.f86 a86 := by kernel_rfl
theorem do86 : SoundF Tryz.prog 86 o86 := sound_fn (fn := Tryz.f86) (T := [(137, s137), (138, s138), (56, s56), (88, s88)]) (M := MM) (ann := a86) (by kernel_rfl) (by kernel_rfl) (by kernel_rfl) (by kernel_rfl) mix (.cons d137 (.cons d138 (.cons d56 (.cons d88 .nil)))) (e86 s137 s138 s56 s88)
theorem d86 : SoundF Tryz.prog 86 s86 := decodeF_sound d56 (by kernel_rfl) do86
set_option maxRecDepth 100000 in
theorem e172 : S172 = fnF Tryz.prog [] MM Tryz.f172 a172 := by kernel_rfl
theorem d172 : SoundF Tryz.prog 172 s172 := sound_fn (fn := Tryz.f172) (T := []) (M := MM) (ann := a172) (by kernel_rfl) (by kernel_rfl) (by kernel_rfl) (by kernel_rfl) mix .nil (e172)
set_option maxRecDepth 100000 in
theorem e139 (s172 : FS) : S139 s172 = fnF Tryz.prog [(172, s172)] MM Tryz.f139 a139 := by kernel_rfl
theorem d139 : SoundF Tryz.prog 139 s139 := sound_fn (fn := Tryz.f139) (T := [(172, s172)]) (M := MM) (ann := a139) (by kernel_rfl) (by kernel_rfl) (by kernel_rfl) (by kernel_rfl) mix (.cons d172 .nil) (e139 s172)
theorem d68 : SoundF Tryz.prog 68 s68 := cpF_sound
set_option maxRecDepth 100000 in
theorem e36 (s67 s68 : FS) : S36 s67 s68 = fnF Tryz.prog [(67, s67), (68, s68)] MM Tryz.f36 a36 := by kernel_rfl
theorem d36 : SoundF Tryz.prog 36 s36 := sound_fn (fn := Tryz.f36) (T := [(67, s67), (68, s68)]) (M := MM) (ann := a36) (by kernel_rfl) (by kernel_rfl) (by kernel_rfl) (by kernel_rfl) mix (.cons d67 (.cons d68 .nil)) (e36 s67 s68)
theorem d227 : SoundF Tryz.prog 227 s227 := sound_stub (fn := Tryz.f227) (by kernel_rfl) (by kernel_rfl) (by kernel_rfl)
set_option maxRecDepth 100000 in
theorem e228 : S228 = fnF Tryz.prog [] MM Tryz.f228 a228 := by kernel_rfl
theorem d228 : SoundF Tryz.prog 228 s228 := sound_fn (fn := Tryz.f228) (T := []) (M := MM) (ann := a228) (by kernel_rfl) (by kernel_rfl) (by kernel_rfl) (by kernel_rfl) mix .nil (e228)
set_option maxRecDepth 100000 in
theorem e307 : S307 = fnF Tryz.prog [] MM Tryz.f307 a307 := by kernel_rfl
theorem d307 : SoundF Tryz.prog 307 s307 := sound_fn (fn := Tryz.f307) (T := []) (M := MM) (ann := a307) (by kernel_rfl) (by kernel_rfl) (by kernel_rfl) (by kernel_rfl) mix .nil (e307)
set_option maxRecDepth 100000 in
theorem e308 : S308 = fnF Tryz.prog [] MM Tryz.f308 a308 := by kernel_rfl
theorem d308 : SoundF Tryz.prog 308 s308 := sound_fn (fn := Tryz.f308) (T := []) (M := MM) (ann := a308) (by kernel_rfl) (by kernel_rfl) (by kernel_rfl) (by kernel_rfl) mix .nil (e308)
set_option maxRecDepth 100000 in
theorem e37 (s307 s308 : FS) : S37 s307 s308 = fnF Tryz.prog [(307, s307), (308, s308)] MM Tryz.f37 a37 := by kernel_rfl
theorem d37 : SoundF Tryz.prog 37 s37 := sound_fn (fn := Tryz.f37) (T := [(307, s307), (308, s308)]) (M := MM) (ann := a37) (by kernel_rfl) (by kernel_rfl) (by kernel_rfl) (by kernel_rfl) mix (.cons d307 (.cons d308 .nil)) (e37 s307 s308)
set_option maxRecDepth 100000 in
theorem e229 : S229 = fnF Tryz.prog [] MM Tryz.f229 a229 := by kernel_rfl
theorem d229 : SoundF Tryz.prog 229 s229 := sound_fn (fn := Tryz.f229) (T := []) (M := MM) (ann := a229) (by kernel_rfl) (by kernel_rfl) (by kernel_rfl) (by kernel_rfl) mix .nil (e229)
set_option maxRecDepth 100000 in
theorem e25 (s37 : FS) : S25 s37 = fnF Tryz.prog [(37, s37)] MM Tryz.f25 a25 := by kernel_rfl
theorem d25 : SoundF Tryz.prog 25 s25 := sound_fn (fn := Tryz.f25) (T := [(37, s37)]) (M := MM) (ann := a25) (by kernel_rfl) (by kernel_rfl) (by kernel_rfl) (by kernel_rfl) mix (.cons d37 .nil) (e25 s37)
set_option maxRecDepth 100000 in
theorem e230 (s37 s25 : FS) : S230 s37 s25 = fnF Tryz.prog [(37, s37), (25, s25)] MM Tryz.f230 a230 := by kernel_rfl
theorem d230 : SoundF Tryz.prog 230 s230 := sound_fn (fn := Tryz.f230) (T := [(37, s37), (25, s25)]) (M := MM) (ann := a230) (by kernel_rfl) (by kernel_rfl) (by kernel_rfl) (by kernel_rfl) mix (.cons d37 (.cons d25 .nil)) (e230 s37 s25)
set_option maxRecDepth 100000 in
theorem e173 (s226 s227 s228 s37 s229 s230 : FS) : S173 s226 s227 s228 s37 s229 s230 = fnF Tryz.prog [(226, s226), (227, s227), (228, s228), (37, s37), (229, s229), (230, s230)] MM Tryz.f173 a173 := by kernel_rfl
theorem d173 : SoundF Tryz.prog 173 s173 := sound_fn (fn := Tryz.f173) (T := [(226, s226), (227, s227), (228, s228), (37, s37), (229, s229), (230, s230)]) (M := MM) (ann := a173) (by kernel_rfl) (by kernel_rfl) (by kernel_rfl) (by kernel_rfl) mix (.cons d226 (.cons d227 (.cons d228 (.cons d37 (.cons d229 (.cons d230 .nil)))))) (e173 s226 s227 s228 s37 s229 s230)
set_option maxRecDepth 100000 in
theorem e141 (s36 s147 s173 : FS) : S141 s36 s147 s173 = fnF Tryz.prog [(36, s36), (147, s147), (173, s173)] MM Tryz.f141 a141 := by kernel_rfl
theorem d141 : SoundF Tryz.prog 141 s141 := sound_fn (fn := Tryz.f141) (T := [(36, s36), (147, s147), (173, s173)]) (M := MM) (ann := a141) (by kernel_rfl) (by kernel_rfl) (by kernel_rfl) (by kernel_rfl) mix (.cons d36 (.cons d147 (.cons d173 .nil))) (e141 s36 s147 s173)
set_option maxRecDepth 100000 in
theorem e98 : S98 = fnF Tryz.prog [] MM Tryz.f98 a98 := by kernel_rfl
theorem d98 : SoundF Tryz.prog 98 s98 := sound_fn (fn := Tryz.f98) (T := []) (M := MM) (ann := a98) (by kernel_rfl) (by kernel_rfl) (by kernel_rfl) (by kernel_rfl) mix .nil (e98)
set_option maxRecDepth 100000 in
theorem e140 (s98 : FS) : S140 s98 = fnF Tryz.prog [(98, s98)] MM Tryz.f140 a140 := by kernel_rfl
theorem d140 : SoundF Tryz.prog 140 s140 := sound_fn (fn := Tryz.f140) (T := [(98, s98)]) (M := MM) (ann := a140) (by kernel_rfl) (by kernel_rfl) (by kernel_rfl) (by kernel_rfl) mix (.cons d98 .nil) (e140 s98)
set_option maxRecDepth 100000 in
theorem e87 (s99 s139 s141 s140 : FS) : S87 s99 s139 s141 s140 = fnF Tryz.prog [(99, s99), (139, s139), (141, s141), (140, s140)] MM Tryz.f87 a87 := by kernel_rfl
theorem d87 : SoundF Tryz.prog 87 s87 := sound_fn (fn := Tryz.f87) (T := [(99, s99), (139, s139), (141, s141), (140, s140)]) (M := MM) (ann := a87) (by kernel_rfl) (by kernel_rfl) (by kernel_rfl) (by kernel_rfl) mix (.cons d99 (.cons d139 (.cons d141 (.cons d140 .nil)))) (e87 s99 s139 s141 s140)
set_option maxRecDepth 100000 in
theorem e50 (s84 s47 s85 s86 s87 s48 s88 : FS) : S50 s84 s47 s85 s86 s87 s48 s88 = fnF Tryz.prog [(84, s84), (47, s47), (85, s85), (86, s86), (87, s87), (48, s48), (88, s88)] MM Tryz.f50 a50 := by kernel_rfl
theorem d50 : SoundF Tryz.prog 50 s50 := sound_fn (fn := Tryz.f50) (T := [(84, s84), (47, s47), (85, s85), (86, s86), (87, s87), (48, s48), (88, s88)]) (M := MM) (ann := a50) (by kernel_rfl) (by kernel_rfl) (by kernel_rfl) (by kernel_rfl) mix (.cons d84 (.cons d47 (.cons d85 (.cons d86 (.cons d87 (.cons d48 (.cons d88 .nil))))))) (e50 s84 s47 s85 s86 s87 s48 s88)
set_option maxRecDepth 100000 in
theorem e143 : S143 = fnF Tryz.prog [] MM Tryz.f143 a143 := by kernel_rfl
theorem d143 : SoundF Tryz.prog 143 s143 := sound_fn (fn := Tryz.f143) (T := []) (M := MM) (ann := a143) (by kernel_rfl) (by kernel_rfl) (by kernel_rfl) (by kernel_rfl) mix .nil (e143)
set_option maxRecDepth 100000 in
theorem e174 (s143 : FS) : S174 s143 = fnF Tryz.prog [(143, s143)] MM Tryz.f174 a174 := by kernel_rfl
theorem d174 : SoundF Tryz.prog 174 s174 := sound_fn (fn := Tryz.f174) (T := [(143, s143)]) (M := MM) (ann := a174) (by kernel_rfl) (by kernel_rfl) (by kernel_rfl) (by kernel_rfl) mix (.cons d143 .nil) (e174 s143)
set_option maxRecDepth 100000 in
theorem e142 (s174 : FS) : S142 s174 = fnF Tryz.prog [(174, s174)] MM Tryz.f142 a142 := by kernel_rfl
theorem d142 : SoundF Tryz.prog 142 s142 := sound_fn (fn := Tryz.f142) (T := [(174, s174)]) (M := MM) (ann := a142) (by kernel_rfl) (by kernel_rfl) (by kernel_rfl) (by kernel_rfl) mix (.cons d174 .nil) (e142 s174)
set_option maxRecDepth 100000 in
theorem e92 (s142 : FS) : S92 s142 = fnF Tryz.prog [(142, s142)] MM Tryz.f92 a92 := by kernel_rfl
theorem d92 : SoundF Tryz.prog 92 s92 := sound_fn (fn := Tryz.f92) (T := [(142, s142)]) (M := MM) (ann := a92) (by kernel_rfl) (by kernel_rfl) (by kernel_rfl) (by kernel_rfl) mix (.cons d142 .nil) (e92 s142)
set_option maxRecDepth 100000 in
theorem e93 : S93 = fnF Tryz.prog [] MM Tryz.f93 a93 := by kernel_rfl
theorem d93 : SoundF Tryz.prog 93 s93 := sound_fn (fn := Tryz.f93) (T := []) (M := MM) (ann := a93) (by kernel_rfl) (by kernel_rfl) (by kernel_rfl) (by kernel_rfl) mix .nil (e93)
set_option maxRecDepth 100000 in
theorem e52 (s92 s93 s83 : FS) : S52 s92 s93 s83 = fnF Tryz.prog [(92, s92), (93, s93), (83, s83)] MM Tryz.f52 a52 := by kernel_rfl
theorem d52 : SoundF Tryz.prog 52 s52 := sound_fn (fn := Tryz.f52) (T := [(92, s92), (93, s93), (83, s83)]) (M := MM) (ann := a52) (by kernel_rfl) (by kernel_rfl) (by kernel_rfl) (by kernel_rfl) mix (.cons d92 (.cons d93 (.cons d83 .nil))) (e52 s92 s93 s83)
set_option maxRecDepth 100000 in
theorem e90 : S90 = fnF Tryz.prog [] MM Tryz.f90 a90 := by kernel_rfl
theorem d90 : SoundF Tryz.prog 90 s90 := sound_fn (fn := Tryz.f90) (T := []) (M := MM) (ann := a90) (by kernel_rfl) (by kernel_rfl) (by kernel_rfl) (by kernel_rfl) mix .nil (e90)
set_option maxRecDepth 100000 in
theorem e91 : S91 = fnF Tryz.prog [] MM Tryz.f91 a91 := by kernel_rfl
theorem d91 : SoundF Tryz.prog 91 s91 := sound_fn (fn := Tryz.f91) (T := []) (M := MM) (ann := a91) (by kernel_rfl) (by kernel_rfl) (by kernel_rfl) (by kernel_rfl) mix .nil (e91)
set_option maxRecDepth 100000 in
theorem e51 (s89 s90 s91 : FS) : S51 s89 s90 s91 = fnF Tryz.prog [(89, s89), (90, s90), (91, s91)] MM Tryz.f51 a51 := by kernel_rfl
theorem d51 : SoundF Tryz.prog 51 s51 := sound_fn (fn := Tryz.f51) (T := [(89, s89), (90, s90), (91, s91)]) (M := MM) (ann := a51) (by kernel_rfl) (by kernel_rfl) (by kernel_rfl) (by kernel_rfl) mix (.cons d89 (.cons d90 (.cons d91 .nil))) (e51 s89 s90 s91)
set_option maxRecDepth 100000 in
theorem e53 : S53 = fnF Tryz.prog [] MM Tryz.f53 a53 := by kernel_rfl
theorem d53 : SoundF Tryz.prog 53 s53 := sound_fn (fn := Tryz.f53) (T := []) (M := MM) (ann := a53) (by kernel_rfl) (by kernel_rfl) (by kernel_rfl) (by kernel_rfl) mix .nil (e53)
set_option maxRecDepth 100000 in
theorem e31 (s42 s43 s44 s46 s47 s48 s45 s49 s50 s52 s51 s53 : FS) : S31 s42 s43 s44 s46 s47 s48 s45 s49 s50 s52 s51 s53 = fnF Tryz.prog [(42, s42), (43, s43), (44, s44), (46, s46), (47, s47), (48, s48), (45, s45), (49, s49), (50, s50), (52, s52), (51, s51), (53, s53)] MM Tryz.f31 a31 := by kernel_rfl
theorem d31 : SoundF Tryz.prog 31 s31 := sound_fn (fn := Tryz.f31) (T := [(42, s42), (43, s43), (44, s44), (46, s46), (47, s47), (48, s48), (45, s45), (49, s49), (50, s50), (52, s52), (51, s51), (53, s53)]) (M := MM) (ann := a31) (by kernel_rfl) (by kernel_rfl) (by kernel_rfl) (by kernel_rfl) mix (.cons d42 (.cons d43 (.cons d44 (.cons d46 (.cons d47 (.cons d48 (.cons d45 (.cons d49 (.cons d50 (.cons d52 (.cons d51 (.cons d53 .nil)))))))))))) (e31 s42 s43 s44 s46 s47 s48 s45 s49 s50 s52 s51 s53)
set_option maxRecDepth 100000 in
theorem e94 (s80 : FS) : S94 s80 = fnF Tryz.prog [(80, s80)] MM Tryz.f94 a94 := by kernel_rfl
theorem d94 : SoundF Tryz.prog 94 s94 := sound_fn (fn := Tryz.f94) (T := [(80, s80)]) (M := MM) (ann := a94) (by kernel_rfl) (by kernel_rfl) (by kernel_rfl) (by kernel_rfl) mix (.cons d80 .nil) (e94 s80)
theorem d97 : SoundF Tryz.prog 97 s97 := sound_stub (fn := Tryz.f97) (by kernel_rfl) (by kernel_rfl) (by kernel_rfl)
set_option maxRecDepth 100000 in
theorem e95 (s97 : FS) : S95 s97 = fnF Tryz.prog [(97, s97)] MM Tryz.f95 a95 := by kernel_rfl
theorem d95 : SoundF Tryz.prog 95 s95 := sound_fn (fn := Tryz.f95) (T := [(97, s97)]) (M := MM) (ann := a95) (by kernel_rfl) (by kernel_rfl) (by kernel_rfl) (by kernel_rfl) mix (.cons d97 .nil) (e95 s97)
theorem d96 : SoundF Tryz.prog 96 s96 := sound_stub (fn := Tryz.f96) (by kernel_rfl) (by kernel_rfl) (by kernel_rfl)
set_option maxRecDepth 100000 in
theorem e54 (s94 s71 s95 s96 s97 s75 : FS) : S54 s94 s71 s95 s96 s97 s75 = fnF Tryz.prog [(94, s94), (71, s71), (95, s95), (96, s96), (97, s97), (75, s75)] MM Tryz.f54 a54 := by kernel_rfl
theorem d54 : SoundF Tryz.prog 54 s54 := sound_fn (fn := Tryz.f54) (T := [(94, s94), (71, s71), (95, s95), (96, s96), (97, s97), (75, s75)]) (M := MM) (ann := a54) (by kernel_rfl) (by kernel_rfl) (by kernel_rfl) (by kernel_rfl) mix (.cons d94 (.cons d71 (.cons d95 (.cons d96 (.cons d97 (.cons d75 .nil)))))) (e54 s94 s71 s95 s96 s97 s75)
set_option maxRecDepth 100000 in
theorem e32 (s54 : FS) : S32 s54 = fnF Tryz.prog [(54, s54)] MM Tryz.f32 a32 := by kernel_rfl
theorem d32 : SoundF Tryz.prog 32 s32 := sound_fn (fn := Tryz.f32) (T := [(54, s54)]) (M := MM) (ann := a32) (by kernel_rfl) (by kernel_rfl) (by kernel_rfl) (by kernel_rfl) mix (.cons d54 .nil) (e32 s54)
set_option maxRecDepth 100000 in
theorem e18 (s29 s30 s31 s32 : FS) : S18 s29 s30 s31 s32 = fnF Tryz.prog [(29, s29), (30, s30), (31, s31), (32, s32)] MM Tryz.f18 a18 := by kernel_rfl
theorem d18 : SoundF Tryz.prog 18 s18 := sound_fn (fn := Tryz.f18) (T := [(29, s29), (30, s30), (31, s31), (32, s32)]) (M := MM) (ann := a18) (by kernel_rfl) (by kernel_rfl) (by kernel_rfl) (by kernel_rfl) mix (.cons d29 (.cons d30 (.cons d31 (.cons d32 .nil)))) (e18 s29 s30 s31 s32)
set_option maxRecDepth 100000 in
theorem e11 : S11 = fnF Tryz.prog [] MM Tryz.f11 a11 := by kernel_rfl
theorem d11 : SoundF Tryz.prog 11 s11 := sound_fn (fn := Tryz.f11) (T := []) (M := MM) (ann := a11) (by kernel_rfl) (by kernel_rfl) (by kernel_rfl) (by kernel_rfl) mix .nil (e11)
set_option maxRecDepth 100000 in
theorem e55 (s98 : FS) : S55 s98 = fnF Tryz.prog [(98, s98)] MM Tryz.f55 a55 := by kernel_rfl
theorem d55 : SoundF Tryz.prog 55 s55 := sound_fn (fn := Tryz.f55) (T := [(98, s98)]) (M := MM) (ann := a55) (by kernel_rfl) (by kernel_rfl) (by kernel_rfl) (by kernel_rfl) mix (.cons d98 .nil) (e55 s98)
set_option maxRecDepth 100000 in
theorem e101 (s139 : FS) : S101 s139 = fnF Tryz.prog [(139, s139)] MM Tryz.f101 a101 := by kernel_rfl
theorem d101 : SoundF Tryz.prog 101 s101 := sound_fn (fn := Tryz.f101) (T := [(139, s139)]) (M := MM) (ann := a101) (by kernel_rfl) (by kernel_rfl) (by kernel_rfl) (by kernel_rfl) mix (.cons d139 .nil) (e101 s139)
set_option maxRecDepth 100000 in
theorem e57 (s101 : FS) : S57 s101 = fnF Tryz.prog [(101, s101)] MM Tryz.f57 a57 := by kernel_rfl
theorem d57 : SoundF Tryz.prog 57 s57 := sound_fn (fn := Tryz.f57) (T := [(101, s101)]) (M := MM) (ann := a57) (by kernel_rfl) (by kernel_rfl) (by kernel_rfl) (by kernel_rfl) mix (.cons d101 .nil) (e57 s101)
set_option maxRecDepth 100000 in
theorem e102 (s132 : FS) : S102 s132 = fnF Tryz.prog [(132, s132)] MM Tryz.f102 a102 := by kernel_rfl
theorem d102 : SoundF Tryz.prog 102 s102 := sound_fn (fn := Tryz.f102) (T := [(132, s132)]) (M := MM) (ann := a102) (by kernel_rfl) (by kernel_rfl) (by kernel_rfl) (by kernel_rfl) mix (.cons d132 .nil) (e102 s132)
set_option maxRecDepth 100000 in
theorem e103 : S103 = fnF Tryz.prog [] MM Tryz.f103 a103 := by kernel_rfl
theorem d103 : SoundF Tryz.prog 103 s103 := sound_fn (fn := Tryz.f103) (T := []) (M := MM) (ann := a103) (by kernel_rfl) (by kernel_rfl) (by kernel_rfl) (by kernel_rfl) mix .nil (e103)
set_option maxRecDepth 100000 in
theorem e58 (s102 s103 : FS) : S58 s102 s103 = fnF Tryz.prog [(102, s102), (103, s103)] MM Tryz.f58 a58 := by kernel_rfl
theorem d58 : SoundF Tryz.prog 58 s58 := sound_fn (fn := Tryz.f58) (T := [(102, s102), (103, s103)]) (M := MM) (ann := a58) (by kernel_rfl) (by kernel_rfl) (by kernel_rfl) (by kernel_rfl) mix (.cons d102 (.cons d103 .nil)) (e58 s102 s103)
set_option maxRecDepth 100000 in
theorem e33 (s55 s56 s57 s59 s58 : FS) : S33 s55 s56 s57 s59 s58 = fnF Tryz.prog [(55, s55), (56, s56), (57, s57), (59, s59), (58, s58)] MM Tryz.f33 a33 := by kernel_rfl
theorem d33 : SoundF Tryz.prog 33 s33 := sound_fn (fn := Tryz.f33) (T := [(55, s55), (56, s56), (57, s57), (59, s59), (58, s58)]) (M := MM) (ann := a33) (by kernel_rfl) (by kernel_rfl) (by kernel_rfl) (by kernel_rfl) mix (.cons d55 (.cons d56 (.cons d57 (.cons d59 (.cons d58 .nil))))) (e33 s55 s56 s57 s59 s58)
set_option maxRecDepth 100000 in
theorem e19 (s33 : FS) : S19 s33 = fnF Tryz.prog [(33, s33)] MM Tryz.f19 a19 := by kernel_rfl
theorem d19 : SoundF Tryz.prog 19 s19 := sound_fn (fn := Tryz.f19) (T := [(33, s33)]) (M := MM) (ann := a19) (by kernel_rfl) (by kernel_rfl) (by kernel_rfl) (by kernel_rfl) mix (.cons d33 .nil) (e19 s33)
set_option maxRecDepth 100000 in
theorem e61 : S61 = fnF Tryz.prog [] MM Tryz.f61 a61 := by kernel_rfl
theorem d61 : SoundF Tryz.prog 61 s61 := sound_fn (fn := Tryz.f61) (T := []) (M := MM) (ann := a61) (by kernel_rfl) (by kernel_rfl) (by kernel_rfl) (by kernel_rfl) mix .nil (e61)
set_option maxRecDepth 100000 in
theorem e107 : S107 = fnF Tryz.prog [] MM Tryz.f107 a107 := by kernel_rfl
theorem d107 : SoundF Tryz.prog 107 s107 := sound_fn (fn := Tryz.f107) (T := []) (M := MM) (ann := a107) (by kernel_rfl) (by kernel_rfl) (by kernel_rfl) (by kernel_rfl) mix .nil (e107)
set_option maxRecDepth 100000 in
theorem e108 : S108 = fnF Tryz.prog [] MM Tryz.f108 a108 := by kernel_rfl
theorem d108 : SoundF Tryz.prog 108 s108 := sound_fn (fn := Tryz.f108) (T := []) (M := MM) (ann := a108) (by kernel_rfl) (by kernel_rfl) (by kernel_rfl) (by kernel_rfl) mix .nil (e108)
set_option maxRecDepth 100000 in
theorem e110 : S110 = fnF Tryz.prog [] MM Tryz.f110 a110 := by kernel_rfl
theorem d110 : SoundF Tryz.prog 110 s110 := sound_fn (fn := Tryz.f110) (T := []) (M := MM) (ann := a110) (by kernel_rfl) (by kernel_rfl) (by kernel_rfl) (by kernel_rfl) mix .nil (e110)
set_option maxRecDepth 100000 in
theorem e109 (s110 s91 s83 : FS) : S109 s110 s91 s83 = fnF Tryz.prog [(110, s110), (91, s91), (83, s83)] MM Tryz.f109 a109 := by kernel_rfl
theorem d109 : SoundF Tryz.prog 109 s109 := sound_fn (fn := Tryz.f109) (T := [(110, s110), (91, s91), (83, s83)]) (M := MM) (ann := a109) (by kernel_rfl) (by kernel_rfl) (by kernel_rfl) (by kernel_rfl) mix (.cons d110 (.cons d91 (.cons d83 .nil))) (e109 s110 s91 s83)
theorem d111 : SoundF Tryz.prog 111 s111 := sound_stub (fn := Tryz.f111) (by kernel_rfl) (by kernel_rfl) (by kernel_rfl)
set_option maxRecDepth 100000 in
theorem e60 (s61 s107 s108 s110 s109 s111 : FS) : S60 s61 s107 s108 s110 s109 s111 = fnF Tryz.prog [(61, s61), (107, s107), (108, s108), (110, s110), (109, s109), (111, s111)] MM Tryz.f60 a60 := by kernel_rfl
theorem d60 : SoundF Tryz.prog 60 s60 := sound_fn (fn := Tryz.f60) (T := [(61, s61), (107, s107), (108, s108), (110, s110), (109, s109), (111, s111)]) (M := MM) (ann := a60) (by kernel_rfl) (by kernel_rfl) (by kernel_rfl) (by kernel_rfl) mix (.cons d61 (.cons d107 (.cons d108 (.cons d110 (.cons d109 (.cons d111 .nil)))))) (e60 s61 s107 s108 s110 s109 s111)
set_option maxRecDepth 100000 in
theorem e112 : S112 = fnF Tryz.prog [] MM Tryz.f112 a112 := by kernel_rfl
theorem d112 : SoundF Tryz.prog 112 s112 := sound_fn (fn := Tryz.f112) (T := []) (M := MM) (ann := a112) (by kernel_rfl) (by kernel_rfl) (by kernel_rfl) (by kernel_rfl) mix .nil (e112)
end Go.Proofs.YtmddhlfjilkdfaaGreatDoor
