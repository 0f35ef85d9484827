/-
  No claim by itself: the functions do what their texts mean. No condition.
-/
import Derived.Test.YtpchmdddkpocgaaGreatDoorTD3
import Derived.Test.YtpchmdddkpocgaaGreatDoorP17
namespace Go.Proofs.YtpchmdddkpocgaaGreatDoor
set_option linter.unusedVariables false
set_option maxRecDepth 100000
theorem mix : Tryz.prog.follows .mixedOrders = true := by kernel_rfl
theorem sF (fn : Func) (ann : Ann) {f : FuncId} {T : Tbl} {s : FS} (hT : SoundT Tryz.prog T) (hs : s = fnF Tryz.prog T MM fn ann) (hf : Tryz.prog.funcs[f]? = some fn := by kernel_rfl) (hn : (fn.name == "runtime.NumGoroutine") = false := by kernel_rfl) (hb : fn.body.isSome = true := by kernel_rfl) (hle : Nat.ble (Nat.add fn.params.toList.length fn.nfree) fn.ntmps = true := by kernel_rfl) : SoundF Tryz.prog f s := sound_fn hf hn hb hle mix hT hs
theorem d33 : SoundF Tryz.prog 33 s33 := sF Tryz.f33 a33 .nil (by kernel_rfl)
theorem d34 : SoundF Tryz.prog 34 s34 := sF Tryz.f34 a34 .nil (by kernel_rfl)
theorem e55 : S55 = fnF Tryz.prog [] MM Tryz.f55 a55 := by kernel_rfl
theorem d55 : SoundF Tryz.prog 55 s55 := sF Tryz.f55 a55 (T := []) .nil e55
theorem d170 : SoundF Tryz.prog 170 s170 := sF Tryz.f170 a170 .nil (by kernel_rfl)
theorem d94 : SoundF Tryz.prog 94 s94 := sF Tryz.f94 a94 (.cons d170 .nil) (by kernel_rfl)
theorem d95 : SoundF Tryz.prog 95 s95 := sound_stub (fn := Tryz.f95) (by kernel_rfl) (by kernel_rfl) (by kernel_rfl)
theorem d96 : SoundF Tryz.prog 96 s96 := sound_stub (fn := Tryz.f96) (by kernel_rfl) (by kernel_rfl) (by kernel_rfl)
theorem d97 : SoundF Tryz.prog 97 s97 := sound_stub (fn := Tryz.f97) (by kernel_rfl) (by kernel_rfl) (by kernel_rfl)
theorem e177 : S177 = fnF Tryz.prog [] MM Tryz.f177 a177 := by kernel_rfl
theorem d177 : SoundF Tryz.prog 177 s177 := sF Tryz.f177 a177 (T := []) .nil e177
theorem d98 : SoundF Tryz.prog 98 s98 := sF Tryz.f98 a98 (.cons d177 (.cons d170 .nil)) (by kernel_rfl)
theorem d56 : SoundF Tryz.prog 56 s56 := sF Tryz.f56 a56 (.cons d94 (.cons d95 (.cons d96 (.cons d97 (.cons d98 .nil))))) (by kernel_rfl)
theorem d100 : SoundF Tryz.prog 100 s100 := sF Tryz.f100 a100 .nil (by kernel_rfl)
theorem d178 : SoundF Tryz.prog 178 s178 := sound_stub (fn := Tryz.f178) (by kernel_rfl) (by kernel_rfl) (by kernel_rfl)
theorem d250 : SoundF Tryz.prog 250 s250 := sound_stub (fn := Tryz.f250) (by kernel_rfl) (by kernel_rfl) (by kernel_rfl)
theorem e251 : S251 = fnF Tryz.prog [] MM Tryz.f251 a251 := by kernel_rfl
theorem d251 : SoundF Tryz.prog 251 s251 := sF Tryz.f251 a251 (T := []) .nil e251
theorem e218 (s250 s251 : FS) : S218 s250 s251 = fnF Tryz.prog [(250, s250), (251, s251)] MM Tryz.f218 a218 := by kernel_rfl
theorem d218 : SoundF Tryz.prog 218 s218 := sF Tryz.f218 a218 (T := [(250, s250), (251, s251)]) (.cons d250 (.cons d251 .nil)) (e218 s250 s251)
theorem d247 : SoundF Tryz.prog 247 s247 := sound_stub (fn := Tryz.f247) (by kernel_rfl) (by kernel_rfl) (by kernel_rfl)
theorem d241 : SoundF Tryz.prog 241 s241 := sF Tryz.f241 a241 (.cons d247 .nil) (by kernel_rfl)
theorem d242 : SoundF Tryz.prog 242 s242 := sound_stub (fn := Tryz.f242) (by kernel_rfl) (by kernel_rfl) (by kernel_rfl)
theorem d243 : SoundF Tryz.prog 243 s243 := sound_stub (fn := Tryz.f243) (by kernel_rfl) (by kernel_rfl) (by kernel_rfl)
theorem d244 : SoundF Tryz.prog 244 s244 := sound_stub (fn := Tryz.f244) (by kernel_rfl) (by kernel_rfl) (by kernel_rfl)
theorem d245 : SoundF Tryz.prog 245 s245 := sound_stub (fn := Tryz.f245) (by kernel_rfl) (by kernel_rfl) (by kernel_rfl)
theorem d246 : SoundF Tryz.prog 246 s246 := sound_stub (fn := Tryz.f246) (by kernel_rfl) (by kernel_rfl) (by kernel_rfl)
theorem d248 : SoundF Tryz.prog 248 s248 := sound_stub (fn := Tryz.f248) (by kernel_rfl) (by kernel_rfl) (by kernel_rfl)
theorem d249 : SoundF Tryz.prog 249 s249 := sound_stub (fn := Tryz.f249) (by kernel_rfl) (by kernel_rfl) (by kernel_rfl)
theorem d217 : SoundF Tryz.prog 217 s217 := sF Tryz.f217 a217 (T := [(241, s241), (242, s242), (243, s243), (244, s244), (245, s245), (246, s246), (247, s247), (248, s248), (249, s249), (217, sx)]) (.cons d241 (.cons d242 (.cons d243 (.cons d244 (.cons d245 (.cons d246 (.cons d247 (.cons d248 (.cons d249 (.cons (sound_stub (fn := Tryz.f217) (by kernel_rfl) (by kernel_rfl) (by kernel_rfl)) .nil)))))))))) (by kernel_rfl)
theorem d179 : SoundF Tryz.prog 179 s179 := sF Tryz.f179 a179 (.cons d218 (.cons d217 .nil)) (by kernel_rfl)
theorem d99 : SoundF Tryz.prog 99 s99 := soF_sound d179 (by kernel_rfl)
theorem d57 : SoundF Tryz.prog 57 s57 := sF Tryz.f57 a57 (.cons d100 (.cons d99 .nil)) (by kernel_rfl)
theorem d59 : SoundF Tryz.prog 59 s59 := sF Tryz.f59 a59 (.cons d55 .nil) (by kernel_rfl)
theorem e168 : S168 = fnF Tryz.prog [] MM Tryz.f168 a168 := by kernel_rfl
theorem d168 : SoundF Tryz.prog 168 s168 := sF Tryz.f168 a168 (T := []) .nil e168
theorem d103 : SoundF Tryz.prog 103 s103 := sF Tryz.f103 a103 (.cons d168 .nil) (by kernel_rfl)
theorem d60 : SoundF Tryz.prog 60 s60 := sF Tryz.f60 a60 (.cons d103 .nil) (by kernel_rfl)
theorem e104 : S104 = fnF Tryz.prog [] MM Tryz.f104 a104 := by kernel_rfl
theorem d104 : SoundF Tryz.prog 104 s104 := sF Tryz.f104 a104 (T := []) .nil e104
theorem d272 : SoundF Tryz.prog 272 s272 := sound_stub (fn := Tryz.f272) (by kernel_rfl) (by kernel_rfl) (by kernel_rfl)
theorem e264 (s272 : FS) : S264 s272 = fnF Tryz.prog [(272, s272)] MM Tryz.f264 a264 := by kernel_rfl
theorem d264 : SoundF Tryz.prog 264 s264 := sF Tryz.f264 a264 (T := [(272, s272)]) (.cons d272 .nil) (e264 s272)
theorem e235 (s264 : FS) : S235 s264 = fnF Tryz.prog [(264, s264)] MM Tryz.f235 a235 := by kernel_rfl
theorem d235 : SoundF Tryz.prog 235 s235 := sF Tryz.f235 a235 (T := [(264, s264)]) (.cons d264 .nil) (e235 s264)
theorem e206 (s235 : FS) : S206 s235 = fnF Tryz.prog [(235, s235)] MM Tryz.f206 a206 := by kernel_rfl
theorem d206 : SoundF Tryz.prog 206 s206 := sF Tryz.f206 a206 (T := [(235, s235)]) (.cons d235 .nil) (e206 s235)
theorem e236 (s235 : FS) : S236 s235 = fnF Tryz.prog [(235, s235)] MM Tryz.f236 a236 := by kernel_rfl
theorem d236 : SoundF Tryz.prog 236 s236 := sF Tryz.f236 a236 (T := [(235, s235)]) (.cons d235 .nil) (e236 s235)
theorem e207 (s236 : FS) : S207 s236 = fnF Tryz.prog [(236, s236)] MM Tryz.f207 a207 := by kernel_rfl
theorem d207 : SoundF Tryz.prog 207 s207 := sF Tryz.f207 a207 (T := [(236, s236)]) (.cons d236 .nil) (e207 s236)
theorem e151 (s206 s207 : FS) : S151 s206 s207 = fnF Tryz.prog [(206, s206), (207, s207)] MM Tryz.f151 a151 := by kernel_rfl
theorem d151 : SoundF Tryz.prog 151 s151 := sF Tryz.f151 a151 (T := [(206, s206), (207, s207)]) (.cons d206 (.cons d207 .nil)) (e151 s206 s207)
theorem e105 (s104 : FS) : S105 s104 = fnF Tryz.prog [(104, s104)] MM Tryz.f105 a105 := by kernel_rfl
theorem d105 : SoundF Tryz.prog 105 s105 := sF Tryz.f105 a105 (T := [(104, s104)]) (.cons d104 .nil) (e105 s104)
theorem e205 (s104 s105 : FS) : S205 s104 s105 = fnF Tryz.prog [(104, s104), (105, s105)] MM Tryz.f205 a205 := by kernel_rfl
theorem d205 : SoundF Tryz.prog 205 s205 := sF Tryz.f205 a205 (T := [(104, s104), (105, s105)]) (.cons d104 (.cons d105 .nil)) (e205 s104 s105)
theorem e143 (s104 s105 s205 : FS) : S143 s104 s105 s205 = fnF Tryz.prog [(104, s104), (105, s105), (205, s205)] MM Tryz.f143 a143 := by kernel_rfl
theorem d143 : SoundF Tryz.prog 143 s143 := sF Tryz.f143 a143 (T := [(104, s104), (105, s105), (205, s205)]) (.cons d104 (.cons d105 (.cons d205 .nil))) (e143 s104 s105 s205)
theorem e79 (s151 s143 : FS) : S79 s151 s143 = fnF Tryz.prog [(151, s151), (143, s143)] MM Tryz.f79 a79 := by kernel_rfl
theorem d79 : SoundF Tryz.prog 79 s79 := sF Tryz.f79 a79 (T := [(151, s151), (143, s143)]) (.cons d151 (.cons d143 .nil)) (e79 s151 s143)
theorem e74 (s79 s143 : FS) : S74 s79 s143 = fnF Tryz.prog [(79, s79), (143, s143)] MM Tryz.f74 a74 := by kernel_rfl
theorem d74 : SoundF Tryz.prog 74 s74 := sF Tryz.f74 a74 (T := [(79, s79), (143, s143)]) (.cons d79 (.cons d143 .nil)) (e74 s79 s143)
theorem d61 : SoundF Tryz.prog 61 s61 := sF Tryz.f61 a61 (.cons d104 (.cons d74 (.cons d105 .nil))) (by kernel_rfl)
theorem e175 : S175 = fnF Tryz.prog [] MM Tryz.f175 a175 := by kernel_rfl
theorem d175 : SoundF Tryz.prog 175 s175 := sF Tryz.f175 a175 (T := []) .nil e175
theorem d174 : SoundF Tryz.prog 174 s174 := sF Tryz.f174 a174 (.cons d175 .nil) (by kernel_rfl)
theorem e147 : S147 = fnF Tryz.prog [] MM Tryz.f147 a147 := by kernel_rfl
theorem d147 : SoundF Tryz.prog 147 s147 := sF Tryz.f147 a147 (T := []) .nil e147
theorem e148 (s147 : FS) : S148 s147 = fnF Tryz.prog [(147, s147)] MM Tryz.f148 a148 := by kernel_rfl
theorem d148 : SoundF Tryz.prog 148 s148 := sF Tryz.f148 a148 (T := [(147, s147)]) (.cons d147 .nil) (e148 s147)
theorem e149 : S149 = fnF Tryz.prog [] MM Tryz.f149 a149 := by kernel_rfl
theorem d149 : SoundF Tryz.prog 149 s149 := sF Tryz.f149 a149 (T := []) .nil e149
theorem e77 (s104 s148 s147 s149 : FS) : S77 s104 s148 s147 s149 = fnF Tryz.prog [(104, s104), (148, s148), (147, s147), (149, s149)] MM Tryz.f77 a77 := by kernel_rfl
theorem d77 : SoundF Tryz.prog 77 s77 := sF Tryz.f77 a77 (T := [(104, s104), (148, s148), (147, s147), (149, s149)]) (.cons d104 (.cons d148 (.cons d147 (.cons d149 .nil)))) (e77 s104 s148 s147 s149)
theorem d101 : SoundF Tryz.prog 101 s101 := sF Tryz.f101 a101 (.cons d174 (.cons d104 (.cons d105 (.cons d77 .nil)))) (by kernel_rfl)
theorem e106 : S106 = fnF Tryz.prog [] MM Tryz.f106 a106 := by kernel_rfl
theorem d106 : SoundF Tryz.prog 106 s106 := sF Tryz.f106 a106 (T := []) .nil e106
theorem e62 (s106 : FS) : S62 s106 = fnF Tryz.prog [(106, s106)] MM Tryz.f62 a62 := by kernel_rfl
theorem d62 : SoundF Tryz.prog 62 s62 := sF Tryz.f62 a62 (T := [(106, s106)]) (.cons d106 .nil) (e62 s106)
theorem e112 (s175 : FS) : S112 s175 = fnF Tryz.prog [(175, s175)] MM Tryz.f112 a112 := by kernel_rfl
theorem d112 : SoundF Tryz.prog 112 s112 := sF Tryz.f112 a112 (T := [(175, s175)]) (.cons d175 .nil) (e112 s175)
theorem e219 (s112 s104 s77 s105 : FS) : S219 s112 s104 s77 s105 = fnF Tryz.prog [(112, s112), (104, s104), (77, s77), (105, s105)] MM Tryz.f219 a219 := by kernel_rfl
theorem d219 : SoundF Tryz.prog 219 s219 := sF Tryz.f219 a219 (T := [(112, s112), (104, s104), (77, s77), (105, s105)]) (.cons d112 (.cons d104 (.cons d77 (.cons d105 .nil)))) (e219 s112 s104 s77 s105)
theorem d181 : SoundF Tryz.prog 181 s181 := sF Tryz.f181 a181 (.cons d101 (.cons d219 .nil)) (by kernel_rfl)
theorem d102 : SoundF Tryz.prog 102 s102 := sF Tryz.f102 a102 (.cons d181 (.cons d98 .nil)) (by kernel_rfl)
theorem d58 : SoundF Tryz.prog 58 s58 := sF Tryz.f58 a58 (.cons d101 (.cons d62 (.cons d102 .nil))) (by kernel_rfl)
theorem e107 : S107 = fnF Tryz.prog [] MM Tryz.f107 a107 := by kernel_rfl
theorem d107 : SoundF Tryz.prog 107 s107 := sF Tryz.f107 a107 (T := []) .nil e107
theorem e108 (s107 : FS) : S108 s107 = fnF Tryz.prog [(107, s107)] MM Tryz.f108 a108 := by kernel_rfl
theorem d108 : SoundF Tryz.prog 108 s108 := sF Tryz.f108 a108 (T := [(107, s107)]) (.cons d107 .nil) (e108 s107)
theorem e220 : S220 = fnF Tryz.prog [] MM Tryz.f220 a220 := by kernel_rfl
theorem d220 : SoundF Tryz.prog 220 s220 := sF Tryz.f220 a220 (T := []) .nil e220
theorem e182 (s107 s220 : FS) : S182 s107 s220 = fnF Tryz.prog [(107, s107), (220, s220)] MM Tryz.f182 a182 := by kernel_rfl
theorem d182 : SoundF Tryz.prog 182 s182 := sF Tryz.f182 a182 (T := [(107, s107), (220, s220)]) (.cons d107 (.cons d220 .nil)) (e182 s107 s220)
theorem e252 (s107 s108 s236 : FS) : S252 s107 s108 s236 = fnF Tryz.prog [(107, s107), (108, s108), (236, s236)] MM Tryz.f252 a252 := by kernel_rfl
theorem d252 : SoundF Tryz.prog 252 s252 := sF Tryz.f252 a252 (T := [(107, s107), (108, s108), (236, s236)]) (.cons d107 (.cons d108 (.cons d236 .nil))) (e252 s107 s108 s236)
theorem e221 (s252 s220 : FS) : S221 s252 s220 = fnF Tryz.prog [(252, s252), (220, s220)] MM Tryz.f221 a221 := by kernel_rfl
theorem d221 : SoundF Tryz.prog 221 s221 := sF Tryz.f221 a221 (T := [(252, s252), (220, s220)]) (.cons d252 (.cons d220 .nil)) (e221 s252 s220)
theorem e183 (s182 s108 s220 s221 : FS) : S183 s182 s108 s220 s221 = fnF Tryz.prog [(182, s182), (108, s108), (220, s220), (221, s221)] MM Tryz.f183 a183 := by kernel_rfl
theorem d183 : SoundF Tryz.prog 183 s183 := sF Tryz.f183 a183 (T := [(182, s182), (108, s108), (220, s220), (221, s221)]) (.cons d182 (.cons d108 (.cons d220 (.cons d221 .nil)))) (e183 s182 s108 s220 s221)
theorem e111 : S111 = fnF Tryz.prog [] MM Tryz.f111 a111 := by kernel_rfl
theorem d111 : SoundF Tryz.prog 111 s111 := sF Tryz.f111 a111 (T := []) .nil e111
theorem e109 (s182 s183 s74 s111 : FS) : S109 s182 s183 s74 s111 = fnF Tryz.prog [(182, s182), (183, s183), (74, s74), (111, s111)] MM Tryz.f109 a109 := by kernel_rfl
theorem d109 : SoundF Tryz.prog 109 s109 := sF Tryz.f109 a109 (T := [(182, s182), (183, s183), (74, s74), (111, s111)]) (.cons d182 (.cons d183 (.cons d74 (.cons d111 .nil)))) (e109 s182 s183 s74 s111)
theorem e208 : S208 = fnF Tryz.prog [] MM Tryz.f208 a208 := by kernel_rfl
theorem d208 : SoundF Tryz.prog 208 s208 := sF Tryz.f208 a208 (T := []) .nil e208
theorem e152 (s208 : FS) : S152 s208 = fnF Tryz.prog [(208, s208)] MM Tryz.f152 a152 := by kernel_rfl
theorem d152 : SoundF Tryz.prog 152 s152 := sF Tryz.f152 a152 (T := [(208, s208)]) (.cons d208 .nil) (e152 s208)
theorem d169 : SoundF Tryz.prog 169 s169 := cpdF_sound cpF_sound
theorem e92 (s168 s169 : FS) : S92 s168 s169 = fnF Tryz.prog [(168, s168), (169, s169)] MM Tryz.f92 a92 := by kernel_rfl
theorem d92 : SoundF Tryz.prog 92 s92 := sF Tryz.f92 a92 (T := [(168, s168), (169, s169)]) (.cons d168 (.cons d169 .nil)) (e92 s168 s169)
theorem d253 : SoundF Tryz.prog 253 s253 := sound_stub (fn := Tryz.f253) (by kernel_rfl) (by kernel_rfl) (by kernel_rfl)
theorem d254 : SoundF Tryz.prog 254 s254 := sF Tryz.f254 a254 .nil (by kernel_rfl)
theorem d307 : SoundF Tryz.prog 307 s307 := sF Tryz.f307 a307 .nil (by kernel_rfl)
theorem d308 : SoundF Tryz.prog 308 s308 := sound_stub (fn := Tryz.f308) (by kernel_rfl) (by kernel_rfl) (by kernel_rfl)
theorem d93 : SoundF Tryz.prog 93 s93 := sF Tryz.f93 a93 (.cons d307 (.cons d308 .nil)) (by kernel_rfl)
theorem d255 : SoundF Tryz.prog 255 s255 := sF Tryz.f255 a255 .nil (by kernel_rfl)
theorem d51 : SoundF Tryz.prog 51 s51 := sF Tryz.f51 a51 (.cons d93 .nil) (by kernel_rfl)
theorem d256 : SoundF Tryz.prog 256 s256 := sF Tryz.f256 a256 (.cons d93 (.cons d51 .nil)) (by kernel_rfl)
theorem e222 (s236 s253 s254 s93 s255 s256 : FS) : S222 s236 s253 s254 s93 s255 s256 = fnF Tryz.prog [(236, s236), (253, s253), (254, s254), (93, s93), (255, s255), (256, s256)] MM Tryz.f222 a222 := by kernel_rfl
theorem do222 : SoundF Tryz.prog 222 o222 := sF Tryz.f222 a222 (T := [(236, s236), (253, s253), (254, s254), (93, s93), (255, s255), (256, s256)]) (.cons d236 (.cons d253 (.cons d254 (.cons d93 (.cons d255 (.cons d256 .nil)))))) (e222 s236 s253 s254 s93 s255 s256)
theorem d222 : SoundF Tryz.prog 222 s222 := doF_sound do222
theorem e185 (s92 s151 s222 : FS) : S185 s92 s151 s222 = fnF Tryz.prog [(92, s92), (151, s151), (222, s222)] MM Tryz.f185 a185 := by kernel_rfl
theorem d185 : SoundF Tryz.prog 185 s185 := sF Tryz.f185 a185 (T := [(92, s92), (151, s151), (222, s222)]) (.cons d92 (.cons d151 (.cons d222 .nil))) (e185 s92 s151 s222)
theorem e90 : S90 = fnF Tryz.prog [] MM Tryz.f90 a90 := by kernel_rfl
theorem d90 : SoundF Tryz.prog 90 s90 := sF Tryz.f90 a90 (T := []) .nil e90
theorem e184 (s90 : FS) : S184 s90 = fnF Tryz.prog [(90, s90)] MM Tryz.f184 a184 := by kernel_rfl
theorem d184 : SoundF Tryz.prog 184 s184 := sF Tryz.f184 a184 (T := [(90, s90)]) (.cons d90 .nil) (e184 s90)
theorem e110 (s79 s152 s185 s184 : FS) : S110 s79 s152 s185 s184 = fnF Tryz.prog [(79, s79), (152, s152), (185, s185), (184, s184)] MM Tryz.f110 a110 := by kernel_rfl
theorem d110 : SoundF Tryz.prog 110 s110 := sF Tryz.f110 a110 (T := [(79, s79), (152, s152), (185, s185), (184, s184)]) (.cons d79 (.cons d152 (.cons d185 (.cons d184 .nil)))) (e110 s79 s152 s185 s184)
theorem d63 : SoundF Tryz.prog 63 s63 := sF Tryz.f63 a63 (.cons d107 (.cons d60 (.cons d108 (.cons d109 (.cons d110 (.cons d61 (.cons d111 .nil))))))) (by kernel_rfl)
theorem d187 : SoundF Tryz.prog 187 s187 := sF Tryz.f187 a187 .nil (by kernel_rfl)
theorem d223 : SoundF Tryz.prog 223 s223 := sF Tryz.f223 a223 (.cons d187 .nil) (by kernel_rfl)
theorem d186 : SoundF Tryz.prog 186 s186 := sF Tryz.f186 a186 (.cons d223 .nil) (by kernel_rfl)
theorem d115 : SoundF Tryz.prog 115 s115 := sF Tryz.f115 a115 (.cons d186 .nil) (by kernel_rfl)
theorem e116 : S116 = fnF Tryz.prog [] MM Tryz.f116 a116 := by kernel_rfl
theorem d116 : SoundF Tryz.prog 116 s116 := sF Tryz.f116 a116 (T := []) .nil e116
theorem d65 : SoundF Tryz.prog 65 s65 := sF Tryz.f65 a65 (.cons d115 (.cons d116 (.cons d106 .nil))) (by kernel_rfl)
theorem d113 : SoundF Tryz.prog 113 s113 := sF Tryz.f113 a113 .nil (by kernel_rfl)
theorem e114 : S114 = fnF Tryz.prog [] MM Tryz.f114 a114 := by kernel_rfl
theorem d114 : SoundF Tryz.prog 114 s114 := sF Tryz.f114 a114 (T := []) .nil e114
theorem d64 : SoundF Tryz.prog 64 s64 := sF Tryz.f64 a64 (.cons d112 (.cons d113 (.cons d114 .nil))) (by kernel_rfl)
theorem e66 : S66 = fnF Tryz.prog [] MM Tryz.f66 a66 := by kernel_rfl
theorem d66 : SoundF Tryz.prog 66 s66 := sF Tryz.f66 a66 (T := []) .nil e66
theorem d35 : SoundF Tryz.prog 35 s35 := sF Tryz.f35 a35 (.cons d55 (.cons d56 (.cons d57 (.cons d59 (.cons d60 (.cons d61 (.cons d58 (.cons d62 (.cons d63 (.cons d65 (.cons d64 (.cons d66 .nil)))))))))))) (by kernel_rfl)
theorem d117 : SoundF Tryz.prog 117 s117 := sF Tryz.f117 a117 (.cons d103 .nil) (by kernel_rfl)
theorem d120 : SoundF Tryz.prog 120 s120 := sound_stub (fn := Tryz.f120) (by kernel_rfl) (by kernel_rfl) (by kernel_rfl)
theorem d118 : SoundF Tryz.prog 118 s118 := sF Tryz.f118 a118 (.cons d120 .nil) (by kernel_rfl)
theorem d119 : SoundF Tryz.prog 119 s119 := sound_stub (fn := Tryz.f119) (by kernel_rfl) (by kernel_rfl) (by kernel_rfl)
theorem d67 : SoundF Tryz.prog 67 s67 := sF Tryz.f67 a67 (.cons d117 (.cons d94 (.cons d118 (.cons d119 (.cons d120 (.cons d98 .nil)))))) (by kernel_rfl)
theorem d36 : SoundF Tryz.prog 36 s36 := sF Tryz.f36 a36 (.cons d67 .nil) (by kernel_rfl)
theorem d17 : SoundF Tryz.prog 17 s17 := sF Tryz.f17 a17 (.cons d33 (.cons d34 (.cons d35 (.cons d36 .nil)))) (by kernel_rfl)
theorem e13 : S13 = fnF Tryz.prog [] MM Tryz.f13 a13 := by kernel_rfl
theorem d13 : SoundF Tryz.prog 13 s13 := sF Tryz.f13 a13 (T := []) .nil e13
theorem e73 (s90 : FS) : S73 s90 = fnF Tryz.prog [(90, s90)] MM Tryz.f73 a73 := by kernel_rfl
theorem d73 : SoundF Tryz.prog 73 s73 := sF Tryz.f73 a73 (T := [(90, s90)]) (.cons d90 .nil) (e73 s90)
theorem e144 (s152 : FS) : S144 s152 = fnF Tryz.prog [(152, s152)] MM Tryz.f144 a144 := by kernel_rfl
theorem d144 : SoundF Tryz.prog 144 s144 := sF Tryz.f144 a144 (T := [(152, s152)]) (.cons d152 .nil) (e144 s152)
theorem e75 (s144 : FS) : S75 s144 = fnF Tryz.prog [(144, s144)] MM Tryz.f75 a75 := by kernel_rfl
theorem d75 : SoundF Tryz.prog 75 s75 := sF Tryz.f75 a75 (T := [(144, s144)]) (.cons d144 .nil) (e75 s144)
theorem e145 (s177 : FS) : S145 s177 = fnF Tryz.prog [(177, s177)] MM Tryz.f145 a145 := by kernel_rfl
theorem d145 : SoundF Tryz.prog 145 s145 := sF Tryz.f145 a145 (T := [(177, s177)]) (.cons d177 .nil) (e145 s177)
theorem e146 : S146 = fnF Tryz.prog [] MM Tryz.f146 a146 := by kernel_rfl
theorem d146 : SoundF Tryz.prog 146 s146 := sF Tryz.f146 a146 (T := []) .nil e146
theorem e76 (s145 s146 : FS) : S76 s145 s146 = fnF Tryz.prog [(145, s145), (146, s146)] MM Tryz.f76 a76 := by kernel_rfl
theorem d76 : SoundF Tryz.prog 76 s76 := sF Tryz.f76 a76 (T := [(145, s145), (146, s146)]) (.cons d145 (.cons d146 .nil)) (e76 s145 s146)
theorem e41 (s73 s74 s75 s77 s76 : FS) : S41 s73 s74 s75 s77 s76 = fnF Tryz.prog [(73, s73), (74, s74), (75, s75), (77, s77), (76, s76)] MM Tryz.f41 a41 := by kernel_rfl
theorem d41 : SoundF Tryz.prog 41 s41 := sF Tryz.f41 a41 (T := [(73, s73), (74, s74), (75, s75), (77, s77), (76, s76)]) (.cons d73 (.cons d74 (.cons d75 (.cons d77 (.cons d76 .nil))))) (e41 s73 s74 s75 s77 s76)
theorem e24 (s41 : FS) : S24 s41 = fnF Tryz.prog [(41, s41)] MM Tryz.f24 a24 := by kernel_rfl
theorem d24 : SoundF Tryz.prog 24 s24 := sF Tryz.f24 a24 (T := [(41, s41)]) (.cons d41 .nil) (e24 s41)
theorem e18 : S18 = fnF Tryz.prog [] MM Tryz.f18 a18 := by kernel_rfl
theorem d18 : SoundF Tryz.prog 18 s18 := sF Tryz.f18 a18 (T := []) .nil e18
theorem e19 : S19 = fnF Tryz.prog [] MM Tryz.f19 a19 := by kernel_rfl
theorem d19 : SoundF Tryz.prog 19 s19 := sF Tryz.f19 a19 (T := []) .nil e19
theorem e125 : S125 = fnF Tryz.prog [] MM Tryz.f125 a125 := by kernel_rfl
theorem d125 : SoundF Tryz.prog 125 s125 := sF Tryz.f125 a125 (T := []) .nil e125
theorem e157 : S157 = fnF Tryz.prog [] MM Tryz.f157 a157 := by kernel_rfl
theorem d157 : SoundF Tryz.prog 157 s157 := sF Tryz.f157 a157 (T := []) .nil e157
theorem e126 (s157 s114 s106 : FS) : S126 s157 s114 s106 = fnF Tryz.prog [(157, s157), (114, s114), (106, s106)] MM Tryz.f126 a126 := by kernel_rfl
theorem d126 : SoundF Tryz.prog 126 s126 := sF Tryz.f126 a126 (T := [(157, s157), (114, s114), (106, s106)]) (.cons d157 (.cons d114 (.cons d106 .nil))) (e126 s157 s114 s106)
end Go.Proofs.YtpchmdddkpocgaaGreatDoor
