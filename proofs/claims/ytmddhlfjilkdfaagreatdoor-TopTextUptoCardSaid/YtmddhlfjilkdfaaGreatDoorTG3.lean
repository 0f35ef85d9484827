/-
  No claim by itself: the functions do what their texts mean. No condition.
-/
import Derived.Test.YtmddhlfjilkdfaaGreatDoorTG2
namespace Go.Proofs.YtmddhlfjilkdfaaGreatDoor
set_option linter.unusedVariables false
set_option maxRecDepth 100000 in
theorem e35 (s36 : FS) : S35 s36 = fnF Tryz.prog [(36, s36)] MM Tryz.f35 a35 := by kernel_rfl
theorem d35 : SoundF Tryz.prog 35 s35 := sound_fn (fn := Tryz.f35) (T := [(36, s36)]) (M := MM) (ann := a35) (by kernel_rfl) (by kernel_rfl) (by kernel_rfl) (by kernel_rfl) mix (.cons d36 .nil) (e35 s36)
set_option maxRecDepth 100000 in
theorem e249 : S249 = fnF Tryz.prog [] MM Tryz.f249 a249 := by kernel_rfl
theorem d249 : SoundF Tryz.prog 249 s249 := sound_fn (fn := Tryz.f249) (T := []) (M := MM) (ann := a249) (by kernel_rfl) (by kernel_rfl) (by kernel_rfl) (by kernel_rfl) mix .nil (e249)
set_option maxRecDepth 100000 in
theorem e204 (s35 s249 : FS) : S204 s35 s249 = fnF Tryz.prog [(35, s35), (249, s249)] MM Tryz.f204 a204 := by kernel_rfl
theorem d204 : SoundF Tryz.prog 204 s204 := sound_fn (fn := Tryz.f204) (T := [(35, s35), (249, s249)]) (M := MM) (ann := a204) (by kernel_rfl) (by kernel_rfl) (by kernel_rfl) (by kernel_rfl) mix (.cons d35 (.cons d249 .nil)) (e204 s35 s249)
set_option maxRecDepth 100000 in
theorem e175 : S175 = fnF Tryz.prog [] MM Tryz.f175 a175 := by kernel_rfl
theorem d175 : SoundF Tryz.prog 175 s175 := sound_fn (fn := Tryz.f175) (T := []) (M := MM) (ann := a175) (by kernel_rfl) (by kernel_rfl) (by kernel_rfl) (by kernel_rfl) mix .nil (e175)
set_option maxRecDepth 100000 in
theorem e145 (s175 : FS) : S145 s175 = fnF Tryz.prog [(175, s175)] MM Tryz.f145 a145 := by kernel_rfl
theorem d145 : SoundF Tryz.prog 145 s145 := sound_fn (fn := Tryz.f145) (T := [(175, s175)]) (M := MM) (ann := a145) (by kernel_rfl) (by kernel_rfl) (by kernel_rfl) (by kernel_rfl) mix (.cons d175 .nil) (e145 s175)
set_option maxRecDepth 100000 in
theorem e206 (s145 : FS) : S206 s145 = fnF Tryz.prog [(145, s145)] MM Tryz.f206 a206 := by kernel_rfl
theorem d206 : SoundF Tryz.prog 206 s206 := sound_fn (fn := Tryz.f206) (T := [(145, s145)]) (M := MM) (ann := a206) (by kernel_rfl) (by kernel_rfl) (by kernel_rfl) (by kernel_rfl) mix (.cons d145 .nil) (e206 s145)
set_option maxRecDepth 100000 in
theorem e205 (s206 : FS) : S205 s206 = fnF Tryz.prog [(206, s206)] MM Tryz.f205 a205 := by kernel_rfl
theorem d205 : SoundF Tryz.prog 205 s205 := sound_fn (fn := Tryz.f205) (T := [(206, s206)]) (M := MM) (ann := a205) (by kernel_rfl) (by kernel_rfl) (by kernel_rfl) (by kernel_rfl) mix (.cons d206 .nil) (e205 s206)
theorem d231 : SoundF Tryz.prog 231 s231 := sound_stub (fn := Tryz.f231) (by kernel_rfl) (by kernel_rfl) (by kernel_rfl)
set_option maxRecDepth 100000 in
theorem e121 (s98 : FS) : S121 s98 = fnF Tryz.prog [(98, s98)] MM Tryz.f121 a121 := by kernel_rfl
theorem d121 : SoundF Tryz.prog 121 s121 := sound_fn (fn := Tryz.f121) (T := [(98, s98)]) (M := MM) (ann := a121) (by kernel_rfl) (by kernel_rfl) (by kernel_rfl) (by kernel_rfl) mix (.cons d98 .nil) (e121 s98)
set_option maxRecDepth 100000 in
theorem e176 (s160 s231 s35 s87 s121 : FS) : S176 s160 s231 s35 s87 s121 = fnF Tryz.prog [(160, s160), (231, s231), (35, s35), (87, s87), (121, s121)] MM Tryz.f176 a176 := by kernel_rfl
theorem d176 : SoundF Tryz.prog 176 s176 := sound_fn (fn := Tryz.f176) (T := [(160, s160), (231, s231), (35, s35), (87, s87), (121, s121)]) (M := MM) (ann := a176) (by kernel_rfl) (by kernel_rfl) (by kernel_rfl) (by kernel_rfl) mix (.cons d160 (.cons d231 (.cons d35 (.cons d87 (.cons d121 .nil))))) (e176 s160 s231 s35 s87 s121)
set_option maxRecDepth 100000 in
theorem e146 (s176 : FS) : S146 s176 = fnF Tryz.prog [(176, s176)] MM Tryz.f146 a146 := by kernel_rfl
theorem d146 : SoundF Tryz.prog 146 s146 := sound_fn (fn := Tryz.f146) (T := [(176, s176)]) (M := MM) (ann := a146) (by kernel_rfl) (by kernel_rfl) (by kernel_rfl) (by kernel_rfl) mix (.cons d176 .nil) (e146 s176)
set_option maxRecDepth 100000 in
theorem e69 (s121 : FS) : S69 s121 = fnF Tryz.prog [(121, s121)] MM Tryz.f69 a69 := by kernel_rfl
theorem d69 : SoundF Tryz.prog 69 s69 := sound_fn (fn := Tryz.f69) (T := [(121, s121)]) (M := MM) (ann := a69) (by kernel_rfl) (by kernel_rfl) (by kernel_rfl) (by kernel_rfl) mix (.cons d121 .nil) (e69 s121)
set_option maxRecDepth 100000 in
theorem e207 (s81 s56 s59 : FS) : S207 s81 s56 s59 = fnF Tryz.prog [(81, s81), (56, s56), (59, s59)] MM Tryz.f207 a207 := by kernel_rfl
theorem d207 : SoundF Tryz.prog 207 s207 := sound_fn (fn := Tryz.f207) (T := [(81, s81), (56, s56), (59, s59)]) (M := MM) (ann := a207) (by kernel_rfl) (by kernel_rfl) (by kernel_rfl) (by kernel_rfl) mix (.cons d81 (.cons d56 (.cons d59 .nil))) (e207 s81 s56 s59)
set_option maxRecDepth 100000 in
theorem e161 (s204 s205 s146 s69 s160 s207 s58 : FS) : S161 s204 s205 s146 s69 s160 s207 s58 = fnF Tryz.prog [(204, s204), (205, s205), (146, s146), (69, s69), (160, s160), (207, s207), (58, s58)] MM Tryz.f161 a161 := by kernel_rfl
theorem d161 : SoundF Tryz.prog 161 s161 := sound_fn (fn := Tryz.f161) (T := [(204, s204), (205, s205), (146, s146), (69, s69), (160, s160), (207, s207), (58, s58)]) (M := MM) (ann := a161) (by kernel_rfl) (by kernel_rfl) (by kernel_rfl) (by kernel_rfl) mix (.cons d204 (.cons d205 (.cons d146 (.cons d69 (.cons d160 (.cons d207 (.cons d58 .nil))))))) (e161 s204 s205 s146 s69 s160 s207 s58)
set_option maxRecDepth 100000 in
theorem e119 (s161 : FS) : S119 s161 = fnF Tryz.prog [(161, s161)] MM Tryz.f119 a119 := by kernel_rfl
theorem d119 : SoundF Tryz.prog 119 s119 := sound_fn (fn := Tryz.f119) (T := [(161, s161)]) (M := MM) (ann := a119) (by kernel_rfl) (by kernel_rfl) (by kernel_rfl) (by kernel_rfl) mix (.cons d161 .nil) (e119 s161)
set_option maxRecDepth 100000 in
theorem e65 (s11 s61 s118 s117 s119 : FS) : S65 s11 s61 s118 s117 s119 = fnF Tryz.prog [(11, s11), (61, s61), (118, s118), (117, s117), (119, s119)] MM Tryz.f65 a65 := by kernel_rfl
theorem d65 : SoundF Tryz.prog 65 s65 := sound_fn (fn := Tryz.f65) (T := [(11, s11), (61, s61), (118, s118), (117, s117), (119, s119)]) (M := MM) (ann := a65) (by kernel_rfl) (by kernel_rfl) (by kernel_rfl) (by kernel_rfl) mix (.cons d11 (.cons d61 (.cons d118 (.cons d117 (.cons d119 .nil))))) (e65 s11 s61 s118 s117 s119)
set_option maxRecDepth 100000 in
theorem e63 (s11 s61 s64 s65 : FS) : S63 s11 s61 s64 s65 = fnF Tryz.prog [(11, s11), (61, s61), (64, s64), (65, s65)] MM Tryz.f63 a63 := by kernel_rfl
theorem d63 : SoundF Tryz.prog 63 s63 := sound_fn (fn := Tryz.f63) (T := [(11, s11), (61, s61), (64, s64), (65, s65)]) (M := MM) (ann := a63) (by kernel_rfl) (by kernel_rfl) (by kernel_rfl) (by kernel_rfl) mix (.cons d11 (.cons d61 (.cons d64 (.cons d65 .nil)))) (e63 s11 s61 s64 s65)
set_option maxRecDepth 100000 in
theorem e66 (s11 s120 s118 : FS) : S66 s11 s120 s118 = fnF Tryz.prog [(11, s11), (120, s120), (118, s118)] MM Tryz.f66 a66 := by kernel_rfl
theorem d66 : SoundF Tryz.prog 66 s66 := sound_fn (fn := Tryz.f66) (T := [(11, s11), (120, s120), (118, s118)]) (M := MM) (ann := a66) (by kernel_rfl) (by kernel_rfl) (by kernel_rfl) (by kernel_rfl) mix (.cons d11 (.cons d120 (.cons d118 .nil))) (e66 s11 s120 s118)
set_option maxRecDepth 100000 in
theorem e34 (s60 s61 s62 s39 s63 s66 : FS) : S34 s60 s61 s62 s39 s63 s66 = fnF Tryz.prog [(60, s60), (61, s61), (62, s62), (39, s39), (63, s63), (66, s66)] MM Tryz.f34 a34 := by kernel_rfl
theorem d34 : SoundF Tryz.prog 34 s34 := sound_fn (fn := Tryz.f34) (T := [(60, s60), (61, s61), (62, s62), (39, s39), (63, s63), (66, s66)]) (M := MM) (ann := a34) (by kernel_rfl) (by kernel_rfl) (by kernel_rfl) (by kernel_rfl) mix (.cons d60 (.cons d61 (.cons d62 (.cons d39 (.cons d63 (.cons d66 .nil)))))) (e34 s60 s61 s62 s39 s63 s66)
set_option maxRecDepth 100000 in
theorem e21 (s34 : FS) : S21 s34 = fnF Tryz.prog [(34, s34)] MM Tryz.f21 a21 := by kernel_rfl
theorem d21 : SoundF Tryz.prog 21 s21 := sound_fn (fn := Tryz.f21) (T := [(34, s34)]) (M := MM) (ann := a21) (by kernel_rfl) (by kernel_rfl) (by kernel_rfl) (by kernel_rfl) mix (.cons d34 .nil) (e21 s34)
set_option maxRecDepth 100000 in
theorem e38 (s22 s69 : FS) : S38 s22 s69 = fnF Tryz.prog [(22, s22), (69, s69)] MM Tryz.f38 a38 := by kernel_rfl
theorem d38 : SoundF Tryz.prog 38 s38 := sound_fn (fn := Tryz.f38) (T := [(22, s22), (69, s69)]) (M := MM) (ann := a38) (by kernel_rfl) (by kernel_rfl) (by kernel_rfl) (by kernel_rfl) mix (.cons d22 (.cons d69 .nil)) (e38 s22 s69)
set_option maxRecDepth 100000 in
theorem e27 (s18 s11 s19 s21 s38 s39 s40 s41 : FS) : S27 s18 s11 s19 s21 s38 s39 s40 s41 = fnF Tryz.prog [(18, s18), (11, s11), (19, s19), (21, s21), (38, s38), (39, s39), (40, s40), (41, s41)] MM Tryz.f27 a27 := by kernel_rfl
theorem d27 : SoundF Tryz.prog 27 s27 := sound_fn (fn := Tryz.f27) (T := [(18, s18), (11, s11), (19, s19), (21, s21), (38, s38), (39, s39), (40, s40), (41, s41)]) (M := MM) (ann := a27) (by kernel_rfl) (by kernel_rfl) (by kernel_rfl) (by kernel_rfl) mix (.cons d18 (.cons d11 (.cons d19 (.cons d21 (.cons d38 (.cons d39 (.cons d40 (.cons d41 .nil)))))))) (e27 s18 s11 s19 s21 s38 s39 s40 s41)
set_option maxRecDepth 100000 in
theorem e15 (s27 : FS) : S15 s27 = fnF Tryz.prog [(27, s27)] MM Tryz.f15 a15 := by kernel_rfl
theorem d15 : SoundF Tryz.prog 15 s15 := sound_fn (fn := Tryz.f15) (T := [(27, s27)]) (M := MM) (ann := a15) (by kernel_rfl) (by kernel_rfl) (by kernel_rfl) (by kernel_rfl) mix (.cons d27 .nil) (e15 s27)
set_option maxRecDepth 100000 in
theorem e4 (s15 : FS) : S4 s15 = fnF Tryz.prog [(15, s15)] MM Tryz.f4 a4 := by kernel_rfl
theorem d4 : SoundF Tryz.prog 4 s4 := sound_fn (fn := Tryz.f4) (T := [(15, s15)]) (M := MM) (ann := a4) (by kernel_rfl) (by kernel_rfl) (by kernel_rfl) (by kernel_rfl) mix (.cons d15 .nil) (e4 s15)
theorem d28 : SoundF Tryz.prog 28 s28 := sound_stub (fn := Tryz.f28) (by kernel_rfl) (by kernel_rfl) (by kernel_rfl)
set_option maxRecDepth 100000 in
theorem e17 (s28 : FS) : S17 s28 = fnF Tryz.prog [(28, s28)] MM Tryz.f17 a17 := by kernel_rfl
theorem do17 : SoundF Tryz.prog 17 o17 := sound_fn (fn := Tryz.f17) (T := [(28, s28)]) (M := MM) (ann := a17) (by kernel_rfl) (by kernel_rfl) (by kernel_rfl) (by kernel_rfl) mix (.cons d28 .nil) (e17 s28)
theorem d17 : SoundF Tryz.prog 17 s17 := runesF_sound do17
set_option maxRecDepth 100000 in
theorem e16 (s17 : FS) : S16 s17 = fnF Tryz.prog [(17, s17)] MM Tryz.f16 a16 := by kernel_rfl
theorem do16 : SoundF Tryz.prog 16 o16 := sound_fn (fn := Tryz.f16) (T := [(17, s17)]) (M := MM) (ann := a16) (by kernel_rfl) (by kernel_rfl) (by kernel_rfl) (by kernel_rfl) mix (.cons d17 .nil) (e16 s17)
theorem d16 : SoundF Tryz.prog 16 s16 := keyRF_sound do16
set_option maxRecDepth 100000 in
theorem e5 (s16 : FS) : S5 s16 = fnF Tryz.prog [(16, s16)] MM Tryz.f5 a5 := by kernel_rfl
theorem d5 : SoundF Tryz.prog 5 s5 := sound_fn (fn := Tryz.f5) (T := [(16, s16)]) (M := MM) (ann := a5) (by kernel_rfl) (by kernel_rfl) (by kernel_rfl) (by kernel_rfl) mix (.cons d16 .nil) (e5 s16)
set_option maxRecDepth 100000 in
theorem e6 (s17 : FS) : S6 s17 = fnF Tryz.prog [(17, s17)] MM Tryz.f6 a6 := by kernel_rfl
theorem d6 : SoundF Tryz.prog 6 s6 := sound_fn (fn := Tryz.f6) (T := [(17, s17)]) (M := MM) (ann := a6) (by kernel_rfl) (by kernel_rfl) (by kernel_rfl) (by kernel_rfl) mix (.cons d17 .nil) (e6 s17)
set_option maxRecDepth 100000 in
theorem e7 (s18 : FS) : S7 s18 = fnF Tryz.prog [(18, s18)] MM Tryz.f7 a7 := by kernel_rfl
theorem d7 : SoundF Tryz.prog 7 s7 := sound_fn (fn := Tryz.f7) (T := [(18, s18)]) (M := MM) (ann := a7) (by kernel_rfl) (by kernel_rfl) (by kernel_rfl) (by kernel_rfl) mix (.cons d18 .nil) (e7 s18)
set_option maxRecDepth 100000 in
theorem e9 : S9 = fnF Tryz.prog [] MM Tryz.f9 a9 := by kernel_rfl
theorem d9 : SoundF Tryz.prog 9 s9 := sound_fn (fn := Tryz.f9) (T := []) (M := MM) (ann := a9) (by kernel_rfl) (by kernel_rfl) (by kernel_rfl) (by kernel_rfl) mix .nil (e9)
set_option maxRecDepth 100000 in
theorem e20 : S20 = fnF Tryz.prog [] MM Tryz.f20 a20 := by kernel_rfl
theorem d20 : SoundF Tryz.prog 20 s20 := sound_fn (fn := Tryz.f20) (T := []) (M := MM) (ann := a20) (by kernel_rfl) (by kernel_rfl) (by kernel_rfl) (by kernel_rfl) mix .nil (e20)
set_option maxRecDepth 100000 in
theorem e8 (s11 s19 s20 : FS) : S8 s11 s19 s20 = fnF Tryz.prog [(11, s11), (19, s19), (20, s20)] MM Tryz.f8 a8 := by kernel_rfl
theorem d8 : SoundF Tryz.prog 8 s8 := sound_fn (fn := Tryz.f8) (T := [(11, s11), (19, s19), (20, s20)]) (M := MM) (ann := a8) (by kernel_rfl) (by kernel_rfl) (by kernel_rfl) (by kernel_rfl) mix (.cons d11 (.cons d19 (.cons d20 .nil))) (e8 s11 s19 s20)
set_option maxRecDepth 100000 in
theorem e10 (s21 : FS) : S10 s21 = fnF Tryz.prog [(21, s21)] MM Tryz.f10 a10 := by kernel_rfl
theorem d10 : SoundF Tryz.prog 10 s10 := sound_fn (fn := Tryz.f10) (T := [(21, s21)]) (M := MM) (ann := a10) (by kernel_rfl) (by kernel_rfl) (by kernel_rfl) (by kernel_rfl) mix (.cons d21 .nil) (e10 s21)
set_option maxRecDepth 100000 in
theorem e23 (s35 : FS) : S23 s35 = fnF Tryz.prog [(35, s35)] MM Tryz.f23 a23 := by kernel_rfl
theorem d23 : SoundF Tryz.prog 23 s23 := sound_fn (fn := Tryz.f23) (T := [(35, s35)]) (M := MM) (ann := a23) (by kernel_rfl) (by kernel_rfl) (by kernel_rfl) (by kernel_rfl) mix (.cons d35 .nil) (e23 s35)
set_option maxRecDepth 100000 in
theorem e24 (s36 : FS) : S24 s36 = fnF Tryz.prog [(36, s36)] MM Tryz.f24 a24 := by kernel_rfl
theorem d24 : SoundF Tryz.prog 24 s24 := sound_fn (fn := Tryz.f24) (T := [(36, s36)]) (M := MM) (ann := a24) (by kernel_rfl) (by kernel_rfl) (by kernel_rfl) (by kernel_rfl) mix (.cons d36 .nil) (e24 s36)
set_option maxRecDepth 100000 in
theorem e12 (s22 s23 s24 : FS) : S12 s22 s23 s24 = fnF Tryz.prog [(22, s22), (23, s23), (24, s24)] MM Tryz.f12 a12 := by kernel_rfl
theorem d12 : SoundF Tryz.prog 12 s12 := sound_fn (fn := Tryz.f12) (T := [(22, s22), (23, s23), (24, s24)]) (M := MM) (ann := a12) (by kernel_rfl) (by kernel_rfl) (by kernel_rfl) (by kernel_rfl) mix (.cons d22 (.cons d23 (.cons d24 .nil))) (e12 s22 s23 s24)
set_option maxRecDepth 100000 in
theorem e26 : S26 = fnF Tryz.prog [] MM Tryz.f26 a26 := by kernel_rfl
theorem d26 : SoundF Tryz.prog 26 s26 := sound_fn (fn := Tryz.f26) (T := []) (M := MM) (ann := a26) (by kernel_rfl) (by kernel_rfl) (by kernel_rfl) (by kernel_rfl) mix .nil (e26)
set_option maxRecDepth 100000 in
theorem e13 (s25 s26 : FS) : S13 s25 s26 = fnF Tryz.prog [(25, s25), (26, s26)] MM Tryz.f13 a13 := by kernel_rfl
theorem d13 : SoundF Tryz.prog 13 s13 := sound_fn (fn := Tryz.f13) (T := [(25, s25), (26, s26)]) (M := MM) (ann := a13) (by kernel_rfl) (by kernel_rfl) (by kernel_rfl) (by kernel_rfl) mix (.cons d25 (.cons d26 .nil)) (e13 s25 s26)
set_option maxRecDepth 100000 in
theorem e14 : S14 = fnF Tryz.prog [] MM Tryz.f14 a14 := by kernel_rfl
theorem d14 : SoundF Tryz.prog 14 s14 := sound_fn (fn := Tryz.f14) (T := []) (M := MM) (ann := a14) (by kernel_rfl) (by kernel_rfl) (by kernel_rfl) (by kernel_rfl) mix .nil (e14)
set_option maxRecDepth 100000 in
theorem e3 (s4 s5 s6 s7 s9 s8 s10 s11 s12 s13 s14 : FS) : S3 s4 s5 s6 s7 s9 s8 s10 s11 s12 s13 s14 = fnF Tryz.prog [(4, s4), (5, s5), (6, s6), (7, s7), (9, s9), (8, s8), (10, s10), (11, s11), (12, s12), (13, s13), (14, s14)] MM Tryz.f3 a3 := by kernel_rfl
theorem d3 : SoundF Tryz.prog 3 s3 := sound_fn (fn := Tryz.f3) (T := [(4, s4), (5, s5), (6, s6), (7, s7), (9, s9), (8, s8), (10, s10), (11, s11), (12, s12), (13, s13), (14, s14)]) (M := MM) (ann := a3) (by kernel_rfl) (by kernel_rfl) (by kernel_rfl) (by kernel_rfl) mix (.cons d4 (.cons d5 (.cons d6 (.cons d7 (.cons d9 (.cons d8 (.cons d10 (.cons d11 (.cons d12 (.cons d13 (.cons d14 .nil))))))))))) (e3 s4 s5 s6 s7 s9 s8 s10 s11 s12 s13 s14)
end Go.Proofs.YtmddhlfjilkdfaaGreatDoor
