/-
  No claim by itself: the functions do what their texts mean. No condition.
-/
import Derived.Test.YtpchmdddkpocgaaGreatDoorTG2
namespace Go.Proofs.YtpchmdddkpocgaaGreatDoor
set_option linter.unusedVariables false
set_option maxRecDepth 100000
theorem e25 (s13 s18 s42 s43 s38 : FS) : S25 s13 s18 s42 s43 s38 = fnF Tryz.prog [(13, s13), (18, s18), (42, s42), (43, s43), (38, s38)] MM Tryz.f25 a25 := by kernel_rfl
theorem d25 : SoundF Tryz.prog 25 s25 := sF Tryz.f25 a25 (T := [(13, s13), (18, s18), (42, s42), (43, s43), (38, s38)]) (.cons d13 (.cons d18 (.cons d42 (.cons d43 (.cons d38 .nil))))) (e25 s13 s18 s42 s43 s38)
theorem e28 : S28 = fnF Tryz.prog [] MM Tryz.f28 a28 := by kernel_rfl
theorem d28 : SoundF Tryz.prog 28 s28 := sF Tryz.f28 a28 (T := []) .nil e28
theorem e85 : S85 = fnF Tryz.prog [] MM Tryz.f85 a85 := by kernel_rfl
theorem d85 : SoundF Tryz.prog 85 s85 := sF Tryz.f85 a85 (T := []) .nil e85
theorem e45 (s28 s85 : FS) : S45 s28 s85 = fnF Tryz.prog [(28, s28), (85, s85)] MM Tryz.f45 a45 := by kernel_rfl
theorem d45 : SoundF Tryz.prog 45 s45 := sF Tryz.f45 a45 (T := [(28, s28), (85, s85)]) (.cons d28 (.cons d85 .nil)) (e45 s28 s85)
theorem e84 (s160 : FS) : S84 s160 = fnF Tryz.prog [(160, s160)] MM Tryz.f84 a84 := by kernel_rfl
theorem d84 : SoundF Tryz.prog 84 s84 := sF Tryz.f84 a84 (T := [(160, s160)]) (.cons d160 .nil) (e84 s160)
theorem e44 (s84 : FS) : S44 s84 = fnF Tryz.prog [(84, s84)] MM Tryz.f44 a44 := by kernel_rfl
theorem d44 : SoundF Tryz.prog 44 s44 := sF Tryz.f44 a44 (T := [(84, s84)]) (.cons d84 .nil) (e44 s84)
theorem e91 (s92 : FS) : S91 s92 = fnF Tryz.prog [(92, s92)] MM Tryz.f91 a91 := by kernel_rfl
theorem d91 : SoundF Tryz.prog 91 s91 := sF Tryz.f91 a91 (T := [(92, s92)]) (.cons d92 .nil) (e91 s92)
theorem e212 : S212 = fnF Tryz.prog [] MM Tryz.f212 a212 := by kernel_rfl
theorem d212 : SoundF Tryz.prog 212 s212 := sF Tryz.f212 a212 (T := []) .nil e212
theorem e161 (s91 s212 : FS) : S161 s91 s212 = fnF Tryz.prog [(91, s91), (212, s212)] MM Tryz.f161 a161 := by kernel_rfl
theorem d161 : SoundF Tryz.prog 161 s161 := sF Tryz.f161 a161 (T := [(91, s91), (212, s212)]) (.cons d91 (.cons d212 .nil)) (e161 s91 s212)
theorem d213 : SoundF Tryz.prog 213 s213 := sF Tryz.f213 a213 .nil (by kernel_rfl)
theorem d164 : SoundF Tryz.prog 164 s164 := sF Tryz.f164 a164 (.cons d213 .nil) (by kernel_rfl)
theorem d163 : SoundF Tryz.prog 163 s163 := sF Tryz.f163 a163 (.cons d164 .nil) (by kernel_rfl)
theorem e162 (s163 : FS) : S162 s163 = fnF Tryz.prog [(163, s163)] MM Tryz.f162 a162 := by kernel_rfl
theorem d162 : SoundF Tryz.prog 162 s162 := sF Tryz.f162 a162 (T := [(163, s163)]) (.cons d163 .nil) (e162 s163)
theorem d239 : SoundF Tryz.prog 239 s239 := sound_stub (fn := Tryz.f239) (by kernel_rfl) (by kernel_rfl) (by kernel_rfl)
theorem e48 (s90 : FS) : S48 s90 = fnF Tryz.prog [(90, s90)] MM Tryz.f48 a48 := by kernel_rfl
theorem d48 : SoundF Tryz.prog 48 s48 := sF Tryz.f48 a48 (T := [(90, s90)]) (.cons d90 .nil) (e48 s90)
theorem e214 (s85 s239 s91 s110 s48 : FS) : S214 s85 s239 s91 s110 s48 = fnF Tryz.prog [(85, s85), (239, s239), (91, s91), (110, s110), (48, s48)] MM Tryz.f214 a214 := by kernel_rfl
theorem d214 : SoundF Tryz.prog 214 s214 := sF Tryz.f214 a214 (T := [(85, s85), (239, s239), (91, s91), (110, s110), (48, s48)]) (.cons d85 (.cons d239 (.cons d91 (.cons d110 (.cons d48 .nil))))) (e214 s85 s239 s91 s110 s48)
theorem e165 (s214 : FS) : S165 s214 = fnF Tryz.prog [(214, s214)] MM Tryz.f165 a165 := by kernel_rfl
theorem d165 : SoundF Tryz.prog 165 s165 := sF Tryz.f165 a165 (T := [(214, s214)]) (.cons d214 .nil) (e165 s214)
theorem d29 : SoundF Tryz.prog 29 s29 := sF Tryz.f29 a29 (.cons d48 .nil) (by kernel_rfl)
theorem e166 (s104 s74 s77 : FS) : S166 s104 s74 s77 = fnF Tryz.prog [(104, s104), (74, s74), (77, s77)] MM Tryz.f166 a166 := by kernel_rfl
theorem d166 : SoundF Tryz.prog 166 s166 := sF Tryz.f166 a166 (T := [(104, s104), (74, s74), (77, s77)]) (.cons d104 (.cons d74 (.cons d77 .nil))) (e166 s104 s74 s77)
theorem e86 (s161 s162 s165 s29 s85 s166 s76 : FS) : S86 s161 s162 s165 s29 s85 s166 s76 = fnF Tryz.prog [(161, s161), (162, s162), (165, s165), (29, s29), (85, s85), (166, s166), (76, s76)] MM Tryz.f86 a86 := by kernel_rfl
theorem d86 : SoundF Tryz.prog 86 s86 := sF Tryz.f86 a86 (T := [(161, s161), (162, s162), (165, s165), (29, s29), (85, s85), (166, s166), (76, s76)]) (.cons d161 (.cons d162 (.cons d165 (.cons d29 (.cons d85 (.cons d166 (.cons d76 .nil))))))) (e86 s161 s162 s165 s29 s85 s166 s76)
theorem e46 (s86 : FS) : S46 s86 = fnF Tryz.prog [(86, s86)] MM Tryz.f46 a46 := by kernel_rfl
theorem d46 : SoundF Tryz.prog 46 s46 := sF Tryz.f46 a46 (T := [(86, s86)]) (.cons d86 .nil) (e46 s86)
theorem e26 (s13 s18 s45 s44 s46 : FS) : S26 s13 s18 s45 s44 s46 = fnF Tryz.prog [(13, s13), (18, s18), (45, s45), (44, s44), (46, s46)] MM Tryz.f26 a26 := by kernel_rfl
theorem d26 : SoundF Tryz.prog 26 s26 := sF Tryz.f26 a26 (T := [(13, s13), (18, s18), (45, s45), (44, s44), (46, s46)]) (.cons d13 (.cons d18 (.cons d45 (.cons d44 (.cons d46 .nil))))) (e26 s13 s18 s45 s44 s46)
theorem e88 (s13 s18 s25 s26 : FS) : S88 s13 s18 s25 s26 = fnF Tryz.prog [(13, s13), (18, s18), (25, s25), (26, s26)] MM Tryz.f88 a88 := by kernel_rfl
theorem d88 : SoundF Tryz.prog 88 s88 := sF Tryz.f88 a88 (T := [(13, s13), (18, s18), (25, s25), (26, s26)]) (.cons d13 (.cons d18 (.cons d25 (.cons d26 .nil)))) (e88 s13 s18 s25 s26)
theorem d89 : SoundF Tryz.prog 89 s89 := sF Tryz.f89 a89 (.cons d13 (.cons d78 (.cons d45 .nil))) (by kernel_rfl)
theorem d47 : SoundF Tryz.prog 47 s47 := sF Tryz.f47 a47 (.cons d87 (.cons d18 (.cons d22 (.cons d40 (.cons d88 (.cons d89 .nil)))))) (by kernel_rfl)
theorem d27 : SoundF Tryz.prog 27 s27 := sF Tryz.f27 a27 (.cons d47 .nil) (by kernel_rfl)
theorem d14 : SoundF Tryz.prog 14 s14 := sF Tryz.f14 a14 (.cons d28 (.cons d29 .nil)) (by kernel_rfl)
theorem d32 : SoundF Tryz.prog 32 s32 := sF Tryz.f32 a32 (.cons d17 (.cons d13 (.cons d24 (.cons d27 (.cons d14 (.cons d40 (.cons d53 (.cons d54 .nil)))))))) (by kernel_rfl)
theorem d16 : SoundF Tryz.prog 16 s16 := sF Tryz.f16 a16 (.cons d32 .nil) (by kernel_rfl)
theorem d4 : SoundF Tryz.prog 4 s4 := sF Tryz.f4 a4 (.cons d16 .nil) (by kernel_rfl)
theorem d6 : SoundF Tryz.prog 6 s6 := sF Tryz.f6 a6 (.cons d17 .nil) (by kernel_rfl)
theorem e21 : S21 = fnF Tryz.prog [] MM Tryz.f21 a21 := by kernel_rfl
theorem d21 : SoundF Tryz.prog 21 s21 := sF Tryz.f21 a21 (T := []) .nil e21
theorem d23 : SoundF Tryz.prog 23 s23 := sF Tryz.f23 a23 (.cons d40 .nil) (by kernel_rfl)
theorem d7 : SoundF Tryz.prog 7 s7 := sF Tryz.f7 a7 (.cons d18 (.cons d19 (.cons d20 (.cons d22 (.cons d21 (.cons d23 .nil)))))) (by kernel_rfl)
theorem e8 (s13 s24 s21 : FS) : S8 s13 s24 s21 = fnF Tryz.prog [(13, s13), (24, s24), (21, s21)] MM Tryz.f8 a8 := by kernel_rfl
theorem d8 : SoundF Tryz.prog 8 s8 := sF Tryz.f8 a8 (T := [(13, s13), (24, s24), (21, s21)]) (.cons d13 (.cons d24 (.cons d21 .nil))) (e8 s13 s24 s21)
theorem d9 : SoundF Tryz.prog 9 s9 := sF Tryz.f9 a9 .nil (by kernel_rfl)
theorem d49 : SoundF Tryz.prog 49 s49 := sF Tryz.f49 a49 (.cons d91 .nil) (by kernel_rfl)
theorem d50 : SoundF Tryz.prog 50 s50 := sF Tryz.f50 a50 (.cons d92 .nil) (by kernel_rfl)
end Go.Proofs.YtpchmdddkpocgaaGreatDoor
