/-
  No claim by itself: the functions do what their texts mean. No condition.
-/
import Derived.Test.YtcdpilgndhledaaGreatDoorTG2
namespace Go.Proofs.YtcdpilgndhledaaGreatDoor
set_option linter.unusedVariables false
set_option maxRecDepth 100000 in
theorem e26 (s42 : FS) : S26 s42 = fnF Tryz.prog [(42, s42)] MM Tryz.f26 a26 := by kernel_rfl
theorem d26 : SoundF Tryz.prog 26 s26 := sound_fn (fn := Tryz.f26) (T := [(42, s42)]) (M := MM) (ann := a26) (by kernel_rfl) (by kernel_rfl) (by kernel_rfl) (by kernel_rfl) mix (.cons d42 .nil) (e26 s42)
theorem d214 : SoundF Tryz.prog 214 s214 := sound_stub (fn := Tryz.f214) (by kernel_rfl) (by kernel_rfl) (by kernel_rfl)
set_option maxRecDepth 100000 in
theorem e135 (s16 s17 s115 s168 s116 s214 : FS) : S135 s16 s17 s115 s168 s116 s214 = fnF Tryz.prog [(16, s16), (17, s17), (115, s115), (168, s168), (116, s116), (214, s214)] MM Tryz.f135 a135 := by kernel_rfl
theorem d135 : SoundF Tryz.prog 135 s135 := sound_fn (fn := Tryz.f135) (T := [(16, s16), (17, s17), (115, s115), (168, s168), (116, s116), (214, s214)]) (M := MM) (ann := a135) (by kernel_rfl) (by kernel_rfl) (by kernel_rfl) (by kernel_rfl) mix (.cons d16 (.cons d17 (.cons d115 (.cons d168 (.cons d116 (.cons d214 .nil)))))) (e135 s16 s17 s115 s168 s116 s214)
set_option maxRecDepth 100000 in
theorem e55 : S55 = fnF Tryz.prog [] MM Tryz.f55 a55 := by kernel_rfl
theorem d55 : SoundF Tryz.prog 55 s55 := sound_fn (fn := Tryz.f55) (T := []) (M := MM) (ann := a55) (by kernel_rfl) (by kernel_rfl) (by kernel_rfl) (by kernel_rfl) mix .nil (e55)
set_option maxRecDepth 100000 in
theorem e84 : S84 = fnF Tryz.prog [] MM Tryz.f84 a84 := by kernel_rfl
theorem d84 : SoundF Tryz.prog 84 s84 := sound_fn (fn := Tryz.f84) (T := []) (M := MM) (ann := a84) (by kernel_rfl) (by kernel_rfl) (by kernel_rfl) (by kernel_rfl) mix .nil (e84)
set_option maxRecDepth 100000 in
theorem e58 (s55 s84 : FS) : S58 s55 s84 = fnF Tryz.prog [(55, s55), (84, s84)] MM Tryz.f58 a58 := by kernel_rfl
theorem d58 : SoundF Tryz.prog 58 s58 := sound_fn (fn := Tryz.f58) (T := [(55, s55), (84, s84)]) (M := MM) (ann := a58) (by kernel_rfl) (by kernel_rfl) (by kernel_rfl) (by kernel_rfl) mix (.cons d55 (.cons d84 .nil)) (e58 s55 s84)
set_option maxRecDepth 100000 in
theorem e79 (s138 : FS) : S79 s138 = fnF Tryz.prog [(138, s138)] MM Tryz.f79 a79 := by kernel_rfl
theorem d79 : SoundF Tryz.prog 79 s79 := sound_fn (fn := Tryz.f79) (T := [(138, s138)]) (M := MM) (ann := a79) (by kernel_rfl) (by kernel_rfl) (by kernel_rfl) (by kernel_rfl) mix (.cons d138 .nil) (e79 s138)
set_option maxRecDepth 100000 in
theorem e57 (s79 : FS) : S57 s79 = fnF Tryz.prog [(79, s79)] MM Tryz.f57 a57 := by kernel_rfl
theorem d57 : SoundF Tryz.prog 57 s57 := sound_fn (fn := Tryz.f57) (T := [(79, s79)]) (M := MM) (ann := a57) (by kernel_rfl) (by kernel_rfl) (by kernel_rfl) (by kernel_rfl) mix (.cons d79 .nil) (e57 s79)
set_option maxRecDepth 100000 in
theorem e149 (s150 : FS) : S149 s150 = fnF Tryz.prog [(150, s150)] MM Tryz.f149 a149 := by kernel_rfl
theorem d149 : SoundF Tryz.prog 149 s149 := sound_fn (fn := Tryz.f149) (T := [(150, s150)]) (M := MM) (ann := a149) (by kernel_rfl) (by kernel_rfl) (by kernel_rfl) (by kernel_rfl) mix (.cons d150 .nil) (e149 s150)
set_option maxRecDepth 100000 in
theorem e222 : S222 = fnF Tryz.prog [] MM Tryz.f222 a222 := by kernel_rfl
theorem d222 : SoundF Tryz.prog 222 s222 := sound_fn (fn := Tryz.f222) (T := []) (M := MM) (ann := a222) (by kernel_rfl) (by kernel_rfl) (by kernel_rfl) (by kernel_rfl) mix .nil (e222)
set_option maxRecDepth 100000 in
theorem e143 (s149 s222 : FS) : S143 s149 s222 = fnF Tryz.prog [(149, s149), (222, s222)] MM Tryz.f143 a143 := by kernel_rfl
theorem d143 : SoundF Tryz.prog 143 s143 := sound_fn (fn := Tryz.f143) (T := [(149, s149), (222, s222)]) (M := MM) (ann := a143) (by kernel_rfl) (by kernel_rfl) (by kernel_rfl) (by kernel_rfl) mix (.cons d149 (.cons d222 .nil)) (e143 s149 s222)
set_option maxRecDepth 100000 in
theorem e223 : S223 = fnF Tryz.prog [] MM Tryz.f223 a223 := by kernel_rfl
theorem d223 : SoundF Tryz.prog 223 s223 := sound_fn (fn := Tryz.f223) (T := []) (M := MM) (ann := a223) (by kernel_rfl) (by kernel_rfl) (by kernel_rfl) (by kernel_rfl) mix .nil (e223)
set_option maxRecDepth 100000 in
theorem e146 (s223 : FS) : S146 s223 = fnF Tryz.prog [(223, s223)] MM Tryz.f146 a146 := by kernel_rfl
theorem d146 : SoundF Tryz.prog 146 s146 := sound_fn (fn := Tryz.f146) (T := [(223, s223)]) (M := MM) (ann := a146) (by kernel_rfl) (by kernel_rfl) (by kernel_rfl) (by kernel_rfl) mix (.cons d223 .nil) (e146 s223)
set_option maxRecDepth 100000 in
theorem e145 (s146 : FS) : S145 s146 = fnF Tryz.prog [(146, s146)] MM Tryz.f145 a145 := by kernel_rfl
theorem d145 : SoundF Tryz.prog 145 s145 := sound_fn (fn := Tryz.f145) (T := [(146, s146)]) (M := MM) (ann := a145) (by kernel_rfl) (by kernel_rfl) (by kernel_rfl) (by kernel_rfl) mix (.cons d146 .nil) (e145 s146)
set_option maxRecDepth 100000 in
theorem e144 (s145 : FS) : S144 s145 = fnF Tryz.prog [(145, s145)] MM Tryz.f144 a144 := by kernel_rfl
theorem d144 : SoundF Tryz.prog 144 s144 := sound_fn (fn := Tryz.f144) (T := [(145, s145)]) (M := MM) (ann := a144) (by kernel_rfl) (by kernel_rfl) (by kernel_rfl) (by kernel_rfl) mix (.cons d145 .nil) (e144 s145)
theorem d274 : SoundF Tryz.prog 274 s274 := sound_stub (fn := Tryz.f274) (by kernel_rfl) (by kernel_rfl) (by kernel_rfl)
set_option maxRecDepth 100000 in
theorem e83 (s142 : FS) : S83 s142 = fnF Tryz.prog [(142, s142)] MM Tryz.f83 a83 := by kernel_rfl
theorem d83 : SoundF Tryz.prog 83 s83 := sound_fn (fn := Tryz.f83) (T := [(142, s142)]) (M := MM) (ann := a83) (by kernel_rfl) (by kernel_rfl) (by kernel_rfl) (by kernel_rfl) mix (.cons d142 .nil) (e83 s142)
set_option maxRecDepth 100000 in
theorem e224 (s84 s274 s149 s185 s83 : FS) : S224 s84 s274 s149 s185 s83 = fnF Tryz.prog [(84, s84), (274, s274), (149, s149), (185, s185), (83, s83)] MM Tryz.f224 a224 := by kernel_rfl
theorem d224 : SoundF Tryz.prog 224 s224 := sound_fn (fn := Tryz.f224) (T := [(84, s84), (274, s274), (149, s149), (185, s185), (83, s83)]) (M := MM) (ann := a224) (by kernel_rfl) (by kernel_rfl) (by kernel_rfl) (by kernel_rfl) mix (.cons d84 (.cons d274 (.cons d149 (.cons d185 (.cons d83 .nil))))) (e224 s84 s274 s149 s185 s83)
set_option maxRecDepth 100000 in
theorem e147 (s224 : FS) : S147 s224 = fnF Tryz.prog [(224, s224)] MM Tryz.f147 a147 := by kernel_rfl
theorem d147 : SoundF Tryz.prog 147 s147 := sound_fn (fn := Tryz.f147) (T := [(224, s224)]) (M := MM) (ann := a147) (by kernel_rfl) (by kernel_rfl) (by kernel_rfl) (by kernel_rfl) mix (.cons d224 .nil) (e147 s224)
set_option maxRecDepth 100000 in
theorem e56 (s83 : FS) : S56 s83 = fnF Tryz.prog [(83, s83)] MM Tryz.f56 a56 := by kernel_rfl
theorem d56 : SoundF Tryz.prog 56 s56 := sound_fn (fn := Tryz.f56) (T := [(83, s83)]) (M := MM) (ann := a56) (by kernel_rfl) (by kernel_rfl) (by kernel_rfl) (by kernel_rfl) mix (.cons d83 .nil) (e56 s83)
set_option maxRecDepth 100000 in
theorem e148 (s181 s98 s134 : FS) : S148 s181 s98 s134 = fnF Tryz.prog [(181, s181), (98, s98), (134, s134)] MM Tryz.f148 a148 := by kernel_rfl
theorem d148 : SoundF Tryz.prog 148 s148 := sound_fn (fn := Tryz.f148) (T := [(181, s181), (98, s98), (134, s134)]) (M := MM) (ann := a148) (by kernel_rfl) (by kernel_rfl) (by kernel_rfl) (by kernel_rfl) mix (.cons d181 (.cons d98 (.cons d134 .nil))) (e148 s181 s98 s134)
set_option maxRecDepth 100000 in
theorem e85 (s143 s144 s147 s56 s84 s148 s133 : FS) : S85 s143 s144 s147 s56 s84 s148 s133 = fnF Tryz.prog [(143, s143), (144, s144), (147, s147), (56, s56), (84, s84), (148, s148), (133, s133)] MM Tryz.f85 a85 := by kernel_rfl
theorem d85 : SoundF Tryz.prog 85 s85 := sound_fn (fn := Tryz.f85) (T := [(143, s143), (144, s144), (147, s147), (56, s56), (84, s84), (148, s148), (133, s133)]) (M := MM) (ann := a85) (by kernel_rfl) (by kernel_rfl) (by kernel_rfl) (by kernel_rfl) mix (.cons d143 (.cons d144 (.cons d147 (.cons d56 (.cons d84 (.cons d148 (.cons d133 .nil))))))) (e85 s143 s144 s147 s56 s84 s148 s133)
set_option maxRecDepth 100000 in
theorem e59 (s85 : FS) : S59 s85 = fnF Tryz.prog [(85, s85)] MM Tryz.f59 a59 := by kernel_rfl
theorem d59 : SoundF Tryz.prog 59 s59 := sound_fn (fn := Tryz.f59) (T := [(85, s85)]) (M := MM) (ann := a59) (by kernel_rfl) (by kernel_rfl) (by kernel_rfl) (by kernel_rfl) mix (.cons d85 .nil) (e59 s85)
set_option maxRecDepth 100000 in
theorem e36 (s34 s16 s58 s57 s59 : FS) : S36 s34 s16 s58 s57 s59 = fnF Tryz.prog [(34, s34), (16, s16), (58, s58), (57, s57), (59, s59)] MM Tryz.f36 a36 := by kernel_rfl
theorem d36 : SoundF Tryz.prog 36 s36 := sound_fn (fn := Tryz.f36) (T := [(34, s34), (16, s16), (58, s58), (57, s57), (59, s59)]) (M := MM) (ann := a36) (by kernel_rfl) (by kernel_rfl) (by kernel_rfl) (by kernel_rfl) mix (.cons d34 (.cons d16 (.cons d58 (.cons d57 (.cons d59 .nil))))) (e36 s34 s16 s58 s57 s59)
set_option maxRecDepth 100000 in
theorem e136 (s34 s16 s42 s36 : FS) : S136 s34 s16 s42 s36 = fnF Tryz.prog [(34, s34), (16, s16), (42, s42), (36, s36)] MM Tryz.f136 a136 := by kernel_rfl
theorem d136 : SoundF Tryz.prog 136 s136 := sound_fn (fn := Tryz.f136) (T := [(34, s34), (16, s16), (42, s42), (36, s36)]) (M := MM) (ann := a136) (by kernel_rfl) (by kernel_rfl) (by kernel_rfl) (by kernel_rfl) mix (.cons d34 (.cons d16 (.cons d42 (.cons d36 .nil)))) (e136 s34 s16 s42 s36)
set_option maxRecDepth 100000 in
theorem e137 (s34 s92 s58 : FS) : S137 s34 s92 s58 = fnF Tryz.prog [(34, s34), (92, s92), (58, s58)] MM Tryz.f137 a137 := by kernel_rfl
theorem d137 : SoundF Tryz.prog 137 s137 := sound_fn (fn := Tryz.f137) (T := [(34, s34), (92, s92), (58, s58)]) (M := MM) (ann := a137) (by kernel_rfl) (by kernel_rfl) (by kernel_rfl) (by kernel_rfl) mix (.cons d34 (.cons d92 (.cons d58 .nil))) (e137 s34 s92 s58)
set_option maxRecDepth 100000 in
theorem e77 (s135 s16 s20 s48 s136 s137 : FS) : S77 s135 s16 s20 s48 s136 s137 = fnF Tryz.prog [(135, s135), (16, s16), (20, s20), (48, s48), (136, s136), (137, s137)] MM Tryz.f77 a77 := by kernel_rfl
theorem d77 : SoundF Tryz.prog 77 s77 := sound_fn (fn := Tryz.f77) (T := [(135, s135), (16, s16), (20, s20), (48, s48), (136, s136), (137, s137)]) (M := MM) (ann := a77) (by kernel_rfl) (by kernel_rfl) (by kernel_rfl) (by kernel_rfl) mix (.cons d135 (.cons d16 (.cons d20 (.cons d48 (.cons d136 (.cons d137 .nil)))))) (e77 s135 s16 s20 s48 s136 s137)
set_option maxRecDepth 100000 in
theorem e51 (s77 : FS) : S51 s77 = fnF Tryz.prog [(77, s77)] MM Tryz.f51 a51 := by kernel_rfl
theorem d51 : SoundF Tryz.prog 51 s51 := sound_fn (fn := Tryz.f51) (T := [(77, s77)]) (M := MM) (ann := a51) (by kernel_rfl) (by kernel_rfl) (by kernel_rfl) (by kernel_rfl) mix (.cons d77 .nil) (e51 s77)
set_option maxRecDepth 100000 in
theorem e29 (s51 : FS) : S29 s51 = fnF Tryz.prog [(51, s51)] MM Tryz.f29 a29 := by kernel_rfl
theorem d29 : SoundF Tryz.prog 29 s29 := sound_fn (fn := Tryz.f29) (T := [(51, s51)]) (M := MM) (ann := a29) (by kernel_rfl) (by kernel_rfl) (by kernel_rfl) (by kernel_rfl) mix (.cons d51 .nil) (e29 s51)
set_option maxRecDepth 100000 in
theorem e30 (s16 s17 s22 s20 s19 s21 : FS) : S30 s16 s17 s22 s20 s19 s21 = fnF Tryz.prog [(16, s16), (17, s17), (22, s22), (20, s20), (19, s19), (21, s21)] MM Tryz.f30 a30 := by kernel_rfl
theorem d30 : SoundF Tryz.prog 30 s30 := sound_fn (fn := Tryz.f30) (T := [(16, s16), (17, s17), (22, s22), (20, s20), (19, s19), (21, s21)]) (M := MM) (ann := a30) (by kernel_rfl) (by kernel_rfl) (by kernel_rfl) (by kernel_rfl) mix (.cons d16 (.cons d17 (.cons d22 (.cons d20 (.cons d19 (.cons d21 .nil)))))) (e30 s16 s17 s22 s20 s19 s21)
set_option maxRecDepth 100000 in
theorem e86 (s149 : FS) : S86 s149 = fnF Tryz.prog [(149, s149)] MM Tryz.f86 a86 := by kernel_rfl
theorem d86 : SoundF Tryz.prog 86 s86 := sound_fn (fn := Tryz.f86) (T := [(149, s149)]) (M := MM) (ann := a86) (by kernel_rfl) (by kernel_rfl) (by kernel_rfl) (by kernel_rfl) mix (.cons d149 .nil) (e86 s149)
set_option maxRecDepth 100000 in
theorem e87 (s150 : FS) : S87 s150 = fnF Tryz.prog [(150, s150)] MM Tryz.f87 a87 := by kernel_rfl
theorem d87 : SoundF Tryz.prog 87 s87 := sound_fn (fn := Tryz.f87) (T := [(150, s150)]) (M := MM) (ann := a87) (by kernel_rfl) (by kernel_rfl) (by kernel_rfl) (by kernel_rfl) mix (.cons d150 .nil) (e87 s150)
set_option maxRecDepth 100000 in
theorem e60 (s55 s86 s87 : FS) : S60 s55 s86 s87 = fnF Tryz.prog [(55, s55), (86, s86), (87, s87)] MM Tryz.f60 a60 := by kernel_rfl
theorem d60 : SoundF Tryz.prog 60 s60 := sound_fn (fn := Tryz.f60) (T := [(55, s55), (86, s86), (87, s87)]) (M := MM) (ann := a60) (by kernel_rfl) (by kernel_rfl) (by kernel_rfl) (by kernel_rfl) mix (.cons d55 (.cons d86 (.cons d87 .nil))) (e60 s55 s86 s87)
set_option maxRecDepth 100000 in
theorem e89 : S89 = fnF Tryz.prog [] MM Tryz.f89 a89 := by kernel_rfl
theorem d89 : SoundF Tryz.prog 89 s89 := sound_fn (fn := Tryz.f89) (T := []) (M := MM) (ann := a89) (by kernel_rfl) (by kernel_rfl) (by kernel_rfl) (by kernel_rfl) mix .nil (e89)
set_option maxRecDepth 100000 in
theorem e61 (s88 s89 : FS) : S61 s88 s89 = fnF Tryz.prog [(88, s88), (89, s89)] MM Tryz.f61 a61 := by kernel_rfl
theorem d61 : SoundF Tryz.prog 61 s61 := sound_fn (fn := Tryz.f61) (T := [(88, s88), (89, s89)]) (M := MM) (ann := a61) (by kernel_rfl) (by kernel_rfl) (by kernel_rfl) (by kernel_rfl) mix (.cons d88 (.cons d89 .nil)) (e61 s88 s89)
set_option maxRecDepth 100000 in
theorem e37 (s34 s60 s61 : FS) : S37 s34 s60 s61 = fnF Tryz.prog [(34, s34), (60, s60), (61, s61)] MM Tryz.f37 a37 := by kernel_rfl
theorem d37 : SoundF Tryz.prog 37 s37 := sound_fn (fn := Tryz.f37) (T := [(34, s34), (60, s60), (61, s61)]) (M := MM) (ann := a37) (by kernel_rfl) (by kernel_rfl) (by kernel_rfl) (by kernel_rfl) mix (.cons d34 (.cons d60 (.cons d61 .nil))) (e37 s34 s60 s61)
set_option maxRecDepth 100000 in
theorem e78 : S78 = fnF Tryz.prog [] MM Tryz.f78 a78 := by kernel_rfl
theorem d78 : SoundF Tryz.prog 78 s78 := sound_fn (fn := Tryz.f78) (T := []) (M := MM) (ann := a78) (by kernel_rfl) (by kernel_rfl) (by kernel_rfl) (by kernel_rfl) mix .nil (e78)
set_option maxRecDepth 100000 in
theorem e52 (s78 s79 : FS) : S52 s78 s79 = fnF Tryz.prog [(78, s78), (79, s79)] MM Tryz.f52 a52 := by kernel_rfl
theorem d52 : SoundF Tryz.prog 52 s52 := sound_fn (fn := Tryz.f52) (T := [(78, s78), (79, s79)]) (M := MM) (ann := a52) (by kernel_rfl) (by kernel_rfl) (by kernel_rfl) (by kernel_rfl) mix (.cons d78 (.cons d79 .nil)) (e52 s78 s79)
set_option maxRecDepth 100000 in
theorem e31 (s16 s52 : FS) : S31 s16 s52 = fnF Tryz.prog [(16, s16), (52, s52)] MM Tryz.f31 a31 := by kernel_rfl
theorem d31 : SoundF Tryz.prog 31 s31 := sound_fn (fn := Tryz.f31) (T := [(16, s16), (52, s52)]) (M := MM) (ann := a31) (by kernel_rfl) (by kernel_rfl) (by kernel_rfl) (by kernel_rfl) mix (.cons d16 (.cons d52 .nil)) (e31 s16 s52)
set_option maxRecDepth 100000 in
theorem e219 : S219 = fnF Tryz.prog [] MM Tryz.f219 a219 := by kernel_rfl
theorem d219 : SoundF Tryz.prog 219 s219 := sound_fn (fn := Tryz.f219) (T := []) (M := MM) (ann := a219) (by kernel_rfl) (by kernel_rfl) (by kernel_rfl) (by kernel_rfl) mix .nil (e219)
set_option maxRecDepth 100000 in
theorem e141 (s219 : FS) : S141 s219 = fnF Tryz.prog [(219, s219)] MM Tryz.f141 a141 := by kernel_rfl
theorem d141 : SoundF Tryz.prog 141 s141 := sound_fn (fn := Tryz.f141) (T := [(219, s219)]) (M := MM) (ann := a141) (by kernel_rfl) (by kernel_rfl) (by kernel_rfl) (by kernel_rfl) mix (.cons d219 .nil) (e141 s219)
set_option maxRecDepth 100000 in
theorem e82 (s141 : FS) : S82 s141 = fnF Tryz.prog [(141, s141)] MM Tryz.f82 a82 := by kernel_rfl
theorem d82 : SoundF Tryz.prog 82 s82 := sound_fn (fn := Tryz.f82) (T := [(141, s141)]) (M := MM) (ann := a82) (by kernel_rfl) (by kernel_rfl) (by kernel_rfl) (by kernel_rfl) mix (.cons d141 .nil) (e82 s141)
set_option maxRecDepth 100000 in
theorem e80 (s82 : FS) : S80 s82 = fnF Tryz.prog [(82, s82)] MM Tryz.f80 a80 := by kernel_rfl
theorem d80 : SoundF Tryz.prog 80 s80 := sound_fn (fn := Tryz.f80) (T := [(82, s82)]) (M := MM) (ann := a80) (by kernel_rfl) (by kernel_rfl) (by kernel_rfl) (by kernel_rfl) mix (.cons d82 .nil) (e80 s82)
set_option maxRecDepth 100000 in
theorem e53 (s80 : FS) : S53 s80 = fnF Tryz.prog [(80, s80)] MM Tryz.f53 a53 := by kernel_rfl
theorem d53 : SoundF Tryz.prog 53 s53 := sound_fn (fn := Tryz.f53) (T := [(80, s80)]) (M := MM) (ann := a53) (by kernel_rfl) (by kernel_rfl) (by kernel_rfl) (by kernel_rfl) mix (.cons d80 .nil) (e53 s80)
set_option maxRecDepth 100000 in
theorem e305 : S305 = fnF Tryz.prog [] MM Tryz.f305 a305 := by kernel_rfl
theorem d305 : SoundF Tryz.prog 305 s305 := sound_fn (fn := Tryz.f305) (T := []) (M := MM) (ann := a305) (by kernel_rfl) (by kernel_rfl) (by kernel_rfl) (by kernel_rfl) mix .nil (e305)
set_option maxRecDepth 100000 in
theorem e286 (s305 : FS) : S286 s305 = fnF Tryz.prog [(305, s305)] MM Tryz.f286 a286 := by kernel_rfl
theorem d286 : SoundF Tryz.prog 286 s286 := sound_fn (fn := Tryz.f286) (T := [(305, s305)]) (M := MM) (ann := a286) (by kernel_rfl) (by kernel_rfl) (by kernel_rfl) (by kernel_rfl) mix (.cons d305 .nil) (e286 s305)
set_option maxRecDepth 100000 in
theorem e271 (s286 : FS) : S271 s286 = fnF Tryz.prog [(286, s286)] MM Tryz.f271 a271 := by kernel_rfl
theorem d271 : SoundF Tryz.prog 271 s271 := sound_fn (fn := Tryz.f271) (T := [(286, s286)]) (M := MM) (ann := a271) (by kernel_rfl) (by kernel_rfl) (by kernel_rfl) (by kernel_rfl) mix (.cons d286 .nil) (e271 s286)
theorem d272 : SoundF Tryz.prog 272 s272 := sound_stub (fn := Tryz.f272) (by kernel_rfl) (by kernel_rfl) (by kernel_rfl)
set_option maxRecDepth 100000 in
theorem e217 (s271 s272 s219 : FS) : S217 s271 s272 s219 = fnF Tryz.prog [(271, s271), (272, s272), (219, s219)] MM Tryz.f217 a217 := by kernel_rfl
theorem d217 : SoundF Tryz.prog 217 s217 := sound_fn (fn := Tryz.f217) (T := [(271, s271), (272, s272), (219, s219)]) (M := MM) (ann := a217) (by kernel_rfl) (by kernel_rfl) (by kernel_rfl) (by kernel_rfl) mix (.cons d271 (.cons d272 (.cons d219 .nil))) (e217 s271 s272 s219)
set_option maxRecDepth 100000 in
theorem e215 (s217 : FS) : S215 s217 = fnF Tryz.prog [(217, s217)] MM Tryz.f215 a215 := by kernel_rfl
theorem d215 : SoundF Tryz.prog 215 s215 := sound_fn (fn := Tryz.f215) (T := [(217, s217)]) (M := MM) (ann := a215) (by kernel_rfl) (by kernel_rfl) (by kernel_rfl) (by kernel_rfl) mix (.cons d217 .nil) (e215 s217)
set_option maxRecDepth 100000 in
theorem e268 : S268 = fnF Tryz.prog [] MM Tryz.f268 a268 := by kernel_rfl
theorem d268 : SoundF Tryz.prog 268 s268 := sound_fn (fn := Tryz.f268) (T := []) (M := MM) (ann := a268) (by kernel_rfl) (by kernel_rfl) (by kernel_rfl) (by kernel_rfl) mix .nil (e268)
set_option maxRecDepth 100000 in
theorem e269 (s268 : FS) : S269 s268 = fnF Tryz.prog [(268, s268)] MM Tryz.f269 a269 := by kernel_rfl
theorem d269 : SoundF Tryz.prog 269 s269 := sound_fn (fn := Tryz.f269) (T := [(268, s268)]) (M := MM) (ann := a269) (by kernel_rfl) (by kernel_rfl) (by kernel_rfl) (by kernel_rfl) mix (.cons d268 .nil) (e269 s268)
theorem d270 : SoundF Tryz.prog 270 s270 := sound_stub (fn := Tryz.f270) (by kernel_rfl) (by kernel_rfl) (by kernel_rfl)
set_option maxRecDepth 100000 in
theorem e216 (s268 s269 s270 : FS) : S216 s268 s269 s270 = fnF Tryz.prog [(268, s268), (269, s269), (270, s270)] MM Tryz.f216 a216 := by kernel_rfl
theorem d216 : SoundF Tryz.prog 216 s216 := sound_fn (fn := Tryz.f216) (T := [(268, s268), (269, s269), (270, s270)]) (M := MM) (ann := a216) (by kernel_rfl) (by kernel_rfl) (by kernel_rfl) (by kernel_rfl) mix (.cons d268 (.cons d269 (.cons d270 .nil))) (e216 s268 s269 s270)
set_option maxRecDepth 100000 in
theorem e139 (s215 s216 : FS) : S139 s215 s216 = fnF Tryz.prog [(215, s215), (216, s216)] MM Tryz.f139 a139 := by kernel_rfl
theorem d139 : SoundF Tryz.prog 139 s139 := sound_fn (fn := Tryz.f139) (T := [(215, s215), (216, s216)]) (M := MM) (ann := a139) (by kernel_rfl) (by kernel_rfl) (by kernel_rfl) (by kernel_rfl) mix (.cons d215 (.cons d216 .nil)) (e139 s215 s216)
set_option maxRecDepth 100000 in
theorem e218 : S218 = fnF Tryz.prog [] MM Tryz.f218 a218 := by kernel_rfl
theorem d218 : SoundF Tryz.prog 218 s218 := sound_fn (fn := Tryz.f218) (T := []) (M := MM) (ann := a218) (by kernel_rfl) (by kernel_rfl) (by kernel_rfl) (by kernel_rfl) mix .nil (e218)
set_option maxRecDepth 100000 in
theorem e220 : S220 = fnF Tryz.prog [] MM Tryz.f220 a220 := by kernel_rfl
theorem d220 : SoundF Tryz.prog 220 s220 := sound_fn (fn := Tryz.f220) (T := []) (M := MM) (ann := a220) (by kernel_rfl) (by kernel_rfl) (by kernel_rfl) (by kernel_rfl) mix .nil (e220)
set_option maxRecDepth 100000 in
theorem e273 (s286 : FS) : S273 s286 = fnF Tryz.prog [(286, s286)] MM Tryz.f273 a273 := by kernel_rfl
theorem d273 : SoundF Tryz.prog 273 s273 := sound_fn (fn := Tryz.f273) (T := [(286, s286)]) (M := MM) (ann := a273) (by kernel_rfl) (by kernel_rfl) (by kernel_rfl) (by kernel_rfl) mix (.cons d286 .nil) (e273 s286)
set_option maxRecDepth 100000 in
theorem e221 (s273 : FS) : S221 s273 = fnF Tryz.prog [(273, s273)] MM Tryz.f221 a221 := by kernel_rfl
theorem d221 : SoundF Tryz.prog 221 s221 := sound_fn (fn := Tryz.f221) (T := [(273, s273)]) (M := MM) (ann := a221) (by kernel_rfl) (by kernel_rfl) (by kernel_rfl) (by kernel_rfl) mix (.cons d273 .nil) (e221 s273)
set_option maxRecDepth 100000 in
theorem e140 (s217 s218 s219 s220 s221 : FS) : S140 s217 s218 s219 s220 s221 = fnF Tryz.prog [(217, s217), (218, s218), (219, s219), (220, s220), (221, s221)] MM Tryz.f140 a140 := by kernel_rfl
theorem d140 : SoundF Tryz.prog 140 s140 := sound_fn (fn := Tryz.f140) (T := [(217, s217), (218, s218), (219, s219), (220, s220), (221, s221)]) (M := MM) (ann := a140) (by kernel_rfl) (by kernel_rfl) (by kernel_rfl) (by kernel_rfl) mix (.cons d217 (.cons d218 (.cons d219 (.cons d220 (.cons d221 .nil))))) (e140 s217 s218 s219 s220 s221)
set_option maxRecDepth 100000 in
theorem e81 (s139 s140 : FS) : S81 s139 s140 = fnF Tryz.prog [(139, s139), (140, s140)] MM Tryz.f81 a81 := by kernel_rfl
theorem d81 : SoundF Tryz.prog 81 s81 := sound_fn (fn := Tryz.f81) (T := [(139, s139), (140, s140)]) (M := MM) (ann := a81) (by kernel_rfl) (by kernel_rfl) (by kernel_rfl) (by kernel_rfl) mix (.cons d139 (.cons d140 .nil)) (e81 s139 s140)
set_option maxRecDepth 100000 in
theorem e54 (s81 s82 : FS) : S54 s81 s82 = fnF Tryz.prog [(81, s81), (82, s82)] MM Tryz.f54 a54 := by kernel_rfl
theorem d54 : SoundF Tryz.prog 54 s54 := sound_fn (fn := Tryz.f54) (T := [(81, s81), (82, s82)]) (M := MM) (ann := a54) (by kernel_rfl) (by kernel_rfl) (by kernel_rfl) (by kernel_rfl) mix (.cons d81 (.cons d82 .nil)) (e54 s81 s82)
set_option maxRecDepth 100000 in
theorem e32 (s31 s53 s54 : FS) : S32 s31 s53 s54 = fnF Tryz.prog [(31, s31), (53, s53), (54, s54)] MM Tryz.f32 a32 := by kernel_rfl
theorem d32 : SoundF Tryz.prog 32 s32 := sound_fn (fn := Tryz.f32) (T := [(31, s31), (53, s53), (54, s54)]) (M := MM) (ann := a32) (by kernel_rfl) (by kernel_rfl) (by kernel_rfl) (by kernel_rfl) mix (.cons d31 (.cons d53 (.cons d54 .nil))) (e32 s31 s53 s54)
set_option maxRecDepth 100000 in
theorem e15 (s16 s17 s22 s20 s19 s21 : FS) : S15 s16 s17 s22 s20 s19 s21 = fnF Tryz.prog [(16, s16), (17, s17), (22, s22), (20, s20), (19, s19), (21, s21)] MM Tryz.f15 a15 := by kernel_rfl
theorem d15 : SoundF Tryz.prog 15 s15 := sound_fn (fn := Tryz.f15) (T := [(16, s16), (17, s17), (22, s22), (20, s20), (19, s19), (21, s21)]) (M := MM) (ann := a15) (by kernel_rfl) (by kernel_rfl) (by kernel_rfl) (by kernel_rfl) mix (.cons d16 (.cons d17 (.cons d22 (.cons d20 (.cons d19 (.cons d21 .nil)))))) (e15 s16 s17 s22 s20 s19 s21)
set_option maxRecDepth 100000 in
theorem e23 : S23 = fnF Tryz.prog [] MM Tryz.f23 a23 := by kernel_rfl
theorem d23 : SoundF Tryz.prog 23 s23 := sound_fn (fn := Tryz.f23) (T := []) (M := MM) (ann := a23) (by kernel_rfl) (by kernel_rfl) (by kernel_rfl) (by kernel_rfl) mix .nil (e23)
set_option maxRecDepth 100000 in
theorem e50 (s38 s39 s62 s41 : FS) : S50 s38 s39 s62 s41 = fnF Tryz.prog [(38, s38), (39, s39), (62, s62), (41, s41)] MM Tryz.f50 a50 := by kernel_rfl
theorem d50 : SoundF Tryz.prog 50 s50 := sound_fn (fn := Tryz.f50) (T := [(38, s38), (39, s39), (62, s62), (41, s41)]) (M := MM) (ann := a50) (by kernel_rfl) (by kernel_rfl) (by kernel_rfl) (by kernel_rfl) mix (.cons d38 (.cons d39 (.cons d62 (.cons d41 .nil)))) (e50 s38 s39 s62 s41)
set_option maxRecDepth 100000 in
theorem e27 (s50 s38 s39 s40 : FS) : S27 s50 s38 s39 s40 = fnF Tryz.prog [(50, s50), (38, s38), (39, s39), (40, s40)] MM Tryz.f27 a27 := by kernel_rfl
theorem d27 : SoundF Tryz.prog 27 s27 := sound_fn (fn := Tryz.f27) (T := [(50, s50), (38, s38), (39, s39), (40, s40)]) (M := MM) (ann := a27) (by kernel_rfl) (by kernel_rfl) (by kernel_rfl) (by kernel_rfl) mix (.cons d50 (.cons d38 (.cons d39 (.cons d40 .nil)))) (e27 s50 s38 s39 s40)
set_option maxRecDepth 100000 in
theorem e35 (s55 s56 : FS) : S35 s55 s56 = fnF Tryz.prog [(55, s55), (56, s56)] MM Tryz.f35 a35 := by kernel_rfl
theorem d35 : SoundF Tryz.prog 35 s35 := sound_fn (fn := Tryz.f35) (T := [(55, s55), (56, s56)]) (M := MM) (ann := a35) (by kernel_rfl) (by kernel_rfl) (by kernel_rfl) (by kernel_rfl) mix (.cons d55 (.cons d56 .nil)) (e35 s55 s56)
set_option maxRecDepth 100000 in
theorem e28 (s34 s35 s36 s19 : FS) : S28 s34 s35 s36 s19 = fnF Tryz.prog [(34, s34), (35, s35), (36, s36), (19, s19)] MM Tryz.f28 a28 := by kernel_rfl
theorem d28 : SoundF Tryz.prog 28 s28 := sound_fn (fn := Tryz.f28) (T := [(34, s34), (35, s35), (36, s36), (19, s19)]) (M := MM) (ann := a28) (by kernel_rfl) (by kernel_rfl) (by kernel_rfl) (by kernel_rfl) mix (.cons d34 (.cons d35 (.cons d36 (.cons d19 .nil)))) (e28 s34 s35 s36 s19)
set_option maxRecDepth 100000 in
theorem e33 (s42 s21 : FS) : S33 s42 s21 = fnF Tryz.prog [(42, s42), (21, s21)] MM Tryz.f33 a33 := by kernel_rfl
theorem d33 : SoundF Tryz.prog 33 s33 := sound_fn (fn := Tryz.f33) (T := [(42, s42), (21, s21)]) (M := MM) (ann := a33) (by kernel_rfl) (by kernel_rfl) (by kernel_rfl) (by kernel_rfl) mix (.cons d42 (.cons d21 .nil)) (e33 s42 s21)
set_option maxRecDepth 100000 in
theorem e67 (s44 s34 s49 s51 s35 s48 s38 s39 : FS) : S67 s44 s34 s49 s51 s35 s48 s38 s39 = fnF Tryz.prog [(44, s44), (34, s34), (49, s49), (51, s51), (35, s35), (48, s48), (38, s38), (39, s39)] MM Tryz.f67 a67 := by kernel_rfl
theorem d67 : SoundF Tryz.prog 67 s67 := sound_fn (fn := Tryz.f67) (T := [(44, s44), (34, s34), (49, s49), (51, s51), (35, s35), (48, s48), (38, s38), (39, s39)]) (M := MM) (ann := a67) (by kernel_rfl) (by kernel_rfl) (by kernel_rfl) (by kernel_rfl) mix (.cons d44 (.cons d34 (.cons d49 (.cons d51 (.cons d35 (.cons d48 (.cons d38 (.cons d39 .nil)))))))) (e67 s44 s34 s49 s51 s35 s48 s38 s39)
set_option maxRecDepth 100000 in
theorem e43 (s67 : FS) : S43 s67 = fnF Tryz.prog [(67, s67)] MM Tryz.f43 a43 := by kernel_rfl
theorem d43 : SoundF Tryz.prog 43 s43 := sound_fn (fn := Tryz.f43) (T := [(67, s67)]) (M := MM) (ann := a43) (by kernel_rfl) (by kernel_rfl) (by kernel_rfl) (by kernel_rfl) mix (.cons d67 .nil) (e43 s67)
set_option maxRecDepth 100000 in
theorem e12 (s43 : FS) : S12 s43 = fnF Tryz.prog [(43, s43)] MM Tryz.f12 a12 := by kernel_rfl
theorem d12 : SoundF Tryz.prog 12 s12 := sound_fn (fn := Tryz.f12) (T := [(43, s43)]) (M := MM) (ann := a12) (by kernel_rfl) (by kernel_rfl) (by kernel_rfl) (by kernel_rfl) mix (.cons d43 .nil) (e12 s43)
end Go.Proofs.YtcdpilgndhledaaGreatDoor
