/-
  No claim by itself: the functions do what their texts mean. No condition.
-/
import Derived.Test.YtpchmdddkpocgaaGreatDoorTG1
namespace Go.Proofs.YtpchmdddkpocgaaGreatDoor
set_option linter.unusedVariables false
set_option maxRecDepth 100000
theorem d167 : SoundF Tryz.prog 167 s167 := sound_stub (fn := Tryz.f167) (by kernel_rfl) (by kernel_rfl) (by kernel_rfl)
theorem e87 (s18 s19 s125 s157 s126 s167 : FS) : S87 s18 s19 s125 s157 s126 s167 = fnF Tryz.prog [(18, s18), (19, s19), (125, s125), (157, s157), (126, s126), (167, s167)] MM Tryz.f87 a87 := by kernel_rfl
theorem d87 : SoundF Tryz.prog 87 s87 := sF Tryz.f87 a87 (T := [(18, s18), (19, s19), (125, s125), (157, s157), (126, s126), (167, s167)]) (.cons d18 (.cons d19 (.cons d125 (.cons d157 (.cons d126 (.cons d167 .nil)))))) (e87 s18 s19 s125 s157 s126 s167)
theorem d37 : SoundF Tryz.prog 37 s37 := sF Tryz.f37 a37 .nil (by kernel_rfl)
theorem e69 : S69 = fnF Tryz.prog [] MM Tryz.f69 a69 := by kernel_rfl
theorem d69 : SoundF Tryz.prog 69 s69 := sF Tryz.f69 a69 (T := []) .nil e69
theorem e154 (s55 : FS) : S154 s55 = fnF Tryz.prog [(55, s55)] MM Tryz.f154 a154 := by kernel_rfl
theorem do154 : SoundF Tryz.prog 154 o154 := sF Tryz.f154 a154 (T := [(55, s55)]) (.cons d55 .nil) (e154 s55)
theorem d154 : SoundF Tryz.prog 154 s154 := confF_sound do154
theorem e196 (s114 s157 s154 : FS) : S196 s114 s157 s154 = fnF Tryz.prog [(114, s114), (157, s157), (154, s154)] MM Tryz.f196 a196 := by kernel_rfl
theorem d196 : SoundF Tryz.prog 196 s196 := sF Tryz.f196 a196 (T := [(114, s114), (157, s157), (154, s154)]) (.cons d114 (.cons d157 (.cons d154 .nil))) (e196 s114 s157 s154)
theorem e128 (s114 s196 : FS) : S128 s114 s196 = fnF Tryz.prog [(114, s114), (196, s196)] MM Tryz.f128 a128 := by kernel_rfl
theorem d128 : SoundF Tryz.prog 128 s128 := sF Tryz.f128 a128 (T := [(114, s114), (196, s196)]) (.cons d114 (.cons d196 .nil)) (e128 s114 s196)
theorem e137 (s128 : FS) : S137 s128 = fnF Tryz.prog [(128, s128)] MM Tryz.f137 a137 := by kernel_rfl
theorem d137 : SoundF Tryz.prog 137 s137 := sF Tryz.f137 a137 (T := [(128, s128)]) (.cons d128 .nil) (e137 s128)
theorem e237 : S237 = fnF Tryz.prog [] MM Tryz.f237 a237 := by kernel_rfl
theorem d237 : SoundF Tryz.prog 237 s237 := sF Tryz.f237 a237 (T := []) .nil e237
theorem d225 : SoundF Tryz.prog 225 s225 := sF Tryz.f225 a225 (.cons d237 .nil) (by kernel_rfl)
theorem d138 : SoundF Tryz.prog 138 s138 := sF Tryz.f138 a138 .nil (by kernel_rfl)
theorem e136 (s114 s157 : FS) : S136 s114 s157 = fnF Tryz.prog [(114, s114), (157, s157)] MM Tryz.f136 a136 := by kernel_rfl
theorem d136 : SoundF Tryz.prog 136 s136 := sF Tryz.f136 a136 (T := [(114, s114), (157, s157)]) (.cons d114 (.cons d157 .nil)) (e136 s114 s157)
theorem d228 : SoundF Tryz.prog 228 s228 := sF Tryz.f228 a228 .nil (by kernel_rfl)
theorem d226 : SoundF Tryz.prog 226 s226 := sF Tryz.f226 a226 (.cons d237 (.cons d228 .nil)) (by kernel_rfl)
theorem d197 : SoundF Tryz.prog 197 s197 := sF Tryz.f197 a197 (.cons d225 (.cons d157 (.cons d113 (.cons d138 (.cons d136 (.cons d126 (.cons d226 .nil))))))) (by kernel_rfl)
theorem e129 (s137 s197 : FS) : S129 s137 s197 = fnF Tryz.prog [(137, s137), (197, s197)] MM Tryz.f129 a129 := by kernel_rfl
theorem d129 : SoundF Tryz.prog 129 s129 := sF Tryz.f129 a129 (T := [(137, s137), (197, s197)]) (.cons d137 (.cons d197 .nil)) (e129 s137 s197)
theorem e227 : S227 = fnF Tryz.prog [] MM Tryz.f227 a227 := by kernel_rfl
theorem d227 : SoundF Tryz.prog 227 s227 := sF Tryz.f227 a227 (T := []) .nil e227
theorem e198 (s227 : FS) : S198 s227 = fnF Tryz.prog [(227, s227)] MM Tryz.f198 a198 := by kernel_rfl
theorem d198 : SoundF Tryz.prog 198 s198 := sF Tryz.f198 a198 (T := [(227, s227)]) (.cons d227 .nil) (e198 s227)
theorem e130 (s198 : FS) : S130 s198 = fnF Tryz.prog [(198, s198)] MM Tryz.f130 a130 := by kernel_rfl
theorem d130 : SoundF Tryz.prog 130 s130 := sF Tryz.f130 a130 (T := [(198, s198)]) (.cons d198 .nil) (e130 s198)
theorem d131 : SoundF Tryz.prog 131 s131 := sF Tryz.f131 a131 .nil (by kernel_rfl)
theorem d199 : SoundF Tryz.prog 199 s199 := sF Tryz.f199 a199 .nil (by kernel_rfl)
theorem d132 : SoundF Tryz.prog 132 s132 := sF Tryz.f132 a132 (.cons d55 (.cons d199 .nil)) (by kernel_rfl)
theorem d200 : SoundF Tryz.prog 200 s200 := sF Tryz.f200 a200 (.cons d130 .nil) (by kernel_rfl)
theorem d133 : SoundF Tryz.prog 133 s133 := sF Tryz.f133 a133 (.cons d200 .nil) (by kernel_rfl)
theorem d201 : SoundF Tryz.prog 201 s201 := sF Tryz.f201 a201 (.cons d130 (.cons d55 .nil)) (by kernel_rfl)
theorem d134 : SoundF Tryz.prog 134 s134 := sF Tryz.f134 a134 (.cons d201 .nil) (by kernel_rfl)
theorem d202 : SoundF Tryz.prog 202 s202 := sF Tryz.f202 a202 (.cons d228 .nil) (by kernel_rfl)
theorem e156 (s136 : FS) : S156 s136 = fnF Tryz.prog [(136, s136)] MM Tryz.f156 a156 := by kernel_rfl
theorem d156 : SoundF Tryz.prog 156 s156 := sF Tryz.f156 a156 (T := [(136, s136)]) (.cons d136 .nil) (e156 s136)
theorem e210 (s114 s116 s156 s157 s136 : FS) : S210 s114 s116 s156 s157 s136 = fnF Tryz.prog [(114, s114), (116, s116), (156, s156), (157, s157), (136, s136)] MM Tryz.f210 a210 := by kernel_rfl
theorem d210 : SoundF Tryz.prog 210 s210 := sF Tryz.f210 a210 (T := [(114, s114), (116, s116), (156, s156), (157, s157), (136, s136)]) (.cons d114 (.cons d116 (.cons d156 (.cons d157 (.cons d136 .nil))))) (e210 s114 s116 s156 s157 s136)
theorem e209 : S209 = fnF Tryz.prog [] MM Tryz.f209 a209 := by kernel_rfl
theorem d209 : SoundF Tryz.prog 209 s209 := sF Tryz.f209 a209 (T := []) .nil e209
theorem e158 (s114 s210 s209 : FS) : S158 s114 s210 s209 = fnF Tryz.prog [(114, s114), (210, s210), (209, s209)] MM Tryz.f158 a158 := by kernel_rfl
theorem d158 : SoundF Tryz.prog 158 s158 := sF Tryz.f158 a158 (T := [(114, s114), (210, s210), (209, s209)]) (.cons d114 (.cons d210 (.cons d209 .nil))) (e158 s114 s210 s209)
theorem e287 : S287 = fnF Tryz.prog [] MM Tryz.f287 a287 := by kernel_rfl
theorem d287 : SoundF Tryz.prog 287 s287 := sF Tryz.f287 a287 (T := []) .nil e287
theorem e281 (s287 : FS) : S281 s287 = fnF Tryz.prog [(287, s287)] MM Tryz.f281 a281 := by kernel_rfl
theorem d281 : SoundF Tryz.prog 281 s281 := sF Tryz.f281 a281 (T := [(287, s287)]) (.cons d287 .nil) (e281 s287)
theorem e275 (s281 : FS) : S275 s281 = fnF Tryz.prog [(281, s281)] MM Tryz.f275 a275 := by kernel_rfl
theorem d275 : SoundF Tryz.prog 275 s275 := sF Tryz.f275 a275 (T := [(281, s281)]) (.cons d281 .nil) (e275 s281)
theorem d276 : SoundF Tryz.prog 276 s276 := sound_stub (fn := Tryz.f276) (by kernel_rfl) (by kernel_rfl) (by kernel_rfl)
theorem d277 : SoundF Tryz.prog 277 s277 := sound_stub (fn := Tryz.f277) (by kernel_rfl) (by kernel_rfl) (by kernel_rfl)
theorem d278 : SoundF Tryz.prog 278 s278 := sound_stub (fn := Tryz.f278) (by kernel_rfl) (by kernel_rfl) (by kernel_rfl)
theorem d279 : SoundF Tryz.prog 279 s279 := sound_stub (fn := Tryz.f279) (by kernel_rfl) (by kernel_rfl) (by kernel_rfl)
theorem d280 : SoundF Tryz.prog 280 s280 := sound_stub (fn := Tryz.f280) (by kernel_rfl) (by kernel_rfl) (by kernel_rfl)
theorem d282 : SoundF Tryz.prog 282 s282 := sound_stub (fn := Tryz.f282) (by kernel_rfl) (by kernel_rfl) (by kernel_rfl)
theorem d283 : SoundF Tryz.prog 283 s283 := sound_stub (fn := Tryz.f283) (by kernel_rfl) (by kernel_rfl) (by kernel_rfl)
theorem e273 (s275 s276 s277 s278 s279 s280 s281 s282 s283 s273 : FS) : S273 s275 s276 s277 s278 s279 s280 s281 s282 s283 s273 = fnF Tryz.prog [(275, s275), (276, s276), (277, s277), (278, s278), (279, s279), (280, s280), (281, s281), (282, s282), (283, s283), (273, s273)] MM Tryz.f273 a273 := by kernel_rfl
theorem d273 : SoundF Tryz.prog 273 s273 := sF Tryz.f273 a273 (T := [(275, s275), (276, s276), (277, s277), (278, s278), (279, s279), (280, s280), (281, s281), (282, s282), (283, s283), (273, sx)]) (.cons d275 (.cons d276 (.cons d277 (.cons d278 (.cons d279 (.cons d280 (.cons d281 (.cons d282 (.cons d283 (.cons (sound_stub (fn := Tryz.f273) (by kernel_rfl) (by kernel_rfl) (by kernel_rfl)) .nil)))))))))) (e273 s275 s276 s277 s278 s279 s280 s281 s282 s283 sx)
theorem e265 (s218 s273 : FS) : S265 s218 s273 = fnF Tryz.prog [(218, s218), (273, s273)] MM Tryz.f265 a265 := by kernel_rfl
theorem d265 : SoundF Tryz.prog 265 s265 := sF Tryz.f265 a265 (T := [(218, s218), (273, s273)]) (.cons d218 (.cons d273 .nil)) (e265 s218 s273)
theorem e238 (s55 s265 : FS) : S238 s55 s265 = fnF Tryz.prog [(55, s55), (265, s265)] MM Tryz.f238 a238 := by kernel_rfl
theorem d238 : SoundF Tryz.prog 238 s238 := sF Tryz.f238 a238 (T := [(55, s55), (265, s265)]) (.cons d55 (.cons d265 .nil)) (e238 s55 s265)
theorem e211 (s237 s238 : FS) : S211 s237 s238 = fnF Tryz.prog [(237, s237), (238, s238)] MM Tryz.f211 a211 := by kernel_rfl
theorem d211 : SoundF Tryz.prog 211 s211 := sF Tryz.f211 a211 (T := [(237, s237), (238, s238)]) (.cons d237 (.cons d238 .nil)) (e211 s237 s238)
theorem e159 (s128 s114 s211 s156 s130 : FS) : S159 s128 s114 s211 s156 s130 = fnF Tryz.prog [(128, s128), (114, s114), (211, s211), (156, s156), (130, s130)] MM Tryz.f159 a159 := by kernel_rfl
theorem d159 : SoundF Tryz.prog 159 s159 := sF Tryz.f159 a159 (T := [(128, s128), (114, s114), (211, s211), (156, s156), (130, s130)]) (.cons d128 (.cons d114 (.cons d211 (.cons d156 (.cons d130 .nil))))) (e159 s128 s114 s211 s156 s130)
theorem d135 : SoundF Tryz.prog 135 s135 := sF Tryz.f135 a135 (.cons d114 (.cons d202 (.cons d157 (.cons d126 (.cons d158 (.cons d159 (.cons d129 .nil))))))) (by kernel_rfl)
theorem e139 : S139 = fnF Tryz.prog [] MM Tryz.f139 a139 := by kernel_rfl
theorem d139 : SoundF Tryz.prog 139 s139 := sF Tryz.f139 a139 (T := []) .nil e139
theorem d71 : SoundF Tryz.prog 71 s71 := sF Tryz.f71 a71 (.cons d128 (.cons d129 (.cons d130 (.cons d131 (.cons d132 (.cons d133 (.cons d134 (.cons d135 (.cons d114 (.cons d136 (.cons d137 (.cons d138 (.cons d139 .nil))))))))))))) (by kernel_rfl)
theorem d193 : SoundF Tryz.prog 193 s193 := sF Tryz.f193 a193 .nil (by kernel_rfl)
theorem e224 (s102 s145 : FS) : S224 s102 s145 = fnF Tryz.prog [(102, s102), (145, s145)] MM Tryz.f224 a224 := by kernel_rfl
theorem d224 : SoundF Tryz.prog 224 s224 := sF Tryz.f224 a224 (T := [(102, s102), (145, s145)]) (.cons d102 (.cons d145 .nil)) (e224 s102 s145)
theorem d192 : SoundF Tryz.prog 192 s192 := sF Tryz.f192 a192 (.cons d112 (.cons d62 (.cons d219 (.cons d224 .nil)))) (by kernel_rfl)
theorem e194 (s62 s112 s219 s224 : FS) : S194 s62 s112 s219 s224 = fnF Tryz.prog [(62, s62), (112, s112), (219, s219), (224, s224)] MM Tryz.f194 a194 := by kernel_rfl
theorem d194 : SoundF Tryz.prog 194 s194 := sF Tryz.f194 a194 (T := [(62, s62), (112, s112), (219, s219), (224, s224)]) (.cons d62 (.cons d112 (.cons d219 (.cons d224 .nil)))) (e194 s62 s112 s219 s224)
theorem e195 (s146 : FS) : S195 s146 = fnF Tryz.prog [(146, s146)] MM Tryz.f195 a195 := by kernel_rfl
theorem d195 : SoundF Tryz.prog 195 s195 := sF Tryz.f195 a195 (T := [(146, s146)]) (.cons d146 .nil) (e195 s146)
theorem e123 (s193 s192 s125 s113 s58 s66 s63 s126 s194 s195 : FS) : S123 s193 s192 s125 s113 s58 s66 s63 s126 s194 s195 = fnF Tryz.prog [(193, s193), (192, s192), (125, s125), (113, s113), (58, s58), (66, s66), (63, s63), (126, s126), (194, s194), (195, s195)] MM Tryz.f123 a123 := by kernel_rfl
theorem d123 : SoundF Tryz.prog 123 s123 := sF Tryz.f123 a123 (T := [(193, s193), (192, s192), (125, s125), (113, s113), (58, s58), (66, s66), (63, s63), (126, s126), (194, s194), (195, s195)]) (.cons d193 (.cons d192 (.cons d125 (.cons d113 (.cons d58 (.cons d66 (.cons d63 (.cons d126 (.cons d194 (.cons d195 .nil)))))))))) (e123 s193 s192 s125 s113 s58 s66 s63 s126 s194 s195)
theorem e124 : S124 = fnF Tryz.prog [] MM Tryz.f124 a124 := by kernel_rfl
theorem d124 : SoundF Tryz.prog 124 s124 := sF Tryz.f124 a124 (T := []) .nil e124
theorem e160 (s90 : FS) : S160 s90 = fnF Tryz.prog [(90, s90)] MM Tryz.f160 a160 := by kernel_rfl
theorem d160 : SoundF Tryz.prog 160 s160 := sF Tryz.f160 a160 (T := [(90, s90)]) (.cons d90 .nil) (e160 s90)
theorem e127 (s109 s110 s160 : FS) : S127 s109 s110 s160 = fnF Tryz.prog [(109, s109), (110, s110), (160, s160)] MM Tryz.f127 a127 := by kernel_rfl
theorem d127 : SoundF Tryz.prog 127 s127 := sF Tryz.f127 a127 (T := [(109, s109), (110, s110), (160, s160)]) (.cons d109 (.cons d110 (.cons d160 .nil))) (e127 s109 s110 s160)
theorem e70 (s123 s66 s124 s125 s126 s127 : FS) : S70 s123 s66 s124 s125 s126 s127 = fnF Tryz.prog [(123, s123), (66, s66), (124, s124), (125, s125), (126, s126), (127, s127)] MM Tryz.f70 a70 := by kernel_rfl
theorem d70 : SoundF Tryz.prog 70 s70 := sF Tryz.f70 a70 (T := [(123, s123), (66, s66), (124, s124), (125, s125), (126, s126), (127, s127)]) (.cons d123 (.cons d66 (.cons d124 (.cons d125 (.cons d126 (.cons d127 .nil)))))) (e70 s123 s66 s124 s125 s126 s127)
theorem d39 : SoundF Tryz.prog 39 s39 := sF Tryz.f39 a39 (.cons d69 (.cons d71 (.cons d70 .nil))) (by kernel_rfl)
theorem e189 : S189 = fnF Tryz.prog [] MM Tryz.f189 a189 := by kernel_rfl
theorem d189 : SoundF Tryz.prog 189 s189 := sF Tryz.f189 a189 (T := []) .nil e189
theorem e190 : S190 = fnF Tryz.prog [] MM Tryz.f190 a190 := by kernel_rfl
theorem d190 : SoundF Tryz.prog 190 s190 := sF Tryz.f190 a190 (T := []) .nil e190
theorem e191 (s112 : FS) : S191 s112 = fnF Tryz.prog [(112, s112)] MM Tryz.f191 a191 := by kernel_rfl
theorem d191 : SoundF Tryz.prog 191 s191 := sF Tryz.f191 a191 (T := [(112, s112)]) (.cons d112 .nil) (e191 s112)
theorem e121 (s189 s190 s191 s154 s101 : FS) : S121 s189 s190 s191 s154 s101 = fnF Tryz.prog [(189, s189), (190, s190), (191, s191), (154, s154), (101, s101)] MM Tryz.f121 a121 := by kernel_rfl
theorem d121 : SoundF Tryz.prog 121 s121 := sF Tryz.f121 a121 (T := [(189, s189), (190, s190), (191, s191), (154, s154), (101, s101)]) (.cons d189 (.cons d190 (.cons d191 (.cons d154 (.cons d101 .nil))))) (e121 s189 s190 s191 s154 s101)
theorem e122 (s106 : FS) : S122 s106 = fnF Tryz.prog [(106, s106)] MM Tryz.f122 a122 := by kernel_rfl
theorem d122 : SoundF Tryz.prog 122 s122 := sF Tryz.f122 a122 (T := [(106, s106)]) (.cons d106 .nil) (e122 s106)
theorem d68 : SoundF Tryz.prog 68 s68 := sF Tryz.f68 a68 (.cons d121 (.cons d122 .nil)) (by kernel_rfl)
theorem e38 (s68 : FS) : S38 s68 = fnF Tryz.prog [(68, s68)] MM Tryz.f38 a38 := by kernel_rfl
theorem d38 : SoundF Tryz.prog 38 s38 := sF Tryz.f38 a38 (T := [(68, s68)]) (.cons d68 .nil) (e38 s68)
theorem d22 : SoundF Tryz.prog 22 s22 := sF Tryz.f22 a22 (.cons d18 (.cons d37 (.cons d39 (.cons d38 .nil)))) (by kernel_rfl)
theorem e53 : S53 = fnF Tryz.prog [] MM Tryz.f53 a53 := by kernel_rfl
theorem d53 : SoundF Tryz.prog 53 s53 := sF Tryz.f53 a53 (T := []) .nil e53
theorem e54 : S54 = fnF Tryz.prog [] MM Tryz.f54 a54 := by kernel_rfl
theorem d54 : SoundF Tryz.prog 54 s54 := sF Tryz.f54 a54 (T := []) .nil e54
theorem d140 : SoundF Tryz.prog 140 s140 := sF Tryz.f140 a140 (.cons d54 (.cons d122 .nil)) (by kernel_rfl)
theorem d203 : SoundF Tryz.prog 203 s203 := sF Tryz.f203 a203 .nil (by kernel_rfl)
theorem d141 : SoundF Tryz.prog 141 s141 := sF Tryz.f141 a141 (.cons d54 (.cons d203 .nil)) (by kernel_rfl)
theorem d229 : SoundF Tryz.prog 229 s229 := sF Tryz.f229 a229 (.cons d131 .nil) (by kernel_rfl)
theorem d257 : SoundF Tryz.prog 257 s257 := sF Tryz.f257 a257 (.cons d114 (.cons d136 .nil)) (by kernel_rfl)
theorem d230 : SoundF Tryz.prog 230 s230 := sF Tryz.f230 a230 (.cons d257 (.cons d131 (.cons d138 .nil))) (by kernel_rfl)
theorem d258 : SoundF Tryz.prog 258 s258 := sound_stub (fn := Tryz.f258) (by kernel_rfl) (by kernel_rfl) (by kernel_rfl)
theorem d259 : SoundF Tryz.prog 259 s259 := sound_stub (fn := Tryz.f259) (by kernel_rfl) (by kernel_rfl) (by kernel_rfl)
theorem d231 : SoundF Tryz.prog 231 s231 := sF Tryz.f231 a231 (.cons d133 (.cons d258 (.cons d134 (.cons d135 (.cons d259 .nil))))) (by kernel_rfl)
theorem d260 : SoundF Tryz.prog 260 s260 := sF Tryz.f260 a260 .nil (by kernel_rfl)
theorem d232 : SoundF Tryz.prog 232 s232 := sF Tryz.f232 a232 (.cons d260 (.cons d156 (.cons d114 (.cons d138 (.cons d210 (.cons d209 .nil)))))) (by kernel_rfl)
theorem d261 : SoundF Tryz.prog 261 s261 := sound_stub (fn := Tryz.f261) (by kernel_rfl) (by kernel_rfl) (by kernel_rfl)
theorem d262 : SoundF Tryz.prog 262 s262 := sF Tryz.f262 a262 (.cons d237 (.cons d228 .nil)) (by kernel_rfl)
theorem d233 : SoundF Tryz.prog 233 s233 := sF Tryz.f233 a233 (.cons d114 (.cons d261 (.cons d197 (.cons d262 (.cons d159 (.cons d225 .nil)))))) (by kernel_rfl)
theorem d234 : SoundF Tryz.prog 234 s234 := sound_stub (fn := Tryz.f234) (by kernel_rfl) (by kernel_rfl) (by kernel_rfl)
theorem d204 : SoundF Tryz.prog 204 s204 := sF Tryz.f204 a204 (.cons d121 (.cons d229 (.cons d138 (.cons d139 (.cons d230 (.cons d231 (.cons d232 (.cons d233 (.cons d234 .nil))))))))) (by kernel_rfl)
theorem d142 : SoundF Tryz.prog 142 s142 := sF Tryz.f142 a142 (.cons d69 (.cons d204 (.cons d70 .nil))) (by kernel_rfl)
theorem d72 : SoundF Tryz.prog 72 s72 := sF Tryz.f72 a72 (.cons d140 (.cons d141 (.cons d142 (.cons d38 .nil)))) (by kernel_rfl)
theorem e40 (s53 s54 s72 : FS) : S40 s53 s54 s72 = fnF Tryz.prog [(53, s53), (54, s54), (72, s72)] MM Tryz.f40 a40 := by kernel_rfl
theorem d40 : SoundF Tryz.prog 40 s40 := sF Tryz.f40 a40 (T := [(53, s53), (54, s54), (72, s72)]) (.cons d53 (.cons d54 (.cons d72 .nil))) (e40 s53 s54 s72)
theorem e150 (s144 s73 : FS) : S150 s144 s73 = fnF Tryz.prog [(144, s144), (73, s73)] MM Tryz.f150 a150 := by kernel_rfl
theorem d150 : SoundF Tryz.prog 150 s150 := sF Tryz.f150 a150 (T := [(144, s144), (73, s73)]) (.cons d144 (.cons d73 .nil)) (e150 s144 s73)
theorem e78 (s150 : FS) : S78 s150 = fnF Tryz.prog [(150, s150)] MM Tryz.f78 a78 := by kernel_rfl
theorem d78 : SoundF Tryz.prog 78 s78 := sF Tryz.f78 a78 (T := [(150, s150)]) (.cons d150 .nil) (e78 s150)
theorem e42 (s78 : FS) : S42 s78 = fnF Tryz.prog [(78, s78)] MM Tryz.f42 a42 := by kernel_rfl
theorem d42 : SoundF Tryz.prog 42 s42 := sF Tryz.f42 a42 (T := [(78, s78)]) (.cons d78 .nil) (e42 s78)
theorem e20 : S20 = fnF Tryz.prog [] MM Tryz.f20 a20 := by kernel_rfl
theorem d20 : SoundF Tryz.prog 20 s20 := sF Tryz.f20 a20 (T := []) .nil e20
theorem e80 (s152 : FS) : S80 s152 = fnF Tryz.prog [(152, s152)] MM Tryz.f80 a80 := by kernel_rfl
theorem d80 : SoundF Tryz.prog 80 s80 := sF Tryz.f80 a80 (T := [(152, s152)]) (.cons d152 .nil) (e80 s152)
theorem e153 (s152 s184 : FS) : S153 s152 s184 = fnF Tryz.prog [(152, s152), (184, s184)] MM Tryz.f153 a153 := by kernel_rfl
theorem d153 : SoundF Tryz.prog 153 s153 := sF Tryz.f153 a153 (T := [(152, s152), (184, s184)]) (.cons d152 (.cons d184 .nil)) (e153 s152 s184)
theorem e81 (s153 : FS) : S81 s153 = fnF Tryz.prog [(153, s153)] MM Tryz.f81 a81 := by kernel_rfl
theorem d81 : SoundF Tryz.prog 81 s81 := sF Tryz.f81 a81 (T := [(153, s153)]) (.cons d153 .nil) (e81 s153)
theorem e82 (s125 s66 s126 s109 : FS) : S82 s125 s66 s126 s109 = fnF Tryz.prog [(125, s125), (66, s66), (126, s126), (109, s109)] MM Tryz.f82 a82 := by kernel_rfl
theorem d82 : SoundF Tryz.prog 82 s82 := sF Tryz.f82 a82 (T := [(125, s125), (66, s66), (126, s126), (109, s109)]) (.cons d125 (.cons d66 (.cons d126 (.cons d109 .nil)))) (e82 s125 s66 s126 s109)
theorem d155 : SoundF Tryz.prog 155 s155 := sound_stub (fn := Tryz.f155) (by kernel_rfl) (by kernel_rfl) (by kernel_rfl)
theorem e83 (s128 s154 s155 s156 s157 s126 s158 s159 s129 s139 : FS) : S83 s128 s154 s155 s156 s157 s126 s158 s159 s129 s139 = fnF Tryz.prog [(128, s128), (154, s154), (155, s155), (156, s156), (157, s157), (126, s126), (158, s158), (159, s159), (129, s129), (139, s139)] MM Tryz.f83 a83 := by kernel_rfl
theorem d83 : SoundF Tryz.prog 83 s83 := sF Tryz.f83 a83 (T := [(128, s128), (154, s154), (155, s155), (156, s156), (157, s157), (126, s126), (158, s158), (159, s159), (129, s129), (139, s139)]) (.cons d128 (.cons d154 (.cons d155 (.cons d156 (.cons d157 (.cons d126 (.cons d158 (.cons d159 (.cons d129 (.cons d139 .nil)))))))))) (e83 s128 s154 s155 s156 s157 s126 s158 s159 s129 s139)
theorem e43 (s69 s79 s20 s80 s81 s82 s74 s83 s70 : FS) : S43 s69 s79 s20 s80 s81 s82 s74 s83 s70 = fnF Tryz.prog [(69, s69), (79, s79), (20, s20), (80, s80), (81, s81), (82, s82), (74, s74), (83, s83), (70, s70)] MM Tryz.f43 a43 := by kernel_rfl
theorem d43 : SoundF Tryz.prog 43 s43 := sF Tryz.f43 a43 (T := [(69, s69), (79, s79), (20, s20), (80, s80), (81, s81), (82, s82), (74, s74), (83, s83), (70, s70)]) (.cons d69 (.cons d79 (.cons d20 (.cons d80 (.cons d81 (.cons d82 (.cons d74 (.cons d83 (.cons d70 .nil))))))))) (e43 s69 s79 s20 s80 s81 s82 s74 s83 s70)
end Go.Proofs.YtpchmdddkpocgaaGreatDoor
