/-
  No claim by itself: the functions do what their texts mean. No condition.
-/
import Derived.Test.YtlannobincnnhaaGreatDoorTG2
namespace Go.Proofs.YtlannobincnnhaaGreatDoor
set_option linter.unusedVariables false
set_option maxRecDepth 100000 in
theorem e221 : S221 = fnF Tryz.prog [] MM Tryz.f221 a221 := by kernel_rfl
theorem d221 : SoundF Tryz.prog 221 s221 := sound_fn (fn := Tryz.f221) (T := []) (M := MM) (ann := a221) (by kernel_rfl) (by kernel_rfl) (by kernel_rfl) (by kernel_rfl) mix .nil (e221)
set_option maxRecDepth 100000 in
theorem e166 (s43 s221 : FS) : S166 s43 s221 = fnF Tryz.prog [(43, s43), (221, s221)] MM Tryz.f166 a166 := by kernel_rfl
theorem d166 : SoundF Tryz.prog 166 s166 := sound_fn (fn := Tryz.f166) (T := [(43, s43), (221, s221)]) (M := MM) (ann := a166) (by kernel_rfl) (by kernel_rfl) (by kernel_rfl) (by kernel_rfl) mix (.cons d43 (.cons d221 .nil)) (e166 s43 s221)
set_option maxRecDepth 100000 in
theorem e101 (s151 : FS) : S101 s151 = fnF Tryz.prog [(151, s151)] MM Tryz.f101 a101 := by kernel_rfl
theorem d101 : SoundF Tryz.prog 101 s101 := sound_fn (fn := Tryz.f101) (T := [(151, s151)]) (M := MM) (ann := a101) (by kernel_rfl) (by kernel_rfl) (by kernel_rfl) (by kernel_rfl) mix (.cons d151 .nil) (e101 s151)
set_option maxRecDepth 100000 in
theorem e165 (s101 : FS) : S165 s101 = fnF Tryz.prog [(101, s101)] MM Tryz.f165 a165 := by kernel_rfl
theorem d165 : SoundF Tryz.prog 165 s165 := sound_fn (fn := Tryz.f165) (T := [(101, s101)]) (M := MM) (ann := a165) (by kernel_rfl) (by kernel_rfl) (by kernel_rfl) (by kernel_rfl) mix (.cons d101 .nil) (e165 s101)
set_option maxRecDepth 100000 in
theorem e97 (s98 : FS) : S97 s98 = fnF Tryz.prog [(98, s98)] MM Tryz.f97 a97 := by kernel_rfl
theorem d97 : SoundF Tryz.prog 97 s97 := sound_fn (fn := Tryz.f97) (T := [(98, s98)]) (M := MM) (ann := a97) (by kernel_rfl) (by kernel_rfl) (by kernel_rfl) (by kernel_rfl) mix (.cons d98 .nil) (e97 s98)
set_option maxRecDepth 100000 in
theorem e279 : S279 = fnF Tryz.prog [] MM Tryz.f279 a279 := by kernel_rfl
theorem d279 : SoundF Tryz.prog 279 s279 := sound_fn (fn := Tryz.f279) (T := []) (M := MM) (ann := a279) (by kernel_rfl) (by kernel_rfl) (by kernel_rfl) (by kernel_rfl) mix .nil (e279)
set_option maxRecDepth 100000 in
theorem e248 (s97 s279 : FS) : S248 s97 s279 = fnF Tryz.prog [(97, s97), (279, s279)] MM Tryz.f248 a248 := by kernel_rfl
theorem d248 : SoundF Tryz.prog 248 s248 := sound_fn (fn := Tryz.f248) (T := [(97, s97), (279, s279)]) (M := MM) (ann := a248) (by kernel_rfl) (by kernel_rfl) (by kernel_rfl) (by kernel_rfl) mix (.cons d97 (.cons d279 .nil)) (e248 s97 s279)
set_option maxRecDepth 100000 in
theorem e239 : S239 = fnF Tryz.prog [] MM Tryz.f239 a239 := by kernel_rfl
theorem d239 : SoundF Tryz.prog 239 s239 := sound_fn (fn := Tryz.f239) (T := []) (M := MM) (ann := a239) (by kernel_rfl) (by kernel_rfl) (by kernel_rfl) (by kernel_rfl) mix .nil (e239)
set_option maxRecDepth 100000 in
theorem e201 (s239 : FS) : S201 s239 = fnF Tryz.prog [(239, s239)] MM Tryz.f201 a201 := by kernel_rfl
theorem d201 : SoundF Tryz.prog 201 s201 := sound_fn (fn := Tryz.f201) (T := [(239, s239)]) (M := MM) (ann := a201) (by kernel_rfl) (by kernel_rfl) (by kernel_rfl) (by kernel_rfl) mix (.cons d239 .nil) (e201 s239)
set_option maxRecDepth 100000 in
theorem e250 (s201 : FS) : S250 s201 = fnF Tryz.prog [(201, s201)] MM Tryz.f250 a250 := by kernel_rfl
theorem d250 : SoundF Tryz.prog 250 s250 := sound_fn (fn := Tryz.f250) (T := [(201, s201)]) (M := MM) (ann := a250) (by kernel_rfl) (by kernel_rfl) (by kernel_rfl) (by kernel_rfl) mix (.cons d201 .nil) (e250 s201)
set_option maxRecDepth 100000 in
theorem e249 (s250 : FS) : S249 s250 = fnF Tryz.prog [(250, s250)] MM Tryz.f249 a249 := by kernel_rfl
theorem d249 : SoundF Tryz.prog 249 s249 := sound_fn (fn := Tryz.f249) (T := [(250, s250)]) (M := MM) (ann := a249) (by kernel_rfl) (by kernel_rfl) (by kernel_rfl) (by kernel_rfl) mix (.cons d250 .nil) (e249 s250)
theorem d276 : SoundF Tryz.prog 276 s276 := sound_stub (fn := Tryz.f276) (by kernel_rfl) (by kernel_rfl) (by kernel_rfl)
set_option maxRecDepth 100000 in
theorem e178 (s133 : FS) : S178 s133 = fnF Tryz.prog [(133, s133)] MM Tryz.f178 a178 := by kernel_rfl
theorem d178 : SoundF Tryz.prog 178 s178 := sound_fn (fn := Tryz.f178) (T := [(133, s133)]) (M := MM) (ann := a178) (by kernel_rfl) (by kernel_rfl) (by kernel_rfl) (by kernel_rfl) mix (.cons d133 .nil) (e178 s133)
set_option maxRecDepth 100000 in
theorem e240 (s221 s276 s97 s123 s178 : FS) : S240 s221 s276 s97 s123 s178 = fnF Tryz.prog [(221, s221), (276, s276), (97, s97), (123, s123), (178, s178)] MM Tryz.f240 a240 := by kernel_rfl
theorem d240 : SoundF Tryz.prog 240 s240 := sound_fn (fn := Tryz.f240) (T := [(221, s221), (276, s276), (97, s97), (123, s123), (178, s178)]) (M := MM) (ann := a240) (by kernel_rfl) (by kernel_rfl) (by kernel_rfl) (by kernel_rfl) mix (.cons d221 (.cons d276 (.cons d97 (.cons d123 (.cons d178 .nil))))) (e240 s221 s276 s97 s123 s178)
set_option maxRecDepth 100000 in
theorem e202 (s240 : FS) : S202 s240 = fnF Tryz.prog [(240, s240)] MM Tryz.f202 a202 := by kernel_rfl
theorem d202 : SoundF Tryz.prog 202 s202 := sound_fn (fn := Tryz.f202) (T := [(240, s240)]) (M := MM) (ann := a202) (by kernel_rfl) (by kernel_rfl) (by kernel_rfl) (by kernel_rfl) mix (.cons d240 .nil) (e202 s240)
set_option maxRecDepth 100000 in
theorem e105 (s178 : FS) : S105 s178 = fnF Tryz.prog [(178, s178)] MM Tryz.f105 a105 := by kernel_rfl
theorem d105 : SoundF Tryz.prog 105 s105 := sound_fn (fn := Tryz.f105) (T := [(178, s178)]) (M := MM) (ann := a105) (by kernel_rfl) (by kernel_rfl) (by kernel_rfl) (by kernel_rfl) mix (.cons d178 .nil) (e105 s178)
set_option maxRecDepth 100000 in
theorem e251 (s117 s68 s71 : FS) : S251 s117 s68 s71 = fnF Tryz.prog [(117, s117), (68, s68), (71, s71)] MM Tryz.f251 a251 := by kernel_rfl
theorem d251 : SoundF Tryz.prog 251 s251 := sound_fn (fn := Tryz.f251) (T := [(117, s117), (68, s68), (71, s71)]) (M := MM) (ann := a251) (by kernel_rfl) (by kernel_rfl) (by kernel_rfl) (by kernel_rfl) mix (.cons d117 (.cons d68 (.cons d71 .nil))) (e251 s117 s68 s71)
set_option maxRecDepth 100000 in
theorem e222 (s248 s249 s202 s105 s221 s251 s70 : FS) : S222 s248 s249 s202 s105 s221 s251 s70 = fnF Tryz.prog [(248, s248), (249, s249), (202, s202), (105, s105), (221, s221), (251, s251), (70, s70)] MM Tryz.f222 a222 := by kernel_rfl
theorem d222 : SoundF Tryz.prog 222 s222 := sound_fn (fn := Tryz.f222) (T := [(248, s248), (249, s249), (202, s202), (105, s105), (221, s221), (251, s251), (70, s70)]) (M := MM) (ann := a222) (by kernel_rfl) (by kernel_rfl) (by kernel_rfl) (by kernel_rfl) mix (.cons d248 (.cons d249 (.cons d202 (.cons d105 (.cons d221 (.cons d251 (.cons d70 .nil))))))) (e222 s248 s249 s202 s105 s221 s251 s70)
set_option maxRecDepth 100000 in
theorem e167 (s222 : FS) : S167 s222 = fnF Tryz.prog [(222, s222)] MM Tryz.f167 a167 := by kernel_rfl
theorem d167 : SoundF Tryz.prog 167 s167 := sound_fn (fn := Tryz.f167) (T := [(222, s222)]) (M := MM) (ann := a167) (by kernel_rfl) (by kernel_rfl) (by kernel_rfl) (by kernel_rfl) mix (.cons d222 .nil) (e167 s222)
set_option maxRecDepth 100000 in
theorem e95 (s19 s21 s166 s165 s167 : FS) : S95 s19 s21 s166 s165 s167 = fnF Tryz.prog [(19, s19), (21, s21), (166, s166), (165, s165), (167, s167)] MM Tryz.f95 a95 := by kernel_rfl
theorem d95 : SoundF Tryz.prog 95 s95 := sound_fn (fn := Tryz.f95) (T := [(19, s19), (21, s21), (166, s166), (165, s165), (167, s167)]) (M := MM) (ann := a95) (by kernel_rfl) (by kernel_rfl) (by kernel_rfl) (by kernel_rfl) mix (.cons d19 (.cons d21 (.cons d166 (.cons d165 (.cons d167 .nil))))) (e95 s19 s21 s166 s165 s167)
set_option maxRecDepth 100000 in
theorem e93 (s19 s21 s94 s95 : FS) : S93 s19 s21 s94 s95 = fnF Tryz.prog [(19, s19), (21, s21), (94, s94), (95, s95)] MM Tryz.f93 a93 := by kernel_rfl
theorem d93 : SoundF Tryz.prog 93 s93 := sound_fn (fn := Tryz.f93) (T := [(19, s19), (21, s21), (94, s94), (95, s95)]) (M := MM) (ann := a93) (by kernel_rfl) (by kernel_rfl) (by kernel_rfl) (by kernel_rfl) mix (.cons d19 (.cons d21 (.cons d94 (.cons d95 .nil)))) (e93 s19 s21 s94 s95)
set_option maxRecDepth 100000 in
theorem e96 (s19 s168 s166 : FS) : S96 s19 s168 s166 = fnF Tryz.prog [(19, s19), (168, s168), (166, s166)] MM Tryz.f96 a96 := by kernel_rfl
theorem d96 : SoundF Tryz.prog 96 s96 := sound_fn (fn := Tryz.f96) (T := [(19, s19), (168, s168), (166, s166)]) (M := MM) (ann := a96) (by kernel_rfl) (by kernel_rfl) (by kernel_rfl) (by kernel_rfl) mix (.cons d19 (.cons d168 (.cons d166 .nil))) (e96 s19 s168 s166)
set_option maxRecDepth 100000 in
theorem e42 (s92 s21 s10 s53 s93 s96 : FS) : S42 s92 s21 s10 s53 s93 s96 = fnF Tryz.prog [(92, s92), (21, s21), (10, s10), (53, s53), (93, s93), (96, s96)] MM Tryz.f42 a42 := by kernel_rfl
theorem d42 : SoundF Tryz.prog 42 s42 := sound_fn (fn := Tryz.f42) (T := [(92, s92), (21, s21), (10, s10), (53, s53), (93, s93), (96, s96)]) (M := MM) (ann := a42) (by kernel_rfl) (by kernel_rfl) (by kernel_rfl) (by kernel_rfl) mix (.cons d92 (.cons d21 (.cons d10 (.cons d53 (.cons d93 (.cons d96 .nil)))))) (e42 s92 s21 s10 s53 s93 s96)
set_option maxRecDepth 100000 in
theorem e26 (s42 : FS) : S26 s42 = fnF Tryz.prog [(42, s42)] MM Tryz.f26 a26 := by kernel_rfl
theorem d26 : SoundF Tryz.prog 26 s26 := sound_fn (fn := Tryz.f26) (T := [(42, s42)]) (M := MM) (ann := a26) (by kernel_rfl) (by kernel_rfl) (by kernel_rfl) (by kernel_rfl) mix (.cons d42 .nil) (e26 s42)
set_option maxRecDepth 100000 in
theorem e14 (s26 : FS) : S14 s26 = fnF Tryz.prog [(26, s26)] MM Tryz.f14 a14 := by kernel_rfl
theorem d14 : SoundF Tryz.prog 14 s14 := sound_fn (fn := Tryz.f14) (T := [(26, s26)]) (M := MM) (ann := a14) (by kernel_rfl) (by kernel_rfl) (by kernel_rfl) (by kernel_rfl) mix (.cons d26 .nil) (e14 s26)
set_option maxRecDepth 100000 in
theorem e44 (s97 : FS) : S44 s97 = fnF Tryz.prog [(97, s97)] MM Tryz.f44 a44 := by kernel_rfl
theorem d44 : SoundF Tryz.prog 44 s44 := sound_fn (fn := Tryz.f44) (T := [(97, s97)]) (M := MM) (ann := a44) (by kernel_rfl) (by kernel_rfl) (by kernel_rfl) (by kernel_rfl) mix (.cons d97 .nil) (e44 s97)
set_option maxRecDepth 100000 in
theorem e45 (s98 : FS) : S45 s98 = fnF Tryz.prog [(98, s98)] MM Tryz.f45 a45 := by kernel_rfl
theorem d45 : SoundF Tryz.prog 45 s45 := sound_fn (fn := Tryz.f45) (T := [(98, s98)]) (M := MM) (ann := a45) (by kernel_rfl) (by kernel_rfl) (by kernel_rfl) (by kernel_rfl) mix (.cons d98 .nil) (e45 s98)
set_option maxRecDepth 100000 in
theorem e27 (s43 s44 s45 : FS) : S27 s43 s44 s45 = fnF Tryz.prog [(43, s43), (44, s44), (45, s45)] MM Tryz.f27 a27 := by kernel_rfl
theorem d27 : SoundF Tryz.prog 27 s27 := sound_fn (fn := Tryz.f27) (T := [(43, s43), (44, s44), (45, s45)]) (M := MM) (ann := a27) (by kernel_rfl) (by kernel_rfl) (by kernel_rfl) (by kernel_rfl) mix (.cons d43 (.cons d44 (.cons d45 .nil))) (e27 s43 s44 s45)
set_option maxRecDepth 100000 in
theorem e47 : S47 = fnF Tryz.prog [] MM Tryz.f47 a47 := by kernel_rfl
theorem d47 : SoundF Tryz.prog 47 s47 := sound_fn (fn := Tryz.f47) (T := []) (M := MM) (ann := a47) (by kernel_rfl) (by kernel_rfl) (by kernel_rfl) (by kernel_rfl) mix .nil (e47)
set_option maxRecDepth 100000 in
theorem e28 (s46 s47 : FS) : S28 s46 s47 = fnF Tryz.prog [(46, s46), (47, s47)] MM Tryz.f28 a28 := by kernel_rfl
theorem d28 : SoundF Tryz.prog 28 s28 := sound_fn (fn := Tryz.f28) (T := [(46, s46), (47, s47)]) (M := MM) (ann := a28) (by kernel_rfl) (by kernel_rfl) (by kernel_rfl) (by kernel_rfl) mix (.cons d46 (.cons d47 .nil)) (e28 s46 s47)
set_option maxRecDepth 100000 in
theorem e15 (s19 s27 s28 : FS) : S15 s19 s27 s28 = fnF Tryz.prog [(19, s19), (27, s27), (28, s28)] MM Tryz.f15 a15 := by kernel_rfl
theorem d15 : SoundF Tryz.prog 15 s15 := sound_fn (fn := Tryz.f15) (T := [(19, s19), (27, s27), (28, s28)]) (M := MM) (ann := a15) (by kernel_rfl) (by kernel_rfl) (by kernel_rfl) (by kernel_rfl) mix (.cons d19 (.cons d27 (.cons d28 .nil))) (e15 s19 s27 s28)
set_option maxRecDepth 100000 in
theorem e100 : S100 = fnF Tryz.prog [] MM Tryz.f100 a100 := by kernel_rfl
theorem d100 : SoundF Tryz.prog 100 s100 := sound_fn (fn := Tryz.f100) (T := []) (M := MM) (ann := a100) (by kernel_rfl) (by kernel_rfl) (by kernel_rfl) (by kernel_rfl) mix .nil (e100)
set_option maxRecDepth 100000 in
theorem e48 (s100 s101 : FS) : S48 s100 s101 = fnF Tryz.prog [(100, s100), (101, s101)] MM Tryz.f48 a48 := by kernel_rfl
theorem d48 : SoundF Tryz.prog 48 s48 := sound_fn (fn := Tryz.f48) (T := [(100, s100), (101, s101)]) (M := MM) (ann := a48) (by kernel_rfl) (by kernel_rfl) (by kernel_rfl) (by kernel_rfl) mix (.cons d100 (.cons d101 .nil)) (e48 s100 s101)
set_option maxRecDepth 100000 in
theorem e29 (s21 s48 : FS) : S29 s21 s48 = fnF Tryz.prog [(21, s21), (48, s48)] MM Tryz.f29 a29 := by kernel_rfl
theorem d29 : SoundF Tryz.prog 29 s29 := sound_fn (fn := Tryz.f29) (T := [(21, s21), (48, s48)]) (M := MM) (ann := a29) (by kernel_rfl) (by kernel_rfl) (by kernel_rfl) (by kernel_rfl) mix (.cons d21 (.cons d48 .nil)) (e29 s21 s48)
set_option maxRecDepth 100000 in
theorem e175 : S175 = fnF Tryz.prog [] MM Tryz.f175 a175 := by kernel_rfl
theorem d175 : SoundF Tryz.prog 175 s175 := sound_fn (fn := Tryz.f175) (T := []) (M := MM) (ann := a175) (by kernel_rfl) (by kernel_rfl) (by kernel_rfl) (by kernel_rfl) mix .nil (e175)
set_option maxRecDepth 100000 in
theorem e104 (s175 : FS) : S104 s175 = fnF Tryz.prog [(175, s175)] MM Tryz.f104 a104 := by kernel_rfl
theorem d104 : SoundF Tryz.prog 104 s104 := sound_fn (fn := Tryz.f104) (T := [(175, s175)]) (M := MM) (ann := a104) (by kernel_rfl) (by kernel_rfl) (by kernel_rfl) (by kernel_rfl) mix (.cons d175 .nil) (e104 s175)
set_option maxRecDepth 100000 in
theorem e51 (s104 : FS) : S51 s104 = fnF Tryz.prog [(104, s104)] MM Tryz.f51 a51 := by kernel_rfl
theorem d51 : SoundF Tryz.prog 51 s51 := sound_fn (fn := Tryz.f51) (T := [(104, s104)]) (M := MM) (ann := a51) (by kernel_rfl) (by kernel_rfl) (by kernel_rfl) (by kernel_rfl) mix (.cons d104 .nil) (e51 s104)
set_option maxRecDepth 100000 in
theorem e49 (s51 : FS) : S49 s51 = fnF Tryz.prog [(51, s51)] MM Tryz.f49 a49 := by kernel_rfl
theorem d49 : SoundF Tryz.prog 49 s49 := sound_fn (fn := Tryz.f49) (T := [(51, s51)]) (M := MM) (ann := a49) (by kernel_rfl) (by kernel_rfl) (by kernel_rfl) (by kernel_rfl) mix (.cons d51 .nil) (e49 s51)
set_option maxRecDepth 100000 in
theorem e30 (s49 : FS) : S30 s49 = fnF Tryz.prog [(49, s49)] MM Tryz.f30 a30 := by kernel_rfl
theorem d30 : SoundF Tryz.prog 30 s30 := sound_fn (fn := Tryz.f30) (T := [(49, s49)]) (M := MM) (ann := a30) (by kernel_rfl) (by kernel_rfl) (by kernel_rfl) (by kernel_rfl) mix (.cons d49 .nil) (e30 s49)
set_option maxRecDepth 100000 in
theorem e280 : S280 = fnF Tryz.prog [] MM Tryz.f280 a280 := by kernel_rfl
theorem d280 : SoundF Tryz.prog 280 s280 := sound_fn (fn := Tryz.f280) (T := []) (M := MM) (ann := a280) (by kernel_rfl) (by kernel_rfl) (by kernel_rfl) (by kernel_rfl) mix .nil (e280)
set_option maxRecDepth 100000 in
theorem e252 (s280 : FS) : S252 s280 = fnF Tryz.prog [(280, s280)] MM Tryz.f252 a252 := by kernel_rfl
theorem d252 : SoundF Tryz.prog 252 s252 := sound_fn (fn := Tryz.f252) (T := [(280, s280)]) (M := MM) (ann := a252) (by kernel_rfl) (by kernel_rfl) (by kernel_rfl) (by kernel_rfl) mix (.cons d280 .nil) (e252 s280)
set_option maxRecDepth 100000 in
theorem e227 (s252 : FS) : S227 s252 = fnF Tryz.prog [(252, s252)] MM Tryz.f227 a227 := by kernel_rfl
theorem d227 : SoundF Tryz.prog 227 s227 := sound_fn (fn := Tryz.f227) (T := [(252, s252)]) (M := MM) (ann := a227) (by kernel_rfl) (by kernel_rfl) (by kernel_rfl) (by kernel_rfl) mix (.cons d252 .nil) (e227 s252)
theorem d228 : SoundF Tryz.prog 228 s228 := sound_stub (fn := Tryz.f228) (by kernel_rfl) (by kernel_rfl) (by kernel_rfl)
set_option maxRecDepth 100000 in
theorem e173 (s227 s228 s175 : FS) : S173 s227 s228 s175 = fnF Tryz.prog [(227, s227), (228, s228), (175, s175)] MM Tryz.f173 a173 := by kernel_rfl
theorem d173 : SoundF Tryz.prog 173 s173 := sound_fn (fn := Tryz.f173) (T := [(227, s227), (228, s228), (175, s175)]) (M := MM) (ann := a173) (by kernel_rfl) (by kernel_rfl) (by kernel_rfl) (by kernel_rfl) mix (.cons d227 (.cons d228 (.cons d175 .nil))) (e173 s227 s228 s175)
set_option maxRecDepth 100000 in
theorem e171 (s173 : FS) : S171 s173 = fnF Tryz.prog [(173, s173)] MM Tryz.f171 a171 := by kernel_rfl
theorem d171 : SoundF Tryz.prog 171 s171 := sound_fn (fn := Tryz.f171) (T := [(173, s173)]) (M := MM) (ann := a171) (by kernel_rfl) (by kernel_rfl) (by kernel_rfl) (by kernel_rfl) mix (.cons d173 .nil) (e171 s173)
set_option maxRecDepth 100000 in
theorem e224 : S224 = fnF Tryz.prog [] MM Tryz.f224 a224 := by kernel_rfl
theorem d224 : SoundF Tryz.prog 224 s224 := sound_fn (fn := Tryz.f224) (T := []) (M := MM) (ann := a224) (by kernel_rfl) (by kernel_rfl) (by kernel_rfl) (by kernel_rfl) mix .nil (e224)
set_option maxRecDepth 100000 in
theorem e225 (s224 : FS) : S225 s224 = fnF Tryz.prog [(224, s224)] MM Tryz.f225 a225 := by kernel_rfl
theorem d225 : SoundF Tryz.prog 225 s225 := sound_fn (fn := Tryz.f225) (T := [(224, s224)]) (M := MM) (ann := a225) (by kernel_rfl) (by kernel_rfl) (by kernel_rfl) (by kernel_rfl) mix (.cons d224 .nil) (e225 s224)
theorem d226 : SoundF Tryz.prog 226 s226 := sound_stub (fn := Tryz.f226) (by kernel_rfl) (by kernel_rfl) (by kernel_rfl)
set_option maxRecDepth 100000 in
theorem e172 (s224 s225 s226 : FS) : S172 s224 s225 s226 = fnF Tryz.prog [(224, s224), (225, s225), (226, s226)] MM Tryz.f172 a172 := by kernel_rfl
theorem d172 : SoundF Tryz.prog 172 s172 := sound_fn (fn := Tryz.f172) (T := [(224, s224), (225, s225), (226, s226)]) (M := MM) (ann := a172) (by kernel_rfl) (by kernel_rfl) (by kernel_rfl) (by kernel_rfl) mix (.cons d224 (.cons d225 (.cons d226 .nil))) (e172 s224 s225 s226)
set_option maxRecDepth 100000 in
theorem e102 (s171 s172 : FS) : S102 s171 s172 = fnF Tryz.prog [(171, s171), (172, s172)] MM Tryz.f102 a102 := by kernel_rfl
theorem d102 : SoundF Tryz.prog 102 s102 := sound_fn (fn := Tryz.f102) (T := [(171, s171), (172, s172)]) (M := MM) (ann := a102) (by kernel_rfl) (by kernel_rfl) (by kernel_rfl) (by kernel_rfl) mix (.cons d171 (.cons d172 .nil)) (e102 s171 s172)
set_option maxRecDepth 100000 in
theorem e174 : S174 = fnF Tryz.prog [] MM Tryz.f174 a174 := by kernel_rfl
theorem d174 : SoundF Tryz.prog 174 s174 := sound_fn (fn := Tryz.f174) (T := []) (M := MM) (ann := a174) (by kernel_rfl) (by kernel_rfl) (by kernel_rfl) (by kernel_rfl) mix .nil (e174)
set_option maxRecDepth 100000 in
theorem e176 : S176 = fnF Tryz.prog [] MM Tryz.f176 a176 := by kernel_rfl
theorem d176 : SoundF Tryz.prog 176 s176 := sound_fn (fn := Tryz.f176) (T := []) (M := MM) (ann := a176) (by kernel_rfl) (by kernel_rfl) (by kernel_rfl) (by kernel_rfl) mix .nil (e176)
set_option maxRecDepth 100000 in
theorem e229 (s252 : FS) : S229 s252 = fnF Tryz.prog [(252, s252)] MM Tryz.f229 a229 := by kernel_rfl
theorem d229 : SoundF Tryz.prog 229 s229 := sound_fn (fn := Tryz.f229) (T := [(252, s252)]) (M := MM) (ann := a229) (by kernel_rfl) (by kernel_rfl) (by kernel_rfl) (by kernel_rfl) mix (.cons d252 .nil) (e229 s252)
set_option maxRecDepth 100000 in
theorem e177 (s229 : FS) : S177 s229 = fnF Tryz.prog [(229, s229)] MM Tryz.f177 a177 := by kernel_rfl
theorem d177 : SoundF Tryz.prog 177 s177 := sound_fn (fn := Tryz.f177) (T := [(229, s229)]) (M := MM) (ann := a177) (by kernel_rfl) (by kernel_rfl) (by kernel_rfl) (by kernel_rfl) mix (.cons d229 .nil) (e177 s229)
set_option maxRecDepth 100000 in
theorem e103 (s173 s174 s175 s176 s177 : FS) : S103 s173 s174 s175 s176 s177 = fnF Tryz.prog [(173, s173), (174, s174), (175, s175), (176, s176), (177, s177)] MM Tryz.f103 a103 := by kernel_rfl
theorem d103 : SoundF Tryz.prog 103 s103 := sound_fn (fn := Tryz.f103) (T := [(173, s173), (174, s174), (175, s175), (176, s176), (177, s177)]) (M := MM) (ann := a103) (by kernel_rfl) (by kernel_rfl) (by kernel_rfl) (by kernel_rfl) mix (.cons d173 (.cons d174 (.cons d175 (.cons d176 (.cons d177 .nil))))) (e103 s173 s174 s175 s176 s177)
set_option maxRecDepth 100000 in
theorem e50 (s102 s103 : FS) : S50 s102 s103 = fnF Tryz.prog [(102, s102), (103, s103)] MM Tryz.f50 a50 := by kernel_rfl
theorem d50 : SoundF Tryz.prog 50 s50 := sound_fn (fn := Tryz.f50) (T := [(102, s102), (103, s103)]) (M := MM) (ann := a50) (by kernel_rfl) (by kernel_rfl) (by kernel_rfl) (by kernel_rfl) mix (.cons d102 (.cons d103 .nil)) (e50 s102 s103)
set_option maxRecDepth 100000 in
theorem e31 (s50 s51 : FS) : S31 s50 s51 = fnF Tryz.prog [(50, s50), (51, s51)] MM Tryz.f31 a31 := by kernel_rfl
theorem d31 : SoundF Tryz.prog 31 s31 := sound_fn (fn := Tryz.f31) (T := [(50, s50), (51, s51)]) (M := MM) (ann := a31) (by kernel_rfl) (by kernel_rfl) (by kernel_rfl) (by kernel_rfl) mix (.cons d50 (.cons d51 .nil)) (e31 s50 s51)
set_option maxRecDepth 100000 in
theorem e16 (s29 s30 s31 : FS) : S16 s29 s30 s31 = fnF Tryz.prog [(29, s29), (30, s30), (31, s31)] MM Tryz.f16 a16 := by kernel_rfl
theorem d16 : SoundF Tryz.prog 16 s16 := sound_fn (fn := Tryz.f16) (T := [(29, s29), (30, s30), (31, s31)]) (M := MM) (ann := a16) (by kernel_rfl) (by kernel_rfl) (by kernel_rfl) (by kernel_rfl) mix (.cons d29 (.cons d30 (.cons d31 .nil))) (e16 s29 s30 s31)
set_option maxRecDepth 100000 in
theorem e52 (s43 s105 : FS) : S52 s43 s105 = fnF Tryz.prog [(43, s43), (105, s105)] MM Tryz.f52 a52 := by kernel_rfl
theorem d52 : SoundF Tryz.prog 52 s52 := sound_fn (fn := Tryz.f52) (T := [(43, s43), (105, s105)]) (M := MM) (ann := a52) (by kernel_rfl) (by kernel_rfl) (by kernel_rfl) (by kernel_rfl) mix (.cons d43 (.cons d105 .nil)) (e52 s43 s105)
set_option maxRecDepth 100000 in
theorem e32 (s18 s19 s20 s26 s52 s53 s11 s12 : FS) : S32 s18 s19 s20 s26 s52 s53 s11 s12 = fnF Tryz.prog [(18, s18), (19, s19), (20, s20), (26, s26), (52, s52), (53, s53), (11, s11), (12, s12)] MM Tryz.f32 a32 := by kernel_rfl
theorem d32 : SoundF Tryz.prog 32 s32 := sound_fn (fn := Tryz.f32) (T := [(18, s18), (19, s19), (20, s20), (26, s26), (52, s52), (53, s53), (11, s11), (12, s12)]) (M := MM) (ann := a32) (by kernel_rfl) (by kernel_rfl) (by kernel_rfl) (by kernel_rfl) mix (.cons d18 (.cons d19 (.cons d20 (.cons d26 (.cons d52 (.cons d53 (.cons d11 (.cons d12 .nil)))))))) (e32 s18 s19 s20 s26 s52 s53 s11 s12)
set_option maxRecDepth 100000 in
theorem e17 (s32 : FS) : S17 s32 = fnF Tryz.prog [(32, s32)] MM Tryz.f17 a17 := by kernel_rfl
theorem d17 : SoundF Tryz.prog 17 s17 := sound_fn (fn := Tryz.f17) (T := [(32, s32)]) (M := MM) (ann := a17) (by kernel_rfl) (by kernel_rfl) (by kernel_rfl) (by kernel_rfl) mix (.cons d32 .nil) (e17 s32)
set_option maxRecDepth 100000 in
theorem e4 (s17 : FS) : S4 s17 = fnF Tryz.prog [(17, s17)] MM Tryz.f4 a4 := by kernel_rfl
theorem d4 : SoundF Tryz.prog 4 s4 := sound_fn (fn := Tryz.f4) (T := [(17, s17)]) (M := MM) (ann := a4) (by kernel_rfl) (by kernel_rfl) (by kernel_rfl) (by kernel_rfl) mix (.cons d17 .nil) (e4 s17)
end Go.Proofs.YtlannobincnnhaaGreatDoor
