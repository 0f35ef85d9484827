/-
  TopStale: whatever the input, it tells true; the row and its tied card. No condition beyond the card's own.
-/
import Derived.Test.YtcdpilgndhledaaGreatDoorTopStaleE1
import Derived.Test.YtcdpilgndhledaaGreatDoorTopStaleE2
import Derived.Test.YtcdpilgndhledaaGreatDoorTopStaleE3
import Derived.Test.YtcdpilgndhledaaGreatDoorTG3
import Derived.Test.YtcdpilgndhledaaGreatDoorBegun
import Derived.Test.YtcdpilgndhledaaGreatDoorTopStaleF
import Derived.Test.YtcdpilgndhledaaGreatDoorRows
import Derived.Test.YtcdpilgndhledaaGreatDoorTie
import Derived.Test.YtcdpilgndhledaaGreatDoorCards
import Derived.ProofKit
import Derived.OpenShut
import Derived.LaidMore
import Derived.Lay
import Derived.SevenTiedAt
import Derived.Carry
import Derived.Lib.Hide
namespace Go.Proofs.YtcdpilgndhledaaGreatDoor
open Go.ChangeShapes Go.WideShapes Go.ChangeAt Go.RowKit
set_option maxRecDepth 100000 in
theorem re5 (s14 s15 s25 s24 s26 s27 s28 s20 s19 s21 s16 s17 s22 s29 s30 s31 s32 : FS) (x : AV) (h : Hp) (k : AV → Hp → Bool) : R5 s14 s15 s25 s24 s26 s27 s28 s20 s19 s21 s16 s17 s22 s29 s30 s31 s32 x h k = den Tryz.prog [(14, s14), (15, s15), (25, s25), (24, s24), (26, s26), (27, s27), (28, s28), (20, s20), (19, s19), (21, s21), (16, s16), (17, s17), (22, s22), (29, s29), (30, s30), (31, s31), (32, s32)] MM 72 (tlK 4 (bodyOf Tryz.f5)) ra5 (retK Tryz.prog Tryz.f5.results.toList k) (env1 72 x) h := by kernel_rfl
theorem rt5 : SoundT Tryz.prog [(14, s14), (15, s15), (25, s25), (24, s24), (26, s26), (27, s27), (28, s28), (20, s20), (19, s19), (21, s21), (16, s16), (17, s17), (22, s22), (29, s29), (30, s30), (31, s31), (32, s32)] := (.cons d14 (.cons d15 (.cons d25 (.cons d24 (.cons d26 (.cons d27 (.cons d28 (.cons d20 (.cons d19 (.cons d21 (.cons d16 (.cons d17 (.cons d22 (.cons d29 (.cons d30 (.cons d31 (.cons d32 .nil)))))))))))))))))
theorem allTopStale : ∀ i, i < 5 → GoodTopStale i
  | 0, _ => kStale_0
  | 1, _ => kStale_1
  | 2, _ => kStale_2
  | 3, _ => kStale_3
  | 4, _ => kStale_4
  | i + 5, h => absurd h (by omega)
set_option maxRecDepth 100000 in
set_option maxHeartbeats 4000000 in
theorem topStale_walk (a : Int) (w : World)  : Calls Tryz.prog 5 #[.int .i64 a] w fun e w' => e = .returned (.bool true) ∧ Below w.heap.size w w' := by
  go_enter Tryz.func5, Tryz.ntmps5
  refine hide4 ?_
  intro R hR0
  have hR := Lib.hid hR0
  clear hR0
  go_wp2_with fail
  refine (begun_true _).mono ?_
  rintro e w1 ⟨rfl, hb1⟩
  go_wp2_with fail
  refine (small_walk a 5 (by omega) (by omega) _).mono ?_
  rintro e _ ⟨⟨n1, rfl, h1⟩, rfl⟩
  go_wp2_with fail
  rw [show R = tlK 4 (bodyOf Tryz.f5) from hR.out.trans (by kernel_rfl)]
  have hX := re5 s14 s15 s25 s24 s26 s27 s28 s20 s19 s21 s16 s17 s22 s29 s30 s31 s32 (.i .i64 (Nat.add 9223372036854775809 n1)) h00 (fun y _ => isT y)
  have hk := allTopStale n1 (by omega)
  unfold GoodTopStale at hk
  refine rest_true mix rt5 Tryz.ntmps5 rfl ?_ ?_ hX hk hb1
  · exact env1_rel rfl (by decide) rfl (rel_nat r00 1 n1 1 _ (by omega))
  · rfl
set_option maxRecDepth 100000 in
theorem topStale_closed : joinedFacts Tryz.prog 5 Tryz.f5 Rows.topStaleSpec Rows.topStaleRow = true := (andT (andT (andT (andT (andT (andT (andT (andT (andT (andT (andT (andT (andT (andT (andT (andT (andT (andT (andT (andT (andT (andT (andT (andT (andT (andT (andT (andT (andT (andT (andT topStale_jf0 pf1) pf2) topStale_jf3) topStale_jf4) pf5) pf6) pf7) pf8) topStale_jf9) topStale_jf10) topStale_jf11) topStale_jf12) topStale_jf13) topStale_jf14) topStale_jf15) topStale_jf16) topStale_jf17) topStale_jf18) topStale_jf19) topStale_jf20) topStale_jf21) pf22) pf23) pf24) pf25) pf26) pf27) topStale_jf28) topStale_jf29) topStale_jf30) topStale_jf31)
/-! ### From the row to the walk -/
namespace topStaleF
set_option linter.unusedVariables false
theorem own : ownKnob Tryz.prog.godebug = none := by kernel_rfl
theorem laidOut : laidOutB Tryz.prog = true := pf1
set_option maxRecDepth 100000 in
theorem lifted (os : Os) (started : os.Started) (H : Type) (enc : TypeId × Value → H) :
    ReturnsInHanded {} Tryz.checked os 5 .any (fun w args => (Rows.topStaleSpec.pre enc Tryz.prog Tryz.f5 Rows.topStaleRow.domain false w args ∧ laidMetH Tryz.prog Rows.topStaleRow.laid w) ∧ sizedMet enc Tryz.prog Tryz.f5 (OpenSpec.ofChange Rows.topStaleSpec) false w args) (Rows.topStaleSpec.post enc Tryz.prog Tryz.f5 false true false false) := by
  refine returnsInHanded_of_change_and (C := Tryz.checked) (X := (fun w _ => laidMetH Tryz.prog Rows.topStaleRow.laid w)) (fun _ _ _ hh h => h.of_heap hh) own started (by kernel_rfl) Tryz.func5
    (ChangeSpec.witness_shaped (enc := enc) (C := Tryz.checked) (os := os) (X := (fun w _ => laidMetH Tryz.prog Rows.topStaleRow.laid w)) false (World.laidAll Tryz.prog os Rows.topStaleRow.laid) #[.int .i64 0] 8 (World.laidAll_os _ _ _)
      (World.shaped_of_ZipB (by kernel_rfl) (by kernel_rfl)) (by kernel_rfl) (by kernel_rfl) (by kernel_rfl)
      (by rw [MakeChecks.laidMetH_plain _ _ _ (by kernel_rfl)]; exact laidMet_laidAll _ (by kernel_rfl) (by kernel_rfl))) ?_
  intro W base args ds gs before hval0 hW hcnd _ _ _
  have hval : ∀ (j : Nat) t v, Tryz.f5.params[j]? = some t → args[j]? = some v → Value.okWide Tryz.prog W .any base t v := hval0
  have hW' := hW
  obtain ⟨p, q, hA0, hV, rfl, hfz, hnd⟩ := hW
  have hA : DataW.TrodAll enc Tryz.prog W 0 (fun _ => true) true Tryz.f5.params.toList args.toList ds p := hA0
  rw [Tryz.params5] at hA hval
  obtain ⟨v0, vs0, d0, ds0, p0, q0, hargs, rfl, rfl, h0, r0⟩ := trodAll_cons hA
  obtain ⟨rfl, rfl, rfl⟩ := trodAll_nil r0
  obtain rfl : args = #[v0] := by cases args; simp_all
  obtain ⟨rfl, rfl⟩ := trodVars_none hV
  have k0 := h0
  have lt0 : ∀ x ∈ p0, x.block < W.heap.size := by obtain ⟨m, hm⟩ := k0; exact DataW.trod_lt m _ _ _ hm
  obtain ⟨a0, rfl, hd0, hp0, w0⟩ := open_int Tryz.underlying3 (hval 0 3 v0 rfl rfl) h0
  clear hA0 hval0
  refine (topStale_walk a0 W).mono fun e W' ⟨he, bel⟩ => ?_
  subst he
  exact ⟨_, rfl, _, _, _, [], _, [], hW', trodAll_mk1 (shut_bool Tryz.underlying4 _), (trodAll_cons_mk (Below.trod laidOut (by kernel_rfl) (of_decide_eq_true (by kernel_rfl)) k0 bel lt0) trodAll_mk0), rfl, bel.frame _, fun h => by cases h⟩
theorem over : Rows.topStaleRow.holds Tryz.pinned (OpenSpec.ofChange Rows.topStaleSpec) :=
  OpenClaim.holds_of_wide 5 Tryz.f5 rfl rfl rfl rfl rfl rfl rfl ⟨rfl, rfl, rfl, rfl, rfl⟩ rfl rfl rfl rfl rfl topStale_named Tryz.func5 topStale_closed
    (of_decide_eq_true (by kernel_rfl)) (by unfold Func.isWrapper; first | (rw [if_pos (by decide +kernel)]; kernel_rfl) | (rw [if_neg (by decide +kernel)]; exact ⟨rfl, rfl⟩))
    (fun os started H enc _ => lifted os started H enc)
end topStaleF
theorem topStale_card : Rows.TopStaleCardSaid :=
  Claim7.holds_tied_plain_at .later [] [.data, .pinned] true (true, "d3146e336fbef4e75662beffe144cfa311caa8ff6f77acb6ad03935d6fbb37f4") true topStaleF.over (fun _ h => by cases h) topStale_wf (fun _ h => by cases h) topStale_row_tie rfl ⟨rfl, rfl⟩ pmain rfl
    (fun f fn hf hfn => by
      obtain rfl : f = 5 := Option.some.inj (topStale_named.symm.trans hf) |>.symm
      obtain rfl : fn = Tryz.f5 := (Option.some.inj (Tryz.func5.symm.trans hfn)).symm
      exact ⟨plooks, fun j t ht => by
        rw [Tryz.params5] at ht
        have hm : t ∈ [3] := by simpa using Array.mem_of_getElem? ht
        have hall : ([3].all fun u => !Tryz.prog.wantsStandIn u) = true := by kernel_rfl
        exact (show Tryz.prog.wantsStandIn t = false by simpa using List.all_eq_true.1 hall t hm)⟩)
    topStale_goes
#print axioms topStale_card
end Go.Proofs.YtcdpilgndhledaaGreatDoor
