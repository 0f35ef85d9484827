/-
  TopLost: whatever the input, it tells true; the row and its tied card. No condition beyond the card's own.
-/
import Derived.Test.YtlannobincnnhaaGreatDoorTopLostE1
import Derived.Test.YtlannobincnnhaaGreatDoorTopLostE2
import Derived.Test.YtlannobincnnhaaGreatDoorTopLostE3
import Derived.Test.YtlannobincnnhaaGreatDoorTopLostE4
import Derived.Test.YtlannobincnnhaaGreatDoorTopLostE5
import Derived.Test.YtlannobincnnhaaGreatDoorTopLostE6
import Derived.Test.YtlannobincnnhaaGreatDoorTopLostE7
import Derived.Test.YtlannobincnnhaaGreatDoorTopLostE8
import Derived.Test.YtlannobincnnhaaGreatDoorTopLostE9
import Derived.Test.YtlannobincnnhaaGreatDoorTopLostE10
import Derived.Test.YtlannobincnnhaaGreatDoorTopLostE11
import Derived.Test.YtlannobincnnhaaGreatDoorTopLostE12
import Derived.Test.YtlannobincnnhaaGreatDoorTopLostE13
import Derived.Test.YtlannobincnnhaaGreatDoorTopLostE14
import Derived.Test.YtlannobincnnhaaGreatDoorTopLostE15
import Derived.Test.YtlannobincnnhaaGreatDoorTopLostE16
import Derived.Test.YtlannobincnnhaaGreatDoorTopLostE17
import Derived.Test.YtlannobincnnhaaGreatDoorTopLostE18
import Derived.Test.YtlannobincnnhaaGreatDoorTopLostE19
import Derived.Test.YtlannobincnnhaaGreatDoorTopLostE20
import Derived.Test.YtlannobincnnhaaGreatDoorTopLostE21
import Derived.Test.YtlannobincnnhaaGreatDoorTopLostE22
import Derived.Test.YtlannobincnnhaaGreatDoorTopLostE23
import Derived.Test.YtlannobincnnhaaGreatDoorTopLostE24
import Derived.Test.YtlannobincnnhaaGreatDoorTopLostE25
import Derived.Test.YtlannobincnnhaaGreatDoorTopLostE26
import Derived.Test.YtlannobincnnhaaGreatDoorTopLostE27
import Derived.Test.YtlannobincnnhaaGreatDoorTopLostE28
import Derived.Test.YtlannobincnnhaaGreatDoorTopLostE29
import Derived.Test.YtlannobincnnhaaGreatDoorTopLostE30
import Derived.Test.YtlannobincnnhaaGreatDoorTG3
import Derived.Test.YtlannobincnnhaaGreatDoorBegun
import Derived.Test.YtlannobincnnhaaGreatDoorTopLostF
import Derived.Test.YtlannobincnnhaaGreatDoorRows
import Derived.Test.YtlannobincnnhaaGreatDoorTie
import Derived.Test.YtlannobincnnhaaGreatDoorCards
import Derived.ProofKit
import Derived.OpenShut
import Derived.LaidMore
import Derived.Lay
import Derived.SevenTiedAt
import Derived.Carry
import Derived.Lib.Hide
namespace Go.Proofs.YtlannobincnnhaaGreatDoor
open Go.ChangeShapes Go.WideShapes Go.ChangeAt Go.RowKit
set_option maxRecDepth 100000 in
theorem re3 (s6 s8 s7 s10 s9 s11 s12 s13 s14 s15 s16 : FS) (x y : AV) (h : Hp) (k : AV → Hp → Bool) : R3 s6 s8 s7 s10 s9 s11 s12 s13 s14 s15 s16 x y h k = den Tryz.prog [(6, s6), (8, s8), (7, s7), (10, s10), (9, s9), (11, s11), (12, s12), (13, s13), (14, s14), (15, s15), (16, s16)] MM 73 (tlK 4 (bodyOf Tryz.f3)) ra3 (retK Tryz.prog Tryz.f3.results.toList k) (env2 73 x y) h := by kernel_rfl
theorem rt3 : SoundT Tryz.prog [(6, s6), (8, s8), (7, s7), (10, s10), (9, s9), (11, s11), (12, s12), (13, s13), (14, s14), (15, s15), (16, s16)] := (.cons d6 (.cons d8 (.cons d7 (.cons d10 (.cons d9 (.cons d11 (.cons d12 (.cons d13 (.cons d14 (.cons d15 (.cons d16 .nil)))))))))))
theorem rowTopLost_0 : ∀ j, j < 30 → GoodTopLost 0 j
  | 0, _ => kLost_0_0
  | 1, _ => kLost_0_1
  | 2, _ => kLost_0_2
  | 3, _ => kLost_0_3
  | 4, _ => kLost_0_4
  | 5, _ => kLost_0_5
  | 6, _ => kLost_0_6
  | 7, _ => kLost_0_7
  | 8, _ => kLost_0_8
  | 9, _ => kLost_0_9
  | 10, _ => kLost_0_10
  | 11, _ => kLost_0_11
  | 12, _ => kLost_0_12
  | 13, _ => kLost_0_13
  | 14, _ => kLost_0_14
  | 15, _ => kLost_0_15
  | 16, _ => kLost_0_16
  | 17, _ => kLost_0_17
  | 18, _ => kLost_0_18
  | 19, _ => kLost_0_19
  | 20, _ => kLost_0_20
  | 21, _ => kLost_0_21
  | 22, _ => kLost_0_22
  | 23, _ => kLost_0_23
  | 24, _ => kLost_0_24
  | 25, _ => kLost_0_25
  | 26, _ => kLost_0_26
  | 27, _ => kLost_0_27
  | 28, _ => kLost_0_28
  | 29, _ => kLost_0_29
  | j + 30, h => absurd h (by omega)
theorem rowTopLost_1 : ∀ j, j < 30 → GoodTopLost 1 j
  | 0, _ => kLost_1_0
  | 1, _ => kLost_1_1
  | 2, _ => kLost_1_2
  | 3, _ => kLost_1_3
  | 4, _ => kLost_1_4
  | 5, _ => kLost_1_5
  | 6, _ => kLost_1_6
  | 7, _ => kLost_1_7
  | 8, _ => kLost_1_8
  | 9, _ => kLost_1_9
  | 10, _ => kLost_1_10
  | 11, _ => kLost_1_11
  | 12, _ => kLost_1_12
  | 13, _ => kLost_1_13
  | 14, _ => kLost_1_14
  | 15, _ => kLost_1_15
  | 16, _ => kLost_1_16
  | 17, _ => kLost_1_17
  | 18, _ => kLost_1_18
  | 19, _ => kLost_1_19
  | 20, _ => kLost_1_20
  | 21, _ => kLost_1_21
  | 22, _ => kLost_1_22
  | 23, _ => kLost_1_23
  | 24, _ => kLost_1_24
  | 25, _ => kLost_1_25
  | 26, _ => kLost_1_26
  | 27, _ => kLost_1_27
  | 28, _ => kLost_1_28
  | 29, _ => kLost_1_29
  | j + 30, h => absurd h (by omega)
theorem rowTopLost_2 : ∀ j, j < 30 → GoodTopLost 2 j
  | 0, _ => kLost_2_0
  | 1, _ => kLost_2_1
  | 2, _ => kLost_2_2
  | 3, _ => kLost_2_3
  | 4, _ => kLost_2_4
  | 5, _ => kLost_2_5
  | 6, _ => kLost_2_6
  | 7, _ => kLost_2_7
  | 8, _ => kLost_2_8
  | 9, _ => kLost_2_9
  | 10, _ => kLost_2_10
  | 11, _ => kLost_2_11
  | 12, _ => kLost_2_12
  | 13, _ => kLost_2_13
  | 14, _ => kLost_2_14
  | 15, _ => kLost_2_15
  | 16, _ => kLost_2_16
  | 17, _ => kLost_2_17
  | 18, _ => kLost_2_18
  | 19, _ => kLost_2_19
  | 20, _ => kLost_2_20
  | 21, _ => kLost_2_21
  | 22, _ => kLost_2_22
  | 23, _ => kLost_2_23
  | 24, _ => kLost_2_24
  | 25, _ => kLost_2_25
  | 26, _ => kLost_2_26
  | 27, _ => kLost_2_27
  | 28, _ => kLost_2_28
  | 29, _ => kLost_2_29
  | j + 30, h => absurd h (by omega)
theorem rowTopLost_3 : ∀ j, j < 30 → GoodTopLost 3 j
  | 0, _ => kLost_3_0
  | 1, _ => kLost_3_1
  | 2, _ => kLost_3_2
  | 3, _ => kLost_3_3
  | 4, _ => kLost_3_4
  | 5, _ => kLost_3_5
  | 6, _ => kLost_3_6
  | 7, _ => kLost_3_7
  | 8, _ => kLost_3_8
  | 9, _ => kLost_3_9
  | 10, _ => kLost_3_10
  | 11, _ => kLost_3_11
  | 12, _ => kLost_3_12
  | 13, _ => kLost_3_13
  | 14, _ => kLost_3_14
  | 15, _ => kLost_3_15
  | 16, _ => kLost_3_16
  | 17, _ => kLost_3_17
  | 18, _ => kLost_3_18
  | 19, _ => kLost_3_19
  | 20, _ => kLost_3_20
  | 21, _ => kLost_3_21
  | 22, _ => kLost_3_22
  | 23, _ => kLost_3_23
  | 24, _ => kLost_3_24
  | 25, _ => kLost_3_25
  | 26, _ => kLost_3_26
  | 27, _ => kLost_3_27
  | 28, _ => kLost_3_28
  | 29, _ => kLost_3_29
  | j + 30, h => absurd h (by omega)
theorem rowTopLost_4 : ∀ j, j < 30 → GoodTopLost 4 j
  | 0, _ => kLost_4_0
  | 1, _ => kLost_4_1
  | 2, _ => kLost_4_2
  | 3, _ => kLost_4_3
  | 4, _ => kLost_4_4
  | 5, _ => kLost_4_5
  | 6, _ => kLost_4_6
  | 7, _ => kLost_4_7
  | 8, _ => kLost_4_8
  | 9, _ => kLost_4_9
  | 10, _ => kLost_4_10
  | 11, _ => kLost_4_11
  | 12, _ => kLost_4_12
  | 13, _ => kLost_4_13
  | 14, _ => kLost_4_14
  | 15, _ => kLost_4_15
  | 16, _ => kLost_4_16
  | 17, _ => kLost_4_17
  | 18, _ => kLost_4_18
  | 19, _ => kLost_4_19
  | 20, _ => kLost_4_20
  | 21, _ => kLost_4_21
  | 22, _ => kLost_4_22
  | 23, _ => kLost_4_23
  | 24, _ => kLost_4_24
  | 25, _ => kLost_4_25
  | 26, _ => kLost_4_26
  | 27, _ => kLost_4_27
  | 28, _ => kLost_4_28
  | 29, _ => kLost_4_29
  | j + 30, h => absurd h (by omega)
theorem allTopLost : ∀ i j, i < 5 → j < 30 → GoodTopLost i j
  | 0, j, _, h => rowTopLost_0 j h
  | 1, j, _, h => rowTopLost_1 j h
  | 2, j, _, h => rowTopLost_2 j h
  | 3, j, _, h => rowTopLost_3 j h
  | 4, j, _, h => rowTopLost_4 j h
  | i + 5, _, h, _ => absurd h (by omega)
set_option maxRecDepth 100000 in
set_option maxHeartbeats 4000000 in
theorem topLost_walk (a : Int) (b : Int) (w : World)   : Calls Tryz.prog 3 #[.int .i64 a, .int .i64 b] w fun e w' => e = .returned (.bool true) ∧ Below w.heap.size w w' := by
  go_enter Tryz.func3, Tryz.ntmps3
  refine hide4 ?_
  intro R hR0
  have hR := Lib.hid hR0
  clear hR0
  go_wp2_with fail
  refine (begun_true _).mono ?_
  rintro e w1 ⟨rfl, hb1⟩
  go_wp2_with fail
  refine (small_walk a 5 (by omega) (by omega) _).mono ?_
  rintro e _ ⟨⟨n1, rfl, h1⟩, rfl⟩
  go_wp2_with fail
  refine (small_walk b 30 (by omega) (by omega) _).mono ?_
  rintro e _ ⟨⟨n2, rfl, h2⟩, rfl⟩
  go_wp2_with fail
  rw [show R = tlK 4 (bodyOf Tryz.f3) from hR.out.trans (by kernel_rfl)]
  have hX := re3 s6 s8 s7 s10 s9 s11 s12 s13 s14 s15 s16 (.i .i64 (Nat.add 9223372036854775809 n1)) (.i .i64 (Nat.add 9223372036854775808 n2)) h00 (fun y _ => isT y)
  have hk := allTopLost n1 n2 (by omega) (by omega)
  unfold GoodTopLost at hk
  refine rest_true mix rt3 Tryz.ntmps3 rfl ?_ ?_ hX hk hb1
  · exact env2_rel rfl (by decide) rfl (rel_nat r00 1 n1 1 _ (by omega)) (rel_nat r00 1 n2 0 _ (by omega))
  · rfl
set_option maxRecDepth 100000 in
theorem topLost_closed : joinedFacts Tryz.prog 3 Tryz.f3 Rows.topLostSpec Rows.topLostRow = true := (andT (andT (andT (andT (andT (andT (andT (andT (andT (andT (andT (andT (andT (andT (andT (andT (andT (andT (andT (andT (andT (andT (andT (andT (andT (andT (andT (andT (andT (andT (andT topLost_jf0 pf1) pf2) topLost_jf3) topLost_jf4) pf5) pf6) pf7) pf8) topLost_jf9) topLost_jf10) topLost_jf11) topLost_jf12) topLost_jf13) topLost_jf14) topLost_jf15) topLost_jf16) topLost_jf17) topLost_jf18) topLost_jf19) topLost_jf20) topLost_jf21) pf22) pf23) pf24) pf25) pf26) pf27) topLost_jf28) topLost_jf29) topLost_jf30) topLost_jf31)
/-! ### From the row to the walk -/
namespace topLostF
set_option linter.unusedVariables false
theorem own : ownKnob Tryz.prog.godebug = none := by kernel_rfl
theorem laidOut : laidOutB Tryz.prog = true := pf1
set_option maxRecDepth 100000 in
theorem lifted (os : Os) (started : os.Started) (H : Type) (enc : TypeId × Value → H) :
    ReturnsInHanded {} Tryz.checked os 3 .any (fun w args => (Rows.topLostSpec.pre enc Tryz.prog Tryz.f3 Rows.topLostRow.domain false w args ∧ laidMetH Tryz.prog Rows.topLostRow.laid w) ∧ sizedMet enc Tryz.prog Tryz.f3 (OpenSpec.ofChange Rows.topLostSpec) false w args) (Rows.topLostSpec.post enc Tryz.prog Tryz.f3 false true false false) := by
  refine returnsInHanded_of_change_and (C := Tryz.checked) (X := (fun w _ => laidMetH Tryz.prog Rows.topLostRow.laid w)) (fun _ _ _ hh h => h.of_heap hh) own started (by kernel_rfl) Tryz.func3
    (ChangeSpec.witness_shaped (enc := enc) (C := Tryz.checked) (os := os) (X := (fun w _ => laidMetH Tryz.prog Rows.topLostRow.laid w)) false (World.laidAll Tryz.prog os Rows.topLostRow.laid) #[.int .i64 0, .int .i64 0] 8 (World.laidAll_os _ _ _)
      (World.shaped_of_ZipB (by kernel_rfl) (by kernel_rfl)) (by kernel_rfl) (by kernel_rfl) (by kernel_rfl)
      (by rw [MakeChecks.laidMetH_plain _ _ _ (by kernel_rfl)]; exact laidMet_laidAll _ (by kernel_rfl) (by kernel_rfl))) ?_
  intro W base args ds gs before hval0 hW hcnd _ _ _
  have hval : ∀ (j : Nat) t v, Tryz.f3.params[j]? = some t → args[j]? = some v → Value.okWide Tryz.prog W .any base t v := hval0
  have hW' := hW
  obtain ⟨p, q, hA0, hV, rfl, hfz, hnd⟩ := hW
  have hA : DataW.TrodAll enc Tryz.prog W 0 (fun _ => true) true Tryz.f3.params.toList args.toList ds p := hA0
  rw [Tryz.params3] at hA hval
  obtain ⟨v0, vs0, d0, ds0, p0, q0, hargs, rfl, rfl, h0, r0⟩ := trodAll_cons hA
  obtain ⟨v1, vs1, d1, ds1, p1, q1, rfl, rfl, rfl, h1, r1⟩ := trodAll_cons r0
  obtain ⟨rfl, rfl, rfl⟩ := trodAll_nil r1
  obtain rfl : args = #[v0, v1] := by cases args; simp_all
  obtain ⟨rfl, rfl⟩ := trodVars_none hV
  have k0 := h0
  have lt0 : ∀ x ∈ p0, x.block < W.heap.size := by obtain ⟨m, hm⟩ := k0; exact DataW.trod_lt m _ _ _ hm
  obtain ⟨a0, rfl, hd0, hp0, w0⟩ := open_int Tryz.underlying3 (hval 0 3 v0 rfl rfl) h0
  have k1 := h1
  have lt1 : ∀ x ∈ p1, x.block < W.heap.size := by obtain ⟨m, hm⟩ := k1; exact DataW.trod_lt m _ _ _ hm
  obtain ⟨a1, rfl, hd1, hp1, w1⟩ := open_int Tryz.underlying3 (hval 1 3 v1 rfl rfl) h1
  clear hA0 hval0
  refine (topLost_walk a0 a1 W).mono fun e W' ⟨he, bel⟩ => ?_
  subst he
  exact ⟨_, rfl, _, _, _, [], _, [], hW', trodAll_mk1 (shut_bool Tryz.underlying4 _), (trodAll_cons_mk (Below.trod laidOut (by kernel_rfl) (of_decide_eq_true (by kernel_rfl)) k0 bel lt0) (trodAll_cons_mk (Below.trod laidOut (by kernel_rfl) (of_decide_eq_true (by kernel_rfl)) k1 bel lt1) trodAll_mk0)), rfl, bel.frame _, fun h => by cases h⟩
theorem over : Rows.topLostRow.holds Tryz.pinned (OpenSpec.ofChange Rows.topLostSpec) :=
  OpenClaim.holds_of_wide 3 Tryz.f3 rfl rfl rfl rfl rfl rfl rfl ⟨rfl, rfl, rfl, rfl, rfl⟩ rfl rfl rfl rfl rfl topLost_named Tryz.func3 topLost_closed
    (of_decide_eq_true (by kernel_rfl)) (by unfold Func.isWrapper; first | (rw [if_pos (by decide +kernel)]; kernel_rfl) | (rw [if_neg (by decide +kernel)]; exact ⟨rfl, rfl⟩))
    (fun os started H enc _ => lifted os started H enc)
end topLostF
theorem topLost_card : Rows.TopLostCardSaid :=
  Claim7.holds_tied_plain_at .later [] [.data, .pinned] true (true, "133d6048f6a4480e48a851a6a7a74aa7ee59824815d525944080e10dafb294d9") true topLostF.over (fun _ h => by cases h) topLost_wf (fun _ h => by cases h) topLost_row_tie rfl ⟨rfl, rfl⟩ pmain rfl
    (fun f fn hf hfn => by
      obtain rfl : f = 3 := Option.some.inj (topLost_named.symm.trans hf) |>.symm
      obtain rfl : fn = Tryz.f3 := (Option.some.inj (Tryz.func3.symm.trans hfn)).symm
      exact ⟨plooks, fun j t ht => by
        rw [Tryz.params3] at ht
        have hm : t ∈ [3, 3] := by simpa using Array.mem_of_getElem? ht
        have hall : ([3, 3].all fun u => !Tryz.prog.wantsStandIn u) = true := by kernel_rfl
        exact (show Tryz.prog.wantsStandIn t = false by simpa using List.all_eq_true.1 hall t hm)⟩)
    topLost_goes
#print axioms topLost_card
end Go.Proofs.YtlannobincnnhaaGreatDoor
