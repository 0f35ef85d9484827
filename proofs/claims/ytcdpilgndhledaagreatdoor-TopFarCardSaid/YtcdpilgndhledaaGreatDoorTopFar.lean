/-
  TopFar: whatever the input, it tells true; the row and its tied card. No condition beyond the card's own.
-/
import Derived.Test.YtcdpilgndhledaaGreatDoorTopFarE1
import Derived.Test.YtcdpilgndhledaaGreatDoorTopFarE2
import Derived.Test.YtcdpilgndhledaaGreatDoorTopFarE3
import Derived.Test.YtcdpilgndhledaaGreatDoorTopFarE4
import Derived.Test.YtcdpilgndhledaaGreatDoorTopFarE5
import Derived.Test.YtcdpilgndhledaaGreatDoorTopFarE6
import Derived.Test.YtcdpilgndhledaaGreatDoorTopFarE7
import Derived.Test.YtcdpilgndhledaaGreatDoorTopFarE8
import Derived.Test.YtcdpilgndhledaaGreatDoorTG3
import Derived.Test.YtcdpilgndhledaaGreatDoorBegun
import Derived.Test.YtcdpilgndhledaaGreatDoorTopFarF
import Derived.Test.YtcdpilgndhledaaGreatDoorRows
import Derived.Test.YtcdpilgndhledaaGreatDoorTie
import Derived.Test.YtcdpilgndhledaaGreatDoorCards
import Derived.ProofKit
import Derived.OpenShut
import Derived.LaidMore
import Derived.Lay
import Derived.SevenTiedAt
import Derived.Carry
import Derived.Lib.Hide
namespace Go.Proofs.YtcdpilgndhledaaGreatDoor
open Go.ChangeShapes Go.WideShapes Go.ChangeAt Go.RowKit
set_option maxRecDepth 100000 in
theorem re6 (s14 s15 s25 s24 s33 s28 s34 s35 s36 s19 s37 : FS) (x : AV) (h : Hp) (k : AV → Hp → Bool) : R6 s14 s15 s25 s24 s33 s28 s34 s35 s36 s19 s37 x h k = den Tryz.prog [(14, s14), (15, s15), (25, s25), (24, s24), (33, s33), (28, s28), (34, s34), (35, s35), (36, s36), (19, s19), (37, s37)] MM 79 (tlK 4 (bodyOf Tryz.f6)) ra6 (retK Tryz.prog Tryz.f6.results.toList k) (env1 79 x) h := by kernel_rfl
theorem rt6 : SoundT Tryz.prog [(14, s14), (15, s15), (25, s25), (24, s24), (33, s33), (28, s28), (34, s34), (35, s35), (36, s36), (19, s19), (37, s37)] := (.cons d14 (.cons d15 (.cons d25 (.cons d24 (.cons d33 (.cons d28 (.cons d34 (.cons d35 (.cons d36 (.cons d19 (.cons d37 .nil)))))))))))
theorem allTopFar : ∀ i, i < 30 → GoodTopFar i
  | 0, _ => kFar_0
  | 1, _ => kFar_1
  | 2, _ => kFar_2
  | 3, _ => kFar_3
  | 4, _ => kFar_4
  | 5, _ => kFar_5
  | 6, _ => kFar_6
  | 7, _ => kFar_7
  | 8, _ => kFar_8
  | 9, _ => kFar_9
  | 10, _ => kFar_10
  | 11, _ => kFar_11
  | 12, _ => kFar_12
  | 13, _ => kFar_13
  | 14, _ => kFar_14
  | 15, _ => kFar_15
  | 16, _ => kFar_16
  | 17, _ => kFar_17
  | 18, _ => kFar_18
  | 19, _ => kFar_19
  | 20, _ => kFar_20
  | 21, _ => kFar_21
  | 22, _ => kFar_22
  | 23, _ => kFar_23
  | 24, _ => kFar_24
  | 25, _ => kFar_25
  | 26, _ => kFar_26
  | 27, _ => kFar_27
  | 28, _ => kFar_28
  | 29, _ => kFar_29
  | i + 30, h => absurd h (by omega)
set_option maxRecDepth 100000 in
set_option maxHeartbeats 4000000 in
theorem topFar_walk (a : Int) (w : World)  : Calls Tryz.prog 6 #[.int .i64 a] w fun e w' => e = .returned (.bool true) ∧ Below w.heap.size w w' := by
  go_enter Tryz.func6, Tryz.ntmps6
  refine hide4 ?_
  intro R hR0
  have hR := Lib.hid hR0
  clear hR0
  go_wp2_with fail
  refine (begun_true _).mono ?_
  rintro e w1 ⟨rfl, hb1⟩
  go_wp2_with fail
  refine (small_walk a 30 (by omega) (by omega) _).mono ?_
  rintro e _ ⟨⟨n1, rfl, h1⟩, rfl⟩
  go_wp2_with fail
  rw [show R = tlK 4 (bodyOf Tryz.f6) from hR.out.trans (by kernel_rfl)]
  have hX := re6 s14 s15 s25 s24 s33 s28 s34 s35 s36 s19 s37 (.i .i64 (Nat.add 9223372036854775808 n1)) h00 (fun y _ => isT y)
  have hk := allTopFar n1 (by omega)
  unfold GoodTopFar at hk
  refine rest_true mix rt6 Tryz.ntmps6 rfl ?_ ?_ hX hk hb1
  · exact env1_rel rfl (by decide) rfl (rel_nat r00 1 n1 0 _ (by omega))
  · rfl
set_option maxRecDepth 100000 in
theorem topFar_closed : joinedFacts Tryz.prog 6 Tryz.f6 Rows.topFarSpec Rows.topFarRow = true := (andT (andT (andT (andT (andT (andT (andT (andT (andT (andT (andT (andT (andT (andT (andT (andT (andT (andT (andT (andT (andT (andT (andT (andT (andT (andT (andT (andT (andT (andT (andT topFar_jf0 pf1) pf2) topFar_jf3) topFar_jf4) pf5) pf6) pf7) pf8) topFar_jf9) topFar_jf10) topFar_jf11) topFar_jf12) topFar_jf13) topFar_jf14) topFar_jf15) topFar_jf16) topFar_jf17) topFar_jf18) topFar_jf19) topFar_jf20) topFar_jf21) pf22) pf23) pf24) pf25) pf26) pf27) topFar_jf28) topFar_jf29) topFar_jf30) topFar_jf31)
/-! ### From the row to the walk -/
namespace topFarF
set_option linter.unusedVariables false
theorem own : ownKnob Tryz.prog.godebug = none := by kernel_rfl
theorem laidOut : laidOutB Tryz.prog = true := pf1
set_option maxRecDepth 100000 in
theorem lifted (os : Os) (started : os.Started) (H : Type) (enc : TypeId × Value → H) :
    ReturnsInHanded {} Tryz.checked os 6 .any (fun w args => (Rows.topFarSpec.pre enc Tryz.prog Tryz.f6 Rows.topFarRow.domain false w args ∧ laidMetH Tryz.prog Rows.topFarRow.laid w) ∧ sizedMet enc Tryz.prog Tryz.f6 (OpenSpec.ofChange Rows.topFarSpec) false w args) (Rows.topFarSpec.post enc Tryz.prog Tryz.f6 false true false false) := by
  refine returnsInHanded_of_change_and (C := Tryz.checked) (X := (fun w _ => laidMetH Tryz.prog Rows.topFarRow.laid w)) (fun _ _ _ hh h => h.of_heap hh) own started (by kernel_rfl) Tryz.func6
    (ChangeSpec.witness_shaped (enc := enc) (C := Tryz.checked) (os := os) (X := (fun w _ => laidMetH Tryz.prog Rows.topFarRow.laid w)) false (World.laidAll Tryz.prog os Rows.topFarRow.laid) #[.int .i64 0] 8 (World.laidAll_os _ _ _)
      (World.shaped_of_ZipB (by kernel_rfl) (by kernel_rfl)) (by kernel_rfl) (by kernel_rfl) (by kernel_rfl)
      (by rw [MakeChecks.laidMetH_plain _ _ _ (by kernel_rfl)]; exact laidMet_laidAll _ (by kernel_rfl) (by kernel_rfl))) ?_
  intro W base args ds gs before hval0 hW hcnd _ _ _
  have hval : ∀ (j : Nat) t v, Tryz.f6.params[j]? = some t → args[j]? = some v → Value.okWide Tryz.prog W .any base t v := hval0
  have hW' := hW
  obtain ⟨p, q, hA0, hV, rfl, hfz, hnd⟩ := hW
  have hA : DataW.TrodAll enc Tryz.prog W 0 (fun _ => true) true Tryz.f6.params.toList args.toList ds p := hA0
  rw [Tryz.params6] at hA hval
  obtain ⟨v0, vs0, d0, ds0, p0, q0, hargs, rfl, rfl, h0, r0⟩ := trodAll_cons hA
  obtain ⟨rfl, rfl, rfl⟩ := trodAll_nil r0
  obtain rfl : args = #[v0] := by cases args; simp_all
  obtain ⟨rfl, rfl⟩ := trodVars_none hV
  have k0 := h0
  have lt0 : ∀ x ∈ p0, x.block < W.heap.size := by obtain ⟨m, hm⟩ := k0; exact DataW.trod_lt m _ _ _ hm
  obtain ⟨a0, rfl, hd0, hp0, w0⟩ := open_int Tryz.underlying3 (hval 0 3 v0 rfl rfl) h0
  clear hA0 hval0
  refine (topFar_walk a0 W).mono fun e W' ⟨he, bel⟩ => ?_
  subst he
  exact ⟨_, rfl, _, _, _, [], _, [], hW', trodAll_mk1 (shut_bool Tryz.underlying4 _), (trodAll_cons_mk (Below.trod laidOut (by kernel_rfl) (of_decide_eq_true (by kernel_rfl)) k0 bel lt0) trodAll_mk0), rfl, bel.frame _, fun h => by cases h⟩
theorem over : Rows.topFarRow.holds Tryz.pinned (OpenSpec.ofChange Rows.topFarSpec) :=
  OpenClaim.holds_of_wide 6 Tryz.f6 rfl rfl rfl rfl rfl rfl rfl ⟨rfl, rfl, rfl, rfl, rfl⟩ rfl rfl rfl rfl rfl topFar_named Tryz.func6 topFar_closed
    (of_decide_eq_true (by kernel_rfl)) (by unfold Func.isWrapper; first | (rw [if_pos (by decide +kernel)]; kernel_rfl) | (rw [if_neg (by decide +kernel)]; exact ⟨rfl, rfl⟩))
    (fun os started H enc _ => lifted os started H enc)
end topFarF
theorem topFar_card : Rows.TopFarCardSaid :=
  Claim7.holds_tied_plain_at .later [] [.data, .pinned] true (true, "d3146e336fbef4e75662beffe144cfa311caa8ff6f77acb6ad03935d6fbb37f4") true topFarF.over (fun _ h => by cases h) topFar_wf (fun _ h => by cases h) topFar_row_tie rfl ⟨rfl, rfl⟩ pmain rfl
    (fun f fn hf hfn => by
      obtain rfl : f = 6 := Option.some.inj (topFar_named.symm.trans hf) |>.symm
      obtain rfl : fn = Tryz.f6 := (Option.some.inj (Tryz.func6.symm.trans hfn)).symm
      exact ⟨plooks, fun j t ht => by
        rw [Tryz.params6] at ht
        have hm : t ∈ [3] := by simpa using Array.mem_of_getElem? ht
        have hall : ([3].all fun u => !Tryz.prog.wantsStandIn u) = true := by kernel_rfl
        exact (show Tryz.prog.wantsStandIn t = false by simpa using List.all_eq_true.1 hall t hm)⟩)
    topFar_goes
#print axioms topFar_card
end Go.Proofs.YtcdpilgndhledaaGreatDoor
