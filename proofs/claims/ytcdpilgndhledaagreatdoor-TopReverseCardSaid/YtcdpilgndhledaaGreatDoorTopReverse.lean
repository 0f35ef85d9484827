/-
  TopReverse: whatever the input, it tells true; the row and its tied card. No condition beyond the card's own.
-/
import Derived.Test.YtcdpilgndhledaaGreatDoorTopReverseE1
import Derived.Test.YtcdpilgndhledaaGreatDoorTopReverseE2
import Derived.Test.YtcdpilgndhledaaGreatDoorTopReverseE3
import Derived.Test.YtcdpilgndhledaaGreatDoorTopReverseE4
import Derived.Test.YtcdpilgndhledaaGreatDoorTG3
import Derived.Test.YtcdpilgndhledaaGreatDoorBegun
import Derived.Test.YtcdpilgndhledaaGreatDoorTopReverseF
import Derived.Test.YtcdpilgndhledaaGreatDoorRows
import Derived.Test.YtcdpilgndhledaaGreatDoorTie
import Derived.Test.YtcdpilgndhledaaGreatDoorCards
import Derived.ProofKit
import Derived.OpenShut
import Derived.LaidMore
import Derived.Lay
import Derived.SevenTiedAt
import Derived.Carry
import Derived.Lib.Hide
namespace Go.Proofs.YtcdpilgndhledaaGreatDoor
open Go.ChangeShapes Go.WideShapes Go.ChangeAt Go.RowKit
set_option maxRecDepth 100000 in
theorem re10 (s14 s25 s24 s20 s19 s38 s39 s40 s42 s32 s29 s37 : FS) (x : AV) (h : Hp) (k : AV → Hp → Bool) : R10 s14 s25 s24 s20 s19 s38 s39 s40 s42 s32 s29 s37 x h k = den Tryz.prog [(14, s14), (25, s25), (24, s24), (20, s20), (19, s19), (38, s38), (39, s39), (40, s40), (42, s42), (32, s32), (29, s29), (37, s37)] MM 90 (tlK 4 (bodyOf Tryz.f10)) ra10 (retK Tryz.prog Tryz.f10.results.toList k) (env1 90 x) h := by kernel_rfl
theorem rt10 : SoundT Tryz.prog [(14, s14), (25, s25), (24, s24), (20, s20), (19, s19), (38, s38), (39, s39), (40, s40), (42, s42), (32, s32), (29, s29), (37, s37)] := (.cons d14 (.cons d25 (.cons d24 (.cons d20 (.cons d19 (.cons d38 (.cons d39 (.cons d40 (.cons d42 (.cons d32 (.cons d29 (.cons d37 .nil))))))))))))
theorem allTopReverse : ∀ i, i < 8 → GoodTopReverse i
  | 0, _ => kReverse_0
  | 1, _ => kReverse_1
  | 2, _ => kReverse_2
  | 3, _ => kReverse_3
  | 4, _ => kReverse_4
  | 5, _ => kReverse_5
  | 6, _ => kReverse_6
  | 7, _ => kReverse_7
  | i + 8, h => absurd h (by omega)
set_option maxRecDepth 100000 in
set_option maxHeartbeats 4000000 in
theorem topReverse_walk (a : Int) (w : World)  : Calls Tryz.prog 10 #[.int .i64 a] w fun e w' => e = .returned (.bool true) ∧ Below w.heap.size w w' := by
  go_enter Tryz.func10, Tryz.ntmps10
  refine hide4 ?_
  intro R hR0
  have hR := Lib.hid hR0
  clear hR0
  go_wp2_with fail
  refine (begun_true _).mono ?_
  rintro e w1 ⟨rfl, hb1⟩
  go_wp2_with fail
  refine (small_walk a 8 (by omega) (by omega) _).mono ?_
  rintro e _ ⟨⟨n1, rfl, h1⟩, rfl⟩
  go_wp2_with fail
  rw [show R = tlK 4 (bodyOf Tryz.f10) from hR.out.trans (by kernel_rfl)]
  have hX := re10 s14 s25 s24 s20 s19 s38 s39 s40 s42 s32 s29 s37 (.i .i64 (Nat.add 9223372036854775809 n1)) h00 (fun y _ => isT y)
  have hk := allTopReverse n1 (by omega)
  unfold GoodTopReverse at hk
  refine rest_true mix rt10 Tryz.ntmps10 rfl ?_ ?_ hX hk hb1
  · exact env1_rel rfl (by decide) rfl (rel_nat r00 1 n1 1 _ (by omega))
  · rfl
set_option maxRecDepth 100000 in
theorem topReverse_closed : joinedFacts Tryz.prog 10 Tryz.f10 Rows.topReverseSpec Rows.topReverseRow = true := (andT (andT (andT (andT (andT (andT (andT (andT (andT (andT (andT (andT (andT (andT (andT (andT (andT (andT (andT (andT (andT (andT (andT (andT (andT (andT (andT (andT (andT (andT (andT topReverse_jf0 pf1) pf2) topReverse_jf3) topReverse_jf4) pf5) pf6) pf7) pf8) topReverse_jf9) topReverse_jf10) topReverse_jf11) topReverse_jf12) topReverse_jf13) topReverse_jf14) topReverse_jf15) topReverse_jf16) topReverse_jf17) topReverse_jf18) topReverse_jf19) topReverse_jf20) topReverse_jf21) pf22) pf23) pf24) pf25) pf26) pf27) topReverse_jf28) topReverse_jf29) topReverse_jf30) topReverse_jf31)
/-! ### From the row to the walk -/
namespace topReverseF
set_option linter.unusedVariables false
theorem own : ownKnob Tryz.prog.godebug = none := by kernel_rfl
theorem laidOut : laidOutB Tryz.prog = true := pf1
set_option maxRecDepth 100000 in
theorem lifted (os : Os) (started : os.Started) (H : Type) (enc : TypeId × Value → H) :
    ReturnsInHanded {} Tryz.checked os 10 .any (fun w args => (Rows.topReverseSpec.pre enc Tryz.prog Tryz.f10 Rows.topReverseRow.domain false w args ∧ laidMetH Tryz.prog Rows.topReverseRow.laid w) ∧ sizedMet enc Tryz.prog Tryz.f10 (OpenSpec.ofChange Rows.topReverseSpec) false w args) (Rows.topReverseSpec.post enc Tryz.prog Tryz.f10 false true false false) := by
  refine returnsInHanded_of_change_and (C := Tryz.checked) (X := (fun w _ => laidMetH Tryz.prog Rows.topReverseRow.laid w)) (fun _ _ _ hh h => h.of_heap hh) own started (by kernel_rfl) Tryz.func10
    (ChangeSpec.witness_shaped (enc := enc) (C := Tryz.checked) (os := os) (X := (fun w _ => laidMetH Tryz.prog Rows.topReverseRow.laid w)) false (World.laidAll Tryz.prog os Rows.topReverseRow.laid) #[.int .i64 0] 8 (World.laidAll_os _ _ _)
      (World.shaped_of_ZipB (by kernel_rfl) (by kernel_rfl)) (by kernel_rfl) (by kernel_rfl) (by kernel_rfl)
      (by rw [MakeChecks.laidMetH_plain _ _ _ (by kernel_rfl)]; exact laidMet_laidAll _ (by kernel_rfl) (by kernel_rfl))) ?_
  intro W base args ds gs before hval0 hW hcnd _ _ _
  have hval : ∀ (j : Nat) t v, Tryz.f10.params[j]? = some t → args[j]? = some v → Value.okWide Tryz.prog W .any base t v := hval0
  have hW' := hW
  obtain ⟨p, q, hA0, hV, rfl, hfz, hnd⟩ := hW
  have hA : DataW.TrodAll enc Tryz.prog W 0 (fun _ => true) true Tryz.f10.params.toList args.toList ds p := hA0
  rw [Tryz.params10] at hA hval
  obtain ⟨v0, vs0, d0, ds0, p0, q0, hargs, rfl, rfl, h0, r0⟩ := trodAll_cons hA
  obtain ⟨rfl, rfl, rfl⟩ := trodAll_nil r0
  obtain rfl : args = #[v0] := by cases args; simp_all
  obtain ⟨rfl, rfl⟩ := trodVars_none hV
  have k0 := h0
  have lt0 : ∀ x ∈ p0, x.block < W.heap.size := by obtain ⟨m, hm⟩ := k0; exact DataW.trod_lt m _ _ _ hm
  obtain ⟨a0, rfl, hd0, hp0, w0⟩ := open_int Tryz.underlying3 (hval 0 3 v0 rfl rfl) h0
  clear hA0 hval0
  refine (topReverse_walk a0 W).mono fun e W' ⟨he, bel⟩ => ?_
  subst he
  exact ⟨_, rfl, _, _, _, [], _, [], hW', trodAll_mk1 (shut_bool Tryz.underlying4 _), (trodAll_cons_mk (Below.trod laidOut (by kernel_rfl) (of_decide_eq_true (by kernel_rfl)) k0 bel lt0) trodAll_mk0), rfl, bel.frame _, fun h => by cases h⟩
theorem over : Rows.topReverseRow.holds Tryz.pinned (OpenSpec.ofChange Rows.topReverseSpec) :=
  OpenClaim.holds_of_wide 10 Tryz.f10 rfl rfl rfl rfl rfl rfl rfl ⟨rfl, rfl, rfl, rfl, rfl⟩ rfl rfl rfl rfl rfl topReverse_named Tryz.func10 topReverse_closed
    (of_decide_eq_true (by kernel_rfl)) (by unfold Func.isWrapper; first | (rw [if_pos (by decide +kernel)]; kernel_rfl) | (rw [if_neg (by decide +kernel)]; exact ⟨rfl, rfl⟩))
    (fun os started H enc _ => lifted os started H enc)
end topReverseF
theorem topReverse_card : Rows.TopReverseCardSaid :=
  Claim7.holds_tied_plain_at .later [] [.data, .pinned] true (true, "d3146e336fbef4e75662beffe144cfa311caa8ff6f77acb6ad03935d6fbb37f4") true topReverseF.over (fun _ h => by cases h) topReverse_wf (fun _ h => by cases h) topReverse_row_tie rfl ⟨rfl, rfl⟩ pmain rfl
    (fun f fn hf hfn => by
      obtain rfl : f = 10 := Option.some.inj (topReverse_named.symm.trans hf) |>.symm
      obtain rfl : fn = Tryz.f10 := (Option.some.inj (Tryz.func10.symm.trans hfn)).symm
      exact ⟨plooks, fun j t ht => by
        rw [Tryz.params10] at ht
        have hm : t ∈ [3] := by simpa using Array.mem_of_getElem? ht
        have hall : ([3].all fun u => !Tryz.prog.wantsStandIn u) = true := by kernel_rfl
        exact (show Tryz.prog.wantsStandIn t = false by simpa using List.all_eq_true.1 hall t hm)⟩)
    topReverse_goes
#print axioms topReverse_card
end Go.Proofs.YtcdpilgndhledaaGreatDoor
