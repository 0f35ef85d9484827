/-
  TopStays: whatever the input, it tells true; the row and its tied card. No condition beyond the card's own.
-/
import Derived.Test.YtcdpilgndhledaaGreatDoorTopStaysE1
import Derived.Test.YtcdpilgndhledaaGreatDoorTopStaysE2
import Derived.Test.YtcdpilgndhledaaGreatDoorTopStaysE3
import Derived.Test.YtcdpilgndhledaaGreatDoorTopStaysE4
import Derived.Test.YtcdpilgndhledaaGreatDoorTopStaysE5
import Derived.Test.YtcdpilgndhledaaGreatDoorTopStaysE6
import Derived.Test.YtcdpilgndhledaaGreatDoorTopStaysE7
import Derived.Test.YtcdpilgndhledaaGreatDoorTopStaysE8
import Derived.Test.YtcdpilgndhledaaGreatDoorTopStaysE9
import Derived.Test.YtcdpilgndhledaaGreatDoorTG3
import Derived.Test.YtcdpilgndhledaaGreatDoorBegun
import Derived.Test.YtcdpilgndhledaaGreatDoorTopStaysF
import Derived.Test.YtcdpilgndhledaaGreatDoorRows
import Derived.Test.YtcdpilgndhledaaGreatDoorTie
import Derived.Test.YtcdpilgndhledaaGreatDoorCards
import Derived.ProofKit
import Derived.OpenShut
import Derived.LaidMore
import Derived.Lay
import Derived.SevenTiedAt
import Derived.Carry
import Derived.Lib.Hide
namespace Go.Proofs.YtcdpilgndhledaaGreatDoor
open Go.ChangeShapes Go.WideShapes Go.ChangeAt Go.RowKit
set_option maxRecDepth 100000 in
theorem re3 (s14 s15 s16 s17 s18 s20 s19 s21 s22 : FS) (x y : AV) (h : Hp) (k : AV → Hp → Bool) : R3 s14 s15 s16 s17 s18 s20 s19 s21 s22 x y h k = den Tryz.prog [(14, s14), (15, s15), (16, s16), (17, s17), (18, s18), (20, s20), (19, s19), (21, s21), (22, s22)] MM 77 (tlK 4 (bodyOf Tryz.f3)) ra3 (retK Tryz.prog Tryz.f3.results.toList k) (env2 77 x y) h := by kernel_rfl
theorem rt3 : SoundT Tryz.prog [(14, s14), (15, s15), (16, s16), (17, s17), (18, s18), (20, s20), (19, s19), (21, s21), (22, s22)] := (.cons d14 (.cons d15 (.cons d16 (.cons d17 (.cons d18 (.cons d20 (.cons d19 (.cons d21 (.cons d22 .nil)))))))))
theorem rowTopStays_0 : ∀ j, j < 10 → GoodTopStays 0 j
  | 0, _ => kStays_0_0
  | 1, _ => kStays_0_1
  | 2, _ => kStays_0_2
  | 3, _ => kStays_0_3
  | 4, _ => kStays_0_4
  | 5, _ => kStays_0_5
  | 6, _ => kStays_0_6
  | 7, _ => kStays_0_7
  | 8, _ => kStays_0_8
  | 9, _ => kStays_0_9
  | j + 10, h => absurd h (by omega)
theorem rowTopStays_1 : ∀ j, j < 10 → GoodTopStays 1 j
  | 0, _ => kStays_1_0
  | 1, _ => kStays_1_1
  | 2, _ => kStays_1_2
  | 3, _ => kStays_1_3
  | 4, _ => kStays_1_4
  | 5, _ => kStays_1_5
  | 6, _ => kStays_1_6
  | 7, _ => kStays_1_7
  | 8, _ => kStays_1_8
  | 9, _ => kStays_1_9
  | j + 10, h => absurd h (by omega)
theorem rowTopStays_2 : ∀ j, j < 10 → GoodTopStays 2 j
  | 0, _ => kStays_2_0
  | 1, _ => kStays_2_1
  | 2, _ => kStays_2_2
  | 3, _ => kStays_2_3
  | 4, _ => kStays_2_4
  | 5, _ => kStays_2_5
  | 6, _ => kStays_2_6
  | 7, _ => kStays_2_7
  | 8, _ => kStays_2_8
  | 9, _ => kStays_2_9
  | j + 10, h => absurd h (by omega)
theorem rowTopStays_3 : ∀ j, j < 10 → GoodTopStays 3 j
  | 0, _ => kStays_3_0
  | 1, _ => kStays_3_1
  | 2, _ => kStays_3_2
  | 3, _ => kStays_3_3
  | 4, _ => kStays_3_4
  | 5, _ => kStays_3_5
  | 6, _ => kStays_3_6
  | 7, _ => kStays_3_7
  | 8, _ => kStays_3_8
  | 9, _ => kStays_3_9
  | j + 10, h => absurd h (by omega)
theorem rowTopStays_4 : ∀ j, j < 10 → GoodTopStays 4 j
  | 0, _ => kStays_4_0
  | 1, _ => kStays_4_1
  | 2, _ => kStays_4_2
  | 3, _ => kStays_4_3
  | 4, _ => kStays_4_4
  | 5, _ => kStays_4_5
  | 6, _ => kStays_4_6
  | 7, _ => kStays_4_7
  | 8, _ => kStays_4_8
  | 9, _ => kStays_4_9
  | j + 10, h => absurd h (by omega)
theorem rowTopStays_5 : ∀ j, j < 10 → GoodTopStays 5 j
  | 0, _ => kStays_5_0
  | 1, _ => kStays_5_1
  | 2, _ => kStays_5_2
  | 3, _ => kStays_5_3
  | 4, _ => kStays_5_4
  | 5, _ => kStays_5_5
  | 6, _ => kStays_5_6
  | 7, _ => kStays_5_7
  | 8, _ => kStays_5_8
  | 9, _ => kStays_5_9
  | j + 10, h => absurd h (by omega)
theorem rowTopStays_6 : ∀ j, j < 10 → GoodTopStays 6 j
  | 0, _ => kStays_6_0
  | 1, _ => kStays_6_1
  | 2, _ => kStays_6_2
  | 3, _ => kStays_6_3
  | 4, _ => kStays_6_4
  | 5, _ => kStays_6_5
  | 6, _ => kStays_6_6
  | 7, _ => kStays_6_7
  | 8, _ => kStays_6_8
  | 9, _ => kStays_6_9
  | j + 10, h => absurd h (by omega)
theorem allTopStays : ∀ i j, i < 7 → j < 10 → GoodTopStays i j
  | 0, j, _, h => rowTopStays_0 j h
  | 1, j, _, h => rowTopStays_1 j h
  | 2, j, _, h => rowTopStays_2 j h
  | 3, j, _, h => rowTopStays_3 j h
  | 4, j, _, h => rowTopStays_4 j h
  | 5, j, _, h => rowTopStays_5 j h
  | 6, j, _, h => rowTopStays_6 j h
  | i + 7, _, h, _ => absurd h (by omega)
set_option maxRecDepth 100000 in
set_option maxHeartbeats 4000000 in
theorem topStays_walk (a : Int) (b : Int) (w : World)   : Calls Tryz.prog 3 #[.int .i64 a, .int .i64 b] w fun e w' => e = .returned (.bool true) ∧ Below w.heap.size w w' := by
  go_enter Tryz.func3, Tryz.ntmps3
  refine hide4 ?_
  intro R hR0
  have hR := Lib.hid hR0
  clear hR0
  go_wp2_with fail
  refine (begun_true _).mono ?_
  rintro e w1 ⟨rfl, hb1⟩
  go_wp2_with fail
  refine (small_walk a 7 (by omega) (by omega) _).mono ?_
  rintro e _ ⟨⟨n1, rfl, h1⟩, rfl⟩
  go_wp2_with fail
  refine (small_walk b 10 (by omega) (by omega) _).mono ?_
  rintro e _ ⟨⟨n2, rfl, h2⟩, rfl⟩
  go_wp2_with fail
  rw [show R = tlK 4 (bodyOf Tryz.f3) from hR.out.trans (by kernel_rfl)]
  have hX := re3 s14 s15 s16 s17 s18 s20 s19 s21 s22 (.i .i64 (Nat.add 9223372036854775809 n1)) (.i .i64 (Nat.add 9223372036854775808 n2)) h00 (fun y _ => isT y)
  have hk := allTopStays n1 n2 (by omega) (by omega)
  unfold GoodTopStays at hk
  refine rest_true mix rt3 Tryz.ntmps3 rfl ?_ ?_ hX hk hb1
  · exact env2_rel rfl (by decide) rfl (rel_nat r00 1 n1 1 _ (by omega)) (rel_nat r00 1 n2 0 _ (by omega))
  · rfl
set_option maxRecDepth 100000 in
theorem topStays_closed : joinedFacts Tryz.prog 3 Tryz.f3 Rows.topStaysSpec Rows.topStaysRow = true := (andT (andT (andT (andT (andT (andT (andT (andT (andT (andT (andT (andT (andT (andT (andT (andT (andT (andT (andT (andT (andT (andT (andT (andT (andT (andT (andT (andT (andT (andT (andT topStays_jf0 pf1) pf2) topStays_jf3) topStays_jf4) pf5) pf6) pf7) pf8) topStays_jf9) topStays_jf10) topStays_jf11) topStays_jf12) topStays_jf13) topStays_jf14) topStays_jf15) topStays_jf16) topStays_jf17) topStays_jf18) topStays_jf19) topStays_jf20) topStays_jf21) pf22) pf23) pf24) pf25) pf26) pf27) topStays_jf28) topStays_jf29) topStays_jf30) topStays_jf31)
/-! ### From the row to the walk -/
namespace topStaysF
set_option linter.unusedVariables false
theorem own : ownKnob Tryz.prog.godebug = none := by kernel_rfl
theorem laidOut : laidOutB Tryz.prog = true := pf1
set_option maxRecDepth 100000 in
theorem lifted (os : Os) (started : os.Started) (H : Type) (enc : TypeId × Value → H) :
    ReturnsInHanded {} Tryz.checked os 3 .any (fun w args => (Rows.topStaysSpec.pre enc Tryz.prog Tryz.f3 Rows.topStaysRow.domain false w args ∧ laidMetH Tryz.prog Rows.topStaysRow.laid w) ∧ sizedMet enc Tryz.prog Tryz.f3 (OpenSpec.ofChange Rows.topStaysSpec) false w args) (Rows.topStaysSpec.post enc Tryz.prog Tryz.f3 false true false false) := by
  refine returnsInHanded_of_change_and (C := Tryz.checked) (X := (fun w _ => laidMetH Tryz.prog Rows.topStaysRow.laid w)) (fun _ _ _ hh h => h.of_heap hh) own started (by kernel_rfl) Tryz.func3
    (ChangeSpec.witness_shaped (enc := enc) (C := Tryz.checked) (os := os) (X := (fun w _ => laidMetH Tryz.prog Rows.topStaysRow.laid w)) false (World.laidAll Tryz.prog os Rows.topStaysRow.laid) #[.int .i64 0, .int .i64 0] 8 (World.laidAll_os _ _ _)
      (World.shaped_of_ZipB (by kernel_rfl) (by kernel_rfl)) (by kernel_rfl) (by kernel_rfl) (by kernel_rfl)
      (by rw [MakeChecks.laidMetH_plain _ _ _ (by kernel_rfl)]; exact laidMet_laidAll _ (by kernel_rfl) (by kernel_rfl))) ?_
  intro W base args ds gs before hval0 hW hcnd _ _ _
  have hval : ∀ (j : Nat) t v, Tryz.f3.params[j]? = some t → args[j]? = some v → Value.okWide Tryz.prog W .any base t v := hval0
  have hW' := hW
  obtain ⟨p, q, hA0, hV, rfl, hfz, hnd⟩ := hW
  have hA : DataW.TrodAll enc Tryz.prog W 0 (fun _ => true) true Tryz.f3.params.toList args.toList ds p := hA0
  rw [Tryz.params3] at hA hval
  obtain ⟨v0, vs0, d0, ds0, p0, q0, hargs, rfl, rfl, h0, r0⟩ := trodAll_cons hA
  obtain ⟨v1, vs1, d1, ds1, p1, q1, rfl, rfl, rfl, h1, r1⟩ := trodAll_cons r0
  obtain ⟨rfl, rfl, rfl⟩ := trodAll_nil r1
  obtain rfl : args = #[v0, v1] := by cases args; simp_all
  obtain ⟨rfl, rfl⟩ := trodVars_none hV
  have k0 := h0
  have lt0 : ∀ x ∈ p0, x.block < W.heap.size := by obtain ⟨m, hm⟩ := k0; exact DataW.trod_lt m _ _ _ hm
  obtain ⟨a0, rfl, hd0, hp0, w0⟩ := open_int Tryz.underlying3 (hval 0 3 v0 rfl rfl) h0
  have k1 := h1
  have lt1 : ∀ x ∈ p1, x.block < W.heap.size := by obtain ⟨m, hm⟩ := k1; exact DataW.trod_lt m _ _ _ hm
  obtain ⟨a1, rfl, hd1, hp1, w1⟩ := open_int Tryz.underlying3 (hval 1 3 v1 rfl rfl) h1
  clear hA0 hval0
  refine (topStays_walk a0 a1 W).mono fun e W' ⟨he, bel⟩ => ?_
  subst he
  exact ⟨_, rfl, _, _, _, [], _, [], hW', trodAll_mk1 (shut_bool Tryz.underlying4 _), (trodAll_cons_mk (Below.trod laidOut (by kernel_rfl) (of_decide_eq_true (by kernel_rfl)) k0 bel lt0) (trodAll_cons_mk (Below.trod laidOut (by kernel_rfl) (of_decide_eq_true (by kernel_rfl)) k1 bel lt1) trodAll_mk0)), rfl, bel.frame _, fun h => by cases h⟩
theorem over : Rows.topStaysRow.holds Tryz.pinned (OpenSpec.ofChange Rows.topStaysSpec) :=
  OpenClaim.holds_of_wide 3 Tryz.f3 rfl rfl rfl rfl rfl rfl rfl ⟨rfl, rfl, rfl, rfl, rfl⟩ rfl rfl rfl rfl rfl topStays_named Tryz.func3 topStays_closed
    (of_decide_eq_true (by kernel_rfl)) (by unfold Func.isWrapper; first | (rw [if_pos (by decide +kernel)]; kernel_rfl) | (rw [if_neg (by decide +kernel)]; exact ⟨rfl, rfl⟩))
    (fun os started H enc _ => lifted os started H enc)
end topStaysF
theorem topStays_card : Rows.TopStaysCardSaid :=
  Claim7.holds_tied_plain_at .later [] [.data, .pinned] true (true, "d3146e336fbef4e75662beffe144cfa311caa8ff6f77acb6ad03935d6fbb37f4") true topStaysF.over (fun _ h => by cases h) topStays_wf (fun _ h => by cases h) topStays_row_tie rfl ⟨rfl, rfl⟩ pmain rfl
    (fun f fn hf hfn => by
      obtain rfl : f = 3 := Option.some.inj (topStays_named.symm.trans hf) |>.symm
      obtain rfl : fn = Tryz.f3 := (Option.some.inj (Tryz.func3.symm.trans hfn)).symm
      exact ⟨plooks, fun j t ht => by
        rw [Tryz.params3] at ht
        have hm : t ∈ [3, 3] := by simpa using Array.mem_of_getElem? ht
        have hall : ([3, 3].all fun u => !Tryz.prog.wantsStandIn u) = true := by kernel_rfl
        exact (show Tryz.prog.wantsStandIn t = false by simpa using List.all_eq_true.1 hall t hm)⟩)
    topStays_goes
#print axioms topStays_card
end Go.Proofs.YtcdpilgndhledaaGreatDoor
