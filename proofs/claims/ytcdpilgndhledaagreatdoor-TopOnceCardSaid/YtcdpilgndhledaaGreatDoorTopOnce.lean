/-
  TopOnce: whatever the input, it tells true; the row and its tied card. No condition beyond the card's own.
-/
import Derived.Test.YtcdpilgndhledaaGreatDoorTopOnceE1
import Derived.Test.YtcdpilgndhledaaGreatDoorTopOnceE2
import Derived.Test.YtcdpilgndhledaaGreatDoorTopOnceE3
import Derived.Test.YtcdpilgndhledaaGreatDoorTopOnceE4
import Derived.Test.YtcdpilgndhledaaGreatDoorTopOnceE5
import Derived.Test.YtcdpilgndhledaaGreatDoorTopOnceE6
import Derived.Test.YtcdpilgndhledaaGreatDoorTG3
import Derived.Test.YtcdpilgndhledaaGreatDoorBegun
import Derived.Test.YtcdpilgndhledaaGreatDoorTopOnceF
import Derived.Test.YtcdpilgndhledaaGreatDoorRows
import Derived.Test.YtcdpilgndhledaaGreatDoorTie
import Derived.Test.YtcdpilgndhledaaGreatDoorCards
import Derived.ProofKit
import Derived.OpenShut
import Derived.LaidMore
import Derived.Lay
import Derived.SevenTiedAt
import Derived.Carry
import Derived.Lib.Hide
namespace Go.Proofs.YtcdpilgndhledaaGreatDoor
open Go.ChangeShapes Go.WideShapes Go.ChangeAt Go.RowKit
set_option maxRecDepth 100000 in
theorem re7 (s14 s15 s25 s24 s33 s29 s37 s34 s35 s32 : FS) (x y : AV) (h : Hp) (k : AV → Hp → Bool) : R7 s14 s15 s25 s24 s33 s29 s37 s34 s35 s32 x y h k = den Tryz.prog [(14, s14), (15, s15), (25, s25), (24, s24), (33, s33), (29, s29), (37, s37), (34, s34), (35, s35), (32, s32)] MM 79 (tlK 4 (bodyOf Tryz.f7)) ra7 (retK Tryz.prog Tryz.f7.results.toList k) (env2 79 x y) h := by kernel_rfl
theorem rt7 : SoundT Tryz.prog [(14, s14), (15, s15), (25, s25), (24, s24), (33, s33), (29, s29), (37, s37), (34, s34), (35, s35), (32, s32)] := (.cons d14 (.cons d15 (.cons d25 (.cons d24 (.cons d33 (.cons d29 (.cons d37 (.cons d34 (.cons d35 (.cons d32 .nil))))))))))
theorem rowTopOnce_0 : ∀ j, j < 6 → GoodTopOnce 0 j
  | 0, _ => kOnce_0_0
  | 1, _ => kOnce_0_1
  | 2, _ => kOnce_0_2
  | 3, _ => kOnce_0_3
  | 4, _ => kOnce_0_4
  | 5, _ => kOnce_0_5
  | j + 6, h => absurd h (by omega)
theorem rowTopOnce_1 : ∀ j, j < 6 → GoodTopOnce 1 j
  | 0, _ => kOnce_1_0
  | 1, _ => kOnce_1_1
  | 2, _ => kOnce_1_2
  | 3, _ => kOnce_1_3
  | 4, _ => kOnce_1_4
  | 5, _ => kOnce_1_5
  | j + 6, h => absurd h (by omega)
theorem rowTopOnce_2 : ∀ j, j < 6 → GoodTopOnce 2 j
  | 0, _ => kOnce_2_0
  | 1, _ => kOnce_2_1
  | 2, _ => kOnce_2_2
  | 3, _ => kOnce_2_3
  | 4, _ => kOnce_2_4
  | 5, _ => kOnce_2_5
  | j + 6, h => absurd h (by omega)
theorem rowTopOnce_3 : ∀ j, j < 6 → GoodTopOnce 3 j
  | 0, _ => kOnce_3_0
  | 1, _ => kOnce_3_1
  | 2, _ => kOnce_3_2
  | 3, _ => kOnce_3_3
  | 4, _ => kOnce_3_4
  | 5, _ => kOnce_3_5
  | j + 6, h => absurd h (by omega)
theorem rowTopOnce_4 : ∀ j, j < 6 → GoodTopOnce 4 j
  | 0, _ => kOnce_4_0
  | 1, _ => kOnce_4_1
  | 2, _ => kOnce_4_2
  | 3, _ => kOnce_4_3
  | 4, _ => kOnce_4_4
  | 5, _ => kOnce_4_5
  | j + 6, h => absurd h (by omega)
theorem allTopOnce : ∀ i j, i < 5 → j < 6 → GoodTopOnce i j
  | 0, j, _, h => rowTopOnce_0 j h
  | 1, j, _, h => rowTopOnce_1 j h
  | 2, j, _, h => rowTopOnce_2 j h
  | 3, j, _, h => rowTopOnce_3 j h
  | 4, j, _, h => rowTopOnce_4 j h
  | i + 5, _, h, _ => absurd h (by omega)
set_option maxRecDepth 100000 in
set_option maxHeartbeats 4000000 in
theorem topOnce_walk (a : Int) (b : Int) (w : World)   : Calls Tryz.prog 7 #[.int .i64 a, .int .i64 b] w fun e w' => e = .returned (.bool true) ∧ Below w.heap.size w w' := by
  go_enter Tryz.func7, Tryz.ntmps7
  refine hide4 ?_
  intro R hR0
  have hR := Lib.hid hR0
  clear hR0
  go_wp2_with fail
  refine (begun_true _).mono ?_
  rintro e w1 ⟨rfl, hb1⟩
  go_wp2_with fail
  refine (small_walk a 5 (by omega) (by omega) _).mono ?_
  rintro e _ ⟨⟨n1, rfl, h1⟩, rfl⟩
  go_wp2_with fail
  refine (small_walk b 6 (by omega) (by omega) _).mono ?_
  rintro e _ ⟨⟨n2, rfl, h2⟩, rfl⟩
  go_wp2_with fail
  rw [show R = tlK 4 (bodyOf Tryz.f7) from hR.out.trans (by kernel_rfl)]
  have hX := re7 s14 s15 s25 s24 s33 s29 s37 s34 s35 s32 (.i .i64 (Nat.add 9223372036854775809 n1)) (.i .i64 (Nat.add 9223372036854775809 n2)) h00 (fun y _ => isT y)
  have hk := allTopOnce n1 n2 (by omega) (by omega)
  unfold GoodTopOnce at hk
  refine rest_true mix rt7 Tryz.ntmps7 rfl ?_ ?_ hX hk hb1
  · exact env2_rel rfl (by decide) rfl (rel_nat r00 1 n1 1 _ (by omega)) (rel_nat r00 1 n2 1 _ (by omega))
  · rfl
set_option maxRecDepth 100000 in
theorem topOnce_closed : joinedFacts Tryz.prog 7 Tryz.f7 Rows.topOnceSpec Rows.topOnceRow = true := (andT (andT (andT (andT (andT (andT (andT (andT (andT (andT (andT (andT (andT (andT (andT (andT (andT (andT (andT (andT (andT (andT (andT (andT (andT (andT (andT (andT (andT (andT (andT topOnce_jf0 pf1) pf2) topOnce_jf3) topOnce_jf4) pf5) pf6) pf7) pf8) topOnce_jf9) topOnce_jf10) topOnce_jf11) topOnce_jf12) topOnce_jf13) topOnce_jf14) topOnce_jf15) topOnce_jf16) topOnce_jf17) topOnce_jf18) topOnce_jf19) topOnce_jf20) topOnce_jf21) pf22) pf23) pf24) pf25) pf26) pf27) topOnce_jf28) topOnce_jf29) topOnce_jf30) topOnce_jf31)
/-! ### From the row to the walk -/
namespace topOnceF
set_option linter.unusedVariables false
theorem own : ownKnob Tryz.prog.godebug = none := by kernel_rfl
theorem laidOut : laidOutB Tryz.prog = true := pf1
set_option maxRecDepth 100000 in
theorem lifted (os : Os) (started : os.Started) (H : Type) (enc : TypeId × Value → H) :
    ReturnsInHanded {} Tryz.checked os 7 .any (fun w args => (Rows.topOnceSpec.pre enc Tryz.prog Tryz.f7 Rows.topOnceRow.domain false w args ∧ laidMetH Tryz.prog Rows.topOnceRow.laid w) ∧ sizedMet enc Tryz.prog Tryz.f7 (OpenSpec.ofChange Rows.topOnceSpec) false w args) (Rows.topOnceSpec.post enc Tryz.prog Tryz.f7 false true false false) := by
  refine returnsInHanded_of_change_and (C := Tryz.checked) (X := (fun w _ => laidMetH Tryz.prog Rows.topOnceRow.laid w)) (fun _ _ _ hh h => h.of_heap hh) own started (by kernel_rfl) Tryz.func7
    (ChangeSpec.witness_shaped (enc := enc) (C := Tryz.checked) (os := os) (X := (fun w _ => laidMetH Tryz.prog Rows.topOnceRow.laid w)) false (World.laidAll Tryz.prog os Rows.topOnceRow.laid) #[.int .i64 0, .int .i64 0] 8 (World.laidAll_os _ _ _)
      (World.shaped_of_ZipB (by kernel_rfl) (by kernel_rfl)) (by kernel_rfl) (by kernel_rfl) (by kernel_rfl)
      (by rw [MakeChecks.laidMetH_plain _ _ _ (by kernel_rfl)]; exact laidMet_laidAll _ (by kernel_rfl) (by kernel_rfl))) ?_
  intro W base args ds gs before hval0 hW hcnd _ _ _
  have hval : ∀ (j : Nat) t v, Tryz.f7.params[j]? = some t → args[j]? = some v → Value.okWide Tryz.prog W .any base t v := hval0
  have hW' := hW
  obtain ⟨p, q, hA0, hV, rfl, hfz, hnd⟩ := hW
  have hA : DataW.TrodAll enc Tryz.prog W 0 (fun _ => true) true Tryz.f7.params.toList args.toList ds p := hA0
  rw [Tryz.params7] at hA hval
  obtain ⟨v0, vs0, d0, ds0, p0, q0, hargs, rfl, rfl, h0, r0⟩ := trodAll_cons hA
  obtain ⟨v1, vs1, d1, ds1, p1, q1, rfl, rfl, rfl, h1, r1⟩ := trodAll_cons r0
  obtain ⟨rfl, rfl, rfl⟩ := trodAll_nil r1
  obtain rfl : args = #[v0, v1] := by cases args; simp_all
  obtain ⟨rfl, rfl⟩ := trodVars_none hV
  have k0 := h0
  have lt0 : ∀ x ∈ p0, x.block < W.heap.size := by obtain ⟨m, hm⟩ := k0; exact DataW.trod_lt m _ _ _ hm
  obtain ⟨a0, rfl, hd0, hp0, w0⟩ := open_int Tryz.underlying3 (hval 0 3 v0 rfl rfl) h0
  have k1 := h1
  have lt1 : ∀ x ∈ p1, x.block < W.heap.size := by obtain ⟨m, hm⟩ := k1; exact DataW.trod_lt m _ _ _ hm
  obtain ⟨a1, rfl, hd1, hp1, w1⟩ := open_int Tryz.underlying3 (hval 1 3 v1 rfl rfl) h1
  clear hA0 hval0
  refine (topOnce_walk a0 a1 W).mono fun e W' ⟨he, bel⟩ => ?_
  subst he
  exact ⟨_, rfl, _, _, _, [], _, [], hW', trodAll_mk1 (shut_bool Tryz.underlying4 _), (trodAll_cons_mk (Below.trod laidOut (by kernel_rfl) (of_decide_eq_true (by kernel_rfl)) k0 bel lt0) (trodAll_cons_mk (Below.trod laidOut (by kernel_rfl) (of_decide_eq_true (by kernel_rfl)) k1 bel lt1) trodAll_mk0)), rfl, bel.frame _, fun h => by cases h⟩
theorem over : Rows.topOnceRow.holds Tryz.pinned (OpenSpec.ofChange Rows.topOnceSpec) :=
  OpenClaim.holds_of_wide 7 Tryz.f7 rfl rfl rfl rfl rfl rfl rfl ⟨rfl, rfl, rfl, rfl, rfl⟩ rfl rfl rfl rfl rfl topOnce_named Tryz.func7 topOnce_closed
    (of_decide_eq_true (by kernel_rfl)) (by unfold Func.isWrapper; first | (rw [if_pos (by decide +kernel)]; kernel_rfl) | (rw [if_neg (by decide +kernel)]; exact ⟨rfl, rfl⟩))
    (fun os started H enc _ => lifted os started H enc)
end topOnceF
theorem topOnce_card : Rows.TopOnceCardSaid :=
  Claim7.holds_tied_plain_at .later [] [.data, .pinned] true (true, "d3146e336fbef4e75662beffe144cfa311caa8ff6f77acb6ad03935d6fbb37f4") true topOnceF.over (fun _ h => by cases h) topOnce_wf (fun _ h => by cases h) topOnce_row_tie rfl ⟨rfl, rfl⟩ pmain rfl
    (fun f fn hf hfn => by
      obtain rfl : f = 7 := Option.some.inj (topOnce_named.symm.trans hf) |>.symm
      obtain rfl : fn = Tryz.f7 := (Option.some.inj (Tryz.func7.symm.trans hfn)).symm
      exact ⟨plooks, fun j t ht => by
        rw [Tryz.params7] at ht
        have hm : t ∈ [3, 3] := by simpa using Array.mem_of_getElem? ht
        have hall : ([3, 3].all fun u => !Tryz.prog.wantsStandIn u) = true := by kernel_rfl
        exact (show Tryz.prog.wantsStandIn t = false by simpa using List.all_eq_true.1 hall t hm)⟩)
    topOnce_goes
#print axioms topOnce_card
end Go.Proofs.YtcdpilgndhledaaGreatDoor
