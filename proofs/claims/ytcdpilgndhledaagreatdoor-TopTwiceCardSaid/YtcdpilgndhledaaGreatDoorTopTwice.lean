/-
  TopTwice: whatever the input, it tells true; the row and its tied card. No condition beyond the card's own.
-/
import Derived.Test.YtcdpilgndhledaaGreatDoorTopTwiceE1
import Derived.Test.YtcdpilgndhledaaGreatDoorTopTwiceE2
import Derived.Test.YtcdpilgndhledaaGreatDoorTopTwiceE3
import Derived.Test.YtcdpilgndhledaaGreatDoorTopTwiceE4
import Derived.Test.YtcdpilgndhledaaGreatDoorTG3
import Derived.Test.YtcdpilgndhledaaGreatDoorBegun
import Derived.Test.YtcdpilgndhledaaGreatDoorTopTwiceF
import Derived.Test.YtcdpilgndhledaaGreatDoorRows
import Derived.Test.YtcdpilgndhledaaGreatDoorTie
import Derived.Test.YtcdpilgndhledaaGreatDoorCards
import Derived.ProofKit
import Derived.OpenShut
import Derived.LaidMore
import Derived.Lay
import Derived.SevenTiedAt
import Derived.Carry
import Derived.Lib.Hide
namespace Go.Proofs.YtcdpilgndhledaaGreatDoor
open Go.ChangeShapes Go.WideShapes Go.ChangeAt Go.RowKit
set_option maxRecDepth 100000 in
theorem re9 (s14 s15 s25 s24 s26 s38 s39 s40 s41 s21 s28 s29 s37 s31 s32 : FS) (x y : AV) (h : Hp) (k : AV → Hp → Bool) : R9 s14 s15 s25 s24 s26 s38 s39 s40 s41 s21 s28 s29 s37 s31 s32 x y h k = den Tryz.prog [(14, s14), (15, s15), (25, s25), (24, s24), (26, s26), (38, s38), (39, s39), (40, s40), (41, s41), (21, s21), (28, s28), (29, s29), (37, s37), (31, s31), (32, s32)] MM 108 (tlK 4 (bodyOf Tryz.f9)) ra9 (retK Tryz.prog Tryz.f9.results.toList k) (env2 108 x y) h := by kernel_rfl
theorem rt9 : SoundT Tryz.prog [(14, s14), (15, s15), (25, s25), (24, s24), (26, s26), (38, s38), (39, s39), (40, s40), (41, s41), (21, s21), (28, s28), (29, s29), (37, s37), (31, s31), (32, s32)] := (.cons d14 (.cons d15 (.cons d25 (.cons d24 (.cons d26 (.cons d38 (.cons d39 (.cons d40 (.cons d41 (.cons d21 (.cons d28 (.cons d29 (.cons d37 (.cons d31 (.cons d32 .nil)))))))))))))))
theorem rowTopTwice_0 : ∀ j, j < 2 → GoodTopTwice 0 j
  | 0, _ => kTwice_0_0
  | 1, _ => kTwice_0_1
  | j + 2, h => absurd h (by omega)
theorem rowTopTwice_1 : ∀ j, j < 2 → GoodTopTwice 1 j
  | 0, _ => kTwice_1_0
  | 1, _ => kTwice_1_1
  | j + 2, h => absurd h (by omega)
theorem rowTopTwice_2 : ∀ j, j < 2 → GoodTopTwice 2 j
  | 0, _ => kTwice_2_0
  | 1, _ => kTwice_2_1
  | j + 2, h => absurd h (by omega)
theorem rowTopTwice_3 : ∀ j, j < 2 → GoodTopTwice 3 j
  | 0, _ => kTwice_3_0
  | 1, _ => kTwice_3_1
  | j + 2, h => absurd h (by omega)
theorem allTopTwice : ∀ i j, i < 4 → j < 2 → GoodTopTwice i j
  | 0, j, _, h => rowTopTwice_0 j h
  | 1, j, _, h => rowTopTwice_1 j h
  | 2, j, _, h => rowTopTwice_2 j h
  | 3, j, _, h => rowTopTwice_3 j h
  | i + 4, _, h, _ => absurd h (by omega)
set_option maxRecDepth 100000 in
set_option maxHeartbeats 4000000 in
theorem topTwice_walk (a : Int) (b : Int) (w : World)   : Calls Tryz.prog 9 #[.int .i64 a, .int .i64 b] w fun e w' => e = .returned (.bool true) ∧ Below w.heap.size w w' := by
  go_enter Tryz.func9, Tryz.ntmps9
  refine hide4 ?_
  intro R hR0
  have hR := Lib.hid hR0
  clear hR0
  go_wp2_with fail
  refine (begun_true _).mono ?_
  rintro e w1 ⟨rfl, hb1⟩
  go_wp2_with fail
  refine (small_walk a 4 (by omega) (by omega) _).mono ?_
  rintro e _ ⟨⟨n1, rfl, h1⟩, rfl⟩
  go_wp2_with fail
  refine (small_walk b 2 (by omega) (by omega) _).mono ?_
  rintro e _ ⟨⟨n2, rfl, h2⟩, rfl⟩
  go_wp2_with fail
  rw [show R = tlK 4 (bodyOf Tryz.f9) from hR.out.trans (by kernel_rfl)]
  have hX := re9 s14 s15 s25 s24 s26 s38 s39 s40 s41 s21 s28 s29 s37 s31 s32 (.i .i64 (Nat.add 9223372036854775809 n1)) (.i .i64 (Nat.add 9223372036854775810 n2)) h00 (fun y _ => isT y)
  have hk := allTopTwice n1 n2 (by omega) (by omega)
  unfold GoodTopTwice at hk
  refine rest_true mix rt9 Tryz.ntmps9 rfl ?_ ?_ hX hk hb1
  · exact env2_rel rfl (by decide) rfl (rel_nat r00 1 n1 1 _ (by omega)) (rel_nat r00 1 n2 2 _ (by omega))
  · rfl
set_option maxRecDepth 100000 in
theorem topTwice_closed : joinedFacts Tryz.prog 9 Tryz.f9 Rows.topTwiceSpec Rows.topTwiceRow = true := (andT (andT (andT (andT (andT (andT (andT (andT (andT (andT (andT (andT (andT (andT (andT (andT (andT (andT (andT (andT (andT (andT (andT (andT (andT (andT (andT (andT (andT (andT (andT topTwice_jf0 pf1) pf2) topTwice_jf3) topTwice_jf4) pf5) pf6) pf7) pf8) topTwice_jf9) topTwice_jf10) topTwice_jf11) topTwice_jf12) topTwice_jf13) topTwice_jf14) topTwice_jf15) topTwice_jf16) topTwice_jf17) topTwice_jf18) topTwice_jf19) topTwice_jf20) topTwice_jf21) pf22) pf23) pf24) pf25) pf26) pf27) topTwice_jf28) topTwice_jf29) topTwice_jf30) topTwice_jf31)
/-! ### From the row to the walk -/
namespace topTwiceF
set_option linter.unusedVariables false
theorem own : ownKnob Tryz.prog.godebug = none := by kernel_rfl
theorem laidOut : laidOutB Tryz.prog = true := pf1
set_option maxRecDepth 100000 in
theorem lifted (os : Os) (started : os.Started) (H : Type) (enc : TypeId × Value → H) :
    ReturnsInHanded {} Tryz.checked os 9 .any (fun w args => (Rows.topTwiceSpec.pre enc Tryz.prog Tryz.f9 Rows.topTwiceRow.domain false w args ∧ laidMetH Tryz.prog Rows.topTwiceRow.laid w) ∧ sizedMet enc Tryz.prog Tryz.f9 (OpenSpec.ofChange Rows.topTwiceSpec) false w args) (Rows.topTwiceSpec.post enc Tryz.prog Tryz.f9 false true false false) := by
  refine returnsInHanded_of_change_and (C := Tryz.checked) (X := (fun w _ => laidMetH Tryz.prog Rows.topTwiceRow.laid w)) (fun _ _ _ hh h => h.of_heap hh) own started (by kernel_rfl) Tryz.func9
    (ChangeSpec.witness_shaped (enc := enc) (C := Tryz.checked) (os := os) (X := (fun w _ => laidMetH Tryz.prog Rows.topTwiceRow.laid w)) false (World.laidAll Tryz.prog os Rows.topTwiceRow.laid) #[.int .i64 0, .int .i64 0] 8 (World.laidAll_os _ _ _)
      (World.shaped_of_ZipB (by kernel_rfl) (by kernel_rfl)) (by kernel_rfl) (by kernel_rfl) (by kernel_rfl)
      (by rw [MakeChecks.laidMetH_plain _ _ _ (by kernel_rfl)]; exact laidMet_laidAll _ (by kernel_rfl) (by kernel_rfl))) ?_
  intro W base args ds gs before hval0 hW hcnd _ _ _
  have hval : ∀ (j : Nat) t v, Tryz.f9.params[j]? = some t → args[j]? = some v → Value.okWide Tryz.prog W .any base t v := hval0
  have hW' := hW
  obtain ⟨p, q, hA0, hV, rfl, hfz, hnd⟩ := hW
  have hA : DataW.TrodAll enc Tryz.prog W 0 (fun _ => true) true Tryz.f9.params.toList args.toList ds p := hA0
  rw [Tryz.params9] at hA hval
  obtain ⟨v0, vs0, d0, ds0, p0, q0, hargs, rfl, rfl, h0, r0⟩ := trodAll_cons hA
  obtain ⟨v1, vs1, d1, ds1, p1, q1, rfl, rfl, rfl, h1, r1⟩ := trodAll_cons r0
  obtain ⟨rfl, rfl, rfl⟩ := trodAll_nil r1
  obtain rfl : args = #[v0, v1] := by cases args; simp_all
  obtain ⟨rfl, rfl⟩ := trodVars_none hV
  have k0 := h0
  have lt0 : ∀ x ∈ p0, x.block < W.heap.size := by obtain ⟨m, hm⟩ := k0; exact DataW.trod_lt m _ _ _ hm
  obtain ⟨a0, rfl, hd0, hp0, w0⟩ := open_int Tryz.underlying3 (hval 0 3 v0 rfl rfl) h0
  have k1 := h1
  have lt1 : ∀ x ∈ p1, x.block < W.heap.size := by obtain ⟨m, hm⟩ := k1; exact DataW.trod_lt m _ _ _ hm
  obtain ⟨a1, rfl, hd1, hp1, w1⟩ := open_int Tryz.underlying3 (hval 1 3 v1 rfl rfl) h1
  clear hA0 hval0
  refine (topTwice_walk a0 a1 W).mono fun e W' ⟨he, bel⟩ => ?_
  subst he
  exact ⟨_, rfl, _, _, _, [], _, [], hW', trodAll_mk1 (shut_bool Tryz.underlying4 _), (trodAll_cons_mk (Below.trod laidOut (by kernel_rfl) (of_decide_eq_true (by kernel_rfl)) k0 bel lt0) (trodAll_cons_mk (Below.trod laidOut (by kernel_rfl) (of_decide_eq_true (by kernel_rfl)) k1 bel lt1) trodAll_mk0)), rfl, bel.frame _, fun h => by cases h⟩
theorem over : Rows.topTwiceRow.holds Tryz.pinned (OpenSpec.ofChange Rows.topTwiceSpec) :=
  OpenClaim.holds_of_wide 9 Tryz.f9 rfl rfl rfl rfl rfl rfl rfl ⟨rfl, rfl, rfl, rfl, rfl⟩ rfl rfl rfl rfl rfl topTwice_named Tryz.func9 topTwice_closed
    (of_decide_eq_true (by kernel_rfl)) (by unfold Func.isWrapper; first | (rw [if_pos (by decide +kernel)]; kernel_rfl) | (rw [if_neg (by decide +kernel)]; exact ⟨rfl, rfl⟩))
    (fun os started H enc _ => lifted os started H enc)
end topTwiceF
theorem topTwice_card : Rows.TopTwiceCardSaid :=
  Claim7.holds_tied_plain_at .later [] [.data, .pinned] true (true, "d3146e336fbef4e75662beffe144cfa311caa8ff6f77acb6ad03935d6fbb37f4") true topTwiceF.over (fun _ h => by cases h) topTwice_wf (fun _ h => by cases h) topTwice_row_tie rfl ⟨rfl, rfl⟩ pmain rfl
    (fun f fn hf hfn => by
      obtain rfl : f = 9 := Option.some.inj (topTwice_named.symm.trans hf) |>.symm
      obtain rfl : fn = Tryz.f9 := (Option.some.inj (Tryz.func9.symm.trans hfn)).symm
      exact ⟨plooks, fun j t ht => by
        rw [Tryz.params9] at ht
        have hm : t ∈ [3, 3] := by simpa using Array.mem_of_getElem? ht
        have hall : ([3, 3].all fun u => !Tryz.prog.wantsStandIn u) = true := by kernel_rfl
        exact (show Tryz.prog.wantsStandIn t = false by simpa using List.all_eq_true.1 hall t hm)⟩)
    topTwice_goes
#print axioms topTwice_card
end Go.Proofs.YtcdpilgndhledaaGreatDoor
