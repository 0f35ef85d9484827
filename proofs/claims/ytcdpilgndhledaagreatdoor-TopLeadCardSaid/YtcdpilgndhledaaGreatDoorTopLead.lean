/-
  TopLead: whatever the input, it tells true; the row and its tied card. No condition beyond the card's own.
-/
import Derived.Test.YtcdpilgndhledaaGreatDoorTopLeadE1
import Derived.Test.YtcdpilgndhledaaGreatDoorTopLeadE2
import Derived.Test.YtcdpilgndhledaaGreatDoorTopLeadE3
import Derived.Test.YtcdpilgndhledaaGreatDoorTopLeadE4
import Derived.Test.YtcdpilgndhledaaGreatDoorTopLeadE5
import Derived.Test.YtcdpilgndhledaaGreatDoorTopLeadE6
import Derived.Test.YtcdpilgndhledaaGreatDoorTopLeadE7
import Derived.Test.YtcdpilgndhledaaGreatDoorTG3
import Derived.Test.YtcdpilgndhledaaGreatDoorBegun
import Derived.Test.YtcdpilgndhledaaGreatDoorTopLeadF
import Derived.Test.YtcdpilgndhledaaGreatDoorRows
import Derived.Test.YtcdpilgndhledaaGreatDoorTie
import Derived.Test.YtcdpilgndhledaaGreatDoorCards
import Derived.ProofKit
import Derived.OpenShut
import Derived.LaidMore
import Derived.Lay
import Derived.SevenTiedAt
import Derived.Carry
import Derived.Lib.Hide
namespace Go.Proofs.YtcdpilgndhledaaGreatDoor
open Go.ChangeShapes Go.WideShapes Go.ChangeAt Go.RowKit
set_option maxRecDepth 100000 in
theorem re4 (s14 s15 s20 s19 s21 s16 s17 s23 s22 s18 : FS) (x y : AV) (h : Hp) (k : AV → Hp → Bool) : R4 s14 s15 s20 s19 s21 s16 s17 s23 s22 s18 x y h k = den Tryz.prog [(14, s14), (15, s15), (20, s20), (19, s19), (21, s21), (16, s16), (17, s17), (23, s23), (22, s22), (18, s18)] MM 79 (tlK 5 (bodyOf Tryz.f4)) ra4 (retK Tryz.prog Tryz.f4.results.toList k) (env2 79 x y) h := by kernel_rfl
theorem rt4 : SoundT Tryz.prog [(14, s14), (15, s15), (20, s20), (19, s19), (21, s21), (16, s16), (17, s17), (23, s23), (22, s22), (18, s18)] := (.cons d14 (.cons d15 (.cons d20 (.cons d19 (.cons d21 (.cons d16 (.cons d17 (.cons d23 (.cons d22 (.cons d18 .nil))))))))))
theorem rowTopLead_0 : ∀ j, j < 1 → GoodTopLead 0 j
  | 0, _ => kLead_0_0
  | j + 1, h => absurd h (by omega)
theorem rowTopLead_1 : ∀ j, j < 2 → GoodTopLead 1 j
  | 0, _ => kLead_1_0
  | 1, _ => kLead_1_1
  | j + 2, h => absurd h (by omega)
theorem rowTopLead_2 : ∀ j, j < 3 → GoodTopLead 2 j
  | 0, _ => kLead_2_0
  | 1, _ => kLead_2_1
  | 2, _ => kLead_2_2
  | j + 3, h => absurd h (by omega)
theorem rowTopLead_3 : ∀ j, j < 4 → GoodTopLead 3 j
  | 0, _ => kLead_3_0
  | 1, _ => kLead_3_1
  | 2, _ => kLead_3_2
  | 3, _ => kLead_3_3
  | j + 4, h => absurd h (by omega)
theorem rowTopLead_4 : ∀ j, j < 5 → GoodTopLead 4 j
  | 0, _ => kLead_4_0
  | 1, _ => kLead_4_1
  | 2, _ => kLead_4_2
  | 3, _ => kLead_4_3
  | 4, _ => kLead_4_4
  | j + 5, h => absurd h (by omega)
theorem rowTopLead_5 : ∀ j, j < 6 → GoodTopLead 5 j
  | 0, _ => kLead_5_0
  | 1, _ => kLead_5_1
  | 2, _ => kLead_5_2
  | 3, _ => kLead_5_3
  | 4, _ => kLead_5_4
  | 5, _ => kLead_5_5
  | j + 6, h => absurd h (by omega)
theorem rowTopLead_6 : ∀ j, j < 7 → GoodTopLead 6 j
  | 0, _ => kLead_6_0
  | 1, _ => kLead_6_1
  | 2, _ => kLead_6_2
  | 3, _ => kLead_6_3
  | 4, _ => kLead_6_4
  | 5, _ => kLead_6_5
  | 6, _ => kLead_6_6
  | j + 7, h => absurd h (by omega)
theorem allTopLead : ∀ i j, i < 7 → j < 1 + i → GoodTopLead i j
  | 0, j, _, h => rowTopLead_0 j h
  | 1, j, _, h => rowTopLead_1 j h
  | 2, j, _, h => rowTopLead_2 j h
  | 3, j, _, h => rowTopLead_3 j h
  | 4, j, _, h => rowTopLead_4 j h
  | 5, j, _, h => rowTopLead_5 j h
  | 6, j, _, h => rowTopLead_6 j h
  | i + 7, _, h, _ => absurd h (by omega)
set_option maxRecDepth 100000 in
set_option maxHeartbeats 4000000 in
theorem topLead_walk (a : Int) (b : Int) (w : World)   : Calls Tryz.prog 4 #[.int .i64 a, .int .i64 b] w fun e w' => e = .returned (.bool true) ∧ Below w.heap.size w w' := by
  go_enter Tryz.func4, Tryz.ntmps4
  refine hide5 ?_
  intro R hR0
  have hR := Lib.hid hR0
  clear hR0
  go_wp2_with fail
  refine (begun_true _).mono ?_
  rintro e w1 ⟨rfl, hb1⟩
  go_wp2_with fail
  refine (small_walk a 7 (by omega) (by omega) _).mono ?_
  rintro e _ ⟨⟨n1, rfl, h1⟩, rfl⟩
  go_wp2_with fail
  refine (small_walk b (1 + (n1 : Int)) (by omega) (by omega) _).mono ?_
  rintro e _ ⟨⟨n2, rfl, h2⟩, rfl⟩
  go_wp2_with fail
  rw [show R = tlK 5 (bodyOf Tryz.f4) from hR.out.trans (by kernel_rfl)]
  have hX := re4 s14 s15 s20 s19 s21 s16 s17 s23 s22 s18 (.i .i64 (Nat.add 9223372036854775809 n1)) (.i .i64 (Nat.add 9223372036854775809 n2)) h00 (fun y _ => isT y)
  have hk := allTopLead n1 n2 (by omega) (by omega)
  unfold GoodTopLead at hk
  refine rest_true mix rt4 Tryz.ntmps4 rfl ?_ ?_ hX hk hb1
  · exact env2_rel rfl (by decide) rfl (rel_nat r00 1 n1 1 _ (by omega)) (rel_nat r00 1 n2 1 _ (by omega))
  · rfl
set_option maxRecDepth 100000 in
theorem topLead_closed : joinedFacts Tryz.prog 4 Tryz.f4 Rows.topLeadSpec Rows.topLeadRow = true := (andT (andT (andT (andT (andT (andT (andT (andT (andT (andT (andT (andT (andT (andT (andT (andT (andT (andT (andT (andT (andT (andT (andT (andT (andT (andT (andT (andT (andT (andT (andT topLead_jf0 pf1) pf2) topLead_jf3) topLead_jf4) pf5) pf6) pf7) pf8) topLead_jf9) topLead_jf10) topLead_jf11) topLead_jf12) topLead_jf13) topLead_jf14) topLead_jf15) topLead_jf16) topLead_jf17) topLead_jf18) topLead_jf19) topLead_jf20) topLead_jf21) pf22) pf23) pf24) pf25) pf26) pf27) topLead_jf28) topLead_jf29) topLead_jf30) topLead_jf31)
/-! ### From the row to the walk -/
namespace topLeadF
set_option linter.unusedVariables false
theorem own : ownKnob Tryz.prog.godebug = none := by kernel_rfl
theorem laidOut : laidOutB Tryz.prog = true := pf1
set_option maxRecDepth 100000 in
theorem lifted (os : Os) (started : os.Started) (H : Type) (enc : TypeId × Value → H) :
    ReturnsInHanded {} Tryz.checked os 4 .any (fun w args => (Rows.topLeadSpec.pre enc Tryz.prog Tryz.f4 Rows.topLeadRow.domain false w args ∧ laidMetH Tryz.prog Rows.topLeadRow.laid w) ∧ sizedMet enc Tryz.prog Tryz.f4 (OpenSpec.ofChange Rows.topLeadSpec) false w args) (Rows.topLeadSpec.post enc Tryz.prog Tryz.f4 false true false false) := by
  refine returnsInHanded_of_change_and (C := Tryz.checked) (X := (fun w _ => laidMetH Tryz.prog Rows.topLeadRow.laid w)) (fun _ _ _ hh h => h.of_heap hh) own started (by kernel_rfl) Tryz.func4
    (ChangeSpec.witness_shaped (enc := enc) (C := Tryz.checked) (os := os) (X := (fun w _ => laidMetH Tryz.prog Rows.topLeadRow.laid w)) false (World.laidAll Tryz.prog os Rows.topLeadRow.laid) #[.int .i64 0, .int .i64 0] 8 (World.laidAll_os _ _ _)
      (World.shaped_of_ZipB (by kernel_rfl) (by kernel_rfl)) (by kernel_rfl) (by kernel_rfl) (by kernel_rfl)
      (by rw [MakeChecks.laidMetH_plain _ _ _ (by kernel_rfl)]; exact laidMet_laidAll _ (by kernel_rfl) (by kernel_rfl))) ?_
  intro W base args ds gs before hval0 hW hcnd _ _ _
  have hval : ∀ (j : Nat) t v, Tryz.f4.params[j]? = some t → args[j]? = some v → Value.okWide Tryz.prog W .any base t v := hval0
  have hW' := hW
  obtain ⟨p, q, hA0, hV, rfl, hfz, hnd⟩ := hW
  have hA : DataW.TrodAll enc Tryz.prog W 0 (fun _ => true) true Tryz.f4.params.toList args.toList ds p := hA0
  rw [Tryz.params4] at hA hval
  obtain ⟨v0, vs0, d0, ds0, p0, q0, hargs, rfl, rfl, h0, r0⟩ := trodAll_cons hA
  obtain ⟨v1, vs1, d1, ds1, p1, q1, rfl, rfl, rfl, h1, r1⟩ := trodAll_cons r0
  obtain ⟨rfl, rfl, rfl⟩ := trodAll_nil r1
  obtain rfl : args = #[v0, v1] := by cases args; simp_all
  obtain ⟨rfl, rfl⟩ := trodVars_none hV
  have k0 := h0
  have lt0 : ∀ x ∈ p0, x.block < W.heap.size := by obtain ⟨m, hm⟩ := k0; exact DataW.trod_lt m _ _ _ hm
  obtain ⟨a0, rfl, hd0, hp0, w0⟩ := open_int Tryz.underlying3 (hval 0 3 v0 rfl rfl) h0
  have k1 := h1
  have lt1 : ∀ x ∈ p1, x.block < W.heap.size := by obtain ⟨m, hm⟩ := k1; exact DataW.trod_lt m _ _ _ hm
  obtain ⟨a1, rfl, hd1, hp1, w1⟩ := open_int Tryz.underlying3 (hval 1 3 v1 rfl rfl) h1
  clear hA0 hval0
  refine (topLead_walk a0 a1 W).mono fun e W' ⟨he, bel⟩ => ?_
  subst he
  exact ⟨_, rfl, _, _, _, [], _, [], hW', trodAll_mk1 (shut_bool Tryz.underlying4 _), (trodAll_cons_mk (Below.trod laidOut (by kernel_rfl) (of_decide_eq_true (by kernel_rfl)) k0 bel lt0) (trodAll_cons_mk (Below.trod laidOut (by kernel_rfl) (of_decide_eq_true (by kernel_rfl)) k1 bel lt1) trodAll_mk0)), rfl, bel.frame _, fun h => by cases h⟩
theorem over : Rows.topLeadRow.holds Tryz.pinned (OpenSpec.ofChange Rows.topLeadSpec) :=
  OpenClaim.holds_of_wide 4 Tryz.f4 rfl rfl rfl rfl rfl rfl rfl ⟨rfl, rfl, rfl, rfl, rfl⟩ rfl rfl rfl rfl rfl topLead_named Tryz.func4 topLead_closed
    (of_decide_eq_true (by kernel_rfl)) (by unfold Func.isWrapper; first | (rw [if_pos (by decide +kernel)]; kernel_rfl) | (rw [if_neg (by decide +kernel)]; exact ⟨rfl, rfl⟩))
    (fun os started H enc _ => lifted os started H enc)
end topLeadF
theorem topLead_card : Rows.TopLeadCardSaid :=
  Claim7.holds_tied_plain_at .later [] [.data, .pinned] true (true, "d3146e336fbef4e75662beffe144cfa311caa8ff6f77acb6ad03935d6fbb37f4") true topLeadF.over (fun _ h => by cases h) topLead_wf (fun _ h => by cases h) topLead_row_tie rfl ⟨rfl, rfl⟩ pmain rfl
    (fun f fn hf hfn => by
      obtain rfl : f = 4 := Option.some.inj (topLead_named.symm.trans hf) |>.symm
      obtain rfl : fn = Tryz.f4 := (Option.some.inj (Tryz.func4.symm.trans hfn)).symm
      exact ⟨plooks, fun j t ht => by
        rw [Tryz.params4] at ht
        have hm : t ∈ [3, 3] := by simpa using Array.mem_of_getElem? ht
        have hall : ([3, 3].all fun u => !Tryz.prog.wantsStandIn u) = true := by kernel_rfl
        exact (show Tryz.prog.wantsStandIn t = false by simpa using List.all_eq_true.1 hall t hm)⟩)
    topLead_goes
#print axioms topLead_card
end Go.Proofs.YtcdpilgndhledaaGreatDoor
