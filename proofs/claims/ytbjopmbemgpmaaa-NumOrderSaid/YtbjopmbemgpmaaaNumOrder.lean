/-
  A number that is nearer to nought takes no more bytes: num.Put of a and of b with 0 <= a <= b, and of -a and -b; of any two numbers. No condition.
-/
import Derived.Test.YtbjopmbemgpmaaaNumB
import Derived.Test.YtbjopmbemgpmaaaOpen
namespace Go.Proofs.Ytbjopmbemgpmaaa
open Go.ChangeShapes Go.WideShapes Go.ChangeAt Go.RowKit

set_option maxRecDepth 100000 in
theorem numOrder_walk (a : Int) (b : Int) (w : World) (wa : (Lit.int .i64 a).wf = true) (wb : (Lit.int .i64 b).wf = true) :
    Calls Try.prog 13 #[.int .i64 a, .int .i64 b] w fun e w' => e = .returned (.bool true) ∧ Below w.heap.size w w' := by
  have wa := wf_i64 wa
  have wb := wf_i64 wb
  go_enter Try.func13, Try.ntmps13
  go_wp2_with fail
  refine (num_begun _).mono ?_
  rintro e w1 ⟨rfl, hb⟩
  by_cases h0 : a < 0
  · go_wp2_with fail
    go_ret
    exact ⟨rfl, hb⟩
  · by_cases h1 : b < a
    · go_wp2_with fail
      go_ret
      exact ⟨rfl, hb⟩
    · have hm1 : (putN a).length ≤ (putN b).length := putN_mono (by unfold zig; rw [if_neg h0, if_neg (by omega)]; omega)
      have hm2 : (putN (-a)).length ≤ (putN (-b)).length := putN_mono (by unfold zig; split <;> split <;> omega)
      have ha := putN_len a
      have hb' := putN_len b
      have hna := putN_len (-a)
      have hnb := putN_len (-b)
      go_wp2_with fail
      refine (num_put (.slice none 0 0) [] a w1.heap.size w1 (by omega) (by omega) (by decide) (Nat.le_refl _) (OwnB.nil _ _ _)).mono ?_
      rintro e w2 ⟨v2, rfl, ho2, hg2, hk2⟩
      obtain ⟨a2, c2, rfl⟩ := ho2.len
      have hb2 := hb.trans ((below_of_grown hg2).mono hb.size)
      clear hk2 hg2 ho2
      rw [List.nil_append]
      go_wp2_with fail
      refine (num_put (.slice none 0 0) [] b w2.heap.size w2 (by omega) (by omega) (by decide) (Nat.le_refl _) (OwnB.nil _ _ _)).mono ?_
      rintro e w3 ⟨v3, rfl, ho3, hg3, hk3⟩
      obtain ⟨a3, c3, rfl⟩ := ho3.len
      have hb3 := hb2.trans ((below_of_grown hg3).mono hb2.size)
      clear hk3 hg3 ho3
      rw [List.nil_append]
      go_wp2_with fail
      refine (num_put (.slice none 0 0) [] (-a) w3.heap.size w3 (by omega) (by omega) (by decide) (Nat.le_refl _) (OwnB.nil _ _ _)).mono ?_
      rintro e w4 ⟨v4, rfl, ho4, hg4, hk4⟩
      obtain ⟨a4, c4, rfl⟩ := ho4.len
      have hb4 := hb3.trans ((below_of_grown hg4).mono hb3.size)
      clear hk4 hg4 ho4
      rw [List.nil_append]
      go_wp2_with fail
      refine (num_put (.slice none 0 0) [] (-b) w4.heap.size w4 (by omega) (by omega) (by decide) (Nat.le_refl _) (OwnB.nil _ _ _)).mono ?_
      rintro e w5 ⟨v5, rfl, ho5, hg5, hk5⟩
      obtain ⟨a5, c5, rfl⟩ := ho5.len
      have hb5 := hb4.trans ((below_of_grown hg5).mono hb4.size)
      clear hk5 hg5 ho5
      rw [List.nil_append]
      go_wp2_with fail
      go_ret
      exact ⟨rfl, hb5⟩
/-! ### From the row to the walk -/
namespace numOrderF
set_option linter.unusedVariables false
theorem own : ownKnob Try.prog.godebug = none := by kernel_rfl
theorem laidOut : laidOutB Try.prog = true := by kernel_rfl
set_option maxRecDepth 100000 in
theorem lifted (os : Os) (started : os.Started) (H : Type) (enc : TypeId × Value → H) :
    ReturnsInHanded {} Try.checked os 13 .any (Rows.numOrderSpec.pre6 enc Try.prog Try.f13 Rows.numOrderRow.domain false) (Rows.numOrderSpec.post enc Try.prog Try.f13 false true false false) := by
  refine returnsInHanded_of_change (C := Try.checked) own started (by kernel_rfl) Try.func13
    (ChangeSpec.witness6 (enc := enc) (C := Try.checked) false ⟨#[], #[.int .i64 0, .int .i64 0], []⟩ 8 (by kernel_rfl) (by kernel_rfl) (by kernel_rfl) (by kernel_rfl)) ?_
  intro W base args ds gs before hval0 hW hcnd _
  have hval : ∀ (j : Nat) t v, Try.f13.params[j]? = some t → args[j]? = some v → Value.okWide Try.prog W .any base t v := hval0
  have hW' := hW
  obtain ⟨p, q, hA0, hV, rfl, hfz, hnd⟩ := hW
  have hA : DataW.TrodAll enc Try.prog W 0 (fun _ => true) true Try.f13.params.toList args.toList ds p := hA0
  rw [Try.params13] at hA hval
  obtain ⟨v0, vs0, d0, ds0, p0, q0, hargs, rfl, rfl, h0, r0⟩ := trodAll_cons hA
  obtain ⟨v1, vs1, d1, ds1, p1, q1, rfl, rfl, rfl, h1, r1⟩ := trodAll_cons r0
  obtain ⟨rfl, rfl, rfl⟩ := trodAll_nil r1
  obtain rfl : args = #[v0, v1] := by cases args; simp_all
  obtain ⟨rfl, rfl⟩ := trodVars_none hV
  have k0 := h0
  have lt0 : ∀ x ∈ p0, x.block < W.heap.size := by obtain ⟨m, hm⟩ := k0; exact DataW.trod_lt m _ _ _ hm
  obtain ⟨a0, rfl, hd0, hp0, w0⟩ := open_int Try.underlying2 (hval 0 2 v0 rfl rfl) h0
  have k1 := h1
  have lt1 : ∀ x ∈ p1, x.block < W.heap.size := by obtain ⟨m, hm⟩ := k1; exact DataW.trod_lt m _ _ _ hm
  obtain ⟨a1, rfl, hd1, hp1, w1⟩ := open_int Try.underlying2 (hval 1 2 v1 rfl rfl) h1
  clear hA0 hval0
  refine (numOrder_walk a0 a1 W w0 w1).mono fun e W' ⟨he, bel⟩ => ?_
  subst he
  exact ⟨_, rfl, _, _, _, [], _, [], hW', trodAll_mk1 (shut_bool Try.underlying4 _), (trodAll_cons_mk (Below.trod laidOut (by kernel_rfl) (of_decide_eq_true (by kernel_rfl)) k0 bel lt0) (trodAll_cons_mk (Below.trod laidOut (by kernel_rfl) (of_decide_eq_true (by kernel_rfl)) k1 bel lt1) trodAll_mk0)), rfl, bel.frame _, fun h => by cases h⟩
theorem over : Rows.numOrderRow.holds Try.pinned (OpenSpec.ofChange Rows.numOrderSpec) :=
  OpenClaim.holds_of_wide 13 Try.f13 rfl rfl rfl rfl rfl rfl rfl ⟨rfl, rfl, rfl, rfl, rfl⟩ rfl rfl rfl rfl rfl (by kernel_rfl) Try.func13 (by kernel_rfl)
    (of_decide_eq_true (by kernel_rfl)) (by unfold Func.isWrapper; first | (rw [if_pos (by decide +kernel)]; kernel_rfl) | (rw [if_neg (by decide +kernel)]; exact ⟨rfl, rfl⟩))
    (fun os started H enc _ => lifted os started H enc)
end numOrderF
theorem numOrder_holds : Rows.NumOrderSaid := numOrderF.over
#print axioms numOrder_holds
end Go.Proofs.Ytbjopmbemgpmaaa
