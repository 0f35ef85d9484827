/-
  No votes: what nobody and what no voters count is nothing. No condition.
-/
import Derived.Test.YtankebgpkhcgnaaVoteB
namespace Go.Proofs.Ytankebgpkhcgnaa
open Go.ChangeShapes Go.WideShapes Go.ChangeAt Go.RowKit

theorem vote_may_nil (x : Int) (w : World) : Calls Try.prog 51 #[.pointer none, .int .i64 x] w fun e w' => e = .returned (.bool false) ∧ w' = w := by
  go_enter Try.func51, Try.ntmps51
  go_wp2_with fail
  go_ret
  exact ⟨rfl, rfl⟩
theorem vote_yes_nil (x : Int) (w : World) : Calls Try.prog 17 #[.pointer none, .int .i64 x] w fun e w' => e = .returned (.bool false) ∧ w' = w := by
  go_enter Try.func17, Try.ntmps17
  go_wp2_with fail
  refine (vote_may_nil x _).mono ?_
  rintro e w' ⟨rfl, rfl⟩
  go_wp2_with fail
  go_ret
  exact ⟨rfl, rfl⟩
theorem vote_no_nil (x : Int) (w : World) : Calls Try.prog 18 #[.pointer none, .int .i64 x] w fun e w' => e = .returned (.bool false) ∧ w' = w := by
  go_enter Try.func18, Try.ntmps18
  go_wp2_with fail
  refine (vote_may_nil x _).mono ?_
  rintro e w' ⟨rfl, rfl⟩
  go_wp2_with fail
  go_ret
  exact ⟨rfl, rfl⟩
theorem vote_won_nil (w : World) : Calls Try.prog 19 #[.pointer none] w fun e w' => e = .returned (.bool false) ∧ ∃ n, w' = w.drewN n := by
  go_enter Try.func19, Try.ntmps19
  go_wp2_with fail
  go_quiet (fail)
  go_wp2_with fail
  go_ret
  exact ⟨rfl, _, rfl⟩
theorem vote_lost_nil (w : World) : Calls Try.prog 20 #[.pointer none] w fun e w' => e = .returned (.bool false) ∧ ∃ n, w' = w.drewN n := by
  go_enter Try.func20, Try.ntmps20
  go_wp2_with fail
  go_quiet (fail)
  go_wp2_with fail
  go_ret
  exact ⟨rfl, _, rfl⟩

set_option maxHeartbeats 4000000 in
theorem voteNone_walk (w : World) : Calls Try.prog 3 #[] w fun e w' => e = .returned (.bool true) ∧ Below w.heap.size w w' := by
  go_enter Try.func3, Try.ntmps3
  go_wp2_with fail
  refine (vote_new _ [] _ (RowI.nil _).ri (by simp)).mono ?_
  rintro e w1 ⟨b, vl, vy, vn, rfl, hs, hb, ho⟩
  rw [show (if mayC [] then ([] : List Int) else []) = [] by simp] at hs
  have hV : VoteB w w1 b vl vy vn [] [] [] := ⟨hs, hb, ho⟩
  clear hs hb ho
  unfold votePtr
  go_wp2_with fail
  refine (vote_begun _).mono ?_
  rintro e w2 ⟨rfl, hb⟩
  have hV2 : VoteB w w2 b vl vy vn [] [] [] := ⟨hV.s.keeps (Keeps.of_below (F := []) hb) (by simp), hV.below.trans (hb.mono hV.below.size), hV.own⟩
  clear hV hb
  go_wp2_with fail
  refine (vote_yes_nil 1 _).mono ?_
  rintro e w' ⟨rfl, rfl⟩
  go_wp2_with fail
  refine (vote_no_nil 1 _).mono ?_
  rintro e w' ⟨rfl, rfl⟩
  go_wp2_with fail
  refine (vote_won_nil _).mono ?_
  rintro e w3 ⟨rfl, n, rfl⟩
  have hV3 := hV2.drewN n
  clear hV2
  generalize World.drewN _ n = w3 at *
  go_wp2_with fail
  refine (vote_lost_nil _).mono ?_
  rintro e w4 ⟨rfl, n, rfl⟩
  have hV4 := hV3.drewN n
  clear hV3
  generalize World.drewN _ n = w4 at *
  go_wp2_with fail
  refine (vote_yes 1 hV4.s (by simp)).mono ?_
  intro e w5 hv
  obtain ⟨rfl, vy1, hV5⟩ := hV4.yes hv
  clear hv hV4
  rw [show canC [] [] [] 1 = false from by decide] at hV5 ⊢
  rw [if_neg (by decide)] at hV5
  go_wp2_with fail
  refine (vote_won hV5.s (by simp)).mono ?_
  rintro e w6 ⟨rfl, n, rfl⟩
  have hV6 := hV5.drewN n
  clear hV5
  generalize World.drewN _ n = w6 at *
  rw [show majC [] [] = false from by decide]
  go_wp2_with fail
  refine (vote_lost hV6.s (by simp) (by simp)).mono ?_
  rintro e w7 ⟨rfl, n, rfl⟩
  have hV7 := hV6.drewN n
  clear hV6
  generalize World.drewN _ n = w7 at *
  rw [show lostC [] [] = false from by decide]
  go_wp2_with fail
  go_ret
  exact ⟨rfl, hV7.below⟩
/-! ### From the row to the walk -/
namespace voteNoneF
set_option linter.unusedVariables false
theorem own : ownKnob Try.prog.godebug = none := by kernel_rfl
theorem laidOut : laidOutB Try.prog = true := by kernel_rfl
set_option maxRecDepth 100000 in
theorem lifted (os : Os) (started : os.Started) (H : Type) (enc : TypeId × Value → H) :
    ReturnsInHanded {} Try.checked os 3 .any (Rows.voteNoneSpec.pre6 enc Try.prog Try.f3 Rows.voteNoneRow.domain false) (Rows.voteNoneSpec.post enc Try.prog Try.f3 false true false false) := by
  refine returnsInHanded_of_change (C := Try.checked) own started (by kernel_rfl) Try.func3
    (ChangeSpec.witness6 (enc := enc) (C := Try.checked) false ⟨#[], #[], []⟩ 8 (by kernel_rfl) (by kernel_rfl) (by kernel_rfl) (by kernel_rfl)) ?_
  intro W base args ds gs before hval0 hW hcnd _
  have hval : ∀ (j : Nat) t v, Try.f3.params[j]? = some t → args[j]? = some v → Value.okWide Try.prog W .any base t v := hval0
  have hW' := hW
  obtain ⟨p, q, hA0, hV, rfl, hfz, hnd⟩ := hW
  have hA : DataW.TrodAll enc Try.prog W 0 (fun _ => true) true Try.f3.params.toList args.toList ds p := hA0
  rw [Try.params3] at hA hval
  obtain ⟨hargs, rfl, rfl⟩ := trodAll_nil hA
  obtain rfl : args = #[] := by cases args; simp_all
  obtain ⟨rfl, rfl⟩ := trodVars_none hV
  clear hA0 hval0
  refine (voteNone_walk  W ).mono fun e W' ⟨he, bel⟩ => ?_
  subst he
  exact ⟨_, rfl, _, _, _, [], _, [], hW', trodAll_mk1 (shut_bool Try.underlying4 _), trodAll_mk0, rfl, bel.frame _, fun h => by cases h⟩
theorem over : Rows.voteNoneRow.holds Try.pinned (OpenSpec.ofChange Rows.voteNoneSpec) :=
  OpenClaim.holds_of_wide 3 Try.f3 rfl rfl rfl rfl rfl rfl rfl ⟨rfl, rfl, rfl, rfl, rfl⟩ rfl rfl rfl rfl rfl (by kernel_rfl) Try.func3 (by kernel_rfl)
    (of_decide_eq_true (by kernel_rfl)) (by unfold Func.isWrapper; first | (rw [if_pos (by decide +kernel)]; kernel_rfl) | (rw [if_neg (by decide +kernel)]; exact ⟨rfl, rfl⟩))
    (fun os started H enc _ => lifted os started H enc)
end voteNoneF
theorem voteNone_holds : Rows.VoteNoneSaid := voteNoneF.over
#print axioms voteNone_holds
end Go.Proofs.Ytankebgpkhcgnaa
