/-
  No net: nothing is sent, taken, looked at, dropped or cleared. No condition.
-/
import Derived.Test.YtcogmohepcifiaaNetN
namespace Go.Proofs.Ytcogmohepcifiaa
open Go.ChangeShapes Go.WideShapes Go.ChangeAt Go.RowKit

set_option maxRecDepth 100000 in
set_option maxHeartbeats 2000000 in
theorem netNone_walk (w : World) : Calls Try.prog 5 #[] w fun e w' => e = .returned (.bool true) ∧ Below w.heap.size w w' := by
  go_enter Try.func5, Try.ntmps5
  go_wp2_with fail
  refine (net_take_nil _).mono ?_
  rintro e w1 ⟨rfl, hb1⟩
  replace hb1 := hb1.trans (((Below.refl w1.heap.size w1).alloc (Nat.le_refl _) (.cells #[.int .i64 0, .int .i64 0, .int .i64 0, .int .i64 0, .int .i64 0, .int .i64 0, .int .i64 0, .bool false, .slice none 0 0, .int .i64 0, .int .i64 0, .string ⟨#[]⟩, .string ⟨#[]⟩] 30)).mono hb1.size)
  unfold msgAgg zM
  dsimp only
  go_wp2_with fail
  generalize w1.alloc _ = w2 at *
  refine (net_look_nil _).mono ?_
  rintro e w3 ⟨rfl, hb3⟩
  replace hb1 := hb1.trans (hb3.mono hb1.size)
  replace hb1 := hb1.trans (((Below.refl w3.heap.size w3).alloc (Nat.le_refl _) (.cells #[.int .i64 0, .int .i64 0, .int .i64 0, .int .i64 0, .int .i64 0, .int .i64 0, .int .i64 0, .bool false, .slice none 0 0, .int .i64 0, .int .i64 0, .string ⟨#[]⟩, .string ⟨#[]⟩] 30)).mono hb1.size)
  clear hb3
  unfold msgAgg zM
  dsimp only
  go_wp2_with fail
  generalize w3.alloc _ = w4 at *
  refine (msg_begun _).mono ?_
  rintro e w5 ⟨rfl, hb5⟩
  replace hb1 := hb1.trans (hb5.mono hb1.size)
  clear hb5
  go_wp2_with fail
  refine (net_send_nil (.slice none 0 0) ⟨4, 1, 2, 1, 0, 0, 0, false, [], ⟨0, 0, ⟨#[]⟩, ⟨#[]⟩⟩⟩ _).mono ?_
  rintro e w6 ⟨rfl, hb6⟩
  replace hb1 := hb1.trans (hb6.mono hb1.size)
  clear hb6
  go_wp2_with fail
  refine (net_len_nil _).mono ?_
  rintro e w7 ⟨rfl, rfl⟩
  go_wp2_with fail
  refine (net_drop_nil _).mono ?_
  rintro e w8 ⟨rfl, rfl⟩
  go_wp2_with fail
  refine (net_clear_nil _).mono ?_
  rintro e w9 ⟨rfl, hb9⟩
  replace hb1 := hb1.trans (hb9.mono hb1.size)
  clear hb9
  go_wp2_with fail
  go_ret
  exact ⟨rfl, hb1⟩
/-! ### From the row to the walk -/
namespace netNoneF
set_option linter.unusedVariables false
theorem own : ownKnob Try.prog.godebug = none := by kernel_rfl
theorem laidOut : laidOutB Try.prog = true := by kernel_rfl
set_option maxRecDepth 100000 in
theorem lifted (os : Os) (started : os.Started) (H : Type) (enc : TypeId × Value → H) :
    ReturnsInHanded {} Try.checked os 5 .any (Rows.netNoneSpec.pre6 enc Try.prog Try.f5 Rows.netNoneRow.domain false) (Rows.netNoneSpec.post enc Try.prog Try.f5 false true false false) := by
  refine returnsInHanded_of_change (C := Try.checked) own started (by kernel_rfl) Try.func5
    (ChangeSpec.witness6 (enc := enc) (C := Try.checked) false ⟨#[], #[], []⟩ 8 (by kernel_rfl) (by kernel_rfl) (by kernel_rfl) (by kernel_rfl)) ?_
  intro W base args ds gs before hval0 hW hcnd _
  have hval : ∀ (j : Nat) t v, Try.f5.params[j]? = some t → args[j]? = some v → Value.okWide Try.prog W .any base t v := hval0
  have hW' := hW
  obtain ⟨p, q, hA0, hV, rfl, hfz, hnd⟩ := hW
  have hA : DataW.TrodAll enc Try.prog W 0 (fun _ => true) true Try.f5.params.toList args.toList ds p := hA0
  rw [Try.params5] at hA hval
  obtain ⟨hargs, rfl, rfl⟩ := trodAll_nil hA
  obtain rfl : args = #[] := by cases args; simp_all
  obtain ⟨rfl, rfl⟩ := trodVars_none hV
  clear hA0 hval0
  refine (netNone_walk  W ).mono fun e W' ⟨he, bel⟩ => ?_
  subst he
  exact ⟨_, rfl, _, _, _, [], _, [], hW', trodAll_mk1 (shut_bool Try.underlying4 _), trodAll_mk0, rfl, bel.frame _, fun h => by cases h⟩
theorem over : Rows.netNoneRow.holds Try.pinned (OpenSpec.ofChange Rows.netNoneSpec) :=
  OpenClaim.holds_of_wide 5 Try.f5 rfl rfl rfl rfl rfl rfl rfl ⟨rfl, rfl, rfl, rfl, rfl⟩ rfl rfl rfl rfl rfl (by kernel_rfl) Try.func5 (by kernel_rfl)
    (of_decide_eq_true (by kernel_rfl)) (by unfold Func.isWrapper; first | (rw [if_pos (by decide +kernel)]; kernel_rfl) | (rw [if_neg (by decide +kernel)]; exact ⟨rfl, rfl⟩))
    (fun os started H enc _ => lifted os started H enc)
end netNoneF
theorem netNone_holds : Rows.NetNoneSaid := netNoneF.over
#print axioms netNone_holds
end Go.Proofs.Ytcogmohepcifiaa
