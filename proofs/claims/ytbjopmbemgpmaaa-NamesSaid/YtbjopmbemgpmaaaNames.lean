/-
  The names of package api stand for the document's numbers: the closed law returns true. No condition.
-/
import Derived.Test.YtbjopmbemgpmaaaRows
import Derived.Test.YtbjopmbemgpmaaaBase
import Derived.Test.YtbjopmbemgpmaaaOpen
import Derived.Great.BuildSlice
import Derived.RegionTactic
import Derived.ChangeAlike
import Derived.WalkSmall
namespace Go.Proofs.Ytbjopmbemgpmaaa
open Go.ChangeShapes Go.WideShapes Go.ChangeAt Go.RowKit

/-- The numbers. -/
def namesL : List Int := [0, 1, 2, 3, 4, 5, 6, 7, 8, 9, 10, 11, 12, 13, 40, 200, 8, 50, 4000, 7, 5, 200, 8, 400, 30, 1099511627776, 1048576, 1200, 200000, 10, 0, 1, 2, 1, 2, 3, 4, 1, 2, 3, 1, 2, 3, 4, 5, 1, 2, 3, 4, 5, 6, 7, 8, 9, 10, 11, 12, 13, 14]
theorem namesL_len : namesL.length = 59 := by decide
def namesRow : Array Value := (namesL.map (Value.int .i64)).toArray
def nameAt (k : Nat) : Int := namesL.getD k 0

theorem names_cell (w : World) (k : Nat) (h : k < 59) : (w.alloc (.cells namesRow 3)).cell? ⟨w.heap.size, k, none⟩ = some (.int .i64 (nameAt k)) := by
  rw [cell_of_row (w.alloc _) w.heap.size k _ 3 (0, 0) (heap_alloc_new w _)]
  unfold namesRow nameAt
  have := namesL_len
  simp [List.getD, show k < namesL.length by omega]

theorem names_walk (w : World) :
    Calls Try.prog 3 #[] w fun e w' => e = .returned (.bool true) ∧ Below w.heap.size w w' := by
  have hn := Lib.hid namesL_len
  go_enter Try.func3, Try.ntmps3
  go_wp2_with (with_reducible refine wpList_buildFlat rfl 22 3 59 _ rfl .i64 namesL Try.underlying22 (by kernel_rfl) (by kernel_rfl) (by kernel_rfl) (by decide) (by decide) (by kernel_rfl) ?_; rw [show (namesL.map (Value.int .i64)).toArray = namesRow from rfl])
  have hA : ∀ k, k < 59 → ((w.alloc (.cells namesRow 3)).alloc (.cells namesRow 3)).cell? ⟨w.heap.size, k, none⟩ = some (.int .i64 (nameAt k)) := fun k hk => by
    have h := names_cell w k hk
    exact (World.grownBy_alloc (w.alloc (.cells namesRow 3)) (.cells namesRow 3) none).cell h (by simp)
  have hB : ∀ k, k < 59 → ((w.alloc (.cells namesRow 3)).alloc (.cells namesRow 3)).cell? ⟨w.heap.size + 1, k, none⟩ = some (.int .i64 (nameAt k)) := fun k hk => by
    have h := names_cell (w.alloc (.cells namesRow 3)) k hk
    rw [World.size_alloc] at h
    exact h
  have hb : Below w.heap.size w ((w.alloc (.cells namesRow 3)).alloc (.cells namesRow 3)) := ((Below.refl _ _).alloc (Nat.le_refl _) _).alloc (by simp) _
  have hsz : w.heap.size + 2 ≤ ((w.alloc (.cells namesRow 3)).alloc (.cells namesRow 3)).heap.size := by simp
  generalize (w.alloc (.cells namesRow 3)).alloc (.cells namesRow 3) = w2 at *
  have hA := Lib.hid hA
  have hB := Lib.hid hB
  clear hn
  go_loopw [3] (fun i wr => ∃ k : Nat, k ≤ 59 ∧ i = .int .i64 k ∧ Below w2.heap.size w2 wr) (fun i _ => 59 - (intOf i).toNat)
  case atStart => exact ⟨0, by omega, rfl, Below.refl _ _⟩
  case round =>
    obtain ⟨k, hk, rfl, hbel⟩ := hrel
    by_cases hlt : k < 59
    · have eA := hA.out k hlt
      have eB := hB.out k hlt
      rw [← hbel.cell (show w.heap.size < w2.heap.size by omega)] at eA
      rw [← hbel.cell (show w.heap.size + 1 < w2.heap.size by omega)] at eB
      go_wp2_with fail
      go_quiet (fail)
      go_wp2_with fail
      go_roundw
      case rel => exact ⟨k + 1, by omega, by go_num, by first | exact hbel | exact below_drewN hbel _⟩
      case measure => simp [intOf]; omega
    · go_wp2_with fail
      go_ret
      exact ⟨rfl, hb.trans (hbel.mono hb.size)⟩
/-! ### From the row to the walk -/
namespace namesF
set_option linter.unusedVariables false
theorem own : ownKnob Try.prog.godebug = none := by kernel_rfl
theorem laidOut : laidOutB Try.prog = true := by kernel_rfl
set_option maxRecDepth 100000 in
theorem lifted (os : Os) (started : os.Started) (H : Type) (enc : TypeId × Value → H) :
    ReturnsInHanded {} Try.checked os 3 .any (Rows.namesSpec.pre6 enc Try.prog Try.f3 Rows.namesRow.domain false) (Rows.namesSpec.post enc Try.prog Try.f3 false true false false) := by
  refine returnsInHanded_of_change (C := Try.checked) own started (by kernel_rfl) Try.func3
    (ChangeSpec.witness6 (enc := enc) (C := Try.checked) false ⟨#[], #[], []⟩ 8 (by kernel_rfl) (by kernel_rfl) (by kernel_rfl) (by kernel_rfl)) ?_
  intro W base args ds gs before hval0 hW hcnd _
  have hval : ∀ (j : Nat) t v, Try.f3.params[j]? = some t → args[j]? = some v → Value.okWide Try.prog W .any base t v := hval0
  have hW' := hW
  obtain ⟨p, q, hA0, hV, rfl, hfz, hnd⟩ := hW
  have hA : DataW.TrodAll enc Try.prog W 0 (fun _ => true) true Try.f3.params.toList args.toList ds p := hA0
  rw [Try.params3] at hA hval
  obtain ⟨hargs, rfl, rfl⟩ := trodAll_nil hA
  obtain rfl : args = #[] := by cases args; simp_all
  obtain ⟨rfl, rfl⟩ := trodVars_none hV
  clear hA0 hval0
  refine (names_walk  W ).mono fun e W' ⟨he, bel⟩ => ?_
  subst he
  exact ⟨_, rfl, _, _, _, [], _, [], hW', trodAll_mk1 (shut_bool Try.underlying4 _), trodAll_mk0, rfl, bel.frame _, fun h => by cases h⟩
theorem over : Rows.namesRow.holds Try.pinned (OpenSpec.ofChange Rows.namesSpec) :=
  OpenClaim.holds_of_wide 3 Try.f3 rfl rfl rfl rfl rfl rfl rfl ⟨rfl, rfl, rfl, rfl, rfl⟩ rfl rfl rfl rfl rfl (by kernel_rfl) Try.func3 (by kernel_rfl)
    (of_decide_eq_true (by kernel_rfl)) (by unfold Func.isWrapper; first | (rw [if_pos (by decide +kernel)]; kernel_rfl) | (rw [if_neg (by decide +kernel)]; exact ⟨rfl, rfl⟩))
    (fun os started H enc _ => lifted os started H enc)
end namesF
theorem names_holds : Rows.NamesSaid := namesF.over
#print axioms names_holds
end Go.Proofs.Ytbjopmbemgpmaaa
