/-
  No claim by itself: the first lines of the laws on numbers return true. No condition.
-/
import Derived.Test.YtbjopmbemgpmaaaNum3
namespace Go.Proofs.Ytbjopmbemgpmaaa
open Go.RowKit

set_option maxRecDepth 100000 in
theorem num_begun (w : World) : Calls Try.prog 20 #[] w fun e w' => e = .returned (.bool true) ∧ Below w.heap.size w w' := by
  have E1 : Hid (getN [128, 1] = (64, 2, 0)) := Lib.hid (by decide +kernel)
  have E2 : Hid (getN [] = (0, 0, 2)) := Lib.hid (by decide +kernel)
  have E3 : Hid (getT (putT [97, 98] ++ [9]) = ([97, 98], 3, 0)) := Lib.hid (by decide +kernel)
  have E4 : Hid (putN (-1) = [1]) := Lib.hid (by decide +kernel)
  have E5 : Hid (fourN 258 = [0, 0, 1, 2]) := Lib.hid (by decide +kernel)
  go_enter Try.func20, Try.ntmps20
  go_wp2_with fail
  refine (num_get _ [128, 1] _ (Bytes.fresh w [128, 1] _ (0, 0) _ 2 rfl (by rfl) (by decide))).mono ?_
  rintro e w1 ⟨rfl, rfl⟩
  rw [E1.out]
  unfold getV
  have hb1 : Below w.heap.size w (w.alloc (.cells #[.int .u8 128, .int .u8 1] 5)) := (Below.refl _ _).alloc (Nat.le_refl _) _
  generalize w.alloc (.cells #[.int .u8 128, .int .u8 1] 5) = w1 at *
  go_wp2_with fail
  refine (num_get _ [] _ (Bytes.nil _ _ _ (by decide))).mono ?_
  rintro e w1' ⟨rfl, rfl⟩
  rw [E2.out]
  unfold getV
  go_wp2_with fail
  refine (num_putText _ [] ⟨#[97, 98]⟩ w1'.heap.size w1' (by decide) (Nat.le_refl _) (OwnB.nil _ _ _)).mono ?_
  rintro e w2 ⟨v2, rfl, ho2, hg2, hk2⟩
  have hb2 := below_of_grown hg2
  clear hk2 hg2
  have hl2 : ([] ++ putT [97, 98]).length = 3 := by decide +kernel
  go_wp2_with (at_builtin; refine wpList_append_bytes 24 w1'.heap.size 5 Try.underlying24 info8 rfl _ _ rfl (ho2.alloc _) (Bytes.fresh w2 [9] _ (0, 0) _ 1 rfl (by rfl) (by simp)) rfl rfl (by decide +kernel) (by have := hb2.size; simp; omega) ?_)
  intro v3 w3 ho3 hg3 hk3
  have hb3 : Below w1'.heap.size w1' w3 := (hb2.alloc hb2.size _).grown hg3 (by have := hb2.size; simp; omega) (fun k hk => (ho2.lt k hk).1)
  clear hk3 hg3 hb2 hl2
  go_wp2_with fail
  refine (num_getText _ _ _ ho3.bytes).mono ?_
  rintro e w3' ⟨rfl, rfl⟩
  rw [E3.out]
  unfold getTV
  go_wp2_with fail
  refine (num_put (.slice none 0 0) [] (-1) w3'.heap.size w3' (by decide) (by decide) (by decide) (Nat.le_refl _) (OwnB.nil _ _ _)).mono ?_
  rintro e w4 ⟨v4, rfl, ho4, hg4, hk4⟩
  have hb4 : Below w1'.heap.size w1' w4 := hb3.trans ((below_of_grown hg4).mono hb3.size)
  clear hk4 hg4 hb3
  rw [List.nil_append, E4.out] at ho4
  have hcv4 := conv_str ho4.bytes
  go_wp2_with fail
  refine (num_four 258 _ (by decide)).mono ?_
  rintro e w5 ⟨v5, rfl, ho5, hb5⟩
  rw [E5.out] at ho5
  have hcv5 := conv_str ho5
  have hb6 : Below w.heap.size w w5 := hb1.trans ((hb4.trans (hb5.mono hb4.size)).mono hb1.size)
  clear hcv4 hb5 hb4
  go_wp2_with fail
  go_ret
  exact ⟨rfl, hb6⟩
end Go.Proofs.Ytbjopmbemgpmaaa
