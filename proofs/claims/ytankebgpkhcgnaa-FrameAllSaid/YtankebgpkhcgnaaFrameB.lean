/-
  No claim by itself: the first lines of the laws on frames return true. No condition.
-/
import Derived.Test.YtankebgpkhcgnaaFrameL
namespace Go.Proofs.Ytankebgpkhcgnaa
open Go.ChangeShapes Go.WideShapes Go.ChangeAt Go.RowKit

theorem FoundO.slice {w : World} {base : Nat} {v : Value} {rs : List (Int × Value × List UInt8)} (h : FoundO w base v rs) : ∃ a cap, v = .slice a rs.length cap := by
  rcases h.1.2 with ⟨h1, h2⟩ | ⟨g, cap, cur, h1, _⟩
  · exact ⟨none, 0, by rw [h1, h2]⟩
  · exact ⟨_, _, h1⟩

set_option maxRecDepth 100000 in
set_option maxHeartbeats 1000000 in
theorem frame_begun (w : World) : Calls Try.prog 22 #[] w fun e w' => e = .returned (.bool true) ∧ Below w.heap.size w w' := by
  obtain ⟨L, hL⟩ : ∃ L, L = sealP 7 [97, 98] := ⟨_, rfl⟩
  have E0 : L.length = 8 := by rw [hL]; decide +kernel
  have E1 : Hid (openP L = (7, [97, 98], 8, 0)) := Lib.hid (by rw [hL]; decide +kernel)
  have E2 : Hid (openP (L.take 3) = (0, [], 0, 2)) := Lib.hid (by rw [hL]; decide +kernel)
  have E3 : Hid (allP (L ++ [0]) = ([(7, [97, 98])], 8)) := Lib.hid (by rw [hL]; decide +kernel)
  have HL := Lib.hid hL
  clear hL
  have kc := fun (w : World) (C : Array Value) (n c : Nat) => Lib.run_convert_bytes_const (P := Try.prog) w 30 5 C n c Try.underlying30 Try.underlying5
  have hB0 : Bytes (w.alloc (.cells #[.int .u8 97, .int .u8 98] 5 (2, 3))) (.slice (some ⟨w.heap.size, 0, none⟩) 2 2) [97, 98] := Bytes.fresh w [97, 98] _ _ _ _ rfl (by rfl) (by decide)
  go_enter Try.func22, Try.ntmps22
  go_wp2_with fail
  refine (frame_seal 7 _ [97, 98] _ (by decide) (by decide) hB0).mono ?_
  clear hB0 kc
  rintro e w1 ⟨v1, rfl, ho1, hb1⟩
  have hb1 : Below w.heap.size w w1 := ((Below.refl _ _).alloc (Nat.le_refl _) _).trans (hb1.mono (by simp))
  rw [← HL.out] at ho1
  obtain ⟨g, cap, rfl, hg0, hg1, hgc⟩ := ho1.shape (by intro h; rw [h] at E0; cases E0)
  have hB := ho1.bytes
  clear ho1 hg0 hg1 HL
  have H8 := Lib.hid E0
  rw [E0] at hB hgc ⊢
  clear E0
  go_wp2_with fail
  refine (frame_openO _ L _ hB (by rw [H8.out]; omega)).mono ?_
  rw [E1.out]
  rintro e w2 ⟨v2, rfl, ho2, hb2⟩
  have hB2 := hB.below hb2 rfl
  have hb2 := hb1.trans (hb2.mono hb1.size)
  dsimp only at ho2 ⊢
  have hx2 := ho2.bytes
  clear hB hb1 ho2
  go_wp2_with fail
  have hB3 := hB2.take 3 (by rw [H8.out]; omega)
  refine (frame_openO _ (L.take 3) _ hB3 (by rw [List.length_take]; omega)).mono ?_
  rw [E2.out]
  rintro e w3 ⟨v3, rfl, ho3, hb3⟩
  have hB4 := hB2.below hb3 rfl
  have hx3 := hx2.below hb3 rfl
  have hb3 := hb2.trans (hb3.mono hb2.size)
  clear hB2 hb2 hB3 ho3 hx2
  go_wp2_with (at_builtin; refine wpList_append_bytes 30 w3.heap.size 5 Try.underlying30 info_u8 rfl _ _ rfl (OwnB.nil _ _ _) hB4 rfl rfl (by rw [H8.out]; simp) (Nat.le_refl _) ?_)
  intro v4 w4 ho4 hg4 hk4
  have hb4 : Below w3.heap.size w3 w4 := below_of_grown hg4
  clear hg4 hk4 hB4
  go_wp2_with (at_builtin; refine wpList_append_bytes 30 w3.heap.size 5 Try.underlying30 info_u8 rfl _ _ rfl (ho4.alloc _) (Bytes.fresh w4 [0] _ (0, 0) _ 1 rfl (by rfl) (by simp)) rfl rfl (by rw [H8.out]; simp) (by have := hb4.size; simp; omega) ?_)
  intro v5 w5 ho5 hg5 hk5
  have hb5 : Below w3.heap.size w3 w5 := (hb4.alloc hb4.size _).grown hg5 (by have := hb4.size; simp; omega) (fun k hk => (ho4.lt k hk).1)
  have hB5 := ho5.bytes
  clear hg5 hk5 hb4 ho4 ho5
  go_wp2_with fail
  refine (frame_all _ (L ++ [0]) _ hB5 (by rw [List.length_append, H8.out]; simp)).mono ?_
  rintro e w6 ⟨v6, rs, rfl, ho6, ht6, hb6⟩
  rw [E3.out] at ht6 ⊢
  have hrl : rs.length = 1 := by have := congrArg List.length ht6; simpa [told] using this
  obtain ⟨a6, c6, rfl⟩ := ho6.slice
  have hb7 := hb5.trans (hb6.mono hb5.size)
  have hx7 := hx3.below hb7 rfl
  have hb8 := hb3.trans (hb7.mono hb3.size)
  have hcv := conv_str hx7
  rw [hrl]
  clear hx3 hb6 hb5 hb3 hb7 ht6 ho6 hrl hx7
  dsimp only
  go_wp2_with fail
  go_ret
  exact ⟨rfl, hb8⟩
end Go.Proofs.Ytankebgpkhcgnaa
