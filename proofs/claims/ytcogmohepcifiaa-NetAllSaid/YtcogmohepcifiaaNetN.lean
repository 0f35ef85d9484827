/-
  No claim by itself: what is told where there is no net. No condition.
-/
import Derived.Test.YtcogmohepcifiaaP21
import Derived.Test.YtcogmohepcifiaaP23
namespace Go.Proofs.Ytcogmohepcifiaa
open Go.ChangeShapes Go.WideShapes Go.ChangeAt Go.RowKit

theorem net_len_nil (w : World) : Calls Try.prog 10 #[.pointer none] w fun e w' => e = .returned (.int .i64 0) ∧ w' = w := by
  go_enter Try.func10, Try.ntmps10
  go_wp2_with fail
  go_ret
  exact ⟨rfl, rfl⟩
theorem net_drop_nil (w : World) : Calls Try.prog 16 #[.pointer none, .int .i64 0] w fun e w' => e = .returned (.bool false) ∧ w' = w := by
  go_enter Try.func16, Try.ntmps16
  go_wp2_with fail
  refine (net_len_nil _).mono ?_
  rintro e w' ⟨rfl, rfl⟩
  go_wp2_with fail
  go_ret
  exact ⟨rfl, rfl⟩
theorem net_clear_nil (w : World) : Calls Try.prog 17 #[.pointer none, .int .i64 1] w fun e w' => e = .returned (.int .i64 0) ∧ Below w.heap.size w w' := by
  have hb := fun a => (Below.refl w.heap.size w).alloc (Nat.le_refl _) a
  have HB := Lib.hid hb
  clear hb
  go_enter Try.func17, Try.ntmps17
  go_wp2_with fail
  refine (net_len_nil _).mono ?_
  rintro e w' ⟨rfl, rfl⟩
  go_wp2_with fail
  refine (net_len_nil _).mono ?_
  rintro e w' ⟨rfl, rfl⟩
  go_wp2_with fail
  go_ret
  exact ⟨rfl, HB.out _⟩
theorem net_send_nil (v : Value) (m : Msg) (w : World) : Calls Try.prog 9 #[.pointer none, msgAgg v m] w fun e w' => e = .returned (.bool false) ∧ Below w.heap.size w w' := by
  have hb := fun a => (Below.refl w.heap.size w).alloc (Nat.le_refl _) a
  have HB := Lib.hid hb
  clear hb
  unfold msgAgg
  go_enter Try.func9, Try.ntmps9
  go_wp2_with fail
  go_ret
  exact ⟨rfl, HB.out _⟩
set_option maxRecDepth 100000 in
set_option maxHeartbeats 1000000 in
theorem net_look_nil (w : World) : Calls Try.prog 13 #[.pointer none, .int .i64 0] w fun e w' => e = .returned (.tuple #[msgAgg (.slice none 0 0) zM, .bool false]) ∧ Below w.heap.size w w' := by
  have hz := msgS_box w (.slice none 0 0) zM 30
  have hb := (Below.refl w.heap.size w).alloc (Nat.le_refl _) (.cells #[.int .i64 0, .int .i64 0, .int .i64 0, .int .i64 0, .int .i64 0, .int .i64 0, .int .i64 0, .bool false, .slice none 0 0, .int .i64 0, .int .i64 0, .string ⟨#[]⟩, .string ⟨#[]⟩] 30)
  unfold zM at hz
  dsimp only at hz
  go_enter Try.func13, Try.ntmps13
  go_wp2_with fail
  generalize w.alloc _ = w1 at *
  refine (net_len_nil _).mono ?_
  rintro e w' ⟨rfl, rfl⟩
  rename World => w1
  have hzz := hz.setAll (v' := .slice none 0 0) (m' := zM)
  have hkk := keeps_msgTo w1 w.heap.size (.slice none 0 0) zM
  have hfin := hb.trans (hkk.below (B := w.heap.size) (by simp) hb.size)
  have HZZ := Lib.hid hzz
  have HF := Lib.hid hfin
  have z0 := hz.c0
  have z1 := hz.c1
  have z2 := hz.c2
  have z3 := hz.c3
  have z4 := hz.c4
  have z5 := hz.c5
  have z6 := hz.c6
  have z7 := hz.c7
  have z8 := hz.c8
  have z9 := hz.c9
  have z10 := hz.c10
  have z11 := hz.c11
  have z12 := hz.c12
  have zf := hz.fr
  dsimp only at z0 z1 z2 z3 z4 z5 z6 z7 z9 z10 z11 z12
  clear hzz hkk hfin hz hb
  go_wp2_with fail
  refine bodyPost_ret (results_cell2 rfl _ _ _ _ _ rfl (load_msg HZZ.out)) rfl ?_
  exact ⟨rfl, HF.out⟩
set_option maxRecDepth 100000 in
set_option maxHeartbeats 1000000 in
theorem net_take_nil (w : World) : Calls Try.prog 15 #[.pointer none, .int .i64 0] w fun e w' => e = .returned (.tuple #[msgAgg (.slice none 0 0) zM, .bool false]) ∧ Below w.heap.size w w' := by
  have hz := msgS_box w (.slice none 0 0) zM 30
  have hb := (Below.refl w.heap.size w).alloc (Nat.le_refl _) (.cells #[.int .i64 0, .int .i64 0, .int .i64 0, .int .i64 0, .int .i64 0, .int .i64 0, .int .i64 0, .bool false, .slice none 0 0, .int .i64 0, .int .i64 0, .string ⟨#[]⟩, .string ⟨#[]⟩] 30)
  unfold zM at hz
  dsimp only at hz
  go_enter Try.func15, Try.ntmps15
  go_wp2_with fail
  generalize w.alloc _ = w1 at *
  refine (net_look_nil _).mono ?_
  rintro e w2 ⟨rfl, hb2⟩
  have hz2 := hz.below hb2
  have hbw := hb.trans (hb2.mono hb.size)
  have hbB := (Below.refl w2.heap.size w2).alloc (Nat.le_refl _) (.cells #[.int .i64 0, .int .i64 0, .int .i64 0, .int .i64 0, .int .i64 0, .int .i64 0, .int .i64 0, .bool false, .slice none 0 0, .int .i64 0, .int .i64 0, .string ⟨#[]⟩, .string ⟨#[]⟩] 30)
  have hz3 := hz2.below hbB
  have hX := msgS_box w2 (.slice none 0 0) zM 30
  have hbw3 := hbw.trans (hbB.mono hbw.size)
  unfold zM at hX
  dsimp only at hX
  unfold msgAgg zM
  dsimp only
  go_wp2_with fail
  clear hbB
  generalize w2.alloc _ = w3 at *
  generalize w2.heap.size = X at *
  refine (net_drop_nil _).mono ?_
  rintro e w' ⟨rfl, rfl⟩
  rename World => w3
  have hzz := hz3.setAll (v' := .slice none 0 0) (m' := zM)
  have hkk := keeps_msgTo w3 w.heap.size (.slice none 0 0) zM
  have hfin := hbw3.trans (hkk.below (B := w.heap.size) (by simp) hbw3.size)
  have HZZ := Lib.hid hzz
  have HF := Lib.hid hfin
  have z0 := hz3.c0
  have z1 := hz3.c1
  have z2 := hz3.c2
  have z3 := hz3.c3
  have z4 := hz3.c4
  have z5 := hz3.c5
  have z6 := hz3.c6
  have z7 := hz3.c7
  have z8 := hz3.c8
  have z9 := hz3.c9
  have z10 := hz3.c10
  have z11 := hz3.c11
  have z12 := hz3.c12
  have zf := hz3.fr
  have y0 := hX.c0
  have y1 := hX.c1
  have y2 := hX.c2
  have y3 := hX.c3
  have y4 := hX.c4
  have y5 := hX.c5
  have y6 := hX.c6
  have y7 := hX.c7
  have y8 := hX.c8
  have y9 := hX.c9
  have y10 := hX.c10
  have y11 := hX.c11
  have y12 := hX.c12
  dsimp only at z0 y0 z1 y1 z2 y2 z3 y3 z4 y4 z5 y5 z6 y6 z7 y7 z9 y9 z10 y10 z11 y11 z12 y12
  clear hzz hkk hfin hz hb hz2 hz3 hbw hbw3 hb2 hX
  go_wp2_with fail
  refine bodyPost_ret (results_cell2 rfl _ _ _ _ _ rfl (load_msg HZZ.out)) rfl ?_
  exact ⟨rfl, HF.out⟩
end Go.Proofs.Ytcogmohepcifiaa
