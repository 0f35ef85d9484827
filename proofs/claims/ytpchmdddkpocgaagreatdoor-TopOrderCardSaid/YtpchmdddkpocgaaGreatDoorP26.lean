/-
  No claim by itself: TopOrder: all that is evaluated. | TopOrder: the walk of the law. Conditions: utf8's two tables lie in the world. | TopOrder: from its row to its walk. No condition.
-/
import Derived.Test.YtpchmdddkpocgaaGreatDoorFaP11
import Derived.Test.YtpchmdddkpocgaaGreatDoorFaP12
import Derived.Test.YtpchmdddkpocgaaGreatDoorFaP21
import Derived.Test.YtpchmdddkpocgaaGreatDoorFaP22
import Derived.Test.YtpchmdddkpocgaaGreatDoorFaP31
import Derived.Test.YtpchmdddkpocgaaGreatDoorFaP32
import Derived.Test.YtpchmdddkpocgaaGreatDoorFaT11
import Derived.Test.YtpchmdddkpocgaaGreatDoorFaT12
import Derived.Test.YtpchmdddkpocgaaGreatDoorFaT21
import Derived.Test.YtpchmdddkpocgaaGreatDoorFaT22
import Derived.Test.YtpchmdddkpocgaaGreatDoorFaT31
import Derived.Test.YtpchmdddkpocgaaGreatDoorFaT32
import Derived.Test.YtpchmdddkpocgaaGreatDoorFaO11
import Derived.Test.YtpchmdddkpocgaaGreatDoorFaO12
import Derived.Test.YtpchmdddkpocgaaGreatDoorFaO21
import Derived.Test.YtpchmdddkpocgaaGreatDoorFaO22
import Derived.Test.YtpchmdddkpocgaaGreatDoorFaO31
import Derived.Test.YtpchmdddkpocgaaGreatDoorFaO32
import Derived.Test.YtpchmdddkpocgaaGreatDoorFaX
import Derived.Test.YtpchmdddkpocgaaGreatDoorFaA
import Derived.Test.YtpchmdddkpocgaaGreatDoorP25
import Derived.ProofKit
import Derived.OpenShut
import Derived.Test.YtpchmdddkpocgaaGreatDoorP16
import Derived.Test.YtpchmdddkpocgaaGreatDoorCards
import Derived.Test.YtpchmdddkpocgaaGreatDoorTie
import Derived.WalkKit
import Derived.LaidMore
import Derived.Lay
import Derived.SevenTiedAt
import Derived.Carry
import Derived.Deep.DeepHandedRow
import Derived.Lib.LaidU8
import Derived.PinnedBridge
namespace Go.Proofs.YtpchmdddkpocgaaGreatDoor
set_option maxRecDepth 100000
set_option linter.unusedVariables false
set_option linter.unusedSimpArgs false
theorem faX_at {k : Nat} (h : k ≤ 24) : fireK k = true ∧ copyK k = true ∧ copyM k = true ∧ getK k = true ∧ foldK k = true ∧ docK k = true := by
 have h1 := allU_spec faX k (by omega)
 unfold xbK at h1
 obtain ⟨a1, h1⟩ := cond_and h1
 obtain ⟨a2, h1⟩ := cond_and h1
 obtain ⟨a3, h1⟩ := cond_and h1
 obtain ⟨a4, h1⟩ := cond_and h1
 exact ⟨a1, a2, a3, a4, cond_and h1⟩
theorem faP_all {c s : Nat} (h1 : 1 ≤ c) (h3 : c ≤ 3) (hs : s < 8) : ∀ k, k < 24 → pbK c s k = true := by
 have hs : s = 0 ∨ s = 1 ∨ s = 2 ∨ s = 3 ∨ s = 4 ∨ s = 5 ∨ s = 6 ∨ s = 7 := by omega
 obtain rfl | rfl | rfl : c = 1 ∨ c = 2 ∨ c = 3 := by omega
 ·obtain rfl | rfl | rfl | rfl | rfl | rfl | rfl | rfl := hs
  ·exact allU_two faP_1_0 gaP_1_0
  ·exact allU_two faP_1_1 gaP_1_1
  ·exact allU_two faP_1_2 gaP_1_2
  ·exact allU_two faP_1_3 gaP_1_3
  ·exact allU_two faP_1_4 gaP_1_4
  ·exact allU_two faP_1_5 gaP_1_5
  ·exact allU_two faP_1_6 gaP_1_6
  ·exact allU_two faP_1_7 gaP_1_7
 ·obtain rfl | rfl | rfl | rfl | rfl | rfl | rfl | rfl := hs
  ·exact allU_two faP_2_0 gaP_2_0
  ·exact allU_two faP_2_1 gaP_2_1
  ·exact allU_two faP_2_2 gaP_2_2
  ·exact allU_two faP_2_3 gaP_2_3
  ·exact allU_two faP_2_4 gaP_2_4
  ·exact allU_two faP_2_5 gaP_2_5
  ·exact allU_two faP_2_6 gaP_2_6
  ·exact allU_two faP_2_7 gaP_2_7
 ·obtain rfl | rfl | rfl | rfl | rfl | rfl | rfl | rfl := hs
  ·exact allU_two faP_3_0 gaP_3_0
  ·exact allU_two faP_3_1 gaP_3_1
  ·exact allU_two faP_3_2 gaP_3_2
  ·exact allU_two faP_3_3 gaP_3_3
  ·exact allU_two faP_3_4 gaP_3_4
  ·exact allU_two faP_3_5 gaP_3_5
  ·exact allU_two faP_3_6 gaP_3_6
  ·exact allU_two faP_3_7 gaP_3_7
theorem faT_all {c s : Nat} (h1 : 1 ≤ c) (h3 : c ≤ 3) (hs : 1 ≤ s ∧ s ≤ 8) : allU (tbK c s) 25 = true := by
 have hs : s = 1 ∨ s = 2 ∨ s = 3 ∨ s = 4 ∨ s = 5 ∨ s = 6 ∨ s = 7 ∨ s = 8 := by omega
 obtain rfl | rfl | rfl : c = 1 ∨ c = 2 ∨ c = 3 := by omega
 ·obtain rfl | rfl | rfl | rfl | rfl | rfl | rfl | rfl := hs
  ·exact faT_1_1
  ·exact faT_1_2
  ·exact faT_1_3
  ·exact faT_1_4
  ·exact faT_1_5
  ·exact faT_1_6
  ·exact faT_1_7
  ·exact faT_1_8
 ·obtain rfl | rfl | rfl | rfl | rfl | rfl | rfl | rfl := hs
  ·exact faT_2_1
  ·exact faT_2_2
  ·exact faT_2_3
  ·exact faT_2_4
  ·exact faT_2_5
  ·exact faT_2_6
  ·exact faT_2_7
  ·exact faT_2_8
 ·obtain rfl | rfl | rfl | rfl | rfl | rfl | rfl | rfl := hs
  ·exact faT_3_1
  ·exact faT_3_2
  ·exact faT_3_3
  ·exact faT_3_4
  ·exact faT_3_5
  ·exact faT_3_6
  ·exact faT_3_7
  ·exact faT_3_8
theorem faO_all {c t : Nat} (h1 : 1 ≤ c) (h3 : c ≤ 3) (hs : 1 ≤ t ∧ t ≤ 8) : allU (obK c t) 24 = true := by
 have hs : t = 1 ∨ t = 2 ∨ t = 3 ∨ t = 4 ∨ t = 5 ∨ t = 6 ∨ t = 7 ∨ t = 8 := by omega
 obtain rfl | rfl | rfl : c = 1 ∨ c = 2 ∨ c = 3 := by omega
 ·obtain rfl | rfl | rfl | rfl | rfl | rfl | rfl | rfl := hs
  ·exact faO_1_1
  ·exact faO_1_2
  ·exact faO_1_3
  ·exact faO_1_4
  ·exact faO_1_5
  ·exact faO_1_6
  ·exact faO_1_7
  ·exact faO_1_8
 ·obtain rfl | rfl | rfl | rfl | rfl | rfl | rfl | rfl := hs
  ·exact faO_2_1
  ·exact faO_2_2
  ·exact faO_2_3
  ·exact faO_2_4
  ·exact faO_2_5
  ·exact faO_2_6
  ·exact faO_2_7
  ·exact faO_2_8
 ·obtain rfl | rfl | rfl | rfl | rfl | rfl | rfl | rfl := hs
  ·exact faO_3_1
  ·exact faO_3_2
  ·exact faO_3_3
  ·exact faO_3_4
  ·exact faO_3_5
  ·exact faO_3_6
  ·exact faO_3_7
  ·exact faO_3_8
theorem faA_all {m : Nat} (h : 1 ≤ m ∧ m ≤ 10) : allU (abK m) (25 - m) = true := by
 have hs : m = 1 ∨ m = 2 ∨ m = 3 ∨ m = 4 ∨ m = 5 ∨ m = 6 ∨ m = 7 ∨ m = 8 ∨ m = 9 ∨ m = 10 := by omega
 obtain rfl | rfl | rfl | rfl | rfl | rfl | rfl | rfl | rfl | rfl := hs
 ·exact faA_1
 ·exact faA_2
 ·exact faA_3
 ·exact faA_4
 ·exact faA_5
 ·exact faA_6
 ·exact faA_7
 ·exact faA_8
 ·exact faA_9
 ·exact faA_10
theorem fam : Fam where
 push := fun c s k h1 h3 hs hk h24 => cond_and (cond_le (faP_all h1 h3 (by omega) k h24) hk)
 told := fun c s k h1 h3 hs1 hs8 hk h24 => cond_and (cond_le (allU_spec (faT_all h1 h3 ⟨by omega, by omega⟩) k (by omega)) hk)
 fire := fun k h => (faX_at (by omega)).1
 copy := fun k h => ⟨(faX_at (by omega)).2.1, (faX_at (by omega)).2.2.1⟩
 one := fun k c t hk h1 h3 ht1 ht8 htk => by
  obtain ⟨a, h⟩ := cond_and (cond_le (allU_spec (faO_all h1 h3 ⟨ht1, ht8⟩) k hk) htk)
  exact ⟨a, cond_and h⟩
 app := fun k m h1 h10 hk => cond_and (cond_le (allU_spec (faA_all ⟨h1, h10⟩) k (by omega)) hk)
theorem getAll : ∀ k, k ≤ 24 → getK k = true := fun k h => (faX_at h).2.2.2.1
theorem foldAll : ∀ k, k ≤ 24 → foldK k = true ∧ docK k = true := fun k h => ⟨(faX_at h).2.2.2.2.1, (faX_at h).2.2.2.2.2⟩
end Go.Proofs.YtpchmdddkpocgaaGreatDoor
namespace Go.Proofs.YtpchmdddkpocgaaGreatDoor
set_option maxRecDepth 100000
set_option linter.unusedVariables false
set_option linter.unusedSimpArgs false
open Go.ChangeShapes Go.WideShapes Go.ChangeAt Go.RowKit
set_option maxHeartbeats 4000000 in
theorem topOrder_walk (n0 : Int) (tv : Value) (l : List Int) (w : World) (hl : RI w tv l) (hT : Tabs Tryz.prog w.heap.size w) : Calls Tryz.prog 3 #[.int .i64 n0, tv] w fun e w' => e = .returned (.bool true) ∧ Below w.heap.size w w' := by
 have hB := Lib.hid (SoundF.true0 d4 (ρ := fun _ => ⟨0, 0, 0, 0, fun _ => .empty, fun _ _ => .bool false, fun _ => .nil⟩) (args := []) (vals := []) .nil ev_begun w hT)
 obtain ⟨ta, tc, rfl, _⟩ := hl.open_
 have HL := Lib.hid hl
 have HT := Lib.hid hT
 clear hl hT
 go_enter Tryz.func3, Tryz.ntmps3
 go_wp2_with fail
 refine hB.out.mono ?_
 rintro e w1 ⟨rfl, hb1⟩
 have HT1 : Hid (Tabs Tryz.prog w1.heap.size w1) := Lib.hid (by
  obtain ⟨w00, h1, h2, h3⟩ := HT.out
  exact ⟨w00, h1, Nat.le_trans h2 hb1.size, fun b hb => (hb1.block b (Nat.lt_of_lt_of_le hb h2)).trans (h3 b hb)⟩)
 have HB1 := Lib.hid hb1
 clear hb1 hB HT
 go_wp2_with fail
 refine (small_walk n0 8 (by omega) (by omega) _).mono ?_
 rintro e w' ⟨⟨m, rfl, hm⟩, rfl⟩
 rename World => w1
 have hn1 : 1 ≤ 1 + m := by omega
 have hn8 : 1 + m ≤ 8 := by omega
 have hwr : IntKind.i64.wrap ((1 : Int) + (m : Int)) = (1 : Int) + (m : Int) := i64_wrap (by omega) (by omega)
 go_wp2_with fail
 rw [show (1 : Int) + (m : Int) = ((1 + m : Nat) : Int) by omega]
 clear hwr
 generalize 1 + m = n at *
 clear hm
 refine (first_made HT1.out hn1 hn8).mono ?_
 rintro e w2 ⟨v, rfl, ρ, h, t, E, hr, hk, hb2⟩
 have HM := Lib.hid (And.intro E (And.intro hr (And.intro hk hb2)))
 clear E hr hk hb2
 go_wp2_with fail
 refine (first_lead HM.out.1 HM.out.2.1 HM.out.2.2.1 HM.out.2.2.2).mono ?_
 rintro e w3 ⟨rfl, hW3⟩
 have HW3 := Lib.hid hW3
 clear hW3 HM
 generalize hB : w1.heap.size = B at *
 go_wp2_with fail
 go_loopw [7] (fun c wr => (c = .int .i64 1 ∧ Hid (Wri w1 wr B n v (remO n 1))) ∨ (c = .int .i64 2 ∧ Hid (Wri w1 wr B n v (remO n 2))) ∨ (c = .int .i64 3 ∧ Hid (Wri w1 wr B n v (remO n 3))) ∨ (c = .int .i64 4 ∧ Hid (Wri w1 wr B n v (remO n 4)))) (fun c _ => 4 - (intOf c).toNat)
 case atStart => exact .inl ⟨rfl, HW3⟩
 case round =>
  clear HW3
  rename World => wr
  rcases hrel with ⟨rfl, hR⟩ | ⟨rfl, hR⟩ | ⟨rfl, hR⟩ | ⟨rfl, hR⟩
  ·have hcv : ∀ u : World, (convert 34 9 (.slice (some ⟨u.heap.size, 0, none⟩) 1 1)).run Tryz.prog (u.alloc (.cells #[.int .u8 49] 5)) = .ok (.string ⟨#[49]⟩) (u.alloc (.cells #[.int .u8 49] 5)) := fun u => conv_one u 49
   go_wp2_with fail
   go_loopw [8] (fun i wx => ∃ j : Nat, j ≤ n ∧ i = .int .i64 j ∧ Hid (Wri w1 wx B n v (remW n 1 j))) (fun i _ => n - (intOf i).toNat)
   case atStart => exact ⟨0, by omega, rfl, Lib.hid hR.out⟩
   case round =>
    obtain ⟨j, hj, rfl, hRj⟩ := hrel
    rename World => wx
    by_cases hlt : j < n
    ·have tk : decide ((j : Int) < n) = true := decide_eq_true (by omega)
     have HR : Hid (Wri w1 wx B n v ((1, j) :: remW n 1 (j + 1))) := Lib.hid (by rw [← remW_step n 1 j hlt]; exact hRj.out)
     clear hRj
     go_wp2_with fail
     rw [key_1]
     refine (top_put (keyS 1) j _).mono ?_
     rintro e w5 ⟨rfl, hb5⟩
     have HB5 := Lib.hid (((Below.refl wx.heap.size wx).alloc (Nat.le_refl _) (.cells #[.int .u8 49] 5)).trans (hb5.mono (by simp)))
     clear hb5
     go_wp2_with fail
     refine (first_write (by omega) HR.out HB5.out).mono ?_
     rintro e w6 ⟨⟨u, rfl⟩, hW6⟩
     have HW6 := Lib.hid hW6
     clear hW6 HR HB5
     go_wp2_with fail
     go_roundw
     case rel => exact ⟨j + 1, by omega, by go_num, HW6⟩
     case measure => simp [intOf]; omega
    ·obtain rfl : n = j := by omega
     have tk : decide ((n : Int) < n) = false := decide_eq_false (by omega)
     have HN : Hid (Wri w1 wx B n v (remO n 2)) := Lib.hid (by rw [← remO_end n 1 (by omega) (by omega)]; exact hRj.out)
     clear hRj
     go_wp2_with fail
     go_roundw
     case rel => exact .inr (.inl ⟨rfl, HN⟩)
     case measure => simp [intOf]
  ·have hcv : ∀ u : World, (convert 34 9 (.slice (some ⟨u.heap.size, 0, none⟩) 1 1)).run Tryz.prog (u.alloc (.cells #[.int .u8 50] 5)) = .ok (.string ⟨#[50]⟩) (u.alloc (.cells #[.int .u8 50] 5)) := fun u => conv_one u 50
   go_wp2_with fail
   go_loopw [8] (fun i wx => ∃ j : Nat, j ≤ n ∧ i = .int .i64 j ∧ Hid (Wri w1 wx B n v (remW n 2 j))) (fun i _ => n - (intOf i).toNat)
   case atStart => exact ⟨0, by omega, rfl, Lib.hid hR.out⟩
   case round =>
    obtain ⟨j, hj, rfl, hRj⟩ := hrel
    rename World => wx
    by_cases hlt : j < n
    ·have tk : decide ((j : Int) < n) = true := decide_eq_true (by omega)
     have HR : Hid (Wri w1 wx B n v ((2, j) :: remW n 2 (j + 1))) := Lib.hid (by rw [← remW_step n 2 j hlt]; exact hRj.out)
     clear hRj
     go_wp2_with fail
     rw [key_2]
     refine (top_put (keyS 2) j _).mono ?_
     rintro e w5 ⟨rfl, hb5⟩
     have HB5 := Lib.hid (((Below.refl wx.heap.size wx).alloc (Nat.le_refl _) (.cells #[.int .u8 50] 5)).trans (hb5.mono (by simp)))
     clear hb5
     go_wp2_with fail
     refine (first_write (by omega) HR.out HB5.out).mono ?_
     rintro e w6 ⟨⟨u, rfl⟩, hW6⟩
     have HW6 := Lib.hid hW6
     clear hW6 HR HB5
     go_wp2_with fail
     go_roundw
     case rel => exact ⟨j + 1, by omega, by go_num, HW6⟩
     case measure => simp [intOf]; omega
    ·obtain rfl : n = j := by omega
     have tk : decide ((n : Int) < n) = false := decide_eq_false (by omega)
     have HN : Hid (Wri w1 wx B n v (remO n 3)) := Lib.hid (by rw [← remO_end n 2 (by omega) (by omega)]; exact hRj.out)
     clear hRj
     go_wp2_with fail
     go_roundw
     case rel => exact .inr (.inr (.inl ⟨rfl, HN⟩))
     case measure => simp [intOf]
  ·have hcv : ∀ u : World, (convert 34 9 (.slice (some ⟨u.heap.size, 0, none⟩) 1 1)).run Tryz.prog (u.alloc (.cells #[.int .u8 51] 5)) = .ok (.string ⟨#[51]⟩) (u.alloc (.cells #[.int .u8 51] 5)) := fun u => conv_one u 51
   go_wp2_with fail
   go_loopw [8] (fun i wx => ∃ j : Nat, j ≤ n ∧ i = .int .i64 j ∧ Hid (Wri w1 wx B n v (remW n 3 j))) (fun i _ => n - (intOf i).toNat)
   case atStart => exact ⟨0, by omega, rfl, Lib.hid hR.out⟩
   case round =>
    obtain ⟨j, hj, rfl, hRj⟩ := hrel
    rename World => wx
    by_cases hlt : j < n
    ·have tk : decide ((j : Int) < n) = true := decide_eq_true (by omega)
     have HR : Hid (Wri w1 wx B n v ((3, j) :: remW n 3 (j + 1))) := Lib.hid (by rw [← remW_step n 3 j hlt]; exact hRj.out)
     clear hRj
     go_wp2_with fail
     rw [key_3]
     refine (top_put (keyS 3) j _).mono ?_
     rintro e w5 ⟨rfl, hb5⟩
     have HB5 := Lib.hid (((Below.refl wx.heap.size wx).alloc (Nat.le_refl _) (.cells #[.int .u8 51] 5)).trans (hb5.mono (by simp)))
     clear hb5
     go_wp2_with fail
     refine (first_write (by omega) HR.out HB5.out).mono ?_
     rintro e w6 ⟨⟨u, rfl⟩, hW6⟩
     have HW6 := Lib.hid hW6
     clear hW6 HR HB5
     go_wp2_with fail
     go_roundw
     case rel => exact ⟨j + 1, by omega, by go_num, HW6⟩
     case measure => simp [intOf]; omega
    ·obtain rfl : n = j := by omega
     have tk : decide ((n : Int) < n) = false := decide_eq_false (by omega)
     have HN : Hid (Wri w1 wx B n v (remO n 4)) := Lib.hid (by rw [← remO_end n 3 (by omega) (by omega)]; exact hRj.out)
     clear hRj
     go_wp2_with fail
     go_roundw
     case rel => exact .inr (.inr (.inr ⟨rfl, HN⟩))
     case measure => simp [intOf]
  ·obtain ⟨g, hv, hgo, hG⟩ := first_going hR.out hn1 hn8
   unfold adr at hv
   subst hv
   have HG := Lib.hid hG
   have HRI : Hid (∀ wx, Going wx B n g 0 → RI wx (.slice ta l.length tc) l) := Lib.hid (fun wx h => by
    have h1 : RI w1 (.slice ta l.length tc) l := HL.out.below HB1.out
    have h2 := h.bel
    rw [hgo, ← hB] at h2
    exact h1.below h2)
   have HFB : Hid (∀ wx, Rested wx B n g → Below w.heap.size w wx) := Lib.hid (fun wx h => by
    have h2 := h.bel
    rw [hgo, ← hB] at h2
    exact HB1.out.trans (h2.mono HB1.out.size))
   clear hG hR
   go_wp2_with fail
   go_loopw [9] (fun i wx => ∃ k : Nat, k ≤ l.length ∧ i = .int .i64 k ∧ Hid (Going wx B n g 0)) (fun i _ => l.length - (intOf i).toNat)
   case atStart => exact ⟨0, by omega, rfl, HG⟩
   case round =>
    clear HG
    obtain ⟨k, hk, rfl, hGk⟩ := hrel
    rename World => wx
    by_cases hlt : k < l.length ∧ k < 60
    ·obtain ⟨hkl, hk60⟩ := hlt
     have tk : decide ((k : Int) < l.length) = true := decide_eq_true (by omega)
     have t60 : decide ((k : Int) < 60) = true := decide_eq_true (by omega)
     obtain ⟨ta', tc', hte, htc1, htc2, hcc⟩ := (HRI.out wx hGk.out).open_
     obtain ⟨b, off, hta, hblt, hcell⟩ := hcc.out k hkl
     simp only [Value.slice.injEq] at hte
     obtain ⟨rfl, _, rfl⟩ := hte
     subst hta
     generalize hx : l[k] = xk at *
     clear hcc hx
     go_wp2_with fail
     refine (small_walk xk 3 (by omega) (by omega) _).mono ?_
     rintro e w' ⟨⟨m2, rfl, hm2⟩, rfl⟩
     rename World => wx
     have hwr : IntKind.i64.wrap ((1 : Int) + (m2 : Int)) = (1 : Int) + (m2 : Int) := i64_wrap (by omega) (by omega)
     have hc1 : 1 ≤ 1 + m2 := by omega
     have hc3 : 1 + m2 ≤ 3 := by omega
     go_wp2_with fail
     rw [show (1 : Int) + (m2 : Int) = ((1 + m2 : Nat) : Int) by omega]
     clear hwr
     generalize 1 + m2 = c at *
     clear hm2
     refine (t_push fam hn8 hGk.out hc1 hc3).mono ?_
     rintro e w5 ⟨⟨r, rfl⟩, hG5⟩
     have HG5 := Lib.hid hG5
     clear hG5 hGk hcell
     go_wp2_with fail
     refine (t_pull fam hn8 HG5.out hc1 hc3).mono ?_
     rintro e w6 ⟨rfl, hG6⟩
     have HG6 := Lib.hid hG6
     clear hG6 HG5
     go_wp2_with fail
     go_roundw
     case rel => exact ⟨k + 1, by omega, by go_num, HG6⟩
     case measure => simp [intOf]; omega
    ·have hex : ¬ k < l.length ∨ (k < l.length ∧ ¬ k < 60) := by omega
     rcases hex with h1 | ⟨h1, h2⟩
     ·have tk : decide ((k : Int) < l.length) = false := decide_eq_false (by omega)
      go_wp2_with fail
      refine (t_rest fam getAll hn8 hGk.out).mono ?_
      rintro e w7 ⟨rfl, hR7⟩
      obtain ⟨R, p, ⟨y, hA⟩, I, hF⟩ := id hR7
      have c0 := hA.T.c0
      have c3 := hA.T.c3
      have hF1 := hF 1 (by omega) (by omega)
      have ht : R.take (p 1) = R := by rw [hF1.2, List.take_length]
      have hN : R.length = 3 * n := by rw [cntR_sum I.wf.mem, hF1.1, (hF 2 (by omega) (by omega)).1, (hF 3 (by omega) (by omega)).1]; omega
      have HCl := Lib.hid (wld_client hA.W (id := 1) (by omega) (by omega))
      rw [cliV_of (by omega)] at HCl
      have hC := hA.C 1 (by omega) (by omega)
      rw [ht] at hC
      have HRo := Lib.hid (cli_rows hC (fun r hr => (I.wf.mem r hr).2) (by omega))
      have hR24 : R.length ≤ 24 := by omega
      have HF := Lib.hid I.wf
      have HR7 := Lib.hid hR7
      have hne := fun u => nil_cli u ⟨(g.ca 1).1, (g.ca 1).2, none⟩
      have HN := Lib.hid hN
      clear hA I hF hF1 ht hC hR7 hGk HRI HL HT1 HB1 hN
      unfold adr at c0 HCl
      go_wp2_with fail
      refine (HCl.out).mono ?_
      rintro e w' ⟨rfl, rfl⟩
      rename World => w7
      go_wp2_with fail
      refine (HRo.out).mono ?_
      rintro e w8 ⟨v, rfl, hM⟩
      obtain ⟨va, vc, rfl⟩ := hM.val
      obtain ⟨ks, m1, m2, m3, m4, m5⟩ := hM
      have hrs := RxO.recs vrF_len m1
      have HR8 := Lib.hid (HR7.out.below m4)
      have HRS := Lib.hid (And.intro hrs m2)
      have HL9 := Lib.hid (LastAt.new w8 45)
      have HB9 := Lib.hid ((Below.refl w8.heap.size w8).alloc (Nat.le_refl _) (.cells #[.int .i64 0, .int .i64 0, .int .i64 0, .int .i64 0] 45))
      clear m1 m2 m3 m4 m5 hrs HR7 HRo HCl
      go_wp2_with fail
      generalize w8.alloc _ = w9 at *
      generalize hA8 : w8.heap.size = A at *
      go_loopw [13] (fun i wx => ∃ k : Nat, k ≤ R.length ∧ i = .int .i64 k ∧ Hid (Below A w8 wx ∧ LastAt wx A (fun d => cntR (R.take k) d))) (fun i _ => R.length - (intOf i).toNat)
      case atStart => exact ⟨0, by omega, rfl, Lib.hid ⟨HB9.out, by rw [List.take_zero]; exact HL9.out⟩⟩
      case round =>
       obtain ⟨k, hk, rfl, hrel⟩ := hrel
       rename World => wx
       by_cases hlt : k < R.length
       ·have tk : decide ((k : Int) < R.length) = true := decide_eq_true (by omega)
        obtain ⟨hbx, hLx⟩ := hrel.out
        have hks : k < ks.length := by rw [HRS.out.2.1]; exact hlt
        obtain ⟨b, off, rfl, hblt, hc⟩ := HRS.out.1.at k hks
        obtain ⟨e1, e2, e3, e4⟩ := HRS.out.2.2 k hks hlt
        obtain ⟨f1, f2, f3, f4⟩ := cntR_next HF.out k hlt
        have hblt : b < A := by rw [← hA8]; exact hblt
        have d1 := (hbx.cell (p := ⟨b, off + k * 5 + 1, none⟩) hblt).trans (hc 1 _ rfl)
        have d2 := (hbx.cell (p := ⟨b, off + k * 5 + 2, none⟩) hblt).trans (hc 2 _ rfl)
        have d3 := (hbx.cell (p := ⟨b, off + k * 5 + 3, none⟩) hblt).trans (hc 3 _ rfl)
        obtain ⟨va, vn, vm, hv⟩ := e4.val
        rw [e2] at d1
        rw [e3, f3] at d2
        rw [hv] at d3
        clear hc e1 e2 e3 e4 hv hbx
        have hs100 : cntR (R.take k) R[k].1 ≤ k := by
         have := cntR_le (R.take k) R[k].1
         rw [List.length_take] at this
         omega
        generalize R[k].1 = c at *
        generalize hs : cntR (R.take k) c = s at *
        have hb10 := (Below.refl wx.heap.size wx).alloc (Nat.le_refl _) (.cells #[.int .i64 (c : Int), .int .i64 ((s : Int) + 1), .slice (some va) vn vm] 48)
        have HB10 := Lib.hid hb10
        have hX0 : (wx.alloc (.cells #[.int .i64 (c : Int), .int .i64 ((s : Int) + 1), .slice (some va) vn vm] 48)).cell? ⟨wx.heap.size, 0, none⟩ = some (.int .i64 (c : Int)) := World.cell?_alloc_new _ _ _ _
        have hX1 : (wx.alloc (.cells #[.int .i64 (c : Int), .int .i64 ((s : Int) + 1), .slice (some va) vn vm] 48)).cell? ⟨wx.heap.size, 1, none⟩ = some (.int .i64 ((s : Int) + 1)) := World.cell?_alloc_new _ _ _ _
        have hXl : wx.heap.size < (wx.alloc (.cells #[.int .i64 (c : Int), .int .i64 ((s : Int) + 1), .slice (some va) vn vm] 48)).heap.size := by simp
        have hL10 := hLx.stay HB10.out
        have HLX := Lib.hid hLx
        clear hLx hb10
        go_upto_region 28 with fail
        generalize wx.alloc _ = w10 at *
        have hAc := hL10.c c f1 f2
        try dsimp only at hAc
        rw [hs] at hAc
        have hAl := hL10.lt
        have HL10 := Lib.hid hL10
        clear hL10 d1 d2 d3
        have hcl : ((c : Int)) < 4 := by omega
        have hcn : Int.toNat (c : Int) = c := Int.toNat_natCast c
        go_cut [94] (fun x wy => x = .bool false ∧ Below w10.heap.size w10 wy)
        case first =>
         refine wp_region_sw (by rfl) (by kernel_rfl) (fun k => none) (fun _ _ hk => by cases hk) (fun vals => ?_)
         ((with_reducible refine sw_pure ?_ (fun K hK => ?_)); (· rfl); go_simp; with_reducible refine hK _ ?_; clear hK K)
         refine sw_at (.int .i64 ((s : Int) + 1)) rfl rfl (fun wz hz' hH => ?_) (fun K hK => ?_)
         ·have g := (hz'.cell (p := ⟨wx.heap.size, 1, none⟩) hXl).trans hX1
          go_simp
         go_simp; refine hK _ ?_; clear hK K
         ((with_reducible refine sw_pure ?_ (fun K hK => ?_)); (· rfl); go_simp; with_reducible refine hK _ ?_; clear hK K)
         refine sw_at (.int .i64 (c : Int)) rfl rfl (fun wz hz' hH => ?_) (fun K hK => ?_)
         ·have g := (hz'.cell (p := ⟨wx.heap.size, 0, none⟩) hXl).trans hX0
          go_simp
         go_simp; refine hK _ ?_; clear hK K
         refine sw_at (.pointer (some ⟨A, c, none⟩)) rfl rfl (fun wz hz' hH => ?_) (fun K hK => ?_)
         ·go_simp
         go_simp; refine hK _ ?_; clear hK K
         refine sw_at (.int .i64 (s : Int)) rfl rfl (fun wz hz' hH => ?_) (fun K hK => ?_)
         ·have g := (hz'.cell (p := ⟨A, c, none⟩) hAl).trans hAc
          go_simp
         go_simp; refine hK _ ?_; clear hK K
         have hws : IntKind.i64.wrap ((s : Int) + 1) = (s : Int) + 1 := i64_wrap (by omega) (by omega)
         ((with_reducible refine sw_pure ?_ (fun K hK => ?_)); (· rfl); go_simp; with_reducible refine hK _ ?_; clear hK K)
         ((with_reducible refine sw_pure ?_ (fun K hK => ?_)); (· rfl); go_simp; with_reducible refine hK _ ?_; clear hK K)
         refine sw_done (fun wz hz hH => ?_)
         go_wp2_with fail
         go_meet
         exact ⟨rfl, hz⟩
        case rest =>
         obtain ⟨rfl, hz⟩ := hcut
         rename World => w11
         have hXl2 : wx.heap.size < w11.heap.size := Nat.lt_of_lt_of_le hXl hz.size
         have hX0' := (hz.cell (p := ⟨wx.heap.size, 0, none⟩) hXl).trans hX0
         have hAc' := (hz.cell (p := ⟨A, c, none⟩) hAl).trans hAc
         have hL11 := HL10.out.stay hz
         have hfr := hL11.fr c
         have hnext : Hid (Below A w8 (w11.setCell ⟨A, c, none⟩ (.int .i64 ((s : Int) + 1))) ∧ LastAt (w11.setCell ⟨A, c, none⟩ (.int .i64 ((s : Int) + 1))) A (fun d => cntR (R.take (k + 1)) d)) := Lib.hid (by
          refine ⟨Below.setCell ((hrel.out.1.trans (HB10.out.mono (Nat.le_of_lt HLX.out.lt))).trans (hz.mono (Nat.le_of_lt hAl))) (Nat.le_refl _) _, ?_⟩
          have h1 := hL11.set f1 f2
          rw [hs] at h1
          rw [show (fun d => cntR (R.take (k + 1)) d) = (fun e => if e = c then cntR (R.take k) e + 1 else cntR (R.take k) e) from funext f4]
          exact h1)
         have hws : IntKind.i64.wrap ((s : Int) + 1) = (s : Int) + 1 := i64_wrap (by omega) (by omega)
         clear hX0 hX1 hAc hL11 HL10 hz hXl hAl f4
         go_wp2_with fail
         go_roundw
         case rel => exact ⟨k + 1, by omega, by go_num, hnext⟩
         case measure => simp [intOf]; omega
       ·obtain rfl : k = R.length := by omega
        have tk2 : decide ((R.length : Int) < (R.length : Int)) = false := decide_eq_false (by omega)
        have hRx : Rested wx B n g := HR8.out.below (by rw [hA8]; exact hrel.out.1)
        have HRx := Lib.hid hRx
        have HAg := Lib.hid (t_agrees foldAll hn8 hn1 hRx (c := 1) (by omega) (by omega))
        have hc3 : wx.cell? ⟨g.t.1, g.t.2 + 3, none⟩ = some (.bool true) := by
         obtain ⟨R', p', ⟨y', hA'⟩, _, _⟩ := hRx
         exact hA'.T.c3
        clear hRx hrel HL9 HB9 HRS HF HR8
        have hlen := HN.out
        have tN : decide ((R.length : Int) = 3 * (n : Int)) = true := decide_eq_true (by omega)
        have tN2 : ((R.length : Int) == 3 * (n : Int)) = true := by simp; omega
        have hw3 : IntKind.i64.wrap (3 * (n : Int)) = 3 * (n : Int) := i64_wrap (by omega) (by omega)
        have hw4 : IntKind.i64.wrap ((n : Int) - 1) = (n : Int) - 1 := i64_wrap (by omega) (by omega)
        clear hlen
        go_wp2_with fail
        refine (HAg.out).mono ?_
        rintro e w12 ⟨rfl, hR12⟩
        have HR12 := Lib.hid hR12
        clear hR12
        go_wp2_with fail
        refine (t_agrees foldAll hn8 hn1 HR12.out (c := 3) (by omega) (by omega)).mono ?_
        rintro e w13 ⟨rfl, hR13⟩
        have HR13 := Lib.hid hR13
        clear hR13
        go_wp2_with fail
        go_ret
        exact ⟨rfl, HFB.out _ HR13.out⟩
     ·have tk : decide ((k : Int) < l.length) = true := decide_eq_true (by omega)
      have t60 : decide ((k : Int) < 60) = false := decide_eq_false (by omega)
      go_wp2_with fail
      refine (t_rest fam getAll hn8 hGk.out).mono ?_
      rintro e w7 ⟨rfl, hR7⟩
      obtain ⟨R, p, ⟨y, hA⟩, I, hF⟩ := id hR7
      have c0 := hA.T.c0
      have c3 := hA.T.c3
      have hF1 := hF 1 (by omega) (by omega)
      have ht : R.take (p 1) = R := by rw [hF1.2, List.take_length]
      have hN : R.length = 3 * n := by rw [cntR_sum I.wf.mem, hF1.1, (hF 2 (by omega) (by omega)).1, (hF 3 (by omega) (by omega)).1]; omega
      have HCl := Lib.hid (wld_client hA.W (id := 1) (by omega) (by omega))
      rw [cliV_of (by omega)] at HCl
      have hC := hA.C 1 (by omega) (by omega)
      rw [ht] at hC
      have HRo := Lib.hid (cli_rows hC (fun r hr => (I.wf.mem r hr).2) (by omega))
      have hR24 : R.length ≤ 24 := by omega
      have HF := Lib.hid I.wf
      have HR7 := Lib.hid hR7
      have hne := fun u => nil_cli u ⟨(g.ca 1).1, (g.ca 1).2, none⟩
      have HN := Lib.hid hN
      clear hA I hF hF1 ht hC hR7 hGk HRI HL HT1 HB1 hN
      unfold adr at c0 HCl
      go_wp2_with fail
      refine (HCl.out).mono ?_
      rintro e w' ⟨rfl, rfl⟩
      rename World => w7
      go_wp2_with fail
      refine (HRo.out).mono ?_
      rintro e w8 ⟨v, rfl, hM⟩
      obtain ⟨va, vc, rfl⟩ := hM.val
      obtain ⟨ks, m1, m2, m3, m4, m5⟩ := hM
      have hrs := RxO.recs vrF_len m1
      have HR8 := Lib.hid (HR7.out.below m4)
      have HRS := Lib.hid (And.intro hrs m2)
      have HL9 := Lib.hid (LastAt.new w8 45)
      have HB9 := Lib.hid ((Below.refl w8.heap.size w8).alloc (Nat.le_refl _) (.cells #[.int .i64 0, .int .i64 0, .int .i64 0, .int .i64 0] 45))
      clear m1 m2 m3 m4 m5 hrs HR7 HRo HCl
      go_wp2_with fail
      generalize w8.alloc _ = w9 at *
      generalize hA8 : w8.heap.size = A at *
      go_loopw [13] (fun i wx => ∃ k : Nat, k ≤ R.length ∧ i = .int .i64 k ∧ Hid (Below A w8 wx ∧ LastAt wx A (fun d => cntR (R.take k) d))) (fun i _ => R.length - (intOf i).toNat)
      case atStart => exact ⟨0, by omega, rfl, Lib.hid ⟨HB9.out, by rw [List.take_zero]; exact HL9.out⟩⟩
      case round =>
       obtain ⟨k, hk, rfl, hrel⟩ := hrel
       rename World => wx
       by_cases hlt : k < R.length
       ·have tk : decide ((k : Int) < R.length) = true := decide_eq_true (by omega)
        obtain ⟨hbx, hLx⟩ := hrel.out
        have hks : k < ks.length := by rw [HRS.out.2.1]; exact hlt
        obtain ⟨b, off, rfl, hblt, hc⟩ := HRS.out.1.at k hks
        obtain ⟨e1, e2, e3, e4⟩ := HRS.out.2.2 k hks hlt
        obtain ⟨f1, f2, f3, f4⟩ := cntR_next HF.out k hlt
        have hblt : b < A := by rw [← hA8]; exact hblt
        have d1 := (hbx.cell (p := ⟨b, off + k * 5 + 1, none⟩) hblt).trans (hc 1 _ rfl)
        have d2 := (hbx.cell (p := ⟨b, off + k * 5 + 2, none⟩) hblt).trans (hc 2 _ rfl)
        have d3 := (hbx.cell (p := ⟨b, off + k * 5 + 3, none⟩) hblt).trans (hc 3 _ rfl)
        obtain ⟨va, vn, vm, hv⟩ := e4.val
        rw [e2] at d1
        rw [e3, f3] at d2
        rw [hv] at d3
        clear hc e1 e2 e3 e4 hv hbx
        have hs100 : cntR (R.take k) R[k].1 ≤ k := by
         have := cntR_le (R.take k) R[k].1
         rw [List.length_take] at this
         omega
        generalize R[k].1 = c at *
        generalize hs : cntR (R.take k) c = s at *
        have hb10 := (Below.refl wx.heap.size wx).alloc (Nat.le_refl _) (.cells #[.int .i64 (c : Int), .int .i64 ((s : Int) + 1), .slice (some va) vn vm] 48)
        have HB10 := Lib.hid hb10
        have hX0 : (wx.alloc (.cells #[.int .i64 (c : Int), .int .i64 ((s : Int) + 1), .slice (some va) vn vm] 48)).cell? ⟨wx.heap.size, 0, none⟩ = some (.int .i64 (c : Int)) := World.cell?_alloc_new _ _ _ _
        have hX1 : (wx.alloc (.cells #[.int .i64 (c : Int), .int .i64 ((s : Int) + 1), .slice (some va) vn vm] 48)).cell? ⟨wx.heap.size, 1, none⟩ = some (.int .i64 ((s : Int) + 1)) := World.cell?_alloc_new _ _ _ _
        have hXl : wx.heap.size < (wx.alloc (.cells #[.int .i64 (c : Int), .int .i64 ((s : Int) + 1), .slice (some va) vn vm] 48)).heap.size := by simp
        have hL10 := hLx.stay HB10.out
        have HLX := Lib.hid hLx
        clear hLx hb10
        go_upto_region 28 with fail
        generalize wx.alloc _ = w10 at *
        have hAc := hL10.c c f1 f2
        try dsimp only at hAc
        rw [hs] at hAc
        have hAl := hL10.lt
        have HL10 := Lib.hid hL10
        clear hL10 d1 d2 d3
        have hcl : ((c : Int)) < 4 := by omega
        have hcn : Int.toNat (c : Int) = c := Int.toNat_natCast c
        go_cut [94] (fun x wy => x = .bool false ∧ Below w10.heap.size w10 wy)
        case first =>
         refine wp_region_sw (by rfl) (by kernel_rfl) (fun k => none) (fun _ _ hk => by cases hk) (fun vals => ?_)
         ((with_reducible refine sw_pure ?_ (fun K hK => ?_)); (· rfl); go_simp; with_reducible refine hK _ ?_; clear hK K)
         refine sw_at (.int .i64 ((s : Int) + 1)) rfl rfl (fun wz hz' hH => ?_) (fun K hK => ?_)
         ·have g := (hz'.cell (p := ⟨wx.heap.size, 1, none⟩) hXl).trans hX1
          go_simp
         go_simp; refine hK _ ?_; clear hK K
         ((with_reducible refine sw_pure ?_ (fun K hK => ?_)); (· rfl); go_simp; with_reducible refine hK _ ?_; clear hK K)
         refine sw_at (.int .i64 (c : Int)) rfl rfl (fun wz hz' hH => ?_) (fun K hK => ?_)
         ·have g := (hz'.cell (p := ⟨wx.heap.size, 0, none⟩) hXl).trans hX0
          go_simp
         go_simp; refine hK _ ?_; clear hK K
         refine sw_at (.pointer (some ⟨A, c, none⟩)) rfl rfl (fun wz hz' hH => ?_) (fun K hK => ?_)
         ·go_simp
         go_simp; refine hK _ ?_; clear hK K
         refine sw_at (.int .i64 (s : Int)) rfl rfl (fun wz hz' hH => ?_) (fun K hK => ?_)
         ·have g := (hz'.cell (p := ⟨A, c, none⟩) hAl).trans hAc
          go_simp
         go_simp; refine hK _ ?_; clear hK K
         have hws : IntKind.i64.wrap ((s : Int) + 1) = (s : Int) + 1 := i64_wrap (by omega) (by omega)
         ((with_reducible refine sw_pure ?_ (fun K hK => ?_)); (· rfl); go_simp; with_reducible refine hK _ ?_; clear hK K)
         ((with_reducible refine sw_pure ?_ (fun K hK => ?_)); (· rfl); go_simp; with_reducible refine hK _ ?_; clear hK K)
         refine sw_done (fun wz hz hH => ?_)
         go_wp2_with fail
         go_meet
         exact ⟨rfl, hz⟩
        case rest =>
         obtain ⟨rfl, hz⟩ := hcut
         rename World => w11
         have hXl2 : wx.heap.size < w11.heap.size := Nat.lt_of_lt_of_le hXl hz.size
         have hX0' := (hz.cell (p := ⟨wx.heap.size, 0, none⟩) hXl).trans hX0
         have hAc' := (hz.cell (p := ⟨A, c, none⟩) hAl).trans hAc
         have hL11 := HL10.out.stay hz
         have hfr := hL11.fr c
         have hnext : Hid (Below A w8 (w11.setCell ⟨A, c, none⟩ (.int .i64 ((s : Int) + 1))) ∧ LastAt (w11.setCell ⟨A, c, none⟩ (.int .i64 ((s : Int) + 1))) A (fun d => cntR (R.take (k + 1)) d)) := Lib.hid (by
          refine ⟨Below.setCell ((hrel.out.1.trans (HB10.out.mono (Nat.le_of_lt HLX.out.lt))).trans (hz.mono (Nat.le_of_lt hAl))) (Nat.le_refl _) _, ?_⟩
          have h1 := hL11.set f1 f2
          rw [hs] at h1
          rw [show (fun d => cntR (R.take (k + 1)) d) = (fun e => if e = c then cntR (R.take k) e + 1 else cntR (R.take k) e) from funext f4]
          exact h1)
         have hws : IntKind.i64.wrap ((s : Int) + 1) = (s : Int) + 1 := i64_wrap (by omega) (by omega)
         clear hX0 hX1 hAc hL11 HL10 hz hXl hAl f4
         go_wp2_with fail
         go_roundw
         case rel => exact ⟨k + 1, by omega, by go_num, hnext⟩
         case measure => simp [intOf]; omega
       ·obtain rfl : k = R.length := by omega
        have tk2 : decide ((R.length : Int) < (R.length : Int)) = false := decide_eq_false (by omega)
        have hRx : Rested wx B n g := HR8.out.below (by rw [hA8]; exact hrel.out.1)
        have HRx := Lib.hid hRx
        have HAg := Lib.hid (t_agrees foldAll hn8 hn1 hRx (c := 1) (by omega) (by omega))
        have hc3 : wx.cell? ⟨g.t.1, g.t.2 + 3, none⟩ = some (.bool true) := by
         obtain ⟨R', p', ⟨y', hA'⟩, _, _⟩ := hRx
         exact hA'.T.c3
        clear hRx hrel HL9 HB9 HRS HF HR8
        have hlen := HN.out
        have tN : decide ((R.length : Int) = 3 * (n : Int)) = true := decide_eq_true (by omega)
        have tN2 : ((R.length : Int) == 3 * (n : Int)) = true := by simp; omega
        have hw3 : IntKind.i64.wrap (3 * (n : Int)) = 3 * (n : Int) := i64_wrap (by omega) (by omega)
        have hw4 : IntKind.i64.wrap ((n : Int) - 1) = (n : Int) - 1 := i64_wrap (by omega) (by omega)
        clear hlen
        go_wp2_with fail
        refine (HAg.out).mono ?_
        rintro e w12 ⟨rfl, hR12⟩
        have HR12 := Lib.hid hR12
        clear hR12
        go_wp2_with fail
        refine (t_agrees foldAll hn8 hn1 HR12.out (c := 3) (by omega) (by omega)).mono ?_
        rintro e w13 ⟨rfl, hR13⟩
        have HR13 := Lib.hid hR13
        clear hR13
        go_wp2_with fail
        go_ret
        exact ⟨rfl, HFB.out _ HR13.out⟩
namespace topOrderF
theorem own : ownKnob Tryz.prog.godebug = none := by kernel_rfl
theorem laidOut : laidOutB Tryz.prog = true := by kernel_rfl
theorem tabs {W : World} (h : laidMetH Tryz.prog Rows.topOrderRow.laid W) : Tabs Tryz.prog W.heap.size W := by
 rw [MakeChecks.laidMetH_plain _ _ _ (by kernel_rfl)] at h
 refine ⟨W, ⟨?_, ?_⟩, Nat.le_refl _, fun _ _ => rfl⟩
 ·have h1 := Lib.laidMet.reads h (.tail _ (.head _))
  exact Pinned.utf8First_eq ▸ h1
 ·exact Lib.laidMet.reads h (.head _)
theorem lifted (os : Os) (started : os.Started) (H : Type) (enc : TypeId × Value → H) :
  ReturnsInHanded {} Tryz.checked os 3 .any (fun w args => (Rows.topOrderSpec.pre enc Tryz.prog Tryz.f3 Rows.topOrderRow.domain false w args ∧ laidMetH Tryz.prog Rows.topOrderRow.laid w) ∧ sizedMet enc Tryz.prog Tryz.f3 (OpenSpec.ofChange Rows.topOrderSpec) false w args) (Rows.topOrderSpec.post enc Tryz.prog Tryz.f3 false true false false) := by
 refine returnsInHanded_of_change_and (C := Tryz.checked) (X := fun w _ => laidMetH Tryz.prog Rows.topOrderRow.laid w) (fun _ _ _ hh h => h.of_heap hh) own started (by kernel_rfl) Tryz.func3
  (ChangeSpec.witness_shaped (enc := enc) (C := Tryz.checked) (os := os) (X := fun w _ => laidMetH Tryz.prog Rows.topOrderRow.laid w) false (World.laidAll Tryz.prog os Rows.topOrderRow.laid) #[.int .i64 0, .slice none 0 0] 8 (World.laidAll_os _ _ _)
   (World.shaped_of_ZipB (by kernel_rfl) (by kernel_rfl)) (by kernel_rfl) (by kernel_rfl) (by kernel_rfl)
   (by rw [MakeChecks.laidMetH_plain _ _ _ (by kernel_rfl)]; exact laidMet_laidAll _ (by kernel_rfl) (by kernel_rfl))) ?_
 intro W base args ds gs before hval0 hW hcnd _ hL _
 have hT : Tabs Tryz.prog W.heap.size W := tabs hL
 have hval : ∀ (j : Nat) t v, Tryz.f3.params[j]? = some t → args[j]? = some v → Value.okWide Tryz.prog W .any base t v := hval0
 have hW' := hW
 obtain ⟨p, q, hA0, hV, rfl, hfz, hnd⟩ := hW
 have hA : DataW.TrodAll enc Tryz.prog W 0 (fun _ => true) true Tryz.f3.params.toList args.toList ds p := hA0
 rw [Tryz.params3] at hA hval
 obtain ⟨v0, vs0, d0, ds0, p0, q0, hargs, rfl, rfl, h0, r0⟩ := trodAll_cons hA
 obtain ⟨v1, vs1, d1, ds1, p1, q1, rfl, rfl, rfl, h1, r1⟩ := trodAll_cons r0
 obtain ⟨rfl, rfl, rfl⟩ := trodAll_nil r1
 obtain rfl : args = #[v0, v1] := by cases args; simp_all
 obtain ⟨rfl, rfl⟩ := trodVars_none hV
 have k0 := h0
 have lt0 : ∀ x ∈ p0, x.block < W.heap.size := by obtain ⟨m, hm⟩ := k0; exact DataW.trod_lt m _ _ _ hm
 obtain ⟨a0, rfl, hd0, hp0, w0⟩ := open_int Tryz.underlying3 (hval 0 3 v0 rfl rfl) h0
 have k1 := h1
 have lt1 : ∀ x ∈ p1, x.block < W.heap.size := by obtain ⟨m, hm⟩ := k1; exact DataW.trod_lt m _ _ _ hm
 obtain ⟨l, hR, hwf⟩ := open_intsR Tryz.underlying22 Tryz.underlying3 (by kernel_rfl) (hval 1 22 v1 rfl rfl) h1
 clear hA0 hval0
 refine (topOrder_walk a0 v1 l W hR hT).mono fun e W' ⟨he, bel⟩ => ?_
 subst he
 exact ⟨_, rfl, _, _, _, [], _, [], hW', trodAll_mk1 (shut_bool Tryz.underlying4 _), (trodAll_cons_mk (Below.trod laidOut (by kernel_rfl) (of_decide_eq_true (by kernel_rfl)) k0 bel lt0) (trodAll_cons_mk (Below.trod laidOut (by kernel_rfl) (of_decide_eq_true (by kernel_rfl)) k1 bel lt1) trodAll_mk0)), rfl, bel.frame _, fun h => by cases h⟩
end topOrderF
end Go.Proofs.YtpchmdddkpocgaaGreatDoor
