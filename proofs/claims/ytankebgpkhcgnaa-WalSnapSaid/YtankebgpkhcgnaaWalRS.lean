/-
  No claim by itself: how the document writes a snapshot. No condition.
-/
import Derived.Test.YtankebgpkhcgnaaWalR2
import Derived.Test.YtankebgpkhcgnaaWalS
namespace Go.Proofs.Ytankebgpkhcgnaa
open Go.ChangeShapes Go.WideShapes Go.ChangeAt Go.RowKit

set_option maxRecDepth 100000 in
set_option maxHeartbeats 2000000 in
theorem ref_putSnap (s : Snp) (w : World) : Calls Try.prog 45 #[snpAgg s] w fun e w' => RetNew w (putS s) e w' := by
  have hb := (Below.refl w.heap.size w).alloc (Nat.le_refl _) (.cells #[.int .i64 s.i, .int .i64 s.t, .string s.c, .string s.d] 75)
  have c0 := World.cell?_alloc_new w #[.int .i64 s.i, .int .i64 s.t, .string s.c, .string s.d] 75 0
  have hS0 := snapS_box w s 75
  by_cases hm : mayS s = true
  case neg =>
    have hm : mayS s = false := by simpa using hm
    have HE : Hid (putS s = []) := Lib.hid (by unfold putS; rw [hm]; rfl)
    have HM := Lib.hid hm
    clear hm
    unfold snpAgg
    have d0 := hS0.c0
    have d1 := hS0.c1
    have d2 := hS0.c2
    have d3 := hS0.c3
    go_enter Try.func45, Try.ntmps45
    go_wp2_with fail
    refine (ref_maySnap s _).mono ?_
    rintro e w1 ⟨rfl, hb1⟩
    rw [HM.out]
    have hbw := hb.trans (hb1.mono hb.size)
    go_wp2_with fail
    go_ret
    exact ⟨_, rfl, by rw [HE.out]; exact OwnB.nil _ _ _, hbw⟩
  case pos =>
    have HE : Hid (putS s = sealP 3 (headS s) ++ partsP s.d.data.toList) := Lib.hid (by unfold putS; rw [if_pos hm])
    have hhl := headS_len hm
    obtain ⟨k0, k1, k2, k3, k4, k5⟩ := mayS_iff.1 hm
    have HM := Lib.hid hm
    clear hm c0
    obtain ⟨i, t, c, d⟩ := s
    unfold snpAgg
    have d0 := hS0.c0
    have d1 := hS0.c1
    have d2 := hS0.c2
    have d3 := hS0.c3
    dsimp only at *
    go_enter Try.func45, Try.ntmps45
    go_wp2_with fail
    refine (ref_maySnap ⟨i, t, c, d⟩ _).mono ?_
    rintro e w1 ⟨rfl, hb1⟩
    rw [HM.out]
    have hbw := hb.trans (hb1.mono hb.size)
    have hS1 := hS0.below hb1
    clear hb hb1 hS0 d0 d1 d2 d3
    have hN1 := Lib.hid hbw.size
    generalize hNN : w.heap.size = N at *
    have HNN := Lib.hid hNN
    clear hNN
    have hp1 := putN_len i
    have hp2 := putN_len t
    have hA : headS ⟨i, t, c, d⟩ = putN i ++ putN t ++ putT c.data.toList ++ putN (d.size : Nat) := rfl
    have hl0 : (putN i).length + (putN t).length + (putT c.data.toList).length + (putN (d.size : Nat)).length ≤ 90 := by rw [hA] at hhl; simp only [List.length_append] at hhl; omega
    rw [hA] at HE hhl
    rw [List.append_assoc, List.append_assoc] at HE
    clear hA
    have d0 := hS1.c0
    have d1 := hS1.c1
    have d2 := hS1.c2
    have d3 := hS1.c3
    dsimp only at d0 d1 d2 d3
    go_wp2_with fail
    refine (ref_put i _ (by omega) (by omega)).mono ?_
    rintro e w2 ⟨v2, rfl, ho2, hg2, -⟩
    have hb2 := below_of_grown hg2
    have hS2 := hS1.below hb2
    clear hg2 d0 d1 d2 d3
    have d1 := hS2.c1
    dsimp only at d1
    go_wp2_with fail
    refine (ref_put t _ (by omega) (by omega)).mono ?_
    rintro e w3 ⟨v3, rfl, ho3, hg3, -⟩
    have hb3 := below_of_grown hg3
    replace ho2 := ho2.below hb3
    replace hb3 := hb2.trans (hb3.mono hb2.size)
    clear hg3 hS2 d1
    go_wp2_with (at_builtin; refine wpList_append_bytes 30 w1.heap.size 5 Try.underlying30 info_u8 rfl _ _ rfl ho2 ho3.bytes rfl rfl (by omega) hb3.size ?_)
    intro v4 w4 ho4 hg4 hk4
    have hb4 := hb3.grown hg4 hb3.size (fun k hk => (ho2.lt k hk).1)
    have hS4 := hS1.below hb4
    clear hg4 hk4 ho2 ho3 hb3 hb2
    have d2 := hS4.c2
    dsimp only at d2
    go_wp2_with fail
    refine (ref_putText c _ (by omega)).mono ?_
    rintro e w5 ⟨v5, rfl, ho5, hg5, -⟩
    have hb5 := below_of_grown hg5
    replace ho4 := ho4.below hb5
    replace hb5 := hb4.trans (hb5.mono hb4.size)
    clear hg5 hS4 d2
    go_wp2_with (at_builtin; refine wpList_append_bytes 30 w1.heap.size 5 Try.underlying30 info_u8 rfl _ _ rfl ho4 ho5.bytes rfl rfl (by rw [List.length_append]; omega) hb5.size ?_)
    intro v6 w6 ho6 hg6 hk6
    have hb6 := hb5.grown hg6 hb5.size (fun k hk => (ho4.lt k hk).1)
    have hS6 := hS1.below hb6
    clear hg6 hk6 ho4 ho5 hb5 hb4
    have d3 := hS6.c3
    dsimp only at d3
    go_wp2_with fail
    refine (ref_put d.size _ (by omega) (by omega)).mono ?_
    rintro e w7 ⟨v7, rfl, ho7, hg7, -⟩
    have hb7 := below_of_grown hg7
    replace ho6 := ho6.below hb7
    replace hb7 := hb6.trans (hb7.mono hb6.size)
    clear hg7 hS6 d3
    go_wp2_with (at_builtin; refine wpList_append_bytes 30 w1.heap.size 5 Try.underlying30 info_u8 rfl _ _ rfl ho6 ho7.bytes rfl rfl (by rw [List.length_append, List.length_append]; omega) hb7.size ?_)
    intro v8 w8 ho8 hg8 hk8
    have hb8 := hb7.grown hg8 hb7.size (fun k hk => (ho6.lt k hk).1)
    clear hg8 hk8 ho6 ho7 hb7 hb6
    go_wp2_with fail
    refine (ref_seal 3 _ _ _ (by omega) (by omega) ho8.bytes).mono ?_
    rintro e w9 ⟨v9, rfl, ho9, hb9⟩
    replace hb9 := hb8.trans (hb9.mono hb8.size)
    replace ho9 := ho9.rebase hb8.size
    have hcl := sealP_le 3 (putN i ++ (putN t ++ (putT c.data.toList ++ putN (d.size : Nat))))
    generalize sealP 3 (putN i ++ (putN t ++ (putT c.data.toList ++ putN (d.size : Nat)))) = A at *
    clear ho8 hb8 hhl hl0 hp1 hp2
    have hdl : d.data.toList.length = d.size := size_data _
    go_wp2_with fail
    go_loopw [4, 5] (fun o r wr => ∃ (cur : List UInt8) (j : Nat), r = .int .i64 (j : Nat) ∧ OwnB wr w1.heap.size 5 o cur ∧ Hid (putS ⟨i, t, c, d⟩ = cur ++ partsP (d.data.toList.drop j)) ∧ cur.length + 16 * (d.size - j) ≤ 3300000 ∧ j ≤ 300000 ∧ Below w1.heap.size w1 wr) (fun _ r _ => d.size - (intOf r).toNat)
    case atStart => exact ⟨A, 0, rfl, ho9, (by rw [List.drop_zero]; exact HE), by omega, by omega, hb9⟩
    case round =>
      clear hb9 ho9 hcl
      obtain ⟨cur, j, rfl, hF, hE, hsz, hR, hbel⟩ := hrel
      rename World => wr
      have hS := hS1.below hbel
      have d3 := hS.c3
      dsimp only at d3
      clear hS
      by_cases hz : d.size ≤ j
      · have hE2 : Hid (putS ⟨i, t, c, d⟩ = cur) := Lib.hid (by
          rw [hE.out, List.drop_of_length_le (by omega), partsP_nil, List.append_nil])
        clear hE HE
        go_wp2_with fail
        go_ret
        exact ⟨_, rfl, by rw [hE2.out, HNN.out]; exact hF.rebase hN1.out, by rw [HNN.out]; exact hbw.trans (hbel.mono hN1.out)⟩
      · have hadd : wrap64 ((j : Int) + 3000) = (j : Int) + 3000 := by unfold wrap64; omega
        have hmin0 : ∀ x y : Nat, (if (x : Int) + 3000 < (y : Int) then (x : Int) + 3000 else (y : Int)) = ((min y (x + 3000) : Nat) : Int) := fun x y => by
          split <;> omega
        have hmin := hmin0 j d.size
        clear hmin0
        obtain ⟨m, hm⟩ : ∃ m, m = min d.size (j + 3000) := ⟨_, rfl⟩
        rw [← hm] at hmin
        have hm1 : m ≤ d.size := by omega
        have hm2 : j ≤ m := by omega
        have hm3 : m - j ≤ 3000 := by omega
        have HM2 := Lib.hid hm
        clear hm
        have hx0 : (d.extract j m).data.toList = (d.data.toList.drop j).take 3000 := by
          rw [extract_list, HM2.out]
          rcases Nat.le_total d.size (j + 3000) with h | h
          · rw [Nat.min_eq_left h, List.take_of_length_le (by rw [List.length_drop]; omega), List.take_of_length_le (by rw [List.length_drop]; omega)]
          · rw [Nat.min_eq_right h, Nat.add_sub_cancel_left]
        have hl0 : (d.extract j m).data.toList.length = m - j := by rw [hx0, List.length_take, List.length_drop, HM2.out]; omega
        have hs0 : (d.extract j m).size = m - j := by rw [← size_data]; exact hl0
        have hE3 : Hid (putS ⟨i, t, c, d⟩ = cur ++ sealP 4 (d.extract j m).data.toList ++ partsP (d.data.toList.drop (j + 3000))) := Lib.hid (by
          rw [hE.out, partsP_cons (by rw [List.length_drop]; omega), hx0, List.append_assoc, List.drop_drop])
        have hsl : (sealP 4 (d.extract j m).data.toList).length ≤ 15 + (m - j) := by
          have := (putN_len ((d.extract j m).data.toList.length : Nat)).2
          rw [sealP_len (by omega) (by omega) (by omega)]
          omega
        obtain ⟨cv, cw, hcv, hB, hBel⟩ := conv_bytes wr (d.extract j m) (by omega)
        clear hx0 hE
        have HL2 := Lib.hid hsl
        rw [extract_list d j m] at hE3 hsl
        have HL := Lib.hid hsl
        clear hsl hl0
        go_wp2_with fail
        refine (ref_seal 4 _ _ _ (by omega) (by omega) hB).mono ?_
        rintro e wx6 ⟨v6, rfl, ho6, hb6⟩
        have hbq := hBel.trans (hb6.mono hBel.size)
        have hF6 := hF.below hbq
        have hb7 := hbel.trans (hbq.mono hbel.size)
        clear hB hBel hb6 hbq hF hbel hcv
        go_wp2_with (at_builtin; refine wpList_append_bytes 30 w1.heap.size 5 Try.underlying30 info_u8 rfl _ _ rfl hF6 ho6.bytes rfl rfl (by have := HL2.out; have := HL.out; omega) hb7.size ?_)
        intro v7 wx7 ho7 hg7 hk7
        have hb8 : Below w1.heap.size w1 wx7 := hb7.grown hg7 hb7.size (fun k hk => (hF6.lt k hk).1)
        clear hg7 hk7 ho6 hF6 hb7
        go_wp2_with fail
        go_roundw
        case rel => exact ⟨_, j + 3000, by go_num, ho7, hE3, by have := HL.out; rw [List.length_append]; omega, by omega, hb8⟩
        case measure => simp [intOf]; omega
end Go.Proofs.Ytankebgpkhcgnaa
