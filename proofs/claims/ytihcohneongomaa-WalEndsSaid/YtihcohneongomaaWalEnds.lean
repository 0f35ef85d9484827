/-
  The limits of records and snapshots: any numbers. No condition.
-/
import Derived.Test.YtihcohneongomaaWalB
namespace Go.Proofs.Ytihcohneongomaa
open Go.ChangeShapes Go.WideShapes Go.ChangeAt Go.RowKit

/-- 'make([]byte, n)'. -/
theorem make_bytes (w : World) (n : Nat) (hn : n ≤ 1000000000) : ∃ w', (Instr.makeSlice 62 (.int .i64 (n : Int)) (.int .i64 (n : Int))).run Try.prog w = .ok (.slice (some ⟨w.heap.size, 0, none⟩) n n) w' ∧
    OwnB w' w.heap.size 5 (.slice (some ⟨w.heap.size, 0, none⟩) n n) (List.replicate n 0) ∧ Below w.heap.size w w' := by
  obtain ⟨i, hi, hz0, hz1, hz2⟩ := info_parts info_u8
  obtain ⟨w', h1, h2, h3⟩ := run_make_full (P := Try.prog) w w.heap.size 62 5 i _ 1 Try.underlying62 hi hz0 hz1 .i64 .i64 n (by rw [hz2]; omega) (by unfold maxLen; omega) (Nat.le_refl _)
  refine ⟨w', h1, ?_, below_of_grown h3⟩
  unfold OwnB
  rw [List.length_replicate, List.map_replicate]
  rw [Nat.mul_one, show (Value.int .u8 0).cells = #[.int .u8 0] from rfl, toList_madeCells_one] at h2
  exact h2

def numIn (n least : Int) : Prop := least ≤ n ∧ n ≤ 1099511627776
instance (n least : Int) : Decidable (numIn n least) := inferInstanceAs (Decidable (_ ∧ _))

theorem ends_num (n least : Int) (w : World) : Calls Try.prog 40 #[.int .i64 n, .int .i64 least] w fun e w' => e = .returned (.bool (decide (numIn n least))) ∧ w' = w := by
  by_cases m0 : least ≤ n
  · have t0 : decide (least ≤ n) = true := decide_eq_true m0
    by_cases m1 : n ≤ 1099511627776
    · have t1 : decide (n ≤ 1099511627776) = true := decide_eq_true m1
      have HT := Lib.hid (show decide (numIn n least) = true from decide_eq_true ⟨m0, m1⟩)
      go_enter Try.func40, Try.ntmps40
      go_wp2_with fail
      go_ret
      exact ⟨by rw [HT.out]; rfl, rfl⟩
    · have t1 : decide (n ≤ 1099511627776) = false := decide_eq_false m1
      have HT := Lib.hid (show decide (numIn n least) = false from decide_eq_false fun h => m1 h.2)
      go_enter Try.func40, Try.ntmps40
      go_wp2_with fail
      go_ret
      exact ⟨by rw [HT.out]; rfl, rfl⟩
  · have t0 : decide (least ≤ n) = false := decide_eq_false m0
    have HT := Lib.hid (show decide (numIn n least) = false from decide_eq_false fun h => m0 h.1)
    go_enter Try.func40, Try.ntmps40
    go_wp2_with fail
    go_ret
    exact ⟨by rw [HT.out]; rfl, rfl⟩

set_option maxRecDepth 100000 in
set_option maxHeartbeats 8000000 in
theorem walEnds_walk (index term vote size : Int) (w : World) (wi : (Lit.int .i64 index).wf = true) (wt : (Lit.int .i64 term).wf = true) (wv : (Lit.int .i64 vote).wf = true) (ws : (Lit.int .i64 size).wf = true) :
    Calls Try.prog 9 #[.int .i64 index, .int .i64 term, .int .i64 vote, .int .i64 size] w fun e w' => e = .returned (.bool true) ∧ Below w.heap.size w w' := by
  have ws := wf_i64 ws
  go_enter Try.func9, Try.ntmps9
  go_wp2_with fail
  refine (wal_begun _).mono ?_
  rintro e w1 ⟨rfl, hb1⟩
  by_cases m0 : size < 0
  · have t0 : decide (size < 0) = true := decide_eq_true m0
    go_wp2_with fail
    go_ret
    exact ⟨rfl, hb1⟩
  · have t0 : decide (size < 0) = false := decide_eq_false m0
    by_cases m1 : 2600 < size
    · have t1 : decide (2600 < size) = true := decide_eq_true m1
      go_wp2_with fail
      go_ret
      exact ⟨rfl, hb1⟩
    · have t1 : decide (2600 < size) = false := decide_eq_false m1
      obtain ⟨N, rfl⟩ := Int.eq_ofNat_of_zero_le (show 0 ≤ size by omega)
      obtain ⟨w2, hmk, hO, hb2⟩ := make_bytes w1 N (by omega)
      have hconv := conv_str hO.bytes
      have hds : (⟨(List.replicate N (0 : UInt8)).toArray⟩ : ByteArray).size = N := by rw [← size_data]; simp
      generalize (⟨(List.replicate N (0 : UInt8)).toArray⟩ : ByteArray) = D at *
      have hbw := hb1.trans (hb2.mono hb1.size)
      clear hO hb1 hb2
      have hR0 := recS_box w2 ⟨false, 0, 0, ⟨index, term, 2, D⟩⟩ 66
      have hH0 := recS_box (w2.alloc (.cells #[.bool false, .int .i64 0, .int .i64 0, .int .i64 index, .int .i64 term, .int .i64 2, .string D] 66)) ⟨true, term, vote, ⟨0, 0, 0, ⟨#[]⟩⟩⟩ 66
      have hS2 := snapS_box ((w2.alloc (.cells #[.bool false, .int .i64 0, .int .i64 0, .int .i64 index, .int .i64 term, .int .i64 2, .string D] 66)).alloc (.cells #[.bool true, .int .i64 term, .int .i64 vote, .int .i64 0, .int .i64 0, .int .i64 0, .string ⟨#[]⟩] 66)) ⟨index, term, ⟨#[]⟩, ⟨#[]⟩⟩ 23
      have hR2 := (hR0.below ((Below.refl _ _).alloc (Nat.le_refl _) (.cells #[.bool true, .int .i64 term, .int .i64 vote, .int .i64 0, .int .i64 0, .int .i64 0, .string ⟨#[]⟩] 66))).below ((Below.refl _ _).alloc (Nat.le_refl _) (.cells #[.int .i64 index, .int .i64 term, .string ⟨#[]⟩, .string ⟨#[]⟩] 23))
      have hH2 := hH0.below ((Below.refl _ _).alloc (Nat.le_refl _) (.cells #[.int .i64 index, .int .i64 term, .string ⟨#[]⟩, .string ⟨#[]⟩] 23))
      have hb3 := ((hbw.alloc hbw.size (.cells #[.bool false, .int .i64 0, .int .i64 0, .int .i64 index, .int .i64 term, .int .i64 2, .string D] 66)).alloc (by have := hbw.size; simp; omega) (.cells #[.bool true, .int .i64 term, .int .i64 vote, .int .i64 0, .int .i64 0, .int .i64 0, .string ⟨#[]⟩] 66)).alloc (by have := hbw.size; simp; omega) (.cells #[.int .i64 index, .int .i64 term, .string ⟨#[]⟩, .string ⟨#[]⟩] 23)
      clear hR0 hH0 hbw
      rw [show (w2.alloc (.cells #[.bool false, .int .i64 0, .int .i64 0, .int .i64 index, .int .i64 term, .int .i64 2, .string D] 66)).heap.size = w2.heap.size + 1 from by simp] at hH2
      rw [show ((w2.alloc (.cells #[.bool false, .int .i64 0, .int .i64 0, .int .i64 index, .int .i64 term, .int .i64 2, .string D] 66)).alloc (.cells #[.bool true, .int .i64 term, .int .i64 vote, .int .i64 0, .int .i64 0, .int .i64 0, .string ⟨#[]⟩] 66)).heap.size = w2.heap.size + 1 + 1 from by simp] at hS2
      go_upto_region 10 with fail
      generalize hWW : ((w2.alloc _).alloc _).alloc _ = w3 at *
      generalize hXX : w2.heap.size = X at *
      clear hWW hXX hmk hconv t0
      have hRm := mayR_en (r := ⟨false, 0, 0, ⟨index, term, 2, D⟩⟩) rfl
      have hHm := mayR_hd (r := ⟨true, term, vote, ⟨0, 0, 0, ⟨#[]⟩⟩⟩) rfl
      have hSm := mayS_iff (s := ⟨index, term, ⟨#[]⟩, ⟨#[]⟩⟩)
      have HRc := Lib.hid (fun w => wal_may ⟨false, 0, 0, ⟨index, term, 2, D⟩⟩ w)
      have HHc := Lib.hid (fun w => wal_may ⟨true, term, vote, ⟨0, 0, 0, ⟨#[]⟩⟩⟩ w)
      have HSc := Lib.hid (fun w => wal_putSnap ⟨index, term, ⟨#[]⟩, ⟨#[]⟩⟩ w)
      have hE1 : mayS ⟨index, term, ⟨#[]⟩, ⟨#[]⟩⟩ = true → 5 ≤ (putS ⟨index, term, ⟨#[]⟩, ⟨#[]⟩⟩).length := fun h => by
        have hl := headS_len h
        unfold putS
        rw [if_pos h, List.length_append, sealP_len (by omega) (by omega) (by omega)]
        have := (putN_len ((headS ⟨index, term, ⟨#[]⟩, ⟨#[]⟩⟩).length : Nat)).1
        omega
      have hE0 : ¬ mayS ⟨index, term, ⟨#[]⟩, ⟨#[]⟩⟩ = true → (putS ⟨index, term, ⟨#[]⟩, ⟨#[]⟩⟩).length = 0 := fun h => by
        unfold putS
        rw [if_neg h]
        rfl
      generalize mayR ⟨false, 0, 0, ⟨index, term, 2, D⟩⟩ = b1 at *
      generalize mayR ⟨true, term, vote, ⟨0, 0, 0, ⟨#[]⟩⟩⟩ = b2 at *
      generalize mayS ⟨index, term, ⟨#[]⟩, ⟨#[]⟩⟩ = b3 at *
      generalize putS ⟨index, term, ⟨#[]⟩, ⟨#[]⟩⟩ = E at *
      dsimp only at hRm hHm hSm
      rw [hds] at hRm
      have hz : (⟨#[]⟩ : ByteArray).size = 0 := rfl
      rw [hz] at hHm hSm
      have h1 : b1 = true ↔ numIn index 1 ∧ numIn term 1 ∧ (N : Int) ≤ 2500 := by unfold numIn; rw [hRm]; omega
      have h2 : b2 = true ↔ numIn term 0 ∧ 0 ≤ vote ∧ vote ≤ 7 := by unfold numIn; rw [hHm]; omega
      have h3 : (b3 = true ↔ numIn index 0 ∧ numIn term 0) := by unfold numIn; rw [hSm]; omega
      have e3 : decide (0 < E.length) = b3 := by
        cases b3
        · exact decide_eq_false (by have := hE0 (by decide); omega)
        · exact decide_eq_true (by have := hE1 rfl; omega)
      have H1 := Lib.hid h1
      have H2 := Lib.hid h2
      have H3 := Lib.hid h3
      have E3 := Lib.hid e3
      clear hRm hHm hSm hE0 hE1 h1 h2 h3 e3 hz hds m0 m1 t1
      have HX := Lib.hid (And.intro hH2 hS2)
      have c0 := hR2.c0
      have c1 := hR2.c1
      have c2 := hR2.c2
      have c3 := hR2.c3
      have c4 := hR2.c4
      have c5 := hR2.c5
      have c6 := hR2.c6
      dsimp only at c0 c1 c2 c3 c4 c5 c6
      go_wp2_with fail
      refine (HRc.out _).mono ?_
      rintro e w4 ⟨rfl, hb4⟩
      have hH4 := hH2.below hb4
      have hS4 := hS2.below hb4
      replace hb4 := hb3.trans (hb4.mono hb3.size)
      clear c0 c1 c2 c3 c4 c5 c6 hR2 hH2 hS2 HX hb3 HRc
      have P1 : (decide (numIn index 1) = false ∧ b1 = false) ∨ (decide (numIn index 1) = true ∧ decide (numIn term 1) = false ∧ b1 = false) ∨ (decide (numIn index 1) = true ∧ decide (numIn term 1) = true ∧ decide ((N : Int) ≤ 2500) = true ∧ b1 = true) ∨ (decide (numIn index 1) = true ∧ decide (numIn term 1) = true ∧ decide ((N : Int) ≤ 2500) = false ∧ b1 = false) := by
        have := H1.out
        by_cases q1 : numIn index 1 <;> by_cases q2 : numIn term 1 <;> by_cases q3 : (N : Int) ≤ 2500 <;> cases b1 <;> simp_all
      have P2 : (decide (numIn term 0) = false ∧ b2 = false) ∨ (decide (numIn term 0) = true ∧ decide (0 ≤ vote) = false ∧ b2 = false) ∨ (decide (numIn term 0) = true ∧ decide (0 ≤ vote) = true ∧ decide (vote ≤ 7) = false ∧ b2 = false) ∨ (decide (numIn term 0) = true ∧ decide (0 ≤ vote) = true ∧ decide (vote ≤ 7) = true ∧ b2 = true) := by
        have := H2.out
        by_cases q1 : numIn term 0 <;> by_cases q2 : 0 ≤ vote <;> by_cases q3 : vote ≤ 7 <;> cases b2 <;> simp_all
      have P3 : (decide (numIn index 0) = false ∧ b3 = false) ∨ (decide (numIn index 0) = true ∧ decide (numIn term 0) = false ∧ b3 = false) ∨ (decide (numIn index 0) = true ∧ decide (numIn term 0) = true ∧ b3 = true) := by
        have := H3.out
        by_cases q1 : numIn index 0 <;> by_cases q2 : numIn term 0 <;> cases b3 <;> simp_all
      have X1 : numIn term 1 → numIn term 0 := fun h => ⟨by have := h.1; omega, h.2⟩
      have X2 : numIn index 1 → numIn index 0 := fun h => ⟨by have := h.1; omega, h.2⟩
      have HP2 := Lib.hid P2
      have HP3 := Lib.hid P3
      have HX1 := Lib.hid X1
      have HX2 := Lib.hid X2
      clear P2 P3 H1 H2 H3 X1 X2
      have c0 := hH4.c0
      have c1 := hH4.c1
      have c2 := hH4.c2
      have c3 := hH4.c3
      have c4 := hH4.c4
      have c5 := hH4.c5
      have c6 := hH4.c6
      dsimp only at c0 c1 c2 c3 c4 c5 c6
      go_wp2_with fail
      refine (ends_num index 1 _).mono ?_
      rintro e wq ⟨rfl, rfl⟩
      rcases P1 with ⟨q1, rfl⟩ | ⟨q1, q2, rfl⟩ | ⟨q1, q2, q3, rfl⟩ | ⟨q1, q2, q3, rfl⟩
      all_goals
        go_wp2_with (go_at_call 40; refine (ends_num _ _ _).mono ?_; rintro e wq ⟨rfl, rfl⟩)
        refine (HHc.out _).mono ?_
        rintro e w5 ⟨rfl, hb5⟩
        have hS5 := hS4.below hb5
        have hbw5 := hb4.trans (hb5.mono hb4.size)
        clear c0 c1 c2 c3 c4 c5 c6 hb5
        have c0 := hS5.c0
        have c1 := hS5.c1
        have c2 := hS5.c2
        have c3 := hS5.c3
        dsimp only at c0 c1 c2 c3
        rcases HP2.out with ⟨p1, rfl⟩ | ⟨p1, p2, rfl⟩ | ⟨p1, p2, p3, rfl⟩ | ⟨p1, p2, p3, rfl⟩
        all_goals
          first
          | (exfalso; have z1 := HX1.out (of_decide_eq_true q2); exact (of_decide_eq_false p1) z1)
          | skip
        all_goals
          go_wp2_with (go_at_call 40; refine (ends_num _ _ _).mono ?_; rintro e wq ⟨rfl, rfl⟩)
          refine (HSc.out _).mono ?_
          rintro e w6 ⟨v6, rfl, ho6, hb6⟩
          have hbw6 := hbw5.trans (hb6.mono hbw5.size)
          obtain ⟨a6, k6, rfl⟩ := ho6.len
          clear c0 c1 c2 c3 ho6 hb6
          have e3 := E3.out
          rcases HP3.out with ⟨r1, rfl⟩ | ⟨r1, r2, rfl⟩ | ⟨r1, r2, rfl⟩
          all_goals
            first
            | (exfalso; exact (of_decide_eq_false r2) (of_decide_eq_true p1))
            | (exfalso; exact (of_decide_eq_false p1) (of_decide_eq_true r2))
            | (exfalso; have z1 := HX2.out (of_decide_eq_true q1); exact (of_decide_eq_false r1) z1)
            | (go_wp2_with (go_at_call 40; refine (ends_num _ _ _).mono ?_; rintro e wq ⟨rfl, rfl⟩)
               go_ret
               exact ⟨by first | rfl | (rw [e3]; rfl), hbw6⟩)
/-! ### From the row to the walk -/
namespace walEndsF
set_option linter.unusedVariables false
theorem own : ownKnob Try.prog.godebug = none := by kernel_rfl
theorem laidOut : laidOutB Try.prog = true := by kernel_rfl
set_option maxRecDepth 100000 in
theorem lifted (os : Os) (started : os.Started) (H : Type) (enc : TypeId × Value → H) :
    ReturnsInHanded {} Try.checked os 9 .any (Rows.walEndsSpec.pre6 enc Try.prog Try.f9 Rows.walEndsRow.domain false) (Rows.walEndsSpec.post enc Try.prog Try.f9 false true false false) := by
  refine returnsInHanded_of_change (C := Try.checked) own started (by kernel_rfl) Try.func9
    (ChangeSpec.witness6 (enc := enc) (C := Try.checked) false ⟨#[], #[.int .i64 0, .int .i64 0, .int .i64 0, .int .i64 0], []⟩ 8 (by kernel_rfl) (by kernel_rfl) (by kernel_rfl) (by kernel_rfl)) ?_
  intro W base args ds gs before hval0 hW hcnd _
  have hval : ∀ (j : Nat) t v, Try.f9.params[j]? = some t → args[j]? = some v → Value.okWide Try.prog W .any base t v := hval0
  have hW' := hW
  obtain ⟨p, q, hA0, hV, rfl, hfz, hnd⟩ := hW
  have hA : DataW.TrodAll enc Try.prog W 0 (fun _ => true) true Try.f9.params.toList args.toList ds p := hA0
  rw [Try.params9] at hA hval
  obtain ⟨v0, vs0, d0, ds0, p0, q0, hargs, rfl, rfl, h0, r0⟩ := trodAll_cons hA
  obtain ⟨v1, vs1, d1, ds1, p1, q1, rfl, rfl, rfl, h1, r1⟩ := trodAll_cons r0
  obtain ⟨v2, vs2, d2, ds2, p2, q2, rfl, rfl, rfl, h2, r2⟩ := trodAll_cons r1
  obtain ⟨v3, vs3, d3, ds3, p3, q3, rfl, rfl, rfl, h3, r3⟩ := trodAll_cons r2
  obtain ⟨rfl, rfl, rfl⟩ := trodAll_nil r3
  obtain rfl : args = #[v0, v1, v2, v3] := by cases args; simp_all
  obtain ⟨rfl, rfl⟩ := trodVars_none hV
  have k0 := h0
  have lt0 : ∀ x ∈ p0, x.block < W.heap.size := by obtain ⟨m, hm⟩ := k0; exact DataW.trod_lt m _ _ _ hm
  obtain ⟨a0, rfl, hd0, hp0, w0⟩ := open_int Try.underlying2 (hval 0 2 v0 rfl rfl) h0
  have k1 := h1
  have lt1 : ∀ x ∈ p1, x.block < W.heap.size := by obtain ⟨m, hm⟩ := k1; exact DataW.trod_lt m _ _ _ hm
  obtain ⟨a1, rfl, hd1, hp1, w1⟩ := open_int Try.underlying2 (hval 1 2 v1 rfl rfl) h1
  have k2 := h2
  have lt2 : ∀ x ∈ p2, x.block < W.heap.size := by obtain ⟨m, hm⟩ := k2; exact DataW.trod_lt m _ _ _ hm
  obtain ⟨a2, rfl, hd2, hp2, w2⟩ := open_int Try.underlying3 (hval 2 3 v2 rfl rfl) h2
  have k3 := h3
  have lt3 : ∀ x ∈ p3, x.block < W.heap.size := by obtain ⟨m, hm⟩ := k3; exact DataW.trod_lt m _ _ _ hm
  obtain ⟨a3, rfl, hd3, hp3, w3⟩ := open_int Try.underlying3 (hval 3 3 v3 rfl rfl) h3
  clear hA0 hval0
  refine (walEnds_walk a0 a1 a2 a3 W w0 w1 w2 w3).mono fun e W' ⟨he, bel⟩ => ?_
  subst he
  exact ⟨_, rfl, _, _, _, [], _, [], hW', trodAll_mk1 (shut_bool Try.underlying4 _), (trodAll_cons_mk (Below.trod laidOut (by kernel_rfl) (of_decide_eq_true (by kernel_rfl)) k0 bel lt0) (trodAll_cons_mk (Below.trod laidOut (by kernel_rfl) (of_decide_eq_true (by kernel_rfl)) k1 bel lt1) (trodAll_cons_mk (Below.trod laidOut (by kernel_rfl) (of_decide_eq_true (by kernel_rfl)) k2 bel lt2) (trodAll_cons_mk (Below.trod laidOut (by kernel_rfl) (of_decide_eq_true (by kernel_rfl)) k3 bel lt3) trodAll_mk0)))), rfl, bel.frame _, fun h => by cases h⟩
theorem over : Rows.walEndsRow.holds Try.pinned (OpenSpec.ofChange Rows.walEndsSpec) :=
  OpenClaim.holds_of_wide 9 Try.f9 rfl rfl rfl rfl rfl rfl rfl ⟨rfl, rfl, rfl, rfl, rfl⟩ rfl rfl rfl rfl rfl (by kernel_rfl) Try.func9 (by kernel_rfl)
    (of_decide_eq_true (by kernel_rfl)) (by unfold Func.isWrapper; first | (rw [if_pos (by decide +kernel)]; kernel_rfl) | (rw [if_neg (by decide +kernel)]; exact ⟨rfl, rfl⟩))
    (fun os started H enc _ => lifted os started H enc)
end walEndsF
theorem walEnds_holds : Rows.WalEndsSaid := walEndsF.over
#print axioms walEnds_holds
end Go.Proofs.Ytihcohneongomaa
