/-
  Of three texts of one length the sum of their exclusive or is the exclusive or of their sums; of any three slices of bytes. No condition.
-/
import Derived.Test.YtbjopmbemgpmaaaCrc
import Derived.Test.YtbjopmbemgpmaaaOpen
import Derived.RegionTactic
import Derived.BigRegion
import Derived.ChangeAlike
import Derived.Deep.DeepCutAuto
import Derived.Deep.Cut
import Derived.WalkSmall
namespace Go.Proofs.Ytbjopmbemgpmaaa
open Go.ChangeShapes Go.WideShapes Go.ChangeAt Go.RowKit

theorem crcThree_step (l0 l1 l2 : List UInt8) (N k : Nat) (hlt : k < N) (hN0 : N ≤ l0.length) (hN1 : N ≤ l1.length) (hN2 : N ≤ l2.length) :
    ((xor3 (l0.take N) (l1.take N) (l2.take N)).take k ++ List.replicate (N - k) 0).set k (l0[k] ^^^ l1[k] ^^^ l2[k]) = (xor3 (l0.take N) (l1.take N) (l2.take N)).take (k + 1) ++ List.replicate (N - (k + 1)) 0 := by
  have hl : (xor3 (l0.take N) (l1.take N) (l2.take N)).length = N := by simp [xor3]; omega
  apply List.ext_getElem
  · simp [hl]; omega
  · intro i h1 h2
    rw [List.getElem_set]
    by_cases hi : k = i
    · subst hi
      rw [if_pos rfl, List.getElem_append_left (by simp [hl]; omega)]
      simp [xor3]
    · rw [if_neg hi]
      by_cases hik : i < k
      · rw [List.getElem_append_left (by simp [hl]; omega), List.getElem_append_left (by simp [hl]; omega)]
        simp
      · rw [List.getElem_append_right (by simp [hl]; omega), List.getElem_append_right (by simp [hl]; omega)]
        simp

theorem crcThree_walk (v0 : Value) (l0 : List UInt8) (v1 : Value) (l1 : List UInt8) (v2 : Value) (l2 : List UInt8) (w : World) (w0 : Bytes w v0 l0) (w1 : Bytes w v1 l1) (w2 : Bytes w v2 l2) :
    Calls Try.prog 7 #[v0, v1, v2] w fun e w' => e = .returned (.bool true) ∧ Below w.heap.size w w' := by
  obtain ⟨i0, hi, hz0, hz1, hz2⟩ := info_parts info_u8
  obtain ⟨N, hN⟩ : ∃ N, N = min (min l0.length 100) (min l1.length l2.length) := ⟨_, rfl⟩
  have HN := Lib.hid hN
  have hN0 : N ≤ l0.length := by omega
  have hN1 : N ≤ l1.length := by omega
  have hN2 : N ≤ l2.length := by omega
  have hN3 : N ≤ 100 := by omega
  clear hN
  go_enter Try.func7, Try.ntmps7
  go_wp2_with fail
  refine (crc_begun _).mono ?_
  rintro e wa ⟨rfl, hb⟩
  have w0 := w0.below hb rfl
  have w1 := w1.below hb rfl
  have w2 := w2.below hb rfl
  obtain ⟨a0, c0, rfl, hc0, hm0, h0⟩ := w0
  obtain ⟨a1, c1, rfl, hc1, hm1, h1⟩ := w1
  obtain ⟨a2, c2, rfl, hc2, hm2, h2⟩ := w2
  go_upto_region 4 with fail
  go_cut [8] (fun s wx => s = .int .i64 N ∧ wx = wa)
  case first =>
    go_wp2_with fail
    all_goals (go_meet; exact ⟨by have := HN.out; congr 1; omega, rfl⟩)
  case rest =>
    obtain ⟨rfl, rfl⟩ := hcut
    go_wp2_with (at_make; refine wpList_make_bytes 24 5 Try.underlying24 info_u8 rfl _ _ rfl N rfl rfl (by omega) ?_)
    intro wd hd0 hgd
    have hbd := below_of_grown hgd
    clear hgd
    go_wp2_with fail
    go_loopw [10] (fun i wr => ∃ k : Nat, k ≤ N ∧ i = .int .i64 k ∧ OwnB wr wc.heap.size 5 (.slice (some ⟨wc.heap.size, 0, none⟩) N N) ((xor3 (l0.take N) (l1.take N) (l2.take N)).take k ++ List.replicate (N - k) 0) ∧ Below wc.heap.size wc wr) (fun i _ => N - (intOf i).toNat)
    case atStart => exact ⟨0, Nat.zero_le _, rfl, by simpa using hd0, hbd⟩
    case round =>
      obtain ⟨k, hk, rfl, hown, hbel⟩ := hrel
      by_cases hlt : k < N
      · obtain ⟨b0, off0, rfl, hcell0⟩ := h0 (by intro h; simp [h] at hN0; omega)
        obtain ⟨b1, off1, rfl, hcell1⟩ := h1 (by intro h; simp [h] at hN1; omega)
        obtain ⟨b2, off2, rfl, hcell2⟩ := h2 (by intro h; simp [h] at hN2; omega)
        have e0 := hcell0 k (by omega)
        have e1 := hcell1 k (by omega)
        have e2 := hcell2 k (by omega)
        rw [← hbel.cell (World.block_lt_of_cell? _ _ e0)] at e0
        rw [← hbel.cell (World.block_lt_of_cell? _ _ e1)] at e1
        rw [← hbel.cell (World.block_lt_of_cell? _ _ e2)] at e2
        have eg : ∃ u, wr.cell? ⟨wc.heap.size, k, none⟩ = some u := ⟨_, hown.cellAt k (by simp [xor3]; omega)⟩
        obtain ⟨u, eg⟩ := eg
        have ef := hown.frozenAt k
        have x0 := (l0[k]'(by omega)).toNat_lt
        have x1 := (l1[k]'(by omega)).toNat_lt
        have x2 := (l2[k]'(by omega)).toNat_lt
        have HN' := Lib.hid (crcThree_step l0 l1 l2 N k hlt hN0 hN1 hN2)
        clear hcell0 hcell1 hcell2 h0 h1 h2
        generalize l0[k]'(by omega) = y0 at *
        generalize l1[k]'(by omega) = y1 at *
        generalize l2[k]'(by omega) = y2 at *
        have hown := Lib.hid hown
        generalize hS : wc.heap.size = S at *
        have hS := Lib.hid hS
        go_wp2_with fail
        go_region
        go_wp2
        go_roundw
        case rel =>
          have hst := OwnB.stored hown.out k (y0 ^^^ y1 ^^^ y2)
          rw [HN'.out] at hst
          have hv : byteV (y0 ^^^ y1 ^^^ y2) = .int .u8 (bits .xor .u8 (bits .xor .u8 (y0.toNat : Int) (y1.toNat : Int)) (y2.toNat : Int)) := by
            unfold byteV
            rw [u8_xor_nat _ _ x0 x1, u8_xor_nat _ _ (Nat.xor_lt_two_pow (n := 8) x0 x1) x2, UInt8.toNat_xor, UInt8.toNat_xor]
          rw [hv] at hst
          exact ⟨k + 1, by omega, by go_num, hst.1.drew, (hbel.setCell (Nat.le_refl _) _).drew⟩
        case measure => simp [intOf]; omega
      · have hke : k = N := by omega
        subst hke
        have hres : Below w.heap.size w wr := hb.trans (hbel.mono hb.size)
        have B0 : Bytes wr (.slice a0 l0.length c0) l0 := Bytes.below ⟨_, _, rfl, hc0, hm0, h0⟩ hbel rfl
        have B1 : Bytes wr (.slice a1 l1.length c1) l1 := Bytes.below ⟨_, _, rfl, hc1, hm1, h1⟩ hbel rfl
        have B2 : Bytes wr (.slice a2 l2.length c2) l2 := Bytes.below ⟨_, _, rfl, hc2, hm2, h2⟩ hbel rfl
        have hD := hown.bytes
        rw [Nat.sub_self, List.replicate_zero, List.append_nil, List.take_of_length_le (by simp [xor3]; omega)] at hD
        have hS := Lib.hid (crcSum_three (l0.take k) (l1.take k) (l2.take k) (by simp; omega) (by simp; omega))
        have T0 := B0.take k hN0
        have T1 := B1.take k hN1
        have T2 := B2.take k hN2
        clear hown h0 h1 h2 hd0 hbd B0 B1 B2
        generalize xor3 (l0.take k) (l1.take k) (l2.take k) = X at *
        generalize l0.take k = X0 at *
        generalize l1.take k = X1 at *
        generalize l2.take k = X2 at *
        go_wp2_with fail
        go_quiet ((go_at_call 17; first | exact Calls.quiet_of_same (crc_sum _ _ _ hD) | exact Calls.quiet_of_same (crc_sum _ _ _ T0) | exact Calls.quiet_of_same (crc_sum _ _ _ T1) | exact Calls.quiet_of_same (crc_sum _ _ _ T2)))
        go_wp2_with fail
        go_ret
        have hx : ((crcSum X : Int) == bits .xor .u32 (bits .xor .u32 (crcSum X0 : Int) (crcSum X1 : Int)) (crcSum X2 : Int)) = true := by
          rw [u32_xor_nat _ _ (crcSum_lt _) (crcSum_lt _), u32_xor_nat _ _ (xor_lt (crcSum_lt _) (crcSum_lt _)) (crcSum_lt _), hS.out]
          simp
        exact ⟨congrArg (fun b => Ending.returned (Value.bool b)) hx, below_drewN hres _⟩
/-! ### From the row to the walk -/
namespace crcThreeF
set_option linter.unusedVariables false
theorem own : ownKnob Try.prog.godebug = none := by kernel_rfl
theorem laidOut : laidOutB Try.prog = true := by kernel_rfl
set_option maxRecDepth 100000 in
theorem lifted (os : Os) (started : os.Started) (H : Type) (enc : TypeId × Value → H) :
    ReturnsInHanded {} Try.checked os 7 .any (Rows.crcThreeSpec.pre6 enc Try.prog Try.f7 Rows.crcThreeRow.domain false) (Rows.crcThreeSpec.post enc Try.prog Try.f7 false true false false) := by
  refine returnsInHanded_of_change (C := Try.checked) own started (by kernel_rfl) Try.func7
    (ChangeSpec.witness6 (enc := enc) (C := Try.checked) false ⟨#[], #[.slice none 0 0, .slice none 0 0, .slice none 0 0], []⟩ 8 (by kernel_rfl) (by kernel_rfl) (by kernel_rfl) (by kernel_rfl)) ?_
  intro W base args ds gs before hval0 hW hcnd _
  have hval : ∀ (j : Nat) t v, Try.f7.params[j]? = some t → args[j]? = some v → Value.okWide Try.prog W .any base t v := hval0
  have hW' := hW
  obtain ⟨p, q, hA0, hV, rfl, hfz, hnd⟩ := hW
  have hA : DataW.TrodAll enc Try.prog W 0 (fun _ => true) true Try.f7.params.toList args.toList ds p := hA0
  rw [Try.params7] at hA hval
  obtain ⟨v0, vs0, d0, ds0, p0, q0, hargs, rfl, rfl, h0, r0⟩ := trodAll_cons hA
  obtain ⟨v1, vs1, d1, ds1, p1, q1, rfl, rfl, rfl, h1, r1⟩ := trodAll_cons r0
  obtain ⟨v2, vs2, d2, ds2, p2, q2, rfl, rfl, rfl, h2, r2⟩ := trodAll_cons r1
  obtain ⟨rfl, rfl, rfl⟩ := trodAll_nil r2
  obtain rfl : args = #[v0, v1, v2] := by cases args; simp_all
  obtain ⟨rfl, rfl⟩ := trodVars_none hV
  have k0 := h0
  have lt0 : ∀ x ∈ p0, x.block < W.heap.size := by obtain ⟨m, hm⟩ := k0; exact DataW.trod_lt m _ _ _ hm
  obtain ⟨l0, w0⟩ := open_bytes Try.underlying24 Try.underlying5 (by kernel_rfl) (hval 0 24 v0 rfl rfl) h0
  have k1 := h1
  have lt1 : ∀ x ∈ p1, x.block < W.heap.size := by obtain ⟨m, hm⟩ := k1; exact DataW.trod_lt m _ _ _ hm
  obtain ⟨l1, w1⟩ := open_bytes Try.underlying24 Try.underlying5 (by kernel_rfl) (hval 1 24 v1 rfl rfl) h1
  have k2 := h2
  have lt2 : ∀ x ∈ p2, x.block < W.heap.size := by obtain ⟨m, hm⟩ := k2; exact DataW.trod_lt m _ _ _ hm
  obtain ⟨l2, w2⟩ := open_bytes Try.underlying24 Try.underlying5 (by kernel_rfl) (hval 2 24 v2 rfl rfl) h2
  clear hA0 hval0
  refine (crcThree_walk v0 l0 v1 l1 v2 l2 W w0 w1 w2).mono fun e W' ⟨he, bel⟩ => ?_
  subst he
  exact ⟨_, rfl, _, _, _, [], _, [], hW', trodAll_mk1 (shut_bool Try.underlying4 _), (trodAll_cons_mk (Below.trod laidOut (by kernel_rfl) (of_decide_eq_true (by kernel_rfl)) k0 bel lt0) (trodAll_cons_mk (Below.trod laidOut (by kernel_rfl) (of_decide_eq_true (by kernel_rfl)) k1 bel lt1) (trodAll_cons_mk (Below.trod laidOut (by kernel_rfl) (of_decide_eq_true (by kernel_rfl)) k2 bel lt2) trodAll_mk0))), rfl, bel.frame _, fun h => by cases h⟩
theorem over : Rows.crcThreeRow.holds Try.pinned (OpenSpec.ofChange Rows.crcThreeSpec) :=
  OpenClaim.holds_of_wide 7 Try.f7 rfl rfl rfl rfl rfl rfl rfl ⟨rfl, rfl, rfl, rfl, rfl⟩ rfl rfl rfl rfl rfl (by kernel_rfl) Try.func7 (by kernel_rfl)
    (of_decide_eq_true (by kernel_rfl)) (by unfold Func.isWrapper; first | (rw [if_pos (by decide +kernel)]; kernel_rfl) | (rw [if_neg (by decide +kernel)]; exact ⟨rfl, rfl⟩))
    (fun os started H enc _ => lifted os started H enc)
end crcThreeF
theorem crcThree_holds : Rows.CrcThreeSaid := crcThreeF.over
#print axioms crcThree_holds
end Go.Proofs.Ytbjopmbemgpmaaa
