/-
  A text that comes in any pieces has one sum: crc.More over the pieces, one behind the other, is crc.Sum of the whole; of any bytes and any cuts. No condition.
-/
import Derived.Test.YtbjopmbemgpmaaaCrc
import Derived.Test.YtbjopmbemgpmaaaOpen
import Derived.Deep.DeepCutAuto
import Derived.Deep.Cut
namespace Go.Proofs.Ytbjopmbemgpmaaa
open Go.ChangeShapes Go.WideShapes Go.ChangeAt Go.RowKit

theorem crcMany_walk (v0 : Value) (l0 : List UInt8) (v1 : Value) (l1 : List Int) (w : World) (w0 : Bytes w v0 l0) (w1 : Ints .i64 w v1 l1) :
    Calls Try.prog 6 #[v0, v1] w fun e w' => e = .returned (.bool true) ∧ Below w.heap.size w w' := by
  go_enter Try.func6, Try.ntmps6
  go_wp2_with fail
  refine (crc_begun _).mono ?_
  rintro e w2 ⟨rfl, hb⟩
  have w0 := w0.below hb rfl
  have hr := w1.1.below hb rfl
  have hw := Lib.hid w1.2
  clear w1
  obtain ⟨a, cap, rfl, hcap, hcm, hc⟩ := w0
  go_upto_if 16 with fail
  go_cut [0] (fun s wx => ∃ L : List UInt8, Bytes w2 s L ∧ L.length ≤ 300 ∧ wx = w2)
  case first =>
    go_wp2
    · go_meet
      exact ⟨l0.take 300, Bytes.take ⟨a, cap, rfl, hcap, hcm, hc⟩ 300 (by omega), by simp; omega, rfl⟩
    · go_meet
      exact ⟨l0, ⟨a, cap, rfl, hcap, hcm, hc⟩, by omega, rfl⟩
  case rest =>
    obtain ⟨L, hL, hl, rfl⟩ := hcut
    clear hc hcap hcm
    have hLb := hL
    obtain ⟨a, cap, rfl, hcap, hcm, hc⟩ := hL
    obtain ⟨a1, cap1, rfl, hcap1, hcm1, hc1⟩ := hr
    go_wp2_with fail
    refine (crc_sum _ [] _ (Bytes.nil _ _ _ (by decide))).mono ?_
    rintro e w' ⟨rfl, rfl⟩
    rw [crcSum_nil]
    go_wp2_with fail
    go_loop [6, 7, 8] (fun s p i => ∃ k j : Nat, k ≤ L.length ∧ j ≤ k ∧ p = .int .i64 k ∧ i = .int .i64 j ∧ s = .int .u32 (crcSum (L.take k) : Nat)) (fun _ p _ => L.length - (intOf p).toNat)
    case atStart => exact ⟨0, 0, Nat.zero_le _, Nat.le_refl _, rfl, rfl, by rw [List.take_zero, crcSum_nil]; rfl⟩
    case round =>
      obtain ⟨k, j, hk, hj, rfl, rfl, rfl⟩ := hrel
      by_cases hlt : k < L.length
      · obtain ⟨b, off, rfl, hcell⟩ := hc (by intro h; simp [h] at hlt)
        have hcell := Lib.hid hcell
        clear hc
        go_upto_if 29 with fail
        go_cut [9] (fun s wx => ∃ m : Nat, s = .int .i64 m ∧ 1 ≤ m ∧ m ≤ 40 ∧ wx = w')
        case first =>
          by_cases hjl : j < (l1.map (Value.int .i64)).length
          · obtain ⟨b1, off1, rfl, hcell1⟩ := hc1 (by intro h; simp [h] at hjl)
            have hcj := hcell1 j hjl
            simp only [List.getElem_map] at hcj
            simp only [List.length_map] at hjl
            have hx := wf_i64 (hw.out _ (List.getElem_mem hjl))
            generalize l1[j]'hjl = x at hcj hx
            clear hcell1 hc1
            have hy1 : -40 < x.tmod 40 := Int.lt_tmod_of_pos _ (by omega)
            have hy2 : x.tmod 40 < 40 := Int.tmod_lt_of_pos _ (by omega)
            have hz1 : 0 ≤ (x.tmod 40 + 40).tmod 40 := Int.tmod_nonneg _ (by omega)
            have hz2 : (x.tmod 40 + 40).tmod 40 < 40 := Int.tmod_lt_of_pos _ (by omega)
            go_wp2_with fail
            go_meet
            exact ⟨(1 + x.tmod 40 % 40).toNat, by congr 1; omega, by omega, by omega, rfl⟩
          · simp only [List.length_map] at hjl
            go_wp2_with fail
            go_meet
            exact ⟨1, rfl, by omega, by omega, rfl⟩
        case rest =>
          obtain ⟨m, rfl, hm1, hm2, rfl⟩ := hcut
          go_wp2_with fail
          · have hkm : k + m < L.length := by omega
            rw [show ((k : Int) + (m : Int)).toNat - k = m from by omega]
            refine (crc_more _ _ _ _ (crcSum_lt _) (Bytes.part hcell.out k m (cap - k) (by omega) (by omega) (by omega))).mono ?_
            rintro e w'' ⟨rfl, rfl⟩
            rw [← crcSum_append, ← List.take_add]
            go_wp2_with fail
            go_round
            case rel => exact ⟨k + m, j + 1, by omega, by omega, by go_num, by go_num, rfl⟩
            case measure => simp [intOf]; omega
          · refine (crc_more _ _ _ _ (crcSum_lt _) (Bytes.part hcell.out k (L.length - k) (cap - k) (by omega) (by omega) (by omega))).mono ?_
            rintro e w'' ⟨rfl, rfl⟩
            rw [← crcSum_append, ← List.take_add, show k + (L.length - k) = L.length from by omega]
            go_wp2_with fail
            go_round
            case rel => exact ⟨L.length, j + 1, by omega, by omega, rfl, by go_num, by rw [List.take_length]⟩
            case measure => simp [intOf]; omega
      · go_wp2_with fail
        refine (crc_sum _ _ _ hLb).mono ?_
        rintro e w'' ⟨rfl, rfl⟩
        go_wp2_with fail
        go_ret
        have : k = L.length := by omega
        subst this
        exact ⟨by simp, hb⟩
/-! ### From the row to the walk -/
namespace crcManyF
set_option linter.unusedVariables false
theorem own : ownKnob Try.prog.godebug = none := by kernel_rfl
theorem laidOut : laidOutB Try.prog = true := by kernel_rfl
set_option maxRecDepth 100000 in
theorem lifted (os : Os) (started : os.Started) (H : Type) (enc : TypeId × Value → H) :
    ReturnsInHanded {} Try.checked os 6 .any (Rows.crcManySpec.pre6 enc Try.prog Try.f6 Rows.crcManyRow.domain false) (Rows.crcManySpec.post enc Try.prog Try.f6 false true false false) := by
  refine returnsInHanded_of_change (C := Try.checked) own started (by kernel_rfl) Try.func6
    (ChangeSpec.witness6 (enc := enc) (C := Try.checked) false ⟨#[], #[.slice none 0 0, .slice none 0 0], []⟩ 8 (by kernel_rfl) (by kernel_rfl) (by kernel_rfl) (by kernel_rfl)) ?_
  intro W base args ds gs before hval0 hW hcnd _
  have hval : ∀ (j : Nat) t v, Try.f6.params[j]? = some t → args[j]? = some v → Value.okWide Try.prog W .any base t v := hval0
  have hW' := hW
  obtain ⟨p, q, hA0, hV, rfl, hfz, hnd⟩ := hW
  have hA : DataW.TrodAll enc Try.prog W 0 (fun _ => true) true Try.f6.params.toList args.toList ds p := hA0
  rw [Try.params6] at hA hval
  obtain ⟨v0, vs0, d0, ds0, p0, q0, hargs, rfl, rfl, h0, r0⟩ := trodAll_cons hA
  obtain ⟨v1, vs1, d1, ds1, p1, q1, rfl, rfl, rfl, h1, r1⟩ := trodAll_cons r0
  obtain ⟨rfl, rfl, rfl⟩ := trodAll_nil r1
  obtain rfl : args = #[v0, v1] := by cases args; simp_all
  obtain ⟨rfl, rfl⟩ := trodVars_none hV
  have k0 := h0
  have lt0 : ∀ x ∈ p0, x.block < W.heap.size := by obtain ⟨m, hm⟩ := k0; exact DataW.trod_lt m _ _ _ hm
  obtain ⟨l0, w0⟩ := open_bytes Try.underlying24 Try.underlying5 (by kernel_rfl) (hval 0 24 v0 rfl rfl) h0
  have k1 := h1
  have lt1 : ∀ x ∈ p1, x.block < W.heap.size := by obtain ⟨m, hm⟩ := k1; exact DataW.trod_lt m _ _ _ hm
  obtain ⟨l1, w1⟩ := open_intsR (k := .i64) Try.underlying22 Try.underlying3 (by kernel_rfl) (hval 1 22 v1 rfl rfl) h1
  clear hA0 hval0
  refine (crcMany_walk v0 l0 v1 l1 W w0 w1).mono fun e W' ⟨he, bel⟩ => ?_
  subst he
  exact ⟨_, rfl, _, _, _, [], _, [], hW', trodAll_mk1 (shut_bool Try.underlying4 _), (trodAll_cons_mk (Below.trod laidOut (by kernel_rfl) (of_decide_eq_true (by kernel_rfl)) k0 bel lt0) (trodAll_cons_mk (Below.trod laidOut (by kernel_rfl) (of_decide_eq_true (by kernel_rfl)) k1 bel lt1) trodAll_mk0)), rfl, bel.frame _, fun h => by cases h⟩
theorem over : Rows.crcManyRow.holds Try.pinned (OpenSpec.ofChange Rows.crcManySpec) :=
  OpenClaim.holds_of_wide 6 Try.f6 rfl rfl rfl rfl rfl rfl rfl ⟨rfl, rfl, rfl, rfl, rfl⟩ rfl rfl rfl rfl rfl (by kernel_rfl) Try.func6 (by kernel_rfl)
    (of_decide_eq_true (by kernel_rfl)) (by unfold Func.isWrapper; first | (rw [if_pos (by decide +kernel)]; kernel_rfl) | (rw [if_neg (by decide +kernel)]; exact ⟨rfl, rfl⟩))
    (fun os started H enc _ => lifted os started H enc)
end crcManyF
theorem crcMany_holds : Rows.CrcManySaid := crcManyF.over
#print axioms crcMany_holds
end Go.Proofs.Ytbjopmbemgpmaaa
