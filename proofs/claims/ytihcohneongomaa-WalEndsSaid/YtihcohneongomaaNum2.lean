/-
  No claim by itself: the contracts of num.Get and of the document's Get. Condition: the slice reads as bytes.
-/
import Derived.Test.YtihcohneongomaaNum
import Derived.Laws.ShiftsVar
import Derived.Laws.DeepNot64
import Derived.WalkSmall
namespace Go.Proofs.Ytihcohneongomaa
open Go.RowKit

/-- The results of Get, as values. -/
def getV (r : Int × Nat × Nat) : Value := .tuple #[.int .i64 r.1, .int .i64 (r.2.1 : Int), .int .i64 (r.2.2 : Int)]

/-- One more byte of a number. -/
theorem get_mix (u c k : Nat) (hc : c < 256) (hu : u < 128 ^ k) (hU : u + c % 128 * 128 ^ k < 18446744073709551616) :
    bits .or .u64 (u : Int) (IntKind.u64.wrap (IntKind.u64.wrap (bits .and .u8 (c : Int) 127) * 2 ^ (7 * k))) = ((u + c % 128 * 128 ^ k : Nat) : Int) := by
  have h1 : bits .and .u8 (c : Int) 127 = ((c % 128 : Nat) : Int) := by
    rw [show (127 : Int) = ((127 : Nat) : Int) from rfl, u8_and_nat _ _ hc (by omega)]
    congr 1
    exact Nat.and_two_pow_sub_one_eq_mod c 7
  have h2 : (2 : Int) ^ (7 * k) = ((128 ^ k : Nat) : Int) := by
    rw [Int.natCast_pow, Int.pow_mul]
    rfl
  have h3 : IntKind.u64.wrap ((c % 128 : Nat) : Int) = ((c % 128 : Nat) : Int) := by rw [IntKind.wrap_u64]; omega
  have hle : c % 128 * 128 ^ k < 18446744073709551616 := by omega
  have h4 : ((c % 128 : Nat) : Int) * ((128 ^ k : Nat) : Int) = ((c % 128 * 128 ^ k : Nat) : Int) := by rw [Int.natCast_mul]
  rw [h1, h3, h2, h4, IntKind.wrap_u64]
  rw [show (((c % 128 * 128 ^ k : Nat) : Int) % 18446744073709551616) = ((c % 128 * 128 ^ k : Nat) : Int) by omega]
  rw [u64_or_nat _ _ (by omega) hle]
  congr 1
  have e : 128 ^ k = 2 ^ (7 * k) := by rw [Nat.pow_mul]
  rw [e] at hu ⊢
  rw [Nat.mul_comm, Nat.add_comm, Nat.two_pow_add_eq_or_of_lt hu, Nat.or_comm]

set_option maxRecDepth 100000 in
theorem num_get (v : Value) (l : List UInt8) (w : World) (hb : Bytes w v l) :
    Calls Try.prog 91 #[v] w fun e w' => e = .returned (getV (getN l)) ∧ w' = w := by
  obtain ⟨a, cap, rfl, hcap, hcm, hc⟩ := hb
  go_enter Try.func91, Try.ntmps91
  go_wp2_with fail
  go_loop [5, 11] (fun x i => ∃ k u : Nat, k ≤ l.length ∧ k ≤ 9 ∧ i = .int .i64 k ∧ x = .int .u64 u ∧ u < 128 ^ k ∧ getF k u (l.drop k) = getN l) (fun _ i => l.length - (intOf i).toNat)
  case atStart => exact ⟨0, 0, Nat.zero_le _, by omega, rfl, rfl, by decide, rfl⟩
  case round =>
    obtain ⟨k, u, hk, hk9, rfl, rfl, hu, hg⟩ := hrel
    by_cases hlt : k < l.length
    · obtain ⟨b, off, rfl, hcell⟩ := hc (by intro h; simp [h] at hlt)
      have hck := hcell k hlt
      have hcb := (l[k]).toNat_lt
      clear hc hcell
      have HG : Hid (getF k u (l[k] :: l.drop (k + 1)) = getN l) := Lib.hid (by rw [← List.drop_eq_getElem_cons hlt]; exact hg)
      generalize l[k] = c at *
      clear hg
      have hu64 : u < 9223372036854775808 := by
        have : 128 ^ k ≤ 128 ^ 9 := Nat.pow_le_pow_right (by omega) (by omega)
        omega
      have HU := Lib.hid hu
      clear hu
      have hU64 : u + c.toNat % 128 * 128 ^ k < 18446744073709551616 ∨ (k = 9 ∧ 1 < c.toNat) := by
        by_cases h9 : k = 9
        · subst h9
          by_cases h1 : 1 < c.toNat
          · exact .inr ⟨rfl, h1⟩
          · left
            have : c.toNat % 128 * 128 ^ 9 ≤ 1 * 128 ^ 9 := Nat.mul_le_mul_right _ (by omega)
            omega
        · left
          have h4 : c.toNat % 128 * 128 ^ k ≤ 127 * 128 ^ k := Nat.mul_le_mul_right _ (by omega)
          have h5 : 128 ^ (k + 1) ≤ 128 ^ 9 := Nat.pow_le_pow_right (by omega) (by omega)
          rw [Nat.pow_succ] at h5
          have := HU.out
          omega
      go_upto_region 5 with fail
      go_cut [21] (fun s wx => s = .bool (decide (k = 9 ∧ 1 < c.toNat)) ∧ wx = w)
      case first =>
        by_cases h9 : k = 9
        · subst h9
          by_cases h1 : 1 < c.toNat
          · go_wp2_with fail
            go_meet
            exact ⟨by simp; omega, rfl⟩
          · go_wp2_with fail
            go_meet
            exact ⟨by simp; omega, rfl⟩
        · have h9b : ((k : Int) == 9) = false := by simp; omega
          go_wp2_with fail
          go_meet
          exact ⟨by simp [h9], rfl⟩
      case rest =>
        obtain ⟨rfl, rfl⟩ := hcut
        by_cases hA : k = 9 ∧ 1 < c.toNat
        · have hAd : decide (k = 9 ∧ 1 < c.toNat) = true := by simpa using hA
          go_wp2_with fail
          go_ret3
          exact ⟨by rw [← HG.out, getF, if_pos hA]; rfl, rfl⟩
        · have hAd : decide (k = 9 ∧ 1 < c.toNat) = false := by simpa using hA
          have hU64 := hU64.resolve_right hA
          have HM := Lib.hid (get_mix u c.toNat k hcb HU.out hU64)
          have HL : Hid (u + c.toNat % 128 * 128 ^ k < 128 ^ (k + 1)) := Lib.hid (by
            have : c.toNat % 128 * 128 ^ k ≤ 127 * 128 ^ k := Nat.mul_le_mul_right _ (by omega)
            rw [Nat.pow_succ]
            have := HU.out
            omega)
          generalize hU : u + c.toNat % 128 * 128 ^ k = U at *
          have HUU := Lib.hid hU
          clear hU
          go_upto_region 7 with fail
          go_cut [5] (fun s wx => s = .int .u64 (U : Nat) ∧ wx = wc)
          case first =>
            go_wp2_with fail
            go_meet
            exact ⟨congrArg (Value.int .u64) HM.out, rfl⟩
          case rest =>
            obtain ⟨rfl, rfl⟩ := hcut
            by_cases hB : 127 < c.toNat
            · go_wp2_with fail
              go_round
              case rel => exact ⟨k + 1, U, by omega, by omega, by go_num, rfl, HL.out, by rw [← HG.out, getF, if_neg hA, if_pos hB, HUU.out]⟩
              case measure => simp [intOf]; omega
            · go_upto_region 9 with fail
              go_cut [37] (fun s wx => s = .bool (decide (0 < k ∧ c.toNat = 0)) ∧ wx = wc)
              case first =>
                by_cases hk0 : 0 < k
                · go_wp2_with fail
                  go_meet
                  exact ⟨by congr 1; rw [Bool.eq_iff_iff]; simp [hk0], rfl⟩
                · go_wp2_with fail
                  go_meet
                  exact ⟨by simp [hk0], rfl⟩
              case rest =>
                obtain ⟨rfl, rfl⟩ := hcut
                by_cases hC : 0 < k ∧ c.toNat = 0
                · have hCd : decide (0 < k ∧ c.toNat = 0) = true := by simpa using hC
                  go_wp2_with fail
                  go_ret3
                  exact ⟨by rw [← HG.out, getF, if_neg hA, if_neg hB, if_pos hC]; rfl, rfl⟩
                · have hCd : decide (0 < k ∧ c.toNat = 0) = false := by simpa using hC
                  have HF : Hid (getN l = (zag U, k + 1, 0)) := Lib.hid (by rw [← HG.out, getF, if_neg hA, if_neg hB, if_neg hC, HUU.out])
                  have hU2 : U / 2 < 9223372036854775808 := by omega
                  by_cases hodd : U % 2 = 1
                  · have ht : (bits .and .u64 (U : Int) 1 == 1) = true := by
                      rw [and_one_u64 (U : Int) (by omega) (by omega)]; simp; omega
                    go_wp2_with fail
                    go_ret3
                    have hv : bits .xor .i64 (-1) ((U : Int) / 2) = zag U := by
                      rw [show (U : Int) / 2 = ((U / 2 : Nat) : Int) by omega, i64_not _ hU2]
                      unfold zag
                      rw [if_pos hodd]
                      omega
                    refine ⟨?_, rfl⟩
                    show Ending.returned (Value.tuple #[.int .i64 (bits .xor .i64 (-1) ((U : Int) / 2)), .int .i64 ((k : Int) + 1), .int .i64 0]) = _
                    rw [hv, HF.out]
                    rfl
                  · have ht : (bits .and .u64 (U : Int) 1 == 1) = false := by
                      rw [and_one_u64 (U : Int) (by omega) (by omega)]; simp; omega
                    go_wp2_with fail
                    go_ret3
                    have hv : ((U : Int) / 2) = zag U := by
                      unfold zag
                      rw [if_neg hodd]
                      omega
                    refine ⟨?_, rfl⟩
                    show Ending.returned (Value.tuple #[.int .i64 ((U : Int) / 2), .int .i64 ((k : Int) + 1), .int .i64 0]) = _
                    rw [hv, HF.out]
                    rfl
    · have hke : k = l.length := by omega
      have HE := Lib.hid hke
      clear hke
      go_wp2_with fail
      go_ret3
      refine ⟨?_, rfl⟩
      have e := HE.out
      subst e
      rw [List.drop_length] at hg
      rw [← hg]
      rfl

theorem get_mul (u c k W : Nat) (hc : c < 256) (hW : W = 128 ^ k) (hU : u + c % 128 * 128 ^ k < 18446744073709551616) :
    IntKind.u64.wrap ((u : Int) + IntKind.u64.wrap ((c : Int) % 128 * (W : Int))) = ((u + c % 128 * 128 ^ k : Nat) : Int) := by
  subst hW
  have h4 : (c : Int) % 128 * ((128 ^ k : Nat) : Int) = ((c % 128 * 128 ^ k : Nat) : Int) := by rw [Int.natCast_mul]; rfl
  rw [h4, IntKind.wrap_u64, IntKind.wrap_u64]
  generalize c % 128 * 128 ^ k = x at *
  omega

theorem get_next (k W : Nat) (hk : k < 9) (hW : W = 128 ^ k) : IntKind.u64.wrap ((W : Int) * 128) = ((128 ^ (k + 1) : Nat) : Int) := by
  subst hW
  have h5 : 128 ^ (k + 1) ≤ 128 ^ 9 := Nat.pow_le_pow_right (by omega) (by omega)
  rw [IntKind.wrap_u64, Nat.pow_succ] at *
  generalize 128 ^ k = x at *
  omega

end Go.Proofs.Ytihcohneongomaa
