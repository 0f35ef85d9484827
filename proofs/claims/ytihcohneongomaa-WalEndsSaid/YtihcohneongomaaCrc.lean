/-
  No claim by itself: the contracts of crc.More, crc.Sum, of the document's Sum and of Short: each answers what the plain function answers and turns nothing. Condition: the slice reads as bytes.
-/
import Derived.Test.YtihcohneongomaaRows
import Derived.Test.YtihcohneongomaaBase
import Derived.Test.YtihcohneongomaaCrcPlain
namespace Go.Proofs.Ytihcohneongomaa
open Go.RowKit

theorem info_u8 : (Try.prog.info? 5).map (fun i => (i.zero, i.size, i.bytes)) = some (some (.int .u8 0), 1, 1) := by kernel_rfl

theorem crcRaw_snoc (x : Nat) (l : List UInt8) (k : Nat) (h : k < l.length) : crcRaw x (l.take (k + 1)) = crcBits 8 (crcRaw x (l.take k) ^^^ l[k].toNat) := by
  rw [List.take_succ_eq_append_getElem h, crcRaw_append]
  rfl

theorem xor_max (s : Nat) (hs : s < 4294967296) : bits .xor .u32 IntKind.u32.max (s : Int) = ((4294967295 ^^^ s : Nat) : Int) := by
  rw [show IntKind.u32.max = ((4294967295 : Nat) : Int) by decide, u32_xor_nat _ _ (by omega) hs]

theorem crc_more (v : Value) (l : List UInt8) (s : Nat) (w : World) (hs : s < 4294967296) (hb : Bytes w v l) :
    Calls Try.prog 88 #[.int .u32 s, v] w fun e w' => e = .returned (.int .u32 (crcMore s l : Nat)) ∧ w' = w := by
  obtain ⟨a, cap, rfl, hcap, hcm, hc⟩ := hb
  have hx0 : (4294967295 ^^^ s : Nat) < 4294967296 := xor_lt (by omega) hs
  go_enter Try.func88, Try.ntmps88
  go_wp2
  go_loop [5, 12] (fun t i => ∃ k : Nat, k ≤ l.length ∧ i = .int .i64 k ∧ t = .int .u32 (crcRaw (4294967295 ^^^ s) (l.take k) : Nat)) (fun _ i => l.length - (intOf i).toNat)
  case atStart => exact ⟨0, Nat.zero_le _, rfl, by rw [xor_max s hs]; rfl⟩
  case round =>
    obtain ⟨k, hk, rfl, rfl⟩ := hrel
    by_cases hlt : k < l.length
    · obtain ⟨b, off, rfl, hcell⟩ := hc (by intro h; simp [h] at hlt)
      have hck := hcell k hlt
      have hcb := (l[k]).toNat_lt
      have hx := crcRaw_lt (l := l.take k) hx0
      have HN := Lib.hid (crcRaw_snoc (4294967295 ^^^ s) l k hlt)
      generalize hcc : (l[k]).toNat = c at *
      generalize hxx : crcRaw (4294967295 ^^^ s) (l.take k) = x at *
      clear hc hcell hcc hxx
      have hst : bits .xor .u32 (x : Int) (c : Int) = ((x ^^^ c : Nat) : Int) := by
        rw [u32_xor_nat _ _ hx (by omega)]
      have hxc : x ^^^ c < 4294967296 := xor_lt hx (by omega)
      have HS := Lib.hid hst
      clear hst
      go_wp2
      go_loop [5, 20] (fun t i => ∃ j : Nat, j ≤ 8 ∧ i = .int .i64 j ∧ t = .int .u32 (crcBits j (x ^^^ c) : Nat)) (fun _ i => 8 - (intOf i).toNat)
      case atStart => exact ⟨0, Nat.zero_le _, rfl, by rw [HS.out]; rfl⟩
      case round =>
        obtain ⟨j, hj, rfl, rfl⟩ := hrel
        by_cases h8 : j < 8
        · have HC := Lib.hid (crc_step (crcBits j (x ^^^ c)) (crcBits_lt hxc))
          go_wp2
          go_round
          case rel => exact ⟨j + 1, by omega, by go_num, by rw [HC.out]; rfl⟩
          case measure => simp [intOf]; omega
        · have : j = 8 := by omega
          subst this
          go_wp2
          go_round
          case rel => exact ⟨k + 1, by omega, by go_num, by rw [HN.out]⟩
          case measure => simp [intOf]; omega
    · have hke : k = l.length := by omega
      have HE := Lib.hid hke
      clear hke
      go_wp2
      go_ret
      refine ⟨?_, rfl⟩
      have e := HE.out
      subst e
      rw [List.take_length, xor_max _ (crcRaw_lt hx0)]
      rfl

theorem crc_sum (v : Value) (l : List UInt8) (w : World) (hb : Bytes w v l) :
    Calls Try.prog 89 #[v] w fun e w' => e = .returned (.int .u32 (crcSum l : Nat)) ∧ w' = w := by
  go_enter Try.func89, Try.ntmps89
  go_wp2_with (go_at_call 88; refine (crc_more _ l 0 _ (by omega) hb).mono ?_; rintro e w' ⟨rfl, rfl⟩)
  go_ret
  exact ⟨rfl, rfl⟩

/-- One bit of the document's text. -/
theorem ref_bit (x : Nat) (h : x < 4294967296) : (x % 2 = 1 → bits .xor .u32 ((x : Int) / 2) 3988292384 = (crcBit x : Nat)) ∧ (x % 2 ≠ 1 → (x : Int) / 2 = (crcBit x : Nat)) := by
  constructor
  · intro e
    rw [show (x : Int) / 2 = ((x / 2 : Nat) : Int) by omega, show (3988292384 : Int) = ((3988292384 : Nat) : Int) by rfl, u32_xor_nat _ _ (by omega) (by omega)]
    simp [crcBit, e]
  · intro e
    rw [crcBit, if_neg e, Nat.xor_zero]
    omega

/-- 'Short': the first n bytes at the most. -/
theorem short_any (v : Value) (l : List UInt8) (n : Nat) (w : World) (hn : n ≤ 9223372036854775807) (hb : Bytes w v l) :
    Calls Try.prog 51 #[v, .int .i64 n] w fun e w' => ∃ v', e = .returned v' ∧ Bytes w v' (l.take n) ∧ w' = w := by
  have hb0 := hb
  obtain ⟨a, cap, rfl, hcap, hcm, hc⟩ := hb
  clear hc
  by_cases h : n < l.length
  · go_enter Try.func51, Try.ntmps51
    go_wp2
    go_ret
    exact ⟨_, rfl, hb0.take n (by omega), rfl⟩
  · go_enter Try.func51, Try.ntmps51
    go_wp2
    go_ret
    exact ⟨_, rfl, by rw [List.take_of_length_le (by omega)]; exact hb0, rfl⟩
end Go.Proofs.Ytihcohneongomaa
