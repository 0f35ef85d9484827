/-
  No claim by itself: the contracts of num.PutText, num.GetText, num.Four, of the document's Put, PutText, GetText, and of Cut. Conditions: the slice reads as bytes; what is written to is the call's own.
-/
import Derived.Test.YtihcohneongomaaNum2
namespace Go.Proofs.Ytihcohneongomaa
open Go.RowKit

theorem num_putText (v : Value) (l : List UInt8) (s : ByteArray) (B : Nat) (w : World) (hl : l.length + s.size ≤ 140737488354000) (hB : B ≤ w.heap.size) (ho : OwnB w B 5 v l) :
    Calls Try.prog 67 #[v, .string s] w fun e w' => RetOwn w B 5 v (l ++ putT s.data.toList) e w' := by
  go_enter Try.func67, Try.ntmps67
  go_wp2_with fail
  refine (num_put v l s.size B w (by omega) (by omega) (by omega) hB ho).mono ?_
  rintro e w1 ⟨v1, rfl, ho1, hg1, hk1⟩
  have hpl := putN_len s.size
  have hsz := hg1.size
  have HK1 := Lib.hid hk1
  clear hk1
  go_wp2_with (at_builtin; refine wpList_append_str 62 9 B 5 Try.underlying62 Try.underlying9 info8 rfl _ _ rfl ho1 s rfl rfl (by simp; omega) (by omega) ?_)
  intro v2 w2 ho2 hg2 hk2
  have HK2 := Lib.hid hk2
  clear hk2
  go_wp2_with fail
  go_ret
  refine ⟨v2, rfl, ?_, grownBy_trans hg1 hg2 (fun x hx => (HK1.out x hx).symm), fun k hk => ?_⟩
  · unfold putT
    rw [size_data]
    first | exact ho2 | (rw [← List.append_assoc]; exact ho2)
  · rcases HK2.out k hk with h | h
    · exact HK1.out k h
    · exact .inr (by omega)

/-- The results of GetText, as values. -/
def getTV (r : List UInt8 × Nat × Nat) : Value := .tuple #[.string ⟨r.1.toArray⟩, .int .i64 (r.2.1 : Int), .int .i64 (r.2.2 : Int)]

theorem conv_str {w : World} {v : Value} {l : List UInt8} (h : Bytes w v l) : (convert 62 9 v).run Try.prog w = .ok (.string ⟨l.toArray⟩) w :=
  run_string_of 62 9 5 Try.underlying62 Try.underlying5 Try.underlying9 h

set_option maxRecDepth 100000 in
theorem num_getText (v : Value) (l : List UInt8) (w : World) (hb : Bytes w v l) :
    Calls Try.prog 92 #[v] w fun e w' => e = .returned (getTV (getT l)) ∧ w' = w := by
  have hb0 := hb
  obtain ⟨a, cap, rfl, hcap, hcm, hc⟩ := hb
  have hc := Lib.hid hc
  go_enter Try.func92, Try.ntmps92
  go_wp2_with fail
  refine (num_get _ l w hb0).mono ?_
  rintro e w1 ⟨rfl, rfl⟩
  rcases getN_any l with (h | h) | ⟨x, k, h, hx0, hx1, hk0, hkl, hk10⟩
  · have HT : Hid (getT l = ([], 0, 1)) := Lib.hid (by simp [getT, h])
    rw [h]
    unfold getV
    go_wp2_with fail
    go_ret3
    rw [HT.out]
    exact ⟨rfl, rfl⟩
  · have HT : Hid (getT l = ([], 0, 2)) := Lib.hid (by simp [getT, h])
    rw [h]
    unfold getV
    go_wp2_with fail
    go_ret3
    rw [HT.out]
    exact ⟨rfl, rfl⟩
  · rw [h]
    unfold getV
    have HH := Lib.hid h
    clear h
    by_cases hA : x < 0
    · have HT : Hid (getT l = ([], 0, 1)) := Lib.hid (by simp [getT, HH.out, hA])
      go_wp2_with fail
      go_ret3
      rw [HT.out]
      exact ⟨rfl, rfl⟩
    · by_cases hB : 1048576 < x
      · have HT : Hid (getT l = ([], 0, 1)) := Lib.hid (by simp [getT, HH.out, hB])
        go_wp2_with fail
        go_ret3
        rw [HT.out]
        exact ⟨rfl, rfl⟩
      · by_cases hC : (l.length : Int) - k < x
        · have HT : Hid (getT l = ([], 0, 2)) := Lib.hid (by simp [getT, HH.out, hA, hC]; omega)
          go_wp2_with fail
          go_ret3
          rw [HT.out]
          exact ⟨rfl, rfl⟩
        · have HT : Hid (getT l = ((l.drop k).take x.toNat, k + x.toNat, 0)) := Lib.hid (by simp [getT, HH.out, hC]; omega)
          obtain ⟨y, rfl⟩ := Int.eq_ofNat_of_zero_le (show 0 ≤ x by omega)
          have HB := Bytes.sub hb0 k y (by omega)
          have hcv := conv_str HB
          go_wp2_with fail
          all_goals (go_ret3; rw [HT.out]; exact ⟨rfl, rfl⟩)

theorem zig_neg2 (n : Int) (hn0 : -9223372036854775808 ≤ n) (hn : n < 0) : bits .xor .u64 IntKind.u64.max (IntKind.u64.wrap (IntKind.u64.wrap n * 2)) = (zig n : Nat) := zig_neg n hn0 hn

/-- Four bytes of a number, the highest first. -/

theorem num_four (u : Nat) (w : World) (hu : u < 4294967296) :
    Calls Try.prog 90 #[.int .u32 u] w fun e w' => RetBytes w (fourN u) e w' := by
  have HARR : Hid (#[Value.int .u8 ((u : Int) / 16777216), Value.int .u8 ((u : Int) / 65536 % 256), Value.int .u8 ((u : Int) / 256 % 256), Value.int .u8 ((u : Int) % 256)] = ((fourN u).map byteV).toArray) := Lib.hid (by
    simp [byteV, fourN]
    omega)
  go_enter Try.func90, Try.ntmps90
  go_wp2_with fail
  go_ret
  exact ⟨_, rfl, Bytes.fresh w (fourN u) _ (0, 0) _ 4 rfl HARR.out (by simp [fourN]), (Below.refl _ _).alloc (Nat.le_refl _) _⟩

theorem extract0 (s : ByteArray) (n : Nat) : s.extract 0 n = ⟨(s.data.toList.take n).toArray⟩ := by
  apply ByteArray.ext
  rw [ByteArray.data_extract]
  apply Array.ext'
  simp

/-- 'Cut': the first n bytes of a text at the most. -/
theorem cut_any (s : ByteArray) (n : Nat) (w : World) (hn : n ≤ 9223372036854775807) (hs : s.size ≤ 9223372036854775807) :
    Calls Try.prog 52 #[.string s, .int .i64 n] w fun e w' => e = .returned (.string ⟨(s.data.toList.take n).toArray⟩) ∧ w' = w := by
  by_cases h : n < s.size
  · go_enter Try.func52, Try.ntmps52
    go_wp2_with fail
    go_ret
    refine ⟨?_, rfl⟩
    rw [← extract0]
    rfl
  · go_enter Try.func52, Try.ntmps52
    go_wp2_with fail
    go_ret
    refine ⟨?_, rfl⟩
    rw [List.take_of_length_le (by rw [size_data]; omega)]
    rfl
end Go.Proofs.Ytihcohneongomaa
