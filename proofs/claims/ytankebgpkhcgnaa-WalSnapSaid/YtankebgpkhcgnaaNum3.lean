/-
  No claim by itself: the contracts of num.PutText, num.GetText, num.Four, of the document's Put, PutText, GetText, and of Cut. Conditions: the slice reads as bytes; what is written to is the call's own.
-/
import Derived.Test.YtankebgpkhcgnaaNum2
namespace Go.Proofs.Ytankebgpkhcgnaa
open Go.RowKit

theorem num_putText (v : Value) (l : List UInt8) (s : ByteArray) (B : Nat) (w : World) (hl : l.length + s.size ≤ 140737488354000) (hB : B ≤ w.heap.size) (ho : OwnB w B 5 v l) :
    Calls Try.prog 61 #[v, .string s] w fun e w' => RetOwn w B 5 v (l ++ putT s.data.toList) e w' := by
  go_enter Try.func61, Try.ntmps61
  go_wp2_with fail
  refine (num_put v l s.size B w (by omega) (by omega) (by omega) hB ho).mono ?_
  rintro e w1 ⟨v1, rfl, ho1, hg1, hk1⟩
  have hpl := putN_len s.size
  have hsz := hg1.size
  have HK1 := Lib.hid hk1
  clear hk1
  go_wp2_with (at_builtin; refine wpList_append_str 30 9 B 5 Try.underlying30 Try.underlying9 info8 rfl _ _ rfl ho1 s rfl rfl (by simp; omega) (by omega) ?_)
  intro v2 w2 ho2 hg2 hk2
  have HK2 := Lib.hid hk2
  clear hk2
  go_wp2_with fail
  go_ret
  refine ⟨v2, rfl, ?_, grownBy_trans hg1 hg2 (fun x hx => (HK1.out x hx).symm), fun k hk => ?_⟩
  · unfold putT
    rw [size_data]
    first | exact ho2 | (rw [← List.append_assoc]; exact ho2)
  · rcases HK2.out k hk with h | h
    · exact HK1.out k h
    · exact .inr (by omega)

/-- The results of GetText, as values. -/
def getTV (r : List UInt8 × Nat × Nat) : Value := .tuple #[.string ⟨r.1.toArray⟩, .int .i64 (r.2.1 : Int), .int .i64 (r.2.2 : Int)]

theorem conv_str {w : World} {v : Value} {l : List UInt8} (h : Bytes w v l) : (convert 30 9 v).run Try.prog w = .ok (.string ⟨l.toArray⟩) w :=
  run_string_of 30 9 5 Try.underlying30 Try.underlying5 Try.underlying9 h

set_option maxRecDepth 100000 in
theorem num_getText (v : Value) (l : List UInt8) (w : World) (hb : Bytes w v l) :
    Calls Try.prog 74 #[v] w fun e w' => e = .returned (getTV (getT l)) ∧ w' = w := by
  have hb0 := hb
  obtain ⟨a, cap, rfl, hcap, hcm, hc⟩ := hb
  have hc := Lib.hid hc
  go_enter Try.func74, Try.ntmps74
  go_wp2_with fail
  refine (num_get _ l w hb0).mono ?_
  rintro e w1 ⟨rfl, rfl⟩
  rcases getN_any l with (h | h) | ⟨x, k, h, hx0, hx1, hk0, hkl, hk10⟩
  · have HT : Hid (getT l = ([], 0, 1)) := Lib.hid (by simp [getT, h])
    rw [h]
    unfold getV
    go_wp2_with fail
    go_ret3
    rw [HT.out]
    exact ⟨rfl, rfl⟩
  · have HT : Hid (getT l = ([], 0, 2)) := Lib.hid (by simp [getT, h])
    rw [h]
    unfold getV
    go_wp2_with fail
    go_ret3
    rw [HT.out]
    exact ⟨rfl, rfl⟩
  · rw [h]
    unfold getV
    have HH := Lib.hid h
    clear h
    by_cases hA : x < 0
    · have HT : Hid (getT l = ([], 0, 1)) := Lib.hid (by simp [getT, HH.out, hA])
      go_wp2_with fail
      go_ret3
      rw [HT.out]
      exact ⟨rfl, rfl⟩
    · by_cases hB : 1048576 < x
      · have HT : Hid (getT l = ([], 0, 1)) := Lib.hid (by simp [getT, HH.out, hB])
        go_wp2_with fail
        go_ret3
        rw [HT.out]
        exact ⟨rfl, rfl⟩
      · by_cases hC : (l.length : Int) - k < x
        · have HT : Hid (getT l = ([], 0, 2)) := Lib.hid (by simp [getT, HH.out, hA, hC]; omega)
          go_wp2_with fail
          go_ret3
          rw [HT.out]
          exact ⟨rfl, rfl⟩
        · have HT : Hid (getT l = ((l.drop k).take x.toNat, k + x.toNat, 0)) := Lib.hid (by simp [getT, HH.out, hC]; omega)
          obtain ⟨y, rfl⟩ := Int.eq_ofNat_of_zero_le (show 0 ≤ x by omega)
          have HB := Bytes.sub hb0 k y (by omega)
          have hcv := conv_str HB
          go_wp2_with fail
          all_goals (go_ret3; rw [HT.out]; exact ⟨rfl, rfl⟩)

set_option maxRecDepth 100000 in
theorem ref_getText (v : Value) (l : List UInt8) (w : World) (hb : Bytes w v l) :
    Calls Try.prog 71 #[v] w fun e w' => e = .returned (getTV (getT l)) ∧ w' = w := by
  have hb0 := hb
  obtain ⟨a, cap, rfl, hcap, hcm, hc⟩ := hb
  have hc := Lib.hid hc
  go_enter Try.func71, Try.ntmps71
  go_wp2_with fail
  refine (ref_get _ l w hb0).mono ?_
  rintro e w1 ⟨rfl, rfl⟩
  rcases getN_any l with (h | h) | ⟨x, k, h, hx0, hx1, hk0, hkl, hk10⟩
  · have HT : Hid (getT l = ([], 0, 1)) := Lib.hid (by simp [getT, h])
    rw [h]
    unfold getV
    go_wp2_with fail
    go_ret3
    rw [HT.out]
    exact ⟨rfl, rfl⟩
  · have HT : Hid (getT l = ([], 0, 2)) := Lib.hid (by simp [getT, h])
    rw [h]
    unfold getV
    go_wp2_with fail
    go_ret3
    rw [HT.out]
    exact ⟨rfl, rfl⟩
  · rw [h]
    unfold getV
    have HH := Lib.hid h
    clear h
    by_cases hA : x < 0
    · have HT : Hid (getT l = ([], 0, 1)) := Lib.hid (by simp [getT, HH.out, hA])
      go_wp2_with fail
      go_ret3
      rw [HT.out]
      exact ⟨rfl, rfl⟩
    · by_cases hB : 1048576 < x
      · have HT : Hid (getT l = ([], 0, 1)) := Lib.hid (by simp [getT, HH.out, hB])
        go_wp2_with fail
        go_ret3
        rw [HT.out]
        exact ⟨rfl, rfl⟩
      · by_cases hC : (l.length : Int) - k < x
        · have HT : Hid (getT l = ([], 0, 2)) := Lib.hid (by simp [getT, HH.out, hA, hC]; omega)
          go_wp2_with fail
          go_ret3
          rw [HT.out]
          exact ⟨rfl, rfl⟩
        · have HT : Hid (getT l = ((l.drop k).take x.toNat, k + x.toNat, 0)) := Lib.hid (by simp [getT, HH.out, hC]; omega)
          obtain ⟨y, rfl⟩ := Int.eq_ofNat_of_zero_le (show 0 ≤ x by omega)
          have HB := Bytes.sub hb0 k y (by omega)
          have hcv := conv_str HB
          go_wp2_with fail
          all_goals (go_ret3; rw [HT.out]; exact ⟨rfl, rfl⟩)

theorem zig_neg2 (n : Int) (hn0 : -9223372036854775808 ≤ n) (hn : n < 0) : bits .xor .u64 IntKind.u64.max (IntKind.u64.wrap (IntKind.u64.wrap n * 2)) = (zig n : Nat) := zig_neg n hn0 hn

set_option maxRecDepth 100000 in
theorem ref_put (n : Int) (w : World) (hn0 : -9223372036854775808 ≤ n) (hn1 : n ≤ 9223372036854775807) :
    Calls Try.prog 57 #[.int .i64 n] w fun e w' => RetOwn w w.heap.size 5 (.slice none 0 0) (putN n) e w' := by
  have hz := zig_lt hn0 hn1
  go_enter Try.func57, Try.ntmps57
  go_upto_if 9 with fail
  go_cut [3] (fun s wx => s = .int .u64 (zig n : Nat) ∧ wx = w)
  case first =>
    have H1 := Lib.hid (zig_neg n hn0)
    have H2 := Lib.hid (zig_pos n hn1)
    by_cases hneg : n < 0
    · go_wp2_with fail
      go_meet
      exact ⟨congrArg (Value.int .u64) (H1.out hneg), rfl⟩
    · go_wp2_with fail
      go_meet
      exact ⟨congrArg (Value.int .u64) (H2.out hneg), rfl⟩
  case rest =>
    obtain ⟨rfl, rfl⟩ := hcut
    clear hn0 hn1
    go_wp2_with fail
    go_loopw [3, 4] (fun x s wr => ∃ (f u : Nat) (done : List UInt8), putN n = done ++ leb f u ∧ u < 2 * 128 ^ f ∧ done.length + f = 9 ∧ x = .int .u64 u ∧ OwnB wr wc.heap.size 5 s done ∧ wc.grownBy wr none) (fun x _ _ => (intOf x).toNat)
    case atStart => exact ⟨9, zig n, [], rfl, by omega, rfl, rfl, OwnB.nil _ _ _, World.grownBy.refl _ _⟩
    case round =>
      obtain ⟨f, u, done, hput, hu, hd, rfl, hown, hgr⟩ := hrel
      have HPUT := Lib.hid hput
      clear hput
      have hu64 : u < 18446744073709551616 := by
        have : 128 ^ f ≤ 128 ^ 9 := Nat.pow_le_pow_right (by omega) (by omega)
        omega
      have hsz := hgr.size
      by_cases hlt : 127 < u
      · obtain ⟨f, rfl⟩ : ∃ f', f = f' + 1 := ⟨f - 1, by
          rcases f with _ | f
          · simp at hu; omega
          · rfl⟩
        have HARR : Hid (#[Value.int .u8 ((u : Int) % 128 + 128)] = ([UInt8.ofNat (u % 128 + 128)].map byteV).toArray) := Lib.hid (by
          simp [byteV, show (u % 128 + 128) % 256 = u % 128 + 128 by omega])
        have HC : Hid (leb (f + 1) u = UInt8.ofNat (u % 128 + 128) :: leb f (u / 128)) := Lib.hid (by rw [leb, if_neg (by omega)])
        generalize UInt8.ofNat (u % 128 + 128) = c at *
        go_wp2_with (at_builtin; refine wpList_append_bytes 30 wc.heap.size 5 Try.underlying30 info8 rfl _ _ rfl (hown.alloc _) (Bytes.fresh wr [c] _ (0, 0) _ 1 rfl HARR.out (by simp)) rfl rfl (by simp; omega) (by simp; omega) ?_)
        intro v2 w2 ho2 hg2 hk2
        have hg3 : wc.grownBy w2 none := (grownBy_trans (row := none) (grownBy_trans hgr (World.grownBy_alloc wr _ none) (by simp)) hg2 (fun x hx => .inl (hown.lt x hx).1))
        clear hk2 hg2 hgr hown
        go_wp2_with fail
        go_roundw
        case rel =>
          refine ⟨f, u / 128, done ++ [c], ?_, ?_, by simp; omega, by go_num, ho2, hg3⟩
          · rw [HPUT.out, HC.out]
            simp
          · rw [Nat.pow_succ] at hu; omega
        case measure => simp [intOf]; omega
      · have HARR : Hid (#[Value.int .u8 (u : Int)] = ([UInt8.ofNat u].map byteV).toArray) := Lib.hid (by
          simp [byteV, show u % 256 = u by omega])
        go_wp2_with (at_builtin; refine wpList_append_bytes 30 wc.heap.size 5 Try.underlying30 info8 rfl _ _ rfl (hown.alloc _) (Bytes.fresh wr [UInt8.ofNat u] _ (0, 0) _ 1 rfl HARR.out (by simp)) rfl rfl (by simp; omega) (by simp; omega) ?_)
        intro v2 w2 ho2 hg2 hk2
        have hg3 : wc.grownBy w2 none := (grownBy_trans (row := none) (grownBy_trans hgr (World.grownBy_alloc wr _ none) (by simp)) hg2 (fun x hx => .inl (hown.lt x hx).1))
        clear hk2 hg2 hgr hown
        go_wp2_with fail
        go_ret
        have e : leb f u = [UInt8.ofNat u] := by
          cases f with
          | zero => rfl
          | succ f => rw [leb, if_pos (by omega)]
        rw [← e, ← HPUT.out] at ho2
        exact ⟨v2, rfl, ho2, hg3, fun k hk => .inr (ho2.lt k hk).1⟩

theorem ref_putText (s : ByteArray) (w : World) (hl : s.size ≤ 140737488354000) :
    Calls Try.prog 66 #[.string s] w fun e w' => RetOwn w w.heap.size 5 (.slice none 0 0) (putT s.data.toList) e w' := by
  go_enter Try.func66, Try.ntmps66
  go_wp2_with fail
  refine (ref_put s.size w (by omega) (by omega)).mono ?_
  rintro e w1 ⟨v1, rfl, ho1, hg1, hk1⟩
  have hpl := putN_len s.size
  have hsz := hg1.size
  clear hk1
  go_wp2_with (at_builtin; refine wpList_append_str 30 9 w.heap.size 5 Try.underlying30 Try.underlying9 info8 rfl _ _ rfl ho1 s rfl rfl (by omega) (by omega) ?_)
  intro v2 w2 ho2 hg2 hk2
  clear hk2
  go_wp2_with fail
  go_ret
  have ho3 : OwnB w2 w.heap.size 5 v2 (putT s.data.toList) := by
    unfold putT
    rw [size_data]
    exact ho2
  exact ⟨v2, rfl, ho3, grownBy_trans hg1 hg2 (fun x hx => .inl (ho1.lt x hx).1), fun k hk => .inr (ho3.lt k hk).1⟩

/-- Four bytes of a number, the highest first. -/

theorem num_four (u : Nat) (w : World) (hu : u < 4294967296) :
    Calls Try.prog 56 #[.int .u32 u] w fun e w' => RetBytes w (fourN u) e w' := by
  have HARR : Hid (#[Value.int .u8 ((u : Int) / 16777216), Value.int .u8 ((u : Int) / 65536 % 256), Value.int .u8 ((u : Int) / 256 % 256), Value.int .u8 ((u : Int) % 256)] = ((fourN u).map byteV).toArray) := Lib.hid (by
    simp [byteV, fourN]
    omega)
  go_enter Try.func56, Try.ntmps56
  go_wp2_with fail
  go_ret
  exact ⟨_, rfl, Bytes.fresh w (fourN u) _ (0, 0) _ 4 rfl HARR.out (by simp [fourN]), (Below.refl _ _).alloc (Nat.le_refl _) _⟩

theorem extract0 (s : ByteArray) (n : Nat) : s.extract 0 n = ⟨(s.data.toList.take n).toArray⟩ := by
  apply ByteArray.ext
  rw [ByteArray.data_extract]
  apply Array.ext'
  simp

/-- 'Cut': the first n bytes of a text at the most. -/
theorem cut_any (s : ByteArray) (n : Nat) (w : World) (hn : n ≤ 9223372036854775807) (hs : s.size ≤ 9223372036854775807) :
    Calls Try.prog 43 #[.string s, .int .i64 n] w fun e w' => e = .returned (.string ⟨(s.data.toList.take n).toArray⟩) ∧ w' = w := by
  by_cases h : n < s.size
  · go_enter Try.func43, Try.ntmps43
    go_wp2_with fail
    go_ret
    refine ⟨?_, rfl⟩
    rw [← extract0]
    rfl
  · go_enter Try.func43, Try.ntmps43
    go_wp2_with fail
    go_ret
    refine ⟨?_, rfl⟩
    rw [List.take_of_length_le (by rw [size_data]; omega)]
    rfl
end Go.Proofs.Ytankebgpkhcgnaa
