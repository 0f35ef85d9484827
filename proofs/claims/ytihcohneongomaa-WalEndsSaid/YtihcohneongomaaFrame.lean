/-
  No claim by itself: frames: Seal and what the document says of it. No condition.
-/
import Derived.Test.YtihcohneongomaaNum3
import Derived.Test.YtihcohneongomaaCrc
import Derived.Test.YtihcohneongomaaFramePlain
import Derived.Test.YtihcohneongomaaRegion
import Derived.Deep.DeepCutAuto
import Derived.Deep.Cut
namespace Go.Proofs.Ytihcohneongomaa
open Go.ChangeShapes Go.WideShapes Go.ChangeAt Go.RowKit

/-- A literal row of bytes that was just made is one's own. -/
theorem OwnB.fresh (w : World) (e : TypeId) (cs : List UInt8) (arr : Array Value) (n : Nat) (hn : n = cs.length) (h : arr = (cs.map byteV).toArray) (hl : cs.length ≤ 9223372036854775807) :
    OwnB (w.alloc (.cells arr e)) w.heap.size e (.slice (some ⟨w.heap.size, 0, none⟩) n n) cs := by
  subst h hn
  refine ⟨by simp, .inr ⟨w.heap.size, cs.length, _, rfl, Nat.le_refl _, heap_alloc_new w _, Nat.le_refl _, by simpa [maxLen] using hl, by simp, ?_⟩⟩
  simp [List.take_of_length_le]

/-- A new row of bytes. -/
def RetNew (w : World) (l : List UInt8) (e : Ending) (w' : World) : Prop :=
  ∃ v, e = .returned v ∧ OwnB w' w.heap.size 5 v l ∧ Below w.heap.size w w'

theorem frame_seal (k : Int) (v : Value) (l : List UInt8) (w : World) (hk0 : -9223372036854775808 ≤ k) (hk1 : k ≤ 9223372036854775807) (h : Bytes w v l) :
    Calls Try.prog 69 #[.int .i64 k, v] w fun e w' => RetNew w (sealP k l) e w' := by
  have hb := h
  obtain ⟨a, cap, rfl, hcap, hcm, -⟩ := h
  by_cases h1 : k < 1
  · have hS := Lib.hid (sealP_no (k := k) (b := l) (.inl h1))
    go_enter Try.func69, Try.ntmps69
    go_wp2_with fail
    go_ret
    exact ⟨_, rfl, by rw [hS.out]; exact OwnB.nil _ _ _, Below.refl _ _⟩
  · by_cases h2 : 255 < k
    · have hS := Lib.hid (sealP_no (k := k) (b := l) (.inr (.inl h2)))
      go_enter Try.func69, Try.ntmps69
      go_wp2_with fail
      go_ret
      exact ⟨_, rfl, by rw [hS.out]; exact OwnB.nil _ _ _, Below.refl _ _⟩
    · by_cases h3 : 4000 < l.length
      · have hS := Lib.hid (sealP_no (k := k) (b := l) (.inr (.inr h3)))
        go_enter Try.func69, Try.ntmps69
        go_wp2_with fail
        go_ret
        exact ⟨_, rfl, by rw [hS.out]; exact OwnB.nil _ _ _, Below.refl _ _⟩
      · have hS := Lib.hid (sealP_ok (k := k) (b := l) (by omega) (by omega) (by omega))
        obtain ⟨m, rfl⟩ := Int.eq_ofNat_of_zero_le (show 0 ≤ k by omega)
        have hown := OwnB.fresh w 5 [UInt8.ofNat m] #[.int .u8 (m : Int)] 1 rfl (by simp [byteV]; omega) (by simp)
        have hba := (Below.refl w.heap.size w).alloc (Nat.le_refl _) (.cells #[.int .u8 (m : Int)] 5)
        have hP := putN_len l.length
        go_enter Try.func69, Try.ntmps69
        go_wp2_with fail
        refine (num_put _ [UInt8.ofNat m] l.length w.heap.size _ (by omega) (by omega) (by simp) hba.size hown).mono ?_
        rintro e w1 ⟨v1, rfl, ho1, hg1, hk1⟩
        have hb1 : Below w.heap.size w w1 := hba.grown hg1 hba.size (fun k hk => (hown.lt k hk).1)
        have hl := hb.below hb1 rfl
        rw [show [UInt8.ofNat m] ++ putN l.length = headP (m : Int) l.length from by unfold headP; simp] at ho1
        have hH : (headP (m : Int) l.length).length ≤ 11 := by unfold headP; simp; omega
        generalize headP (m : Int) l.length = H at *
        clear hg1 hk1 hown hba
        go_wp2_with fail
        refine (crc_sum _ _ _ ho1.bytes).mono ?_
        rintro e w2 ⟨rfl, rfl⟩
        go_wp2_with fail
        refine (crc_more _ l _ _ (crcSum_lt _) hl).mono ?_
        rintro e w2 ⟨rfl, rfl⟩
        rw [← crcSum_append]
        go_wp2_with fail
        refine (num_four _ _ (crcSum_lt _)).mono ?_
        rintro e w3 ⟨v3, rfl, hb3, hbl3⟩
        have ho3 := ho1.below hbl3
        have hl3 := hl.below hbl3 rfl
        have hb4 : Below w.heap.size w w3 := hb1.trans (hbl3.mono hb1.size)
        have hf4 : Hid ((fourN (crcSum (H ++ l))).length = 4) := Lib.hid rfl
        generalize fourN (crcSum (H ++ l)) = F at *
        clear ho1 hl hbl3 hb1
        go_wp2_with (at_builtin; refine wpList_append_bytes 62 w.heap.size 5 Try.underlying62 info_u8 rfl _ _ rfl ho3 hb3 rfl rfl (by rw [hf4.out]; omega) hb4.size ?_)
        intro v5 w5 ho5 hg5 hk5
        have hb5 : Below w.heap.size w w5 := hb4.grown hg5 hb4.size (fun k hk => (ho3.lt k hk).1)
        have hl5 := hb.below hb5 rfl
        have hHF : (H ++ F).length ≤ 15 := by rw [List.length_append, hf4.out]; omega
        clear hg5 hk5 ho3 hb3 hl3 hb4
        go_wp2_with (at_builtin; refine wpList_append_bytes 62 w.heap.size 5 Try.underlying62 info_u8 rfl _ _ rfl ho5 hl5 rfl rfl (by omega) hb5.size ?_)
        intro v6 w6 ho6 hg6 hk6
        have hb6 : Below w.heap.size w w6 := hb5.grown hg6 hb5.size (fun k hk => (ho5.lt k hk).1)
        clear hg6 hk6 ho5 hl5 hb5
        go_wp2_with fail
        go_ret
        exact ⟨_, rfl, by rw [hS.out, List.append_assoc]; exact ho6, hb6⟩

end Go.Proofs.Ytihcohneongomaa
