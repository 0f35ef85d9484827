/-
  No claim by itself: plain facts on votes that come in two orders: any votes. No condition.
-/
import Derived.Test.YtankebgpkhcgnaaVotePlain
namespace Go.Proofs.Ytankebgpkhcgnaa

def pad7 (Y : List Bool) : List Bool := (List.range 7).map fun i => Y.getD i false
theorem seven_mem : ∀ a b c d e f g : Bool, [a, b, c, d, e, f, g] ∈ sevens := by decide
theorem pad7_mem (Y : List Bool) : pad7 Y ∈ sevens := seven_mem _ _ _ _ _ _ _
theorem pad7_get (Y : List Bool) (i : Nat) (h : i < 7) : (pad7 Y).getD i false = Y.getD i false := by
  unfold pad7
  rw [List.getD_eq_getElem?_getD, List.getElem?_map, List.getElem?_range h]
  rfl
theorem votes_ok (n t : Nat) (Y : List Bool) (h1 : 1 ≤ n) (h7 : n ≤ 7) (ht : t < n) : votesOk n t (pad7 Y) = true := by
  have h := votes_all
  rw [List.all_eq_true] at h
  have h := h (n - 1) (List.mem_range.2 (by omega))
  rw [List.all_eq_true] at h
  have h := h t (List.mem_range.2 (by omega))
  rw [List.all_eq_true] at h
  have h := h (pad7 Y) (pad7_mem Y)
  rwa [show n - 1 + 1 = n by omega] at h
theorem votesOf_zero (Y : List Bool) (f : Nat → Nat) (b : Bool) : votesOf Y f 0 b = [] := rfl
theorem votesOf_succ (Y : List Bool) (f : Nat → Nat) (k : Nat) (b : Bool) : votesOf Y f (k + 1) b = if Y.getD (f k) false == b then votesOf Y f k b ++ [(f k : Int) + 1] else votesOf Y f k b := by
  unfold votesOf
  rw [List.range_succ, List.filter_append, List.map_append]
  by_cases h : (Y.getD (f k) false == b) = true
  · rw [if_pos h]; simp only [List.filter_cons, h, if_true, List.filter_nil, List.map_cons, List.map_nil]
  · rw [if_neg h]; simp only [List.filter_cons, h, if_false, List.filter_nil, List.map_nil, List.append_nil, Bool.false_eq_true]
theorem votesOf_len (Y : List Bool) (f : Nat → Nat) (k : Nat) (b : Bool) : (votesOf Y f k b).length ≤ k := by
  unfold votesOf
  rw [List.length_map]
  exact Nat.le_trans (List.length_filter_le _ _) (by simp)
theorem upTo_succ (n : Nat) : upTo (n + 1) = upTo n ++ [(n : Int) + 1] := by simp [upTo, List.range_succ]
theorem upTo_len (n : Nat) : (upTo n).length = n := by simp [upTo]
theorem upTo_may : ∀ n, n < 8 → 1 ≤ n → mayC (upTo n) = true := by decide
theorem yesN_succ (Y : List Bool) (n : Nat) : yesN Y (n + 1) = yesN Y n + if Y.getD n false then 1 else 0 := by
  unfold yesN
  rw [List.range_succ, List.countP_append, List.countP_singleton]
theorem yesN_le (Y : List Bool) (n : Nat) : yesN Y n ≤ n := by
  unfold yesN
  exact Nat.le_trans List.countP_le_length (by simp)
theorem yesN_pad (Y : List Bool) (n : Nat) (h : n ≤ 7) : yesN (pad7 Y) n = yesN Y n := by
  induction n with
  | zero => rfl
  | succ n ih => rw [yesN_succ, yesN_succ, ih (by omega), pad7_get Y n (by omega)]
theorem yesN_end (Y : List Bool) (k n : Nat) (h : Y.length ≤ k) (hk : k ≤ n) : yesN Y n = yesN Y k := by
  induction n with
  | zero => obtain rfl : k = 0 := by omega
            rfl
  | succ n ih =>
    rcases Nat.lt_or_ge n k with h1 | h1
    · obtain rfl : k = n + 1 := by omega
      rfl
    · rw [yesN_succ, ih h1, List.getD_eq_getElem?_getD, List.getElem?_eq_none (by omega)]
      rfl
end Go.Proofs.Ytankebgpkhcgnaa
