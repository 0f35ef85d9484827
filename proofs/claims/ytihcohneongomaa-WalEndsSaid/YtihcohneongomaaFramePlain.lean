/-
  No claim by itself: plain facts on frames, with no program in sight. No condition.
-/
import Derived.Test.YtihcohneongomaaNumPlain
import Derived.Test.YtihcohneongomaaCrcPlain
namespace Go.Proofs.Ytihcohneongomaa

theorem zig_zag (u : Nat) : zig (zag u) = u := by
  unfold zig zag
  by_cases h : u % 2 = 1
  · rw [if_pos h, if_pos (by omega)]; omega
  · rw [if_neg h, if_neg (by omega)]; omega

theorem ofNat_toNat' (c : UInt8) : UInt8.ofNat c.toNat = c := by simp

/-- A number that is told has just the bytes that are written for it. -/
theorem getF_canon (l : List UInt8) : ∀ (i u k : Nat) (x : Int), i ≤ 9 → getF i u l = (x, k, 0) →
    ∃ q, x = zag (u + q * 128 ^ i) ∧ l.take (k - i) = leb (9 - i) q ∧ i < k ∧ (0 < i → 0 < q) := by
  induction l with
  | nil => intro i u k x _ h; simp [getF] at h
  | cons c l ih =>
    intro i u k x hi h
    have hc := c.toNat_lt
    rw [getF] at h
    by_cases h1 : i = 9 ∧ 1 < c.toNat
    · rw [if_pos h1] at h; simp at h
    · rw [if_neg h1] at h
      by_cases h2 : 127 < c.toNat
      · rw [if_pos h2] at h
        obtain ⟨q, hx, ht, hk, h0⟩ := ih (i + 1) _ k x (by omega) h
        have hq := h0 (by omega)
        refine ⟨c.toNat % 128 + 128 * q, ?_, ?_, by omega, fun _ => by omega⟩
        · rw [hx]
          congr 1
          rw [Nat.pow_succ, Nat.add_mul, Nat.add_assoc]
          congr 2
          rw [Nat.mul_comm 128 q, Nat.mul_assoc, Nat.mul_comm 128]
        · rw [show k - i = (k - (i + 1)) + 1 by omega, List.take_succ_cons, ht, show 9 - i = (9 - (i + 1)) + 1 by omega, leb, if_neg (by omega)]
          rw [show (c.toNat % 128 + 128 * q) % 128 + 128 = c.toNat by omega, show (c.toNat % 128 + 128 * q) / 128 = q by omega, ofNat_toNat']
      · rw [if_neg h2] at h
        by_cases h3 : 0 < i ∧ c.toNat = 0
        · rw [if_pos h3] at h; simp at h
        · rw [if_neg h3] at h
          simp only [Prod.mk.injEq, and_true] at h
          obtain ⟨rfl, rfl⟩ := h
          refine ⟨c.toNat, by rw [Nat.mod_eq_of_lt (by omega)], ?_, by omega, fun h => by omega⟩
          rw [show i + 1 - i = 0 + 1 by omega, List.take_succ_cons, List.take_zero]
          by_cases h9 : i = 9
          · subst h9
            simp [leb]
          · rw [show 9 - i = (9 - (i + 1)) + 1 by omega, leb, if_pos (by omega), ofNat_toNat']
theorem getN_canon {l : List UInt8} {k : Nat} {x : Int} (h : getN l = (x, k, 0)) : l.take k = putN x := by
  obtain ⟨q, hx, ht, _, _⟩ := getF_canon l 0 0 k x (by omega) h
  rw [Nat.sub_zero, Nat.sub_zero] at ht
  rw [ht, hx]
  unfold putN
  rw [zig_zag]
  simp

theorem fourN_len (u : Nat) : (fourN u).length = 4 := rfl

/-- A frame. -/
def headP (k : Int) (n : Nat) : List UInt8 := UInt8.ofNat k.toNat :: putN n
def sealP (k : Int) (b : List UInt8) : List UInt8 :=
  if k < 1 ∨ 255 < k ∨ 4000 < b.length then [] else headP k b.length ++ fourN (crcSum (headP k b.length ++ b)) ++ b

/-- What bytes begin with: kind, body, how many bytes, the error. -/
def openP (l : List UInt8) : Int × List UInt8 × Nat × Nat :=
  match l with
  | [] => (0, [], 0, 2)
  | c :: t =>
    if c = 0 then (0, [], 0, 3)
    else if (getN t).2.2 = 2 ∧ t.length ≤ 1 then (0, [], 0, 2)
    else if (getN t).2.2 ≠ 0 ∨ (getN t).1 < 0 ∨ 4000 < (getN t).1 then (0, [], 0, 3)
    else if t.length < (getN t).2.1 + 4 + (getN t).1.toNat then (0, [], 0, 2)
    else if fourN (crcSum (c :: t.take (getN t).2.1 ++ (t.drop ((getN t).2.1 + 4)).take (getN t).1.toNat)) = (t.drop (getN t).2.1).take 4 then
      ((c.toNat : Int), (t.drop ((getN t).2.1 + 4)).take (getN t).1.toNat, 1 + (getN t).2.1 + 4 + (getN t).1.toNat, 0)
    else (0, [], 0, 3)

theorem sealP_ok {k : Int} {b : List UInt8} (h0 : 1 ≤ k) (h1 : k ≤ 255) (h2 : b.length ≤ 4000) : sealP k b = headP k b.length ++ fourN (crcSum (headP k b.length ++ b)) ++ b := by
  unfold sealP
  rw [if_neg (by omega)]
theorem sealP_no {k : Int} {b : List UInt8} (h : k < 1 ∨ 255 < k ∨ 4000 < b.length) : sealP k b = [] := by
  unfold sealP
  rw [if_pos h]
theorem sealP_len {k : Int} {b : List UInt8} (h0 : 1 ≤ k) (h1 : k ≤ 255) (h2 : b.length ≤ 4000) : (sealP k b).length = 1 + (putN b.length).length + 4 + b.length := by
  rw [sealP_ok h0 h1 h2]
  simp only [headP, List.length_append, List.length_cons, fourN_len]
  omega
theorem sealP_nil {k : Int} {b : List UInt8} : sealP k b = [] ↔ (k < 1 ∨ 255 < k ∨ 4000 < b.length) := by
  constructor
  · intro h
    by_cases hc : k < 1 ∨ 255 < k ∨ 4000 < b.length
    · exact hc
    · exfalso
      have := sealP_len (k := k) (b := b) (by omega) (by omega) (by omega)
      rw [h] at this
      simp at this
      omega
  · exact sealP_no

theorem kind_ne {k : Int} (h0 : 1 ≤ k) (h1 : k ≤ 255) : UInt8.ofNat k.toNat ≠ 0 ∧ ((UInt8.ofNat k.toNat).toNat : Int) = k := by
  have ht : (UInt8.ofNat k.toNat).toNat = k.toNat := toNat_ofNat (by omega)
  refine ⟨fun h => ?_, by rw [ht]; omega⟩
  rw [h] at ht
  simp at ht
  omega

theorem open_seal {k : Int} {b : List UInt8} (rest : List UInt8) (h0 : 1 ≤ k) (h1 : k ≤ 255) (h2 : b.length ≤ 4000) : openP (sealP k b ++ rest) = (k, b, (sealP k b).length, 0) := by
  rw [sealP_len h0 h1 h2, sealP_ok h0 h1 h2]
  obtain ⟨hc, hk⟩ := kind_ne h0 h1
  unfold headP
  simp only [List.cons_append, List.append_assoc]
  generalize hS : crcSum (UInt8.ofNat k.toNat :: (putN b.length ++ b)) = S
  have hg := getN_putN b.length (fourN S ++ (b ++ rest)) (by omega) (by omega)
  unfold openP
  simp only [hg]
  have hf : (fourN S).length = 4 := rfl
  rw [if_neg hc, if_neg (by omega), if_neg (by omega), if_neg (by simp only [List.length_append]; omega)]
  have e1 : (putN b.length ++ (fourN S ++ (b ++ rest))).drop ((putN b.length).length + 4) = b ++ rest := by
    rw [← List.append_assoc, List.drop_left' (by rw [List.length_append, hf])]
  have e2 : (putN b.length ++ (fourN S ++ (b ++ rest))).take (putN b.length).length = putN b.length := List.take_left
  have e3 : ((putN b.length ++ (fourN S ++ (b ++ rest))).drop (putN b.length).length).take 4 = fourN S := by
    rw [List.drop_left, List.take_left' hf]
  have e4 : (b ++ rest).take ((b.length : Int)).toNat = b := by rw [Int.toNat_natCast]; exact List.take_left
  rw [e1, e2, e3, e4, List.cons_append, hS, if_pos rfl, hk]
  simp only [Prod.mk.injEq, true_and, and_true]
  omega

theorem open_cut {k : Int} {b : List UInt8} (m : Nat) (h0 : 1 ≤ k) (h1 : k ≤ 255) (h2 : b.length ≤ 4000) (hm : m < (sealP k b).length) : openP ((sealP k b).take m) = (0, [], 0, 2) := by
  rw [sealP_len h0 h1 h2] at hm
  rw [sealP_ok h0 h1 h2]
  obtain ⟨hc, hk⟩ := kind_ne h0 h1
  unfold headP
  simp only [List.cons_append, List.append_assoc]
  generalize crcSum (UInt8.ofNat k.toNat :: (putN b.length ++ b)) = S
  have hf : (fourN S).length = 4 := rfl
  cases m with
  | zero => rfl
  | succ m =>
    rw [List.take_succ_cons]
    unfold openP
    simp only []
    rw [if_neg hc]
    have hp2 : (putN b.length).length ≤ 2 := by
      have h := putN_mono (m := b.length) (n := 4000) (by unfold zig; rw [if_neg (by omega), if_neg (by omega)]; omega)
      have : (putN 4000).length = 2 := by decide
      omega
    by_cases hmp : m < (putN b.length).length
    · have e : (putN b.length ++ (fourN S ++ b)).take m = (putN b.length).take m := by rw [List.take_append_of_le_length (by omega)]
      rw [e, getN_cut b.length m (by omega) (by omega) hmp, if_pos ⟨rfl, by rw [List.length_take]; omega⟩]
    · have e : (putN b.length ++ (fourN S ++ b)).take m = putN b.length ++ (fourN S ++ b).take (m - (putN b.length).length) := by
        rw [List.take_append, List.take_of_length_le (by omega)]
      rw [e]
      have hg := getN_putN b.length ((fourN S ++ b).take (m - (putN b.length).length)) (by omega) (by omega)
      simp only [hg]
      rw [if_neg (by omega), if_neg (by omega), if_pos]
      simp only [List.length_append, List.length_take, hf]
      omega

/-- The document's test is the program's. -/
theorem open_ref {c : UInt8} {t : List UInt8} {n : Int} {k : Nat} (hc : c ≠ 0) (hg : getN t = (n, k, 0)) (h0 : 0 ≤ n) (h1 : n ≤ 4000) (hl : k + 4 + n.toNat ≤ t.length) :
    sealP (c.toNat : Int) ((t.drop (k + 4)).take n.toNat) = (c :: t).take (1 + k + 4 + n.toNat) ↔ fourN (crcSum (c :: t.take k ++ (t.drop (k + 4)).take n.toNat)) = (t.drop k).take 4 := by
  have hbl : ((t.drop (k + 4)).take n.toNat).length = n.toNat := by rw [List.length_take, List.length_drop]; omega
  have hcp : 1 ≤ (c.toNat : Int) := by
    have : c.toNat ≠ 0 := fun h => hc (by rw [← ofNat_toNat' c, h]; rfl)
    omega
  have hcl := c.toNat_lt
  rw [sealP_ok hcp (by omega) (by omega), hbl]
  have hh : headP (c.toNat : Int) n.toNat = c :: t.take k := by
    unfold headP
    rw [getN_canon hg, Int.toNat_natCast, ofNat_toNat', Int.toNat_of_nonneg h0]
  rw [hh]
  have hs : (c :: t).take (1 + k + 4 + n.toNat) = (c :: t.take k) ++ (t.drop k).take 4 ++ (t.drop (k + 4)).take n.toNat := by
    rw [show 1 + k + 4 + n.toNat = (k + (4 + n.toNat)) + 1 by omega, List.take_succ_cons, List.take_add, List.take_add, List.drop_drop]
    simp
  rw [hs]
  constructor
  · intro h
    have := List.append_inj_left h (by simp [fourN_len]; omega)
    exact List.append_cancel_left this
  · intro h
    rw [h]

/-- Frames one behind the other. -/
def allF : Nat → List UInt8 → List (Int × List UInt8) × Nat
  | 0, _ => ([], 0)
  | f + 1, l => if (openP l).2.2.2 ≠ 0 then ([], 0) else (((openP l).1, (openP l).2.1) :: (allF f (l.drop (openP l).2.2.1)).1, (openP l).2.2.1 + (allF f (l.drop (openP l).2.2.1)).2)

theorem openP_ok {l : List UInt8} (h : (openP l).2.2.2 = 0) : 5 ≤ (openP l).2.2.1 ∧ (openP l).2.2.1 ≤ l.length ∧ (openP l).2.1.length ≤ 4000 ∧ 0 ≤ (openP l).1 ∧ (openP l).1 ≤ 255 := by
  cases l with
  | nil => simp [openP] at h
  | cons c t =>
    have hc8 := c.toNat_lt
    unfold openP at h ⊢
    simp only [] at h ⊢
    by_cases h1 : c = 0
    · rw [if_pos h1] at h; simp at h
    · rw [if_neg h1] at h ⊢
      by_cases h2 : (getN t).2.2 = 2 ∧ t.length ≤ 1
      · rw [if_pos h2] at h; simp at h
      · rw [if_neg h2] at h ⊢
        by_cases h3 : (getN t).2.2 ≠ 0 ∨ (getN t).1 < 0 ∨ 4000 < (getN t).1
        · rw [if_pos h3] at h; simp at h
        · rw [if_neg h3] at h ⊢
          by_cases h4 : t.length < (getN t).2.1 + 4 + (getN t).1.toNat
          · rw [if_pos h4] at h; simp at h
          · rw [if_neg h4] at h ⊢
            split at h
            · rename_i h5
              rw [if_pos h5]
              simp only [List.length_cons, List.length_take, List.length_drop]
              omega
            · simp at h

theorem allF_stable : ∀ (f g : Nat) (l : List UInt8), l.length < f → l.length < g → allF f l = allF g l := by
  intro f
  induction f with
  | zero => intro g l h; omega
  | succ f ih =>
    intro g l hf hg
    cases g with
    | zero => omega
    | succ g =>
      rw [allF, allF]
      by_cases h : (openP l).2.2.2 ≠ 0
      · rw [if_pos h, if_pos h]
      · rw [if_neg h, if_neg h]
        have ho := openP_ok (l := l) (by simpa using h)
        rw [ih g (l.drop (openP l).2.2.1) (by rw [List.length_drop]; omega) (by rw [List.length_drop]; omega)]
def allP (l : List UInt8) : List (Int × List UInt8) × Nat := allF (l.length + 1) l
theorem allP_no {l : List UInt8} (h : (openP l).2.2.2 ≠ 0) : allP l = ([], 0) := by
  unfold allP
  rw [allF, if_pos h]
theorem allP_yes {l : List UInt8} (h : (openP l).2.2.2 = 0) : allP l = (((openP l).1, (openP l).2.1) :: (allP (l.drop (openP l).2.2.1)).1, (openP l).2.2.1 + (allP (l.drop (openP l).2.2.1)).2) := by
  have ho := openP_ok h
  unfold allP
  rw [allF, if_neg (by simpa using h), allF_stable l.length ((l.drop (openP l).2.2.1).length + 1) _ (by rw [List.length_drop]; omega) (by omega)]
theorem allP_nil : allP [] = ([], 0) := allP_no (by decide)
end Go.Proofs.Ytihcohneongomaa
