/-
  No claim by itself: the document's way to read a record is the program's. No condition.
-/
import Derived.Test.YtankebgpkhcgnaaWalPlain2
namespace Go.Proofs.Ytankebgpkhcgnaa
open Go.ChangeShapes Go.WideShapes Go.ChangeAt Go.RowKit

/-- So many numbers at the beginning of bytes; what is left; whether they are there. -/
def numsF : Nat → List UInt8 → List Int × List UInt8 × Bool
  | 0, b => ([], b, true)
  | n + 1, b => if (getN b).2.2 ≠ 0 then ([], [], false) else
    if (numsF n (b.drop (getN b).2.1)).2.2 = true then ((getN b).1 :: (numsF n (b.drop (getN b).2.1)).1, (numsF n (b.drop (getN b).2.1)).2.1, true) else ([], [], false)
/-- The record that the parts make, as the document reads them; true: it is told as spoilt at once. -/
def refR (k : Int) (b : List UInt8) : Rec × Bool :=
  if k = 1 then
    if (numsF 2 b).2.2 = true ∧ (numsF 2 b).2.1.length = 0 ∧ 0 ≤ (numsF 2 b).1.getD 1 0 ∧ (numsF 2 b).1.getD 1 0 ≤ 7 then (⟨true, (numsF 2 b).1.getD 0 0, (numsF 2 b).1.getD 1 0, zeroE⟩, false) else (zeroR, false)
  else if k = 2 then
    if (numsF 3 b).2.2 = true ∧ 1 ≤ (numsF 3 b).1.getD 2 0 ∧ (numsF 3 b).1.getD 2 0 ≤ 3 then
      if (getT (numsF 3 b).2.1).2.2 = 0 then (⟨false, 0, 0, ⟨(numsF 3 b).1.getD 0 0, (numsF 3 b).1.getD 1 0, (numsF 3 b).1.getD 2 0, ⟨(getT (numsF 3 b).2.1).1.toArray⟩⟩⟩, false) else (zeroR, false)
    else (zeroR, true)
  else (zeroR, false)

theorem mayR_hd' {r : Rec} (h : r.hd = true) : mayR r = true ↔ 0 ≤ r.t ∧ r.t ≤ 1099511627776 ∧ 0 ≤ r.v ∧ r.v ≤ 7 ∧ r.e.i = 0 ∧ r.e.t = 0 ∧ r.e.k = 0 ∧ r.e.d.size = 0 := by
  unfold mayR
  rw [if_pos h]
  simp only [Bool.and_eq_true, decide_eq_true_eq, beq_iff_eq, and_assoc]
theorem mayR_en' {r : Rec} (h : r.hd = false) : mayR r = true ↔ r.t = 0 ∧ r.v = 0 ∧ 1 ≤ r.e.i ∧ r.e.i ≤ 1099511627776 ∧ 1 ≤ r.e.t ∧ r.e.t ≤ 1099511627776 ∧ 1 ≤ r.e.k ∧ r.e.k ≤ 3 ∧ r.e.d.size ≤ 2500 := by
  unfold mayR
  rw [if_neg (by simp [h])]
  simp only [Bool.and_eq_true, decide_eq_true_eq, beq_iff_eq, and_assoc]
theorem numsF_len : ∀ (n : Nat) (b : List UInt8), (numsF n b).2.2 = true → (numsF n b).1.length = n := by
  intro n
  induction n with
  | zero => intro b _; rfl
  | succ n ih =>
    intro b h
    rw [numsF] at h ⊢
    by_cases h1 : (getN b).2.2 ≠ 0
    · rw [if_pos h1] at h; cases h
    · rw [if_neg h1] at h ⊢
      by_cases h2 : (numsF n (b.drop (getN b).2.1)).2.2 = true
      · rw [if_pos h2]
        simp only [List.length_cons, ih _ h2]
      · rw [if_neg h2] at h; cases h
theorem numsF_put (n : Nat) (x : Int) (rest : List UInt8) (h0 : -9223372036854775808 ≤ x) (h1 : x ≤ 9223372036854775807) (h : (numsF n rest).2.2 = true) : numsF (n + 1) (putN x ++ rest) = (x :: (numsF n rest).1, (numsF n rest).2.1, true) := by
  rw [numsF, getN_putN x rest h0 h1]
  simp only [ne_eq, not_true_eq_false, if_false, List.drop_left]
  rw [if_pos h]
theorem refR_body {r : Rec} (h : mayR r = true) : refR (if r.hd then 1 else 2) (bodyR r) = (r, false) := by
  by_cases hh : r.hd = true
  · obtain ⟨k0, k1, k2, k3, k4, k5, k6, k7⟩ := (mayR_hd' hh).1 h
    rw [if_pos hh]
    have hb : bodyR r = putN r.t ++ (putN r.v ++ []) := by unfold bodyR; rw [if_pos hh, List.append_nil]
    have h2 : numsF 2 (bodyR r) = ([r.t, r.v], [], true) := by
      rw [hb, numsF_put 1 r.t _ (by omega) (by omega) (by rw [numsF_put 0 r.v [] (by omega) (by omega) rfl])]
      rw [numsF_put 0 r.v [] (by omega) (by omega) rfl]
      rfl
    unfold refR
    rw [if_pos rfl, h2]
    rw [if_pos ⟨rfl, rfl, by simpa using k2, by simpa using k3⟩]
    obtain ⟨hd, t, v, ⟨i, t', k, d⟩⟩ := r
    simp only at hh k4 k5 k6 k7
    subst hh k4 k5 k6
    have : d = .empty := by
      apply ByteArray.ext
      have : d.data.toList = [] := List.eq_nil_of_length_eq_zero ((size_data d).trans k7)
      simpa using this
    subst this
    rfl
  · have hh : r.hd = false := by simpa using hh
    obtain ⟨j0, j1, k0, k1, k2, k3, k4, k5, k6⟩ := (mayR_en' hh).1 h
    rw [if_neg (by rw [hh]; decide)]
    have hb : bodyR r = putN r.e.i ++ (putN r.e.t ++ (putN r.e.k ++ putT r.e.d.data.toList)) := by unfold bodyR; rw [if_neg (by rw [hh]; decide), List.append_assoc, List.append_assoc]
    have h1 : numsF 1 (putN r.e.k ++ putT r.e.d.data.toList) = ([r.e.k], putT r.e.d.data.toList, true) := by rw [numsF_put 0 r.e.k _ (by omega) (by omega) rfl]; rfl
    have h2 : numsF 2 (putN r.e.t ++ (putN r.e.k ++ putT r.e.d.data.toList)) = ([r.e.t, r.e.k], putT r.e.d.data.toList, true) := by rw [numsF_put 1 r.e.t _ (by omega) (by omega) (by rw [h1]), h1]
    have h3 : numsF 3 (bodyR r) = ([r.e.i, r.e.t, r.e.k], putT r.e.d.data.toList, true) := by rw [hb, numsF_put 2 r.e.i _ (by omega) (by omega) (by rw [h2]), h2]
    have hs : r.e.d.data.toList.length = r.e.d.size := size_data _
    have h4 := getT_putT r.e.d.data.toList [] (by omega)
    rw [List.append_nil] at h4
    unfold refR
    rw [if_neg (by decide), if_pos rfl, h3]
    rw [if_pos ⟨rfl, by simpa using k4, by simpa using k5⟩]
    simp only [h4, if_true, ba_data]
    obtain ⟨hd, t, v, ⟨i, t', k, d⟩⟩ := r
    simp only at hh j0 j1
    subst hh j0 j1
    rfl
theorem decR_err {l : List UInt8} (h : (openP l).2.2.2 ≠ 0) : decR l = (zeroR, 0, (openP l).2.2.2) := by
  unfold decR
  rw [if_pos h]
theorem decR_three {l : List UInt8} (h : (openP l).2.2.2 = 0) (h2 : (decR l).2.2 ≠ 0) : decR l = (zeroR, 0, 3) := by
  have fin : ∀ p n, (finP p n).2.2 ≠ 0 → finP p n = (zeroR, 0, 3) := by
    intro p n hp
    unfold finP at hp ⊢
    split
    · rename_i hc; rw [if_pos hc] at hp; exact absurd rfl hp
    · rfl
  unfold decR at h2 ⊢
  rw [if_neg (by simpa using h)] at h2 ⊢
  by_cases h3 : (openP l).1 = 1
  · rw [if_pos h3] at h2 ⊢; exact fin _ _ h2
  · rw [if_neg h3] at h2 ⊢
    by_cases h4 : (openP l).1 = 2
    · rw [if_pos h4] at h2 ⊢; exact fin _ _ h2
    · rw [if_neg h4]
theorem decR_ref {l : List UInt8} {k : Int} {b : List UInt8} {n : Nat} (h : openP l = (k, b, n, 0)) :
    ((refR k b).2 = true → decR l = (zeroR, 0, 3)) ∧ ((refR k b).2 = false → (mayR (refR k b).1 = true ∧ encR (refR k b).1 = l.take n) → decR l = ((refR k b).1, n, 0)) ∧
    ((refR k b).2 = false → ¬ (mayR (refR k b).1 = true ∧ encR (refR k b).1 = l.take n) → decR l = (zeroR, 0, 3)) := by
  have ho : (openP l).2.2.2 = 0 := by rw [h]
  have good : mayR (refR k b).1 = true ∧ encR (refR k b).1 = l.take n → decR l = ((refR k b).1, n, 0) := by
    rintro ⟨h1, h2⟩
    have := decR_enc (l.drop n) h1
    rw [h2, List.take_append_drop] at this
    have hn := (openP_ok ho).2.1
    rw [h] at hn
    rw [this, List.length_take, Nat.min_eq_left hn]
  have bad : (decR l).2.2 = 0 → (refR k b) = ((decR l).1, false) ∧ mayR (decR l).1 = true ∧ encR (decR l).1 = l.take n := by
    intro h0
    obtain ⟨c1, c2, c3, c4, c5⟩ := decR_ok h0
    have hbl := mayR_body c1
    have e : l = encR (decR l).1 ++ l.drop (decR l).2.1 := by rw [← c2, List.take_append_drop]
    have hop := open_seal (k := if (decR l).1.hd then 1 else 2) (b := bodyR (decR l).1) (l.drop (decR l).2.1) (by split <;> decide) (by split <;> decide) hbl
    have he : encR (decR l).1 = sealP (if (decR l).1.hd then 1 else 2) (bodyR (decR l).1) := by rw [encR, if_pos c1]
    rw [← he, ← e, h] at hop
    simp only [Prod.mk.injEq, and_true] at hop
    obtain ⟨rfl, rfl, rfl⟩ := hop
    refine ⟨refR_body c1, c1, ?_⟩
    rw [← c3, c2]
  refine ⟨fun h1 => ?_, fun _ h2 => good h2, fun _ h2 => ?_⟩
  · by_cases h0 : (decR l).2.2 = 0
    · have := (bad h0).1
      rw [this] at h1
      cases h1
    · exact decR_three ho h0
  · by_cases h0 : (decR l).2.2 = 0
    · obtain ⟨e1, e2, e3⟩ := bad h0
      rw [e1] at h2
      exact absurd ⟨e2, e3⟩ h2
    · exact decR_three ho h0
end Go.Proofs.Ytankebgpkhcgnaa
