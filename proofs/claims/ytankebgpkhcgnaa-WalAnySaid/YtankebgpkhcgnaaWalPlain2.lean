/-
  No claim by itself: records one behind the other are read one by one, up to what stands behind. No condition.
-/
import Derived.Test.YtankebgpkhcgnaaWalPlain
namespace Go.Proofs.Ytankebgpkhcgnaa
open Go.ChangeShapes Go.WideShapes Go.ChangeAt Go.RowKit

def encs (rs : List Rec) : List UInt8 := rs.flatMap encR
theorem encs_snoc (rs : List Rec) (r : Rec) : encs (rs ++ [r]) = encs rs ++ encR r := by simp [encs]
theorem encR_pos {r : Rec} (h : mayR r = true) : 5 ≤ (encR r).length := by
  unfold encR
  rw [if_pos h, sealP_len (by split <;> decide) (by split <;> decide) (mayR_body h)]
  omega
theorem encR_nil {r : Rec} (h : mayR r = false) : encR r = [] := by
  unfold encR
  rw [h]
  rfl
theorem encR_le (r : Rec) : (encR r).length ≤ 4016 := by
  unfold encR
  split
  · exact sealP_le _ _
  · simp
theorem encs_len (rs : List Rec) : (encs rs).length ≤ 4016 * rs.length := by
  induction rs with
  | nil => simp [encs]
  | cons r rs ih =>
    have := encR_le r
    unfold encs at ih ⊢
    rw [List.flatMap_cons, List.length_append, List.length_cons]
    omega
theorem scan_encs (rs : List Rec) (rest : List UInt8) (h : ∀ r ∈ rs, mayR r = true) : scanR (encs rs ++ rest) = (rs ++ (scanR rest).1, (encs rs).length + (scanR rest).2.1, (scanR rest).2.2) := by
  induction rs with
  | nil => simp [encs]
  | cons r rs ih =>
    have hr := h r (List.mem_cons_self ..)
    have hp := encR_pos hr
    have hd := decR_enc (encs rs ++ rest) hr
    have e : encs (r :: rs) = encR r ++ encs rs := by simp [encs]
    rw [e, List.append_assoc, scanR_yes (by rw [List.length_append]; omega) (by rw [hd]), hd]
    simp only [List.drop_left]
    rw [ih (fun x hx => h x (List.mem_cons_of_mem _ hx))]
    simp only [List.cons_append, List.length_append, Nat.add_assoc]
/-- A record that is cut off. -/
theorem decR_cut {r : Rec} (h : mayR r = true) (m : Nat) (hm : m < (encR r).length) : decR ((encR r).take m) = (zeroR, 0, 2) := by
  have hb := mayR_body h
  unfold encR at hm ⊢
  rw [if_pos h] at hm ⊢
  unfold decR
  rw [open_cut m (by split <;> decide) (by split <;> decide) hb hm]
  rfl
theorem scan_torn (rs : List Rec) (r : Rec) (h : ∀ x ∈ rs, mayR x = true) (hr : mayR r = true) (m : Nat) (h0 : 0 < m) (hm : m < (encR r).length) : scanR (encs rs ++ (encR r).take m) = (rs, (encs rs).length, true) := by
  have hd := decR_cut hr m hm
  rw [scan_encs rs _ h, scanR_no (by rw [List.length_take]; omega) (by rw [hd]; decide), hd]
  simp
end Go.Proofs.Ytankebgpkhcgnaa
