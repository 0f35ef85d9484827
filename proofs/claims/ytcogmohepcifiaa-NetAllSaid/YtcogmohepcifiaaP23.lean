/-
  No claim by itself: what Decode tells of a message's own bytes, cut off, or with a byte changed; 'make' of bytes. No condition.
-/
import Derived.Test.YtcogmohepcifiaaP22
import Derived.Test.YtcogmohepcifiaaP13
namespace Go.Proofs.Ytcogmohepcifiaa
open Go.ChangeShapes Go.WideShapes Go.ChangeAt Go.RowKit

theorem dec_ok {w : World} {M : Msg} {e : Ending} {w' : World} (h : RetDec w (encM M) e w') (hm : mayM M = true) : ∃ v, e = .returned (.tuple #[msgAgg v M, .int .i64 0]) ∧ EntR w' v M.es ∧ Below w.heap.size w w' := by
  obtain ⟨hb, ⟨v, m, he, hr, hm', hE⟩ | ⟨-, hno⟩⟩ := h
  · obtain rfl := encM_inj hm' hm hE
    exact ⟨v, he, hr, hb⟩
  · exact absurd rfl (hno M hm)
theorem dec_no {w : World} {B : List UInt8} {e : Ending} {w' : World} (h : RetDec w B e w') (hno : ∀ m, mayM m = true → encM m ≠ B) : e = .returned (.tuple #[msgAgg (.slice none 0 0) zM, .int .i64 1]) ∧ Below w.heap.size w w' := by
  obtain ⟨hb, ⟨v, m, he, hr, hm', hE⟩ | ⟨he, -⟩⟩ := h
  · exact absurd hE (hno m hm')
  · exact ⟨he, hb⟩
theorem enc_cut_no {M : Msg} (hm : mayM M = true) {n : Nat} (hn : n < (encM M).length) : ∀ m, mayM m = true → encM m ≠ (encM M).take n := by
  intro m hm'
  have h1 := textM_len hm
  have h2 := textM_len hm'
  rw [encM_frm hm] at hn ⊢
  rw [encM_frm hm']
  exact frm_cut hn (by omega) (by omega)
theorem enc_set_no {M : Msg} (hm : mayM M = true) {i : Nat} {x : UInt8} (hi : i < (encM M).length) (hx : (encM M)[i] ≠ x) : ∀ m, mayM m = true → encM m ≠ (encM M).set i x := by
  intro m hm'
  have h0 := encM_frm hm
  rw [encM_frm hm']
  generalize encM M = E at *
  subst h0
  exact frm_set hi hx
theorem xor_ne {a c : UInt8} (h : c.toNat ≠ 0) : a ≠ a ^^^ c := fun e => h (by
  have h2 := congrArg UInt8.toNat e
  rw [UInt8.toNat_xor] at h2
  have h3 : c.toNat = a.toNat ^^^ (a.toNat ^^^ c.toNat) := by rw [← Nat.xor_assoc, Nat.xor_self, Nat.zero_xor]
  rw [← h2, Nat.xor_self] at h3
  exact h3)

/-- 'make([]byte, n)'. -/
theorem make_bytes (w : World) (n : Nat) (hn : n ≤ 1000000000) : ∃ w', (Instr.makeSlice 46 (.int .i64 (n : Int)) (.int .i64 (n : Int))).run Try.prog w = .ok (.slice (some ⟨w.heap.size, 0, none⟩) n n) w' ∧
    OwnB w' w.heap.size 5 (.slice (some ⟨w.heap.size, 0, none⟩) n n) (List.replicate n 0) ∧ Below w.heap.size w w' := by
  obtain ⟨i, hi, hz0, hz1, hz2⟩ := info_parts info_u8
  obtain ⟨w', h1, h2, h3⟩ := run_make_full (P := Try.prog) w w.heap.size 46 5 i _ 1 Try.underlying46 hi hz0 hz1 .i64 .i64 n (by rw [hz2]; omega) (by unfold maxLen; omega) (Nat.le_refl _)
  refine ⟨w', h1, ?_, below_of_grown h3⟩
  unfold OwnB
  rw [List.length_replicate, List.map_replicate]
  rw [Nat.mul_one, show (Value.int .u8 0).cells = #[.int .u8 0] from rfl, toList_madeCells_one] at h2
  exact h2
theorem cutM_small (m : Msg) : (cutM m).es.length ≤ 10 ∧ (cutM m).s.c.size ≤ 60 := ⟨cutEnts_len _ _, takeB_size _ _⟩
theorem EntR.len {w : World} {v : Value} {es : List Ent} (h : EntR w v es) : es.length ≤ 9223372036854775807 := by
  obtain ⟨a, cap, -, h1, h2, -⟩ := h
  omega
theorem law_cut' (v : Value) (m : Msg) (w : World) (h : EntR w v m.es) (hl : m.es.length ≤ 9223372036854775807) (hw : m.wf) :
    Calls Try.prog 11 #[msgAgg v m] w fun e w' => ∃ v, e = .returned (msgAgg v (cutM m)) ∧ EntO w' w.heap.size v (cutM m).es ∧ Below w.heap.size w w' := law_cut v m w h hl hw
end Go.Proofs.Ytcogmohepcifiaa
