/-
  Any bytes have their sum, in one or in two: crc.Sum of a text is the document's, and crc.More goes on with it; of any two slices. No condition.
-/
import Derived.Test.YtbjopmbemgpmaaaCrc
import Derived.Test.YtbjopmbemgpmaaaOpen
namespace Go.Proofs.Ytbjopmbemgpmaaa
open Go.ChangeShapes Go.WideShapes Go.ChangeAt Go.RowKit

theorem crcAll_walk (v0 : Value) (l0 : List UInt8) (v1 : Value) (l1 : List UInt8) (w : World) (w0 : Bytes w v0 l0) (w1 : Bytes w v1 l1) :
    Calls Try.prog 4 #[v0, v1] w fun e w' => e = .returned (.bool true) ∧ Below w.heap.size w w' := by
  go_enter Try.func4, Try.ntmps4
  go_wp2_with fail
  refine (crc_begun _).mono ?_
  rintro e w2 ⟨rfl, hb⟩
  have w0 := w0.below hb rfl
  have w1 := w1.below hb rfl
  go_wp2_with fail
  refine (short_any _ _ 300 _ (by omega) w0).mono ?_
  rintro e w2' ⟨v0', rfl, hv0, rfl⟩
  go_wp2_with fail
  refine (short_any _ _ 300 _ (by omega) w1).mono ?_
  rintro e w2' ⟨v1', rfl, hv1, rfl⟩
  have hA : (l0.take 300).length ≤ 300 := by simp; omega
  have hB : (l1.take 300).length ≤ 300 := by simp; omega
  generalize l0.take 300 = A at *
  generalize l1.take 300 = B at *
  clear w0 w1
  go_wp2_with (at_builtin; refine wpList_append_bytes 24 w2'.heap.size 5 Try.underlying24 info_u8 rfl _ _ rfl (OwnB.nil _ _ _) hv0 rfl rfl (by simp; omega) (Nat.le_refl _) ?_)
  intro v3 w3 ho3 hg3 _
  have hb3 := below_of_grown hg3
  have hv1' := hv1.below hb3 rfl
  go_wp2_with (at_builtin; refine wpList_append_bytes 24 w2'.heap.size 5 Try.underlying24 info_u8 rfl _ _ rfl ho3 hv1' rfl rfl (by omega) hb3.size ?_)
  intro v4 w4 ho4 hg4 _
  have hb4 : Below w2'.heap.size w2' w4 := hb3.grown hg4 hb3.size (fun k hk => (ho3.lt k hk).1)
  have hv0 := hv0.below hb4 rfl
  have hv1 := hv1.below hb4 rfl
  have hres : Below w.heap.size w w4 := hb.trans (hb4.mono hb.size)
  clear hb hb3 hb4 hg3 hg4 ho3 hv1'
  go_wp2_with fail
  refine (crc_sum _ _ _ ho4.bytes).mono ?_
  rintro e w' ⟨rfl, rfl⟩
  go_wp2_with fail
  refine (ref_sum _ _ _ ho4.bytes).mono ?_
  rintro e w' ⟨rfl, rfl⟩
  go_wp2_with fail
  refine (crc_sum _ _ _ hv0).mono ?_
  rintro e w' ⟨rfl, rfl⟩
  go_wp2_with fail
  refine (crc_more _ _ _ _ (crcSum_lt A) hv1).mono ?_
  rintro e w' ⟨rfl, rfl⟩
  rw [← crcSum_append]
  go_wp2_with fail
  refine (crc_sum _ _ _ ho4.bytes).mono ?_
  rintro e w' ⟨rfl, rfl⟩
  go_wp2_with fail
  go_ret
  exact ⟨by simp, hres⟩
/-! ### From the row to the walk -/
namespace crcAllF
set_option linter.unusedVariables false
theorem own : ownKnob Try.prog.godebug = none := by kernel_rfl
theorem laidOut : laidOutB Try.prog = true := by kernel_rfl
set_option maxRecDepth 100000 in
theorem lifted (os : Os) (started : os.Started) (H : Type) (enc : TypeId × Value → H) :
    ReturnsInHanded {} Try.checked os 4 .any (Rows.crcAllSpec.pre6 enc Try.prog Try.f4 Rows.crcAllRow.domain false) (Rows.crcAllSpec.post enc Try.prog Try.f4 false true false false) := by
  refine returnsInHanded_of_change (C := Try.checked) own started (by kernel_rfl) Try.func4
    (ChangeSpec.witness6 (enc := enc) (C := Try.checked) false ⟨#[], #[.slice none 0 0, .slice none 0 0], []⟩ 8 (by kernel_rfl) (by kernel_rfl) (by kernel_rfl) (by kernel_rfl)) ?_
  intro W base args ds gs before hval0 hW hcnd _
  have hval : ∀ (j : Nat) t v, Try.f4.params[j]? = some t → args[j]? = some v → Value.okWide Try.prog W .any base t v := hval0
  have hW' := hW
  obtain ⟨p, q, hA0, hV, rfl, hfz, hnd⟩ := hW
  have hA : DataW.TrodAll enc Try.prog W 0 (fun _ => true) true Try.f4.params.toList args.toList ds p := hA0
  rw [Try.params4] at hA hval
  obtain ⟨v0, vs0, d0, ds0, p0, q0, hargs, rfl, rfl, h0, r0⟩ := trodAll_cons hA
  obtain ⟨v1, vs1, d1, ds1, p1, q1, rfl, rfl, rfl, h1, r1⟩ := trodAll_cons r0
  obtain ⟨rfl, rfl, rfl⟩ := trodAll_nil r1
  obtain rfl : args = #[v0, v1] := by cases args; simp_all
  obtain ⟨rfl, rfl⟩ := trodVars_none hV
  have k0 := h0
  have lt0 : ∀ x ∈ p0, x.block < W.heap.size := by obtain ⟨m, hm⟩ := k0; exact DataW.trod_lt m _ _ _ hm
  obtain ⟨l0, w0⟩ := open_bytes Try.underlying24 Try.underlying5 (by kernel_rfl) (hval 0 24 v0 rfl rfl) h0
  have k1 := h1
  have lt1 : ∀ x ∈ p1, x.block < W.heap.size := by obtain ⟨m, hm⟩ := k1; exact DataW.trod_lt m _ _ _ hm
  obtain ⟨l1, w1⟩ := open_bytes Try.underlying24 Try.underlying5 (by kernel_rfl) (hval 1 24 v1 rfl rfl) h1
  clear hA0 hval0
  refine (crcAll_walk v0 l0 v1 l1 W w0 w1).mono fun e W' ⟨he, bel⟩ => ?_
  subst he
  exact ⟨_, rfl, _, _, _, [], _, [], hW', trodAll_mk1 (shut_bool Try.underlying4 _), (trodAll_cons_mk (Below.trod laidOut (by kernel_rfl) (of_decide_eq_true (by kernel_rfl)) k0 bel lt0) (trodAll_cons_mk (Below.trod laidOut (by kernel_rfl) (of_decide_eq_true (by kernel_rfl)) k1 bel lt1) trodAll_mk0)), rfl, bel.frame _, fun h => by cases h⟩
theorem over : Rows.crcAllRow.holds Try.pinned (OpenSpec.ofChange Rows.crcAllSpec) :=
  OpenClaim.holds_of_wide 4 Try.f4 rfl rfl rfl rfl rfl rfl rfl ⟨rfl, rfl, rfl, rfl, rfl⟩ rfl rfl rfl rfl rfl (by kernel_rfl) Try.func4 (by kernel_rfl)
    (of_decide_eq_true (by kernel_rfl)) (by unfold Func.isWrapper; first | (rw [if_pos (by decide +kernel)]; kernel_rfl) | (rw [if_neg (by decide +kernel)]; exact ⟨rfl, rfl⟩))
    (fun os started H enc _ => lifted os started H enc)
end crcAllF
theorem crcAll_holds : Rows.CrcAllSaid := crcAllF.over
#print axioms crcAll_holds
end Go.Proofs.Ytbjopmbemgpmaaa
