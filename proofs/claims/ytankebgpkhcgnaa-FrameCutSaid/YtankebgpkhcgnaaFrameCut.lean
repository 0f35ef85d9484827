/-
  A frame that is cut off anywhere is the beginning of one: frame.Open tells 'more' of it; of any kind, body and place. No condition.
-/
import Derived.Test.YtankebgpkhcgnaaFrameB
import Derived.Test.YtankebgpkhcgnaaOpen
namespace Go.Proofs.Ytankebgpkhcgnaa
open Go.ChangeShapes Go.WideShapes Go.ChangeAt Go.RowKit

theorem sealP_le (k : Int) (b : List UInt8) : (sealP k b).length ≤ 4016 := by
  by_cases h : k < 1 ∨ 255 < k ∨ 4000 < b.length
  · rw [sealP_no h]; simp
  · rw [sealP_len (by omega) (by omega) (by omega)]
    have := putN_len b.length
    omega
theorem sealP_cut {k : Int} {b : List UInt8} (m : Nat) (hm : m < (sealP k b).length) : openP ((sealP k b).take m) = (0, [], 0, 2) := by
  by_cases h : k < 1 ∨ 255 < k ∨ 4000 < b.length
  · rw [sealP_no h] at hm; simp at hm
  · exact open_cut m (by omega) (by omega) (by omega) hm

set_option maxRecDepth 100000 in
theorem frameCut_walk (k : Int) (v : Value) (l : List UInt8) (cut : Int) (w : World) (wk : (Lit.int .i64 k).wf = true) (hb : Bytes w v l) (wc : (Lit.int .i64 cut).wf = true) :
    Calls Try.prog 8 #[.int .i64 k, v, .int .i64 cut] w fun e w' => e = .returned (.bool true) ∧ Below w.heap.size w w' := by
  have wk := wf_i64 wk
  have wc := wf_i64 wc
  go_enter Try.func8, Try.ntmps8
  go_wp2_with fail
  refine (frame_begun _).mono ?_
  rintro e w1 ⟨rfl, hb1⟩
  have hB := hb.below hb1 rfl
  clear hb
  go_wp2_with fail
  refine (short_any _ l 200 _ (by decide) hB).mono ?_
  rintro e w2 ⟨v2, rfl, hB2, rfl⟩
  clear hB
  generalize l.take 200 = b at *
  go_wp2_with fail
  refine (frame_seal k _ b _ wk.1 wk.2 hB2).mono ?_
  rintro e w3 ⟨v3, rfl, ho3, hb3⟩
  have hb4 := hb1.trans (hb3.mono hb1.size)
  have hle := sealP_le k b
  have hcut := Lib.hid (fun m => sealP_cut (k := k) (b := b) m)
  have hB3 := ho3.bytes
  clear hB2 ho3 hb3 hb1
  generalize sealP k b = L at *
  have hB4 := hB3
  obtain ⟨a, cap, rfl, hcap, hcm, -⟩ := hB3
  by_cases h0 : L.length = 0
  · have t0 : ((L.length : Int) == 0) = true := by rw [h0]; rfl
    go_wp2_with fail
    go_ret
    exact ⟨rfl, hb4⟩
  · have t0 : ((L.length : Int) == 0) = false := by rw [beq_eq_false_iff_ne]; omega
    by_cases h1 : cut < 1
    · have t1 : decide (cut < 1) = true := decide_eq_true h1
      go_wp2_with fail
      go_ret
      exact ⟨rfl, hb4⟩
    · have t1 : decide (cut < 1) = false := decide_eq_false h1
      by_cases h2 : (L.length : Int) < cut
      · have t2 : decide ((L.length : Int) < cut) = true := decide_eq_true h2
        go_wp2_with fail
        go_ret
        exact ⟨rfl, hb4⟩
      · have t2 : decide ((L.length : Int) < cut) = false := decide_eq_false h2
        obtain ⟨m, rfl⟩ := Int.eq_ofNat_of_zero_le (show 0 ≤ cut by omega)
        have s1 : IntKind.i64.wrap ((L.length : Int) - m) = (L.length : Int) - m := IntWalk.i64_in _ (by omega)
        have s2 : ((L.length : Int) - m).toNat = L.length - m := by omega
        have s3 : (0 : Int) ≤ (L.length : Int) - m := by omega
        have s4 : (L.length : Int) - m ≤ (cap : Int) := by omega
        have hB5 := hB4.take (L.length - m) (by omega)
        have HO := Lib.hid (hcut.out (L.length - m) (by omega))
        clear hB4
        go_wp2_with fail
        refine (frame_openO _ (L.take (L.length - m)) _ hB5 (by rw [List.length_take]; omega)).mono ?_
        rw [HO.out]
        rintro e w5 ⟨v5, rfl, ho5, hb5⟩
        have hb6 := hb4.trans (hb5.mono hb4.size)
        obtain ⟨a5, c5, rfl⟩ := ho5.len
        clear ho5 hb5 hB5
        dsimp only [List.length_nil]
        go_wp2_with fail
        go_ret
        exact ⟨rfl, hb6⟩
/-! ### From the row to the walk -/
namespace frameCutF
set_option linter.unusedVariables false
theorem own : ownKnob Try.prog.godebug = none := by kernel_rfl
theorem laidOut : laidOutB Try.prog = true := by kernel_rfl
set_option maxRecDepth 100000 in
theorem lifted (os : Os) (started : os.Started) (H : Type) (enc : TypeId × Value → H) :
    ReturnsInHanded {} Try.checked os 8 .any (Rows.frameCutSpec.pre6 enc Try.prog Try.f8 Rows.frameCutRow.domain false) (Rows.frameCutSpec.post enc Try.prog Try.f8 false true false false) := by
  refine returnsInHanded_of_change (C := Try.checked) own started (by kernel_rfl) Try.func8
    (ChangeSpec.witness6 (enc := enc) (C := Try.checked) false ⟨#[], #[.int .i64 0, .slice none 0 0, .int .i64 0], []⟩ 8 (by kernel_rfl) (by kernel_rfl) (by kernel_rfl) (by kernel_rfl)) ?_
  intro W base args ds gs before hval0 hW hcnd _
  have hval : ∀ (j : Nat) t v, Try.f8.params[j]? = some t → args[j]? = some v → Value.okWide Try.prog W .any base t v := hval0
  have hW' := hW
  obtain ⟨p, q, hA0, hV, rfl, hfz, hnd⟩ := hW
  have hA : DataW.TrodAll enc Try.prog W 0 (fun _ => true) true Try.f8.params.toList args.toList ds p := hA0
  rw [Try.params8] at hA hval
  obtain ⟨v0, vs0, d0, ds0, p0, q0, hargs, rfl, rfl, h0, r0⟩ := trodAll_cons hA
  obtain ⟨v1, vs1, d1, ds1, p1, q1, rfl, rfl, rfl, h1, r1⟩ := trodAll_cons r0
  obtain ⟨v2, vs2, d2, ds2, p2, q2, rfl, rfl, rfl, h2, r2⟩ := trodAll_cons r1
  obtain ⟨rfl, rfl, rfl⟩ := trodAll_nil r2
  obtain rfl : args = #[v0, v1, v2] := by cases args; simp_all
  obtain ⟨rfl, rfl⟩ := trodVars_none hV
  have k0 := h0
  have lt0 : ∀ x ∈ p0, x.block < W.heap.size := by obtain ⟨m, hm⟩ := k0; exact DataW.trod_lt m _ _ _ hm
  obtain ⟨a0, rfl, hd0, hp0, w0⟩ := open_int Try.underlying3 (hval 0 3 v0 rfl rfl) h0
  have k1 := h1
  have lt1 : ∀ x ∈ p1, x.block < W.heap.size := by obtain ⟨m, hm⟩ := k1; exact DataW.trod_lt m _ _ _ hm
  obtain ⟨l1, w1⟩ := open_bytes Try.underlying30 Try.underlying5 (by kernel_rfl) (hval 1 30 v1 rfl rfl) h1
  have k2 := h2
  have lt2 : ∀ x ∈ p2, x.block < W.heap.size := by obtain ⟨m, hm⟩ := k2; exact DataW.trod_lt m _ _ _ hm
  obtain ⟨a2, rfl, hd2, hp2, w2⟩ := open_int Try.underlying3 (hval 2 3 v2 rfl rfl) h2
  clear hA0 hval0
  refine (frameCut_walk a0 v1 l1 a2 W w0 w1 w2).mono fun e W' ⟨he, bel⟩ => ?_
  subst he
  exact ⟨_, rfl, _, _, _, [], _, [], hW', trodAll_mk1 (shut_bool Try.underlying4 _), (trodAll_cons_mk (Below.trod laidOut (by kernel_rfl) (of_decide_eq_true (by kernel_rfl)) k0 bel lt0) (trodAll_cons_mk (Below.trod laidOut (by kernel_rfl) (of_decide_eq_true (by kernel_rfl)) k1 bel lt1) (trodAll_cons_mk (Below.trod laidOut (by kernel_rfl) (of_decide_eq_true (by kernel_rfl)) k2 bel lt2) trodAll_mk0))), rfl, bel.frame _, fun h => by cases h⟩
theorem over : Rows.frameCutRow.holds Try.pinned (OpenSpec.ofChange Rows.frameCutSpec) :=
  OpenClaim.holds_of_wide 8 Try.f8 rfl rfl rfl rfl rfl rfl rfl ⟨rfl, rfl, rfl, rfl, rfl⟩ rfl rfl rfl rfl rfl (by kernel_rfl) Try.func8 (by kernel_rfl)
    (of_decide_eq_true (by kernel_rfl)) (by unfold Func.isWrapper; first | (rw [if_pos (by decide +kernel)]; kernel_rfl) | (rw [if_neg (by decide +kernel)]; exact ⟨rfl, rfl⟩))
    (fun os started H enc _ => lifted os started H enc)
end frameCutF
theorem frameCut_holds : Rows.FrameCutSaid := frameCutF.over
#print axioms frameCut_holds
end Go.Proofs.Ytankebgpkhcgnaa
