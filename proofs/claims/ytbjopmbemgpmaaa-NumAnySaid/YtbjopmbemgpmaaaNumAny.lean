/-
  Any bytes begin with a number, a text, or not: num.Get and num.GetText tell what the document's Get and GetText tell; of any slice. No condition.
-/
import Derived.Test.YtbjopmbemgpmaaaNumB
import Derived.Test.YtbjopmbemgpmaaaCrc
import Derived.Test.YtbjopmbemgpmaaaOpen
namespace Go.Proofs.Ytbjopmbemgpmaaa
open Go.ChangeShapes Go.WideShapes Go.ChangeAt Go.RowKit

set_option maxRecDepth 100000 in
theorem numAny_walk (v0 : Value) (l0 : List UInt8) (w : World) (w0 : Bytes w v0 l0) :
    Calls Try.prog 9 #[v0] w fun e w' => e = .returned (.bool true) ∧ Below w.heap.size w w' := by
  go_enter Try.func9, Try.ntmps9
  go_wp2_with fail
  refine (num_begun _).mono ?_
  rintro e w2 ⟨rfl, hb⟩
  have w0 := w0.below hb rfl
  go_wp2_with fail
  refine (short_any _ _ 60 _ (by omega) w0).mono ?_
  rintro e w2' ⟨v0', rfl, hv0, rfl⟩
  generalize l0.take 60 = A at *
  clear w0
  go_wp2_with fail
  refine (num_get _ _ _ hv0).mono ?_
  rintro e w3 ⟨rfl, rfl⟩
  unfold getV
  go_wp2_with fail
  refine (ref_get _ _ _ hv0).mono ?_
  rintro e w3 ⟨rfl, rfl⟩
  unfold getV
  go_wp2_with fail
  refine (num_getText _ _ _ hv0).mono ?_
  rintro e w3 ⟨rfl, rfl⟩
  unfold getTV
  go_wp2_with fail
  refine (ref_getText _ _ _ hv0).mono ?_
  rintro e w3 ⟨rfl, rfl⟩
  unfold getTV
  go_wp2_with fail
  go_ret
  exact ⟨rfl, hb⟩
/-! ### From the row to the walk -/
namespace numAnyF
set_option linter.unusedVariables false
theorem own : ownKnob Try.prog.godebug = none := by kernel_rfl
theorem laidOut : laidOutB Try.prog = true := by kernel_rfl
set_option maxRecDepth 100000 in
theorem lifted (os : Os) (started : os.Started) (H : Type) (enc : TypeId × Value → H) :
    ReturnsInHanded {} Try.checked os 9 .any (Rows.numAnySpec.pre6 enc Try.prog Try.f9 Rows.numAnyRow.domain false) (Rows.numAnySpec.post enc Try.prog Try.f9 false true false false) := by
  refine returnsInHanded_of_change (C := Try.checked) own started (by kernel_rfl) Try.func9
    (ChangeSpec.witness6 (enc := enc) (C := Try.checked) false ⟨#[], #[.slice none 0 0], []⟩ 8 (by kernel_rfl) (by kernel_rfl) (by kernel_rfl) (by kernel_rfl)) ?_
  intro W base args ds gs before hval0 hW hcnd _
  have hval : ∀ (j : Nat) t v, Try.f9.params[j]? = some t → args[j]? = some v → Value.okWide Try.prog W .any base t v := hval0
  have hW' := hW
  obtain ⟨p, q, hA0, hV, rfl, hfz, hnd⟩ := hW
  have hA : DataW.TrodAll enc Try.prog W 0 (fun _ => true) true Try.f9.params.toList args.toList ds p := hA0
  rw [Try.params9] at hA hval
  obtain ⟨v0, vs0, d0, ds0, p0, q0, hargs, rfl, rfl, h0, r0⟩ := trodAll_cons hA
  obtain ⟨rfl, rfl, rfl⟩ := trodAll_nil r0
  obtain rfl : args = #[v0] := by cases args; simp_all
  obtain ⟨rfl, rfl⟩ := trodVars_none hV
  have k0 := h0
  have lt0 : ∀ x ∈ p0, x.block < W.heap.size := by obtain ⟨m, hm⟩ := k0; exact DataW.trod_lt m _ _ _ hm
  obtain ⟨l0, w0⟩ := open_bytes Try.underlying24 Try.underlying5 (by kernel_rfl) (hval 0 24 v0 rfl rfl) h0
  clear hA0 hval0
  refine (numAny_walk v0 l0 W w0).mono fun e W' ⟨he, bel⟩ => ?_
  subst he
  exact ⟨_, rfl, _, _, _, [], _, [], hW', trodAll_mk1 (shut_bool Try.underlying4 _), (trodAll_cons_mk (Below.trod laidOut (by kernel_rfl) (of_decide_eq_true (by kernel_rfl)) k0 bel lt0) trodAll_mk0), rfl, bel.frame _, fun h => by cases h⟩
theorem over : Rows.numAnyRow.holds Try.pinned (OpenSpec.ofChange Rows.numAnySpec) :=
  OpenClaim.holds_of_wide 9 Try.f9 rfl rfl rfl rfl rfl rfl rfl ⟨rfl, rfl, rfl, rfl, rfl⟩ rfl rfl rfl rfl rfl (by kernel_rfl) Try.func9 (by kernel_rfl)
    (of_decide_eq_true (by kernel_rfl)) (by unfold Func.isWrapper; first | (rw [if_pos (by decide +kernel)]; kernel_rfl) | (rw [if_neg (by decide +kernel)]; exact ⟨rfl, rfl⟩))
    (fun os started H enc _ => lifted os started H enc)
end numAnyF
theorem numAny_holds : Rows.NumAnySaid := numAnyF.over
#print axioms numAny_holds
end Go.Proofs.Ytbjopmbemgpmaaa
