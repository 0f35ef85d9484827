/-
  TopText: of any two texts of bulk at most 1,048,576: it tells true; the second form's row and its tied card. No condition beyond the card's own.
-/
import Derived.Test.YtmddhlfjilkdfaaGreatDoorTopTextFr
import Derived.Test.YtmddhlfjilkdfaaGreatDoorTopTextW
import Derived.Test.YtmddhlfjilkdfaaGreatDoorFacts
namespace Go.Proofs.YtmddhlfjilkdfaaGreatDoor
set_option linter.unusedVariables false
open Go.ChangeShapes Go.WideShapes Go.ChangeAt Go.RowKit
namespace topTextF
theorem reads (os : Os) {H : Type} (enc : TypeId × Value → H) : ∃ places, DataW.whole enc Tryz.prog ((World.laidAll Tryz.prog os Rows.topTextUptoRow.laid).forCall (fun _ _ => 0) ⟨#[], #[.string .empty, .string .empty], []⟩).memory Tryz.f3.params.toList (Rows.OpenSpec.upto Rows.topTextSpec).vars false #[Value.string .empty, Value.string .empty].toList 8 = some ([.lit (.string []), .lit (.string [])], [], places) :=
  ⟨[], by kernel_rfl⟩
set_option maxRecDepth 100000 in
theorem lifted (walk : WalkT) (os : Os) (started : os.Started) (H : Type) (enc : TypeId × Value → H) (F : Stop.Interp) :
    ReturnsInHanded {} Tryz.checked os 3 .any ((Rows.OpenSpec.upto Rows.topTextSpec).preRow enc Tryz.prog Tryz.f3 Rows.topTextUptoRow.domain false Rows.topTextUptoRow.laid) (((Rows.OpenSpec.upto Rows.topTextSpec).at F).post enc Tryz.prog Tryz.f3 false true false false) := by
  obtain ⟨places, hx⟩ := reads os enc
  have hok : Input.okWideB Tryz.prog ((World.laidAll Tryz.prog os Rows.topTextUptoRow.laid).forCall (fun _ _ => 0) ⟨#[], #[.string .empty, .string .empty], []⟩) 3 ⟨#[], #[.string .empty, .string .empty], []⟩ = true := by kernel_rfl
  refine returnsInHanded_of_row (C := Tryz.checked) (s := Rows.OpenSpec.upto Rows.topTextSpec) own started (by kernel_rfl) Tryz.func3
    ⟨World.laidAll Tryz.prog os Rows.topTextUptoRow.laid, fun _ _ => 0, ⟨#[], #[.string .empty, .string .empty], []⟩, World.laidAll_os _ _ _, World.shaped_of_ZipB (by kernel_rfl) (by kernel_rfl), (Input.okWide_of_okWideB (base := 0) hok).1, (Input.okWide_of_okWideB hok).2,
      OpenSpec.preRow_of_cond 8 hx (by kernel_rfl) (fun k hk => by cases hk; kernel_rfl) (by kernel_rfl) (by rw [MakeChecks.laidMetH_plain _ _ _ (by kernel_rfl)]; exact laidMet_laidAll _ (by kernel_rfl) (by kernel_rfl)), by
      simp only [Assume.holds]
      exact ⟨by simp, by simp, fun _ => Modest.zero, by simp, by simp⟩⟩ ?_
  intro W base args ds gs before hval hW _ hcond _ hL _ _
  exact contract walk H enc W base args ds gs before hval hW (hcond _ rfl) hL
theorem over : Rows.TopTextUptoSaid :=
  OpenClaim.holds_of_cond 3 Tryz.f3 rfl rfl rfl rfl rfl rfl rfl ⟨rfl, rfl, rfl, rfl, rfl⟩ rfl rfl rfl rfl rfl topText_named Tryz.func3 topText_closed
    (of_decide_eq_true (by kernel_rfl)) (by unfold Func.isWrapper; first | (rw [if_pos (by decide +kernel)]; kernel_rfl) | (rw [if_neg (by decide +kernel)]; exact ⟨rfl, rfl⟩))
    (fun os started H enc _ F => by rw [OpenClaim.pre_eq_preRow]; exact lifted topText_walk os started H enc F)
end topTextF
theorem topText_upto_card : Rows.TopTextUptoCardSaid :=
  Claim7.holds_tied_plain_at .later [] _ _ _ _ topTextF.over (fun _ h => by cases h) topText_wf (fun _ h => by cases h) topTextUpto_row_tie rfl ⟨rfl, rfl⟩ pmain rfl
    (fun f fn hf hfn => by
      obtain rfl : f = 3 := Option.some.inj (topText_named.symm.trans hf) |>.symm
      obtain rfl : fn = Tryz.f3 := (Option.some.inj (Tryz.func3.symm.trans hfn)).symm
      exact ⟨plooks, fun j t ht => by
        rw [Tryz.params3] at ht
        have hm : t ∈ [9, 9] := by simpa using Array.mem_of_getElem? ht
        have hall : ([9, 9].all fun u => !Tryz.prog.wantsStandIn u) = true := by kernel_rfl
        exact (show Tryz.prog.wantsStandIn t = false by simpa using List.all_eq_true.1 hall t hm)⟩)
    topText_goes
#print axioms topText_upto_card
end Go.Proofs.YtmddhlfjilkdfaaGreatDoor
