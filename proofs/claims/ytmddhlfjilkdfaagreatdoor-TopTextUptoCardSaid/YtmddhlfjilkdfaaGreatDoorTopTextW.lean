/-
  No claim by itself: the walk of TopText. Conditions: texts of at most a million bytes; utf8's two tables lie in the world.
-/
import Derived.Test.YtmddhlfjilkdfaaGreatDoorTopTextE
import Derived.Test.YtmddhlfjilkdfaaGreatDoorTG3
import Derived.Test.YtmddhlfjilkdfaaGreatDoorE10
import Derived.Test.YtmddhlfjilkdfaaGreatDoorTopTextFr
namespace Go.Proofs.YtmddhlfjilkdfaaGreatDoor
set_option linter.unusedVariables false
set_option linter.unusedSimpArgs false
open Go.ChangeShapes Go.WideShapes Go.ChangeAt Go.RowKit

/-- The three texts. -/
def txV (k s : ByteArray) : Nat → ByteArray
  | 0 => k
  | 1 => s
  | _ => ⟨(encD k.data.toList s.data.toList).toArray⟩
set_option maxRecDepth 100000 in
set_option maxHeartbeats 1000000 in
theorem topText_walk : WalkT := by
  intro k s w hk hs hT
  by_cases hall : keyB k.data.toList = true ∧ Lib.validD s.data.toList = true ∧ s.size ≤ 200 ∧ k.size ≤ 100
  · obtain ⟨h1, h2, h3, h4⟩ := hall
    have hok : TxOk (txt (rT (txV k s))) := ⟨keyB_iff.1 h1, h2, by show ((encD k.data.toList s.data.toList).toArray).toList = _; rw [List.toList_toArray]; rfl, h4, h3⟩
    have ho := syOk_of hok
    exact d3.true0 (ρ := rT (txV k s)) (args := [.y (.os 0), .y (.os 1)]) (vals := [.string k, .string s]) (.cons _ _ _ _ (Rel.os 0 (by decide) ho.1) (.cons _ _ _ _ (Rel.os 1 (by decide) ho.2) .nil)) ev_text w hT
  · have hB := d4.true0 (ρ := rT (txV k s)) (args := []) (vals := []) .nil ev_begun w hT
    have hK := fun u => keyed_walk k u hk
    have hM := fun u => ref_may s u hs
    have HA := Lib.hid hall
    generalize keyB k.data.toList = K at *
    generalize Lib.validD s.data.toList = V at *
    have HH := Lib.hid (And.intro hB (And.intro hK hM))
    clear hall hB hK hM hT
    go_enter Tryz.func3, Tryz.ntmps3
    go_wp2_with fail
    refine HH.out.1.mono ?_
    rintro e w1 ⟨rfl, hb1⟩
    have hbA := (Below.refl w1.heap.size w1).alloc (Nat.le_refl _) (.cells #[.int .i64 2, .int .i64 0, .string s] 24)
    have hC := C3.new w1 (.int .i64 2) (.int .i64 0) (.string s) 24
    go_wp2_with fail
    generalize w1.alloc (.cells #[.int .i64 2, .int .i64 0, .string s] 24) = w2 at *
    refine (HH.out.2.1 _).mono ?_
    rintro e w3 ⟨rfl, hb3⟩
    have hb13 := hb1.trans ((hbA.trans (hb3.mono hbA.size)).mono hb1.size)
    have hC3 := hC.keeps (Keeps.of_below (F := []) hb3) (by simp)
    have c0 := hC3.c0
    have c1 := hC3.c1
    have c2 := hC3.c2
    have HB := Lib.hid hb13
    clear hb13 hb3 hC hbA hb1 hC3
    cases K with
    | false =>
      clear HA HH
      go_wp2_with fail
      go_ret
      exact ⟨rfl, HB.out⟩
    | true =>
      go_wp2_with fail
      refine (HH.out.2.2 _).mono ?_
      rintro e w4 ⟨rfl, hb4⟩
      have HB4 := Lib.hid (HB.out.trans (hb4.mono HB.out.size))
      have hd : ∃ D : Bool, (V && decide (s.size ≤ 200)) = D := ⟨_, rfl⟩
      obtain ⟨D, hd⟩ := hd
      rw [hd]
      have HD := Lib.hid hd
      clear hd hb4 HB HH c0 c1 c2
      cases D with
      | false =>
        clear HA HD
        go_wp2_with fail
        go_ret
        exact ⟨rfl, HB4.out⟩
      | true =>
        have hk1 : ¬ k.size ≤ 100 := fun h => by
          have h1 := HD.out
          rw [Bool.and_eq_true, decide_eq_true_eq] at h1
          exact HA.out ⟨by first | rfl | trivial, h1.1, h1.2, h⟩
        have hk2 : (100 : Int) < k.size := by omega
        clear HA HD
        go_wp2_with fail
        go_ret
        exact ⟨rfl, HB4.out⟩
end Go.Proofs.YtmddhlfjilkdfaaGreatDoor
