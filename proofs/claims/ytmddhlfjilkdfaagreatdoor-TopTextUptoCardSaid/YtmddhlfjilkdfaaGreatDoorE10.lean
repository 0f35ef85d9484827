/-
  No claim by itself: the document's Key and May, and what they answer for symbols. Condition: a text of at most a million bytes. No condition.
-/
import Derived.Test.YtmddhlfjilkdfaaGreatDoorE9
import Derived.Test.YtmddhlfjilkdfaaGreatDoorE6
namespace Go.Proofs.YtmddhlfjilkdfaaGreatDoor
set_option linter.unusedVariables false
set_option linter.unusedSimpArgs false
open Go.ChangeShapes Go.WideShapes Go.ChangeAt Go.RowKit

def okR (r : Nat) : Bool := decide (32 ≤ r) && decide (r ≠ 127)
/-- May it be a key? -/
def keyB (l : List UInt8) : Bool := decide (1 ≤ (runesL l.length l).length) && decide ((runesL l.length l).length ≤ 40) && Lib.validD l && (runesL l.length l).all okR
theorem keyB_iff {l : List UInt8} : keyB l = true ↔ KeyOk l := by
  unfold keyB
  simp only [Bool.and_eq_true, decide_eq_true_eq, List.all_eq_true, okR]
  constructor
  · rintro ⟨⟨⟨h1, h2⟩, h3⟩, h4⟩
    exact ⟨h3, h1, h2, h4⟩
  · rintro ⟨h1, h2, h3, h4⟩
    exact ⟨⟨⟨h2, h3⟩, h1⟩, h4⟩
set_option maxRecDepth 100000 in
set_option maxHeartbeats 2000000 in
theorem ref_key (s : ByteArray) (w : World) (hs : s.size ≤ 1048576) :
    Calls Tryz.prog 16 #[.string s] w fun e w' => e = .returned (.bool (keyB s.data.toList)) ∧ Below w.heap.size w w' := by
  have hrun := ref_runes s w hs
  have hlen : s.data.toList.length = s.size := by simp
  have HK : Hid (keyB s.data.toList = (decide (1 ≤ (runesL s.size s.data.toList).length) && decide ((runesL s.size s.data.toList).length ≤ 40) && Lib.validD s.data.toList && (runesL s.size s.data.toList).all okR)) := Lib.hid (by unfold keyB; rw [hlen])
  have HR := Lib.hid hrun
  generalize keyB s.data.toList = K at *
  generalize Lib.validD s.data.toList = V at *
  generalize runesL s.size s.data.toList = L at *
  clear hrun hlen
  go_enter Tryz.func16, Tryz.ntmps16
  go_wp2_with fail
  refine HR.out.mono ?_
  rintro e w1 ⟨v, u, rfl, hrow, hb⟩
  have hrl : (runeCs L).length = L.length := by simp [runeCs]
  have hreads := hrow.reads
  obtain ⟨a, cap, rfl, hcap, hcm, hc⟩ := hreads
  rw [hrl] at hcap ⊢
  have HB := Lib.hid hb
  clear hb hrow HR
  by_cases q1 : L.length < 1
  · have z1 : (L.length : Int) < 1 := by omega
    have D : K = false := by rw [HK.out, decide_eq_false (by omega)]; rfl
    subst D
    clear HK hc
    go_wp2_with fail
    go_ret
    exact ⟨rfl, HB.out⟩
  · have z1 : ¬ (L.length : Int) < 1 := by omega
    have z1' : decide ((L.length : Int) < 1) = false := decide_eq_false z1
    by_cases q2 : 40 < L.length
    · have z2 : (40 : Int) < L.length := by omega
      have D : K = false := by rw [HK.out, decide_eq_false (p := L.length ≤ 40) (by omega), Bool.and_false]; rfl
      subst D
      clear HK hc
      go_wp2_with fail
      go_ret
      exact ⟨rfl, HB.out⟩
    · have z2 : ¬ (40 : Int) < L.length := by omega
      have z2' : decide ((40 : Int) < L.length) = false := decide_eq_false z2
      cases V with
      | false =>
        have D : K = false := by rw [HK.out, Bool.and_false]; rfl
        subst D
        clear HK hc
        go_wp2_with fail
        go_ret
        exact ⟨rfl, HB.out⟩
      | true =>
        have HK2 : Hid (K = L.all okR) := Lib.hid (by rw [HK.out, decide_eq_true (p := 1 ≤ L.length) (by omega), decide_eq_true (p := L.length ≤ 40) (by omega)]; simp)
        obtain ⟨b, off, rfl, hcell⟩ := hc (by intro e; have := congrArg List.length e; rw [hrl, List.length_nil] at this; omega)
        have HC := Lib.hid hcell
        clear HK hc hcell
        go_wp2_with fail
        go_loopw [6] (fun i wr => ∃ k : Nat, k ≤ L.length ∧ i = .int .i64 k ∧ wr = w1 ∧ (L.take k).all okR = true) (fun i _ => L.length - (intOf i).toNat)
        case atStart => exact ⟨0, by omega, rfl, rfl, rfl⟩
        case round =>
          obtain ⟨k, hk, rfl, rfl, hall⟩ := hrel
          by_cases hlt : k < L.length
          · have y1 : (k : Int) < L.length := by omega
            have hcl := HC.out k (by rw [hrl]; exact hlt)
            have hge : (runeCs L)[k]'(by rw [hrl]; exact hlt) = .int .i32 ((L[k] : Nat) : Int) := by simp [runeCs]
            rw [hge] at hcl
            have hsn : (L.take (k + 1)).all okR = okR L[k] := by
              rw [List.take_succ_eq_append_getElem hlt, List.all_append, hall]
              simp
            have hmem : L[k] ∈ L := List.getElem_mem hlt
            have hin : okR L[k] = false → L.all okR = false := fun h => List.all_eq_false.2 ⟨_, hmem, by rw [h]; simp⟩
            generalize L[k] = r at *
            have HS := Lib.hid (And.intro hsn hin)
            clear hsn hin hall hge hmem
            by_cases p1 : r < 32
            · have x1 : (r : Int) < 32 := by omega
              have D : K = false := by rw [HK2.out]; exact HS.out.2 (by unfold okR; rw [decide_eq_false (by omega)]; rfl)
              subst D
              clear HK2 HS
              go_wp2_with fail
              go_ret
              exact ⟨rfl, HB.out⟩
            · have x1 : ¬ (r : Int) < 32 := by omega
              have x1' : decide ((r : Int) < 32) = false := decide_eq_false x1
              by_cases p2 : r = 127
              · have x2 : (r : Int) = 127 := by omega
                have D : K = false := by rw [HK2.out]; exact HS.out.2 (by unfold okR; rw [p2]; rfl)
                subst D
                clear HK2 HS
                go_wp2_with fail
                go_ret
                exact ⟨rfl, HB.out⟩
              · have x2 : ¬ (r : Int) = 127 := by omega
                have x2' : ((r : Int) == 127) = false := by simpa using x2
                have HO : Hid (okR r = true) := Lib.hid (by unfold okR; rw [decide_eq_true (p := 32 ≤ r) (by omega), decide_eq_true (p := r ≠ 127) p2]; rfl)
                go_wp2_with fail
                go_roundw
                case rel => exact ⟨k + 1, by omega, by go_num, (by first | exact rfl | trivial), by rw [HS.out.1]; exact HO.out⟩
                case measure => simp [intOf]; omega
          · obtain rfl : k = L.length := by omega
            rw [List.take_length] at hall
            have D : K = true := by rw [HK2.out, hall]
            subst D
            clear HK2 hall
            go_wp2_with fail
            go_ret
            exact ⟨rfl, HB.out⟩
set_option maxRecDepth 100000 in
set_option maxHeartbeats 1000000 in
theorem ref_may (s : ByteArray) (w : World) (hs : s.size ≤ 1048576) :
    Calls Tryz.prog 6 #[.agg #[.int .i64 2, .int .i64 0, .string s]] w fun e w' => e = .returned (.bool (Lib.validD s.data.toList && decide (s.size ≤ 200))) ∧ Below w.heap.size w w' := by
  have hC := C3.new w (.int .i64 2) (.int .i64 0) (.string s) 24
  have hbA := (Below.refl w.heap.size w).alloc (Nat.le_refl _) (.cells #[.int .i64 2, .int .i64 0, .string s] 24)
  have hrun := ref_runes s (w.alloc (.cells #[.int .i64 2, .int .i64 0, .string s] 24)) hs
  generalize Lib.validD s.data.toList = V at *
  generalize runesL s.size s.data.toList = L at *
  have c0 := hC.c0
  have c1 := hC.c1
  have c2 := hC.c2
  have HR := Lib.hid (And.intro hrun (And.intro hC hbA))
  clear hrun hC hbA
  go_enter Tryz.func6, Tryz.ntmps6
  go_wp2_with fail
  refine HR.out.1.mono ?_
  rintro e w1 ⟨v, u, rfl, hrow, hb⟩
  have hC1 := HR.out.2.1.keeps (Keeps.of_below (F := []) hb) (by simp)
  have hbz := HR.out.2.2.trans (hb.mono HR.out.2.2.size)
  have d1 := hC1.c1
  have d2 := hC1.c2
  have HB := Lib.hid hbz
  clear hrow hb hC1 HR c0 c1 c2 hbz
  cases V with
  | false =>
    go_wp2_with fail
    go_ret
    exact ⟨rfl, HB.out⟩
  | true =>
    by_cases q : s.size ≤ 200
    · have z : (s.size : Int) ≤ 200 := by omega
      have D : Hid (decide (s.size ≤ 200) = true) := Lib.hid (decide_eq_true q)
      go_wp2_with fail
      go_ret
      exact ⟨by rw [D.out]; simp [z], HB.out⟩
    · have z : ¬ (s.size : Int) ≤ 200 := by omega
      have D : Hid (decide (s.size ≤ 200) = false) := Lib.hid (decide_eq_false q)
      go_wp2_with fail
      go_ret
      exact ⟨by rw [D.out]; simp [z], HB.out⟩
theorem keyed_walk (s : ByteArray) (w : World) (hs : s.size ≤ 1048576) :
    Calls Tryz.prog 5 #[.string s] w fun e w' => e = .returned (.bool (keyB s.data.toList)) ∧ Below w.heap.size w w' := by
  have hk := ref_key s w hs
  generalize keyB s.data.toList = K at *
  go_enter Tryz.func5, Tryz.ntmps5
  go_wp2_with fail
  refine hk.mono ?_
  rintro e w1 ⟨rfl, hb⟩
  go_wp2_with fail
  go_ret
  exact ⟨rfl, hb⟩
theorem keyRF_sound {o : FS} (ho : SoundF Tryz.prog 16 o) : SoundF Tryz.prog 16 (keyRF o) := by
  refine arm1_sound keyG_det (fun ρ h w B s v k E hx hk => ?_) ho
  obtain ⟨i, rfl, h1⟩ := Sy.on_os_spec hk
  obtain ⟨hi, h2⟩ := ifT_eq h1
  subst hi
  cases hx with
  | os _ h0 hy =>
    refine (ref_key (txt ρ 0) w (by have := hy.2.1; have := syLen_ok 0; omega)).mono ?_
    rintro e w' ⟨rfl, hb⟩
    rw [keyB_iff.2 hy.2.2.key]
    exact Left.of_below E hb (.b true) h2
theorem runesF_sound {o : FS} (ho : SoundF Tryz.prog 17 o) : SoundF Tryz.prog 17 (runesF o) := by
  refine arm1_sound runesG_det (fun ρ h w B s v k E hx hk => ?_) ho
  obtain ⟨i, rfl, h1⟩ := Sy.on_os_spec hk
  obtain ⟨hi, h2⟩ := ifT_eq h1
  subst hi
  cases hx with
  | os _ h0 hy =>
    refine (ref_runes (txt ρ 1) w (by have := hy.2.1; have := syLen_ok 1; omega)).mono ?_
    rintro e w' ⟨v, u, rfl, _, hb⟩
    rw [hy.2.2.valid]
    exact Left.of_below E hb (.t _ [_, _, _] (.cons _ _ _ _ (.d _) (.cons _ _ _ _ (.d _) (.cons _ _ _ _ (.b true) .nil)))) h2
end Go.Proofs.YtmddhlfjilkdfaaGreatDoor
