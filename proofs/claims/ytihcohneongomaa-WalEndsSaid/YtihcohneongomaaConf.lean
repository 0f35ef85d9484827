/-
  No claim by itself: who belongs: slices.Index, slices.Contains, conf.Has, conf.May, and what the document says of them. No condition.
-/
import Derived.Test.YtihcohneongomaaRows
import Derived.Test.YtihcohneongomaaOwn
import Derived.Test.YtihcohneongomaaOpen
import Derived.WalkKit
import Derived.Deep.QuietTactic
import Derived.WalkSmall
namespace Go.Proofs.Ytihcohneongomaa
open Go.ChangeShapes Go.WideShapes Go.ChangeAt Go.RowKit

/-- A slice value that reads as int64 (or int). -/
def RI (w : World) (v : Value) (l : List Int) : Prop := Reads w v (l.map (Value.int .i64))

theorem RI.drewN {w : World} {v : Value} {l : List Int} (n : Nat) (h : RI w v l) : RI (w.drewN n) v l := Reads.below h (below_drewN (Below.refl _ _) n) rfl

theorem RI.open_ {w : World} {v : Value} {l : List Int} (h : RI w v l) : ∃ a cap, v = .slice a l.length cap ∧ l.length ≤ cap ∧ cap ≤ 9223372036854775807 ∧
    Hid (∀ k (h : k < l.length), ∃ b off, a = some ⟨b, off, none⟩ ∧ b < w.heap.size ∧ w.cell? ⟨b, off + k, none⟩ = some (.int .i64 l[k])) := by
  obtain ⟨a, cap, hv, h1, h2, hc⟩ := h
  rw [List.length_map] at hv h1
  refine ⟨a, cap, hv, h1, h2, Lib.hid fun k hk => ?_⟩
  obtain ⟨b, off, rfl, hcell⟩ := hc (by intro e; rw [List.map_eq_nil_iff] at e; subst e; simp at hk)
  have := hcell k (by rw [List.length_map]; exact hk)
  rw [List.getElem_map] at this
  exact ⟨b, off, rfl, World.block_lt_of_cell? w _ this, this⟩

theorem mem_take_succ {l : List Int} {k : Nat} {x : Int} (hk : k < l.length) (h : x ∉ l.take k) (hx : x ≠ l[k]) : x ∉ l.take (k + 1) := by
  have : l.take (k + 1) = l.take k ++ [l[k]] := by simp
  rw [this, List.mem_append, List.mem_singleton]
  rintro (h1 | h1)
  · exact h h1
  · exact hx h1

theorem ret_dec {p q : Prop} [Decidable p] [Decidable q] (h : p ↔ q) : Ending.returned (.bool (decide p)) = Ending.returned (.bool (decide q)) := by
  rw [decide_eq_decide.2 h]

def okAt (l : List Int) (i : Nat) : Bool := decide (1 ≤ l.getD i 0) && decide (l.getD i 0 ≤ 7) && (i == 0 || decide (l.getD (i - 1) 0 < l.getD i 0))
def mayC (l : List Int) : Bool := (List.range l.length).all (okAt l) && decide (0 < l.length)

theorem mayC_no {l : List Int} {k : Nat} (hk : k < l.length) (h : okAt l k = false) : mayC l = false := by
  unfold mayC
  rw [Bool.and_eq_false_iff]
  left
  rw [List.all_eq_false]
  exact ⟨k, List.mem_range.2 hk, by simp [h]⟩
theorem mayC_all {l : List Int} (h : ∀ j, j < l.length → okAt l j = true) : mayC l = decide (0 < l.length) := by
  unfold mayC
  rw [List.all_eq_true.2 (fun j hj => h j (List.mem_range.1 hj)), Bool.true_and]

theorem conf_may (v : Value) (l : List Int) (w : World) (h : RI w v l) :
    Calls Try.prog 100 #[v] w fun e w' => e = .returned (.bool (mayC l)) ∧ w' = w := by
  obtain ⟨a, cap, rfl, hcap, hcm, hc⟩ := h.open_
  go_enter Try.func100, Try.ntmps100
  go_wp2_with fail
  go_loop [7] (fun i => ∃ k : Nat, k ≤ l.length ∧ i = .int .i64 k ∧ Hid (∀ j, j < k → okAt l j = true)) (fun i => l.length - (intOf i).toNat)
  case atStart => exact ⟨0, by omega, rfl, Lib.hid (by intro j hj; omega)⟩
  case round =>
    obtain ⟨k, hk, rfl, hx⟩ := hrel
    by_cases hlt : k < l.length
    · obtain ⟨b, off, rfl, hbl, hcj⟩ := hc.out k hlt
      have hd : Hid (l.getD k 0 = l[k]) := Lib.hid (by simp [List.getD, hlt])
      have hno := fun h => mayC_no hlt h
      have hso : Hid (okAt l k = true → ∀ j, j < k + 1 → okAt l j = true) := Lib.hid fun h j hj => by
        rcases Nat.lt_succ_iff_lt_or_eq.1 hj with h1 | h1
        · exact hx.out j h1
        · rw [h1]; exact h
      by_cases hk0 : k = 0
      · subst hk0
        have hok : Hid (okAt l 0 = (decide (1 ≤ l[0]) && decide (l[0] ≤ 7))) := Lib.hid (by unfold okAt; rw [hd.out]; simp)
        clear hx hd
        rw [Nat.add_zero] at hcj
        generalize l[0]'hlt = x at hcj hok
        by_cases h1 : x < 1
        · have hm := Lib.hid (hno (by rw [hok.out]; simp; omega))
          clear hno
          go_wp2_with fail
          go_ret
          exact ⟨by rw [hm.out]; rfl, rfl⟩
        · by_cases h2 : 7 < x
          · have hm := Lib.hid (hno (by rw [hok.out]; simp; omega))
            clear hno
            go_wp2_with fail
            go_ret
            exact ⟨by rw [hm.out]; rfl, rfl⟩
          · have hs := Lib.hid (hso.out (by rw [hok.out]; simp; omega))
            clear hno hso
            go_wp2_with fail
            go_round
            case rel => exact ⟨1, by omega, by go_num, hs⟩
            case measure => simp [intOf]; omega
      · obtain ⟨b', off', hbo, _, hcj'⟩ := hc.out (k - 1) (by omega)
        simp only [Option.some.injEq, Addr.mk.injEq] at hbo
        obtain ⟨rfl, rfl, -⟩ := hbo
        have hd' : Hid (l.getD (k - 1) 0 = l[k - 1]'(by omega)) := Lib.hid (by simp [List.getD, show k - 1 < l.length by omega])
        have hok : Hid (okAt l k = (decide (1 ≤ l[k]) && decide (l[k] ≤ 7) && decide (l[k - 1]'(by omega) < l[k]))) := Lib.hid (by unfold okAt; rw [hd.out, hd'.out, show (k == 0) = false from beq_eq_false_iff_ne.2 hk0, Bool.false_or])
        clear hx hd hd'
        generalize l[k]'hlt = x at hcj hok
        generalize l[k - 1]'(by omega) = y at hcj' hok
        obtain ⟨m, rfl⟩ : ∃ m, k = m + 1 := ⟨k - 1, by omega⟩
        rw [show m + 1 - 1 = m from rfl] at hcj'
        by_cases h1 : x < 1
        · have hm := Lib.hid (hno (by rw [hok.out]; simp; omega))
          clear hno
          go_wp2_with fail
          go_ret
          exact ⟨by rw [hm.out]; rfl, rfl⟩
        · by_cases h2 : 7 < x
          · have hm := Lib.hid (hno (by rw [hok.out]; simp; omega))
            clear hno
            go_wp2_with fail
            go_ret
            exact ⟨by rw [hm.out]; rfl, rfl⟩
          · by_cases h3 : x ≤ y
            · have hm := Lib.hid (hno (by rw [hok.out]; simp; omega))
              clear hno
              go_wp2_with fail
              go_ret
              exact ⟨by rw [hm.out]; rfl, rfl⟩
            · have hs := Lib.hid (hso.out (by rw [hok.out]; simp; omega))
              clear hno hso
              go_wp2_with fail
              go_round
              case rel => exact ⟨m + 1 + 1, by omega, by go_num, hs⟩
              case measure => simp [intOf]; omega
    · have hkl : k = l.length := by omega
      subst hkl
      have hm := Lib.hid (mayC_all hx.out)
      go_wp2_with fail
      go_ret
      exact ⟨by rw [hm.out]; first | rfl | simp, rfl⟩

/-- How many of them say yes. -/
def cnt (yes : List Int) (l : List Int) : Nat := l.countP fun x => decide (x ∈ yes)
theorem cnt_le (yes l : List Int) : cnt yes l ≤ l.length := List.countP_le_length
theorem cnt_snoc (yes l : List Int) (k : Nat) (h : k < l.length) : cnt yes (l.take (k + 1)) = cnt yes (l.take k) + if l[k] ∈ yes then 1 else 0 := by
  have : l.take (k + 1) = l.take k ++ [l[k]] := by simp
  rw [this]
  unfold cnt
  rw [List.countP_append, List.countP_singleton]
  simp only [decide_eq_true_eq]
def majC (l yes : List Int) : Bool := mayC l && decide (2 * cnt yes l > l.length)

end Go.Proofs.Ytihcohneongomaa
