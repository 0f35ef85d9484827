/-
  No claim by itself: what records and snapshots may be, told by the program. No condition.
-/
import Derived.Test.YtihcohneongomaaWalPlain
import Derived.Test.YtihcohneongomaaNum3
import Derived.Test.YtihcohneongomaaFrameOpen
import Derived.Test.YtihcohneongomaaConf
namespace Go.Proofs.Ytihcohneongomaa
open Go.ChangeShapes Go.WideShapes Go.ChangeAt Go.RowKit

theorem inN_no {lo hi : Int} {l : List Int} {k : Nat} (h : k < l.length) (hn : ¬ (lo ≤ l[k] ∧ l[k] ≤ hi)) : inN lo hi l = false := by
  unfold inN
  rw [List.all_eq_false]
  exact ⟨l[k], List.getElem_mem h, by simpa using hn⟩
theorem inN_yes {lo hi : Int} {l : List Int} (h : ∀ k (h : k < l.length), lo ≤ l[k] ∧ l[k] ≤ hi) : inN lo hi l = true := by
  unfold inN
  rw [List.all_eq_true]
  intro x hx
  obtain ⟨k, hk, rfl⟩ := List.mem_iff_getElem.1 hx
  simpa using h k hk

set_option maxHeartbeats 1000000 in
theorem wal_in (lo hi : Int) (v : Value) (l : List Int) (w : World) (h : RI w v l) :
    Calls Try.prog 65 #[.int .i64 lo, .int .i64 hi, v] w fun e w' => e = .returned (.bool (inN lo hi l)) ∧ w' = w := by
  obtain ⟨a, cap, rfl, hcap, hcm, hc⟩ := h.open_
  clear h
  go_enter Try.func65, Try.ntmps65
  go_wp2_with fail
  go_loop [8, 11] (fun _ i => ∃ k : Nat, k ≤ l.length ∧ i = .int .i64 k ∧ Hid (∀ j (h : j < l.length), j < k → lo ≤ l[j] ∧ l[j] ≤ hi)) (fun _ i => l.length - (intOf i).toNat)
  case atStart => exact ⟨0, by omega, rfl, Lib.hid (by intro j _ hj; omega)⟩
  case round =>
    obtain ⟨k, hk, rfl, hx⟩ := hrel
    by_cases hlt : k < l.length
    · obtain ⟨b, off, rfl, hbl, hcj⟩ := hc.out k hlt
      by_cases h1 : l[k] < lo
      · have H := Lib.hid (inN_no hlt (lo := lo) (hi := hi) (by omega))
        go_wp2_with fail
        go_ret
        rw [H.out]; exact ⟨rfl, rfl⟩
      · by_cases h2 : hi < l[k]
        · have H := Lib.hid (inN_no hlt (lo := lo) (hi := hi) (by omega))
          go_wp2_with fail
          go_ret
          rw [H.out]; exact ⟨rfl, rfl⟩
        · go_wp2_with fail
          go_roundw
          case rel => exact ⟨k + 1, by omega, by go_num, Lib.hid fun j h hj => by
            by_cases e : j = k
            · subst e; omega
            · exact hx.out j h (by omega)⟩
          case measure => simp [intOf]; omega
    · have H := Lib.hid (inN_yes (lo := lo) (hi := hi) (fun j h => hx.out j h (by omega)))
      go_wp2_with fail
      go_ret
      rw [H.out]; exact ⟨rfl, rfl⟩
def recAgg (r : Rec) : Value := .agg #[.bool r.hd, .int .i64 r.t, .int .i64 r.v, .int .i64 r.e.i, .int .i64 r.e.t, .int .i64 r.e.k, .string r.e.d]

theorem mayR_hd {r : Rec} (h : r.hd = true) : mayR r = true ↔ 0 ≤ r.t ∧ r.t ≤ 1099511627776 ∧ 0 ≤ r.v ∧ r.v ≤ 7 ∧ r.e.i = 0 ∧ r.e.t = 0 ∧ r.e.k = 0 ∧ r.e.d.size = 0 := by
  unfold mayR
  rw [if_pos h]
  simp only [Bool.and_eq_true, decide_eq_true_eq, beq_iff_eq, and_assoc]
theorem mayR_en {r : Rec} (h : r.hd = false) : mayR r = true ↔ r.t = 0 ∧ r.v = 0 ∧ 1 ≤ r.e.i ∧ r.e.i ≤ 1099511627776 ∧ 1 ≤ r.e.t ∧ r.e.t ≤ 1099511627776 ∧ 1 ≤ r.e.k ∧ r.e.k ≤ 3 ∧ r.e.d.size ≤ 2500 := by
  unfold mayR
  rw [if_neg (by simp [h])]
  simp only [Bool.and_eq_true, decide_eq_true_eq, beq_iff_eq, and_assoc]
theorem inN1 {lo hi x : Int} : inN lo hi [x] = true ↔ lo ≤ x ∧ x ≤ hi := by simp [inN]
theorem inN2 {lo hi x y : Int} : inN lo hi [x, y] = true ↔ (lo ≤ x ∧ x ≤ hi) ∧ lo ≤ y ∧ y ≤ hi := by simp [inN]
/-- May a snapshot be? -/
def mayS (s : Snp) : Bool := inN 0 1099511627776 [s.i, s.t] && decide (s.c.size ≤ 50) && decide (s.d.size ≤ 200000)
theorem RI.fresh1 (w : World) (T : TypeId) (x : Int) (b : Nat) (hb : w.heap.size = b) : RI (w.alloc (.cells #[.int .i64 x] T)) (.slice (some ⟨b, 0, none⟩) 1 1) [x] := by
  subst hb
  exact Reads.fresh w _ T (0, 0) _ _ rfl rfl (by simp)
theorem RI.fresh2 (w : World) (T : TypeId) (x y : Int) (b : Nat) (hb : w.heap.size = b) : RI (w.alloc (.cells #[.int .i64 x, .int .i64 y] T)) (.slice (some ⟨b, 0, none⟩) 2 2) [x, y] := by
  subst hb
  exact Reads.fresh w _ T (0, 0) _ _ rfl rfl (by simp)

theorem nil_iff (d : ByteArray) : d.toList = [] ↔ d.size = 0 := by
  rw [ByteArray.toList_eq, ← size_data, List.length_eq_zero_iff]
theorem mayS_iff {s : Snp} : mayS s = true ↔ 0 ≤ s.i ∧ s.i ≤ 1099511627776 ∧ 0 ≤ s.t ∧ s.t ≤ 1099511627776 ∧ s.c.size ≤ 50 ∧ s.d.size ≤ 200000 := by
  unfold mayS
  simp only [Bool.and_eq_true, decide_eq_true_eq, inN2, and_assoc]
theorem dec_cases (p : Prop) [Decidable p] : (p ∧ decide p = true) ∨ (¬ p ∧ decide p = false) := by
  by_cases h : p
  · exact .inl ⟨h, decide_eq_true h⟩
  · exact .inr ⟨h, decide_eq_false h⟩
theorem inN_dec {lo hi : Int} {l : List Int} (p : Prop) (h : inN lo hi l = true ↔ p) : (p ∧ inN lo hi l = true) ∨ (¬ p ∧ inN lo hi l = false) := by
  by_cases hp : p
  · exact .inl ⟨hp, h.2 hp⟩
  · exact .inr ⟨hp, Bool.eq_false_iff.2 fun e => hp (h.1 e)⟩

set_option maxRecDepth 100000 in
set_option maxHeartbeats 1000000 in
theorem wal_snapMay (s : Snp) (w : World) : Calls Try.prog 66 #[snpAgg s] w fun e w' => e = .returned (.bool (mayS s)) ∧ Below w.heap.size w w' := by
  have hb : ∀ a b, Below w.heap.size w ((w.alloc a).alloc b) := fun a b => ((Below.refl w.heap.size w).alloc (Nat.le_refl _) _).alloc (by simp) _
  have HB := Lib.hid hb
  have HM := Lib.hid (mayS_iff (s := s))
  clear hb
  unfold snpAgg
  go_enter Try.func66, Try.ntmps66
  go_wp2_with fail
  refine (wal_in 0 1099511627776 _ [s.i, s.t] _ (RI.fresh2 _ _ _ _ _ (by simp))).mono ?_
  rintro e w' ⟨rfl, rfl⟩
  rcases inN_dec (lo := 0) (hi := 1099511627776) _ (inN2 (x := s.i) (y := s.t)) with ⟨hp, hi⟩ | ⟨hp, hi⟩ <;> rw [hi] <;> clear hi
  all_goals rcases dec_cases ((s.d.size : Int) ≤ 200000) with ⟨hd, td⟩ | ⟨hd, td⟩
  all_goals
    have HP := Lib.hid hp
    clear hp
    go_wp2_with fail
    all_goals
      go_ret
      refine ⟨?_, HB.out _ _⟩
      first
        | (have hm : mayS s = true := HM.out.2 (by have := HP.out; (try simp only [nil_iff] at *) <;> omega)
           rw [hm]; rfl)
        | (have hm : mayS s = false := Bool.eq_false_iff.2 fun h => by
             have := HM.out.1 h
             have := HP.out; (try simp only [nil_iff] at *) <;> omega
           rw [hm]; rfl)
set_option maxRecDepth 100000 in
set_option maxHeartbeats 1000000 in
theorem wal_may (r : Rec) (w : World) : Calls Try.prog 41 #[recAgg r] w fun e w' => e = .returned (.bool (mayR r)) ∧ Below w.heap.size w w' := by
  have hb : ∀ a b, Below w.heap.size w ((w.alloc a).alloc b) := fun a b => ((Below.refl w.heap.size w).alloc (Nat.le_refl _) _).alloc (by simp) _
  have HB := Lib.hid hb
  clear hb
  have HB0 := Lib.hid (show ∀ a, Below w.heap.size w (w.alloc a) from fun a => (Below.refl w.heap.size w).alloc (Nat.le_refl _) _)
  unfold recAgg
  by_cases hh : r.hd = true
  · have HM := Lib.hid (mayR_hd hh)
    rw [hh]
    go_enter Try.func41, Try.ntmps41
    go_wp2_with fail
    refine (wal_in 0 1099511627776 _ [r.t] _ (RI.fresh1 _ _ _ _ (by simp))).mono ?_
    rintro e w' ⟨rfl, rfl⟩
    rcases inN_dec (lo := 0) (hi := 1099511627776) _ (inN1 (x := r.t)) with ⟨hp, hi⟩ | ⟨hp, hi⟩ <;> rw [hi] <;> clear hi
    all_goals
      have HP := Lib.hid hp
      clear hp
      go_wp2_with fail
    all_goals
      go_ret
      refine ⟨?_, HB.out _ _⟩
      first
        | (have hm : mayR r = true := HM.out.2 (by have := HP.out; (try simp only [nil_iff] at *) <;> omega)
           rw [hm]; rfl)
        | (have hm : mayR r = false := Bool.eq_false_iff.2 fun h => by
             have := HM.out.1 h
             have := HP.out; (try simp only [nil_iff] at *) <;> omega
           rw [hm]; rfl)
  · simp only [Bool.not_eq_true] at hh
    have HM := Lib.hid (mayR_en hh)
    rw [hh]
    by_cases hz : r.t = 0 ∧ r.v = 0
    · obtain ⟨z1, z2⟩ := hz
      go_enter Try.func41, Try.ntmps41
      go_wp2_with fail
      refine (wal_in 1 1099511627776 _ [r.e.i, r.e.t] _ (RI.fresh2 _ _ _ _ _ (by simp))).mono ?_
      rintro e w' ⟨rfl, rfl⟩
      rcases inN_dec (lo := 1) (hi := 1099511627776) _ (inN2 (x := r.e.i) (y := r.e.t)) with ⟨hp, hi⟩ | ⟨hp, hi⟩ <;> rw [hi] <;> clear hi
      all_goals rcases dec_cases ((r.e.d.size : Int) ≤ 2500) with ⟨hd, td⟩ | ⟨hd, td⟩
      all_goals
        have HP := Lib.hid hp
        clear hp
        go_wp2_with fail
      all_goals
        go_ret
        refine ⟨?_, HB.out _ _⟩
        first
          | (have hm : mayR r = true := HM.out.2 (by have := HP.out; (try simp only [nil_iff] at *) <;> omega)
             rw [hm]; rfl)
          | (have hm : mayR r = false := Bool.eq_false_iff.2 fun h => by
               have := HM.out.1 h
               have := HP.out; (try simp only [nil_iff] at *) <;> omega
             rw [hm]; rfl)
    · go_enter Try.func41, Try.ntmps41
      by_cases z1 : r.t = 0
      · have z2 : ¬ r.v = 0 := fun h => hz ⟨z1, h⟩
        clear hz
        go_wp2_with fail
        go_ret
        have hm : mayR r = false := Bool.eq_false_iff.2 fun h => by have := HM.out.1 h; omega
        rw [hm]
        exact ⟨rfl, HB0.out _⟩
      · clear hz
        go_wp2_with fail
        go_ret
        have hm : mayR r = false := Bool.eq_false_iff.2 fun h => by have := HM.out.1 h; omega
        rw [hm]
        exact ⟨rfl, HB0.out _⟩
end Go.Proofs.Ytihcohneongomaa
