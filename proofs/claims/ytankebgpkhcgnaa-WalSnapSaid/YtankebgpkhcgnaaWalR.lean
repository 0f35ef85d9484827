/-
  No claim by itself: what the document says a record and a snapshot may be, and whether two are the same. No condition.
-/
import Derived.Test.YtankebgpkhcgnaaWal2
import Derived.Test.YtankebgpkhcgnaaEqEnt
namespace Go.Proofs.Ytankebgpkhcgnaa
open Go.ChangeShapes Go.WideShapes Go.ChangeAt Go.RowKit

def mayHd (t v : Int) : Bool := decide (0 ≤ t ∧ t ≤ 1099511627776 ∧ 0 ≤ v ∧ v ≤ 7)
theorem mayHd_iff {t v : Int} : mayHd t v = true ↔ 0 ≤ t ∧ t ≤ 1099511627776 ∧ 0 ≤ v ∧ v ≤ 7 := decide_eq_true_iff
def mayE (e : Ent) : Bool := decide (1 ≤ e.i ∧ e.i ≤ 1099511627776 ∧ 1 ≤ e.t ∧ e.t ≤ 1099511627776 ∧ 1 ≤ e.k ∧ e.k ≤ 3 ∧ e.d.size ≤ 2500)
theorem mayE_iff {e : Ent} : mayE e = true ↔ 1 ≤ e.i ∧ e.i ≤ 1099511627776 ∧ 1 ≤ e.t ∧ e.t ≤ 1099511627776 ∧ 1 ≤ e.k ∧ e.k ≤ 3 ∧ e.d.size ≤ 2500 := decide_eq_true_iff
def noE (e : Ent) : Bool := decide (e.i = 0 ∧ e.t = 0 ∧ e.k = 0 ∧ e.d.size = 0)
theorem noE_iff {e : Ent} : noE e = true ↔ e.i = 0 ∧ e.t = 0 ∧ e.k = 0 ∧ e.d.size = 0 := decide_eq_true_iff

theorem ref_mayHard (t v : Int) (w : World) : Calls Try.prog 62 #[.agg #[.int .i64 t, .int .i64 v]] w fun e w' => e = .returned (.bool (mayHd t v)) ∧ Below w.heap.size w w' := by
  have HB := Lib.hid (show ∀ a, Below w.heap.size w (w.alloc a) from fun a => (Below.refl w.heap.size w).alloc (Nat.le_refl _) _)
  have HM := Lib.hid (mayHd_iff (t := t) (v := v))
  rcases dec_cases (v ≤ 7) with ⟨hd, td⟩ | ⟨hd, td⟩
  all_goals
    go_enter Try.func62, Try.ntmps62
    go_wp2_with fail
  all_goals
    go_ret
    refine ⟨?_, HB.out _⟩
    first
      | (rw [show mayHd t v = true from HM.out.2 (by omega)]; rfl)
      | (rw [show mayHd t v = false from Bool.eq_false_iff.2 fun h => by have := HM.out.1 h; omega]; rfl)
set_option maxRecDepth 100000 in
theorem ref_mayEntry (e : Ent) (w : World) : Calls Try.prog 64 #[entAgg e] w fun x w' => x = .returned (.bool (mayE e)) ∧ Below w.heap.size w w' := by
  have HB := Lib.hid (show ∀ a, Below w.heap.size w (w.alloc a) from fun a => (Below.refl w.heap.size w).alloc (Nat.le_refl _) _)
  have HM := Lib.hid (mayE_iff (e := e))
  unfold entAgg
  rcases dec_cases ((e.d.size : Int) ≤ 2500) with ⟨hd, td⟩ | ⟨hd, td⟩
  all_goals
    go_enter Try.func64, Try.ntmps64
    go_wp2_with fail
  all_goals
    go_ret
    refine ⟨?_, HB.out _⟩
    first
      | (rw [show mayE e = true from HM.out.2 (by omega)]; rfl)
      | (rw [show mayE e = false from Bool.eq_false_iff.2 fun h => by have := HM.out.1 h; omega]; rfl)
set_option maxRecDepth 100000 in
theorem ref_maySnap (s : Snp) (w : World) : Calls Try.prog 46 #[snpAgg s] w fun x w' => x = .returned (.bool (mayS s)) ∧ Below w.heap.size w w' := by
  have HB := Lib.hid (show ∀ a, Below w.heap.size w (w.alloc a) from fun a => (Below.refl w.heap.size w).alloc (Nat.le_refl _) _)
  have HM := Lib.hid (mayS_iff (s := s))
  unfold snpAgg
  rcases dec_cases ((s.d.size : Int) ≤ 200000) with ⟨hd, td⟩ | ⟨hd, td⟩
  all_goals
    go_enter Try.func46, Try.ntmps46
    go_wp2_with fail
  all_goals
    go_ret
    refine ⟨?_, HB.out _⟩
    first
      | (rw [show mayS s = true from HM.out.2 (by omega)]; rfl)
      | (rw [show mayS s = false from Bool.eq_false_iff.2 fun h => by have := HM.out.1 h; omega]; rfl)
set_option maxRecDepth 100000 in
theorem ref_eqZero (e : Ent) (w : World) : Calls Try.prog 63 #[entAgg e, entAgg zeroE] w fun x w' => x = .returned (.bool (noE e)) ∧ Below w.heap.size w w' := by
  have HB := Lib.hid (show ∀ a b, Below w.heap.size w ((w.alloc a).alloc b) from fun a b => ((Below.refl w.heap.size w).alloc (Nat.le_refl _) _).alloc (by simp) _)
  have HM := Lib.hid (noE_iff (e := e))
  unfold entAgg zeroE
  rcases Nat.eq_zero_or_pos e.d.size with hd | hd
  all_goals rcases dec_cases (e.d.size = 0) with ⟨hs, -⟩ | ⟨hs, -⟩
  all_goals first | (exfalso; omega) | skip
  · have td : (e.d.toList == []) = true := by rw [(nil_iff _).2 hd]; rfl
    go_enter Try.func63, Try.ntmps63
    go_wp2_with fail
    all_goals
      go_ret
      refine ⟨?_, HB.out _ _⟩
      first
        | (rw [show noE e = true from HM.out.2 (by omega)]; rfl)
        | (rw [show noE e = false from Bool.eq_false_iff.2 fun h => by have := HM.out.1 h; omega]; rfl)
  · have td : (e.d.toList == []) = false := by
      rw [beq_eq_false_iff_ne]
      exact fun h => hs ((nil_iff _).1 h)
    go_enter Try.func63, Try.ntmps63
    go_wp2_with fail
    all_goals
      go_ret
      refine ⟨?_, HB.out _ _⟩
      rw [show noE e = false from Bool.eq_false_iff.2 fun h => by have := HM.out.1 h; omega]
      rfl

set_option maxRecDepth 100000 in
set_option maxHeartbeats 1000000 in
theorem ref_may (r : Rec) (w : World) : Calls Try.prog 34 #[recAgg r] w fun x w' => x = .returned (.bool (mayR r)) ∧ Below w.heap.size w w' := by
  have hb := (Below.refl w.heap.size w).alloc (Nat.le_refl _) (.cells #[.bool r.hd, .int .i64 r.t, .int .i64 r.v, .int .i64 r.e.i, .int .i64 r.e.t, .int .i64 r.e.k, .string r.e.d] 52)
  have hc := recS_box w r 52
  unfold recAgg
  by_cases hh : r.hd = true
  · have HM := Lib.hid (mayR_hd hh)
    obtain ⟨hd, t, v, ⟨i, t', k, d⟩⟩ := r
    obtain rfl : hd = true := hh
    dsimp only at *
    go_enter Try.func34, Try.ntmps34
    go_wp2_with fail
    refine (ref_mayHard t v _).mono ?_
    rintro e w1 ⟨rfl, hb1⟩
    have hc1 := hc.below hb1
    have hbw := hb.trans (hb1.mono hb.size)
    have y3 := hc1.c3
    have y4 := hc1.c4
    have y5 := hc1.c5
    have y6 := hc1.c6
    dsimp only at y3 y4 y5 y6
    cases hx : mayHd t v with
    | false =>
      have hf : mayR ⟨true, t, v, ⟨i, t', k, d⟩⟩ = false := Bool.eq_false_iff.2 fun h => by
        have h1 := HM.out.1 h
        rw [mayHd_iff.2 ⟨h1.1, h1.2.1, h1.2.2.1, h1.2.2.2.1⟩] at hx
        cases hx
      have HF := Lib.hid hf
      clear hf hb hb1 hc hc1
      go_wp2_with fail
      go_ret
      rw [HF.out]
      exact ⟨rfl, hbw⟩
    | true =>
      have h1 := mayHd_iff.1 hx
      have hf : mayR ⟨true, t, v, ⟨i, t', k, d⟩⟩ = noE ⟨i, t', k, d⟩ := by
        rw [Bool.eq_iff_iff, HM.out, noE_iff]
        exact ⟨fun h => ⟨h.2.2.2.2.1, h.2.2.2.2.2.1, h.2.2.2.2.2.2.1, h.2.2.2.2.2.2.2⟩, fun h => ⟨h1.1, h1.2.1, h1.2.2.1, h1.2.2.2, h.1, h.2.1, h.2.2.1, h.2.2.2⟩⟩
      have HF := Lib.hid hf
      clear hf hb hb1 hc hc1 h1
      go_wp2_with fail
      refine (ref_eqZero ⟨i, t', k, d⟩ _).mono ?_
      rintro e w2 ⟨rfl, hb2⟩
      have hbw2 := hbw.trans (hb2.mono hbw.size)
      go_wp2_with fail
      go_ret
      rw [HF.out]
      exact ⟨rfl, hbw2⟩
  · have hh : r.hd = false := by simpa using hh
    have HM := Lib.hid (mayR_en hh)
    obtain ⟨hd, t, v, ⟨i, t', k, d⟩⟩ := r
    obtain rfl : hd = false := hh
    dsimp only at *
    by_cases z1 : t = 0
    · by_cases z2 : v = 0
      · subst z1 z2
        have hf : mayR ⟨false, 0, 0, ⟨i, t', k, d⟩⟩ = mayE ⟨i, t', k, d⟩ := by
          rw [Bool.eq_iff_iff, HM.out, mayE_iff]
          exact ⟨fun h => h.2.2, fun h => ⟨rfl, rfl, h⟩⟩
        have HF := Lib.hid hf
        clear hf
        go_enter Try.func34, Try.ntmps34
        go_wp2_with fail
        refine (ref_mayEntry ⟨i, t', k, d⟩ _).mono ?_
        rintro e w1 ⟨rfl, hb1⟩
        have hbw := hb.trans (hb1.mono hb.size)
        go_wp2_with fail
        go_ret
        rw [HF.out]
        exact ⟨rfl, hbw⟩
      · subst z1
        have HF : Hid (mayR ⟨false, 0, v, ⟨i, t', k, d⟩⟩ = false) := Lib.hid (Bool.eq_false_iff.2 fun h => z2 (HM.out.1 h).2.1)
        have tz : (v == 0) = false := beq_eq_false_iff_ne.2 z2
        go_enter Try.func34, Try.ntmps34
        go_wp2_with fail
        go_ret
        rw [HF.out]
        exact ⟨rfl, hb⟩
    · have HF : Hid (mayR ⟨false, t, v, ⟨i, t', k, d⟩⟩ = false) := Lib.hid (Bool.eq_false_iff.2 fun h => z1 (HM.out.1 h).1)
      have tz : (t == 0) = false := beq_eq_false_iff_ne.2 z1
      go_enter Try.func34, Try.ntmps34
      go_wp2_with fail
      go_ret
      rw [HF.out]
      exact ⟨rfl, hb⟩

set_option maxRecDepth 100000 in
theorem ref_eqRec (r : Rec) (w : World) : Calls Try.prog 38 #[recAgg r, recAgg r] w fun x w' => x = .returned (.bool true) ∧ Below w.heap.size w w' := by
  have HB := Lib.hid (show ∀ a b, Below w.heap.size w ((w.alloc a).alloc b) from fun a b => ((Below.refl w.heap.size w).alloc (Nat.le_refl _) _).alloc (by simp) _)
  obtain ⟨hd, t, v, ⟨i, t', k, d⟩⟩ := r
  unfold recAgg
  dsimp only
  go_enter Try.func38, Try.ntmps38
  go_wp2_with fail
  all_goals
    refine (eq_entry ⟨i, t', k, d⟩ _).mono ?_
    rintro e w1 ⟨rfl, hb1⟩
    have hbw := (HB.out (.cells #[.bool hd, .int .i64 t, .int .i64 v, .int .i64 i, .int .i64 t', .int .i64 k, .string d] 52) (.cells #[.bool hd, .int .i64 t, .int .i64 v, .int .i64 i, .int .i64 t', .int .i64 k, .string d] 52))
    have hbw2 := hbw.trans (hb1.mono hbw.size)
    go_wp2_with fail
    go_ret
    exact ⟨rfl, hbw2⟩
end Go.Proofs.Ytankebgpkhcgnaa
