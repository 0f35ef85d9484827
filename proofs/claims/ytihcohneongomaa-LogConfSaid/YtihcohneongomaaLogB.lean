/-
  No claim by itself: the first lines of the laws on logs return true. No condition.
-/
import Derived.Test.YtihcohneongomaaRlog8
namespace Go.Proofs.Ytihcohneongomaa
open Go.ChangeShapes Go.WideShapes Go.ChangeAt Go.RowKit

/-- A literal slice of entries that the walk has just built. -/
theorem EntR.fresh (w : World) (es : List Ent) (T : TypeId) (fr : Nat × Nat) (arr : Array Value) (n : Nat) (hn : n = es.length) (h : arr = (es.flatMap entCells).toArray) (hl : es.length ≤ 1000000) :
    EntR (w.alloc (.cells arr T fr)) (.slice (some ⟨w.heap.size, 0, none⟩) n n) es := by
  subst h hn
  refine ⟨_, _, rfl, Nat.le_refl _, by omega, fun k hk => ⟨_, _, rfl, by simp, fun j u hu => ?_⟩⟩
  have hj : j < 4 := by have := (List.getElem?_eq_some_iff.1 hu).1; simpa [entCells] using this
  rw [Nat.zero_add, cell_of_row (w.alloc _) w.heap.size _ _ T fr (heap_alloc_new w _), List.getElem?_toArray, entCells_get es k hk j hj]
  exact hu

def entA (i t : Int) : Ent := ⟨i, t, 0, .empty⟩
def snpA (i t : Int) : Snp := ⟨i, t, .empty, .empty⟩

set_option maxRecDepth 100000 in
set_option maxHeartbeats 4000000 in
theorem log_begun (w : World) : Calls Try.prog 15 #[] w fun e w' => e = .returned (.bool true) ∧ Below w.heap.size w w' := by
  have N1 : newOk (snpA 4 2) [entA 5 2, entA 6 3] = true := by kernel_rfl
  have P1 : Hid (putP (snpA 4 2) [entA 5 2, entA 6 3] [entA 6 4, entA 7 4] = ((6, true), [entA 5 2, entA 6 4, entA 7 4])) := Lib.hid (by kernel_rfl)
  have T1 : Hid (termP (snpA 4 2) [entA 5 2, entA 6 4, entA 7 4] 6 = (4, true)) := Lib.hid (by kernel_rfl)
  have L1 : Hid (lastP (snpA 4 2) [entA 5 2, entA 6 4, entA 7 4] = 7) := Lib.hid (by kernel_rfl)
  have G1 : Hid ((getP (snpA 4 2) [entA 5 2, entA 6 4, entA 7 4] 6 9).length = 2) := Lib.hid (by kernel_rfl)
  have F1 : Hid (fitsP (snpA 4 2) [entA 5 2, entA 6 4, entA 7 4] 4 2 = true) := Lib.hid (by kernel_rfl)
  have W1 : Hid (newerP (snpA 4 2) [entA 5 2, entA 6 4, entA 7 4] 7 4 = true) := Lib.hid (by kernel_rfl)
  have W2 : Hid (newerP (snpA 4 2) [entA 5 2, entA 6 4, entA 7 4] 6 4 = false) := Lib.hid (by kernel_rfl)
  have K1 : Hid (packOk (snpA 4 2) [entA 5 2, entA 6 4, entA 7 4] (snpA 6 4) = true) := Lib.hid (by kernel_rfl)
  have B1 : LogB (snpA 4 2) [entA 5 2, entA 6 3] := ⟨by decide, by decide, by decide⟩
  have B2 : LogB (snpA 4 2) [entA 5 2, entA 6 4, entA 7 4] := ⟨by decide, by decide, by decide⟩
  have B3 : LogB (snpA 6 4) [entA 7 4] := ⟨by decide, by decide, by decide⟩
  have hE0 := EntR.fresh w [entA 5 2, entA 6 3] 37 (0, 0) _ 2 rfl rfl (by decide)
  have hb0 := (Below.refl w.heap.size w).alloc (Nat.le_refl _) (.cells ([entA 5 2, entA 6 3].flatMap entCells).toArray 37)
  have HB1 := Lib.hid B1
  have HB2 := Lib.hid B2
  have HB3 := Lib.hid B3
  have HN := Lib.hid N1
  clear B1 B2 B3 N1
  go_enter Try.func15, Try.ntmps15
  go_wp2_with fail
  refine (log_new (snpA 4 2) _ [entA 5 2, entA 6 3] _ hE0 (by decide)).mono ?_
  intro e w1 hr
  unfold RetNewL at hr
  rw [if_pos HN.out] at hr
  obtain ⟨b, lv, rfl, hS, hb1, hbw, hsi⟩ := hr
  have hba := hb0.trans (hb1.mono hb0.size)
  have hbw := Nat.le_trans hb0.size hbw
  clear hb0 hb1 hsi hE0
  have hE1 := EntR.fresh w1 [entA 6 4, entA 7 4] 37 (0, 0) _ 2 rfl rfl (by decide)
  have hb2 := (Below.refl w1.heap.size w1).alloc (Nat.le_refl _) (.cells ([entA 6 4, entA 7 4].flatMap entCells).toArray 37)
  have hS1 := hS.below hb2
  unfold logPtr
  go_wp2_with fail
  refine (log_put (s := snpA 4 2) (es := [entA 5 2, entA 6 3]) (fs := [entA 6 4, entA 7 4]) hS1 HB1.out hE1 (by decide) (by intro e he; simp only [List.mem_cons, List.not_mem_nil, or_false] at he; rcases he with rfl | rfl <;> exact ⟨by decide, by decide⟩)).mono ?_
  rintro e w2 ⟨lv2, rfl, hS2, hk2, -⟩
  rw [P1.out] at hS2 ⊢
  have hbb : Below w.heap.size w w2 := (hba.trans (hb2.mono hba.size)).trans ((hk2.below (B := w.heap.size) (fun x hx => by simp only [List.mem_singleton] at hx; omega) (by have := hba.size; have := hb2.size; omega)))
  clear hS1 hS hk2 hb2 hba hE1
  dsimp only at hS2 ⊢
  go_wp2_with fail
  refine (log_term 6 hS2 HB2.out).mono ?_
  rintro e w3 ⟨rfl, hb3⟩
  rw [T1.out]
  have hS3 := hS2.below hb3
  have hbb := hbb.trans (hb3.mono hbb.size)
  clear hS2 hb3
  dsimp only
  go_wp2_with fail
  refine (log_first hS3 HB2.out).mono ?_
  rintro e w3' ⟨rfl, rfl⟩
  rw [show (snpA 4 2).i = 4 from rfl]
  go_wp2_with fail
  refine (log_last hS3 HB2.out).mono ?_
  rintro e w4 ⟨rfl, n4, rfl⟩
  rw [L1.out]
  have hS4 := hS3.below (below_drewN' n4)
  have hbb := below_drewN hbb n4
  clear hS3
  generalize World.drewN _ n4 = w4 at *
  go_wp2_with fail
  refine (log_get 6 9 hS4 HB2.out).mono ?_
  rintro e w5 ⟨v5, rfl, ho5, hb5⟩
  obtain ⟨a5, c5, rfl⟩ := ho5.r.slice
  rw [G1.out]
  have hS5 := hS4.below hb5
  have hbb := hbb.trans (hb5.mono hbb.size)
  clear hS4 hb5 ho5
  go_wp2_with fail
  refine (log_fits 4 2 hS5 HB2.out).mono ?_
  rintro e w6 ⟨rfl, hb6⟩
  rw [F1.out]
  have hS6 := hS5.below hb6
  have hbb := hbb.trans (hb6.mono hbb.size)
  clear hS5 hb6
  go_wp2_with fail
  refine (log_newer 7 4 hS6 HB2.out).mono ?_
  rintro e w7 ⟨rfl, hb7⟩
  rw [W1.out]
  have hS7 := hS6.below hb7
  have hbb := hbb.trans (hb7.mono hbb.size)
  clear hS6 hb7
  go_wp2_with fail
  refine (log_newer 6 4 hS7 HB2.out).mono ?_
  rintro e w8 ⟨rfl, hb8⟩
  rw [W2.out]
  have hS8 := hS7.below hb8
  have hbb := hbb.trans (hb8.mono hbb.size)
  clear hS7 hb8
  go_wp2_with fail
  refine (log_pack (n := snpA 6 4) hS8 HB2.out).mono ?_
  rintro e w9 ⟨lv9, rfl, hk9, -, hS9⟩
  rw [K1.out, if_pos rfl] at hS9
  rw [K1.out]
  have hbb := hbb.trans ((hk9.below (B := w.heap.size) (fun x hx => by simp only [List.mem_singleton] at hx; omega) hbb.size))
  clear hS8 hk9
  go_wp2_with fail
  refine (log_first hS9 HB3.out).mono ?_
  rintro e w10 ⟨rfl, rfl⟩
  rw [show (snpA 6 4).i = 6 from rfl]
  go_wp2_with fail
  go_ret
  exact ⟨rfl, hbb⟩
end Go.Proofs.Ytihcohneongomaa
