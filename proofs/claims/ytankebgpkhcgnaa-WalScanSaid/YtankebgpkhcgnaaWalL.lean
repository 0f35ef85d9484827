/-
  No claim by itself: what the laws on records do with them: cut, turned into the program's, and back. No condition.
-/
import Derived.Test.YtankebgpkhcgnaaWalR2
import Derived.Test.YtankebgpkhcgnaaWalB
import Derived.Test.YtankebgpkhcgnaaWalD
namespace Go.Proofs.Ytankebgpkhcgnaa
open Go.ChangeShapes Go.WideShapes Go.ChangeAt Go.RowKit

theorem results_cell1 {fn : Func} {p : Tmp} {ty : TypeId} (h : fn.results = #[.cell p ty]) (tmps : Array Value) (P : Program) (w : World) (a : Addr) (v : Value)
    (hp : tmps.getD p undef = .pointer (some a)) (hl : (loadVar ty a).run P w = .ok v w) : (results fn tmps).run P w = .ok v w := by
  simp only [results, h]
  simp only [Array.getD_eq_getD_getElem?] at hp
  simp [Sem.run_bind, Result.andThen, hp, asAddr, hl]
def cutR (r : Rec) : Rec := { r with e := { r.e with d := ⟨(r.e.d.data.toList.take 300).toArray⟩ } }

set_option maxRecDepth 100000 in
theorem law_back (r : Rec) (w : World) : Calls Try.prog 39 #[recAgg r] w fun e w' => e = .returned (recAgg r) ∧ Below w.heap.size w w' := by
  have hx := recS_box (w.alloc (.cells #[.bool r.hd, .int .i64 r.t, .int .i64 r.v, .int .i64 r.e.i, .int .i64 r.e.t, .int .i64 r.e.k, .string r.e.d] 55)) r 52
  have hb := ((Below.refl w.heap.size w).alloc (Nat.le_refl _) (.cells #[.bool r.hd, .int .i64 r.t, .int .i64 r.v, .int .i64 r.e.i, .int .i64 r.e.t, .int .i64 r.e.k, .string r.e.d] 55)).alloc (by simp) (.cells #[.bool r.hd, .int .i64 r.t, .int .i64 r.v, .int .i64 r.e.i, .int .i64 r.e.t, .int .i64 r.e.k, .string r.e.d] 52)
  rw [show (w.alloc (.cells #[.bool r.hd, .int .i64 r.t, .int .i64 r.v, .int .i64 r.e.i, .int .i64 r.e.t, .int .i64 r.e.k, .string r.e.d] 55)).heap.size = w.heap.size + 1 from by simp] at hx
  unfold recAgg
  obtain ⟨hd, t, v, ⟨i, t', k, d⟩⟩ := r
  dsimp only at *
  go_enter Try.func39, Try.ntmps39
  go_wp2_with fail
  refine bodyPost_ret (results_cell1 rfl _ _ _ _ _ rfl (load_recR hx)) rfl ?_
  exact ⟨rfl, hb⟩
set_option maxRecDepth 100000 in
theorem law_of (r : Rec) (w : World) : Calls Try.prog 33 #[recAgg r] w fun e w' => e = .returned (recAgg r) ∧ Below w.heap.size w w' := by
  have hx := recS_box (w.alloc (.cells #[.bool r.hd, .int .i64 r.t, .int .i64 r.v, .int .i64 r.e.i, .int .i64 r.e.t, .int .i64 r.e.k, .string r.e.d] 52)) r 55
  have hb := ((Below.refl w.heap.size w).alloc (Nat.le_refl _) (.cells #[.bool r.hd, .int .i64 r.t, .int .i64 r.v, .int .i64 r.e.i, .int .i64 r.e.t, .int .i64 r.e.k, .string r.e.d] 52)).alloc (by simp) (.cells #[.bool r.hd, .int .i64 r.t, .int .i64 r.v, .int .i64 r.e.i, .int .i64 r.e.t, .int .i64 r.e.k, .string r.e.d] 55)
  rw [show (w.alloc (.cells #[.bool r.hd, .int .i64 r.t, .int .i64 r.v, .int .i64 r.e.i, .int .i64 r.e.t, .int .i64 r.e.k, .string r.e.d] 52)).heap.size = w.heap.size + 1 from by simp] at hx
  unfold recAgg
  obtain ⟨hd, t, v, ⟨i, t', k, d⟩⟩ := r
  dsimp only at *
  go_enter Try.func33, Try.ntmps33
  go_wp2_with fail
  refine bodyPost_ret (results_cell1 rfl _ _ _ _ _ rfl (load_rec hx)) rfl ?_
  exact ⟨rfl, hb⟩

set_option maxRecDepth 100000 in
theorem law_cut (r : Rec) (w : World) (hd : r.e.d.size ≤ 9223372036854775807) : Calls Try.prog 31 #[recAgg r] w fun e w' => e = .returned (recAgg (cutR r)) ∧ Below w.heap.size w w' := by
  have hx := recS_box w r 52
  have hy := recS_box (w.alloc (.cells #[.bool r.hd, .int .i64 r.t, .int .i64 r.v, .int .i64 r.e.i, .int .i64 r.e.t, .int .i64 r.e.k, .string r.e.d] 52)) zeroR 52
  have hb := ((Below.refl w.heap.size w).alloc (Nat.le_refl _) (.cells #[.bool r.hd, .int .i64 r.t, .int .i64 r.v, .int .i64 r.e.i, .int .i64 r.e.t, .int .i64 r.e.k, .string r.e.d] 52)).alloc (by simp) (.cells #[.bool false, .int .i64 0, .int .i64 0, .int .i64 0, .int .i64 0, .int .i64 0, .string .empty] 52)
  have hx2 := hx.below ((Below.refl _ _).alloc (Nat.le_refl _) (.cells #[.bool false, .int .i64 0, .int .i64 0, .int .i64 0, .int .i64 0, .int .i64 0, .string .empty] 52))
  rw [show (w.alloc (.cells #[.bool r.hd, .int .i64 r.t, .int .i64 r.v, .int .i64 r.e.i, .int .i64 r.e.t, .int .i64 r.e.k, .string r.e.d] 52)).heap.size = w.heap.size + 1 from by simp] at hy
  unfold recAgg
  unfold zeroR zeroE at hy
  have hE0 : (⟨#[]⟩ : ByteArray) = .empty := rfl
  unfold cutR
  obtain ⟨hd', t, v, ⟨i, t', k, d⟩⟩ := r
  dsimp only at *
  go_enter Try.func31, Try.ntmps31
  go_upto_region 1 with fail
  generalize hWW : (w.alloc _).alloc _ = w1 at *
  clear hWW hx
  have x6 := hx2.c6
  have xf := hx2.fr
  dsimp only at x6
  go_wp2_with fail
  refine (cut_any d 300 _ (by decide) hd).mono ?_
  rintro e w2 ⟨rfl, rfl⟩
  have hxs := hx2.setD ⟨(d.data.toList.take 300).toArray⟩
  have hys := hy.keeps (F := [w.heap.size]) ((Keeps.refl [w.heap.size] w2).setCell (p := ⟨w.heap.size, 6, none⟩) (.inl (by simp)) (.string ⟨(d.data.toList.take 300).toArray⟩)) (by simp)
  have hbs := hb.setCell (p := ⟨w.heap.size, 6, none⟩) (Nat.le_refl _) (.string ⟨(d.data.toList.take 300).toArray⟩)
  dsimp only at hxs
  go_upto_region 2 with fail
  generalize hWW : w2.setCell _ _ = w3 at *
  clear hWW x6 xf hx2 hb hy
  have y0 := hxs.c0
  have y1 := hxs.c1
  have y2 := hxs.c2
  have y3 := hxs.c3
  have y4 := hxs.c4
  have y5 := hxs.c5
  have y6 := hxs.c6
  have z0 := hys.c0
  have z1 := hys.c1
  have z2 := hys.c2
  have z3 := hys.c3
  have z4 := hys.c4
  have z5 := hys.c5
  have z6 := hys.c6
  have zf := hys.fr
  dsimp only at y0 y1 y2 y3 y4 y5 y6 z0 z1 z2 z3 z4 z5 z6
  go_wp2_with fail
  refine bodyPost_ret (results_cell1 rfl _ _ _ _ _ rfl (load_recR (hys.setAll ⟨hd', t, v, ⟨i, t', k, ⟨(d.data.toList.take 300).toArray⟩⟩⟩))) rfl ?_
  exact ⟨rfl, below_set7 hbs (by omega) _ _ _ _ _ _ _⟩
end Go.Proofs.Ytankebgpkhcgnaa
