/-
  No claim by itself: a snapshot in a block of its own. No condition.
-/
import Derived.Test.YtihcohneongomaaEnt
import Derived.Test.YtihcohneongomaaOwn
namespace Go.Proofs.Ytihcohneongomaa
open Go.ChangeShapes Go.WideShapes Go.ChangeAt Go.RowKit

/-- A snapshot in a block of its own. -/
structure SnapS (w : World) (b : Nat) (s : Snp) : Prop where
  lt : b < w.heap.size
  c0 : w.cell? ⟨b, 0, none⟩ = some (.int .i64 s.i)
  c1 : w.cell? ⟨b, 1, none⟩ = some (.int .i64 s.t)
  c2 : w.cell? ⟨b, 2, none⟩ = some (.string s.c)
  c3 : w.cell? ⟨b, 3, none⟩ = some (.string s.d)
  fr : ∀ j, w.frozen? ⟨b, j, none⟩ = false
theorem SnapS.below {w w' : World} {b : Nat} {s : Snp} (h : SnapS w b s) (hb : Below w.heap.size w w') : SnapS w' b s :=
  ⟨Nat.lt_of_lt_of_le h.lt hb.size, (hb.cell (p := ⟨b, 0, none⟩) h.lt).trans h.c0, (hb.cell (p := ⟨b, 1, none⟩) h.lt).trans h.c1, (hb.cell (p := ⟨b, 2, none⟩) h.lt).trans h.c2, (hb.cell (p := ⟨b, 3, none⟩) h.lt).trans h.c3, fun j => (hb.frozen (p := ⟨b, j, none⟩) h.lt).trans (h.fr j)⟩
theorem SnapS.keeps {w w' : World} {b : Nat} {s : Snp} {F : List Nat} (h : SnapS w b s) (hk : Keeps F w w') (hF : b ∉ F) : SnapS w' b s :=
  ⟨Nat.lt_of_lt_of_le h.lt hk.size, (hk.cell (p := ⟨b, 0, none⟩) h.lt hF).trans h.c0, (hk.cell (p := ⟨b, 1, none⟩) h.lt hF).trans h.c1, (hk.cell (p := ⟨b, 2, none⟩) h.lt hF).trans h.c2, (hk.cell (p := ⟨b, 3, none⟩) h.lt hF).trans h.c3, fun j => (hk.frozen (p := ⟨b, j, none⟩) h.lt hF).trans (h.fr j)⟩
theorem snapS_box (w : World) (s : Snp) (T : TypeId) : SnapS (w.alloc (.cells #[.int .i64 s.i, .int .i64 s.t, .string s.c, .string s.d] T)) w.heap.size s :=
  ⟨by simp, World.cell?_alloc_new _ _ _ _, World.cell?_alloc_new _ _ _ _, World.cell?_alloc_new _ _ _ _, World.cell?_alloc_new _ _ _ _, fun j => World.frozen?_alloc_new _ _ _ _⟩
theorem SnapS.set {w : World} {b : Nat} {s n : Snp} (h : SnapS w b s) : SnapS ((((w.setCell ⟨b, 0, none⟩ (.int .i64 n.i)).setCell ⟨b, 1, none⟩ (.int .i64 n.t)).setCell ⟨b, 2, none⟩ (.string n.c)).setCell ⟨b, 3, none⟩ (.string n.d)) b n ∧
    Keeps [b] w ((((w.setCell ⟨b, 0, none⟩ (.int .i64 n.i)).setCell ⟨b, 1, none⟩ (.int .i64 n.t)).setCell ⟨b, 2, none⟩ (.string n.c)).setCell ⟨b, 3, none⟩ (.string n.d)) := by
  have hk : Keeps [b] w ((((w.setCell ⟨b, 0, none⟩ (.int .i64 n.i)).setCell ⟨b, 1, none⟩ (.int .i64 n.t)).setCell ⟨b, 2, none⟩ (.string n.c)).setCell ⟨b, 3, none⟩ (.string n.d)) :=
    ((((Keeps.refl [b] w).setCell (.inl (by simp)) _).setCell (.inl (by simp)) _).setCell (.inl (by simp)) _).setCell (.inl (by simp)) _
  refine ⟨⟨Nat.lt_of_lt_of_le h.lt hk.size, ?_, ?_, ?_, ?_, fun j => ?_⟩, hk⟩
  · rw [World.cell?_setCell_other (h := by simp), World.cell?_setCell_other (h := by simp), World.cell?_setCell_other (h := by simp)]
    exact World.cell?_setCell_same _ _ _ h.c0
  · rw [World.cell?_setCell_other (h := by simp), World.cell?_setCell_other (h := by simp)]
    exact World.cell?_setCell_same _ _ _ (show World.cell? _ _ = some (.int .i64 s.t) from by rw [World.cell?_setCell_other (h := by simp)]; exact h.c1)
  · rw [World.cell?_setCell_other (h := by simp)]
    exact World.cell?_setCell_same _ _ _ (show World.cell? _ _ = some (.string s.c) from by rw [World.cell?_setCell_other (h := by simp), World.cell?_setCell_other (h := by simp)]; exact h.c2)
  · exact World.cell?_setCell_same _ _ _ (show World.cell? _ _ = some (.string s.d) from by rw [World.cell?_setCell_other (h := by simp), World.cell?_setCell_other (h := by simp), World.cell?_setCell_other (h := by simp)]; exact h.c3)
  · rw [World.frozen?_setCell, World.frozen?_setCell, World.frozen?_setCell, World.frozen?_setCell]; exact h.fr j

end Go.Proofs.Ytihcohneongomaa
