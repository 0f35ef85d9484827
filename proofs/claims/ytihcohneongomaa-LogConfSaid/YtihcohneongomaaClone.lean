/-
  No claim by itself: slices.Clone of integers: a row of its own with the same integers. No condition.
-/
import Derived.Test.YtihcohneongomaaConf
import Derived.Lib.BufferMore
namespace Go.Proofs.Ytihcohneongomaa
open Go.ChangeShapes Go.WideShapes Go.ChangeAt Go.RowKit

theorem info_i64 : (Try.prog.info? 3).map (fun i => (i.zero, i.size, i.bytes)) = some (some (.int .i64 0), 1, 8) := by kernel_rfl

/-- A row of integers of its own. -/
def RowI (w : World) (v : Value) (l : List Int) : Prop := Row w 3 v (l.map (Value.int .i64))
theorem RowI.ri {w : World} {v : Value} {l : List Int} (h : RowI w v l) : RI w v l := Row.reads h
theorem RowI.keeps {w w' : World} {v : Value} {l : List Int} {F : List Nat} (h : RowI w v l) (hk : Keeps F w w') (hF : ∀ g, v.ownBlock = some g → g ∉ F) : RowI w' v l := Row.keeps h hk hF
theorem RowI.nil (w : World) : RowI w (.slice none 0 0) [] := Row.nil w _
theorem ints_oneCell (l : List Int) : ∀ u ∈ l.map (Value.int .i64), u.oneCell' = true := by
  intro u hu
  obtain ⟨_, _, rfl⟩ := List.mem_map.1 hu
  rfl

/-- What a call yields: a new row of integers. -/
def RetRow (w : World) (l : List Int) (e : Ending) (w' : World) : Prop :=
  ∃ v, e = .returned v ∧ RowI w' v l ∧ Below w.heap.size w w' ∧ ∀ k, v.ownBlock = some k → w.heap.size ≤ k

theorem Row.empty (w : World) (e : TypeId) : Row (w.alloc (.cells #[] e)) e (.slice (some ⟨w.heap.size, 0, none⟩) 0 0) [] := by
  refine ⟨rfl, .inr ⟨w.heap.size, 0, #[], rfl, Nat.zero_le _, ?_, Nat.le_refl _, by decide, rfl, rfl⟩⟩
  exact heap_alloc_new w _

end Go.Proofs.Ytihcohneongomaa
