/-
  No claim by itself: slices.Clone of integers: a row of its own with the same integers. No condition.
-/
import Derived.Test.YtankebgpkhcgnaaConf
import Derived.Lib.BufferMore
namespace Go.Proofs.Ytankebgpkhcgnaa
open Go.ChangeShapes Go.WideShapes Go.ChangeAt Go.RowKit

theorem info_i64 : (Try.prog.info? 3).map (fun i => (i.zero, i.size, i.bytes)) = some (some (.int .i64 0), 1, 8) := by kernel_rfl

/-- A row of integers of its own. -/
def RowI (w : World) (v : Value) (l : List Int) : Prop := Row w 3 v (l.map (Value.int .i64))
theorem RowI.ri {w : World} {v : Value} {l : List Int} (h : RowI w v l) : RI w v l := Row.reads h
theorem RowI.keeps {w w' : World} {v : Value} {l : List Int} {F : List Nat} (h : RowI w v l) (hk : Keeps F w w') (hF : ∀ g, v.ownBlock = some g → g ∉ F) : RowI w' v l := Row.keeps h hk hF
theorem RowI.nil (w : World) : RowI w (.slice none 0 0) [] := Row.nil w _
theorem ints_oneCell (l : List Int) : ∀ u ∈ l.map (Value.int .i64), u.oneCell' = true := by
  intro u hu
  obtain ⟨_, _, rfl⟩ := List.mem_map.1 hu
  rfl

/-- What a call yields: a new row of integers. -/
def RetRow (w : World) (l : List Int) (e : Ending) (w' : World) : Prop :=
  ∃ v, e = .returned v ∧ RowI w' v l ∧ Below w.heap.size w w' ∧ ∀ k, v.ownBlock = some k → w.heap.size ≤ k

theorem Row.empty (w : World) (e : TypeId) : Row (w.alloc (.cells #[] e)) e (.slice (some ⟨w.heap.size, 0, none⟩) 0 0) [] := by
  refine ⟨rfl, .inr ⟨w.heap.size, 0, #[], rfl, Nat.zero_le _, ?_, Nat.le_refl _, by decide, rfl, rfl⟩⟩
  exact heap_alloc_new w _

theorem sl_clone (v : Value) (l : List Int) (w : World) (h : RI w v l) (hl : l.length ≤ 1000000000) :
    Calls Try.prog 50 #[v] w fun e w' => RetRow w l e w' := by
  have hh := h
  obtain ⟨a, cap, rfl, hcap, hcm, hc⟩ := h
  rw [List.length_map] at hcap
  cases a with
  | none =>
    have hl0 : l = [] := by
      cases l with
      | nil => rfl
      | cons x l => obtain ⟨b, off, h, _⟩ := hc (by simp); cases h
    subst hl0
    have he : ∀ w : World, (binOp .eql 27 (.slice none 0 cap) (.slice none 0 0)).run Try.prog w = .ok (.bool true) w := fun W => Lib.run_eql_slice_nil_nil W _ _ Try.underlying27
    go_enter Try.func50, Try.ntmps50
    go_wp2_with fail
    go_ret
    exact ⟨_, rfl, RowI.nil _, Below.refl _ _, fun k hk => by cases hk⟩
  | some ad =>
    have hr := (Reads.below hh ((Below.refl w.heap.size w).alloc (Nat.le_refl _) (.cells #[] 3)) rfl)
    have he : ∀ w : World, (binOp .eql 27 (.slice (some ad) l.length cap) (.slice none 0 0)).run Try.prog w = .ok (.bool false) w := fun W => Lib.run_eql_slice_some_nil W _ _ _ Try.underlying27
    clear hc hh
    go_enter Try.func50, Try.ntmps50
    go_wp2_with (at_builtin; refine wpList_append_row 27 3 (.int .i64 0) 8 Try.underlying27 info_i64 rfl rfl _ _ rfl (Row.empty w _) hr (ints_oneCell l) rfl rfl (by simp [maxLen]; omega) (by simp; omega) ?_)
    intro v' w' ho hg hk
    have hb : Below w.heap.size w w' := ((Below.refl w.heap.size w).alloc (Nat.le_refl _) _).grown hg (by simp) (fun k hk => by simp [Value.ownBlock] at hk; omega)
    have hk' : ∀ k, v'.ownBlock = some k → w.heap.size ≤ k := fun k h => by
      rcases hk k h with h | h
      · simp [Value.ownBlock] at h; omega
      · omega
    clear hk hg
    go_wp2_with fail
    go_ret
    exact ⟨_, rfl, ho, hb, hk'⟩
end Go.Proofs.Ytankebgpkhcgnaa
