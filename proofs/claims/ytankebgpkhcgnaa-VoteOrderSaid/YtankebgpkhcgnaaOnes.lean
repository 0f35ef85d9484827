/-
  No claim by itself: slices whose elements are one value each (bool, string ..): how an argument is opened to them. No condition.
-/
import Derived.Test.YtankebgpkhcgnaaRecs
namespace Go.Proofs.Ytankebgpkhcgnaa
open Go.ChangeShapes Go.WideShapes Go.ChangeAt Go.RowKit Go.Deep

theorem open_ones {α H : Type} {enc : TypeId × Value → H} {P : Program} {W : World} {base base' : Nat} {r : Reach} (f : α → Value) (good : α → Prop) {t e : TypeId} {v : Value} {d : DataW H} {ps : List MemPlace}
    (ht : P.underlying t = some (.slice e)) (ce : P.cellsOf e = 1) (hv : Value.okWide P W r base' t v)
    (hel : ∀ (n : Nat) (V : Value) d, DataW.trod enc P W base (fun _ => true) true n e [V] = some d → ∃ x, V = f x ∧ good x)
    (h : DataW.Trod enc P W base (fun _ => true) true t v d ps) : ∃ xs : List α, Reads W v (xs.map f) ∧ ∀ x ∈ xs, good x := by
  obtain ⟨a0, len0, cap0, rfl⟩ := okWide_slice ht hv
  obtain ⟨fuel, hf⟩ := h
  rcases open_slice1 ht ce hf with ⟨hcs, _⟩ | ⟨a, len, cap, m, n, V, D, Pl, hcs, _, hl, hm, hmm, _, hx⟩
  · simp [Value.cells] at hcs
    obtain ⟨rfl, rfl, rfl⟩ := hcs
    exact ⟨[], ⟨none, 0, rfl, by simp, by omega, fun h => absurd rfl h⟩, by simp⟩
  · simp [Value.cells] at hcs
    obtain ⟨rfl, rfl, rfl⟩ := hcs
    have hmm' : m = cap0 := by simpa using hmm
    subst hmm'
    have all : ∀ i, i < len0 → ∃ x : α, W.cell? (a.add i) = some (f x) ∧ good x := by
      intro i hi
      obtain ⟨h1, h2⟩ := hx i (by omega)
      obtain ⟨x, h3, h4⟩ := hel _ _ _ h2
      exact ⟨x, by rw [h1, h3], h4⟩
    obtain ⟨xs, hrl, hrs⟩ := list_of_all (R := fun i (x : α) => W.cell? (a.add i) = some (f x) ∧ good x) len0 all
    refine ⟨xs, ⟨some a, m, by rw [List.length_map, hrl], by rw [List.length_map, hrl]; exact hl, by simpa [maxLen] using hm, fun hne => ?_⟩, fun x hx => ?_⟩
    · have h0 : 0 < xs.length := by
        cases xs with
        | nil => simp at hne
        | cons _ _ => simp
      obtain ⟨b, off, spot⟩ := a
      have hspot : spot = none := by simpa [Addr.add] using World.cell?_spot (hrs 0 h0).1
      subst hspot
      refine ⟨b, off, rfl, fun j hj => ?_⟩
      rw [List.length_map] at hj
      have := (hrs j hj).1
      rw [Addr.add_lit] at this
      rw [this, List.getElem_map]
    · obtain ⟨i, hi, rfl⟩ := List.mem_iff_getElem.1 hx
      exact (hrs i hi).2
end Go.Proofs.Ytankebgpkhcgnaa
