/-
  No claim by itself: slices of slices of bytes: how they are read, and how an argument is opened to them. No condition.
-/
import Derived.Test.YtankebgpkhcgnaaOwn
import Derived.Test.YtankebgpkhcgnaaRecs
import Derived.Deep.Matrix
namespace Go.Proofs.Ytankebgpkhcgnaa
open Go.ChangeShapes Go.WideShapes Go.ChangeAt Go.RowKit Go.Deep

/-- A slice whose elements are slices of bytes. -/
def BRows (w : World) (v : Value) (rs : List (Value × List UInt8)) : Prop := Reads w v (rs.map (·.1)) ∧ ∀ r ∈ rs, Bytes w r.1 r.2

theorem BRows.below {w w' : World} {v : Value} {rs : List (Value × List UInt8)} (h : BRows w v rs) (hb : Below w.heap.size w w') : BRows w' v rs :=
  ⟨h.1.below hb rfl, fun r hr => (h.2 r hr).below hb rfl⟩

theorem open_rowsB {H : Type} {enc : TypeId × Value → H} {P : Program} {W : World} {base base' : Nat} {r : Reach} {t e q : TypeId} {v : Value} {d : DataW H} {ps : List MemPlace}
    (ht : P.underlying t = some (.slice e)) (he : P.underlying e = some (.slice q)) (hq : P.underlying q = some (.int .u8)) (ce : P.cellsOf e = 1) (cq : P.cellsOf q = 1)
    (hv : Value.okWide P W r base' t v) (h : DataW.Trod enc P W base (fun _ => true) true t v d ps) : ∃ rs, BRows W v rs := by
  obtain ⟨a0, len0, cap0, rfl⟩ := okWide_slice ht hv
  obtain ⟨fuel, hf⟩ := h
  rcases open_int_rows ht he hq ce cq hf with ⟨hcs, _⟩ | ⟨a, len, cap, A, L, C, Z, hcs, _, hl, hm, _, hx⟩
  · simp [Value.cells] at hcs
    obtain ⟨rfl, rfl, rfl⟩ := hcs
    exact ⟨[], ⟨none, 0, rfl, by simp, by omega, fun h => absurd rfl h⟩, by simp⟩
  · simp [Value.cells] at hcs
    obtain ⟨rfl, rfl, rfl⟩ := hcs
    have all : ∀ i, i < len0 → ∃ x : Value × List UInt8, W.cell? (a.add i) = some x.1 ∧ Bytes W x.1 x.2 := by
      intro i hi
      obtain ⟨h1, h2, h3, h4, h5, h6, h7⟩ := hx i (by omega)
      refine ⟨(.slice (A i) (L i) (C i), ((Z i).take (L i)).map fun n => UInt8.ofNat n.toNat), h1, ?_⟩
      have hlen : (((Z i).take (L i)).map fun n => UInt8.ofNat n.toNat).length = L i := by rw [List.length_map, List.length_take]; omega
      refine ⟨A i, C i, by rw [hlen], by rw [hlen]; exact h2, by simpa [maxLen] using h3, fun hne => ?_⟩
      have hpos : 0 < L i := by
        rcases Nat.eq_zero_or_pos (L i) with h | h
        · exact absurd (List.eq_nil_of_length_eq_zero (hlen.trans h)) hne
        · exact h
      cases hA : A i with
      | none => have := h6 hA; omega
      | some a' =>
        obtain ⟨_, hc⟩ := h7 a' hA
        obtain ⟨b, off, spot⟩ := a'
        have hspot : spot = none := by simpa [Addr.add] using World.cell?_spot (hc 0 (by omega))
        subst hspot
        refine ⟨b, off, rfl, fun j hj => ?_⟩
        rw [hlen] at hj
        have := hc j (by omega)
        rw [Addr.add_lit] at this
        rw [this]
        have hz : (Z i).getD j 0 = ((Z i).take (L i))[j]'(by rw [List.length_take]; omega) := by
          rw [List.getElem_take, List.getD_eq_getElem?_getD, List.getElem?_eq_getElem (by omega)]
          rfl
        have hw := wf_u8 (h5 _ (List.mem_of_mem_take (List.getElem_mem (show j < ((Z i).take (L i)).length by rw [List.length_take]; omega))))
        rw [hz]
        simp only [List.getElem_map, UInt8.toNat_ofNat']
        congr 2
        omega
    obtain ⟨rs, hrl, hrs⟩ := list_of_all (R := fun i (x : Value × List UInt8) => W.cell? (a.add i) = some x.1 ∧ Bytes W x.1 x.2) len0 all
    refine ⟨rs, ⟨some a, cap0, by rw [List.length_map, hrl], by rw [List.length_map, hrl]; exact hl, by simpa [maxLen] using hm, fun hne => ?_⟩, fun x hx => ?_⟩
    · have h0 : 0 < rs.length := by
        cases rs with
        | nil => simp at hne
        | cons _ _ => simp
      obtain ⟨b, off, spot⟩ := a
      have hspot : spot = none := by simpa [Addr.add] using World.cell?_spot (hrs 0 h0).1
      subst hspot
      refine ⟨b, off, rfl, fun j hj => ?_⟩
      rw [List.length_map] at hj
      have := (hrs j hj).1
      rw [Addr.add_lit] at this
      rw [this, List.getElem_map]
    · obtain ⟨i, hi, rfl⟩ := List.mem_iff_getElem.1 hx
      exact (hrs i hi).2
end Go.Proofs.Ytankebgpkhcgnaa
