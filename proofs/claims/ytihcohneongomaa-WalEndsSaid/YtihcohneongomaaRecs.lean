/-
  No claim by itself: slices of structs whose fields are one value each: how they are read, and how an argument is opened to them. No condition.
-/
import Derived.Test.YtihcohneongomaaOwn
import Derived.Test.YtihcohneongomaaOpen
import Derived.Deep.Slices
import Derived.Deep.Fields
import Derived.ChangeSame
namespace Go.Proofs.Ytihcohneongomaa
open Go.ChangeShapes Go.WideShapes Go.ChangeAt Go.RowKit Go.Deep

/-- A slice value whose elements' cells read as this list tells. -/
def Recs {α : Type} (m : Nat) (f : α → List Value) (w : World) (v : Value) (xs : List α) : Prop :=
  ∃ a cap, v = .slice a xs.length cap ∧ xs.length ≤ cap ∧ cap ≤ 9223372036854775807 ∧
    ∀ k (h : k < xs.length), ∃ b off, a = some ⟨b, off, none⟩ ∧ b < w.heap.size ∧ ∀ j u, (f xs[k])[j]? = some u → w.cell? ⟨b, off + k * m + j, none⟩ = some u

theorem Recs.keeps {α : Type} {m : Nat} {f : α → List Value} {w w' : World} {v : Value} {xs : List α} (h : Recs m f w v xs) (hb : Below w.heap.size w w') : Recs m f w' v xs := by
  obtain ⟨a, cap, hv, h1, h2, h3⟩ := h
  refine ⟨a, cap, hv, h1, h2, fun k hk => ?_⟩
  obtain ⟨b, off, ha, hlt, hc⟩ := h3 k hk
  exact ⟨b, off, ha, Nat.lt_of_lt_of_le hlt hb.size, fun j u hu => by rw [hb.cell (p := ⟨b, off + k * m + j, none⟩) hlt]; exact hc j u hu⟩

theorem list_of_all {α : Type} {R : Nat → α → Prop} (n : Nat) (h : ∀ i, i < n → ∃ x, R i x) : ∃ l : List α, l.length = n ∧ ∀ i (h : i < l.length), R i l[i] := by
  induction n with
  | zero => exact ⟨[], rfl, fun i h => by simp at h⟩
  | succ n ih =>
    obtain ⟨l, hl, hr⟩ := ih (fun i hi => h i (by omega))
    obtain ⟨x, hx⟩ := h n (by omega)
    refine ⟨l ++ [x], by simp [hl], fun i hi => ?_⟩
    rcases Nat.lt_or_ge i l.length with h1 | h1
    · rw [List.getElem_append_left h1]; exact hr i h1
    · simp only [List.length_append, List.length_singleton] at hi
      obtain rfl : i = l.length := by omega
      rw [List.getElem_append_right (Nat.le_refl _)]
      simp only [Nat.sub_self, List.getElem_cons_zero]
      rw [hl]
      exact hx

section
variable {H : Type} {enc : TypeId × Value → H} {P : Program} {W : World} {base base' : Nat} {r : Reach}

/-- From the reading of an argument to its records. -/
theorem open_recs {α : Type} (f : α → List Value) (good : α → Prop) {t e : TypeId} {fs : Array Field} {v : Value} {d : DataW H} {ps : List MemPlace} (ht : P.underlying t = some (.slice e)) (he : P.underlying e = some (.struct fs))
    (hone : oneCellFields P fs = true) (hC : P.cellsOf e = fs.size) (hpos : 0 < fs.size) (hv : Value.okWide P W r base' t v)
    (hel : ∀ vs : List Value, vs.length = fs.size → (∀ (j : Nat) fd, fs[j]? = some fd → ∃ n y u, vs[j]? = some u ∧ DataW.trod enc P W base (fun _ => true) true n fd.type [u] = some y) → ∃ x, f x = vs ∧ good x)
    (h : DataW.Trod enc P W base (fun _ => true) true t v d ps) : ∃ l, Recs fs.size f W v l ∧ ∀ x ∈ l, good x := by
  obtain ⟨a0, len0, cap0, rfl⟩ := okWide_slice ht hv
  obtain ⟨fuel, hf⟩ := h
  rcases open_slice ht hf with ⟨hcs, _⟩ | ⟨a, len, cap, m, n, D, Pl, hcs, hb, hl, hm, hmm, hx, hi⟩
  · simp [Value.cells] at hcs
    obtain ⟨rfl, rfl, rfl⟩ := hcs
    exact ⟨[], ⟨none, 0, rfl, by simp, by omega, fun k hk => by simp at hk⟩, by simp⟩
  · simp [Value.cells] at hcs
    obtain ⟨rfl, rfl, rfl⟩ := hcs
    have hm' : m = cap0 := by simpa using hmm
    subst hm'
    have all : ∀ i, i < len0 → ∃ x, good x ∧ (f x).length = fs.size ∧ ∀ j u, (f x)[j]? = some u → W.cell? (a.add (i * fs.size + j)) = some u := by
      intro i hi'
      obtain ⟨cs', hc, ht'⟩ := hi i (by omega)
      rw [hC] at hc
      obtain ⟨ys, n', _, _, hlen, hyl, hfd⟩ := DataW.trod_struct he ht'
      obtain ⟨_, hcl, hat⟩ := World.cells?_some hc
      obtain ⟨x, hx1, hx2⟩ := hel cs' hcl (fun j fd hj => by
        obtain ⟨ho, hk⟩ := hone_of hone j fd hj
        have hjl : j < fs.size := (Array.getElem?_eq_some_iff.1 hj).1
        have h1 := hfd j fd hj
        rw [ho, hk] at h1
        have hone' : (cs'.drop j).take 1 = [cs'[j]'(by omega)] := by
          rw [List.drop_eq_getElem_cons (by omega)]
          rfl
        rw [hone'] at h1
        exact ⟨n', _, _, List.getElem?_eq_getElem (by omega), h1.trans (List.getElem?_eq_getElem (by omega))⟩)
      refine ⟨x, hx2, by rw [hx1, hcl], fun j u hu => ?_⟩
      rw [hx1] at hu
      have hjl : j < fs.size := by rw [← hcl]; exact (List.getElem?_eq_some_iff.1 hu).1
      have := hat j hjl
      rw [hu] at this
      rw [← Go.Deep.add_add]
      exact this
    obtain ⟨l, hll, hlr⟩ := list_of_all len0 all
    have hla : ∀ x ∈ l, good x := fun x hx => by
      obtain ⟨i, hi, rfl⟩ := List.mem_iff_getElem.1 hx
      exact (hlr i hi).1
    refine ⟨l, ⟨some a, m, by rw [hll], by omega, hm, fun k hk => ?_⟩, hla⟩
    obtain ⟨_, h2, h3⟩ := hlr k hk
    have hne : (f l[k])[0]? = some ((f l[k])[0]'(by omega)) := List.getElem?_eq_getElem (by omega)
    have h0 := h3 0 _ hne
    obtain ⟨_, g2, g3⟩ := hlr 0 (by omega)
    have g0 := g3 0 _ (List.getElem?_eq_getElem (show 0 < (f l[0]).length by omega))
    obtain ⟨b, off, spot⟩ := a
    have hspot : spot = none := by simpa [Addr.add] using World.cell?_spot g0
    subst hspot
    refine ⟨b, off, rfl, ?_, fun j u hu => ?_⟩
    · rw [Addr.add_lit] at h0
      exact World.block_lt_of_cell? W _ h0
    · have := h3 j u hu
      rw [Addr.add_lit] at this
      rw [Nat.add_assoc]
      exact this
end
end Go.Proofs.Ytihcohneongomaa
