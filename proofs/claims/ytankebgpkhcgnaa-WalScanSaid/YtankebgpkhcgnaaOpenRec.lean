/-
  No claim by itself: how a record, and a slice of records, that came in are opened. No condition.
-/
import Derived.Test.YtankebgpkhcgnaaOpenEnt
import Derived.Test.YtankebgpkhcgnaaWal5
import Derived.Test.YtankebgpkhcgnaaWalR
namespace Go.Proofs.Ytankebgpkhcgnaa
open Go.ChangeShapes Go.WideShapes Go.ChangeAt Go.RowKit Go.Deep

def Rec.wf (r : Rec) : Prop := (-9223372036854775808 ≤ r.t ∧ r.t ≤ 9223372036854775807) ∧ (-9223372036854775808 ≤ r.v ∧ r.v ≤ 9223372036854775807) ∧ r.e.wf

section
variable {H : Type} {enc : TypeId × Value → H} {W : World} {base base' : Nat} {r : Reach}

set_option maxRecDepth 100000 in
theorem rec_of_trod {n : Nat} {cs : List Value} {x : DataW H × List MemPlace} (h : DataW.trod enc Try.prog W base (fun _ => true) true n 52 cs = some x) (hl : cs.length = 7) : ∃ r : Rec, cs = recCells r ∧ r.wf := by
  have k4 : Try.prog.cellsOf 4 = 1 := by kernel_rfl
  have k2 : Try.prog.cellsOf 2 = 1 := by kernel_rfl
  have k3 : Try.prog.cellsOf 3 = 1 := by kernel_rfl
  have k9 : Try.prog.cellsOf 9 = 1 := by kernel_rfl
  have kH : Try.prog.cellsOf 48 = 2 := by kernel_rfl
  have kE : Try.prog.cellsOf 50 = 4 := by kernel_rfl
  match cs, hl with
  | [c0, c1, c2, c3, c4, c5, c6], _ =>
    obtain ⟨y0, y1, y2, n1, -, -, h0, h1, h2⟩ := trod_struct3 Try.underlying52 h
    simp only [k4, kH, kE, List.drop, List.take] at h0 h1 h2
    obtain ⟨z1, z2, n2, -, -, g1, g2⟩ := trod_struct2 Try.underlying48 h1
    obtain ⟨z3, z4, z5, z6, n3, -, -, g3, g4, g5, g6⟩ := Go.Joins.trod_struct4 Try.underlying50 h2
    simp only [k2, k3, k9, List.drop, List.take] at g1 g2 g3 g4 g5 g6
    obtain ⟨x0, e0, _⟩ := DataW.trod_bool Try.underlying4 h0
    obtain ⟨x1, e1, _, w1⟩ := DataW.trod_int Try.underlying2 g1
    obtain ⟨x2, e2, _, w2⟩ := DataW.trod_int Try.underlying3 g2
    obtain ⟨x3, e3, _, w3⟩ := DataW.trod_int Try.underlying2 g3
    obtain ⟨x4, e4, _, w4⟩ := DataW.trod_int Try.underlying2 g4
    obtain ⟨x5, e5, _, w5⟩ := DataW.trod_int Try.underlying3 g5
    obtain ⟨x6, e6, _, w6⟩ := DataW.trod_string Try.underlying9 g6
    simp only [List.cons.injEq, and_true] at e0 e1 e2 e3 e4 e5 e6
    subst e0 e1 e2 e3 e4 e5 e6
    exact ⟨⟨x0, x1, x2, ⟨x3, x4, x5, x6⟩⟩, rfl, wf_i64 w1, wf_i64 w2, wf_i64 w3, wf_i64 w4, wf_i64 w5, w6⟩

set_option maxRecDepth 100000 in
theorem open_rec {v : Value} {d : DataW H} {ps : List MemPlace} (hv : Value.okWide Try.prog W r base' 52 v) (h : DataW.Trod enc Try.prog W base (fun _ => true) true 52 v d ps) : ∃ r : Rec, v = recAgg r ∧ r.wf := by
  obtain ⟨cs, rfl, hsz⟩ := okWide_struct Try.underlying52 hv
  have k7 : Try.prog.cellsOf 52 = 7 := by kernel_rfl
  obtain ⟨fuel, hf⟩ := h
  obtain ⟨r, hr, hw⟩ := rec_of_trod hf (by show cs.toList.length = 7; rw [Array.length_toList, hsz, k7])
  refine ⟨r, ?_, hw⟩
  have : cs.toList = recCells r := hr
  unfold recAgg
  congr 1
  apply Array.ext'
  exact this

/-- From the reading of an argument to its records: elements of whatever fields. -/
theorem open_recsG {α : Type} {P : Program} (f : α → List Value) (good : α → Prop) (m0 : Nat) {t e : TypeId} {v : Value} {d : DataW H} {ps : List MemPlace} (ht : P.underlying t = some (.slice e))
    (hC : P.cellsOf e = m0) (hpos : 0 < m0) (hv : Value.okWide P W r base' t v)
    (hel : ∀ vs : List Value, vs.length = m0 → (∃ n y, DataW.trod enc P W base (fun _ => true) true n e vs = some y) → ∃ x, f x = vs ∧ good x)
    (h : DataW.Trod enc P W base (fun _ => true) true t v d ps) : ∃ l, Recs m0 f W v l ∧ ∀ x ∈ l, good x := by
  obtain ⟨a0, len0, cap0, rfl⟩ := okWide_slice ht hv
  obtain ⟨fuel, hf⟩ := h
  rcases open_slice ht hf with ⟨hcs, _⟩ | ⟨a, len, cap, m, n, D, Pl, hcs, hb, hl, hm, hmm, hx, hi⟩
  · simp [Value.cells] at hcs
    obtain ⟨rfl, rfl, rfl⟩ := hcs
    exact ⟨[], ⟨none, 0, rfl, by simp, by omega, fun k hk => by simp at hk⟩, by simp⟩
  · simp [Value.cells] at hcs
    obtain ⟨rfl, rfl, rfl⟩ := hcs
    have hm' : m = cap0 := by simpa using hmm
    subst hm'
    have all : ∀ i, i < len0 → ∃ x, good x ∧ (f x).length = m0 ∧ ∀ j u, (f x)[j]? = some u → W.cell? (a.add (i * m0 + j)) = some u := by
      intro i hi'
      obtain ⟨cs', hc, ht'⟩ := hi i (by omega)
      rw [hC] at hc
      obtain ⟨_, hcl, hat⟩ := World.cells?_some hc
      obtain ⟨x, hx1, hx2⟩ := hel cs' hcl ⟨_, _, ht'⟩
      refine ⟨x, hx2, by rw [hx1, hcl], fun j u hu => ?_⟩
      rw [hx1] at hu
      have hjl : j < m0 := by rw [← hcl]; exact (List.getElem?_eq_some_iff.1 hu).1
      have := hat j hjl
      rw [hu] at this
      rw [← Go.Deep.add_add]
      exact this
    obtain ⟨l, hll, hlr⟩ := list_of_all len0 all
    have hla : ∀ x ∈ l, good x := fun x hx => by
      obtain ⟨i, hi, rfl⟩ := List.mem_iff_getElem.1 hx
      exact (hlr i hi).1
    by_cases h0 : len0 = 0
    · subst h0
      have : l = [] := List.eq_nil_of_length_eq_zero hll
      subst this
      exact ⟨[], ⟨some a, m, rfl, by simp, hm, fun k hk => by simp at hk⟩, by simp⟩
    refine ⟨l, ⟨some a, m, by rw [hll], by omega, hm, fun k hk => ?_⟩, hla⟩
    obtain ⟨_, h2, h3⟩ := hlr k hk
    have hne : (f l[k])[0]? = some ((f l[k])[0]'(by omega)) := List.getElem?_eq_getElem (by omega)
    have h0 := h3 0 _ hne
    obtain ⟨_, g2, g3⟩ := hlr 0 (by omega)
    have g0 := g3 0 _ (List.getElem?_eq_getElem (show 0 < (f l[0]).length by omega))
    obtain ⟨b, off, spot⟩ := a
    have hspot : spot = none := by simpa [Addr.add] using World.cell?_spot g0
    subst hspot
    refine ⟨b, off, rfl, ?_, fun j u hu => ?_⟩
    · rw [Addr.add_lit] at h0
      exact World.block_lt_of_cell? W _ h0
    · have := h3 j u hu
      rw [Addr.add_lit] at this
      rw [Nat.add_assoc]
      exact this
set_option maxRecDepth 100000 in
theorem open_recordsR {v : Value} {d : DataW H} {ps : List MemPlace} (hv : Value.okWide Try.prog W r base' 65 v) (h : DataW.Trod enc Try.prog W base (fun _ => true) true 65 v d ps) : ∃ rs : List Rec, Recs 7 recCells W v rs ∧ ∀ x ∈ rs, x.wf :=
  open_recsG recCells Rec.wf 7 Try.underlying65 (by kernel_rfl) (by decide) hv (fun vs hl ⟨_, _, h⟩ => by
    obtain ⟨r, hr, hw⟩ := rec_of_trod h hl
    exact ⟨r, hr.symm, hw⟩) h
end
end Go.Proofs.Ytankebgpkhcgnaa
