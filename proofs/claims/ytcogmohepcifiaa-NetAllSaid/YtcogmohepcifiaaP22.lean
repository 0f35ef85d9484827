/-
  No claim by itself: how a message that came in is opened. No condition.
-/
import Derived.Test.YtcogmohepcifiaaP7
import Derived.Test.YtcogmohepcifiaaP21
namespace Go.Proofs.Ytcogmohepcifiaa
open Go.ChangeShapes Go.WideShapes Go.ChangeAt Go.RowKit Go.Deep

section
variable {H : Type} {enc : TypeId × Value → H} {W : World} {base base' : Nat} {r : Reach}

/-- From the reading of a field to its records: elements of whatever fields. -/
theorem recs_of_trod {α : Type} {P : Program} (f : α → List Value) (good : α → Prop) (m0 : Nat) {t e : TypeId} {v : Value} {fuel : Nat} {y : DataW H × List MemPlace} (ht : P.underlying t = some (.slice e))
    (hC : P.cellsOf e = m0) (hpos : 0 < m0)
    (hel : ∀ vs : List Value, vs.length = m0 → (∃ n y, DataW.trod enc P W base (fun _ => true) true n e vs = some y) → ∃ x, f x = vs ∧ good x)
    (hf : DataW.trod enc P W base (fun _ => true) true fuel t [v] = some y) : ∃ l, Recs m0 f W v l ∧ ∀ x ∈ l, good x := by
  rcases open_slice ht hf with ⟨hcs, _⟩ | ⟨a, len0, cap, m, n, D, Pl, hcs, hb, hl, hm, hmm, hx, hi⟩
  · simp only [List.cons.injEq, and_true] at hcs
    subst hcs
    exact ⟨[], ⟨none, 0, rfl, by simp, by omega, fun k hk => by simp at hk⟩, by simp⟩
  · simp only [List.cons.injEq, and_true] at hcs
    subst hcs
    have hm' : m = cap := by simpa using hmm
    subst hm'
    have all : ∀ i, i < len0 → ∃ x, good x ∧ (f x).length = m0 ∧ ∀ j u, (f x)[j]? = some u → W.cell? (a.add (i * m0 + j)) = some u := by
      intro i hi'
      obtain ⟨cs', hc, ht'⟩ := hi i (by omega)
      rw [hC] at hc
      obtain ⟨_, hcl, hat⟩ := World.cells?_some hc
      obtain ⟨x, hx1, hx2⟩ := hel cs' hcl ⟨_, _, ht'⟩
      refine ⟨x, hx2, by rw [hx1, hcl], fun j u hu => ?_⟩
      rw [hx1] at hu
      have hjl : j < m0 := by rw [← hcl]; exact (List.getElem?_eq_some_iff.1 hu).1
      have := hat j hjl
      rw [hu] at this
      rw [← Go.Deep.add_add]
      exact this
    obtain ⟨l, hll, hlr⟩ := list_of_all len0 all
    have hla : ∀ x ∈ l, good x := fun x hx => by
      obtain ⟨i, hi, rfl⟩ := List.mem_iff_getElem.1 hx
      exact (hlr i hi).1
    by_cases h0 : len0 = 0
    · subst h0
      have : l = [] := List.eq_nil_of_length_eq_zero hll
      subst this
      exact ⟨[], ⟨some a, m, rfl, by simp, hm, fun k hk => by simp at hk⟩, by simp⟩
    refine ⟨l, ⟨some a, m, by rw [hll], by omega, hm, fun k hk => ?_⟩, hla⟩
    obtain ⟨_, h2, h3⟩ := hlr k hk
    obtain ⟨_, g2, g3⟩ := hlr 0 (by omega)
    have g0 := g3 0 _ (List.getElem?_eq_getElem (show 0 < (f l[0]).length by omega))
    have h0 := h3 0 _ (List.getElem?_eq_getElem (show 0 < (f l[k]).length by omega))
    obtain ⟨b, off, spot⟩ := a
    have hspot : spot = none := by simpa [Addr.add] using World.cell?_spot g0
    subst hspot
    refine ⟨b, off, rfl, ?_, fun j u hu => ?_⟩
    · rw [Addr.add_lit] at h0
      exact World.block_lt_of_cell? W _ h0
    · have := h3 j u hu
      rw [Addr.add_lit] at this
      rw [Nat.add_assoc]
      exact this

set_option maxRecDepth 100000 in
theorem ent_of_trod {n : Nat} {cs : List Value} {x : DataW H × List MemPlace} (h : DataW.trod enc Try.prog W base (fun _ => true) true n 35 cs = some x) (hl : cs.length = 4) : ∃ e : Ent, entCells e = cs ∧ e.wf := by
  have k2 : Try.prog.cellsOf 2 = 1 := by kernel_rfl
  have k3 : Try.prog.cellsOf 3 = 1 := by kernel_rfl
  have k9 : Try.prog.cellsOf 9 = 1 := by kernel_rfl
  match cs, hl with
  | [c3, c4, c5, c6], _ =>
    obtain ⟨z3, z4, z5, z6, n3, -, -, g3, g4, g5, g6⟩ := Go.Joins.trod_struct4 Try.underlying35 h
    simp only [k2, k3, k9, List.drop, List.take] at g3 g4 g5 g6
    obtain ⟨x3, e3, _, w3⟩ := DataW.trod_int Try.underlying2 g3
    obtain ⟨x4, e4, _, w4⟩ := DataW.trod_int Try.underlying2 g4
    obtain ⟨x5, e5, _, w5⟩ := DataW.trod_int Try.underlying3 g5
    obtain ⟨x6, e6, _, w6⟩ := DataW.trod_string Try.underlying9 g6
    simp only [List.cons.injEq, and_true] at e3 e4 e5 e6
    subst e3 e4 e5 e6
    exact ⟨⟨x3, x4, x5, x6⟩, rfl, wf_i64 w3, wf_i64 w4, wf_i64 w5, w6⟩

set_option maxRecDepth 100000 in
set_option maxHeartbeats 1000000 in
theorem msg_of_trod {n : Nat} {cs : List Value} {x : DataW H × List MemPlace} (h : DataW.trod enc Try.prog W base (fun _ => true) true n 30 cs = some x) (hl : cs.length = 13) :
    ∃ (m : Msg) (ev : Value), cs = (msgCells ev m).toList ∧ EntR W ev m.es ∧ m.wf := by
  have k4 : Try.prog.cellsOf 4 = 1 := by kernel_rfl
  have k2 : Try.prog.cellsOf 2 = 1 := by kernel_rfl
  have k3 : Try.prog.cellsOf 3 = 1 := by kernel_rfl
  have k9 : Try.prog.cellsOf 9 = 1 := by kernel_rfl
  have kL : Try.prog.cellsOf 26 = 1 := by kernel_rfl
  have kE : Try.prog.cellsOf 35 = 4 := by kernel_rfl
  have kS : Try.prog.cellsOf 28 = 4 := by kernel_rfl
  match cs, hl with
  | [c0, c1, c2, c3, c4, c5, c6, c7, c8, c9, c10, c11, c12], _ =>
    obtain ⟨xs, n1, -, -, -, hxl, hf⟩ := DataW.trod_struct Try.underlying30 h
    have hx : ∀ i, i < 10 → ∃ y, xs[i]? = some y := fun i hi => ⟨_, List.getElem?_eq_getElem (show i < xs.length by rw [hxl]; exact hi)⟩
    obtain ⟨y0, q0⟩ := hx 0 (by decide)
    have f0 : DataW.trod enc Try.prog W base (fun _ => true) true n1 3 (([c0, c1, c2, c3, c4, c5, c6, c7, c8, c9, c10, c11, c12].drop 0).take (Try.prog.cellsOf 3)) = some y0 := (hf 0 _ rfl).trans q0
    obtain ⟨y1, q1⟩ := hx 1 (by decide)
    have f1 : DataW.trod enc Try.prog W base (fun _ => true) true n1 3 (([c0, c1, c2, c3, c4, c5, c6, c7, c8, c9, c10, c11, c12].drop 1).take (Try.prog.cellsOf 3)) = some y1 := (hf 1 _ rfl).trans q1
    obtain ⟨y2, q2⟩ := hx 2 (by decide)
    have f2 : DataW.trod enc Try.prog W base (fun _ => true) true n1 3 (([c0, c1, c2, c3, c4, c5, c6, c7, c8, c9, c10, c11, c12].drop 2).take (Try.prog.cellsOf 3)) = some y2 := (hf 2 _ rfl).trans q2
    obtain ⟨y3, q3⟩ := hx 3 (by decide)
    have f3 : DataW.trod enc Try.prog W base (fun _ => true) true n1 2 (([c0, c1, c2, c3, c4, c5, c6, c7, c8, c9, c10, c11, c12].drop 3).take (Try.prog.cellsOf 2)) = some y3 := (hf 3 _ rfl).trans q3
    obtain ⟨y4, q4⟩ := hx 4 (by decide)
    have f4 : DataW.trod enc Try.prog W base (fun _ => true) true n1 2 (([c0, c1, c2, c3, c4, c5, c6, c7, c8, c9, c10, c11, c12].drop 4).take (Try.prog.cellsOf 2)) = some y4 := (hf 4 _ rfl).trans q4
    obtain ⟨y5, q5⟩ := hx 5 (by decide)
    have f5 : DataW.trod enc Try.prog W base (fun _ => true) true n1 2 (([c0, c1, c2, c3, c4, c5, c6, c7, c8, c9, c10, c11, c12].drop 5).take (Try.prog.cellsOf 2)) = some y5 := (hf 5 _ rfl).trans q5
    obtain ⟨y6, q6⟩ := hx 6 (by decide)
    have f6 : DataW.trod enc Try.prog W base (fun _ => true) true n1 2 (([c0, c1, c2, c3, c4, c5, c6, c7, c8, c9, c10, c11, c12].drop 6).take (Try.prog.cellsOf 2)) = some y6 := (hf 6 _ rfl).trans q6
    obtain ⟨y7, q7⟩ := hx 7 (by decide)
    have f7 : DataW.trod enc Try.prog W base (fun _ => true) true n1 4 (([c0, c1, c2, c3, c4, c5, c6, c7, c8, c9, c10, c11, c12].drop 7).take (Try.prog.cellsOf 4)) = some y7 := (hf 7 _ rfl).trans q7
    obtain ⟨y8, q8⟩ := hx 8 (by decide)
    have f8 : DataW.trod enc Try.prog W base (fun _ => true) true n1 26 (([c0, c1, c2, c3, c4, c5, c6, c7, c8, c9, c10, c11, c12].drop 8).take (Try.prog.cellsOf 26)) = some y8 := (hf 8 _ rfl).trans q8
    obtain ⟨y9, q9⟩ := hx 9 (by decide)
    have f9 : DataW.trod enc Try.prog W base (fun _ => true) true n1 28 (([c0, c1, c2, c3, c4, c5, c6, c7, c8, c9, c10, c11, c12].drop 9).take (Try.prog.cellsOf 28)) = some y9 := (hf 9 _ rfl).trans q9
    clear hf hx
    simp only [k2, k3, k4, kL, kS, List.drop, List.take] at f0 f1 f2 f3 f4 f5 f6 f7 f8 f9
    obtain ⟨z9, z10, z11, z12, n3, -, -, g9, g10, g11, g12⟩ := Go.Joins.trod_struct4 Try.underlying28 f9
    simp only [k2, k9, List.drop, List.take] at g9 g10 g11 g12
    obtain ⟨x0, e0, _, w0⟩ := DataW.trod_int Try.underlying3 f0
    obtain ⟨x1, e1, _, w1⟩ := DataW.trod_int Try.underlying3 f1
    obtain ⟨x2, e2, _, w2⟩ := DataW.trod_int Try.underlying3 f2
    obtain ⟨x3, e3, _, w3⟩ := DataW.trod_int Try.underlying2 f3
    obtain ⟨x4, e4, _, w4⟩ := DataW.trod_int Try.underlying2 f4
    obtain ⟨x5, e5, _, w5⟩ := DataW.trod_int Try.underlying2 f5
    obtain ⟨x6, e6, _, w6⟩ := DataW.trod_int Try.underlying2 f6
    obtain ⟨x7, e7, _⟩ := DataW.trod_bool Try.underlying4 f7
    obtain ⟨x9, e9, _, w9⟩ := DataW.trod_int Try.underlying2 g9
    obtain ⟨x10, e10, _, w10⟩ := DataW.trod_int Try.underlying2 g10
    obtain ⟨x11, e11, _, w11⟩ := DataW.trod_string Try.underlying9 g11
    obtain ⟨x12, e12, _, w12⟩ := DataW.trod_string Try.underlying9 g12
    simp only [List.cons.injEq, and_true] at e0 e1 e2 e3 e4 e5 e6 e7 e9 e10 e11 e12
    subst e0 e1 e2 e3 e4 e5 e6 e7 e9 e10 e11 e12
    obtain ⟨es, hE, hes⟩ := recs_of_trod entCells Ent.wf 4 Try.underlying26 kE (by decide) (fun vs hl ⟨_, _, h⟩ => ent_of_trod h hl) f8
    exact ⟨⟨x0, x1, x2, x3, x4, x5, x6, x7, es, ⟨x9, x10, x11, x12⟩⟩, c8, rfl, hE, hes, wf_i64 w9, wf_i64 w10, w11, w12⟩
set_option maxRecDepth 100000 in
theorem open_msg {v : Value} {d : DataW H} {ps : List MemPlace} (hv : Value.okWide Try.prog W r base' 30 v) (h : DataW.Trod enc Try.prog W base (fun _ => true) true 30 v d ps) :
    ∃ m : Msg, ∃ ev : Value, v = msgAgg ev m ∧ EntR W ev m.es ∧ m.wf := by
  obtain ⟨cs, rfl, hsz⟩ := okWide_struct Try.underlying30 hv
  have k7 : Try.prog.cellsOf 30 = 13 := by kernel_rfl
  obtain ⟨fuel, hf⟩ := h
  obtain ⟨m, ev, hc, hE, hw⟩ := msg_of_trod hf (by show cs.toList.length = 13; rw [Array.length_toList, hsz, k7])
  refine ⟨m, ev, ?_, hE, hw⟩
  unfold msgAgg
  congr 1
  apply Array.ext'
  exact hc
end
end Go.Proofs.Ytcogmohepcifiaa
