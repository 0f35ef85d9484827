/-
  No claim by itself: how a snapshot and a slice of entries that came in are opened. No condition.
-/
import Derived.Test.YtihcohneongomaaEnt
import Derived.Lib.SmallJoins
namespace Go.Proofs.Ytihcohneongomaa
open Go.ChangeShapes Go.WideShapes Go.ChangeAt Go.RowKit Go.Deep

section
variable {H : Type} {enc : TypeId × Value → H} {W : World} {base base' : Nat} {r : Reach}

set_option maxRecDepth 100000 in
theorem open_snap {v : Value} {d : DataW H} {ps : List MemPlace} (hv : Value.okWide Try.prog W r base' 23 v) (h : DataW.Trod enc Try.prog W base (fun _ => true) true 23 v d ps) : ∃ s : Snp, v = snpAgg s ∧ s.wf := by
  obtain ⟨v0, v1, v2, v3, y0, y1, y2, y3, n, rfl, _, _, h0, h1, h2, h3⟩ := Go.Joins.open_agg4 Try.underlying23 (by kernel_rfl) (by kernel_rfl) hv h
  obtain ⟨x0, e0, _, g0⟩ := DataW.trod_int Try.underlying2 h0
  obtain ⟨x1, e1, _, g1⟩ := DataW.trod_int Try.underlying2 h1
  obtain ⟨x2, e2, _, g2⟩ := DataW.trod_string Try.underlying9 h2
  obtain ⟨x3, e3, _, g3⟩ := DataW.trod_string Try.underlying9 h3
  simp only [List.cons.injEq, and_true] at e0 e1 e2 e3
  subst e0 e1 e2 e3
  exact ⟨⟨x0, x1, x2, x3⟩, rfl, wf_i64 g0, wf_i64 g1, g2, g3⟩

set_option maxRecDepth 100000 in
theorem open_ents {v : Value} {d : DataW H} {ps : List MemPlace} (hv : Value.okWide Try.prog W r base' 24 v) (h : DataW.Trod enc Try.prog W base (fun _ => true) true 24 v d ps) : ∃ es : List Ent, EntR W v es ∧ ∀ e ∈ es, e.wf := by
  exact open_recs (f := entCells) (good := Ent.wf) Try.underlying24 Try.underlying37 (by kernel_rfl) (by kernel_rfl) (by decide) hv (fun vs hvs hf => by
    obtain ⟨n0, y0, u0, e0, t0⟩ := hf 0 _ rfl
    obtain ⟨n1, y1, u1, e1, t1⟩ := hf 1 _ rfl
    obtain ⟨n2, y2, u2, e2, t2⟩ := hf 2 _ rfl
    obtain ⟨n3, y3, u3, e3, t3⟩ := hf 3 _ rfl
    obtain ⟨x0, g0, _, k0⟩ := DataW.trod_int Try.underlying2 t0
    obtain ⟨x1, g1, _, k1⟩ := DataW.trod_int Try.underlying2 t1
    obtain ⟨x2, g2, _, k2⟩ := DataW.trod_int Try.underlying3 t2
    obtain ⟨x3, g3, _, k3⟩ := DataW.trod_string Try.underlying9 t3
    simp only [List.cons.injEq, and_true] at g0 g1 g2 g3
    subst g0 g1 g2 g3
    refine ⟨⟨x0, x1, x2, x3⟩, ?_, wf_i64 k0, wf_i64 k1, wf_i64 k2, k3⟩
    match vs, hvs with
    | [a, b, c, d], _ =>
      simp only [List.getElem?_cons_zero, List.getElem?_cons_succ, Option.some.injEq] at e0 e1 e2 e3
      subst e0 e1 e2 e3
      rfl) h
end
end Go.Proofs.Ytihcohneongomaa
