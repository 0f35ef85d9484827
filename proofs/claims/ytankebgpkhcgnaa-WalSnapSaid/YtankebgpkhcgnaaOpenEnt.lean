/-
  No claim by itself: how a snapshot and a slice of entries that came in are opened. No condition.
-/
import Derived.Test.YtankebgpkhcgnaaEnt
import Derived.Lib.SmallJoins
namespace Go.Proofs.Ytankebgpkhcgnaa
open Go.ChangeShapes Go.WideShapes Go.ChangeAt Go.RowKit Go.Deep

section
variable {H : Type} {enc : TypeId × Value → H} {W : World} {base base' : Nat} {r : Reach}

set_option maxRecDepth 100000 in
theorem open_snap {v : Value} {d : DataW H} {ps : List MemPlace} (hv : Value.okWide Try.prog W r base' 75 v) (h : DataW.Trod enc Try.prog W base (fun _ => true) true 75 v d ps) : ∃ s : Snp, v = snpAgg s ∧ s.wf := by
  obtain ⟨v0, v1, v2, v3, y0, y1, y2, y3, n, rfl, _, _, h0, h1, h2, h3⟩ := Go.Joins.open_agg4 Try.underlying75 (by kernel_rfl) (by kernel_rfl) hv h
  obtain ⟨x0, e0, _, g0⟩ := DataW.trod_int Try.underlying2 h0
  obtain ⟨x1, e1, _, g1⟩ := DataW.trod_int Try.underlying2 h1
  obtain ⟨x2, e2, _, g2⟩ := DataW.trod_string Try.underlying9 h2
  obtain ⟨x3, e3, _, g3⟩ := DataW.trod_string Try.underlying9 h3
  simp only [List.cons.injEq, and_true] at e0 e1 e2 e3
  subst e0 e1 e2 e3
  exact ⟨⟨x0, x1, x2, x3⟩, rfl, wf_i64 g0, wf_i64 g1, g2, g3⟩

end
end Go.Proofs.Ytankebgpkhcgnaa
