/-
  No claim by itself: a snapshot in a box, entries behind a change elsewhere, what Get tells at a place. No condition.
-/
import Derived.Test.YtihcohneongomaaLogLaw
import Derived.Test.YtihcohneongomaaLogPlain
import Derived.Test.YtihcohneongomaaOpenEnt
import Derived.Test.YtihcohneongomaaEqEnt
namespace Go.Proofs.Ytihcohneongomaa
open Go.ChangeShapes Go.WideShapes Go.ChangeAt Go.RowKit

theorem takeB_size (s : ByteArray) (n : Nat) : (takeB s n).size ≤ n := by
  show (List.toArray _).size ≤ n
  simp
  omega
theorem cutEnts_len (es : List Ent) (n : Nat) : (cutEnts es n).length ≤ n := by
  unfold cutEnts
  rw [List.length_map]
  exact List.length_take_le _ _
theorem cutEnts_lo (es : List Ent) (n : Nat) (h : ∀ e ∈ es, e.wf) : entsLo (cutEnts es n) := by
  intro e he
  unfold cutEnts at he
  obtain ⟨x, hx, rfl⟩ := List.mem_map.1 he
  exact (h x (List.mem_of_mem_take hx)).1

/-- A snapshot in a block of its own. -/
structure SnapS (w : World) (b : Nat) (s : Snp) : Prop where
  lt : b < w.heap.size
  c0 : w.cell? ⟨b, 0, none⟩ = some (.int .i64 s.i)
  c1 : w.cell? ⟨b, 1, none⟩ = some (.int .i64 s.t)
  c2 : w.cell? ⟨b, 2, none⟩ = some (.string s.c)
  c3 : w.cell? ⟨b, 3, none⟩ = some (.string s.d)
  fr : ∀ j, w.frozen? ⟨b, j, none⟩ = false
theorem SnapS.below {w w' : World} {b : Nat} {s : Snp} (h : SnapS w b s) (hb : Below w.heap.size w w') : SnapS w' b s :=
  ⟨Nat.lt_of_lt_of_le h.lt hb.size, (hb.cell (p := ⟨b, 0, none⟩) h.lt).trans h.c0, (hb.cell (p := ⟨b, 1, none⟩) h.lt).trans h.c1, (hb.cell (p := ⟨b, 2, none⟩) h.lt).trans h.c2, (hb.cell (p := ⟨b, 3, none⟩) h.lt).trans h.c3, fun j => (hb.frozen (p := ⟨b, j, none⟩) h.lt).trans (h.fr j)⟩
theorem SnapS.keeps {w w' : World} {b : Nat} {s : Snp} {F : List Nat} (h : SnapS w b s) (hk : Keeps F w w') (hF : b ∉ F) : SnapS w' b s :=
  ⟨Nat.lt_of_lt_of_le h.lt hk.size, (hk.cell (p := ⟨b, 0, none⟩) h.lt hF).trans h.c0, (hk.cell (p := ⟨b, 1, none⟩) h.lt hF).trans h.c1, (hk.cell (p := ⟨b, 2, none⟩) h.lt hF).trans h.c2, (hk.cell (p := ⟨b, 3, none⟩) h.lt hF).trans h.c3, fun j => (hk.frozen (p := ⟨b, j, none⟩) h.lt hF).trans (h.fr j)⟩
theorem snapS_box (w : World) (s : Snp) (T : TypeId) : SnapS (w.alloc (.cells #[.int .i64 s.i, .int .i64 s.t, .string s.c, .string s.d] T)) w.heap.size s :=
  ⟨by simp, World.cell?_alloc_new _ _ _ _, World.cell?_alloc_new _ _ _ _, World.cell?_alloc_new _ _ _ _, World.cell?_alloc_new _ _ _ _, fun j => World.frozen?_alloc_new _ _ _ _⟩
theorem SnapS.set {w : World} {b : Nat} {s n : Snp} (h : SnapS w b s) : SnapS ((((w.setCell ⟨b, 0, none⟩ (.int .i64 n.i)).setCell ⟨b, 1, none⟩ (.int .i64 n.t)).setCell ⟨b, 2, none⟩ (.string n.c)).setCell ⟨b, 3, none⟩ (.string n.d)) b n ∧
    Keeps [b] w ((((w.setCell ⟨b, 0, none⟩ (.int .i64 n.i)).setCell ⟨b, 1, none⟩ (.int .i64 n.t)).setCell ⟨b, 2, none⟩ (.string n.c)).setCell ⟨b, 3, none⟩ (.string n.d)) := by
  have hk : Keeps [b] w ((((w.setCell ⟨b, 0, none⟩ (.int .i64 n.i)).setCell ⟨b, 1, none⟩ (.int .i64 n.t)).setCell ⟨b, 2, none⟩ (.string n.c)).setCell ⟨b, 3, none⟩ (.string n.d)) :=
    ((((Keeps.refl [b] w).setCell (.inl (by simp)) _).setCell (.inl (by simp)) _).setCell (.inl (by simp)) _).setCell (.inl (by simp)) _
  refine ⟨⟨Nat.lt_of_lt_of_le h.lt hk.size, ?_, ?_, ?_, ?_, fun j => ?_⟩, hk⟩
  · rw [World.cell?_setCell_other (h := by simp), World.cell?_setCell_other (h := by simp), World.cell?_setCell_other (h := by simp)]
    exact World.cell?_setCell_same _ _ _ h.c0
  · rw [World.cell?_setCell_other (h := by simp), World.cell?_setCell_other (h := by simp)]
    exact World.cell?_setCell_same _ _ _ (show World.cell? _ _ = some (.int .i64 s.t) from by rw [World.cell?_setCell_other (h := by simp)]; exact h.c1)
  · rw [World.cell?_setCell_other (h := by simp)]
    exact World.cell?_setCell_same _ _ _ (show World.cell? _ _ = some (.string s.c) from by rw [World.cell?_setCell_other (h := by simp), World.cell?_setCell_other (h := by simp)]; exact h.c2)
  · exact World.cell?_setCell_same _ _ _ (show World.cell? _ _ = some (.string s.d) from by rw [World.cell?_setCell_other (h := by simp), World.cell?_setCell_other (h := by simp), World.cell?_setCell_other (h := by simp)]; exact h.c3)
  · rw [World.frozen?_setCell, World.frozen?_setCell, World.frozen?_setCell, World.frozen?_setCell]; exact h.fr j

theorem EntR.keeps {w w' : World} {v : Value} {es : List Ent} {F : List Nat} (h : EntR w v es) (hk : Keeps F w w') (hF : ∀ g off n c, v = .slice (some ⟨g, off, none⟩) n c → g ∉ F) : EntR w' v es := by
  obtain ⟨a, cap, hv, h1, h2, h3⟩ := h
  refine ⟨a, cap, hv, h1, h2, fun k hk' => ?_⟩
  obtain ⟨b, off, ha, hlt, hc⟩ := h3 k hk'
  exact ⟨b, off, ha, Nat.lt_of_lt_of_le hlt hk.size, fun j u hu => by rw [hk.cell (p := ⟨b, off + k * 4 + j, none⟩) hlt (hF b off _ _ (by rw [hv, ha]))]; exact hc j u hu⟩

theorem getP_at (s : Snp) (L : List Ent) (A : Nat) (n : Int) (hA : A < L.length) (hn : 0 ≤ n) : getP s L (s.i + 1 + A) n = (L.drop A).take n.toNat := by
  unfold getP lastP
  by_cases h : n < 1
  · rw [if_pos (.inr (.inr h)), show n.toNat = 0 by omega, List.take_zero]
  · rw [if_neg (by omega), show (s.i + 1 + (A : Int) - (s.i + 1)).toNat = A by omega]

/-- A row of one's own whose kinds may be written. -/
structure Kinds (w : World) (g n : Nat) : Prop where
  lt : g < w.heap.size
  c : ∀ k, k < n → ∃ u, w.cell? ⟨g, k * 4 + 2, none⟩ = some u
  fr : ∀ j, w.frozen? ⟨g, j, none⟩ = false
theorem Kinds.set {w : World} {g n : Nat} (h : Kinds w g n) (k : Nat) (u : Value) : Kinds (w.setCell ⟨g, k * 4 + 2, none⟩ u) g n := by
  refine ⟨Nat.lt_of_lt_of_le h.lt ((Keeps.refl [g] w).setCell (p := ⟨g, k * 4 + 2, none⟩) (.inl (by simp)) u).size, fun j hj => ?_, fun j => ?_⟩
  · obtain ⟨v, hv⟩ := h.c j hj
    by_cases e : j = k
    · subst e
      exact ⟨u, World.cell?_setCell_same _ _ _ hv⟩
    · exact ⟨v, by rw [World.cell?_setCell_other (h := by simp <;> omega)]; exact hv⟩
  · rw [World.frozen?_setCell]
    exact h.fr j
theorem Kinds.keeps {w w' : World} {g n : Nat} {F : List Nat} (h : Kinds w g n) (hk : Keeps F w w') (hF : g ∉ F) : Kinds w' g n :=
  ⟨Nat.lt_of_lt_of_le h.lt hk.size, fun j hj => by obtain ⟨v, hv⟩ := h.c j hj; exact ⟨v, (hk.cell (p := ⟨g, j * 4 + 2, none⟩) h.lt hF).trans hv⟩, fun j => (hk.frozen (p := ⟨g, j, none⟩) h.lt hF).trans (h.fr j)⟩
theorem EntO.kinds {w : World} {base : Nat} {v : Value} {es : List Ent} (h : EntO w base v es) (hne : es ≠ []) : ∃ g cap, v = .slice (some ⟨g, 0, none⟩) es.length cap ∧ base ≤ g ∧ Kinds w g es.length := by
  have hr := h.r
  rcases h.2 with ⟨_, hx⟩ | ⟨g, cap, cur, rfl, hb, hg, hnc, hcm, hcs, htake⟩
  · exact absurd (List.eq_nil_of_length_eq_zero hx) hne
  · refine ⟨g, cap, rfl, hb, (Array.getElem?_eq_some_iff.1 hg).1, fun k hk => ?_, fun j => ?_⟩
    · obtain ⟨b, off, he, _, c0, c1, c2, c3⟩ := hr.cells k hk
      simp only [Option.some.injEq, Addr.mk.injEq] at he
      obtain ⟨rfl, rfl, _⟩ := he
      exact ⟨_, by simpa using c2⟩
    · unfold World.frozen?
      rw [hg]
      simp
theorem EntO.kinds' {w : World} {base : Nat} {v : Value} {es : List Ent} (h : EntO w base v es) : ∃ a cap, ∃ F : List Nat, v = .slice a es.length cap ∧ (∀ x ∈ F, base ≤ x ∧ x < w.heap.size) ∧ ∀ k, k < es.length → ∃ g, F = [g] ∧ a = some ⟨g, 0, none⟩ ∧ Kinds w g es.length := by
  by_cases hne : es = []
  · obtain ⟨a, cap, hv⟩ := h.r.slice
    exact ⟨a, cap, [], hv, fun x hx => by simp at hx, fun k hk => by subst hne; simp at hk⟩
  · obtain ⟨g, cap, hv, hb, hK⟩ := h.kinds hne
    exact ⟨_, cap, [g], hv, fun x hx => by simp only [List.mem_singleton] at hx; subst hx; exact ⟨hb, hK.lt⟩, fun k hk => ⟨g, rfl, rfl, hK⟩⟩
theorem LogS.keeps {w w' : World} {b : Nat} {s : Snp} {lv : Value} {es : List Ent} {F : List Nat} (h : LogS w b s lv es) (hk : Keeps F w w') (hb : b ∉ F) (hF : ∀ g off n c, lv = .slice (some ⟨g, off, none⟩) n c → g ∉ F) : LogS w' b s lv es :=
  ⟨Nat.lt_of_lt_of_le h.lt hk.size, (hk.cell (p := ⟨b, 0, none⟩) h.lt hb).trans h.c0, (hk.cell (p := ⟨b, 1, none⟩) h.lt hb).trans h.c1, (hk.cell (p := ⟨b, 2, none⟩) h.lt hb).trans h.c2, (hk.cell (p := ⟨b, 3, none⟩) h.lt hb).trans h.c3, (hk.cell (p := ⟨b, 4, none⟩) h.lt hb).trans h.c4,
    fun j => (hk.frozen (p := ⟨b, j, none⟩) h.lt hb).trans (h.fr j), h.r.keeps hk hF, h.ne⟩
end Go.Proofs.Ytihcohneongomaa
