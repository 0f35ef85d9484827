/-
  No claim by itself: what a call turns, by the blocks that it may turn; rows whose cells are one value each; a struct's cells in a block of their own. No condition.
-/
import Derived.Test.YtihcohneongomaaBase
namespace Go.Proofs.Ytihcohneongomaa
open Go.ChangeShapes Go.WideShapes Go.ChangeAt Go.RowKit

/-- Behind the step all is as it was, but for these blocks, and what is new. -/
structure Keeps (F : List Nat) (w w' : World) : Prop where
  os : w'.os = w.os
  tape : w'.tape = w.tape
  output : w'.output = w.output
  size : w.heap.size ≤ w'.heap.size
  block : ∀ k, k < w.heap.size → k ∉ F → w'.heap[k]? = w.heap[k]?

theorem Keeps.refl (F : List Nat) (w : World) : Keeps F w w := ⟨rfl, rfl, rfl, Nat.le_refl _, fun _ _ _ => rfl⟩
theorem Keeps.trans {F G : List Nat} {a b c : World} (h : Keeps F a b) (k : Keeps G b c) (hG : ∀ x ∈ G, x ∈ F ∨ a.heap.size ≤ x) : Keeps F a c :=
  ⟨k.os.trans h.os, k.tape.trans h.tape, k.output.trans h.output, Nat.le_trans h.size k.size, fun i hi hF =>
    (k.block i (Nat.lt_of_lt_of_le hi h.size) (fun hx => (hG i hx).elim hF (by omega))).trans (h.block i hi hF)⟩
theorem Keeps.mono {F G : List Nat} {w w' : World} (h : Keeps F w w') (hs : ∀ x ∈ F, x < w.heap.size → x ∈ G) : Keeps G w w' :=
  ⟨h.os, h.tape, h.output, h.size, fun k hk hG => h.block k hk fun hF => hG (hs k hF hk)⟩
theorem Keeps.of_below {F : List Nat} {w w' : World} (h : Below w.heap.size w w') : Keeps F w w' := ⟨h.os, h.tape, h.output, h.size, fun k hk _ => h.block k hk⟩
theorem Keeps.of_grown {w w' : World} {row : Option Nat} (h : w.grownBy w' row) : Keeps row.toList w w' :=
  ⟨h.os, h.tape, h.output, h.size, fun k hk hn => h.block k hk fun e => hn (by rw [← e]; simp)⟩
theorem Keeps.below {F : List Nat} {B : Nat} {w w' : World} (h : Keeps F w w') (hF : ∀ x ∈ F, B ≤ x) (hB : B ≤ w.heap.size) : Below B w w' :=
  ⟨h.os, h.tape, h.output, h.size, fun k hk => h.block k (Nat.lt_of_lt_of_le hk hB) fun hx => absurd (hF k hx) (by omega)⟩
theorem Keeps.alloc {F : List Nat} {a w : World} (h : Keeps F a w) (o : Obj) : Keeps F a (w.alloc o) :=
  ⟨h.os, h.tape, h.output, Nat.le_trans h.size (by show w.heap.size ≤ (w.heap.push o).size; simp), fun k hk hF => (Below.heap_alloc w o k (Nat.lt_of_lt_of_le hk h.size)).trans (h.block k hk hF)⟩
theorem Keeps.setCell {F : List Nat} {a w : World} (h : Keeps F a w) {p : Addr} (hp : p.block ∈ F ∨ a.heap.size ≤ p.block) (u : Value) : Keeps F a (w.setCell p u) :=
  ⟨h.os, h.tape, h.output, by simpa [World.setCell] using h.size, fun k hk hF => (Below.heap_setCell w p u k (by rintro rfl; exact hp.elim hF (by omega))).trans (h.block k hk hF)⟩
theorem Keeps.drew {F : List Nat} {a w : World} (h : Keeps F a w) : Keeps F a w.drew := ⟨h.os, h.tape, h.output, h.size, h.block⟩
theorem Keeps.cell {F : List Nat} {w w' : World} (h : Keeps F w w') {p : Addr} (hp : p.block < w.heap.size) (hF : p.block ∉ F) : w'.cell? p = w.cell? p := World.cell?_of_block (w := w) (h.block p.block hp hF)
theorem Keeps.frozen {F : List Nat} {w w' : World} (h : Keeps F w w') {p : Addr} (hp : p.block < w.heap.size) (hF : p.block ∉ F) : w'.frozen? p = w.frozen? p := World.frozen?_of_block (w := w) (h.block p.block hp hF)

/-- A slice value with a row of its own (or nil), and what stands in it. -/
def Row (w : World) (e : TypeId) (v : Value) (xs : List Value) : Prop := w.ownsRow 0 e 1 v xs.length xs

theorem Row.keeps {w w' : World} {e : TypeId} {v : Value} {xs : List Value} {F : List Nat} (h : Row w e v xs) (hk : Keeps F w w') (hF : ∀ g, v.ownBlock = some g → g ∉ F) : Row w' e v xs := by
  refine ⟨h.1, ?_⟩
  rcases h.2 with h2 | ⟨g, cap, cur, hv, hg, hh, r⟩
  · exact .inl h2
  · refine .inr ⟨g, cap, cur, hv, hg, ?_, r⟩
    rw [hk.block g (Array.getElem?_eq_some_iff.1 hh).1 (hF g (by rw [hv]; rfl))]
    exact hh

theorem Row.lt {w : World} {e : TypeId} {v : Value} {xs : List Value} (h : Row w e v xs) : ∀ g, v.ownBlock = some g → g < w.heap.size := by
  intro g hg
  rcases h.2 with ⟨rfl, _⟩ | ⟨g', cap, cur, rfl, _, hh, _⟩
  · cases hg
  · obtain rfl : g' = g := by simpa [Value.ownBlock] using hg
    exact (Array.getElem?_eq_some_iff.1 hh).1

theorem Row.reads {w : World} {e : TypeId} {v : Value} {xs : List Value} (h : Row w e v xs) : Reads w v xs := Reads.of_owns (n := xs.length) h
theorem Row.nil (w : World) (e : TypeId) : Row w e (.slice none 0 0) [] := World.ownsRow_nil w 0 e 1
theorem Row.slice {w : World} {e : TypeId} {v : Value} {xs : List Value} (h : Row w e v xs) : ∃ a n cap, v = .slice a n cap := by
  obtain ⟨a, cap, hv, _⟩ := h.reads
  exact ⟨a, _, cap, hv⟩
theorem Row.shape {w : World} {e : TypeId} {v : Value} {xs : List Value} (h : Row w e v xs) : ∃ a cap, v = .slice a xs.length cap := by
  obtain ⟨a, cap, hv, _⟩ := h.reads
  exact ⟨a, cap, hv⟩

section
variable {P : Program}
/-- 'append(out, src...)' of rows. -/
theorem wpList_append_row {w : World} {ops : Array Oper} {rest : List Oper} {o : Oper} {a : Act} {Q : Exit → Act → World → Prop} (t : TypeId) (e : TypeId) (z : Value) (bytes : Nat)
    (ht : P.underlying t = some (.slice e)) (hinfo : (P.info? e).map (fun i => (i.zero, i.size, i.bytes)) = some (some z, 1, bytes)) (hzs : z.cells.size = 1)
    (hgd : o.guard = none) (s x : Operand) (ho : o.op = .call { callee := .builtin .append, args := #[s, x], argTypes := #[t, t] })
    {v : Value} {l : List Value} (hown : Row w e v l) {src : Value} {m : List Value} (hsrc : Reads w src m) (h1 : ∀ u ∈ m, u.oneCell' = true) (hs : a.eval s = v) (hx : a.eval x = src)
    (h63 : l.length + m.length ≤ maxLen) (hlen : (l.length + m.length) * bytes ≤ 140737488355328)
    (h : ∀ v' w', Row w' e v' (l ++ m) → w.grownBy w' v.ownBlock → (∀ k, v'.ownBlock = some k → v.ownBlock = some k ∨ w.heap.size ≤ k) → wpList P ops Q rest (a.put o.dst v') w') : wpList P ops Q (o :: rest) a w := by
  obtain ⟨i, hi, hi'⟩ := Option.map_eq_some_iff.1 hinfo
  simp only [Prod.mk.injEq] at hi'
  obtain ⟨hz0, hz1, hz2⟩ := hi'
  obtain ⟨ao, cap, rfl, _, _, hc⟩ := hsrc
  refine wpList_append_src (P := P) hgd s x t ho 0 e i z 1 bytes ht hi hz0 hz1 hz2 hzs (by decide) v l.length l hs hown ao m.length cap m hx (by simp) (fun hm => ?_) h1 h63 hlen (Nat.zero_le _)
    (fun v' w' h1 h2 h3 => h v' w' (by unfold Row; rw [List.length_append]; exact h1) h2 h3)
  obtain ⟨b, off, rfl, hcc⟩ := hc (by intro e; subst e; exact hm rfl)
  refine ⟨_, rfl, fun j u hj => ?_⟩
  obtain ⟨hj', rfl⟩ := List.getElem?_eq_some_iff.1 hj
  rw [Addr.add_lit]
  exact hcc j hj'
end

/-- A literal slice that the walk has just built. -/
theorem Reads.fresh (w : World) (xs : List Value) (e : TypeId) (fr : Nat × Nat) (arr : Array Value) (n : Nat) (hn : n = xs.length) (h : arr = xs.toArray) (hl : xs.length ≤ 9223372036854775807) :
    Reads (w.alloc (.cells arr e fr)) (.slice (some ⟨w.heap.size, 0, none⟩) n n) xs := by
  subst h
  subst hn
  refine ⟨_, _, rfl, Nat.le_refl _, hl, fun _ => ⟨_, _, rfl, fun j hj => ?_⟩⟩
  rw [Nat.zero_add, cell_of_row (w.alloc _) w.heap.size j _ e fr (heap_alloc_new w _)]
  simp [hj]
end Go.Proofs.Ytihcohneongomaa
