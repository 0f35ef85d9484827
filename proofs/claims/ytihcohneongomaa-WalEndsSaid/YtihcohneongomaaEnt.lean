/-
  No claim by itself: entries and snapshots in memory: slices of entries that read as a list, or lie in a row of their own; a copy. No condition.
-/
import Derived.Test.YtihcohneongomaaRecs
import Derived.Test.YtihcohneongomaaRows
import Derived.Lib.BufferMore
import Derived.IntWalk
namespace Go.Proofs.Ytihcohneongomaa
open Go.ChangeShapes Go.WideShapes Go.ChangeAt Go.RowKit

/-- An entry; a snapshot. -/
structure Ent where
  i : Int
  t : Int
  k : Int
  d : ByteArray
structure Snp where
  i : Int
  t : Int
  c : ByteArray
  d : ByteArray
def entCells (e : Ent) : List Value := [.int .i64 e.i, .int .i64 e.t, .int .i64 e.k, .string e.d]
def snpCells (s : Snp) : List Value := [.int .i64 s.i, .int .i64 s.t, .string s.c, .string s.d]
def entAgg (e : Ent) : Value := .agg #[.int .i64 e.i, .int .i64 e.t, .int .i64 e.k, .string e.d]
def snpAgg (s : Snp) : Value := .agg #[.int .i64 s.i, .int .i64 s.t, .string s.c, .string s.d]
def Ent.wf (e : Ent) : Prop := (-9223372036854775808 ≤ e.i ∧ e.i ≤ 9223372036854775807) ∧ (-9223372036854775808 ≤ e.t ∧ e.t ≤ 9223372036854775807) ∧ (-9223372036854775808 ≤ e.k ∧ e.k ≤ 9223372036854775807) ∧ e.d.size ≤ maxLen
def Snp.wf (s : Snp) : Prop := (-9223372036854775808 ≤ s.i ∧ s.i ≤ 9223372036854775807) ∧ (-9223372036854775808 ≤ s.t ∧ s.t ≤ 9223372036854775807) ∧ s.c.size ≤ maxLen ∧ s.d.size ≤ maxLen

theorem info_ent : (Try.prog.info? 37).map (fun i => (i.zero, i.size, i.bytes)) = some (some (.agg #[.int .i64 0, .int .i64 0, .int .i64 0, .string .empty]), 4, 40) := by kernel_rfl

/-- A slice that reads as entries; a row of entries of one's own. -/
def EntR (w : World) (v : Value) (es : List Ent) : Prop := Recs 4 entCells w v es
def EntO (w : World) (base : Nat) (v : Value) (es : List Ent) : Prop := w.ownsRow base 37 4 v es.length (es.flatMap entCells)

theorem entCells_len (es : List Ent) : (es.flatMap entCells).length = es.length * 4 := by
  induction es with
  | nil => rfl
  | cons e es ih => simp only [List.flatMap_cons, List.length_append, ih, List.length_cons, entCells, List.length_nil]; omega
theorem entCells_get (es : List Ent) (k : Nat) (hk : k < es.length) (j : Nat) (hj : j < 4) : (es.flatMap entCells)[k * 4 + j]? = (entCells es[k])[j]? := by
  induction es generalizing k with
  | nil => simp at hk
  | cons e es ih =>
    rw [List.flatMap_cons]
    cases k with
    | zero => rw [Nat.zero_mul, Nat.zero_add, List.getElem?_append_left (by simpa [entCells] using hj)]; rfl
    | succ k =>
      rw [List.getElem?_append_right (by simp [entCells]; omega), List.getElem_cons_succ, ← ih k (by simpa using hk)]
      congr 1
      simp only [entCells, List.length_cons, List.length_nil]
      omega
theorem entCells_oneCell (es : List Ent) : ∀ u ∈ es.flatMap entCells, u.oneCell' = true := by
  intro u hu
  obtain ⟨e, _, he⟩ := List.mem_flatMap.1 hu
  simp only [entCells, List.mem_cons, List.not_mem_nil, or_false] at he
  rcases he with rfl | rfl | rfl | rfl <;> rfl

theorem EntR.slice {w : World} {v : Value} {es : List Ent} (h : EntR w v es) : ∃ a cap, v = .slice a es.length cap := by
  obtain ⟨a, cap, hv, _⟩ := h
  exact ⟨a, cap, hv⟩
theorem EntR.below {w w' : World} {v : Value} {es : List Ent} (h : EntR w v es) (hb : Below w.heap.size w w') : EntR w' v es := Recs.keeps h hb
theorem EntR.nil (w : World) (a : Option Addr) (cap : Nat) (hc : cap ≤ 9223372036854775807) : EntR w (.slice a 0 cap) [] := ⟨a, cap, rfl, Nat.zero_le _, hc, fun k hk => by simp at hk⟩

/-- All cells, one behind the other. -/
theorem EntR.flat {w : World} {a : Option Addr} {n cap : Nat} {es : List Ent} (h : EntR w (.slice a n cap) es) (hne : es ≠ []) : ∃ b off, a = some ⟨b, off, none⟩ ∧ b < w.heap.size ∧ ∀ j u, (es.flatMap entCells)[j]? = some u → w.cell? ⟨b, off + j, none⟩ = some u := by
  obtain ⟨a', cap', hv, h1, h2, h3⟩ := h
  simp only [Value.slice.injEq] at hv
  obtain ⟨rfl, rfl, rfl⟩ := hv
  obtain ⟨b, off, rfl, hb, _⟩ := h3 0 (by cases es with | nil => exact absurd rfl hne | cons _ _ => simp)
  refine ⟨b, off, rfl, hb, fun j u hu => ?_⟩
  have hj := (List.getElem?_eq_some_iff.1 hu).1
  rw [entCells_len] at hj
  have hk : j / 4 < es.length := by omega
  obtain ⟨b', off', he, _, hc⟩ := h3 (j / 4) hk
  simp only [Option.some.injEq, Addr.mk.injEq, and_true] at he
  obtain ⟨rfl, rfl⟩ := he
  have e1 : j = j / 4 * 4 + j % 4 := by omega
  rw [e1, entCells_get es (j / 4) hk (j % 4) (by omega)] at hu
  have := hc (j % 4) u hu
  rw [Nat.add_assoc] at this
  rw [e1]
  exact this

/-- One entry's cells. -/
theorem EntR.cells {w : World} {a : Option Addr} {n cap : Nat} {es : List Ent} (h : EntR w (.slice a n cap) es) (k : Nat) (hk : k < es.length) : ∃ b off, a = some ⟨b, off, none⟩ ∧ b < w.heap.size ∧
    w.cell? ⟨b, off + k * 4, none⟩ = some (.int .i64 es[k].i) ∧ w.cell? ⟨b, off + k * 4 + 1, none⟩ = some (.int .i64 es[k].t) ∧ w.cell? ⟨b, off + k * 4 + 2, none⟩ = some (.int .i64 es[k].k) ∧ w.cell? ⟨b, off + k * 4 + 3, none⟩ = some (.string es[k].d) := by
  obtain ⟨a', cap', hv, h1, h2, h3⟩ := h
  simp only [Value.slice.injEq] at hv
  obtain ⟨rfl, rfl, rfl⟩ := hv
  obtain ⟨b, off, ha, hb, hc⟩ := h3 k hk
  exact ⟨b, off, ha, hb, hc 0 _ rfl, hc 1 _ rfl, hc 2 _ rfl, hc 3 _ rfl⟩

theorem EntR.take {w : World} {a : Option Addr} {n cap : Nat} {es : List Ent} (h : EntR w (.slice a n cap) es) (k c : Nat) (hk : k ≤ es.length) (hc : k ≤ c) (hcm : c ≤ 9223372036854775807) : EntR w (.slice a k c) (es.take k) := by
  obtain ⟨a', cap', hv, h1, h2, h3⟩ := h
  simp only [Value.slice.injEq] at hv
  obtain ⟨rfl, rfl, rfl⟩ := hv
  have hl : (es.take k).length = k := by rw [List.length_take]; omega
  refine ⟨a, c, by rw [hl], by rw [hl]; exact hc, hcm, fun j hj => ?_⟩
  rw [hl] at hj
  obtain ⟨b, off, ha, hb, hcc⟩ := h3 j (by omega)
  refine ⟨b, off, ha, hb, fun i u hu => hcc i u ?_⟩
  rwa [List.getElem_take] at hu

theorem EntR.drop {w : World} {a : Option Addr} {n cap : Nat} {es : List Ent} (h : EntR w (.slice a n cap) es) (k : Nat) (hk : k ≤ es.length) : EntR w (.slice (if cap = k then a else a.map (·.add (k * 4))) (es.length - k) (cap - k)) (es.drop k) := by
  obtain ⟨a', cap', hv, h1, h2, h3⟩ := h
  simp only [Value.slice.injEq] at hv
  obtain ⟨rfl, rfl, rfl⟩ := hv
  have hl : (es.drop k).length = es.length - k := by rw [List.length_drop]
  refine ⟨_, cap - k, by rw [hl], by rw [hl]; omega, by omega, fun j hj => ?_⟩
  rw [hl] at hj
  obtain ⟨b, off, rfl, hb, hcc⟩ := h3 (k + j) (by omega)
  refine ⟨b, off + k * 4, by rw [if_neg (by omega)]; simp [Addr.add_lit], hb, fun i u hu => ?_⟩
  have := hcc i u (by rwa [List.getElem_drop] at hu)
  rw [← this]
  congr 2
  omega

theorem EntO.r {w : World} {base : Nat} {v : Value} {es : List Ent} (h : EntO w base v es) : EntR w v es := by
  rcases h.2 with ⟨rfl, hx⟩ | ⟨g, cap, cur, rfl, hb, hg, hnc, hcm, hcs, htake⟩
  · obtain rfl : es = [] := List.eq_nil_of_length_eq_zero hx
    exact EntR.nil _ _ _ (by omega)
  · refine ⟨_, cap, rfl, hnc, by simpa [maxLen] using hcm, fun k hk => ⟨g, 0, rfl, (Array.getElem?_eq_some_iff.1 hg).1, fun j u hu => ?_⟩⟩
    have hj : j < 4 := by have := (List.getElem?_eq_some_iff.1 hu).1; simpa [entCells] using this
    have hc := World.ownsRow.cells h (g := g) rfl (k * 4 + j) u (by rw [entCells_get es k hk j hj]; exact hu)
    rw [Addr.add_lit, Nat.zero_add] at hc
    rw [Nat.zero_add]
    exact hc
theorem EntO.nil (w : World) (base : Nat) : EntO w base (.slice none 0 0) [] := World.ownsRow_nil w base _ _
theorem EntO.below {w w' : World} {base : Nat} {v : Value} {es : List Ent} (h : EntO w base v es) (hb : Below w.heap.size w w') : EntO w' base v es := ownsRow_below h hb
theorem EntO.rebase {w : World} {base base' : Nat} {v : Value} {es : List Ent} (h : EntO w base v es) (hb : base' ≤ base) : EntO w base' v es := ownsRow_rebase h hb

section
variable {P : Program}
/-- 'append(out, src...)': out a row of one's own whose elements have several cells. -/
theorem wpList_append_ents {w : World} {ops : Array Oper} {rest : List Oper} {o : Oper} {a : Act} {Q : Exit → Act → World → Prop} (t : TypeId) (base : Nat) (z : Value)
    (ht : P.underlying t = some (.slice 37)) (hinfo : (P.info? 37).map (fun i => (i.zero, i.size, i.bytes)) = some (some z, 4, 40)) (hzs : z.cells.size = 4)
    (hgd : o.guard = none) (s x : Operand) (ho : o.op = .call { callee := .builtin .append, args := #[s, x], argTypes := #[t, t] })
    {v : Value} {es : List Ent} (hown : EntO w base v es) {src : Value} {fs : List Ent} (hsrc : EntR w src fs) (hs : a.eval s = v) (hx : a.eval x = src)
    (hlen : es.length + fs.length ≤ 1000000000000) (hbase : base ≤ w.heap.size)
    (h : ∀ v' w', EntO w' base v' (es ++ fs) → w.grownBy w' v.ownBlock → (∀ k, v'.ownBlock = some k → v.ownBlock = some k ∨ w.heap.size ≤ k) → wpList P ops Q rest (a.put o.dst v') w') : wpList P ops Q (o :: rest) a w := by
  obtain ⟨i, hi, hi'⟩ := Option.map_eq_some_iff.1 hinfo
  simp only [Prod.mk.injEq] at hi'
  obtain ⟨hz0, hz1, hz2⟩ := hi'
  obtain ⟨ao, cap, rfl⟩ := hsrc.slice
  refine wpList_append_src (P := P) hgd s x t ho base _ i z 4 40 ht hi hz0 hz1 hz2 hzs (by decide) v es.length _ hs hown ao fs.length cap (fs.flatMap entCells) hx (entCells_len fs) (fun hm => ?_) (entCells_oneCell fs) (by unfold maxLen; omega) (by omega) hbase
    (fun v' w' h1 h2 h3 => h v' w' (by unfold EntO; rw [List.length_append, List.flatMap_append]; exact h1) h2 h3)
  obtain ⟨b, off, rfl, _, hc⟩ := hsrc.flat (by intro e; subst e; exact hm rfl)
  exact ⟨_, rfl, fun j u hj => by rw [Addr.add_lit]; exact hc j u hj⟩

/-- 'append(l[:k:k], src...)': there is no room: a new row. -/
theorem wpList_append_full {w : World} {ops : Array Oper} {rest : List Oper} {o : Oper} {a : Act} {Q : Exit → Act → World → Prop} (t : TypeId) (z : Value)
    (ht : P.underlying t = some (.slice 37)) (hinfo : (P.info? 37).map (fun i => (i.zero, i.size, i.bytes)) = some (some z, 4, 40)) (hzs : z.cells.size = 4)
    (hgd : o.guard = none) (s x : Operand) (ho : o.op = .call { callee := .builtin .append, args := #[s, x], argTypes := #[t, t] })
    {al : Option Addr} {es : List Ent} {n : Nat} (hold : EntR w (.slice al n n) es) {src : Value} {fs : List Ent} (hsrc : EntR w src fs) (hfs : fs ≠ []) (hs : a.eval s = .slice al n n) (hx : a.eval x = src)
    (hlen : es.length + fs.length ≤ 1000000000000)
    (h : ∀ v' w', EntO w' w.heap.size v' (es ++ fs) → Below w.heap.size w w' → wpList P ops Q rest (a.put o.dst v') w') : wpList P ops Q (o :: rest) a w := by
  obtain ⟨i, hi, hi'⟩ := Option.map_eq_some_iff.1 hinfo
  simp only [Prod.mk.injEq] at hi'
  obtain ⟨hz0, hz1, hz2⟩ := hi'
  obtain ⟨ao, cap, rfl⟩ := hsrc.slice
  obtain ⟨b, off, rfl, hblt, hc⟩ := hsrc.flat hfs
  have hn : n = es.length := by obtain ⟨a', c', hv⟩ := hold.slice; simp only [Value.slice.injEq] at hv; exact hv.2.1
  subst hn
  have hfl : 0 < fs.length := by cases fs with | nil => exact absurd rfl hfs | cons _ _ => simp
  have grown : ∀ old, old < es.length + fs.length → EntO (w.drew.alloc (.cells ((es.flatMap entCells).toArray ++ (fs.flatMap entCells).toArray ++ Builtin.zeroCells z.cells (grownCap w (es.length + fs.length) old 37 - (es.length + fs.length))) 37)) w.heap.size
      (.slice (some ⟨w.heap.size, 0, none⟩) (es.length + fs.length) (grownCap w (es.length + fs.length) old 37)) (es ++ fs) := by
    intro old ho
    have hge := grownCap_ge w (es.length + fs.length) old 37
    have hcm : grownCap w (es.length + fs.length) old 37 ≤ maxLen := grownCap_le_maxLen w (es.length + fs.length) old _ (by unfold maxLen; omega)
    refine ⟨by rw [entCells_len], .inr ⟨w.heap.size, _, _, by rw [List.length_append], Nat.le_refl _, _root_.Go.heap_alloc_new w.drew _, by rw [List.length_append]; exact hge, hcm, ?_, ?_⟩⟩
    · simp only [Array.size_append, List.size_toArray, size_zeroCells, hzs, entCells_len]
      omega
    · rw [Array.toList_append, Array.toList_append, List.flatMap_append, List.length_append]
      have : ((es.flatMap entCells).toArray.toList ++ (fs.flatMap entCells).toArray.toList).length = (es.length + fs.length) * 4 := by simp only [List.length_append, entCells_len]; omega
      rw [← this]
      exact List.take_left
  have key : ∃ v' w', (Builtin.append_ #[t, t] o.type #[.slice al es.length es.length, .slice (some ⟨b, off, none⟩) fs.length cap]).run P w = .ok v' w' ∧ EntO w' w.heap.size v' (es ++ fs) ∧ Below w.heap.size w w' := by
    have hb : ∀ x, Below w.heap.size w (w.drew.alloc x) := fun x => (Below.refl w.heap.size w).drew.alloc (by simp) x
    have hnews : ∀ j u, (fs.flatMap entCells)[j]? = some u → w.cell? ((⟨b, off, none⟩ : Addr).add j) = some u := fun j u hj => by rw [Addr.add_lit]; exact hc j u hj
    cases al with
    | none =>
      have he : es = [] := by
        cases es with
        | nil => rfl
        | cons e es => obtain ⟨b, off, h, _⟩ := hold.flat (by simp); cases h
      subst he
      have hr := run_append_nil (P := P) w t o.type _ i z ht hi hz0 ⟨b, off, none⟩ fs.length cap (fs.flatMap entCells) (by rw [entCells_len, hz1]) hnews hfl (by omega) (by rw [hz2]; omega)
      have := grown 0 (by simpa using hfl)
      simp only [List.flatMap_nil, List.length_nil, Nat.zero_add, List.nil_append, Array.empty_append] at this
      exact ⟨_, _, hr, this, hb _⟩
    | some ad =>
      have hol : ∀ j u, (es.flatMap entCells)[j]? = some u → w.cell? (ad.add j) = some u := fun j u hj => by
        obtain ⟨b', off', h, _, hcc⟩ := hold.flat (by intro e; subst e; simp at hj)
        cases h
        rw [Addr.add_lit]
        exact hcc j u hj
      have hr := run_append_grow (P := P) w t o.type _ i z ht hi hz0 ad es.length es.length (es.flatMap entCells) (by rw [entCells_len, hz1]) hol ⟨b, off, none⟩ fs.length cap (fs.flatMap entCells) (by rw [entCells_len, hz1]) hnews (by omega) (by omega) (by rw [hz2]; exact growslice_fits (by omega) (by omega))
      exact ⟨_, _, hr, grown es.length (by omega), hb _⟩
  obtain ⟨v', w', hr, h2, h3⟩ := key
  refine wpList_plain hgd fun K hK => ?_
  unfold Oper.wp execOp
  simp only [ho, resolve, invoke, builtin, Sem.run_bind, Sem.run_pure, Result.andThen_ok, List.map_toArray, List.map_cons, List.map_nil, hs, hx, hr]
  exact hK _ _ (h v' w' h2 h3)
end

/-- What a call yields: a new row of entries. -/
def RetEnts (w : World) (es : List Ent) (e : Ending) (w' : World) : Prop := ∃ v, e = .returned v ∧ EntO w' w.heap.size v es ∧ Below w.heap.size w w'

theorem EntO.empty (w : World) (T : TypeId) (hT : T = 37) : EntO (w.alloc (.cells #[] T)) w.heap.size (.slice (some ⟨w.heap.size, 0, none⟩) 0 0) [] := by
  subst hT
  exact ⟨rfl, .inr ⟨w.heap.size, 0, #[], rfl, Nat.le_refl _, heap_alloc_new w _, Nat.le_refl _, by decide, rfl, rfl⟩⟩

theorem sl_cloneE (v : Value) (es : List Ent) (w : World) (h : EntR w v es) (hl : es.length ≤ 1000000000) :
    Calls Try.prog 55 #[v] w fun e w' => RetEnts w es e w' := by
  obtain ⟨a, cap, rfl⟩ := h.slice
  cases a with
  | none =>
    have hl0 : es = [] := by
      cases es with
      | nil => rfl
      | cons x l => obtain ⟨b, off, h, _⟩ := h.flat (by simp); cases h
    subst hl0
    have he : ∀ w : World, (binOp .eql 24 (.slice none 0 cap) (.slice none 0 0)).run Try.prog w = .ok (.bool true) w := fun W => Lib.run_eql_slice_nil_nil W _ _ Try.underlying24
    go_enter Try.func55, Try.ntmps55
    go_wp2_with fail
    go_ret
    exact ⟨_, rfl, EntO.nil _ _, Below.refl _ _⟩
  | some ad =>
    have hb0 := (Below.refl w.heap.size w).alloc (Nat.le_refl _) (.cells #[] 37)
    have hr := h.below hb0
    have he : ∀ w : World, (binOp .eql 24 (.slice (some ad) es.length cap) (.slice none 0 0)).run Try.prog w = .ok (.bool false) w := fun W => Lib.run_eql_slice_some_nil W _ _ _ Try.underlying24
    clear h
    go_enter Try.func55, Try.ntmps55
    go_wp2_with (at_builtin; refine wpList_append_ents 24 w.heap.size _ Try.underlying24 info_ent rfl rfl _ _ rfl (EntO.empty w _ rfl) hr rfl rfl (by simp; omega) (by simp) ?_)
    intro v' w' ho hg hk
    have hb : Below w.heap.size w w' := hb0.grown hg (by simp) (fun k hk => by simp [Value.ownBlock] at hk; omega)
    clear hk hg
    go_wp2_with fail
    go_ret
    exact ⟨_, rfl, ho, hb⟩
end Go.Proofs.Ytihcohneongomaa
