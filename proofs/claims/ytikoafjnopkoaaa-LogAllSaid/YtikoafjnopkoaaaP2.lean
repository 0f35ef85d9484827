/-
  No claim by itself: entries and snapshots in memory: slices of entries that read as a list, or lie in a row of their own; a copy. | one law for a region that draws its order, whose operations read, make memory or call what makes memory (and turn nothing that was there): walked once, in the text's order. Each call's result is known by a predicate that later growth keeps. No condition.
-/
import Derived.Test.YtikoafjnopkoaaaP1
import Derived.Test.YtikoafjnopkoaaaRows
import Derived.Lib.BufferMore
import Derived.IntWalk
import Derived.Orders
import Derived.Still
import Derived.Below
import Derived.WalkKit
import Derived.Tactics
import Derived.Tactics2
namespace Go.Proofs.Ytikoafjnopkoaaa
open Go.ChangeShapes Go.WideShapes Go.ChangeAt Go.RowKit

/-- An entry; a snapshot. -/
structure Ent where
  i : Int
  t : Int
  k : Int
  d : ByteArray
structure Snp where
  i : Int
  t : Int
  c : ByteArray
  d : ByteArray
def entCells (e : Ent) : List Value := [.int .i64 e.i, .int .i64 e.t, .int .i64 e.k, .string e.d]
def snpCells (s : Snp) : List Value := [.int .i64 s.i, .int .i64 s.t, .string s.c, .string s.d]
def entAgg (e : Ent) : Value := .agg #[.int .i64 e.i, .int .i64 e.t, .int .i64 e.k, .string e.d]
def snpAgg (s : Snp) : Value := .agg #[.int .i64 s.i, .int .i64 s.t, .string s.c, .string s.d]
def Ent.wf (e : Ent) : Prop := (-9223372036854775808 ≤ e.i ∧ e.i ≤ 9223372036854775807) ∧ (-9223372036854775808 ≤ e.t ∧ e.t ≤ 9223372036854775807) ∧ (-9223372036854775808 ≤ e.k ∧ e.k ≤ 9223372036854775807) ∧ e.d.size ≤ maxLen
def Snp.wf (s : Snp) : Prop := (-9223372036854775808 ≤ s.i ∧ s.i ≤ 9223372036854775807) ∧ (-9223372036854775808 ≤ s.t ∧ s.t ≤ 9223372036854775807) ∧ s.c.size ≤ maxLen ∧ s.d.size ≤ maxLen

theorem info_ent : (Try.prog.info? 51).map (fun i => (i.zero, i.size, i.bytes)) = some (some (.agg #[.int .i64 0, .int .i64 0, .int .i64 0, .string .empty]), 4, 40) := by kernel_rfl

/-- A slice that reads as entries; a row of entries of one's own. -/
def EntR (w : World) (v : Value) (es : List Ent) : Prop := Recs 4 entCells w v es
def EntO (w : World) (base : Nat) (v : Value) (es : List Ent) : Prop := w.ownsRow base 51 4 v es.length (es.flatMap entCells)

theorem entCells_len (es : List Ent) : (es.flatMap entCells).length = es.length * 4 := by
  induction es with
  | nil => rfl
  | cons e es ih => simp only [List.flatMap_cons, List.length_append, ih, List.length_cons, entCells, List.length_nil]; omega
theorem entCells_get (es : List Ent) (k : Nat) (hk : k < es.length) (j : Nat) (hj : j < 4) : (es.flatMap entCells)[k * 4 + j]? = (entCells es[k])[j]? := by
  induction es generalizing k with
  | nil => simp at hk
  | cons e es ih =>
    rw [List.flatMap_cons]
    cases k with
    | zero => rw [Nat.zero_mul, Nat.zero_add, List.getElem?_append_left (by simpa [entCells] using hj)]; rfl
    | succ k =>
      rw [List.getElem?_append_right (by simp [entCells]; omega), List.getElem_cons_succ, ← ih k (by simpa using hk)]
      congr 1
      simp only [entCells, List.length_cons, List.length_nil]
      omega
theorem entCells_oneCell (es : List Ent) : ∀ u ∈ es.flatMap entCells, u.oneCell' = true := by
  intro u hu
  obtain ⟨e, _, he⟩ := List.mem_flatMap.1 hu
  simp only [entCells, List.mem_cons, List.not_mem_nil, or_false] at he
  rcases he with rfl | rfl | rfl | rfl <;> rfl

theorem EntR.slice {w : World} {v : Value} {es : List Ent} (h : EntR w v es) : ∃ a cap, v = .slice a es.length cap := by
  obtain ⟨a, cap, hv, _⟩ := h
  exact ⟨a, cap, hv⟩
theorem EntR.below {w w' : World} {v : Value} {es : List Ent} (h : EntR w v es) (hb : Below w.heap.size w w') : EntR w' v es := Recs.keeps h hb
theorem EntR.nil (w : World) (a : Option Addr) (cap : Nat) (hc : cap ≤ 9223372036854775807) : EntR w (.slice a 0 cap) [] := ⟨a, cap, rfl, Nat.zero_le _, hc, fun k hk => by simp at hk⟩

/-- All cells, one behind the other. -/
theorem EntR.flat {w : World} {a : Option Addr} {n cap : Nat} {es : List Ent} (h : EntR w (.slice a n cap) es) (hne : es ≠ []) : ∃ b off, a = some ⟨b, off, none⟩ ∧ b < w.heap.size ∧ ∀ j u, (es.flatMap entCells)[j]? = some u → w.cell? ⟨b, off + j, none⟩ = some u := by
  obtain ⟨a', cap', hv, h1, h2, h3⟩ := h
  simp only [Value.slice.injEq] at hv
  obtain ⟨rfl, rfl, rfl⟩ := hv
  obtain ⟨b, off, rfl, hb, _⟩ := h3 0 (by cases es with | nil => exact absurd rfl hne | cons _ _ => simp)
  refine ⟨b, off, rfl, hb, fun j u hu => ?_⟩
  have hj := (List.getElem?_eq_some_iff.1 hu).1
  rw [entCells_len] at hj
  have hk : j / 4 < es.length := by omega
  obtain ⟨b', off', he, _, hc⟩ := h3 (j / 4) hk
  simp only [Option.some.injEq, Addr.mk.injEq, and_true] at he
  obtain ⟨rfl, rfl⟩ := he
  have e1 : j = j / 4 * 4 + j % 4 := by omega
  rw [e1, entCells_get es (j / 4) hk (j % 4) (by omega)] at hu
  have := hc (j % 4) u hu
  rw [Nat.add_assoc] at this
  rw [e1]
  exact this

/-- One entry's cells. -/
theorem EntR.cells {w : World} {a : Option Addr} {n cap : Nat} {es : List Ent} (h : EntR w (.slice a n cap) es) (k : Nat) (hk : k < es.length) : ∃ b off, a = some ⟨b, off, none⟩ ∧ b < w.heap.size ∧
    w.cell? ⟨b, off + k * 4, none⟩ = some (.int .i64 es[k].i) ∧ w.cell? ⟨b, off + k * 4 + 1, none⟩ = some (.int .i64 es[k].t) ∧ w.cell? ⟨b, off + k * 4 + 2, none⟩ = some (.int .i64 es[k].k) ∧ w.cell? ⟨b, off + k * 4 + 3, none⟩ = some (.string es[k].d) := by
  obtain ⟨a', cap', hv, h1, h2, h3⟩ := h
  simp only [Value.slice.injEq] at hv
  obtain ⟨rfl, rfl, rfl⟩ := hv
  obtain ⟨b, off, ha, hb, hc⟩ := h3 k hk
  exact ⟨b, off, ha, hb, hc 0 _ rfl, hc 1 _ rfl, hc 2 _ rfl, hc 3 _ rfl⟩

theorem EntR.take {w : World} {a : Option Addr} {n cap : Nat} {es : List Ent} (h : EntR w (.slice a n cap) es) (k c : Nat) (hk : k ≤ es.length) (hc : k ≤ c) (hcm : c ≤ 9223372036854775807) : EntR w (.slice a k c) (es.take k) := by
  obtain ⟨a', cap', hv, h1, h2, h3⟩ := h
  simp only [Value.slice.injEq] at hv
  obtain ⟨rfl, rfl, rfl⟩ := hv
  have hl : (es.take k).length = k := by rw [List.length_take]; omega
  refine ⟨a, c, by rw [hl], by rw [hl]; exact hc, hcm, fun j hj => ?_⟩
  rw [hl] at hj
  obtain ⟨b, off, ha, hb, hcc⟩ := h3 j (by omega)
  refine ⟨b, off, ha, hb, fun i u hu => hcc i u ?_⟩
  rwa [List.getElem_take] at hu

theorem EntR.drop {w : World} {a : Option Addr} {n cap : Nat} {es : List Ent} (h : EntR w (.slice a n cap) es) (k : Nat) (hk : k ≤ es.length) : EntR w (.slice (if cap = k then a else a.map (·.add (k * 4))) (es.length - k) (cap - k)) (es.drop k) := by
  obtain ⟨a', cap', hv, h1, h2, h3⟩ := h
  simp only [Value.slice.injEq] at hv
  obtain ⟨rfl, rfl, rfl⟩ := hv
  have hl : (es.drop k).length = es.length - k := by rw [List.length_drop]
  refine ⟨_, cap - k, by rw [hl], by rw [hl]; omega, by omega, fun j hj => ?_⟩
  rw [hl] at hj
  obtain ⟨b, off, rfl, hb, hcc⟩ := h3 (k + j) (by omega)
  refine ⟨b, off + k * 4, by rw [if_neg (by omega)]; simp [Addr.add_lit], hb, fun i u hu => ?_⟩
  have := hcc i u (by rwa [List.getElem_drop] at hu)
  rw [← this]
  congr 2
  omega

theorem EntO.r {w : World} {base : Nat} {v : Value} {es : List Ent} (h : EntO w base v es) : EntR w v es := by
  rcases h.2 with ⟨rfl, hx⟩ | ⟨g, cap, cur, rfl, hb, hg, hnc, hcm, hcs, htake⟩
  · obtain rfl : es = [] := List.eq_nil_of_length_eq_zero hx
    exact EntR.nil _ _ _ (by omega)
  · refine ⟨_, cap, rfl, hnc, by simpa [maxLen] using hcm, fun k hk => ⟨g, 0, rfl, (Array.getElem?_eq_some_iff.1 hg).1, fun j u hu => ?_⟩⟩
    have hj : j < 4 := by have := (List.getElem?_eq_some_iff.1 hu).1; simpa [entCells] using this
    have hc := World.ownsRow.cells h (g := g) rfl (k * 4 + j) u (by rw [entCells_get es k hk j hj]; exact hu)
    rw [Addr.add_lit, Nat.zero_add] at hc
    rw [Nat.zero_add]
    exact hc
theorem EntO.nil (w : World) (base : Nat) : EntO w base (.slice none 0 0) [] := World.ownsRow_nil w base _ _
theorem EntO.below {w w' : World} {base : Nat} {v : Value} {es : List Ent} (h : EntO w base v es) (hb : Below w.heap.size w w') : EntO w' base v es := ownsRow_below h hb
theorem EntO.rebase {w : World} {base base' : Nat} {v : Value} {es : List Ent} (h : EntO w base v es) (hb : base' ≤ base) : EntO w base' v es := ownsRow_rebase h hb

section
variable {P : Program}
/-- 'append(out, src...)': out a row of one's own whose elements have several cells. -/
theorem wpList_append_ents {w : World} {ops : Array Oper} {rest : List Oper} {o : Oper} {a : Act} {Q : Exit → Act → World → Prop} (t : TypeId) (base : Nat) (z : Value)
    (ht : P.underlying t = some (.slice 51)) (hinfo : (P.info? 51).map (fun i => (i.zero, i.size, i.bytes)) = some (some z, 4, 40)) (hzs : z.cells.size = 4)
    (hgd : o.guard = none) (s x : Operand) (ho : o.op = .call { callee := .builtin .append, args := #[s, x], argTypes := #[t, t] })
    {v : Value} {es : List Ent} (hown : EntO w base v es) {src : Value} {fs : List Ent} (hsrc : EntR w src fs) (hs : a.eval s = v) (hx : a.eval x = src)
    (hlen : es.length + fs.length ≤ 1000000000000) (hbase : base ≤ w.heap.size)
    (h : ∀ v' w', EntO w' base v' (es ++ fs) → w.grownBy w' v.ownBlock → (∀ k, v'.ownBlock = some k → v.ownBlock = some k ∨ w.heap.size ≤ k) → wpList P ops Q rest (a.put o.dst v') w') : wpList P ops Q (o :: rest) a w := by
  obtain ⟨i, hi, hi'⟩ := Option.map_eq_some_iff.1 hinfo
  simp only [Prod.mk.injEq] at hi'
  obtain ⟨hz0, hz1, hz2⟩ := hi'
  obtain ⟨ao, cap, rfl⟩ := hsrc.slice
  refine wpList_append_src (P := P) hgd s x t ho base _ i z 4 40 ht hi hz0 hz1 hz2 hzs (by decide) v es.length _ hs hown ao fs.length cap (fs.flatMap entCells) hx (entCells_len fs) (fun hm => ?_) (entCells_oneCell fs) (by unfold maxLen; omega) (by omega) hbase
    (fun v' w' h1 h2 h3 => h v' w' (by unfold EntO; rw [List.length_append, List.flatMap_append]; exact h1) h2 h3)
  obtain ⟨b, off, rfl, _, hc⟩ := hsrc.flat (by intro e; subst e; exact hm rfl)
  exact ⟨_, rfl, fun j u hj => by rw [Addr.add_lit]; exact hc j u hj⟩

/-- 'append(l[:k:k], src...)': there is no room: a new row. -/
theorem wpList_append_full {w : World} {ops : Array Oper} {rest : List Oper} {o : Oper} {a : Act} {Q : Exit → Act → World → Prop} (t : TypeId) (z : Value)
    (ht : P.underlying t = some (.slice 51)) (hinfo : (P.info? 51).map (fun i => (i.zero, i.size, i.bytes)) = some (some z, 4, 40)) (hzs : z.cells.size = 4)
    (hgd : o.guard = none) (s x : Operand) (ho : o.op = .call { callee := .builtin .append, args := #[s, x], argTypes := #[t, t] })
    {al : Option Addr} {es : List Ent} {n : Nat} (hold : EntR w (.slice al n n) es) {src : Value} {fs : List Ent} (hsrc : EntR w src fs) (hfs : fs ≠ []) (hs : a.eval s = .slice al n n) (hx : a.eval x = src)
    (hlen : es.length + fs.length ≤ 1000000000000)
    (h : ∀ v' w', EntO w' w.heap.size v' (es ++ fs) → Below w.heap.size w w' → wpList P ops Q rest (a.put o.dst v') w') : wpList P ops Q (o :: rest) a w := by
  obtain ⟨i, hi, hi'⟩ := Option.map_eq_some_iff.1 hinfo
  simp only [Prod.mk.injEq] at hi'
  obtain ⟨hz0, hz1, hz2⟩ := hi'
  obtain ⟨ao, cap, rfl⟩ := hsrc.slice
  obtain ⟨b, off, rfl, hblt, hc⟩ := hsrc.flat hfs
  have hn : n = es.length := by obtain ⟨a', c', hv⟩ := hold.slice; simp only [Value.slice.injEq] at hv; exact hv.2.1
  subst hn
  have hfl : 0 < fs.length := by cases fs with | nil => exact absurd rfl hfs | cons _ _ => simp
  have grown : ∀ old, old < es.length + fs.length → EntO (w.drew.alloc (.cells ((es.flatMap entCells).toArray ++ (fs.flatMap entCells).toArray ++ Builtin.zeroCells z.cells (grownCap w (es.length + fs.length) old 51 - (es.length + fs.length))) 51)) w.heap.size
      (.slice (some ⟨w.heap.size, 0, none⟩) (es.length + fs.length) (grownCap w (es.length + fs.length) old 51)) (es ++ fs) := by
    intro old ho
    have hge := grownCap_ge w (es.length + fs.length) old 51
    have hcm : grownCap w (es.length + fs.length) old 51 ≤ maxLen := grownCap_le_maxLen w (es.length + fs.length) old _ (by unfold maxLen; omega)
    refine ⟨by rw [entCells_len], .inr ⟨w.heap.size, _, _, by rw [List.length_append], Nat.le_refl _, _root_.Go.heap_alloc_new w.drew _, by rw [List.length_append]; exact hge, hcm, ?_, ?_⟩⟩
    · simp only [Array.size_append, List.size_toArray, size_zeroCells, hzs, entCells_len]
      omega
    · rw [Array.toList_append, Array.toList_append, List.flatMap_append, List.length_append]
      have : ((es.flatMap entCells).toArray.toList ++ (fs.flatMap entCells).toArray.toList).length = (es.length + fs.length) * 4 := by simp only [List.length_append, entCells_len]; omega
      rw [← this]
      exact List.take_left
  have key : ∃ v' w', (Builtin.append_ #[t, t] o.type #[.slice al es.length es.length, .slice (some ⟨b, off, none⟩) fs.length cap]).run P w = .ok v' w' ∧ EntO w' w.heap.size v' (es ++ fs) ∧ Below w.heap.size w w' := by
    have hb : ∀ x, Below w.heap.size w (w.drew.alloc x) := fun x => (Below.refl w.heap.size w).drew.alloc (by simp) x
    have hnews : ∀ j u, (fs.flatMap entCells)[j]? = some u → w.cell? ((⟨b, off, none⟩ : Addr).add j) = some u := fun j u hj => by rw [Addr.add_lit]; exact hc j u hj
    cases al with
    | none =>
      have he : es = [] := by
        cases es with
        | nil => rfl
        | cons e es => obtain ⟨b, off, h, _⟩ := hold.flat (by simp); cases h
      subst he
      have hr := run_append_nil (P := P) w t o.type _ i z ht hi hz0 ⟨b, off, none⟩ fs.length cap (fs.flatMap entCells) (by rw [entCells_len, hz1]) hnews hfl (by omega) (by rw [hz2]; omega)
      have := grown 0 (by simpa using hfl)
      simp only [List.flatMap_nil, List.length_nil, Nat.zero_add, List.nil_append, Array.empty_append] at this
      exact ⟨_, _, hr, this, hb _⟩
    | some ad =>
      have hol : ∀ j u, (es.flatMap entCells)[j]? = some u → w.cell? (ad.add j) = some u := fun j u hj => by
        obtain ⟨b', off', h, _, hcc⟩ := hold.flat (by intro e; subst e; simp at hj)
        cases h
        rw [Addr.add_lit]
        exact hcc j u hj
      have hr := run_append_grow (P := P) w t o.type _ i z ht hi hz0 ad es.length es.length (es.flatMap entCells) (by rw [entCells_len, hz1]) hol ⟨b, off, none⟩ fs.length cap (fs.flatMap entCells) (by rw [entCells_len, hz1]) hnews (by omega) (by omega) (by rw [hz2]; exact growslice_fits (by omega) (by omega))
      exact ⟨_, _, hr, grown es.length (by omega), hb _⟩
  obtain ⟨v', w', hr, h2, h3⟩ := key
  refine wpList_plain hgd fun K hK => ?_
  unfold Oper.wp execOp
  simp only [ho, resolve, invoke, builtin, Sem.run_bind, Sem.run_pure, Result.andThen_ok, List.map_toArray, List.map_cons, List.map_nil, hs, hx, hr]
  exact hK _ _ (h v' w' h2 h3)
end

/-- What a call yields: a new row of entries. -/
def RetEnts (w : World) (es : List Ent) (e : Ending) (w' : World) : Prop := ∃ v, e = .returned v ∧ EntO w' w.heap.size v es ∧ Below w.heap.size w w'

theorem EntO.empty (w : World) (T : TypeId) (hT : T = 51) : EntO (w.alloc (.cells #[] T)) w.heap.size (.slice (some ⟨w.heap.size, 0, none⟩) 0 0) [] := by
  subst hT
  exact ⟨rfl, .inr ⟨w.heap.size, 0, #[], rfl, Nat.le_refl _, heap_alloc_new w _, Nat.le_refl _, by decide, rfl, rfl⟩⟩

theorem sl_cloneE (v : Value) (es : List Ent) (w : World) (h : EntR w v es) (hl : es.length ≤ 1000000000) :
    Calls Try.prog 29 #[v] w fun e w' => RetEnts w es e w' := by
  obtain ⟨a, cap, rfl⟩ := h.slice
  cases a with
  | none =>
    have hl0 : es = [] := by
      cases es with
      | nil => rfl
      | cons x l => obtain ⟨b, off, h, _⟩ := h.flat (by simp); cases h
    subst hl0
    have he : ∀ w : World, (binOp .eql 24 (.slice none 0 cap) (.slice none 0 0)).run Try.prog w = .ok (.bool true) w := fun W => Lib.run_eql_slice_nil_nil W _ _ Try.underlying24
    go_enter Try.func29, Try.ntmps29
    go_wp2_with fail
    go_ret
    exact ⟨_, rfl, EntO.nil _ _, Below.refl _ _⟩
  | some ad =>
    have hb0 := (Below.refl w.heap.size w).alloc (Nat.le_refl _) (.cells #[] 51)
    have hr := h.below hb0
    have he : ∀ w : World, (binOp .eql 24 (.slice (some ad) es.length cap) (.slice none 0 0)).run Try.prog w = .ok (.bool false) w := fun W => Lib.run_eql_slice_some_nil W _ _ _ Try.underlying24
    clear h
    go_enter Try.func29, Try.ntmps29
    go_wp2_with (at_builtin; refine wpList_append_ents 24 w.heap.size _ Try.underlying24 info_ent rfl rfl _ _ rfl (EntO.empty w _ rfl) hr rfl rfl (by simp; omega) (by simp) ?_)
    intro v' w' ho hg hk
    have hb : Below w.heap.size w w' := hb0.grown hg (by simp) (fun k hk => by simp [Value.ownBlock] at hk; omega)
    clear hk hg
    go_wp2_with fail
    go_ret
    exact ⟨_, rfl, ho, hb⟩
end Go.Proofs.Ytikoafjnopkoaaa
namespace Go.Proofs.Ytikoafjnopkoaaa
open Go.RowKit

/-- What an operation yields, whatever value: in the world that it got, or behind a call. -/
def yieldsUpon (P : Program) (_ : World) (R : Value → World → Prop) : Result Next → Prop
  | .ok (.value v) w' => R v w'
  | .ok (.enter f args) w' => Calls P f args w' (fun e w'' => ∃ v, e = .returned v ∧ R v w'')
  | _ => False

/-- May op j be needed by op k: an edge that binds. -/
def depB (ops : Array Oper) (k j : Nat) : Bool :=
  match ops[k]? with
  | some o => o.after.toList.any fun e => Region.binds .any e && e.on == j
  | none => false

/-- The region's form: what an operation looks at was written by one that it waits for, or is written by one that waits for it; no slot is written twice; edges lead back. -/
def regionOk (ops : Array Oper) : Bool :=
  Region.noSelect ops &&
  (List.range ops.size).all fun i =>
    match ops[i]? with
    | none => true
    | some o =>
      (o.after.toList.all fun e => !Region.binds .any e || decide (e.on < i)) &&
      (List.range ops.size).all fun j =>
        match ops[j]? with
        | none => true
        | some oj =>
          match oj.dst with
          | none => true
          | some d => (i == j || o.dst != some d) && (!(o.looksAt ops).contains d || (decide (j < i) && depB ops i j) || (decide (i < j) && depB ops j i))

section
variable {P : Program} (ops : Array Oper) (Φ : Nat → Option (Value → World → Prop)) (w0 : World) (Q : Exit → Act → World → Prop) (vals : Nat → Value)

/-- The walk in the text's order. 'H': what is known of the calls' results so far. -/
def wpSW (P : Program) : List Oper → Nat → Act → List (Nat × (Value → World → Prop)) → Prop
  | [], _, a, H => ∀ w, Below w0.heap.size w0 w → (∀ p ∈ H, p.2 (vals p.1) w) → Q .normal a w
  | o :: rest, k, a, H =>
    if Region.wanted o (yielded ops a.tmps) then
      match Φ k with
      | none => ∃ c, (∀ w, Below w0.heap.size w0 w → (∀ p ∈ H, depB ops k p.1 = true → p.2 (vals p.1) w) → (execOp a.eval o).run P w = .ok (.value c) w) ∧ wpSW P rest (k + 1) (a.put o.dst c) H
      | some φ => (∀ w, Below w0.heap.size w0 w → (∀ p ∈ H, depB ops k p.1 = true → p.2 (vals p.1) w) → yieldsUpon P w (fun v w' => φ v w' ∧ Below w.heap.size w w') ((execOp a.eval o).run P w)) ∧
          wpSW P rest (k + 1) (a.put o.dst (vals k)) ((k, φ) :: H)
    else wpSW P rest (k + 1) (a.put o.dst undef) H
end

section
variable {P : Program} {ops : Array Oper} {Φ : Nat → Option (Value → World → Prop)} {w0 : World} {Q : Exit → Act → World → Prop} {a0 : Act}

def dstOf (ops : Array Oper) (j : Nat) : Option Tmp := (ops[j]?).bind (·.dst)

/-- The frame behind the first k operations, with these values. -/
def actTo (ops : Array Oper) (a0 : Act) (cs : Nat → Value) : Nat → Act
  | 0 => a0
  | k + 1 => (actTo ops a0 cs k).put (dstOf ops k) (cs k)

def wtd (ops : Array Oper) (a0 : Act) (cs : Nat → Value) (k : Nat) : Bool :=
  match ops[k]? with
  | some o => Region.wanted o (yielded ops (actTo ops a0 cs k).tmps)
  | none => false

def hypTo (ops : Array Oper) (Φ : Nat → Option (Value → World → Prop)) (a0 : Act) (cs : Nat → Value) (k : Nat) (w : World) : Prop :=
  ∀ j φ, j < k → wtd ops a0 cs j = true → Φ j = some φ → depB ops k j = true → φ (cs j) w

/-- The values of one walk in the text's order. -/
structure SeqV (P : Program) (ops : Array Oper) (Φ : Nat → Option (Value → World → Prop)) (w0 : World) (Q : Exit → Act → World → Prop) (a0 : Act) (vals cs : Nat → Value) : Prop where
  pure : ∀ k o, ops[k]? = some o → wtd ops a0 cs k = true → Φ k = none → ∀ w, Below w0.heap.size w0 w → hypTo ops Φ a0 cs k w → (execOp (actTo ops a0 cs k).eval o).run P w = .ok (.value (cs k)) w
  pred : ∀ k o φ, ops[k]? = some o → wtd ops a0 cs k = true → Φ k = some φ → cs k = vals k ∧ ∀ w, Below w0.heap.size w0 w → hypTo ops Φ a0 cs k w →
    yieldsUpon P w (fun v w' => φ v w' ∧ Below w.heap.size w w') ((execOp (actTo ops a0 cs k).eval o).run P w)
  skip : ∀ k o, ops[k]? = some o → wtd ops a0 cs k = false → cs k = undef
  done : ∀ w, Below w0.heap.size w0 w → (∀ j φ, j < ops.size → wtd ops a0 cs j = true → Φ j = some φ → φ (cs j) w) → Q .normal (actTo ops a0 cs ops.size) w

theorem actTo_congr {cs cs' : Nat → Value} (k : Nat) (h : ∀ j, j < k → cs j = cs' j) : actTo ops a0 cs k = actTo ops a0 cs' k := by
  induction k with
  | zero => rfl
  | succ k ih =>
    show (actTo ops a0 cs k).put _ _ = (actTo ops a0 cs' k).put _ _
    rw [ih (fun j hj => h j (by omega)), h k (by omega)]

theorem wtd_congr {cs cs' : Nat → Value} (k : Nat) (h : ∀ j, j < k → cs j = cs' j) : wtd ops a0 cs k = wtd ops a0 cs' k := by
  unfold wtd
  rw [actTo_congr k h]

/-- From the walk to its values. -/
theorem seq_of_walk {vals : Nat → Value} : ∀ (l : List Oper) (k : Nat) (cs0 : Nat → Value) (H : List (Nat × (Value → World → Prop))), (∀ j, l[j]? = ops[k + j]?) → k + l.length = ops.size →
    wpSW ops Φ w0 Q vals P l k (actTo ops a0 cs0 k) H →
    (∀ p, p ∈ H ↔ (p.1 < k ∧ wtd ops a0 cs0 p.1 = true ∧ Φ p.1 = some p.2)) →
    (∀ p ∈ H, cs0 p.1 = vals p.1) →
    ∃ cs, (∀ j, j < k → cs j = cs0 j) ∧
      (∀ j o, k ≤ j → ops[j]? = some o → wtd ops a0 cs j = true → Φ j = none → ∀ w, Below w0.heap.size w0 w → hypTo ops Φ a0 cs j w → (execOp (actTo ops a0 cs j).eval o).run P w = .ok (.value (cs j)) w) ∧
      (∀ j o φ, k ≤ j → ops[j]? = some o → wtd ops a0 cs j = true → Φ j = some φ → cs j = vals j ∧ ∀ w, Below w0.heap.size w0 w → hypTo ops Φ a0 cs j w →
        yieldsUpon P w (fun v w' => φ v w' ∧ Below w.heap.size w w') ((execOp (actTo ops a0 cs j).eval o).run P w)) ∧
      (∀ j o, k ≤ j → ops[j]? = some o → wtd ops a0 cs j = false → cs j = undef) ∧
      (∀ w, Below w0.heap.size w0 w → (∀ j φ, j < ops.size → wtd ops a0 cs j = true → Φ j = some φ → φ (cs j) w) → Q .normal (actTo ops a0 cs ops.size) w) := by
  intro l
  induction l with
  | nil =>
    intro k cs0 H hl hk h hH hv
    have hk' : k = ops.size := by simpa using hk
    subst hk'
    refine ⟨cs0, fun _ _ => rfl, ?_, ?_, ?_, ?_⟩
    · intro j o hj ho; exact absurd (Array.getElem?_eq_some_iff.1 ho).1 (by omega)
    · intro j o φ hj ho; exact absurd (Array.getElem?_eq_some_iff.1 ho).1 (by omega)
    · intro j o hj ho; exact absurd (Array.getElem?_eq_some_iff.1 ho).1 (by omega)
    · intro w hw hf
      refine h w hw fun p hp => ?_
      obtain ⟨h1, h2, h3⟩ := (hH p).1 hp
      rw [← hv p hp]
      exact hf p.1 p.2 h1 h2 h3
  | cons o rest ih =>
    intro k cs0 H hl hk h hH hv
    have ho : ops[k]? = some o := by have := hl 0; simpa using this.symm
    have hl' : ∀ j, rest[j]? = ops[k + 1 + j]? := fun j => by
      have := hl (j + 1)
      rw [List.getElem?_cons_succ] at this
      rw [this]
      congr 1
      omega
    have hk' : k + 1 + rest.length = ops.size := by simp at hk; omega
    have hdst : o.dst = dstOf ops k := by simp [dstOf, ho]
    -- the frame with one value more
    have put : ∀ c, (actTo ops a0 cs0 k).put o.dst c = actTo ops a0 (fun j => if j = k then c else cs0 j) (k + 1) := fun c => by
      show _ = (actTo ops a0 _ k).put _ (if k = k then c else cs0 k)
      rw [actTo_congr (cs' := cs0) k (fun j hj => if_neg (by omega)), hdst, if_pos rfl]
    have wold : ∀ c j, j ≤ k → wtd ops a0 (fun j => if j = k then c else cs0 j) j = wtd ops a0 cs0 j := fun c j hj =>
      wtd_congr j (fun i hi => if_neg (by omega))
    have wk : wtd ops a0 cs0 k = Region.wanted o (yielded ops (actTo ops a0 cs0 k).tmps) := by unfold wtd; rw [ho]
    -- what the rest gives, read at k as well
    have lift : ∀ (cs : Nat → Value) (c : Value), (∀ j, j < k + 1 → cs j = (fun j => if j = k then c else cs0 j) j) → (∀ j, j < k → cs j = cs0 j) ∧ cs k = c := fun cs c hc =>
      ⟨fun j hj => by rw [hc j (by omega)]; exact if_neg (by omega), by rw [hc k (by omega)]; exact if_pos rfl⟩
    simp only [wpSW] at h
    by_cases hw : Region.wanted o (yielded ops (actTo ops a0 cs0 k).tmps) = true
    · rw [if_pos hw] at h
      cases hφ : Φ k with
      | none =>
        rw [hφ] at h
        obtain ⟨c, hc, h⟩ := h
        rw [put c] at h
        obtain ⟨cs, e0, e1, e2, e3, e4⟩ := ih (k + 1) _ H hl' hk' h (fun p => by
          rw [hH p]
          constructor
          · rintro ⟨h1, h2, h3⟩; exact ⟨by omega, by rw [wold c p.1 (by omega)]; exact h2, h3⟩
          · rintro ⟨h1, h2, h3⟩
            have hne : p.1 ≠ k := by intro e; rw [e, hφ] at h3; cases h3
            exact ⟨by omega, by rw [← wold c p.1 (by omega)]; exact h2, h3⟩) (fun p hp => by
          have := ((hH p).1 hp).1
          rw [if_neg (by omega)]
          exact hv p hp)
        obtain ⟨f0, fk⟩ := lift cs c e0
        refine ⟨cs, f0, ?_, ?_, ?_, e4⟩
        · intro j o' hj ho' hwj hn w hwB hyp
          rcases Nat.eq_or_lt_of_le hj with rfl | hlt
          · obtain rfl : o = o' := by rw [ho] at ho'; exact Option.some.inj ho'
            rw [actTo_congr (cs' := cs0) k f0, fk]
            refine hc w hwB fun p hp hd => ?_
            obtain ⟨h1, h2, h3⟩ := (hH p).1 hp
            have := hyp p.1 p.2 h1 (by rw [wtd_congr p.1 (fun i hi => f0 i (by omega))]; exact h2) h3 hd
            rw [f0 p.1 h1, hv p hp] at this
            exact this
          · exact e1 j o' hlt ho' hwj hn w hwB hyp
        · intro j o' φ hj ho' hwj hn
          rcases Nat.eq_or_lt_of_le hj with rfl | hlt
          · rw [hφ] at hn; cases hn
          · exact e2 j o' φ hlt ho' hwj hn
        · intro j o' hj ho' hwj
          rcases Nat.eq_or_lt_of_le hj with rfl | hlt
          · rw [wtd_congr k f0, wk, hw] at hwj; cases hwj
          · exact e3 j o' hlt ho' hwj
      | some φ =>
        rw [hφ] at h
        obtain ⟨hc, h⟩ := h
        rw [put (vals k)] at h
        obtain ⟨cs, e0, e1, e2, e3, e4⟩ := ih (k + 1) _ ((k, φ) :: H) hl' hk' h (fun p => by
          rw [List.mem_cons, hH p]
          constructor
          · rintro (rfl | ⟨h1, h2, h3⟩)
            · exact ⟨by simp, by rw [wold _ k (Nat.le_refl _), wk]; exact hw, hφ⟩
            · exact ⟨by omega, by rw [wold _ p.1 (by omega)]; exact h2, h3⟩
          · rintro ⟨h1, h2, h3⟩
            by_cases hpk : p.1 = k
            · left
              rw [hpk, hφ] at h3
              exact Prod.ext hpk (Option.some.inj h3).symm
            · exact .inr ⟨by omega, by rw [← wold (vals k) p.1 (by omega)]; exact h2, h3⟩) (fun p hp => by
          rcases List.mem_cons.1 hp with rfl | hp
          · exact if_pos rfl
          · have := ((hH p).1 hp).1
            rw [if_neg (by omega)]
            exact hv p hp)
        obtain ⟨f0, fk⟩ := lift cs (vals k) e0
        refine ⟨cs, f0, ?_, ?_, ?_, e4⟩
        · intro j o' hj ho' hwj hn w hwB hyp
          rcases Nat.eq_or_lt_of_le hj with rfl | hlt
          · rw [hφ] at hn; cases hn
          · exact e1 j o' hlt ho' hwj hn w hwB hyp
        · intro j o' φ' hj ho' hwj hn
          rcases Nat.eq_or_lt_of_le hj with rfl | hlt
          · obtain rfl : o = o' := by rw [ho] at ho'; exact Option.some.inj ho'
            obtain rfl : φ = φ' := by rw [hφ] at hn; exact Option.some.inj hn
            refine ⟨fk, fun w hwB hyp => ?_⟩
            rw [actTo_congr (cs' := cs0) k f0]
            refine hc w hwB fun p hp hd => ?_
            obtain ⟨h1, h2, h3⟩ := (hH p).1 hp
            have := hyp p.1 p.2 h1 (by rw [wtd_congr p.1 (fun i hi => f0 i (by omega))]; exact h2) h3 hd
            rw [f0 p.1 h1, hv p hp] at this
            exact this
          · exact e2 j o' φ' hlt ho' hwj hn
        · intro j o' hj ho' hwj
          rcases Nat.eq_or_lt_of_le hj with rfl | hlt
          · rw [wtd_congr k f0, wk, hw] at hwj; cases hwj
          · exact e3 j o' hlt ho' hwj
    · rw [if_neg hw] at h
      rw [put undef] at h
      obtain ⟨cs, e0, e1, e2, e3, e4⟩ := ih (k + 1) _ H hl' hk' h (fun p => by
        rw [hH p]
        constructor
        · rintro ⟨h1, h2, h3⟩; exact ⟨by omega, by rw [wold undef p.1 (by omega)]; exact h2, h3⟩
        · rintro ⟨h1, h2, h3⟩
          have hne : p.1 ≠ k := by
            intro e
            rw [e, wold undef k (Nat.le_refl _), wk] at h2
            exact hw h2
          exact ⟨by omega, by rw [← wold undef p.1 (by omega)]; exact h2, h3⟩) (fun p hp => by
        have := ((hH p).1 hp).1
        rw [if_neg (by omega)]
        exact hv p hp)
      obtain ⟨f0, fk⟩ := lift cs undef e0
      have hwf : wtd ops a0 cs k = false := by
        rw [wtd_congr k f0, wk]
        simpa using hw
      refine ⟨cs, f0, ?_, ?_, ?_, e4⟩
      · intro j o' hj ho' hwj hn w hwB hyp
        rcases Nat.eq_or_lt_of_le hj with rfl | hlt
        · rw [hwf] at hwj; cases hwj
        · exact e1 j o' hlt ho' hwj hn w hwB hyp
      · intro j o' φ' hj ho' hwj hn
        rcases Nat.eq_or_lt_of_le hj with rfl | hlt
        · rw [hwf] at hwj; cases hwj
        · exact e2 j o' φ' hlt ho' hwj hn
      · intro j o' hj ho' hwj
        rcases Nat.eq_or_lt_of_le hj with rfl | hlt
        · exact fk
        · exact e3 j o' hlt ho' hwj

theorem seqV_of_walk {vals : Nat → Value} (h : wpSW ops Φ w0 Q vals P ops.toList 0 a0 []) : ∃ cs, SeqV P ops Φ w0 Q a0 vals cs := by
  obtain ⟨cs, _, e1, e2, e3, e4⟩ := seq_of_walk (a0 := a0) ops.toList 0 (fun _ => undef) [] (fun j => by simp) (by simp) h (by simp) (by simp)
  exact ⟨cs, fun k o ho => e1 k o (Nat.zero_le _) ho, fun k o φ ho => e2 k o φ (Nat.zero_le _) ho, fun k o ho => e3 k o (Nat.zero_le _) ho, e4⟩

/-! ### What the form of the region gives -/
structure RForm (ops : Array Oper) : Prop where
  sel : Region.noSelect ops = true
  back : ∀ i o, ops[i]? = some o → ∀ e ∈ o.after, Region.binds .any e = true → e.on < i
  one : ∀ i j d, dstOf ops i = some d → dstOf ops j = some d → i = j
  look : ∀ i o j d, ops[i]? = some o → dstOf ops j = some d → d ∈ o.looksAt ops → (j < i ∧ depB ops i j = true) ∨ (i < j ∧ depB ops j i = true)

theorem rform_of_ok (h : regionOk ops = true) : RForm ops := by
  unfold regionOk at h
  rw [Bool.and_eq_true, List.all_eq_true] at h
  obtain ⟨hs, h⟩ := h
  have key : ∀ i o, ops[i]? = some o → (o.after.toList.all fun e => !Region.binds .any e || decide (e.on < i)) = true ∧
      ∀ j oj d, ops[j]? = some oj → oj.dst = some d → ((i == j || o.dst != some d) && (!(o.looksAt ops).contains d || (decide (j < i) && depB ops i j) || (decide (i < j) && depB ops j i))) = true := by
    intro i o ho
    have hi := (Array.getElem?_eq_some_iff.1 ho).1
    have := h i (List.mem_range.2 hi)
    rw [ho, Bool.and_eq_true, List.all_eq_true (l := List.range ops.size)] at this
    refine ⟨this.1, fun j oj d hj hd => ?_⟩
    have h2 := this.2 j (List.mem_range.2 (Array.getElem?_eq_some_iff.1 hj).1)
    rw [hj] at h2
    simp only [hd] at h2
    exact h2
  have get : ∀ j d, dstOf ops j = some d → ∃ oj, ops[j]? = some oj ∧ oj.dst = some d := fun j d hd => by
    unfold dstOf at hd
    cases hj : ops[j]? with
    | none => rw [hj] at hd; cases hd
    | some oj => rw [hj] at hd; exact ⟨oj, rfl, hd⟩
  refine ⟨hs, fun i o ho e he hb => ?_, fun i j d hi hj => ?_, fun i o j d ho hj hl => ?_⟩
  · have := List.all_eq_true.1 (key i o ho).1 e (by simpa using he)
    simpa [hb] using this
  · obtain ⟨oi, hoi, hdi⟩ := get i d hi
    obtain ⟨oj, hoj, hdj⟩ := get j d hj
    have := (key i oi hoi).2 j oj d hoj hdj
    simp [hdi] at this
    exact this.1
  · obtain ⟨oj, hoj, hdj⟩ := get j d hj
    have := (key i o ho).2 j oj d hoj hdj
    have h2 := (Bool.and_eq_true _ _ ▸ this).2
    rw [show (o.looksAt ops).contains d = true from List.contains_iff_mem.2 hl] at h2
    simp only [Bool.not_true, Bool.false_or, Bool.or_eq_true, Bool.and_eq_true, decide_eq_true_eq] at h2
    exact h2

theorem actTo_defers (cs : Nat → Value) (k : Nat) : (actTo ops a0 cs k).defers = a0.defers := by
  induction k with
  | zero => rfl
  | succ k ih =>
    show ((actTo ops a0 cs k).put _ _).defers = _
    cases dstOf ops k <;> exact ih
theorem put_tmps (a : Act) (x : Option Tmp) (v : Value) (s : Nat) : (a.put x v).tmps[s]? = if x = some s then (if s < a.tmps.size then some v else none) else a.tmps[s]? := by
  cases x with
  | none => simp [Act.put]
  | some d =>
    simp only [Act.put, Option.some.injEq, Array.getElem?_setIfInBounds]
    by_cases h : d = s
    · subst h; simp
    · simp [h]
theorem put_size (a : Act) (x : Option Tmp) (v : Value) : (a.put x v).tmps.size = a.tmps.size := by cases x <;> simp [Act.put]
theorem actTo_size (cs : Nat → Value) (k : Nat) : (actTo ops a0 cs k).tmps.size = a0.tmps.size := by
  induction k with
  | zero => rfl
  | succ k ih => show ((actTo ops a0 cs k).put _ _).tmps.size = _; rw [put_size, ih]
theorem actTo_at (F : RForm ops) (cs : Nat → Value) (k j d : Nat) (hj : j < k) (hd : dstOf ops j = some d) : (actTo ops a0 cs k).tmps[d]? = if d < a0.tmps.size then some (cs j) else none := by
  induction k with
  | zero => omega
  | succ k ih =>
    show ((actTo ops a0 cs k).put _ _).tmps[d]? = _
    rw [put_tmps, actTo_size]
    by_cases hk : j = k
    · subst hk; rw [if_pos hd]
    · rw [if_neg (fun h => hk (F.one j k d hd h)), ih (by omega)]
theorem actTo_old (cs : Nat → Value) (k s : Nat) (h : ∀ j, j < k → dstOf ops j ≠ some s) : (actTo ops a0 cs k).tmps[s]? = a0.tmps[s]? := by
  induction k with
  | zero => rfl
  | succ k ih =>
    show ((actTo ops a0 cs k).put _ _).tmps[s]? = _
    rw [put_tmps, if_neg (h k (by omega)), ih (fun j hj => h j (by omega))]

/-- The frame in whatever order: what was written is what the text's order writes. -/
structure actL (ops : Array Oper) (a0 : Act) (listed : Array Bool) (cs : Nat → Value) (a : Act) : Prop where
  defers : a.defers = a0.defers
  size : a.tmps.size = a0.tmps.size
  at_ : ∀ j d, listed.getD j false = true → dstOf ops j = some d → a.tmps[d]? = if d < a0.tmps.size then some (cs j) else none
  old : ∀ s, (∀ j, listed.getD j false = true → dstOf ops j ≠ some s) → a.tmps[s]? = a0.tmps[s]?

theorem actL_put {listed : Array Bool} {cs : Nat → Value} {a : Act} (F : RForm ops) (h : actL ops a0 listed cs a) (i : Nat) (hi : i < listed.size) (hn : listed.getD i false = false) (o : Oper) (ho : ops[i]? = some o) (v : Value) (hv : cs i = v) :
    actL ops a0 (listed.setIfInBounds i true) cs (a.put o.dst v) := by
  have hd : o.dst = dstOf ops i := by simp [dstOf, ho]
  have hset : ∀ j, (listed.setIfInBounds i true).getD j false = true ↔ j = i ∨ listed.getD j false = true := fun j => by
    by_cases hj : i = j
    · subst hj; simp [hi]
    · rw [getD_set_ne false hj]; simp [Ne.symm hj]
  subst hv
  refine ⟨by rw [show (a.put o.dst (cs i)).defers = a.defers by cases o.dst <;> rfl]; exact h.defers, by rw [put_size]; exact h.size, fun j d hj hdj => ?_, fun s hs => ?_⟩
  · rw [put_tmps, hd, h.size]
    by_cases hji : j = i
    · subst hji; rw [if_pos hdj]
    · rw [if_neg (fun e => hji (F.one j i d hdj e))]
      exact h.at_ j d (((hset j).1 hj).resolve_left hji) hdj
  · rw [put_tmps, hd, if_neg (hs i ((hset i).2 (.inl rfl)))]
    exact h.old s fun j hj => hs j ((hset j).2 (.inr hj))

theorem depB_iff {k j : Nat} : depB ops k j = true ↔ ∃ o, ops[k]? = some o ∧ ∃ e ∈ o.after, Region.binds .any e = true ∧ e.on = j := by
  unfold depB
  cases hk : ops[k]? with
  | none => simp
  | some o => simp only [Option.some.injEq, exists_eq_left', List.any_eq_true, Bool.and_eq_true, beq_iff_eq, Array.mem_toList_iff]

theorem execOp_same {a b : Act} (F : RForm ops) {i : Nat} {o : Oper} (ho : ops[i]? = some o) (h : ∀ d, d ∈ o.looksAt ops → a.tmps[d]? = b.tmps[d]?) :
    execOp a.eval o = execOp b.eval o ∧ Region.wanted o (yielded ops a.tmps) = Region.wanted o (yielded ops b.tmps) := by
  refine ⟨execOp_congr o (fun cs b => Region.noSelect_spec F.sel i o cs b ho) fun x hx => ?_, ?_⟩
  · cases x with
    | tmp t =>
      have := h t (List.mem_append_left _ (List.mem_filterMap.2 ⟨.tmp t, by simpa using hx, rfl⟩))
      simp [Act.eval, this]
    | _ => rfl
  · unfold Region.wanted
    cases hg : o.guard with
    | none => rfl
    | some gw =>
      obtain ⟨g, want⟩ := gw
      have : yielded ops a.tmps g = yielded ops b.tmps g := by
        unfold yielded
        cases ht : (ops[g]?).bind (·.dst) with
        | none => rfl
        | some t =>
          have := h t (by simp [Oper.looksAt, hg, ht])
          simp [this]
      simp only [this]

theorem look_seq (F : RForm ops) {i : Nat} {o : Oper} (ho : ops[i]? = some o) {listed : Array Bool} {cs : Nat → Value} {a : Act} (h : actL ops a0 listed cs a)
    (hdep : ∀ j, depB ops i j = true → listed.getD j false = true) (hun : ∀ j, depB ops j i = true → listed.getD j false = false) :
    ∀ d, d ∈ o.looksAt ops → a.tmps[d]? = (actTo ops a0 cs i).tmps[d]? := by
  intro d hd
  by_cases hx : ∃ j, dstOf ops j = some d
  · obtain ⟨j, hj⟩ := hx
    rcases F.look i o j d ho hj hd with ⟨h1, h2⟩ | ⟨h1, h2⟩
    · rw [h.at_ j d (hdep j h2) hj, actTo_at F cs i j d h1 hj]
    · have x1 : a.tmps[d]? = a0.tmps[d]? := h.old d fun k hk e => by
        have := F.one k j d e hj
        subst this
        rw [hun k h2] at hk
        cases hk
      have x2 : (actTo ops a0 cs i).tmps[d]? = a0.tmps[d]? := actTo_old cs i d fun k hk e => by
        have := F.one k j d e hj
        omega
      rw [x1, x2]
  · rw [h.old d fun j _ e => hx ⟨j, e⟩, actTo_old cs i d fun j _ e => hx ⟨j, e⟩]

theorem look_two (F : RForm ops) {i : Nat} {o : Oper} (ho : ops[i]? = some o) {cs cs' : Nat → Value} (h : ∀ j, j < i → depB ops i j = true → cs j = cs' j) :
    ∀ d, d ∈ o.looksAt ops → (actTo ops a0 cs i).tmps[d]? = (actTo ops a0 cs' i).tmps[d]? := by
  intro d hd
  by_cases hx : ∃ j, dstOf ops j = some d
  · obtain ⟨j, hj⟩ := hx
    rcases F.look i o j d ho hj hd with ⟨h1, h2⟩ | ⟨h1, h2⟩
    · rw [actTo_at F cs i j d h1 hj, actTo_at F cs' i j d h1 hj, h j h1 h2]
    · rw [actTo_old cs i d fun k hk e => by have := F.one k j d e hj; omega, actTo_old cs' i d fun k hk e => by have := F.one k j d e hj; omega]
  · rw [actTo_old cs i d fun j _ e => hx ⟨j, e⟩, actTo_old cs' i d fun j _ e => hx ⟨j, e⟩]

theorem wtd_eq {i : Nat} {o : Oper} (ho : ops[i]? = some o) (cs : Nat → Value) : wtd ops a0 cs i = Region.wanted o (yielded ops (actTo ops a0 cs i).tmps) := by unfold wtd; rw [ho]

/-- TWO WALKS AGREE on all that was carried out, if they agree on the calls' results. -/
theorem seq_agree (F : RForm ops) {vals vals' cs cs' : Nat → Value} (S : SeqV P ops Φ w0 Q a0 vals cs) (S' : SeqV P ops Φ w0 Q a0 vals' cs') {listed : Array Bool} {w : World} (hw : Below w0.heap.size w0 w)
    (hcl : ∀ j k, listed.getD j false = true → depB ops j k = true → listed.getD k false = true)
    (hv : ∀ j, listed.getD j false = true → vals j = vals' j)
    (hφ : ∀ j φ, listed.getD j false = true → wtd ops a0 cs j = true → Φ j = some φ → φ (cs j) w) :
    ∀ n j, j < n → listed.getD j false = true → j < ops.size → cs j = cs' j ∧ wtd ops a0 cs j = wtd ops a0 cs' j := by
  intro n
  induction n with
  | zero => intro j hj; omega
  | succ n ih =>
    intro j hj hl hs
    have ho : ops[j]? = some ops[j] := Array.getElem?_eq_getElem hs
    have hdl : ∀ k, k < j → depB ops j k = true → cs k = cs' k := fun k hk hd => (ih k (by omega) (hcl j k hl hd) (by omega)).1
    obtain ⟨e1, e2⟩ := execOp_same F ho (look_two (a0 := a0) F ho hdl)
    have hwt : wtd ops a0 cs j = wtd ops a0 cs' j := by rw [wtd_eq ho, wtd_eq ho, e2]
    refine ⟨?_, hwt⟩
    have hyp : hypTo ops Φ a0 cs j w := fun k φ hk hwk hf hd => hφ k φ (hcl j k hl hd) hwk hf
    have hyp' : hypTo ops Φ a0 cs' j w := fun k φ hk hwk hf hd => by
      obtain ⟨g1, g2⟩ := ih k (by omega) (hcl j k hl hd) (by omega)
      rw [← g1]
      exact hφ k φ (hcl j k hl hd) (by rw [g2]; exact hwk) hf
    by_cases hwj : wtd ops a0 cs j = true
    · cases hf : Φ j with
      | none =>
        have r1 := S.pure j _ ho hwj hf w hw hyp
        have r2 := S'.pure j _ ho (hwt ▸ hwj) hf w hw hyp'
        rw [e1, r2] at r1
        injection r1 with r1 _
        injection r1 with r1
        exact r1.symm
      | some φ => rw [(S.pred j _ φ ho hwj hf).1, (S'.pred j _ φ ho (hwt ▸ hwj) hf).1, hv j hl]
    · have hwj : wtd ops a0 cs j = false := by simpa using hwj
      rw [S.skip j _ ho hwj, S'.skip j _ ho (hwt ▸ hwj)]

theorem any_of_seq (F : RForm ops) (hst : ∀ k φ, Φ k = some φ → ∀ v w w', φ v w → Below w.heap.size w w' → φ v w') (H : ∀ vals, ∃ cs, SeqV P ops Φ w0 Q a0 vals cs) :
    ∀ (fuel : Nat) (un : List Nat) (listed : Array Bool) (a : Act) (w : World) (vals cs : Nat → Value), un.length = fuel → un.Nodup → listed.size = ops.size →
      (∀ j, j < ops.size → (listed.getD j false = false ↔ j ∈ un)) → (∀ j k, listed.getD j false = true → depB ops j k = true → listed.getD k false = true) →
      Below w0.heap.size w0 w → SeqV P ops Φ w0 Q a0 vals cs → (∀ j φ, listed.getD j false = true → wtd ops a0 cs j = true → Φ j = some φ → φ (cs j) w) → actL ops a0 listed cs a →
      wpAny P .any ops Q fuel listed a w := by
  have final : ∀ (listed : Array Bool) (a : Act) (w : World) (vals cs : Nat → Value), (∀ j, j < ops.size → listed.getD j false = true) →
      Below w0.heap.size w0 w → SeqV P ops Φ w0 Q a0 vals cs → (∀ j φ, listed.getD j false = true → wtd ops a0 cs j = true → Φ j = some φ → φ (cs j) w) → actL ops a0 listed cs a → Q .normal a w := by
    intro listed a w vals cs hall hw S hφ hA
    have : a = actTo ops a0 cs ops.size := by
      obtain ⟨t, d⟩ := a
      have h1 : t = (actTo ops a0 cs ops.size).tmps := by
        apply Array.ext_getElem?
        intro s
        by_cases hx : ∃ j, dstOf ops j = some s
        · obtain ⟨j, hj⟩ := hx
          have hjs : j < ops.size := by
            unfold dstOf at hj
            cases ho : ops[j]? with
            | none => rw [ho] at hj; cases hj
            | some o => exact (Array.getElem?_eq_some_iff.1 ho).1
          rw [hA.at_ j s (hall j hjs) hj, actTo_at F cs _ j s hjs hj]
        · rw [hA.old s fun j _ e => hx ⟨j, e⟩, actTo_old cs _ s fun j _ e => hx ⟨j, e⟩]
      have h2 : d = (actTo ops a0 cs ops.size).defers := by rw [actTo_defers]; exact hA.defers
      rw [h1, h2]
    rw [this]
    exact S.done w hw fun j φ hj hwj hf => hφ j φ (hall j hj) hwj hf
  have noReady : ∀ listed : Array Bool, listed.size = ops.size → Region.ready .any ops listed = [] → ∀ j, j < ops.size → listed.getD j false = true := by
    intro listed hsz hr
    have : ∀ n j, j < n → j < ops.size → listed.getD j false = true := by
      intro n
      induction n with
      | zero => intro j hj; omega
      | succ n ih =>
        intro j hj hs
        by_cases hl : listed.getD j false = true
        · exact hl
        · exfalso
          have ho : ops[j]? = some ops[j] := Array.getElem?_eq_getElem hs
          have : j ∈ Region.ready .any ops listed := by
            rw [mem_ready]
            refine ⟨?_, _, ho, fun e he hb => ?_⟩
            · have hl' : listed.getD j false = false := by simpa using hl
              have hjl : j < listed.size := by omega
              simp [hjl] at hl' ⊢
              exact hl'
            · have := F.back j _ ho e he hb
              exact ih e.on (by omega) (by omega)
          rw [hr] at this
          cases this
    exact fun j hj => this (j + 1) j (Nat.lt_succ_self j) hj
  intro fuel
  induction fuel with
  | zero =>
    intro un listed a w vals cs hu hnd hsz hun hcl hw S hφ hA
    have hun0 : un = [] := List.eq_nil_of_length_eq_zero hu
    subst hun0
    have hall : ∀ j, j < ops.size → listed.getD j false = true := fun j hj => by
      cases hl : listed.getD j false with
      | true => rfl
      | false => exact absurd ((hun j hj).1 hl) (by simp)
    refine ⟨?_, final listed a w vals cs hall hw S hφ hA⟩
    apply List.eq_nil_iff_forall_not_mem.2
    intro j hj
    rw [mem_ready] at hj
    obtain ⟨h0, o, ho, _⟩ := hj
    have hjs := (Array.getElem?_eq_some_iff.1 ho).1
    have h1 := hall j hjs
    have hjl : j < listed.size := by omega
    simp [hjl] at h0 h1
    rw [h0] at h1
    cases h1
  | succ fuel ih =>
    intro un listed a w vals cs hu hnd hsz hun hcl hw S hφ hA
    refine ⟨fun hr => final listed a w vals cs (noReady listed hsz hr) hw S hφ hA, fun i hi => ?_⟩
    rw [mem_ready] at hi
    obtain ⟨h0, o, ho, hdeps⟩ := hi
    have his := (Array.getElem?_eq_some_iff.1 ho).1
    have hil : i < listed.size := by omega
    have hin : listed.getD i false = false := by simp [hil] at h0 ⊢; exact h0
    have hdep : ∀ j, depB ops i j = true → listed.getD j false = true := fun j hj => by
      obtain ⟨o', ho', e, he, hb, hon⟩ := depB_iff.1 hj
      obtain rfl : o = o' := by rw [ho] at ho'; exact Option.some.inj ho'
      rw [← hon]
      exact hdeps e he hb
    have hunb : ∀ j, depB ops j i = true → listed.getD j false = false := fun j hj => by
      cases hl : listed.getD j false with
      | false => rfl
      | true => have := hcl j i hl hj; rw [hin] at this; cases this
    obtain ⟨e1, e2⟩ := execOp_same F ho (look_seq F ho hA hdep hunb)
    have hset : ∀ j, (listed.setIfInBounds i true).getD j false = true ↔ j = i ∨ listed.getD j false = true := fun j => by
      by_cases hj : i = j
      · subst hj; simp [hil]
      · rw [getD_set_ne false hj]; simp [Ne.symm hj]
    have hiu : i ∈ un := (hun i his).1 hin
    have un1 : (un.erase i).length = fuel := by rw [List.length_erase_of_mem hiu, hu]; rfl
    have un2 : (un.erase i).Nodup := hnd.erase i
    have un3 : ∀ j, j < ops.size → ((listed.setIfInBounds i true).getD j false = false ↔ j ∈ un.erase i) := fun j hj => by
      rw [hnd.mem_erase_iff, ← hun j hj]
      by_cases hji : j = i
      · subst hji; simp [hil]
      · rw [getD_set_ne false (Ne.symm hji)]; simp [hji]
    have cl' : ∀ j k, (listed.setIfInBounds i true).getD j false = true → depB ops j k = true → (listed.setIfInBounds i true).getD k false = true := fun j k hj hd => by
      rw [hset] at hj ⊢
      rcases hj with rfl | hj
      · exact .inr (hdep k hd)
      · exact .inr (hcl j k hj hd)
    have next := fun (w' : World) (vals' cs' : Nat → Value) (v : Value) (hw' : Below w0.heap.size w0 w') (S' : SeqV P ops Φ w0 Q a0 vals' cs')
        (hφ' : ∀ j φ, (listed.setIfInBounds i true).getD j false = true → wtd ops a0 cs' j = true → Φ j = some φ → φ (cs' j) w') (hA' : actL ops a0 (listed.setIfInBounds i true) cs' (a.put o.dst v)) =>
      ih (un.erase i) (listed.setIfInBounds i true) (a.put o.dst v) w' vals' cs' un1 un2 (by simpa using hsz) un3 cl' hw' S' hφ' hA'
    have hyp : hypTo ops Φ a0 cs i w := fun k φ hk hwk hf hd => hφ k φ (hdep k hd) hwk hf
    unfold wpOp
    rw [ho]
    simp only []
    rw [e2, ← wtd_eq ho]
    by_cases hwi : wtd ops a0 cs i = true
    · rw [if_pos hwi]
      left
      unfold Oper.wp
      rw [e1]
      cases hf : Φ i with
      | none =>
        rw [S.pure i o ho hwi hf w hw hyp, Oper.upon_value]
        refine next w vals cs (cs i) hw S (fun j φ hj hwj hfj => ?_) (actL_put F hA i hil hin o ho _ rfl)
        rcases (hset j).1 hj with rfl | hj
        · rw [hf] at hfj; cases hfj
        · exact hφ j φ hj hwj hfj
      | some φ =>
        have Y := (S.pred i o φ ho hwi hf).2 w hw hyp
        -- behind the operation: the value v in the world w'
        have after : ∀ (v : Value) (w' : World), φ v w' → Below w.heap.size w w' → wpAny P .any ops Q fuel (listed.setIfInBounds i true) (a.put o.dst v) w' := by
          intro v w' hv hb
          have hw' : Below w0.heap.size w0 w' := hw.trans (hb.mono hw.size)
          obtain ⟨cs', S'⟩ := H (fun j => if j = i then v else vals j)
          have hφw' : ∀ j φ, listed.getD j false = true → wtd ops a0 cs j = true → Φ j = some φ → φ (cs j) w' := fun j ψ hj hwj hfj => hst j ψ hfj _ w w' (hφ j ψ hj hwj hfj) hb
          have hagree := seq_agree F S S' hw' hcl (fun j hj => by
            have : j ≠ i := by intro e; rw [e, hin] at hj; cases hj
            exact (if_neg this).symm) hφw'
          have agree : ∀ j, listed.getD j false = true → j < ops.size → cs j = cs' j ∧ wtd ops a0 cs j = wtd ops a0 cs' j := fun j hj hs => hagree (j + 1) j (Nat.lt_succ_self j) hj hs
          have inr : ∀ j, listed.getD j false = true → j < ops.size := fun j hj => by
            rcases Nat.lt_or_ge j ops.size with h | h
            · exact h
            · rw [← hsz] at h; simp [Array.getElem?_eq_none h] at hj
          have hdl : ∀ k, k < i → depB ops i k = true → cs k = cs' k := fun k hk hd => (agree k (hdep k hd) (by omega)).1
          obtain ⟨f1, f2⟩ := execOp_same F ho (look_two (a0 := a0) F ho hdl)
          have hwt : wtd ops a0 cs i = wtd ops a0 cs' i := by rw [wtd_eq ho, wtd_eq ho, f2]
          have hci : cs' i = v := by
            rw [(S'.pred i o φ ho (hwt ▸ hwi) hf).1]
            exact if_pos rfl
          have hA2 : actL ops a0 listed cs' a := ⟨hA.defers, hA.size, fun j d hj hd => by rw [← (agree j hj (inr j hj)).1]; exact hA.at_ j d hj hd, hA.old⟩
          refine next w' _ cs' v hw' S' (fun j ψ hj hwj hfj => ?_) (actL_put F hA2 i hil hin o ho v hci)
          rcases (hset j).1 hj with rfl | hj
          · rw [hf] at hfj
            obtain rfl := Option.some.inj hfj
            rw [hci]
            exact hv
          · obtain ⟨g1, g2⟩ := agree j hj (inr j hj)
            rw [← g1]
            exact hφw' j ψ hj (by rw [g2]; exact hwj) hfj
        generalize (execOp (actTo ops a0 cs i).eval o).run P w = r at Y
        cases r with
        | halt x w' => exact Y.elim
        | ok nx w' =>
          cases nx with
          | value v => rw [Oper.upon_value]; exact after v w' Y.1 Y.2
          | enter f args =>
            rw [Oper.upon_enter]
            refine Calls.mono Y fun e w'' he => ?_
            obtain ⟨v, rfl, h1, h2⟩ := he
            exact after v w'' h1 h2
          | _ => exact Y.elim
    · rw [if_neg hwi]
      have hwi : wtd ops a0 cs i = false := by simpa using hwi
      refine next w vals cs undef hw S (fun j φ hj hwj hfj => ?_) (actL_put F hA i hil hin o ho _ (S.skip i o ho hwi))
      rcases (hset j).1 hj with rfl | hj
      · rw [hwi] at hwj; cases hwj
      · exact hφ j φ hj hwj hfj

/-- THE LAW. -/
theorem wp_region_sw {id : Nat} {l : List Oper} {w : World} (hm : P.follows .mixedOrders = true) (hok : regionOk l.toArray = true) (Φ : Nat → Option (Value → World → Prop))
    (hst : ∀ k φ, Φ k = some φ → ∀ v w w', φ v w → Below w.heap.size w w' → φ v w') (h : ∀ vals, wpSW l.toArray Φ w Q vals P l 0 a0 []) : (Code.region id l.toArray true).wp P Q a0 w := by
  have F := rform_of_ok hok
  have H : ∀ vals, ∃ cs, SeqV P l.toArray Φ w Q a0 vals cs := fun vals => seqV_of_walk (by simpa using h vals)
  obtain ⟨cs, S⟩ := H (fun _ => undef)
  refine wp_region_any hm ?_
  have hrep : ∀ j, (Array.replicate l.toArray.size false).getD j false = false := fun j => by
    simp only [Array.getD_eq_getD_getElem?, Array.getElem?_replicate]
    split <;> rfl
  refine any_of_seq F hst H l.toArray.size (List.range l.toArray.size) _ a0 _ _ cs (by simp) List.nodup_range (by simp) (fun j hj => ?_) (fun j k hj => ?_) ?_ S (fun j φ hj => ?_) ⟨rfl, rfl, fun j d hj => ?_, fun s _ => rfl⟩
  · rw [hrep j]; simpa using hj
  · rw [hrep j] at hj; cases hj
  · exact ⟨rfl, rfl, rfl, Nat.le_refl _, fun _ _ => rfl⟩
  · rw [hrep j] at hj; cases hj
  · rw [hrep j] at hj; cases hj
end
/-! ### The walk, operation by operation -/
def okUpon (w : World) (v : Value) : Result Next → Prop
  | .ok (.value u) w' => w' = w ∧ u = v
  | _ => False

theorem okUpon_eq {w : World} {v : Value} {r : Result Next} (h : okUpon w v r) : r = .ok (.value v) w := by
  cases r with
  | halt x w' => exact h.elim
  | ok nx w' =>
    cases nx with
    | value u => obtain ⟨rfl, rfl⟩ := h; rfl
    | _ => exact h.elim

section
variable {P : Program} {ops : Array Oper} {Φ : Nat → Option (Value → World → Prop)} {w0 : World} {Q : Exit → Act → World → Prop} {vals : Nat → Value} {o : Oper} {rest : List Oper} {k : Nat} {a : Act} {H : List (Nat × (Value → World → Prop))}

/-- An operation that answers the same in every world. -/
theorem sw_pure (hf : Φ k = none)
    (h : ∀ K : Act → Prop, (∀ a', wpSW ops Φ w0 Q vals P rest (k + 1) a' H → K a') →
      if Region.wanted o (yielded ops a.tmps) then ∃ v, (∀ w, okUpon w v ((execOp a.eval o).run P w)) ∧ K (a.put o.dst v) else K (a.put o.dst undef)) : wpSW ops Φ w0 Q vals P (o :: rest) k a H := by
  have h := h _ (fun _ h => h)
  simp only [wpSW]
  by_cases hw : Region.wanted o (yielded ops a.tmps) = true
  · rw [if_pos hw] at h ⊢
    rw [hf]
    obtain ⟨v, h1, h2⟩ := h
    exact ⟨v, fun w _ _ => okUpon_eq (h1 w), h2⟩
  · rw [if_neg hw] at h ⊢
    exact h

/-- An operation whose value is told, and shown in the world it meets. -/
theorem sw_at (v : Value) (hf : Φ k = none) (hw : Region.wanted o (yielded ops a.tmps) = true)
    (h1 : ∀ w, Below w0.heap.size w0 w → (∀ p ∈ H, depB ops k p.1 = true → p.2 (vals p.1) w) → okUpon w v ((execOp a.eval o).run P w))
    (h : ∀ K : Act → Prop, (∀ a', wpSW ops Φ w0 Q vals P rest (k + 1) a' H → K a') → K (a.put o.dst v)) : wpSW ops Φ w0 Q vals P (o :: rest) k a H := by
  have h := h _ (fun _ h => h)
  simp only [wpSW]
  rw [if_pos hw, hf]
  exact ⟨v, fun w hb hH => okUpon_eq (h1 w hb hH), h⟩

/-- A call, or what makes memory. -/
theorem sw_call (φ : Value → World → Prop) (hf : Φ k = some φ) (hw : Region.wanted o (yielded ops a.tmps) = true)
    (h1 : ∀ w, Below w0.heap.size w0 w → (∀ p ∈ H, depB ops k p.1 = true → p.2 (vals p.1) w) → yieldsUpon P w (fun v w' => φ v w' ∧ Below w.heap.size w w') ((execOp a.eval o).run P w))
    (h : ∀ K : Act → Prop, (∀ a', wpSW ops Φ w0 Q vals P rest (k + 1) a' ((k, φ) :: H) → K a') → K (a.put o.dst (vals k))) : wpSW ops Φ w0 Q vals P (o :: rest) k a H := by
  have h := h _ (fun _ h => h)
  simp only [wpSW]
  rw [if_pos hw, hf]
  exact ⟨h1, h⟩

theorem sw_done (h : ∀ w, Below w0.heap.size w0 w → (∀ p ∈ H, p.2 (vals p.1) w) → Q .normal a w) : wpSW ops Φ w0 Q vals P [] k a H := h
end
/-- The builtin append, its run known. -/
theorem yields_append {P : Program} {w w' : World} {R : Value → World → Prop} {a : Act} {o : Oper} {s x : Operand} {t : TypeId} {v src v' : Value} (ho : o.op = .call { callee := .builtin .append, args := #[s, x], argTypes := #[t, t] })
    (hs : a.eval s = v) (hx : a.eval x = src) (hr : (Builtin.append_ #[t, t] o.type #[v, src]).run P w = .ok v' w') (h : R v' w') : yieldsUpon P w R ((execOp a.eval o).run P w) := by
  unfold execOp
  simp only [ho, resolve, invoke, builtin, Sem.run_bind, Sem.run_pure, Result.andThen_ok, List.map_toArray, List.map_cons, List.map_nil, hs, hx, hr]
  exact h

attribute [go_sem] okUpon yieldsUpon
end Go.Proofs.Ytikoafjnopkoaaa
