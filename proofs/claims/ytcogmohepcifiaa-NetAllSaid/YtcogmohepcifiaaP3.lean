/-
  No claim by itself: entries and snapshots in memory: slices of entries that read as a list, or lie in a row of their own; a copy. | records as bytes: what may be, how it is written, how it is read. | the contracts of num.Put, num.Get, num.PutText, num.GetText, num.Four, of the document's Put, Get, PutText, GetText, and of Cut: each answers what the plain function answers. Conditions: the slice reads as bytes; what is written to is the call's own. | the contracts of num.Get and of the document's Get. Condition: the slice reads as bytes. | the contracts of num.PutText, num.GetText, num.Four, of the document's Put, PutText, GetText, and of Cut. Conditions: the slice reads as bytes; what is written to is the call's own. | the contracts of crc.More, crc.Sum, of the document's Sum and of Short: each answers what the plain function answers and turns nothing. Condition: the slice reads as bytes. No condition.
-/
import Derived.Test.YtcogmohepcifiaaP2
import Derived.Test.YtcogmohepcifiaaRows
import Derived.Lib.BufferMore
import Derived.IntWalk
import Derived.Test.YtcogmohepcifiaaP1
import Derived.Deep.DeepCutAuto
import Derived.Deep.Cut
import Derived.Laws.ShiftsVar
import Derived.Laws.DeepNot64
import Derived.WalkSmall
namespace Go.Proofs.Ytcogmohepcifiaa
open Go.ChangeShapes Go.WideShapes Go.ChangeAt Go.RowKit

/-- An entry; a snapshot. -/
structure Ent where
  i : Int
  t : Int
  k : Int
  d : ByteArray
structure Snp where
  i : Int
  t : Int
  c : ByteArray
  d : ByteArray
def entCells (e : Ent) : List Value := [.int .i64 e.i, .int .i64 e.t, .int .i64 e.k, .string e.d]
def snpCells (s : Snp) : List Value := [.int .i64 s.i, .int .i64 s.t, .string s.c, .string s.d]
def entAgg (e : Ent) : Value := .agg #[.int .i64 e.i, .int .i64 e.t, .int .i64 e.k, .string e.d]
def snpAgg (s : Snp) : Value := .agg #[.int .i64 s.i, .int .i64 s.t, .string s.c, .string s.d]
def Ent.wf (e : Ent) : Prop := (-9223372036854775808 ≤ e.i ∧ e.i ≤ 9223372036854775807) ∧ (-9223372036854775808 ≤ e.t ∧ e.t ≤ 9223372036854775807) ∧ (-9223372036854775808 ≤ e.k ∧ e.k ≤ 9223372036854775807) ∧ e.d.size ≤ maxLen
def Snp.wf (s : Snp) : Prop := (-9223372036854775808 ≤ s.i ∧ s.i ≤ 9223372036854775807) ∧ (-9223372036854775808 ≤ s.t ∧ s.t ≤ 9223372036854775807) ∧ s.c.size ≤ maxLen ∧ s.d.size ≤ maxLen

theorem info_ent : (Try.prog.info? 35).map (fun i => (i.zero, i.size, i.bytes)) = some (some (.agg #[.int .i64 0, .int .i64 0, .int .i64 0, .string .empty]), 4, 40) := by kernel_rfl

/-- A slice that reads as entries; a row of entries of one's own. -/
def EntR (w : World) (v : Value) (es : List Ent) : Prop := Recs 4 entCells w v es
def EntO (w : World) (base : Nat) (v : Value) (es : List Ent) : Prop := w.ownsRow base 35 4 v es.length (es.flatMap entCells)

theorem entCells_len (es : List Ent) : (es.flatMap entCells).length = es.length * 4 := by
  induction es with
  | nil => rfl
  | cons e es ih => simp only [List.flatMap_cons, List.length_append, ih, List.length_cons, entCells, List.length_nil]; omega
theorem entCells_get (es : List Ent) (k : Nat) (hk : k < es.length) (j : Nat) (hj : j < 4) : (es.flatMap entCells)[k * 4 + j]? = (entCells es[k])[j]? := by
  induction es generalizing k with
  | nil => simp at hk
  | cons e es ih =>
    rw [List.flatMap_cons]
    cases k with
    | zero => rw [Nat.zero_mul, Nat.zero_add, List.getElem?_append_left (by simpa [entCells] using hj)]; rfl
    | succ k =>
      rw [List.getElem?_append_right (by simp [entCells]; omega), List.getElem_cons_succ, ← ih k (by simpa using hk)]
      congr 1
      simp only [entCells, List.length_cons, List.length_nil]
      omega
theorem entCells_oneCell (es : List Ent) : ∀ u ∈ es.flatMap entCells, u.oneCell' = true := by
  intro u hu
  obtain ⟨e, _, he⟩ := List.mem_flatMap.1 hu
  simp only [entCells, List.mem_cons, List.not_mem_nil, or_false] at he
  rcases he with rfl | rfl | rfl | rfl <;> rfl

theorem EntR.slice {w : World} {v : Value} {es : List Ent} (h : EntR w v es) : ∃ a cap, v = .slice a es.length cap := by
  obtain ⟨a, cap, hv, _⟩ := h
  exact ⟨a, cap, hv⟩
theorem EntR.below {w w' : World} {v : Value} {es : List Ent} (h : EntR w v es) (hb : Below w.heap.size w w') : EntR w' v es := Recs.keeps h hb
theorem EntR.nil (w : World) (a : Option Addr) (cap : Nat) (hc : cap ≤ 9223372036854775807) : EntR w (.slice a 0 cap) [] := ⟨a, cap, rfl, Nat.zero_le _, hc, fun k hk => by simp at hk⟩

/-- All cells, one behind the other. -/
theorem EntR.flat {w : World} {a : Option Addr} {n cap : Nat} {es : List Ent} (h : EntR w (.slice a n cap) es) (hne : es ≠ []) : ∃ b off, a = some ⟨b, off, none⟩ ∧ b < w.heap.size ∧ ∀ j u, (es.flatMap entCells)[j]? = some u → w.cell? ⟨b, off + j, none⟩ = some u := by
  obtain ⟨a', cap', hv, h1, h2, h3⟩ := h
  simp only [Value.slice.injEq] at hv
  obtain ⟨rfl, rfl, rfl⟩ := hv
  obtain ⟨b, off, rfl, hb, _⟩ := h3 0 (by cases es with | nil => exact absurd rfl hne | cons _ _ => simp)
  refine ⟨b, off, rfl, hb, fun j u hu => ?_⟩
  have hj := (List.getElem?_eq_some_iff.1 hu).1
  rw [entCells_len] at hj
  have hk : j / 4 < es.length := by omega
  obtain ⟨b', off', he, _, hc⟩ := h3 (j / 4) hk
  simp only [Option.some.injEq, Addr.mk.injEq, and_true] at he
  obtain ⟨rfl, rfl⟩ := he
  have e1 : j = j / 4 * 4 + j % 4 := by omega
  rw [e1, entCells_get es (j / 4) hk (j % 4) (by omega)] at hu
  have := hc (j % 4) u hu
  rw [Nat.add_assoc] at this
  rw [e1]
  exact this

/-- One entry's cells. -/
theorem EntR.cells {w : World} {a : Option Addr} {n cap : Nat} {es : List Ent} (h : EntR w (.slice a n cap) es) (k : Nat) (hk : k < es.length) : ∃ b off, a = some ⟨b, off, none⟩ ∧ b < w.heap.size ∧
    w.cell? ⟨b, off + k * 4, none⟩ = some (.int .i64 es[k].i) ∧ w.cell? ⟨b, off + k * 4 + 1, none⟩ = some (.int .i64 es[k].t) ∧ w.cell? ⟨b, off + k * 4 + 2, none⟩ = some (.int .i64 es[k].k) ∧ w.cell? ⟨b, off + k * 4 + 3, none⟩ = some (.string es[k].d) := by
  obtain ⟨a', cap', hv, h1, h2, h3⟩ := h
  simp only [Value.slice.injEq] at hv
  obtain ⟨rfl, rfl, rfl⟩ := hv
  obtain ⟨b, off, ha, hb, hc⟩ := h3 k hk
  exact ⟨b, off, ha, hb, hc 0 _ rfl, hc 1 _ rfl, hc 2 _ rfl, hc 3 _ rfl⟩

theorem EntR.take {w : World} {a : Option Addr} {n cap : Nat} {es : List Ent} (h : EntR w (.slice a n cap) es) (k c : Nat) (hk : k ≤ es.length) (hc : k ≤ c) (hcm : c ≤ 9223372036854775807) : EntR w (.slice a k c) (es.take k) := by
  obtain ⟨a', cap', hv, h1, h2, h3⟩ := h
  simp only [Value.slice.injEq] at hv
  obtain ⟨rfl, rfl, rfl⟩ := hv
  have hl : (es.take k).length = k := by rw [List.length_take]; omega
  refine ⟨a, c, by rw [hl], by rw [hl]; exact hc, hcm, fun j hj => ?_⟩
  rw [hl] at hj
  obtain ⟨b, off, ha, hb, hcc⟩ := h3 j (by omega)
  refine ⟨b, off, ha, hb, fun i u hu => hcc i u ?_⟩
  rwa [List.getElem_take] at hu

theorem EntR.drop {w : World} {a : Option Addr} {n cap : Nat} {es : List Ent} (h : EntR w (.slice a n cap) es) (k : Nat) (hk : k ≤ es.length) : EntR w (.slice (if cap = k then a else a.map (·.add (k * 4))) (es.length - k) (cap - k)) (es.drop k) := by
  obtain ⟨a', cap', hv, h1, h2, h3⟩ := h
  simp only [Value.slice.injEq] at hv
  obtain ⟨rfl, rfl, rfl⟩ := hv
  have hl : (es.drop k).length = es.length - k := by rw [List.length_drop]
  refine ⟨_, cap - k, by rw [hl], by rw [hl]; omega, by omega, fun j hj => ?_⟩
  rw [hl] at hj
  obtain ⟨b, off, rfl, hb, hcc⟩ := h3 (k + j) (by omega)
  refine ⟨b, off + k * 4, by rw [if_neg (by omega)]; simp [Addr.add_lit], hb, fun i u hu => ?_⟩
  have := hcc i u (by rwa [List.getElem_drop] at hu)
  rw [← this]
  congr 2
  omega

theorem EntO.r {w : World} {base : Nat} {v : Value} {es : List Ent} (h : EntO w base v es) : EntR w v es := by
  rcases h.2 with ⟨rfl, hx⟩ | ⟨g, cap, cur, rfl, hb, hg, hnc, hcm, hcs, htake⟩
  · obtain rfl : es = [] := List.eq_nil_of_length_eq_zero hx
    exact EntR.nil _ _ _ (by omega)
  · refine ⟨_, cap, rfl, hnc, by simpa [maxLen] using hcm, fun k hk => ⟨g, 0, rfl, (Array.getElem?_eq_some_iff.1 hg).1, fun j u hu => ?_⟩⟩
    have hj : j < 4 := by have := (List.getElem?_eq_some_iff.1 hu).1; simpa [entCells] using this
    have hc := World.ownsRow.cells h (g := g) rfl (k * 4 + j) u (by rw [entCells_get es k hk j hj]; exact hu)
    rw [Addr.add_lit, Nat.zero_add] at hc
    rw [Nat.zero_add]
    exact hc
theorem EntO.nil (w : World) (base : Nat) : EntO w base (.slice none 0 0) [] := World.ownsRow_nil w base _ _
theorem EntO.below {w w' : World} {base : Nat} {v : Value} {es : List Ent} (h : EntO w base v es) (hb : Below w.heap.size w w') : EntO w' base v es := ownsRow_below h hb
theorem EntO.rebase {w : World} {base base' : Nat} {v : Value} {es : List Ent} (h : EntO w base v es) (hb : base' ≤ base) : EntO w base' v es := ownsRow_rebase h hb

section
variable {P : Program}
/-- 'append(out, src...)': out a row of one's own whose elements have several cells. -/
theorem wpList_append_ents {w : World} {ops : Array Oper} {rest : List Oper} {o : Oper} {a : Act} {Q : Exit → Act → World → Prop} (t : TypeId) (base : Nat) (z : Value)
    (ht : P.underlying t = some (.slice 35)) (hinfo : (P.info? 35).map (fun i => (i.zero, i.size, i.bytes)) = some (some z, 4, 40)) (hzs : z.cells.size = 4)
    (hgd : o.guard = none) (s x : Operand) (ho : o.op = .call { callee := .builtin .append, args := #[s, x], argTypes := #[t, t] })
    {v : Value} {es : List Ent} (hown : EntO w base v es) {src : Value} {fs : List Ent} (hsrc : EntR w src fs) (hs : a.eval s = v) (hx : a.eval x = src)
    (hlen : es.length + fs.length ≤ 1000000000000) (hbase : base ≤ w.heap.size)
    (h : ∀ v' w', EntO w' base v' (es ++ fs) → w.grownBy w' v.ownBlock → (∀ k, v'.ownBlock = some k → v.ownBlock = some k ∨ w.heap.size ≤ k) → wpList P ops Q rest (a.put o.dst v') w') : wpList P ops Q (o :: rest) a w := by
  obtain ⟨i, hi, hi'⟩ := Option.map_eq_some_iff.1 hinfo
  simp only [Prod.mk.injEq] at hi'
  obtain ⟨hz0, hz1, hz2⟩ := hi'
  obtain ⟨ao, cap, rfl⟩ := hsrc.slice
  refine wpList_append_src (P := P) hgd s x t ho base _ i z 4 40 ht hi hz0 hz1 hz2 hzs (by decide) v es.length _ hs hown ao fs.length cap (fs.flatMap entCells) hx (entCells_len fs) (fun hm => ?_) (entCells_oneCell fs) (by unfold maxLen; omega) (by omega) hbase
    (fun v' w' h1 h2 h3 => h v' w' (by unfold EntO; rw [List.length_append, List.flatMap_append]; exact h1) h2 h3)
  obtain ⟨b, off, rfl, _, hc⟩ := hsrc.flat (by intro e; subst e; exact hm rfl)
  exact ⟨_, rfl, fun j u hj => by rw [Addr.add_lit]; exact hc j u hj⟩

/-- 'append(l[:k:k], src...)': there is no room: a new row. -/
theorem wpList_append_full {w : World} {ops : Array Oper} {rest : List Oper} {o : Oper} {a : Act} {Q : Exit → Act → World → Prop} (t : TypeId) (z : Value)
    (ht : P.underlying t = some (.slice 35)) (hinfo : (P.info? 35).map (fun i => (i.zero, i.size, i.bytes)) = some (some z, 4, 40)) (hzs : z.cells.size = 4)
    (hgd : o.guard = none) (s x : Operand) (ho : o.op = .call { callee := .builtin .append, args := #[s, x], argTypes := #[t, t] })
    {al : Option Addr} {es : List Ent} {n : Nat} (hold : EntR w (.slice al n n) es) {src : Value} {fs : List Ent} (hsrc : EntR w src fs) (hfs : fs ≠ []) (hs : a.eval s = .slice al n n) (hx : a.eval x = src)
    (hlen : es.length + fs.length ≤ 1000000000000)
    (h : ∀ v' w', EntO w' w.heap.size v' (es ++ fs) → Below w.heap.size w w' → wpList P ops Q rest (a.put o.dst v') w') : wpList P ops Q (o :: rest) a w := by
  obtain ⟨i, hi, hi'⟩ := Option.map_eq_some_iff.1 hinfo
  simp only [Prod.mk.injEq] at hi'
  obtain ⟨hz0, hz1, hz2⟩ := hi'
  obtain ⟨ao, cap, rfl⟩ := hsrc.slice
  obtain ⟨b, off, rfl, hblt, hc⟩ := hsrc.flat hfs
  have hn : n = es.length := by obtain ⟨a', c', hv⟩ := hold.slice; simp only [Value.slice.injEq] at hv; exact hv.2.1
  subst hn
  have hfl : 0 < fs.length := by cases fs with | nil => exact absurd rfl hfs | cons _ _ => simp
  have grown : ∀ old, old < es.length + fs.length → EntO (w.drew.alloc (.cells ((es.flatMap entCells).toArray ++ (fs.flatMap entCells).toArray ++ Builtin.zeroCells z.cells (grownCap w (es.length + fs.length) old 35 - (es.length + fs.length))) 35)) w.heap.size
      (.slice (some ⟨w.heap.size, 0, none⟩) (es.length + fs.length) (grownCap w (es.length + fs.length) old 35)) (es ++ fs) := by
    intro old ho
    have hge := grownCap_ge w (es.length + fs.length) old 35
    have hcm : grownCap w (es.length + fs.length) old 35 ≤ maxLen := grownCap_le_maxLen w (es.length + fs.length) old _ (by unfold maxLen; omega)
    refine ⟨by rw [entCells_len], .inr ⟨w.heap.size, _, _, by rw [List.length_append], Nat.le_refl _, _root_.Go.heap_alloc_new w.drew _, by rw [List.length_append]; exact hge, hcm, ?_, ?_⟩⟩
    · simp only [Array.size_append, List.size_toArray, size_zeroCells, hzs, entCells_len]
      omega
    · rw [Array.toList_append, Array.toList_append, List.flatMap_append, List.length_append]
      have : ((es.flatMap entCells).toArray.toList ++ (fs.flatMap entCells).toArray.toList).length = (es.length + fs.length) * 4 := by simp only [List.length_append, entCells_len]; omega
      rw [← this]
      exact List.take_left
  have key : ∃ v' w', (Builtin.append_ #[t, t] o.type #[.slice al es.length es.length, .slice (some ⟨b, off, none⟩) fs.length cap]).run P w = .ok v' w' ∧ EntO w' w.heap.size v' (es ++ fs) ∧ Below w.heap.size w w' := by
    have hb : ∀ x, Below w.heap.size w (w.drew.alloc x) := fun x => (Below.refl w.heap.size w).drew.alloc (by simp) x
    have hnews : ∀ j u, (fs.flatMap entCells)[j]? = some u → w.cell? ((⟨b, off, none⟩ : Addr).add j) = some u := fun j u hj => by rw [Addr.add_lit]; exact hc j u hj
    cases al with
    | none =>
      have he : es = [] := by
        cases es with
        | nil => rfl
        | cons e es => obtain ⟨b, off, h, _⟩ := hold.flat (by simp); cases h
      subst he
      have hr := run_append_nil (P := P) w t o.type _ i z ht hi hz0 ⟨b, off, none⟩ fs.length cap (fs.flatMap entCells) (by rw [entCells_len, hz1]) hnews hfl (by omega) (by rw [hz2]; omega)
      have := grown 0 (by simpa using hfl)
      simp only [List.flatMap_nil, List.length_nil, Nat.zero_add, List.nil_append, Array.empty_append] at this
      exact ⟨_, _, hr, this, hb _⟩
    | some ad =>
      have hol : ∀ j u, (es.flatMap entCells)[j]? = some u → w.cell? (ad.add j) = some u := fun j u hj => by
        obtain ⟨b', off', h, _, hcc⟩ := hold.flat (by intro e; subst e; simp at hj)
        cases h
        rw [Addr.add_lit]
        exact hcc j u hj
      have hr := run_append_grow (P := P) w t o.type _ i z ht hi hz0 ad es.length es.length (es.flatMap entCells) (by rw [entCells_len, hz1]) hol ⟨b, off, none⟩ fs.length cap (fs.flatMap entCells) (by rw [entCells_len, hz1]) hnews (by omega) (by omega) (by rw [hz2]; exact growslice_fits (by omega) (by omega))
      exact ⟨_, _, hr, grown es.length (by omega), hb _⟩
  obtain ⟨v', w', hr, h2, h3⟩ := key
  refine wpList_plain hgd fun K hK => ?_
  unfold Oper.wp execOp
  simp only [ho, resolve, invoke, builtin, Sem.run_bind, Sem.run_pure, Result.andThen_ok, List.map_toArray, List.map_cons, List.map_nil, hs, hx, hr]
  exact hK _ _ (h v' w' h2 h3)
end

/-- What a call yields: a new row of entries. -/
def RetEnts (w : World) (es : List Ent) (e : Ending) (w' : World) : Prop := ∃ v, e = .returned v ∧ EntO w' w.heap.size v es ∧ Below w.heap.size w w'

theorem EntO.empty (w : World) (T : TypeId) (hT : T = 35) : EntO (w.alloc (.cells #[] T)) w.heap.size (.slice (some ⟨w.heap.size, 0, none⟩) 0 0) [] := by
  subst hT
  exact ⟨rfl, .inr ⟨w.heap.size, 0, #[], rfl, Nat.le_refl _, heap_alloc_new w _, Nat.le_refl _, by decide, rfl, rfl⟩⟩

theorem sl_cloneE (v : Value) (es : List Ent) (w : World) (h : EntR w v es) (hl : es.length ≤ 1000000000) :
    Calls Try.prog 45 #[v] w fun e w' => RetEnts w es e w' := by
  obtain ⟨a, cap, rfl⟩ := h.slice
  cases a with
  | none =>
    have hl0 : es = [] := by
      cases es with
      | nil => rfl
      | cons x l => obtain ⟨b, off, h, _⟩ := h.flat (by simp); cases h
    subst hl0
    have he : ∀ w : World, (binOp .eql 26 (.slice none 0 cap) (.slice none 0 0)).run Try.prog w = .ok (.bool true) w := fun W => Lib.run_eql_slice_nil_nil W _ _ Try.underlying26
    go_enter Try.func45, Try.ntmps45
    go_wp2_with fail
    go_ret
    exact ⟨_, rfl, EntO.nil _ _, Below.refl _ _⟩
  | some ad =>
    have hb0 := (Below.refl w.heap.size w).alloc (Nat.le_refl _) (.cells #[] 35)
    have hr := h.below hb0
    have he : ∀ w : World, (binOp .eql 26 (.slice (some ad) es.length cap) (.slice none 0 0)).run Try.prog w = .ok (.bool false) w := fun W => Lib.run_eql_slice_some_nil W _ _ _ Try.underlying26
    clear h
    go_enter Try.func45, Try.ntmps45
    go_wp2_with (at_builtin; refine wpList_append_ents 26 w.heap.size _ Try.underlying26 info_ent rfl rfl _ _ rfl (EntO.empty w _ rfl) hr rfl rfl (by simp; omega) (by simp) ?_)
    intro v' w' ho hg hk
    have hb : Below w.heap.size w w' := hb0.grown hg (by simp) (fun k hk => by simp [Value.ownBlock] at hk; omega)
    clear hk hg
    go_wp2_with fail
    go_ret
    exact ⟨_, rfl, ho, hb⟩
end Go.Proofs.Ytcogmohepcifiaa
namespace Go.Proofs.Ytcogmohepcifiaa
open Go.ChangeShapes Go.WideShapes Go.ChangeAt Go.RowKit

/-- A record: of a server's Term and vote, or of an entry. -/
structure Rec where
  hd : Bool
  t : Int
  v : Int
  e : Ent
def zeroE : Ent := ⟨0, 0, 0, .empty⟩
def zeroR : Rec := ⟨false, 0, 0, zeroE⟩
def inN (lo hi : Int) (l : List Int) : Bool := l.all fun n => decide (lo ≤ n) && decide (n ≤ hi)
def mxN : Int := 1099511627776
/-- May it be? -/
def mayR (r : Rec) : Bool :=
  if r.hd then decide (0 ≤ r.t) && decide (r.t ≤ 1099511627776) && decide (0 ≤ r.v) && decide (r.v ≤ 7) && (r.e.i == 0 && r.e.t == 0 && r.e.k == 0 && decide (r.e.d.size = 0))
  else (r.t == 0 && r.v == 0) && (decide (1 ≤ r.e.i) && decide (r.e.i ≤ 1099511627776) && decide (1 ≤ r.e.t) && decide (r.e.t ≤ 1099511627776)) && decide (1 ≤ r.e.k) && decide (r.e.k ≤ 3) && decide (r.e.d.size ≤ 2500)
def bodyR (r : Rec) : List UInt8 := if r.hd then putN r.t ++ putN r.v else putN r.e.i ++ putN r.e.t ++ putN r.e.k ++ putT r.e.d.data.toList
/-- Its bytes; none, if it may not be. -/
def encR (r : Rec) : List UInt8 := if mayR r then sealP (if r.hd then 1 else 2) (bodyR r) else []

/-- A reader of parts: a number, a text, whether all went. -/
def rdN (s : List UInt8 × Bool) : Int × List UInt8 × Bool :=
  ((getN s.1).1, if (s.2 || decide ((getN s.1).2.2 ≠ 0)) then s.1 else s.1.drop (getN s.1).2.1, s.2 || decide ((getN s.1).2.2 ≠ 0))
def rdT (s : List UInt8 × Bool) : List UInt8 × List UInt8 × Bool :=
  ((getT s.1).1, if (s.2 || decide ((getT s.1).2.2 ≠ 0)) then s.1 else s.1.drop (getT s.1).2.1, s.2 || decide ((getT s.1).2.2 ≠ 0))
def rdD (s : List UInt8 × Bool) : Bool := !s.2 && decide (s.1.length = 0)

/-- What the parts say. -/
def hardP (b : List UInt8) : Rec × List UInt8 × Bool :=
  let x := rdN (b, false)
  let y := rdN x.2
  (⟨true, x.1, y.1, zeroE⟩, y.2)
def entP (b : List UInt8) : Rec × List UInt8 × Bool :=
  let x := rdN (b, false)
  let y := rdN x.2
  let z := rdN y.2
  let d := rdT z.2
  (⟨false, 0, 0, ⟨x.1, y.1, z.1, ⟨d.1.toArray⟩⟩⟩, d.2)
def finP (r : Rec × List UInt8 × Bool) (n : Nat) : Rec × Nat × Nat := if rdD r.2 && mayR r.1 then (r.1, n, 0) else (zeroR, 0, 3)
def decR (l : List UInt8) : Rec × Nat × Nat :=
  if (openP l).2.2.2 ≠ 0 then (zeroR, 0, (openP l).2.2.2)
  else if (openP l).1 = 1 then finP (hardP (openP l).2.1) (openP l).2.2.1
  else if (openP l).1 = 2 then finP (entP (openP l).2.1) (openP l).2.2.1
  else (zeroR, 0, 3)

theorem rdN_put (n : Int) (rest : List UInt8) (h0 : -9223372036854775808 ≤ n) (h1 : n ≤ 9223372036854775807) : rdN (putN n ++ rest, false) = (n, rest, false) := by
  unfold rdN
  rw [getN_putN n rest h0 h1]
  simp
theorem rdT_put (s rest : List UInt8) (h : s.length ≤ 1048576) : rdT (putT s ++ rest, false) = (s, rest, false) := by
  unfold rdT
  rw [getT_putT s rest h]
  simp
theorem rdN_bad (b : List UInt8) : (rdN (b, true)).2 = (b, true) := rfl
theorem rdT_bad (b : List UInt8) : (rdT (b, true)).2 = (b, true) := rfl
theorem rdN_ok {b c : List UInt8} {x : Int} {s : Bool} (h : rdN (b, s) = (x, c, false)) : s = false ∧ b = putN x ++ c ∧ -9223372036854775808 ≤ x ∧ x ≤ 9223372036854775807 := by
  unfold rdN at h
  simp only [Prod.mk.injEq, Bool.or_eq_false_iff, decide_eq_false_iff_not, Decidable.not_not] at h
  obtain ⟨h1, h2, rfl, h3⟩ := h
  rw [if_neg (by simp [h3])] at h2
  subst h1 h2
  refine ⟨rfl, ?_, ?_⟩
  · have := getN_canon (l := b) (k := (getN b).2.1) (x := (getN b).1) (by rw [← h3])
    rw [← this]
    exact (List.take_append_drop _ _).symm
  · rcases getN_any b with (hx | hx) | ⟨x, k, hx, h5, h6, -⟩
    · rw [hx] at h3; cases h3
    · rw [hx] at h3; cases h3
    · rw [hx]; exact ⟨h5, h6⟩
theorem rdT_ok {b c d : List UInt8} {s : Bool} (h : rdT (b, s) = (d, c, false)) : s = false ∧ b = putT d ++ c ∧ d.length ≤ 1048576 := by
  unfold rdT at h
  simp only [Prod.mk.injEq, Bool.or_eq_false_iff, decide_eq_false_iff_not, Decidable.not_not] at h
  obtain ⟨h1, h2, rfl, h3⟩ := h
  rw [if_neg (by simp [h3])] at h2
  unfold getT at h1 h2 h3
  by_cases c1 : (getN b).2.2 ≠ 0
  · rw [if_pos c1] at h3; exact absurd h3 c1
  rw [if_neg c1] at h1 h2 h3
  by_cases c2 : (getN b).1 < 0 ∨ 1048576 < (getN b).1
  · rw [if_pos c2] at h3; cases h3
  rw [if_neg c2] at h1 h2 h3
  by_cases c3 : (b.length : Int) - (getN b).2.1 < (getN b).1
  · rw [if_pos c3] at h3; cases h3
  rw [if_neg c3] at h1 h2 h3
  rcases getN_any b with (hx | hx) | ⟨x, k, hx, h5, h6, h7, h8, -⟩
  · rw [hx] at c1; exact absurd (by decide) c1
  · rw [hx] at c1; exact absurd (by decide) c1
  rw [hx] at h1 h2 c2 c3
  have hcn := getN_canon hx
  simp only [] at h1 h2 c2 c3
  have hdl : d.length = x.toNat := by rw [← h1, List.length_take, List.length_drop]; omega
  refine ⟨rfl, ?_, by omega⟩
  unfold putT
  rw [hdl, Int.toNat_of_nonneg (by omega), ← hcn, ← h1, ← h2, List.append_assoc, ← List.drop_drop, List.take_append_drop, List.take_append_drop]

theorem openP_no {l : List UInt8} (h : (openP l).2.2.2 ≠ 0) : openP l = (0, [], 0, (openP l).2.2.2) := by
  unfold openP at h ⊢
  cases l with
  | nil => rfl
  | cons c t =>
    simp only [] at h ⊢
    by_cases h1 : c = 0
    · rw [if_pos h1]
    rw [if_neg h1] at h ⊢
    by_cases h2 : (getN t).2.2 = 2 ∧ t.length ≤ 1
    · rw [if_pos h2]
    rw [if_neg h2] at h ⊢
    by_cases h3 : (getN t).2.2 ≠ 0 ∨ (getN t).1 < 0 ∨ 4000 < (getN t).1
    · rw [if_pos h3]
    rw [if_neg h3] at h ⊢
    by_cases h4 : t.length < (getN t).2.1 + 4 + (getN t).1.toNat
    · rw [if_pos h4]
    rw [if_neg h4] at h ⊢
    split at h
    · exact absurd rfl h
    · rename_i h5
      rw [if_neg h5]
theorem open_canon {l : List UInt8} (h : (openP l).2.2.2 = 0) : l.take (openP l).2.2.1 = sealP (openP l).1 (openP l).2.1 ∧ 1 ≤ (openP l).1 ∧ (openP l).2.2.1 = (sealP (openP l).1 (openP l).2.1).length := by
  have hk := openP_ok h
  have key : l.take (openP l).2.2.1 = sealP (openP l).1 (openP l).2.1 ∧ 1 ≤ (openP l).1 := by
    cases l with
    | nil => simp [openP] at h
    | cons c t =>
      unfold openP at h ⊢
      simp only [] at h ⊢
      by_cases h1 : c = 0
      · rw [if_pos h1] at h; simp at h
      rw [if_neg h1] at h ⊢
      by_cases h2 : (getN t).2.2 = 2 ∧ t.length ≤ 1
      · rw [if_pos h2] at h; simp at h
      rw [if_neg h2] at h ⊢
      by_cases h3 : (getN t).2.2 ≠ 0 ∨ (getN t).1 < 0 ∨ 4000 < (getN t).1
      · rw [if_pos h3] at h; simp at h
      rw [if_neg h3] at h ⊢
      by_cases h4 : t.length < (getN t).2.1 + 4 + (getN t).1.toNat
      · rw [if_pos h4] at h; simp at h
      rw [if_neg h4] at h ⊢
      split at h
      · rename_i h5
        rw [if_pos h5]
        have hg : getN t = ((getN t).1, (getN t).2.1, 0) := by
          have : (getN t).2.2 = 0 := Decidable.not_not.1 fun hx => h3 (.inl hx)
          rw [← this]
        refine ⟨((open_ref h1 hg (by omega) (by omega) (by omega)).2 h5).symm, ?_⟩
        have : c.toNat ≠ 0 := fun hx => h1 (by rw [← ofNat_toNat' c, hx]; rfl)
        show 1 ≤ (c.toNat : Int)
        omega
      · simp at h
  refine ⟨key.1, key.2, ?_⟩
  rw [← key.1, List.length_take]
  omega

theorem mayR_body {r : Rec} (h : mayR r = true) : (bodyR r).length ≤ 4000 := by
  have hp := fun n => (putN_len n).2
  unfold mayR at h
  unfold bodyR
  by_cases hd : r.hd = true
  · rw [if_pos hd]
    have h1 := hp r.t
    have h2 := hp r.v
    rw [List.length_append]
    omega
  · rw [if_neg hd] at h ⊢
    simp only [Bool.and_eq_true, decide_eq_true_eq] at h
    have h1 := hp r.e.i
    have h2 := hp r.e.t
    have h3 := hp r.e.k
    have h4 := hp r.e.d.data.toList.length
    have h5 : r.e.d.data.toList.length = r.e.d.size := size_data _
    simp only [List.length_append, putT]
    omega
theorem ba_data (d : ByteArray) : (⟨d.data.toList.toArray⟩ : ByteArray) = d := by simp

theorem hardP_enc (t v : Int) (ht0 : 0 ≤ t) (ht1 : t ≤ 1099511627776) (hv0 : 0 ≤ v) (hv1 : v ≤ 7) : hardP (putN t ++ putN v) = (⟨true, t, v, zeroE⟩, [], false) := by
  unfold hardP
  rw [rdN_put t (putN v) (by omega) (by omega)]
  have := rdN_put v [] (by omega) (by omega)
  rw [List.append_nil] at this
  simp only [this]
theorem entP_enc (e : Ent) (h1 : 1 ≤ e.i) (h2 : e.i ≤ 1099511627776) (h3 : 1 ≤ e.t) (h4 : e.t ≤ 1099511627776) (h5 : 1 ≤ e.k) (h6 : e.k ≤ 3) (h7 : e.d.size ≤ 2500) :
    entP (putN e.i ++ putN e.t ++ putN e.k ++ putT e.d.data.toList) = (⟨false, 0, 0, e⟩, [], false) := by
  unfold entP
  have hs : e.d.data.toList.length = e.d.size := size_data _
  have := rdT_put e.d.data.toList [] (by omega)
  rw [List.append_nil] at this
  rw [List.append_assoc, List.append_assoc, rdN_put e.i _ (by omega) (by omega)]
  simp only [rdN_put e.t _ (by omega) (by omega), rdN_put e.k _ (by omega) (by omega), this, ba_data]

/-- A record's bytes are read. -/
theorem decR_enc {r : Rec} (rest : List UInt8) (h : mayR r = true) : decR (encR r ++ rest) = (r, (encR r).length, 0) := by
  have hb := mayR_body h
  have h' := h
  unfold encR
  rw [if_pos h]
  unfold mayR at h
  unfold decR
  by_cases hd : r.hd = true
  · rw [if_pos hd] at h ⊢
    simp only [Bool.and_eq_true, decide_eq_true_eq, beq_iff_eq] at h
    obtain ⟨⟨⟨⟨a1, a2⟩, a3⟩, a4⟩, ⟨⟨b1, b2⟩, b3⟩, b4⟩ := h
    rw [open_seal rest (by omega) (by omega) hb]
    have hr : r = ⟨true, r.t, r.v, zeroE⟩ := by
      obtain ⟨hd', t, v, ⟨i, t', k, d⟩⟩ := r
      simp only at hd b1 b2 b3 b4
      subst hd b1 b2 b3
      have : d = .empty := by
        apply ByteArray.ext
        have : d.data.toList = [] := List.eq_nil_of_length_eq_zero ((size_data d).trans b4)
        simpa using this
      subst this
      rfl
    have hbd : bodyR r = putN r.t ++ putN r.v := by unfold bodyR; rw [if_pos hd]
    simp only [ne_eq, not_true_eq_false, if_false, if_true]
    have := hardP_enc r.t r.v a1 a2 a3 a4
    rw [← hr, ← hbd] at this
    rw [this]
    unfold finP
    rw [if_pos (by rw [h']; rfl)]
  · rw [if_neg hd] at h ⊢
    simp only [Bool.and_eq_true, decide_eq_true_eq, beq_iff_eq] at h
    obtain ⟨⟨⟨⟨⟨b1, b2⟩, ⟨⟨a1, a2⟩, a3⟩, a4⟩, a5⟩, a6⟩, a7⟩ := h
    rw [open_seal rest (by omega) (by omega) hb]
    have hr : r = ⟨false, 0, 0, r.e⟩ := by
      obtain ⟨hd', t, v, e⟩ := r
      simp only [Bool.not_eq_true] at hd b1 b2
      subst hd b1 b2
      rfl
    have hbd : bodyR r = putN r.e.i ++ putN r.e.t ++ putN r.e.k ++ putT r.e.d.data.toList := by unfold bodyR; rw [if_neg hd]
    simp only [ne_eq, not_true_eq_false, if_false, if_true, show ((2 : Int) = 1) = False from by simp]
    have := entP_enc r.e a1 a2 a3 a4 a5 a6 a7
    rw [← hr, ← hbd] at this
    rw [this]
    unfold finP
    rw [if_pos (by rw [h']; rfl)]

/-- What is read was written. -/
theorem decR_ok {l : List UInt8} (h : (decR l).2.2 = 0) : mayR (decR l).1 = true ∧ l.take (decR l).2.1 = encR (decR l).1 ∧ (decR l).2.1 = (encR (decR l).1).length ∧ 5 ≤ (decR l).2.1 ∧ (decR l).2.1 ≤ l.length := by
  unfold decR at h ⊢
  by_cases h1 : (openP l).2.2.2 ≠ 0
  · rw [if_pos h1] at h; exact absurd h h1
  rw [if_neg h1] at h ⊢
  have ho : (openP l).2.2.2 = 0 := Decidable.not_not.1 h1
  obtain ⟨c1, c2, c3⟩ := open_canon ho
  obtain ⟨k1, k2, -, -, -⟩ := openP_ok ho
  have fin : ∀ p : Rec × List UInt8 × Bool, (finP p (openP l).2.2.1).2.2 = 0 → rdD p.2 = true ∧ mayR p.1 = true ∧ finP p (openP l).2.2.1 = (p.1, (openP l).2.2.1, 0) := by
    intro p hp
    unfold finP at hp ⊢
    split at hp
    · rename_i hc
      rw [if_pos hc]
      rw [Bool.and_eq_true] at hc
      exact ⟨hc.1, hc.2, rfl⟩
    · cases hp
  by_cases h2 : (openP l).1 = 1
  · rw [if_pos h2] at h ⊢
    obtain ⟨f1, f2, f3⟩ := fin _ h
    rw [f3]
    generalize hB : (openP l).2.1 = B at *
    have hbd : bodyR (hardP B).1 = B := by
      obtain ⟨x, b2, s2, hx⟩ : ∃ x b2 s2, rdN (B, false) = (x, b2, s2) := ⟨_, _, _, rfl⟩
      obtain ⟨y, b3, s3, hy⟩ : ∃ y b3 s3, rdN (b2, s2) = (y, b3, s3) := ⟨_, _, _, rfl⟩
      unfold hardP at f1 ⊢
      simp only [hx, hy] at f1 ⊢
      simp only [rdD, Bool.and_eq_true, Bool.not_eq_true', decide_eq_true_eq] at f1
      obtain ⟨rfl, hl⟩ := f1
      obtain rfl : b3 = [] := List.eq_nil_of_length_eq_zero hl
      obtain ⟨rfl, e1, -⟩ := rdN_ok hy
      obtain ⟨-, e2, -⟩ := rdN_ok hx
      show putN x ++ putN y = B
      rw [e2, e1, List.append_nil]
    have hhd : (hardP B).1.hd = true := rfl
    have he : encR (hardP B).1 = sealP 1 B := by
      unfold encR
      rw [if_pos f2, if_pos hhd, hbd]
    refine ⟨f2, ?_, ?_, k1, k2⟩
    · rw [he, c1, h2]
    · rw [he, c3, h2]
  rw [if_neg h2] at h ⊢
  by_cases h3 : (openP l).1 = 2
  · rw [if_pos h3] at h ⊢
    obtain ⟨f1, f2, f3⟩ := fin _ h
    rw [f3]
    generalize hB : (openP l).2.1 = B at *
    have hbd : bodyR (entP B).1 = B := by
      obtain ⟨x, b2, s2, hx⟩ : ∃ x b2 s2, rdN (B, false) = (x, b2, s2) := ⟨_, _, _, rfl⟩
      obtain ⟨y, b3, s3, hy⟩ : ∃ y b3 s3, rdN (b2, s2) = (y, b3, s3) := ⟨_, _, _, rfl⟩
      obtain ⟨z, b4, s4, hz⟩ : ∃ y b4 s4, rdN (b3, s3) = (y, b4, s4) := ⟨_, _, _, rfl⟩
      obtain ⟨d, b5, s5, hd⟩ : ∃ y b5 s5, rdT (b4, s4) = (y, b5, s5) := ⟨_, _, _, rfl⟩
      unfold entP at f1 ⊢
      simp only [hx, hy, hz, hd] at f1 ⊢
      simp only [rdD, Bool.and_eq_true, Bool.not_eq_true', decide_eq_true_eq] at f1
      obtain ⟨rfl, hl⟩ := f1
      obtain rfl : b5 = [] := List.eq_nil_of_length_eq_zero hl
      obtain ⟨rfl, e0, -⟩ := rdT_ok hd
      obtain ⟨rfl, e1, -⟩ := rdN_ok hz
      obtain ⟨rfl, e2, -⟩ := rdN_ok hy
      obtain ⟨-, e3, -⟩ := rdN_ok hx
      show putN x ++ putN y ++ putN z ++ putT d = B
      rw [e3, e2, e1, e0, List.append_nil, List.append_assoc, List.append_assoc]
    have hhd : ¬ (entP B).1.hd = true := by simp [entP]
    have he : encR (entP B).1 = sealP 2 B := by
      unfold encR
      rw [if_pos f2, if_neg hhd, hbd]
    refine ⟨f2, ?_, ?_, k1, k2⟩
    · rw [he, c1, h3]
    · rw [he, c3, h3]
  · rw [if_neg h3] at h; cases h
theorem decR_no {l : List UInt8} (h : (decR l).2.2 ≠ 0) : decR l = (zeroR, 0, (decR l).2.2) := by
  unfold decR at h ⊢
  split
  · rfl
  · rename_i h1
    rw [if_neg h1] at h
    have fin : ∀ p n, (finP p n).2.2 ≠ 0 → finP p n = (zeroR, 0, (finP p n).2.2) := by
      intro p n hp
      unfold finP at hp ⊢
      split
      · rename_i hc; rw [if_pos hc] at hp; exact absurd rfl hp
      · rfl
    split
    · rename_i h2; rw [if_pos h2] at h; exact fin _ _ h
    · rename_i h2
      rw [if_neg h2] at h
      split
      · rename_i h3; rw [if_pos h3] at h; exact fin _ _ h
      · rfl

/-- Records one behind the other: which, how far, and whether what stands behind is nothing or torn. -/
def scanF : Nat → List UInt8 → List Rec × Nat × Bool
  | 0, _ => ([], 0, true)
  | f + 1, l => if l.length = 0 then ([], 0, true) else if (decR l).2.2 ≠ 0 then ([], 0, decide ((decR l).2.2 = 2))
    else ((decR l).1 :: (scanF f (l.drop (decR l).2.1)).1, (decR l).2.1 + (scanF f (l.drop (decR l).2.1)).2.1, (scanF f (l.drop (decR l).2.1)).2.2)
theorem scanF_stable : ∀ (f g : Nat) (l : List UInt8), l.length < f → l.length < g → scanF f l = scanF g l := by
  intro f
  induction f with
  | zero => intro g l h; omega
  | succ f ih =>
    intro g l hf hg
    cases g with
    | zero => omega
    | succ g =>
      rw [scanF, scanF]
      by_cases h0 : l.length = 0
      · rw [if_pos h0, if_pos h0]
      · rw [if_neg h0, if_neg h0]
        by_cases h : (decR l).2.2 ≠ 0
        · rw [if_pos h, if_pos h]
        · rw [if_neg h, if_neg h]
          have ho := decR_ok (l := l) (by simpa using h)
          rw [ih g (l.drop (decR l).2.1) (by rw [List.length_drop]; omega) (by rw [List.length_drop]; omega)]
def scanR (l : List UInt8) : List Rec × Nat × Bool := scanF (l.length + 1) l
theorem scanR_nil : scanR [] = ([], 0, true) := rfl
theorem scanR_no {l : List UInt8} (hl : l.length ≠ 0) (h : (decR l).2.2 ≠ 0) : scanR l = ([], 0, decide ((decR l).2.2 = 2)) := by
  unfold scanR
  rw [scanF, if_neg hl, if_pos h]
theorem scanR_yes {l : List UInt8} (hl : l.length ≠ 0) (h : (decR l).2.2 = 0) : scanR l = ((decR l).1 :: (scanR (l.drop (decR l).2.1)).1, (decR l).2.1 + (scanR (l.drop (decR l).2.1)).2.1, (scanR (l.drop (decR l).2.1)).2.2) := by
  have ho := decR_ok h
  unfold scanR
  rw [scanF, if_neg hl, if_neg (by simpa using h), scanF_stable l.length ((l.drop (decR l).2.1).length + 1) (l.drop (decR l).2.1) (by rw [List.length_drop]; omega) (Nat.lt_succ_self _)]
end Go.Proofs.Ytcogmohepcifiaa
namespace Go.Proofs.Ytcogmohepcifiaa
open Go.RowKit

theorem info8 : (Try.prog.info? 5).map (fun i => (i.zero, i.size, i.bytes)) = some (some (.int .u8 0), 1, 1) := by kernel_rfl

theorem max_xor (x : Nat) (h : x < 18446744073709551616) : 18446744073709551615 ^^^ x = 18446744073709551615 - x := by
  have e1 : (BitVec.allOnes 64 ^^^ BitVec.ofNat 64 x) = ~~~(BitVec.ofNat 64 x) := BitVec.allOnes_xor
  have e2 := congrArg BitVec.toNat e1
  rw [BitVec.toNat_xor, BitVec.toNat_not, BitVec.toNat_allOnes, BitVec.toNat_ofNat, Nat.mod_eq_of_lt (by simpa using h)] at e2
  simpa using e2

theorem xor_u64 (x : Int) (h0 : 0 ≤ x) (h1 : x < 18446744073709551616) : bits .xor .u64 IntKind.u64.max x = 18446744073709551615 - x := by
  obtain ⟨y, rfl⟩ := Int.eq_ofNat_of_zero_le h0
  rw [show IntKind.u64.max = ((18446744073709551615 : Nat) : Int) by decide, u64_xor_nat _ _ (by omega) (by omega), max_xor y (by omega)]
  omega

theorem zig_neg (n : Int) (hn0 : -9223372036854775808 ≤ n) (hn : n < 0) : bits .xor .u64 IntKind.u64.max (IntKind.u64.wrap (IntKind.u64.wrap n * 2)) = (zig n : Nat) := by
  rw [IntKind.wrap_u64, IntKind.wrap_u64, xor_u64 _ (by omega) (by omega)]
  unfold zig
  rw [if_pos hn]
  omega
theorem zig_pos (n : Int) (hn1 : n ≤ 9223372036854775807) (hn : ¬ n < 0) : IntKind.u64.wrap (IntKind.u64.wrap n * 2) = ((zig n : Nat) : Int) := by
  rw [IntKind.wrap_u64, IntKind.wrap_u64]
  unfold zig
  rw [if_neg hn]
  omega

theorem or128 (u : Nat) (_h : u < 18446744073709551616) : bits .or .u8 ((u : Int) % 256) 128 = ((u % 128 + 128 : Nat) : Int) := by
  rw [show ((u : Int) % 256) = ((u % 256 : Nat) : Int) by omega, show (128 : Int) = ((128 : Nat) : Int) by rfl, u8_or_nat _ _ (by omega) (by omega)]
  congr 1
  have h1 : u % 256 = u % 128 ∨ u % 256 = u % 128 + 128 := by omega
  have h2 : u % 128 < 128 := by omega
  generalize u % 128 = m at *
  generalize u % 256 = k at *
  have key : ∀ m : Fin 128, (m.val ||| 128 = m.val + 128) ∧ ((m.val + 128) ||| 128 = m.val + 128) := by decide
  rcases h1 with rfl | rfl
  · exact (key ⟨_, h2⟩).1
  · exact (key ⟨_, h2⟩).2

theorem num_put (v : Value) (l : List UInt8) (n : Int) (B : Nat) (w : World) (hn0 : -9223372036854775808 ≤ n) (hn1 : n ≤ 9223372036854775807) (hl : l.length ≤ 140737488355000) (hB : B ≤ w.heap.size) (ho : OwnB w B 5 v l) :
    Calls Try.prog 36 #[v, .int .i64 n] w fun e w' => RetOwn w B 5 v (l ++ putN n) e w' := by
  have hz := zig_lt hn0 hn1
  go_enter Try.func36, Try.ntmps36
  go_upto_if 10 with fail
  go_cut [5] (fun s wx => s = .int .u64 (zig n : Nat) ∧ wx = w)
  case first =>
    have H1 := Lib.hid (zig_neg n hn0)
    have H2 := Lib.hid (zig_pos n hn1)
    by_cases hneg : n < 0
    · go_wp2_with fail
      go_meet
      exact ⟨congrArg (Value.int .u64) (H1.out hneg), rfl⟩
    · go_wp2_with fail
      go_meet
      exact ⟨congrArg (Value.int .u64) (H2.out hneg), rfl⟩
  case rest =>
    obtain ⟨rfl, rfl⟩ := hcut
    clear hn0 hn1
    go_wp2_with fail
    go_loopw [0, 5] (fun s x wr => ∃ (f u : Nat) (done : List UInt8), putN n = done ++ leb f u ∧ u < 2 * 128 ^ f ∧ done.length + f = 9 ∧ x = .int .u64 u ∧ OwnB wr B 5 s (l ++ done) ∧ wc.grownBy wr v.ownBlock ∧ (∀ k, s.ownBlock = some k → v.ownBlock = some k ∨ wc.heap.size ≤ k)) (fun _ x _ => (intOf x).toNat)
    case atStart => exact ⟨9, zig n, [], rfl, by omega, rfl, rfl, by rw [List.append_nil]; exact ho, World.grownBy.refl _ _, fun k hk => .inl hk⟩
    case round =>
      obtain ⟨f, u, done, hput, hu, hd, rfl, hown, hgr, hrow⟩ := hrel
      have HPUT := Lib.hid hput
      clear hput
      have hu64 : u < 18446744073709551616 := by
        have : 128 ^ f ≤ 128 ^ 9 := Nat.pow_le_pow_right (by omega) (by omega)
        omega
      have hsz := hgr.size
      by_cases hlt : 127 < u
      · obtain ⟨f, rfl⟩ : ∃ f', f = f' + 1 := ⟨f - 1, by
          rcases f with _ | f
          · simp at hu; omega
          · rfl⟩
        have HARR : Hid (#[Value.int .u8 (bits .or .u8 ((u : Int) % 256) 128)] = ([UInt8.ofNat (u % 128 + 128)].map byteV).toArray) := Lib.hid (by
          rw [or128 u hu64]
          simp [byteV, show (u % 128 + 128) % 256 = u % 128 + 128 by omega])
        have HC : Hid (leb (f + 1) u = UInt8.ofNat (u % 128 + 128) :: leb f (u / 128)) := Lib.hid (by rw [leb, if_neg (by omega)])
        generalize UInt8.ofNat (u % 128 + 128) = c at *
        go_wp2_with (at_builtin; refine wpList_append_bytes 46 B 5 Try.underlying46 info8 rfl _ _ rfl (hown.alloc _) (Bytes.fresh wr [c] _ (0, 0) _ 1 rfl HARR.out (by simp)) rfl rfl (by simp; omega) (by simp; omega) ?_)
        intro v2 w2 ho2 hg2 hk2
        have hg3 : wc.grownBy w2 v.ownBlock := grownBy_trans (grownBy_trans hgr (World.grownBy_alloc wr _ none) (by simp)) hg2 (fun x hx => (hrow x hx).symm.imp id id)
        have hk3 : ∀ k, v2.ownBlock = some k → v.ownBlock = some k ∨ wc.heap.size ≤ k := fun k hk => by
          rcases hk2 k hk with h | h
          · exact hrow k h
          · right; first | omega | (simp at h; omega)
        have HK3 := Lib.hid hk3
        clear hk3 hk2 hrow hg2 hgr hown
        go_wp2_with fail
        go_roundw
        case rel =>
          refine ⟨f, u / 128, done ++ [c], ?_, ?_, by simp; omega, by go_num, ho2, hg3, HK3.out⟩
          · rw [HPUT.out, HC.out]
            simp
          · rw [Nat.pow_succ] at hu; omega
        case measure => simp [intOf]; omega
      · have HARR : Hid (#[Value.int .u8 (u : Int)] = ([UInt8.ofNat u].map byteV).toArray) := Lib.hid (by
          simp [byteV, show u % 256 = u by omega])
        go_wp2_with (at_builtin; refine wpList_append_bytes 46 B 5 Try.underlying46 info8 rfl _ _ rfl (hown.alloc _) (Bytes.fresh wr [UInt8.ofNat u] _ (0, 0) _ 1 rfl HARR.out (by simp)) rfl rfl (by simp; omega) (by simp; omega) ?_)
        intro v2 w2 ho2 hg2 hk2
        have hg3 : wc.grownBy w2 v.ownBlock := grownBy_trans (grownBy_trans hgr (World.grownBy_alloc wr _ none) (by simp)) hg2 (fun x hx => (hrow x hx).symm.imp id id)
        have hk3 : ∀ k, v2.ownBlock = some k → v.ownBlock = some k ∨ wc.heap.size ≤ k := fun k hk => by
          rcases hk2 k hk with h | h
          · exact hrow k h
          · right; first | omega | (simp at h; omega)
        have HK3 := Lib.hid hk3
        clear hk3 hk2 hrow hg2 hgr hown
        go_wp2_with fail
        go_ret
        refine ⟨v2, rfl, ?_, hg3, HK3.out⟩
        have e : leb f u = [UInt8.ofNat u] := by
          cases f with
          | zero => rfl
          | succ f => rw [leb, if_pos (by omega)]
        rw [HPUT.out, e]
        first | exact ho2 | (rw [← List.append_assoc]; exact ho2)
end Go.Proofs.Ytcogmohepcifiaa
namespace Go.Proofs.Ytcogmohepcifiaa
open Go.RowKit

/-- The results of Get, as values. -/
def getV (r : Int × Nat × Nat) : Value := .tuple #[.int .i64 r.1, .int .i64 (r.2.1 : Int), .int .i64 (r.2.2 : Int)]

/-- One more byte of a number. -/
theorem get_mix (u c k : Nat) (hc : c < 256) (hu : u < 128 ^ k) (hU : u + c % 128 * 128 ^ k < 18446744073709551616) :
    bits .or .u64 (u : Int) (IntKind.u64.wrap (IntKind.u64.wrap (bits .and .u8 (c : Int) 127) * 2 ^ (7 * k))) = ((u + c % 128 * 128 ^ k : Nat) : Int) := by
  have h1 : bits .and .u8 (c : Int) 127 = ((c % 128 : Nat) : Int) := by
    rw [show (127 : Int) = ((127 : Nat) : Int) from rfl, u8_and_nat _ _ hc (by omega)]
    congr 1
    exact Nat.and_two_pow_sub_one_eq_mod c 7
  have h2 : (2 : Int) ^ (7 * k) = ((128 ^ k : Nat) : Int) := by
    rw [Int.natCast_pow, Int.pow_mul]
    rfl
  have h3 : IntKind.u64.wrap ((c % 128 : Nat) : Int) = ((c % 128 : Nat) : Int) := by rw [IntKind.wrap_u64]; omega
  have hle : c % 128 * 128 ^ k < 18446744073709551616 := by omega
  have h4 : ((c % 128 : Nat) : Int) * ((128 ^ k : Nat) : Int) = ((c % 128 * 128 ^ k : Nat) : Int) := by rw [Int.natCast_mul]
  rw [h1, h3, h2, h4, IntKind.wrap_u64]
  rw [show (((c % 128 * 128 ^ k : Nat) : Int) % 18446744073709551616) = ((c % 128 * 128 ^ k : Nat) : Int) by omega]
  rw [u64_or_nat _ _ (by omega) hle]
  congr 1
  have e : 128 ^ k = 2 ^ (7 * k) := by rw [Nat.pow_mul]
  rw [e] at hu ⊢
  rw [Nat.mul_comm, Nat.add_comm, Nat.two_pow_add_eq_or_of_lt hu, Nat.or_comm]

set_option maxRecDepth 100000 in
theorem num_get (v : Value) (l : List UInt8) (w : World) (hb : Bytes w v l) :
    Calls Try.prog 63 #[v] w fun e w' => e = .returned (getV (getN l)) ∧ w' = w := by
  obtain ⟨a, cap, rfl, hcap, hcm, hc⟩ := hb
  go_enter Try.func63, Try.ntmps63
  go_wp2_with fail
  go_loop [5, 11] (fun x i => ∃ k u : Nat, k ≤ l.length ∧ k ≤ 9 ∧ i = .int .i64 k ∧ x = .int .u64 u ∧ u < 128 ^ k ∧ getF k u (l.drop k) = getN l) (fun _ i => l.length - (intOf i).toNat)
  case atStart => exact ⟨0, 0, Nat.zero_le _, by omega, rfl, rfl, by decide, rfl⟩
  case round =>
    obtain ⟨k, u, hk, hk9, rfl, rfl, hu, hg⟩ := hrel
    by_cases hlt : k < l.length
    · obtain ⟨b, off, rfl, hcell⟩ := hc (by intro h; simp [h] at hlt)
      have hck := hcell k hlt
      have hcb := (l[k]).toNat_lt
      clear hc hcell
      have HG : Hid (getF k u (l[k] :: l.drop (k + 1)) = getN l) := Lib.hid (by rw [← List.drop_eq_getElem_cons hlt]; exact hg)
      generalize l[k] = c at *
      clear hg
      have hu64 : u < 9223372036854775808 := by
        have : 128 ^ k ≤ 128 ^ 9 := Nat.pow_le_pow_right (by omega) (by omega)
        omega
      have HU := Lib.hid hu
      clear hu
      have hU64 : u + c.toNat % 128 * 128 ^ k < 18446744073709551616 ∨ (k = 9 ∧ 1 < c.toNat) := by
        by_cases h9 : k = 9
        · subst h9
          by_cases h1 : 1 < c.toNat
          · exact .inr ⟨rfl, h1⟩
          · left
            have : c.toNat % 128 * 128 ^ 9 ≤ 1 * 128 ^ 9 := Nat.mul_le_mul_right _ (by omega)
            omega
        · left
          have h4 : c.toNat % 128 * 128 ^ k ≤ 127 * 128 ^ k := Nat.mul_le_mul_right _ (by omega)
          have h5 : 128 ^ (k + 1) ≤ 128 ^ 9 := Nat.pow_le_pow_right (by omega) (by omega)
          rw [Nat.pow_succ] at h5
          have := HU.out
          omega
      go_upto_region 5 with fail
      go_cut [21] (fun s wx => s = .bool (decide (k = 9 ∧ 1 < c.toNat)) ∧ wx = w)
      case first =>
        by_cases h9 : k = 9
        · subst h9
          by_cases h1 : 1 < c.toNat
          · go_wp2_with fail
            go_meet
            exact ⟨by simp; omega, rfl⟩
          · go_wp2_with fail
            go_meet
            exact ⟨by simp; omega, rfl⟩
        · have h9b : ((k : Int) == 9) = false := by simp; omega
          go_wp2_with fail
          go_meet
          exact ⟨by simp [h9], rfl⟩
      case rest =>
        obtain ⟨rfl, rfl⟩ := hcut
        by_cases hA : k = 9 ∧ 1 < c.toNat
        · have hAd : decide (k = 9 ∧ 1 < c.toNat) = true := by simpa using hA
          go_wp2_with fail
          go_ret3
          exact ⟨by rw [← HG.out, getF, if_pos hA]; rfl, rfl⟩
        · have hAd : decide (k = 9 ∧ 1 < c.toNat) = false := by simpa using hA
          have hU64 := hU64.resolve_right hA
          have HM := Lib.hid (get_mix u c.toNat k hcb HU.out hU64)
          have HL : Hid (u + c.toNat % 128 * 128 ^ k < 128 ^ (k + 1)) := Lib.hid (by
            have : c.toNat % 128 * 128 ^ k ≤ 127 * 128 ^ k := Nat.mul_le_mul_right _ (by omega)
            rw [Nat.pow_succ]
            have := HU.out
            omega)
          generalize hU : u + c.toNat % 128 * 128 ^ k = U at *
          have HUU := Lib.hid hU
          clear hU
          go_upto_region 7 with fail
          go_cut [5] (fun s wx => s = .int .u64 (U : Nat) ∧ wx = wc)
          case first =>
            go_wp2_with fail
            go_meet
            exact ⟨congrArg (Value.int .u64) HM.out, rfl⟩
          case rest =>
            obtain ⟨rfl, rfl⟩ := hcut
            by_cases hB : 127 < c.toNat
            · go_wp2_with fail
              go_round
              case rel => exact ⟨k + 1, U, by omega, by omega, by go_num, rfl, HL.out, by rw [← HG.out, getF, if_neg hA, if_pos hB, HUU.out]⟩
              case measure => simp [intOf]; omega
            · go_upto_region 9 with fail
              go_cut [37] (fun s wx => s = .bool (decide (0 < k ∧ c.toNat = 0)) ∧ wx = wc)
              case first =>
                by_cases hk0 : 0 < k
                · go_wp2_with fail
                  go_meet
                  exact ⟨by congr 1; rw [Bool.eq_iff_iff]; simp [hk0], rfl⟩
                · go_wp2_with fail
                  go_meet
                  exact ⟨by simp [hk0], rfl⟩
              case rest =>
                obtain ⟨rfl, rfl⟩ := hcut
                by_cases hC : 0 < k ∧ c.toNat = 0
                · have hCd : decide (0 < k ∧ c.toNat = 0) = true := by simpa using hC
                  go_wp2_with fail
                  go_ret3
                  exact ⟨by rw [← HG.out, getF, if_neg hA, if_neg hB, if_pos hC]; rfl, rfl⟩
                · have hCd : decide (0 < k ∧ c.toNat = 0) = false := by simpa using hC
                  have HF : Hid (getN l = (zag U, k + 1, 0)) := Lib.hid (by rw [← HG.out, getF, if_neg hA, if_neg hB, if_neg hC, HUU.out])
                  have hU2 : U / 2 < 9223372036854775808 := by omega
                  by_cases hodd : U % 2 = 1
                  · have ht : (bits .and .u64 (U : Int) 1 == 1) = true := by
                      rw [and_one_u64 (U : Int) (by omega) (by omega)]; simp; omega
                    go_wp2_with fail
                    go_ret3
                    have hv : bits .xor .i64 (-1) ((U : Int) / 2) = zag U := by
                      rw [show (U : Int) / 2 = ((U / 2 : Nat) : Int) by omega, i64_not _ hU2]
                      unfold zag
                      rw [if_pos hodd]
                      omega
                    refine ⟨?_, rfl⟩
                    show Ending.returned (Value.tuple #[.int .i64 (bits .xor .i64 (-1) ((U : Int) / 2)), .int .i64 ((k : Int) + 1), .int .i64 0]) = _
                    rw [hv, HF.out]
                    rfl
                  · have ht : (bits .and .u64 (U : Int) 1 == 1) = false := by
                      rw [and_one_u64 (U : Int) (by omega) (by omega)]; simp; omega
                    go_wp2_with fail
                    go_ret3
                    have hv : ((U : Int) / 2) = zag U := by
                      unfold zag
                      rw [if_neg hodd]
                      omega
                    refine ⟨?_, rfl⟩
                    show Ending.returned (Value.tuple #[.int .i64 ((U : Int) / 2), .int .i64 ((k : Int) + 1), .int .i64 0]) = _
                    rw [hv, HF.out]
                    rfl
    · have hke : k = l.length := by omega
      have HE := Lib.hid hke
      clear hke
      go_wp2_with fail
      go_ret3
      refine ⟨?_, rfl⟩
      have e := HE.out
      subst e
      rw [List.drop_length] at hg
      rw [← hg]
      rfl

theorem get_mul (u c k W : Nat) (_hc : c < 256) (hW : W = 128 ^ k) (hU : u + c % 128 * 128 ^ k < 18446744073709551616) :
    IntKind.u64.wrap ((u : Int) + IntKind.u64.wrap ((c : Int) % 128 * (W : Int))) = ((u + c % 128 * 128 ^ k : Nat) : Int) := by
  subst hW
  have h4 : (c : Int) % 128 * ((128 ^ k : Nat) : Int) = ((c % 128 * 128 ^ k : Nat) : Int) := by rw [Int.natCast_mul]; rfl
  rw [h4, IntKind.wrap_u64, IntKind.wrap_u64]
  generalize c % 128 * 128 ^ k = x at *
  omega

theorem get_next (k W : Nat) (hk : k < 9) (hW : W = 128 ^ k) : IntKind.u64.wrap ((W : Int) * 128) = ((128 ^ (k + 1) : Nat) : Int) := by
  subst hW
  have h5 : 128 ^ (k + 1) ≤ 128 ^ 9 := Nat.pow_le_pow_right (by omega) (by omega)
  rw [IntKind.wrap_u64, Nat.pow_succ] at *
  generalize 128 ^ k = x at *
  omega

end Go.Proofs.Ytcogmohepcifiaa
namespace Go.Proofs.Ytcogmohepcifiaa
open Go.RowKit

theorem num_putText (v : Value) (l : List UInt8) (s : ByteArray) (B : Nat) (w : World) (hl : l.length + s.size ≤ 140737488354000) (hB : B ≤ w.heap.size) (ho : OwnB w B 5 v l) :
    Calls Try.prog 62 #[v, .string s] w fun e w' => RetOwn w B 5 v (l ++ putT s.data.toList) e w' := by
  go_enter Try.func62, Try.ntmps62
  go_wp2_with fail
  refine (num_put v l s.size B w (by omega) (by omega) (by omega) hB ho).mono ?_
  rintro e w1 ⟨v1, rfl, ho1, hg1, hk1⟩
  have hpl := putN_len s.size
  have hsz := hg1.size
  have HK1 := Lib.hid hk1
  clear hk1
  go_wp2_with (at_builtin; refine wpList_append_str 46 9 B 5 Try.underlying46 Try.underlying9 info8 rfl _ _ rfl ho1 s rfl rfl (by simp; omega) (by omega) ?_)
  intro v2 w2 ho2 hg2 hk2
  have HK2 := Lib.hid hk2
  clear hk2
  go_wp2_with fail
  go_ret
  refine ⟨v2, rfl, ?_, grownBy_trans hg1 hg2 (fun x hx => (HK1.out x hx).symm), fun k hk => ?_⟩
  · unfold putT
    rw [size_data]
    first | exact ho2 | (rw [← List.append_assoc]; exact ho2)
  · rcases HK2.out k hk with h | h
    · exact HK1.out k h
    · exact .inr (by omega)

/-- The results of GetText, as values. -/
def getTV (r : List UInt8 × Nat × Nat) : Value := .tuple #[.string ⟨r.1.toArray⟩, .int .i64 (r.2.1 : Int), .int .i64 (r.2.2 : Int)]

theorem conv_str {w : World} {v : Value} {l : List UInt8} (h : Bytes w v l) : (convert 46 9 v).run Try.prog w = .ok (.string ⟨l.toArray⟩) w :=
  run_string_of 46 9 5 Try.underlying46 Try.underlying5 Try.underlying9 h

set_option maxRecDepth 100000 in
theorem num_getText (v : Value) (l : List UInt8) (w : World) (hb : Bytes w v l) :
    Calls Try.prog 68 #[v] w fun e w' => e = .returned (getTV (getT l)) ∧ w' = w := by
  have hb0 := hb
  obtain ⟨a, cap, rfl, hcap, hcm, hc⟩ := hb
  have hc := Lib.hid hc
  go_enter Try.func68, Try.ntmps68
  go_wp2_with fail
  refine (num_get _ l w hb0).mono ?_
  rintro e w1 ⟨rfl, rfl⟩
  rcases getN_any l with (h | h) | ⟨x, k, h, hx0, hx1, hk0, hkl, hk10⟩
  · have HT : Hid (getT l = ([], 0, 1)) := Lib.hid (by simp [getT, h])
    rw [h]
    unfold getV
    go_wp2_with fail
    go_ret3
    rw [HT.out]
    exact ⟨rfl, rfl⟩
  · have HT : Hid (getT l = ([], 0, 2)) := Lib.hid (by simp [getT, h])
    rw [h]
    unfold getV
    go_wp2_with fail
    go_ret3
    rw [HT.out]
    exact ⟨rfl, rfl⟩
  · rw [h]
    unfold getV
    have HH := Lib.hid h
    clear h
    by_cases hA : x < 0
    · have HT : Hid (getT l = ([], 0, 1)) := Lib.hid (by simp [getT, HH.out, hA])
      go_wp2_with fail
      go_ret3
      rw [HT.out]
      exact ⟨rfl, rfl⟩
    · by_cases hB : 1048576 < x
      · have HT : Hid (getT l = ([], 0, 1)) := Lib.hid (by simp [getT, HH.out, hB])
        go_wp2_with fail
        go_ret3
        rw [HT.out]
        exact ⟨rfl, rfl⟩
      · by_cases hC : (l.length : Int) - k < x
        · have HT : Hid (getT l = ([], 0, 2)) := Lib.hid (by simp [getT, HH.out, hA, hC]; omega)
          go_wp2_with fail
          go_ret3
          rw [HT.out]
          exact ⟨rfl, rfl⟩
        · have HT : Hid (getT l = ((l.drop k).take x.toNat, k + x.toNat, 0)) := Lib.hid (by simp [getT, HH.out, hC]; omega)
          obtain ⟨y, rfl⟩ := Int.eq_ofNat_of_zero_le (show 0 ≤ x by omega)
          have HB := Bytes.sub hb0 k y (by omega)
          have hcv := conv_str HB
          go_wp2_with fail
          all_goals (go_ret3; rw [HT.out]; exact ⟨rfl, rfl⟩)

theorem zig_neg2 (n : Int) (hn0 : -9223372036854775808 ≤ n) (hn : n < 0) : bits .xor .u64 IntKind.u64.max (IntKind.u64.wrap (IntKind.u64.wrap n * 2)) = (zig n : Nat) := zig_neg n hn0 hn

/-- Four bytes of a number, the highest first. -/

theorem num_four (u : Nat) (w : World) (hu : u < 4294967296) :
    Calls Try.prog 53 #[.int .u32 u] w fun e w' => RetBytes w (fourN u) e w' := by
  have HARR : Hid (#[Value.int .u8 ((u : Int) / 16777216), Value.int .u8 ((u : Int) / 65536 % 256), Value.int .u8 ((u : Int) / 256 % 256), Value.int .u8 ((u : Int) % 256)] = ((fourN u).map byteV).toArray) := Lib.hid (by
    simp [byteV, fourN]
    omega)
  go_enter Try.func53, Try.ntmps53
  go_wp2_with fail
  go_ret
  exact ⟨_, rfl, Bytes.fresh w (fourN u) _ (0, 0) _ 4 rfl HARR.out (by simp [fourN]), (Below.refl _ _).alloc (Nat.le_refl _) _⟩

theorem extract0 (s : ByteArray) (n : Nat) : s.extract 0 n = ⟨(s.data.toList.take n).toArray⟩ := by
  apply ByteArray.ext
  rw [ByteArray.data_extract]
  apply Array.ext'
  simp

/-- 'Cut': the first n bytes of a text at the most. -/
theorem cut_any (s : ByteArray) (n : Nat) (w : World) (hn : n ≤ 9223372036854775807) (_hs : s.size ≤ 9223372036854775807) :
    Calls Try.prog 46 #[.string s, .int .i64 n] w fun e w' => e = .returned (.string ⟨(s.data.toList.take n).toArray⟩) ∧ w' = w := by
  by_cases h : n < s.size
  · go_enter Try.func46, Try.ntmps46
    go_wp2_with fail
    go_ret
    refine ⟨?_, rfl⟩
    rw [← extract0]
    rfl
  · go_enter Try.func46, Try.ntmps46
    go_wp2_with fail
    go_ret
    refine ⟨?_, rfl⟩
    rw [List.take_of_length_le (by rw [size_data]; omega)]
    rfl
end Go.Proofs.Ytcogmohepcifiaa
namespace Go.Proofs.Ytcogmohepcifiaa
open Go.RowKit

theorem info_u8 : (Try.prog.info? 5).map (fun i => (i.zero, i.size, i.bytes)) = some (some (.int .u8 0), 1, 1) := by kernel_rfl

theorem crcRaw_snoc (x : Nat) (l : List UInt8) (k : Nat) (h : k < l.length) : crcRaw x (l.take (k + 1)) = crcBits 8 (crcRaw x (l.take k) ^^^ l[k].toNat) := by
  rw [List.take_succ_eq_append_getElem h, crcRaw_append]
  rfl

theorem xor_max (s : Nat) (hs : s < 4294967296) : bits .xor .u32 IntKind.u32.max (s : Int) = ((4294967295 ^^^ s : Nat) : Int) := by
  rw [show IntKind.u32.max = ((4294967295 : Nat) : Int) by decide, u32_xor_nat _ _ (by omega) hs]

theorem crc_more (v : Value) (l : List UInt8) (s : Nat) (w : World) (hs : s < 4294967296) (hb : Bytes w v l) :
    Calls Try.prog 51 #[.int .u32 s, v] w fun e w' => e = .returned (.int .u32 (crcMore s l : Nat)) ∧ w' = w := by
  obtain ⟨a, cap, rfl, hcap, hcm, hc⟩ := hb
  have hx0 : (4294967295 ^^^ s : Nat) < 4294967296 := xor_lt (by omega) hs
  go_enter Try.func51, Try.ntmps51
  go_wp2
  go_loop [5, 12] (fun t i => ∃ k : Nat, k ≤ l.length ∧ i = .int .i64 k ∧ t = .int .u32 (crcRaw (4294967295 ^^^ s) (l.take k) : Nat)) (fun _ i => l.length - (intOf i).toNat)
  case atStart => exact ⟨0, Nat.zero_le _, rfl, by rw [xor_max s hs]; rfl⟩
  case round =>
    obtain ⟨k, hk, rfl, rfl⟩ := hrel
    by_cases hlt : k < l.length
    · obtain ⟨b, off, rfl, hcell⟩ := hc (by intro h; simp [h] at hlt)
      have hck := hcell k hlt
      have hcb := (l[k]).toNat_lt
      have hx := crcRaw_lt (l := l.take k) hx0
      have HN := Lib.hid (crcRaw_snoc (4294967295 ^^^ s) l k hlt)
      generalize hcc : (l[k]).toNat = c at *
      generalize hxx : crcRaw (4294967295 ^^^ s) (l.take k) = x at *
      clear hc hcell hcc hxx
      have hst : bits .xor .u32 (x : Int) (c : Int) = ((x ^^^ c : Nat) : Int) := by
        rw [u32_xor_nat _ _ hx (by omega)]
      have hxc : x ^^^ c < 4294967296 := xor_lt hx (by omega)
      have HS := Lib.hid hst
      clear hst
      go_wp2
      go_loop [5, 20] (fun t i => ∃ j : Nat, j ≤ 8 ∧ i = .int .i64 j ∧ t = .int .u32 (crcBits j (x ^^^ c) : Nat)) (fun _ i => 8 - (intOf i).toNat)
      case atStart => exact ⟨0, Nat.zero_le _, rfl, by rw [HS.out]; rfl⟩
      case round =>
        obtain ⟨j, hj, rfl, rfl⟩ := hrel
        by_cases h8 : j < 8
        · have HC := Lib.hid (crc_step (crcBits j (x ^^^ c)) (crcBits_lt hxc))
          go_wp2
          go_round
          case rel => exact ⟨j + 1, by omega, by go_num, by rw [HC.out]; rfl⟩
          case measure => simp [intOf]; omega
        · have : j = 8 := by omega
          subst this
          go_wp2
          go_round
          case rel => exact ⟨k + 1, by omega, by go_num, by rw [HN.out]⟩
          case measure => simp [intOf]; omega
    · have hke : k = l.length := by omega
      have HE := Lib.hid hke
      clear hke
      go_wp2
      go_ret
      refine ⟨?_, rfl⟩
      have e := HE.out
      subst e
      rw [List.take_length, xor_max _ (crcRaw_lt hx0)]
      rfl

theorem crc_sum (v : Value) (l : List UInt8) (w : World) (hb : Bytes w v l) :
    Calls Try.prog 52 #[v] w fun e w' => e = .returned (.int .u32 (crcSum l : Nat)) ∧ w' = w := by
  go_enter Try.func52, Try.ntmps52
  go_wp2_with (go_at_call 51; refine (crc_more _ l 0 _ (by omega) hb).mono ?_; rintro e w' ⟨rfl, rfl⟩)
  go_ret
  exact ⟨rfl, rfl⟩

/-- One bit of the document's text. -/
theorem ref_bit (x : Nat) (h : x < 4294967296) : (x % 2 = 1 → bits .xor .u32 ((x : Int) / 2) 3988292384 = (crcBit x : Nat)) ∧ (x % 2 ≠ 1 → (x : Int) / 2 = (crcBit x : Nat)) := by
  constructor
  · intro e
    rw [show (x : Int) / 2 = ((x / 2 : Nat) : Int) by omega, show (3988292384 : Int) = ((3988292384 : Nat) : Int) by rfl, u32_xor_nat _ _ (by omega) (by omega)]
    simp [crcBit, e]
  · intro e
    rw [crcBit, if_neg e, Nat.xor_zero]
    omega

end Go.Proofs.Ytcogmohepcifiaa
