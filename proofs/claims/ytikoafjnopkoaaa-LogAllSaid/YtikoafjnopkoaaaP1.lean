/-
  No claim by itself: the words in which the contracts of this seat are stated (a slice that reads as bytes; one that the call owns), and the laws on them. | what a call turns, by the blocks that it may turn; rows whose cells are one value each; a struct's cells in a block of their own. | from the reading of an argument to the words of the walks: bytes, integers. | slices of structs whose fields are one value each: how they are read, and how an argument is opened to them. No condition.
-/
import Derived.WalkKit
import Derived.Handy
import Derived.Laws.BitsAllLaws
import Derived.Laws.AppendOwnNone
import Derived.Laws.CopyOwn
import Derived.Lib.Hide
import Derived.BigQuiet
import Derived.Deep.QuietTactic
import Derived.ShutString
import Derived.Lib.SlBytesConst
import Derived.Lib.AppendStr
import Derived.ProofKit
import Derived.OpenShut
import Derived.ChangeOld
import Derived.JoinedCond
import Derived.Deep.Slices
import Derived.Deep.Fields
import Derived.ChangeSame
namespace Go.Proofs.Ytikoafjnopkoaaa
open Go.RowKit

/-- A byte as a cell. -/
def byteV (c : UInt8) : Value := .int .u8 (c.toNat : Int)

/-- A slice value that reads as a list of cells, one cell each. -/
def Reads (w : World) (v : Value) (xs : List Value) : Prop :=
  ∃ a cap, v = .slice a xs.length cap ∧ xs.length ≤ cap ∧ cap ≤ 9223372036854775807 ∧
    (xs ≠ [] → ∃ b off, a = some ⟨b, off, none⟩ ∧ ∀ j (h : j < xs.length), w.cell? ⟨b, off + j, none⟩ = some xs[j])

/-- A slice value that reads as bytes. -/
def Bytes (w : World) (v : Value) (l : List UInt8) : Prop :=
  ∃ a cap, v = .slice a l.length cap ∧ l.length ≤ cap ∧ cap ≤ 9223372036854775807 ∧
    (l ≠ [] → ∃ b off, a = some ⟨b, off, none⟩ ∧ ∀ j (h : j < l.length), w.cell? ⟨b, off + j, none⟩ = some (.int .u8 (l[j].toNat : Int)))

theorem Bytes.reads {w : World} {v : Value} {l : List UInt8} (h : Bytes w v l) : Reads w v (l.map byteV) := by
  obtain ⟨a, cap, hv, h1, h2, h3⟩ := h
  refine ⟨a, cap, by simpa using hv, by simpa using h1, h2, fun hne => ?_⟩
  obtain ⟨b, off, ha, hc⟩ := h3 (by simpa using hne)
  exact ⟨b, off, ha, fun j hj => by rw [hc j (by simpa using hj)]; simp [byteV]⟩

theorem Reads.bytes {w : World} {v : Value} {l : List UInt8} (h : Reads w v (l.map byteV)) : Bytes w v l := by
  obtain ⟨a, cap, hv, h1, h2, h3⟩ := h
  refine ⟨a, cap, by simpa using hv, by simpa using h1, h2, fun hne => ?_⟩
  obtain ⟨b, off, ha, hc⟩ := h3 (by simpa using hne)
  exact ⟨b, off, ha, fun j hj => by rw [hc j (by simpa using hj)]; simp [byteV]⟩

theorem Reads.below {w w' : World} {v : Value} {xs : List Value} {B : Nat} (h : Reads w v xs) (hb : Below B w w') (hB : B = w.heap.size) : Reads w' v xs := by
  subst hB
  obtain ⟨a, cap, hv, h1, h2, h3⟩ := h
  refine ⟨a, cap, hv, h1, h2, fun hne => ?_⟩
  obtain ⟨b, off, ha, hc⟩ := h3 hne
  refine ⟨b, off, ha, fun j hj => ?_⟩
  have hlt := World.block_lt_of_cell? w _ (hc j hj)
  rw [hb.cell (p := ⟨b, off + j, none⟩) hlt]
  exact hc j hj

theorem Bytes.below {w w' : World} {v : Value} {l : List UInt8} {B : Nat} (h : Bytes w v l) (hb : Below B w w') (hB : B = w.heap.size) : Bytes w' v l := (h.reads.below hb hB).bytes

theorem Bytes.grown {w w' : World} {v : Value} {l : List UInt8} (h : Bytes w v l) (hg : w.grownBy w' none) : Bytes w' v l :=
  h.below (B := w.heap.size) ⟨hg.os, hg.tape, hg.output, hg.size, fun k hk => hg.block k hk (by simp)⟩ rfl

theorem Bytes.alloc {w : World} {v : Value} {l : List UInt8} (h : Bytes w v l) (o : Obj) : Bytes (w.alloc o) v l :=
  h.grown (World.grownBy_alloc w o none)

theorem Bytes.drew {w : World} {v : Value} {l : List UInt8} (h : Bytes w v l) : Bytes w.drew v l := h

theorem Bytes.nil (w : World) (a : Option Addr) (cap : Nat) (hc : cap ≤ 9223372036854775807) : Bytes w (.slice a 0 cap) [] :=
  ⟨a, cap, rfl, Nat.zero_le _, hc, fun h => absurd rfl h⟩

theorem Bytes.take {w : World} {a : Option Addr} {n cap : Nat} {l : List UInt8} (h : Bytes w (.slice a n cap) l) (k : Nat) (hk : k ≤ l.length) : Bytes w (.slice a k cap) (l.take k) := by
  obtain ⟨a', cap', hv, h1, h2, h3⟩ := h
  simp only [Value.slice.injEq] at hv
  obtain ⟨rfl, rfl, rfl⟩ := hv
  refine ⟨a, cap, by rw [List.length_take, Nat.min_eq_left hk], by rw [List.length_take]; omega, h2, fun hne => ?_⟩
  obtain ⟨b, off, ha, hc⟩ := h3 (by intro e; subst e; simp at hne)
  exact ⟨b, off, ha, fun j hj => by rw [hc j (by simp at hj; omega)]; simp⟩

/-- A cut 'b[k:k+n]' of bytes whose place is known. -/
theorem Bytes.part {w : World} {b off : Nat} {l : List UInt8} (h : ∀ j (h : j < l.length), w.cell? ⟨b, off + j, none⟩ = some (.int .u8 (l[j].toNat : Int))) (k n c : Nat) (hkn : k + n ≤ l.length) (hn : n ≤ c) (hc : c ≤ 9223372036854775807) :
    Bytes w (.slice (some ⟨b, off + k, none⟩) n c) ((l.drop k).take n) := by
  have hlen : ((l.drop k).take n).length = n := by simp; omega
  refine ⟨_, c, by rw [hlen], by omega, hc, fun _ => ⟨_, _, rfl, fun j hj => ?_⟩⟩
  rw [hlen] at hj
  rw [Nat.add_assoc, h (k + j) (by omega)]
  simp

theorem Bytes.sub {w : World} {a : Option Addr} {n0 cap : Nat} {l : List UInt8} (h : Bytes w (.slice a n0 cap) l) (k n : Nat) (hkn : k + n ≤ l.length) :
    Bytes w (.slice (if cap = k then a else a.map (·.add k)) n (cap - k)) ((l.drop k).take n) := by
  obtain ⟨a', cap', hv, h1, h2, h3⟩ := h
  simp only [Value.slice.injEq] at hv
  obtain ⟨rfl, rfl, rfl⟩ := hv
  by_cases hn : n = 0
  · subst hn
    rw [List.take_zero]
    exact Bytes.nil _ _ _ (by omega)
  · obtain ⟨b, off, rfl, hc⟩ := h3 (by intro e; subst e; simp at hkn; omega)
    rw [if_neg (by omega)]
    have := Bytes.part hc k n (cap - k) hkn (by omega) (by omega)
    simpa [Addr.add_lit] using this

theorem Reads.take {w : World} {a : Option Addr} {n cap : Nat} {l : List Value} (h : Reads w (.slice a n cap) l) (k : Nat) (hk : k ≤ l.length) : Reads w (.slice a k cap) (l.take k) := by
  obtain ⟨a', cap', hv, h1, h2, h3⟩ := h
  simp only [Value.slice.injEq] at hv
  obtain ⟨rfl, rfl, rfl⟩ := hv
  refine ⟨a, cap, by rw [List.length_take, Nat.min_eq_left hk], by rw [List.length_take]; omega, h2, fun hne => ?_⟩
  obtain ⟨b, off, ha, hc⟩ := h3 (by intro e; subst e; simp at hne)
  exact ⟨b, off, ha, fun j hj => by rw [hc j (by simp at hj; omega)]; simp⟩

/-- What the call owns: bytes at the head of a row of its own, from block number 'base' on. -/
def OwnB (w : World) (base e : Nat) (v : Value) (l : List UInt8) : Prop := w.ownsRow base e 1 v l.length (l.map byteV)

theorem Reads.of_owns {w : World} {base e n : Nat} {v : Value} {xs : List Value} (h : w.ownsRow base e 1 v n xs) : Reads w v xs := by
  have hl : xs.length = n := by simpa using h.1
  subst hl
  rcases h.2 with ⟨rfl, hx⟩ | ⟨g, cap, cur, rfl, hb, hg, hnc, hcm, hcs, htake⟩
  · have : xs = [] := List.eq_nil_of_length_eq_zero hx
    subst this
    exact ⟨none, 0, rfl, by simp, by omega, fun h => absurd rfl h⟩
  · refine ⟨_, cap, rfl, hnc, by simpa [maxLen] using hcm, fun _ => ⟨g, 0, rfl, fun j hj => ?_⟩⟩
    have := h.cellAt j (by simpa using hj)
    rw [Nat.zero_add, this, List.getElem?_eq_getElem hj]

theorem OwnB.bytes {w : World} {base e : Nat} {v : Value} {l : List UInt8} (h : OwnB w base e v l) : Bytes w v l := (Reads.of_owns h).bytes

theorem OwnB.nil (w : World) (base e : Nat) : OwnB w base e (.slice none 0 0) [] := World.ownsRow_nil w base e 1

theorem OwnB.alloc {w : World} {base e : Nat} {v : Value} {l : List UInt8} (h : OwnB w base e v l) (o : Obj) : OwnB (w.alloc o) base e v l := World.ownsRow.alloc h o
theorem OwnB.drew {w : World} {base e : Nat} {v : Value} {l : List UInt8} (h : OwnB w base e v l) : OwnB w.drew base e v l := h

/-- Owned from a base on: owned from an elder base on. -/
theorem ownsRow_rebase {w : World} {base base' e s n : Nat} {v : Value} {xs : List Value} (h : w.ownsRow base e s v n xs) (hb : base' ≤ base) : w.ownsRow base' e s v n xs := by
  refine ⟨h.1, ?_⟩
  rcases h.2 with h2 | ⟨g, cap, cur, hv, hg, r⟩
  · exact .inl h2
  · exact .inr ⟨g, cap, cur, hv, by omega, r⟩

theorem OwnB.rebase {w : World} {base base' e : Nat} {v : Value} {l : List UInt8} (h : OwnB w base e v l) (hb : base' ≤ base) : OwnB w base' e v l := ownsRow_rebase h hb

theorem OwnB.kept {w w' : World} {base e : Nat} {row : Option Nat} {v : Value} {l : List UInt8} (h : OwnB w base e v l) (hg : w.grownBy w' row) (hne : v.ownBlock = none ∨ v.ownBlock ≠ row) : OwnB w' base e v l := World.ownsRow.kept h hg hne

/-- What is owned stays owned behind a call that turns nothing that was there. -/
theorem ownsRow_below {w w' : World} {base e s n : Nat} {v : Value} {xs : List Value} (h : w.ownsRow base e s v n xs) (hb : Below w.heap.size w w') : w'.ownsRow base e s v n xs := by
  refine ⟨h.1, ?_⟩
  rcases h.2 with h2 | ⟨g, cap, cur, hv, hg, hh, r⟩
  · exact .inl h2
  · exact .inr ⟨g, cap, cur, hv, hg, by rw [hb.block g (Array.getElem?_eq_some_iff.1 hh).1]; exact hh, r⟩

theorem OwnB.below {w w' : World} {base e : Nat} {v : Value} {l : List UInt8} (h : OwnB w base e v l) (hb : Below w.heap.size w w') : OwnB w' base e v l := ownsRow_below h hb

theorem OwnB.len {w : World} {base e : Nat} {v : Value} {l : List UInt8} (h : OwnB w base e v l) : ∃ a cap, v = .slice a l.length cap := by
  obtain ⟨a, cap, hv, _⟩ := h.bytes
  exact ⟨a, cap, hv⟩

theorem ownsRow_shape {w : World} {base e s n : Nat} {v : Value} {xs : List Value} (h : w.ownsRow base e s v n xs) (hn : n ≠ 0) : ∃ g cap, v = .slice (some ⟨g, 0, none⟩) n cap ∧ base ≤ g ∧ g < w.heap.size ∧ n ≤ cap := by
  rcases h.2 with ⟨rfl, h0⟩ | ⟨g, cap, cur, hv, hg, hh, r⟩
  · exact absurd h0 hn
  · exact ⟨g, cap, hv, hg, (Array.getElem?_eq_some_iff.1 hh).1, r.1⟩

theorem OwnB.shape {w : World} {base e : Nat} {v : Value} {l : List UInt8} (h : OwnB w base e v l) (hl : l ≠ []) : ∃ g cap, v = .slice (some ⟨g, 0, none⟩) l.length cap ∧ base ≤ g ∧ g < w.heap.size ∧ l.length ≤ cap :=
  ownsRow_shape h (by intro e; exact hl (List.eq_nil_of_length_eq_zero e))

/-- Two steps of growth. -/
theorem grownBy_trans {a b c : World} {row row' : Option Nat} (h : a.grownBy b row) (k : b.grownBy c row') (hr : ∀ x, row' = some x → a.heap.size ≤ x ∨ row = some x) : a.grownBy c row :=
  ⟨k.os.trans h.os, k.tape.trans h.tape, k.output.trans h.output, Nat.le_trans h.size k.size, fun i hi hne => by
    refine (k.block i (Nat.lt_of_lt_of_le hi h.size) (fun e => ?_)).trans (h.block i hi hne)
    rcases hr i e.symm with h1 | h1
    · omega
    · exact hne h1.symm⟩

theorem grownBy_of_below {a b : World} (h : Below a.heap.size a b) (row : Option Nat) : a.grownBy b row := ⟨h.os, h.tape, h.output, h.size, fun k hk _ => h.block k hk⟩
theorem below_of_grown {a b : World} (h : a.grownBy b none) : Below a.heap.size a b := ⟨h.os, h.tape, h.output, h.size, fun k hk => h.block k hk (by simp)⟩
theorem grownBy_none {a b : World} {row : Option Nat} (h : a.grownBy b none) : a.grownBy b row := ⟨h.os, h.tape, h.output, h.size, fun k hk _ => h.block k hk (by simp)⟩

section
variable {P : Program}

/-- What 'append' does: out the call's own, src whatever. -/
theorem run_append_src {w : World} (t ot : TypeId)
    (base : Nat) (e : TypeId) (i : TypeInfo) (z : Value) (size bytes : Nat) (ht : P.underlying t = some (.slice e)) (hi : P.info? e = some i) (hz : i.zero = some z)
    (hsize : i.size = size) (hby : i.bytes = bytes) (hzs : z.cells.size = size) (hsz : 0 < size)
    (v : Value) (n : Nat) (xs : List Value) (hown : w.ownsRow base e size v n xs)
    (ao : Option Addr) (m c : Nat) (news : List Value) (hl : news.length = m * size)
    (hnews : m ≠ 0 → ∃ ad, ao = some ad ∧ ∀ j u, news[j]? = some u → w.cell? (ad.add j) = some u) (h1 : ∀ u ∈ news, u.oneCell' = true)
    (h63 : n + m ≤ maxLen) (hbytes : (n + m) * bytes ≤ 140737488355328) (hbase : base ≤ w.heap.size) :
    ∃ v' w', (Builtin.append_ #[t, t] ot #[v, .slice ao m c]).run P w = .ok v' w' ∧ w'.ownsRow base e size v' (n + m) (xs ++ news) ∧ w.grownBy w' v.ownBlock ∧ (∀ k, v'.ownBlock = some k → v.ownBlock = some k ∨ w.heap.size ≤ k) := by
  by_cases hm : m = 0
  · subst hm
    have hn : news = [] := List.eq_nil_of_length_eq_zero (by simpa using hl)
    subst hn
    have hrun : (Builtin.append_ #[t, t] ot #[v, .slice ao 0 c]).run P w = .ok v w := by
      rcases hown.2 with ⟨rfl, rfl⟩ | ⟨g, cap, cur, rfl, _, _, hnc, _⟩
      · cases ao <;> simp [Builtin.append_, run_underlying ht, sizeOf, typeInfo, hi, Builtin.lenOf, Builtin.firstCells, loadCells, loadCellsFrom]
      · cases ao <;> simp [Builtin.append_, run_underlying ht, sizeOf, typeInfo, hi, Builtin.lenOf, Builtin.firstCells, hnc, storeCells, loadCells, loadCellsFrom]
    exact ⟨v, w, hrun, by simpa using hown, ⟨rfl, rfl, rfl, Nat.le_refl _, fun _ _ _ => rfl⟩, fun k hk => .inl hk⟩
  · obtain ⟨ad, rfl, hc⟩ := hnews hm
    subst hsize
    subst hby
    have hsmall : n + m ≤ 9223372036854775807 := by simp only [maxLen] at h63; omega
    have hlen : (xs ++ news).length = (n + m) * i.size := by rw [List.length_append, hown.1, hl, Nat.add_mul]
    have grown : ∀ (old : Nat), old < n + m → ∀ (row : Option Nat),
        (w.drew.alloc (.cells (xs.toArray ++ news.toArray ++ Builtin.zeroCells z.cells (grownCap w (n + m) old e - (n + m))) e)).ownsRow base e i.size
          (.slice (some ⟨w.heap.size, 0, none⟩) (n + m) (grownCap w (n + m) old e)) (n + m) (xs ++ news) ∧
        w.grownBy (w.drew.alloc (.cells (xs.toArray ++ news.toArray ++ Builtin.zeroCells z.cells (grownCap w (n + m) old e - (n + m))) e)) row := by
      intro old ho row
      have hge := grownCap_ge w (n + m) old e
      have hcm : grownCap w (n + m) old e ≤ maxLen := grownCap_le_maxLen w (n + m) old e h63
      refine ⟨⟨hlen, .inr ⟨w.heap.size, _, _, rfl, hbase, _root_.Go.heap_alloc_new w.drew _, hge, hcm, ?_, ?_⟩⟩, ⟨rfl, rfl, rfl, by simp, fun k hk _ => Below.heap_alloc w.drew _ k hk⟩⟩
      · simp only [Array.size_append, List.size_toArray, size_zeroCells, hzs, hown.1, hl, ← Nat.add_mul]
        congr 1
        omega
      · simp only [Array.toList_append, List.append_assoc]
        rw [← List.append_assoc, ← hlen]
        exact List.take_left
    rcases hown.2 with ⟨rfl, rfl⟩ | ⟨g, cap, cur, rfl, hbg, hg, hnc, hcm, hcs, htake⟩
    · have hx : xs = [] := List.eq_nil_of_length_eq_zero (by simpa using hown.1)
      subst hx
      have hr := run_append_nil (P := P) w t ot e i z ht hi hz ad m c news hl hc (by omega) (by omega) (by have hb := hbytes; simp only [Nat.zero_add] at hb; omega)
      have hgr := grown 0 (by omega) (Value.ownBlock (.slice none 0 0))
      simp only [Nat.zero_add, List.nil_append, Array.empty_append] at hgr ⊢
      exact ⟨_, _, hr, hgr.1, hgr.2, fun k hk => .inr (by simp [Value.ownBlock] at hk; omega)⟩
    · by_cases hroom : n + m ≤ cap
      · have hfit : n * i.size + news.length ≤ cur.size := by rw [hl, hcs, ← Nat.add_mul]; exact Nat.mul_le_mul_right _ hroom
        have hr := run_append_room (P := P) w t ot e i ht hi g n cap cur hg ad m c news hl hc h1 hroom hfit
        refine ⟨_, _, hr, ⟨hlen, .inr ⟨g, cap, _, rfl, hbg, setRow_heap w g cur _ e _ hg, hroom, hcm, ?_, ?_⟩⟩, ⟨rfl, rfl, rfl, by simp, fun k _ hk => setRow_other w g k _ (fun e => hk (by simp [Value.ownBlock, e]))⟩, fun k hk => .inl hk⟩
        · simp only [List.size_toArray, List.length_append, List.length_take, List.length_drop, Array.length_toList]
          omega
        · rw [htake, ← hlen]
          exact List.take_left
      · have holds : ∀ j u, xs[j]? = some u → w.cell? ((⟨g, 0, none⟩ : Addr).add j) = some u := hown.cells (g := g) rfl
        have hr := run_append_grow (P := P) w t ot e i z ht hi hz ⟨g, 0, none⟩ n cap xs hown.1 holds ad m c news hl hc (by omega) (by omega) (growslice_fits (by omega) hbytes)
        have hgr := grown cap (by omega) (Value.ownBlock (.slice (some ⟨g, 0, none⟩) n cap))
        exact ⟨_, _, hr, hgr.1, hgr.2, fun k hk => .inr (by simp [Value.ownBlock] at hk; omega)⟩

/-- 'append(out, src...)': out the call's own, src whatever. -/
theorem wpList_append_src {w : World} {ops : Array Oper} {rest : List Oper} {o : Oper} {a : Act} {Q : Exit → Act → World → Prop} (hgd : o.guard = none) (s x : Operand) (t : TypeId)
    (ho : o.op = .call { callee := .builtin .append, args := #[s, x], argTypes := #[t, t] })
    (base : Nat) (e : TypeId) (i : TypeInfo) (z : Value) (size bytes : Nat) (ht : P.underlying t = some (.slice e)) (hi : P.info? e = some i) (hz : i.zero = some z)
    (hsize : i.size = size) (hby : i.bytes = bytes) (hzs : z.cells.size = size) (hsz : 0 < size)
    (v : Value) (n : Nat) (xs : List Value) (hs : a.eval s = v) (hown : w.ownsRow base e size v n xs)
    (ao : Option Addr) (m c : Nat) (news : List Value) (hx : a.eval x = .slice ao m c) (hl : news.length = m * size)
    (hnews : m ≠ 0 → ∃ ad, ao = some ad ∧ ∀ j u, news[j]? = some u → w.cell? (ad.add j) = some u) (h1 : ∀ u ∈ news, u.oneCell' = true)
    (h63 : n + m ≤ maxLen) (hbytes : (n + m) * bytes ≤ 140737488355328) (hbase : base ≤ w.heap.size)
    (h : ∀ v' w', w'.ownsRow base e size v' (n + m) (xs ++ news) → w.grownBy w' v.ownBlock → (∀ k, v'.ownBlock = some k → v.ownBlock = some k ∨ w.heap.size ≤ k) → wpList P ops Q rest (a.put o.dst v') w') : wpList P ops Q (o :: rest) a w := by
  obtain ⟨v', w', hr, h2, h3, h4⟩ := run_append_src (P := P) t o.type base e i z size bytes ht hi hz hsize hby hzs hsz v n xs hown ao m c news hl hnews h1 h63 hbytes hbase
  refine wpList_plain hgd fun K hK => ?_
  unfold Oper.wp execOp
  simp only [ho, resolve, invoke, builtin, Sem.run_bind, Sem.run_pure, Result.andThen_ok, List.map_toArray, List.map_cons, List.map_nil, hs, hx, hr]
  exact hK _ _ (h v' w' h2 h3 h4)
end

theorem byteV_oneCell (l : List UInt8) : ∀ u ∈ l.map byteV, u.oneCell' = true := by
  intro u hu
  obtain ⟨_, _, rfl⟩ := List.mem_map.1 hu
  rfl

/-- The same, of bytes. -/
theorem wpList_append_bytes {P : Program} {w : World} {ops : Array Oper} {rest : List Oper} {o : Oper} {a : Act} {Q : Exit → Act → World → Prop} (t : TypeId) (base : Nat) (e : TypeId)
    (ht : P.underlying t = some (.slice e)) (hinfo : (P.info? e).map (fun i => (i.zero, i.size, i.bytes)) = some (some (.int .u8 0), 1, 1))
    (hgd : o.guard = none) (s x : Operand) (ho : o.op = .call { callee := .builtin .append, args := #[s, x], argTypes := #[t, t] })
    {v : Value} {l : List UInt8} (hown : OwnB w base e v l) {src : Value} {m : List UInt8} (hsrc : Bytes w src m) (hs : a.eval s = v) (hx : a.eval x = src)
    (hlen : l.length + m.length ≤ 140737488355328) (hbase : base ≤ w.heap.size)
    (h : ∀ v' w', OwnB w' base e v' (l ++ m) → w.grownBy w' v.ownBlock → (∀ k, v'.ownBlock = some k → v.ownBlock = some k ∨ w.heap.size ≤ k) → wpList P ops Q rest (a.put o.dst v') w') : wpList P ops Q (o :: rest) a w := by
  obtain ⟨i, hi, hz0, hz1, hz2⟩ := info_parts hinfo
  obtain ⟨ao, cap, rfl, _, _, hc⟩ := hsrc
  refine wpList_append_src (P := P) hgd s x t ho base e i _ 1 1 ht hi hz0 hz1 hz2 rfl (by decide) v l.length (l.map byteV) hs hown ao m.length cap (m.map byteV) hx (by simp) (fun hm => ?_) (byteV_oneCell m) (by unfold maxLen; omega) (by omega) hbase
    (fun v' w' h1 h2 h3 => h v' w' (by unfold OwnB; rw [List.length_append, List.map_append]; exact h1) h2 h3)
  obtain ⟨b, off, rfl, hcell⟩ := hc (by intro e; subst e; simp at hm)
  refine ⟨_, rfl, fun j u hu => ?_⟩
  have hj : j < m.length := by
    have := (List.getElem?_eq_some_iff.1 hu).1
    simpa using this
  rw [Addr.add_lit, hcell j hj]
  rw [List.getElem?_eq_getElem (by simpa using hj)] at hu
  simpa [byteV] using hu

theorem map_replicate0 (N : Nat) : (List.replicate N (0 : UInt8)).map byteV = List.replicate N (.int .u8 0) := by simp [byteV]

/-- 'make([]byte, N)'. -/
theorem wpList_make_bytes {P : Program} {w : World} {ops : Array Oper} {rest : List Oper} {o : Oper} {a : Act} {Q : Exit → Act → World → Prop} (t : TypeId) (e : TypeId)
    (ht : P.underlying t = some (.slice e)) (hinfo : (P.info? e).map (fun i => (i.zero, i.size, i.bytes)) = some (some (.int .u8 0), 1, 1))
    (hgd : o.guard = none) (l c : Operand) (hop : o.op = Op.makeSlice t l c) (N : Nat) (hl : a.eval l = .int .i64 N) (hc : a.eval c = .int .i64 N) (hN : N ≤ 140737488355328)
    (h : ∀ w', OwnB w' w.heap.size e (.slice (some ⟨w.heap.size, 0, none⟩) N N) (List.replicate N 0) → w.grownBy w' none → wpList P ops Q rest (a.put o.dst (.slice (some ⟨w.heap.size, 0, none⟩) N N)) w') : wpList P ops Q (o :: rest) a w := by
  obtain ⟨i, hi, hz0, hz1, hz2⟩ := info_parts hinfo
  refine wpList_make_full w hgd l c t hop w.heap.size e i (.int .u8 0) 1 ht hi hz0 hz1 .i64 .i64 _ _ N hl hc rfl rfl (by rw [hz2]; omega) (by unfold maxLen; omega) (Nat.le_refl _) (fun w' h1 h2 => h w' ?_ h2)
  unfold OwnB
  have e1 := toList_madeCells_one (.int .u8 0) N
  rw [List.length_replicate, map_replicate0, ← e1]
  rw [Nat.mul_one] at h1
  exact h1

/-- A store into bytes that the call owns. -/
theorem OwnB.stored {w : World} {base e g cap : Nat} {l : List UInt8} {n : Nat} (h : OwnB w base e (.slice (some ⟨g, 0, none⟩) n cap) l) (j : Nat) (c : UInt8) :
    OwnB (w.setCell ⟨g, j, none⟩ (byteV c)) base e (.slice (some ⟨g, 0, none⟩) n cap) (l.set j c) ∧ w.grownBy (w.setCell ⟨g, j, none⟩ (byteV c)) (some g) := by
  obtain ⟨a, cap', hv⟩ := h.len
  simp only [Value.slice.injEq] at hv
  obtain ⟨_, rfl, _⟩ := hv
  have := World.ownsRow.stored h j (byteV c)
  refine ⟨?_, this.2⟩
  unfold OwnB
  rw [List.length_set, List.map_set]
  exact this.1

theorem OwnB.cellAt {w : World} {base e g cap : Nat} {l : List UInt8} {n : Nat} (h : OwnB w base e (.slice (some ⟨g, 0, none⟩) n cap) l) (j : Nat) (hj : j < l.length) :
    w.cell? ⟨g, j, none⟩ = some (.int .u8 (l[j].toNat : Int)) := by
  obtain ⟨a, cap', hv⟩ := h.len
  simp only [Value.slice.injEq] at hv
  obtain ⟨_, rfl, _⟩ := hv
  rw [World.ownsRow.cellAt h j (by omega)]
  simp [byteV, hj]

theorem OwnB.frozenAt {w : World} {base e g cap : Nat} {l : List UInt8} {n : Nat} (h : OwnB w base e (.slice (some ⟨g, 0, none⟩) n cap) l) (j : Nat) : w.frozen? ⟨g, j, none⟩ = false := by
  obtain ⟨a, cap', hv⟩ := h.len
  simp only [Value.slice.injEq] at hv
  obtain ⟨_, rfl, _⟩ := hv
  exact World.ownsRow.frozenAt h j

/-- One new byte in a block of its own: the source of 'append(b, c)'. -/
theorem Bytes.fresh (w : World) (cs : List UInt8) (e : TypeId) (fr : Nat × Nat) (arr : Array Value) (n : Nat) (hn : n = cs.length) (h : arr = (cs.map byteV).toArray) (hl : cs.length ≤ 9223372036854775807) :
    Bytes (w.alloc (.cells arr e fr)) (.slice (some ⟨w.heap.size, 0, none⟩) n n) cs := by
  subst h
  subst hn
  refine ⟨_, _, rfl, Nat.le_refl _, hl, fun _ => ⟨_, _, rfl, fun j hj => ?_⟩⟩
  rw [Nat.zero_add, cell_of_row (w.alloc _) w.heap.size j _ e fr (heap_alloc_new w _)]
  simp [hj, byteV]

theorem strCells_bytes (s : ByteArray) : Lib.strCells s = s.data.toList.map byteV := by
  unfold Lib.strCells
  apply List.map_congr_left
  intro b _
  rfl
theorem size_data (s : ByteArray) : s.data.toList.length = s.size := by rw [Array.length_toList]; rfl

/-- What 'append(out, src...)' of bytes does. -/
theorem run_append_bytes {P : Program} {w : World} (t ot : TypeId) (base : Nat) (e : TypeId)
    (ht : P.underlying t = some (.slice e)) (hinfo : (P.info? e).map (fun i => (i.zero, i.size, i.bytes)) = some (some (.int .u8 0), 1, 1))
    {v : Value} {l : List UInt8} (hown : OwnB w base e v l) {src : Value} {m : List UInt8} (hsrc : Bytes w src m) (hlen : l.length + m.length ≤ 140737488355328) (hbase : base ≤ w.heap.size) :
    ∃ v' w', (Builtin.append_ #[t, t] ot #[v, src]).run P w = .ok v' w' ∧ OwnB w' base e v' (l ++ m) ∧ w.grownBy w' v.ownBlock ∧ (∀ k, v'.ownBlock = some k → v.ownBlock = some k ∨ w.heap.size ≤ k) := by
  obtain ⟨i, hi, hz0, hz1, hz2⟩ := info_parts hinfo
  obtain ⟨ao, cap, rfl, _, _, hc⟩ := hsrc
  obtain ⟨v', w', h1, h2, h3, h4⟩ := run_append_src (P := P) (w := w) t ot base e i _ 1 1 ht hi hz0 hz1 hz2 rfl (by decide) v l.length (l.map byteV) hown ao m.length cap (m.map byteV) (by simp) (fun hm => by
    obtain ⟨b, off, rfl, hcc⟩ := hc (by intro e; subst e; exact hm rfl)
    refine ⟨_, rfl, fun j u hj => ?_⟩
    obtain ⟨hj', rfl⟩ := List.getElem?_eq_some_iff.1 hj
    rw [Addr.add_lit, hcc j (by simpa using hj')]
    simp [byteV]) (byteV_oneCell m) (by unfold maxLen; omega) (by omega) hbase
  exact ⟨v', w', h1, by unfold OwnB; rw [List.length_append, List.map_append]; exact h2, h3, h4⟩

/-- 'append(out, s...)': out the call's own, s a string. -/
theorem wpList_append_str {P : Program} {w : World} {ops : Array Oper} {rest : List Oper} {o : Oper} {a : Act} {Q : Exit → Act → World → Prop} (t u : TypeId) (base : Nat) (e : TypeId)
    (ht : P.underlying t = some (.slice e)) (hu : P.underlying u = some .string) (hinfo : (P.info? e).map (fun i => (i.zero, i.size, i.bytes)) = some (some (.int .u8 0), 1, 1))
    (hgd : o.guard = none) (sl x : Operand) (ho : o.op = .call { callee := .builtin .append, args := #[sl, x], argTypes := #[t, u] })
    {v : Value} {l : List UInt8} (hown : OwnB w base e v l) (s : ByteArray) (hs : a.eval sl = v) (hx : a.eval x = .string s)
    (hlen : l.length + s.size ≤ 140737488355328) (hbase : base ≤ w.heap.size)
    (h : ∀ v' w', OwnB w' base e v' (l ++ s.data.toList) → w.grownBy w' v.ownBlock → (∀ k, v'.ownBlock = some k → v.ownBlock = some k ∨ w.heap.size ≤ k) → wpList P ops Q rest (a.put o.dst v') w') : wpList P ops Q (o :: rest) a w := by
  obtain ⟨i, hi, hz, hsize, hby⟩ := info_parts hinfo
  refine wpList_plain hgd fun K hK => ?_
  have key : ∃ v' w', (Builtin.append_ #[t, u] o.type #[v, .string s]).run P w = .ok v' w' ∧ w'.ownsRow base e 1 v' (l.length + s.size) (l.map byteV ++ Lib.strCells s) ∧ w.grownBy w' v.ownBlock ∧ (∀ k, v'.ownBlock = some k → v.ownBlock = some k ∨ w.heap.size ≤ k) := by
    generalize hn : l.length = n at *
    have hown' : w.ownsRow base e 1 v n (l.map byteV) := by rw [← hn]; exact hown
    generalize l.map byteV = xs at hown'
    have hxl : xs.length = n := by simpa using hown'.1
    have hl : (xs ++ Lib.strCells s).length = (n + s.size) * 1 := by rw [List.length_append, hxl, Lib.strCells_length, Nat.mul_one]
    have grown : ∀ (old : Nat), old < n + s.size → ∀ (row : Option Nat),
        (w.drew.alloc (.cells (xs.toArray ++ (Lib.strCells s).toArray ++ Builtin.zeroCells (Value.int .u8 0).cells (grownCap w (n + s.size) old e - (n + s.size))) e)).ownsRow base e 1
          (.slice (some ⟨w.heap.size, 0, none⟩) (n + s.size) (grownCap w (n + s.size) old e)) (n + s.size) (xs ++ Lib.strCells s) ∧
        w.grownBy (w.drew.alloc (.cells (xs.toArray ++ (Lib.strCells s).toArray ++ Builtin.zeroCells (Value.int .u8 0).cells (grownCap w (n + s.size) old e - (n + s.size))) e)) row := by
      intro old ho row
      have hge := grownCap_ge w (n + s.size) old e
      have hcm : grownCap w (n + s.size) old e ≤ maxLen := grownCap_le_maxLen w (n + s.size) old e (by unfold maxLen; omega)
      refine ⟨⟨hl, .inr ⟨w.heap.size, _, _, rfl, hbase, _root_.Go.heap_alloc_new w.drew _, hge, hcm, ?_, ?_⟩⟩, ⟨rfl, rfl, rfl, by simp, fun k hk _ => Below.heap_alloc w.drew _ k hk⟩⟩
      · have hz1 : (Value.int IntKind.u8 0).cells.size = 1 := rfl
        simp only [Array.size_append, List.size_toArray, size_zeroCells, hz1, hxl, Lib.strCells_length]
        omega
      · simp only [Array.toList_append, List.append_assoc]
        rw [← List.append_assoc, ← hl]
        exact List.take_left
    rcases hown'.2 with ⟨rfl, rfl⟩ | ⟨g, cap, cur, rfl, hbg, hg, hnc, hcm, hcs, htake⟩
    · have hx0 : xs = [] := List.eq_nil_of_length_eq_zero hxl
      subst hx0
      by_cases hm : s.size = 0
      · have hn0 : Lib.strCells s = [] := List.eq_nil_of_length_eq_zero (by rw [Lib.strCells_length]; exact hm)
        refine ⟨.slice none 0 0, w, ?_, by rw [hm, hn0]; exact World.ownsRow_nil w base e 1, ⟨rfl, rfl, rfl, Nat.le_refl _, fun _ _ _ => rfl⟩, fun k hk => .inl hk⟩
        have hf := Lib.run_firstCells_string (P := P) w 1 s
        rw [hm] at hf
        simp [Builtin.append_, run_underlying ht, run_underlying hu, sizeOf, typeInfo, hi, hsize, Builtin.lenOf, hm, hf]
      · have hr := run_append_nil_string (P := P) w t u o.type e i (.int .u8 0) ht hu hi hz s (by omega) (by omega) (by rw [hby]; omega)
        have hgr := grown 0 (by omega) (Value.ownBlock (.slice none 0 0))
        simp only [Nat.zero_add, List.nil_append, Array.empty_append] at hgr ⊢
        have e1 : (s.data.map fun b => Value.int .u8 b.toNat) = (Lib.strCells s).toArray := by
          apply Array.ext'
          simp [Lib.strCells]
        rw [e1] at hr
        exact ⟨_, _, hr, hgr.1, hgr.2, fun k hk => .inr (by simp [Value.ownBlock] at hk; omega)⟩
    · by_cases hroom : n + s.size ≤ cap
      · have hcs' : cur.size = cap := by simpa using hcs
        have hr := Lib.run_append_room_string (P := P) w t u o.type e i ht hu hi hsize g n cap cur hg s hroom (by omega)
        refine ⟨_, _, hr, ⟨hl, .inr ⟨g, cap, _, rfl, hbg, setRow_heap w g cur _ e _ hg, hroom, hcm, ?_, ?_⟩⟩, ⟨rfl, rfl, rfl, by simp, fun k _ hk => setRow_other w g k _ (fun e => hk (by simp [Value.ownBlock, e]))⟩, fun k hk => .inl hk⟩
        · simp only [List.size_toArray, List.length_append, List.length_take, List.length_drop, Array.length_toList, Lib.strCells_length]
          omega
        · have ht' : cur.toList.take n = xs := by simpa using htake
          rw [ht', ← hl]
          exact List.take_left
      · have holds : ∀ j u, xs[j]? = some u → w.cell? ((⟨g, 0, none⟩ : Addr).add j) = some u := hown'.cells (g := g) rfl
        have hr := Lib.run_append_grow_string (P := P) w t u o.type e i (.int .u8 0) ht hu hi hz ⟨g, 0, none⟩ n cap xs (by rw [hsize]; simpa using hxl) holds s (by omega) (by omega) (by rw [hby]; exact growslice_fits (by omega) (by omega))
        have hgr := grown cap (by omega) (Value.ownBlock (.slice (some ⟨g, 0, none⟩) n cap))
        exact ⟨_, _, hr, hgr.1, hgr.2, fun k hk => .inr (by simp [Value.ownBlock] at hk; omega)⟩
  obtain ⟨v', w', hr, h2, h3, h4⟩ := key
  unfold Oper.wp execOp
  simp only [ho, resolve, invoke, builtin, Sem.run_bind, Sem.run_pure, Result.andThen_ok, List.map_toArray, List.map_cons, List.map_nil, hs, hx, hr]
  refine hK _ _ (h v' w' ?_ h3 h4)
  unfold OwnB
  rw [List.length_append, List.map_append, size_data, ← strCells_bytes]
  exact h2

/-- 'string(b)'. -/
theorem run_string_of {P : Program} {w : World} (src dst e : TypeId) (hs : P.underlying src = some (.slice e)) (he : P.underlying e = some (.int .u8)) (hd : P.underlying dst = some .string) {v : Value} {l : List UInt8} (h : Bytes w v l) :
    (convert src dst v).run P w = .ok (.string ⟨l.toArray⟩) w := by
  obtain ⟨a, cap, rfl, h1, h2, h3⟩ := h
  by_cases hl : l = []
  · subst hl
    cases a with
    | none => rw [run_convert_bytes_nil w src e hs he _ _ dst hd]; rfl
    | some x =>
      rw [run_convert_bytes_string w src dst e _ _ _ hs he hd]
      simp only [List.length_nil]
      rw [run_bytesToString w x 0 cap [] (by simp [loadCells, loadCellsFrom])]
      rfl
  · obtain ⟨b, off, rfl, hc⟩ := h3 hl
    exact run_convert_bytes_back w src dst e _ cap l hs he hd (fun j hj => by rw [Addr.add_lit]; exact hc j hj)

/-- A string of these bytes. -/
def strV (l : List UInt8) : Value := .string ⟨l.toArray⟩

/-- A post: some value, which the call owns, of these bytes. -/
def RetOwn (w : World) (base e : Nat) (v : Value) (l : List UInt8) (x : Ending) (w' : World) : Prop :=
  ∃ v', x = .returned v' ∧ OwnB w' base e v' l ∧ w.grownBy w' v.ownBlock ∧ (∀ k, v'.ownBlock = some k → v.ownBlock = some k ∨ w.heap.size ≤ k)

/-- A post: a slice of these bytes, and nothing that was there has turned. -/
def RetBytes (w : World) (l : List UInt8) (x : Ending) (w' : World) : Prop :=
  ∃ v', x = .returned v' ∧ Bytes w' v' l ∧ Below w.heap.size w w'

end Go.Proofs.Ytikoafjnopkoaaa
namespace Go.Proofs.Ytikoafjnopkoaaa
open Go.ChangeShapes Go.WideShapes Go.ChangeAt Go.RowKit

/-- Behind the step all is as it was, but for these blocks, and what is new. -/
structure Keeps (F : List Nat) (w w' : World) : Prop where
  os : w'.os = w.os
  tape : w'.tape = w.tape
  output : w'.output = w.output
  size : w.heap.size ≤ w'.heap.size
  block : ∀ k, k < w.heap.size → k ∉ F → w'.heap[k]? = w.heap[k]?

theorem Keeps.refl (F : List Nat) (w : World) : Keeps F w w := ⟨rfl, rfl, rfl, Nat.le_refl _, fun _ _ _ => rfl⟩
theorem Keeps.trans {F G : List Nat} {a b c : World} (h : Keeps F a b) (k : Keeps G b c) (hG : ∀ x ∈ G, x ∈ F ∨ a.heap.size ≤ x) : Keeps F a c :=
  ⟨k.os.trans h.os, k.tape.trans h.tape, k.output.trans h.output, Nat.le_trans h.size k.size, fun i hi hF =>
    (k.block i (Nat.lt_of_lt_of_le hi h.size) (fun hx => (hG i hx).elim hF (by omega))).trans (h.block i hi hF)⟩
theorem Keeps.mono {F G : List Nat} {w w' : World} (h : Keeps F w w') (hs : ∀ x ∈ F, x < w.heap.size → x ∈ G) : Keeps G w w' :=
  ⟨h.os, h.tape, h.output, h.size, fun k hk hG => h.block k hk fun hF => hG (hs k hF hk)⟩
theorem Keeps.of_below {F : List Nat} {w w' : World} (h : Below w.heap.size w w') : Keeps F w w' := ⟨h.os, h.tape, h.output, h.size, fun k hk _ => h.block k hk⟩
theorem Keeps.of_grown {w w' : World} {row : Option Nat} (h : w.grownBy w' row) : Keeps row.toList w w' :=
  ⟨h.os, h.tape, h.output, h.size, fun k hk hn => h.block k hk fun e => hn (by rw [← e]; simp)⟩
theorem Keeps.below {F : List Nat} {B : Nat} {w w' : World} (h : Keeps F w w') (hF : ∀ x ∈ F, B ≤ x) (hB : B ≤ w.heap.size) : Below B w w' :=
  ⟨h.os, h.tape, h.output, h.size, fun k hk => h.block k (Nat.lt_of_lt_of_le hk hB) fun hx => absurd (hF k hx) (by omega)⟩
theorem Keeps.alloc {F : List Nat} {a w : World} (h : Keeps F a w) (o : Obj) : Keeps F a (w.alloc o) :=
  ⟨h.os, h.tape, h.output, Nat.le_trans h.size (by show w.heap.size ≤ (w.heap.push o).size; simp), fun k hk hF => (Below.heap_alloc w o k (Nat.lt_of_lt_of_le hk h.size)).trans (h.block k hk hF)⟩
theorem Keeps.setCell {F : List Nat} {a w : World} (h : Keeps F a w) {p : Addr} (hp : p.block ∈ F ∨ a.heap.size ≤ p.block) (u : Value) : Keeps F a (w.setCell p u) :=
  ⟨h.os, h.tape, h.output, by simpa [World.setCell] using h.size, fun k hk hF => (Below.heap_setCell w p u k (by rintro rfl; exact hp.elim hF (by omega))).trans (h.block k hk hF)⟩
theorem Keeps.drew {F : List Nat} {a w : World} (h : Keeps F a w) : Keeps F a w.drew := ⟨h.os, h.tape, h.output, h.size, h.block⟩
theorem Keeps.cell {F : List Nat} {w w' : World} (h : Keeps F w w') {p : Addr} (hp : p.block < w.heap.size) (hF : p.block ∉ F) : w'.cell? p = w.cell? p := World.cell?_of_block (w := w) (h.block p.block hp hF)
theorem Keeps.frozen {F : List Nat} {w w' : World} (h : Keeps F w w') {p : Addr} (hp : p.block < w.heap.size) (hF : p.block ∉ F) : w'.frozen? p = w.frozen? p := World.frozen?_of_block (w := w) (h.block p.block hp hF)

/-- A slice value with a row of its own (or nil), and what stands in it. -/
def Row (w : World) (e : TypeId) (v : Value) (xs : List Value) : Prop := w.ownsRow 0 e 1 v xs.length xs

theorem Row.keeps {w w' : World} {e : TypeId} {v : Value} {xs : List Value} {F : List Nat} (h : Row w e v xs) (hk : Keeps F w w') (hF : ∀ g, v.ownBlock = some g → g ∉ F) : Row w' e v xs := by
  refine ⟨h.1, ?_⟩
  rcases h.2 with h2 | ⟨g, cap, cur, hv, hg, hh, r⟩
  · exact .inl h2
  · refine .inr ⟨g, cap, cur, hv, hg, ?_, r⟩
    rw [hk.block g (Array.getElem?_eq_some_iff.1 hh).1 (hF g (by rw [hv]; rfl))]
    exact hh

theorem Row.lt {w : World} {e : TypeId} {v : Value} {xs : List Value} (h : Row w e v xs) : ∀ g, v.ownBlock = some g → g < w.heap.size := by
  intro g hg
  rcases h.2 with ⟨rfl, _⟩ | ⟨g', cap, cur, rfl, _, hh, _⟩
  · cases hg
  · obtain rfl : g' = g := by simpa [Value.ownBlock] using hg
    exact (Array.getElem?_eq_some_iff.1 hh).1

theorem Row.reads {w : World} {e : TypeId} {v : Value} {xs : List Value} (h : Row w e v xs) : Reads w v xs := Reads.of_owns (n := xs.length) h
theorem Row.nil (w : World) (e : TypeId) : Row w e (.slice none 0 0) [] := World.ownsRow_nil w 0 e 1
theorem Row.slice {w : World} {e : TypeId} {v : Value} {xs : List Value} (h : Row w e v xs) : ∃ a n cap, v = .slice a n cap := by
  obtain ⟨a, cap, hv, _⟩ := h.reads
  exact ⟨a, _, cap, hv⟩
theorem Row.shape {w : World} {e : TypeId} {v : Value} {xs : List Value} (h : Row w e v xs) : ∃ a cap, v = .slice a xs.length cap := by
  obtain ⟨a, cap, hv, _⟩ := h.reads
  exact ⟨a, cap, hv⟩

section
variable {P : Program}
/-- 'append(out, src...)' of rows. -/
theorem wpList_append_row {w : World} {ops : Array Oper} {rest : List Oper} {o : Oper} {a : Act} {Q : Exit → Act → World → Prop} (t : TypeId) (e : TypeId) (z : Value) (bytes : Nat)
    (ht : P.underlying t = some (.slice e)) (hinfo : (P.info? e).map (fun i => (i.zero, i.size, i.bytes)) = some (some z, 1, bytes)) (hzs : z.cells.size = 1)
    (hgd : o.guard = none) (s x : Operand) (ho : o.op = .call { callee := .builtin .append, args := #[s, x], argTypes := #[t, t] })
    {v : Value} {l : List Value} (hown : Row w e v l) {src : Value} {m : List Value} (hsrc : Reads w src m) (h1 : ∀ u ∈ m, u.oneCell' = true) (hs : a.eval s = v) (hx : a.eval x = src)
    (h63 : l.length + m.length ≤ maxLen) (hlen : (l.length + m.length) * bytes ≤ 140737488355328)
    (h : ∀ v' w', Row w' e v' (l ++ m) → w.grownBy w' v.ownBlock → (∀ k, v'.ownBlock = some k → v.ownBlock = some k ∨ w.heap.size ≤ k) → wpList P ops Q rest (a.put o.dst v') w') : wpList P ops Q (o :: rest) a w := by
  obtain ⟨i, hi, hi'⟩ := Option.map_eq_some_iff.1 hinfo
  simp only [Prod.mk.injEq] at hi'
  obtain ⟨hz0, hz1, hz2⟩ := hi'
  obtain ⟨ao, cap, rfl, _, _, hc⟩ := hsrc
  refine wpList_append_src (P := P) hgd s x t ho 0 e i z 1 bytes ht hi hz0 hz1 hz2 hzs (by decide) v l.length l hs hown ao m.length cap m hx (by simp) (fun hm => ?_) h1 h63 hlen (Nat.zero_le _)
    (fun v' w' h1 h2 h3 => h v' w' (by unfold Row; rw [List.length_append]; exact h1) h2 h3)
  obtain ⟨b, off, rfl, hcc⟩ := hc (by intro e; subst e; exact hm rfl)
  refine ⟨_, rfl, fun j u hj => ?_⟩
  obtain ⟨hj', rfl⟩ := List.getElem?_eq_some_iff.1 hj
  rw [Addr.add_lit]
  exact hcc j hj'
end

/-- A literal slice that the walk has just built. -/
theorem Reads.fresh (w : World) (xs : List Value) (e : TypeId) (fr : Nat × Nat) (arr : Array Value) (n : Nat) (hn : n = xs.length) (h : arr = xs.toArray) (hl : xs.length ≤ 9223372036854775807) :
    Reads (w.alloc (.cells arr e fr)) (.slice (some ⟨w.heap.size, 0, none⟩) n n) xs := by
  subst h
  subst hn
  refine ⟨_, _, rfl, Nat.le_refl _, hl, fun _ => ⟨_, _, rfl, fun j hj => ?_⟩⟩
  rw [Nat.zero_add, cell_of_row (w.alloc _) w.heap.size j _ e fr (heap_alloc_new w _)]
  simp [hj]
end Go.Proofs.Ytikoafjnopkoaaa
namespace Go.Proofs.Ytikoafjnopkoaaa
open Go.ChangeShapes Go.WideShapes Go.ChangeAt Go.RowKit

/-- A slice value that reads as integers of one kind. -/
def Ints (k : IntKind) (w : World) (v : Value) (zs : List Int) : Prop := Reads w v (zs.map (Value.int k)) ∧ ∀ n ∈ zs, (Lit.int k n).wf = true

theorem open_intsR {H : Type} {enc : TypeId × Value → H} {P : Program} {W : World} {base base' : Nat} {r : Reach} {t e : TypeId} {k : IntKind} {v : Value} {d : DataW H} {ps : List MemPlace}
    (ht : P.underlying t = some (.slice e)) (he : P.underlying e = some (.int k)) (hc : P.cellsOf e = 1) (hv : Value.okWide P W r base' t v) (h : DataW.Trod enc P W base (fun _ => true) true t v d ps) :
    ∃ zs, Ints k W v zs := by
  obtain ⟨a, len, cap, rfl⟩ := okWide_slice ht hv
  obtain ⟨fuel, hf⟩ := h
  rcases open_ints ht he hc hf with ⟨hcs, _⟩ | ⟨x, l, c, zs, hcs, _, hl, hm, hz, _, hcell, hwz⟩
  · simp [Value.cells] at hcs
    obtain ⟨rfl, rfl, rfl⟩ := hcs
    exact ⟨[], ⟨none, 0, rfl, by simp, by omega, fun h => absurd rfl h⟩, by simp⟩
  · simp [Value.cells] at hcs
    obtain ⟨rfl, rfl, rfl⟩ := hcs
    have hzl : zs.length = cap := by simpa using hz
    refine ⟨zs.take len, ⟨some x, cap, by simp; omega, by simp; omega, by simpa [maxLen] using hm, fun hne => ?_⟩, fun n hn => hwz n (List.mem_of_mem_take hn)⟩
    have h0 : 0 < len := by
      rcases Nat.eq_zero_or_pos len with e | e
      · subst e; simp at hne
      · exact e
    obtain ⟨b, off, spot⟩ := x
    have hc0 := hcell 0 (by omega)
    have hspot : spot = none := by simpa [Addr.add] using World.cell?_spot hc0
    subst hspot
    refine ⟨b, off, rfl, fun j hj => ?_⟩
    have hj' : j < len := by simp at hj; omega
    have := hcell j (by omega)
    rw [Addr.add_lit] at this
    rw [this]
    simp [List.getD, show j < zs.length by omega]

theorem wf_u8 {n : Int} (h : (Lit.int .u8 n).wf = true) : 0 ≤ n ∧ n ≤ 255 := by simpa [Lit.wf, IntKind.min, IntKind.max, IntKind.signed, IntKind.bits] using h
theorem wf_i64 {n : Int} (h : (Lit.int .i64 n).wf = true) : -9223372036854775808 ≤ n ∧ n ≤ 9223372036854775807 := by simpa [Lit.wf, IntKind.min, IntKind.max, IntKind.signed, IntKind.bits] using h
theorem wf_u32 {n : Int} (h : (Lit.int .u32 n).wf = true) : 0 ≤ n ∧ n ≤ 4294967295 := by simpa [Lit.wf, IntKind.min, IntKind.max, IntKind.signed, IntKind.bits] using h

theorem open_bytes {H : Type} {enc : TypeId × Value → H} {P : Program} {W : World} {base base' : Nat} {r : Reach} {t e : TypeId} {v : Value} {d : DataW H} {ps : List MemPlace}
    (ht : P.underlying t = some (.slice e)) (he : P.underlying e = some (.int .u8)) (hc : P.cellsOf e = 1) (hv : Value.okWide P W r base' t v) (h : DataW.Trod enc P W base (fun _ => true) true t v d ps) :
    ∃ l, Bytes W v l := by
  obtain ⟨zs, hr, hw⟩ := open_intsR ht he hc hv h
  refine ⟨zs.map fun n => UInt8.ofNat n.toNat, Reads.bytes ?_⟩
  have e : (zs.map fun n => UInt8.ofNat n.toNat).map byteV = zs.map (Value.int .u8) := by
    rw [List.map_map]
    apply List.map_congr_left
    intro n hn
    have := wf_u8 (hw n hn)
    simp only [Function.comp, byteV, UInt8.toNat_ofNat']
    congr 1
    omega
  rw [e]
  exact hr
end Go.Proofs.Ytikoafjnopkoaaa
namespace Go.Proofs.Ytikoafjnopkoaaa
open Go.ChangeShapes Go.WideShapes Go.ChangeAt Go.RowKit Go.Deep

/-- A slice value whose elements' cells read as this list tells. -/
def Recs {α : Type} (m : Nat) (f : α → List Value) (w : World) (v : Value) (xs : List α) : Prop :=
  ∃ a cap, v = .slice a xs.length cap ∧ xs.length ≤ cap ∧ cap ≤ 9223372036854775807 ∧
    ∀ k (h : k < xs.length), ∃ b off, a = some ⟨b, off, none⟩ ∧ b < w.heap.size ∧ ∀ j u, (f xs[k])[j]? = some u → w.cell? ⟨b, off + k * m + j, none⟩ = some u

theorem Recs.keeps {α : Type} {m : Nat} {f : α → List Value} {w w' : World} {v : Value} {xs : List α} (h : Recs m f w v xs) (hb : Below w.heap.size w w') : Recs m f w' v xs := by
  obtain ⟨a, cap, hv, h1, h2, h3⟩ := h
  refine ⟨a, cap, hv, h1, h2, fun k hk => ?_⟩
  obtain ⟨b, off, ha, hlt, hc⟩ := h3 k hk
  exact ⟨b, off, ha, Nat.lt_of_lt_of_le hlt hb.size, fun j u hu => by rw [hb.cell (p := ⟨b, off + k * m + j, none⟩) hlt]; exact hc j u hu⟩

theorem list_of_all {α : Type} {R : Nat → α → Prop} (n : Nat) (h : ∀ i, i < n → ∃ x, R i x) : ∃ l : List α, l.length = n ∧ ∀ i (h : i < l.length), R i l[i] := by
  induction n with
  | zero => exact ⟨[], rfl, fun i h => by simp at h⟩
  | succ n ih =>
    obtain ⟨l, hl, hr⟩ := ih (fun i hi => h i (by omega))
    obtain ⟨x, hx⟩ := h n (by omega)
    refine ⟨l ++ [x], by simp [hl], fun i hi => ?_⟩
    rcases Nat.lt_or_ge i l.length with h1 | h1
    · rw [List.getElem_append_left h1]; exact hr i h1
    · simp only [List.length_append, List.length_singleton] at hi
      obtain rfl : i = l.length := by omega
      rw [List.getElem_append_right (Nat.le_refl _)]
      simp only [Nat.sub_self, List.getElem_cons_zero]
      rw [hl]
      exact hx

section
variable {H : Type} {enc : TypeId × Value → H} {P : Program} {W : World} {base base' : Nat} {r : Reach}

/-- From the reading of an argument to its records. -/
theorem open_recs {α : Type} (f : α → List Value) (good : α → Prop) {t e : TypeId} {fs : Array Field} {v : Value} {d : DataW H} {ps : List MemPlace} (ht : P.underlying t = some (.slice e)) (he : P.underlying e = some (.struct fs))
    (hone : oneCellFields P fs = true) (hC : P.cellsOf e = fs.size) (hpos : 0 < fs.size) (hv : Value.okWide P W r base' t v)
    (hel : ∀ vs : List Value, vs.length = fs.size → (∀ (j : Nat) fd, fs[j]? = some fd → ∃ n y u, vs[j]? = some u ∧ DataW.trod enc P W base (fun _ => true) true n fd.type [u] = some y) → ∃ x, f x = vs ∧ good x)
    (h : DataW.Trod enc P W base (fun _ => true) true t v d ps) : ∃ l, Recs fs.size f W v l ∧ ∀ x ∈ l, good x := by
  obtain ⟨a0, len0, cap0, rfl⟩ := okWide_slice ht hv
  obtain ⟨fuel, hf⟩ := h
  rcases open_slice ht hf with ⟨hcs, _⟩ | ⟨a, len, cap, m, n, D, Pl, hcs, hb, hl, hm, hmm, hx, hi⟩
  · simp [Value.cells] at hcs
    obtain ⟨rfl, rfl, rfl⟩ := hcs
    exact ⟨[], ⟨none, 0, rfl, by simp, by omega, fun k hk => by simp at hk⟩, by simp⟩
  · simp [Value.cells] at hcs
    obtain ⟨rfl, rfl, rfl⟩ := hcs
    have hm' : m = cap0 := by simpa using hmm
    subst hm'
    have all : ∀ i, i < len0 → ∃ x, good x ∧ (f x).length = fs.size ∧ ∀ j u, (f x)[j]? = some u → W.cell? (a.add (i * fs.size + j)) = some u := by
      intro i hi'
      obtain ⟨cs', hc, ht'⟩ := hi i (by omega)
      rw [hC] at hc
      obtain ⟨ys, n', _, _, hlen, hyl, hfd⟩ := DataW.trod_struct he ht'
      obtain ⟨_, hcl, hat⟩ := World.cells?_some hc
      obtain ⟨x, hx1, hx2⟩ := hel cs' hcl (fun j fd hj => by
        obtain ⟨ho, hk⟩ := hone_of hone j fd hj
        have hjl : j < fs.size := (Array.getElem?_eq_some_iff.1 hj).1
        have h1 := hfd j fd hj
        rw [ho, hk] at h1
        have hone' : (cs'.drop j).take 1 = [cs'[j]'(by omega)] := by
          rw [List.drop_eq_getElem_cons (by omega)]
          rfl
        rw [hone'] at h1
        exact ⟨n', _, _, List.getElem?_eq_getElem (by omega), h1.trans (List.getElem?_eq_getElem (by omega))⟩)
      refine ⟨x, hx2, by rw [hx1, hcl], fun j u hu => ?_⟩
      rw [hx1] at hu
      have hjl : j < fs.size := by rw [← hcl]; exact (List.getElem?_eq_some_iff.1 hu).1
      have := hat j hjl
      rw [hu] at this
      rw [← Go.Deep.add_add]
      exact this
    obtain ⟨l, hll, hlr⟩ := list_of_all len0 all
    have hla : ∀ x ∈ l, good x := fun x hx => by
      obtain ⟨i, hi, rfl⟩ := List.mem_iff_getElem.1 hx
      exact (hlr i hi).1
    refine ⟨l, ⟨some a, m, by rw [hll], by omega, hm, fun k hk => ?_⟩, hla⟩
    obtain ⟨_, h2, h3⟩ := hlr k hk
    have hne : (f l[k])[0]? = some ((f l[k])[0]'(by omega)) := List.getElem?_eq_getElem (by omega)
    have h0 := h3 0 _ hne
    obtain ⟨_, g2, g3⟩ := hlr 0 (by omega)
    have g0 := g3 0 _ (List.getElem?_eq_getElem (show 0 < (f l[0]).length by omega))
    obtain ⟨b, off, spot⟩ := a
    have hspot : spot = none := by simpa [Addr.add] using World.cell?_spot g0
    subst hspot
    refine ⟨b, off, rfl, ?_, fun j u hu => ?_⟩
    · rw [Addr.add_lit] at h0
      exact World.block_lt_of_cell? W _ h0
    · have := h3 j u hu
      rw [Addr.add_lit] at this
      rw [Nat.add_assoc]
      exact this
end
end Go.Proofs.Ytikoafjnopkoaaa
