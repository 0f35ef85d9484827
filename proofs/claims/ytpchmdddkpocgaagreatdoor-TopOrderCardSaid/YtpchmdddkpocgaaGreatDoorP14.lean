/-
  No claim by itself: TopOrder: the world behind the first writes, all its blocks by one name each. | the words in which the contracts of this seat are stated (a slice that reads as bytes; one that the call owns), and the laws on them. | what a call turns, by the blocks that it may turn; rows whose cells are one value each; a struct's cells in a block of their own. | a document's map of numbers: maps.Copy. Conditions: the map copied to holds nothing. No condition.
-/
import Derived.Test.YtpchmdddkpocgaaGreatDoorP13
import Derived.Test.YtpchmdddkpocgaaGreatDoorTD3
import Derived.WalkKit
import Derived.Handy
import Derived.Laws.BitsAllLaws
import Derived.Laws.AppendOwnNone
import Derived.Laws.CopyOwn
import Derived.Lib.Hide
import Derived.BigQuiet
import Derived.Deep.QuietTactic
import Derived.ShutString
import Derived.Lib.SlBytesConst
import Derived.Lib.AppendStr
import Derived.Test.YtpchmdddkpocgaaGreatDoorProg
import Derived.Maps.RangeWalk
import Derived.Maps.Ext
import Derived.OwnWalk
namespace Go.Proofs.YtpchmdddkpocgaaGreatDoor
set_option maxRecDepth 100000
set_option linter.unusedVariables false
set_option linter.unusedSimpArgs false
def wldT : List (Q × SB) := [(qn 101, .bk 42 [.p (qn 102) 0, iN 1, iN 3, .b true])]
def wldN : List (Q × SB) :=
 [(qn 102, .bk 69 [.m (qn 103), .m (qn 104), .d, .d, .p (qn 105) 0]),
  (qn 103, .mp [(iN 1, .p (qn 201) 0)]),
  (qn 104, .mp [(iN 1, .p (qn 331) 0), (iN 2, .p (qn 431) 0), (iN 3, .p (qn 531) 0)]),
  (qn 105, .bk 130 [.ns])]
def srvN (o : Nat → Q) : List (Q × SB) :=
 [(o 1, .bk 89 [.p (o 2) 0, .p (o 3) 0, .p (o 4) 0, .b false]),
  (o 2, .bk 184 [.p (o 5) 0, iN 1, iN 1, iN 0, iN 0, .s 1 [49], .s 2 [0, 0], slN (o 6) 1, iN 45]),
  (o 3, .bk 99 [iN 1, iN 1, iN 1, .p (o 7) 0, iN 1, iN 2, iN 1, .b false, .p (o 9) 0, .p (o 12) 0, .ns, .b false, iN 0, .b false]),
  (o 4, .bk 206 [iN 1, .p (o 13) 0, .ns]),
  (o 5, .bk 133 [.m (o 17), iN 4]),
  (o 6, .bk 193 (entC (qn 6) 0)),
  (o 7, .bk 221 [iN 0, iN 0, .s 1 [49], .s 2 [0, 0], slN (o 8) 1]),
  (o 8, .bk 193 (entC (qn 8) 0)),
  (o 9, .bk 295 [slN (o 10) 1, slN (o 11) 1, .ns]),
  (o 10, .bk 3 [iN 1]),
  (o 11, .bk 3 [iN 1]),
  (o 12, .bk 323 [iN 1, iN 1, iN 1, iN 1, iN 1, iN 1, iN 1, iN 1, iN 0, iN 0, iN 0, iN 0, iN 0, iN 0, iN 0, iN 0]),
  (o 13, .bk 180 ([iN 0, .p (o 15) 0] ++ told0)),
  (o 15, .bk 128 [.m (o 16)]),
  (o 16, .mp []),
  (o 17, .mp [(.s 5 [115, 116, 97, 116, 101], .p (o 18) 0)]),
  (o 18, .bk 265 [slN (o 19) 45, iN 45, .b true]),
  (o 19, .bk 5 (repS u8A 45))]
def addCN (o : Nat → Q) (c : Nat) : Nat → List AV
 | 0 => []
 | n + 1 => addCN o c n ++ [iN c, iN (Nat.succ n), .sl (o (Nat.add 40 n)) 0 1 (.u 0 1)]
def addON (o : Nat → Q) (c : Nat) : Nat → List (Q × SB)
 | 0 => []
 | n + 1 => addON o c n ++ [(o (Nat.add 40 n), .bk 32 (opC c n))]
def cliQN (o : Nat → Q) (c n : Nat) : List (Q × SB) :=
 [(o 31, .bk 73 [.p (o 32) 0]),
  (o 32, .bk 114 [.p (o 33) 0, iN c, slN (o 37) n, .p (o 1) 0])]
def cliDN (o : Nat → Q) (n : Nat) : List (Q × SB) :=
 [(o 33, .bk 133 [.m (o 34), .y (.iv .i64 9223372036854775808 9223372036854775824)]),
  (o 34, .mp [(.s 5 [113, 117, 101, 117, 101], .p (o 35) 0)]),
  (o 35, .bk 265 [slN (o 36) (Nat.mul 15 n), iN (Nat.mul 15 n), .b true]),
  (o 36, .bk 5 (repS u8A (Nat.mul 15 n)))]
def cliAN (o : Nat → Q) (c n : Nat) : List (Q × SB) := [(o 37, .bk 48 (addCN o c n))] ++ addON o c n
def cliSN (o : Nat → Q) : List (Q × SB) :=
 [(o 1, .bk 117 [.p (o 2) 0, .ns]),
  (o 2, .bk 180 ([iN 0, .p (o 3) 0] ++ told0)),
  (o 3, .bk 128 [.m (o 4)]),
  (o 4, .mp [])]
def oN (k : Nat) (i : Nat) : Q := qn (Nat.add k i)
def cliN (k c n : Nat) : List (Q × SB) := cliQN (oN k) c n ++ (cliDN (oN k) n ++ (cliAN (oN k) c n ++ cliSN (oN k)))
def kC (c : Nat) : Nat := Nat.add 200 (Nat.mul 100 c)
def allN (n : Nat) : List (Q × SB) := wldT ++ (wldN ++ (srvN (oN 200) ++ (cliN (kC 1) 1 n ++ (cliN (kC 2) 2 n ++ cliN (kC 3) 3 n))))
noncomputable def finE (n : Nat) (t : AV) (h : Hp) : Bool := t.on_p fun q o => ifT (Nat.beq o 0) (andB (okK 600 [(qn 101, q)]) (matchS 600 h (allN n) [(qn 101, q)]))
noncomputable def wrK (n : Nat) (t : AV) (l : List (Nat × Nat)) (h : Hp) : Bool := writesK s8 t l h fun h' => finE n t h'
def wrAll (n : Nat) : List (Nat × Nat) := wrS 1 n ++ (wrS 2 n ++ wrS 3 n)
noncomputable def leadK (n : Nat) (t : AV) (h : Hp) : Bool := s7 [t, iN 1] h fun y h2 => andB (isT y) (wrK n t (wrAll n) h2)
noncomputable def preK (n : Nat) : Bool := s6 [iN 1, iN 3] h00 fun t h1 => leadK n t h1
end Go.Proofs.YtpchmdddkpocgaaGreatDoor
namespace Go.Proofs.YtpchmdddkpocgaaGreatDoor
set_option maxRecDepth 100000
set_option linter.unusedVariables false
set_option linter.unusedSimpArgs false
open Go.RowKit
def byteV (c : UInt8) : Value := .int .u8 (c.toNat : Int)
def Reads (w : World) (v : Value) (xs : List Value) : Prop :=
 ∃ a cap, v = .slice a xs.length cap ∧ xs.length ≤ cap ∧ cap ≤ 9223372036854775807 ∧
  (xs ≠ [] → ∃ b off, a = some ⟨b, off, none⟩ ∧ ∀ j (h : j < xs.length), w.cell? ⟨b, off + j, none⟩ = some xs[j])
def Bytes (w : World) (v : Value) (l : List UInt8) : Prop :=
 ∃ a cap, v = .slice a l.length cap ∧ l.length ≤ cap ∧ cap ≤ 9223372036854775807 ∧
  (l ≠ [] → ∃ b off, a = some ⟨b, off, none⟩ ∧ ∀ j (h : j < l.length), w.cell? ⟨b, off + j, none⟩ = some (.int .u8 (l[j].toNat : Int)))
theorem Bytes.reads {w : World} {v : Value} {l : List UInt8} (h : Bytes w v l) : Reads w v (l.map byteV) := by
 obtain ⟨a, cap, hv, h1, h2, h3⟩ := h
 refine ⟨a, cap, by simpa using hv, by simpa using h1, h2, fun hne => ?_⟩
 obtain ⟨b, off, ha, hc⟩ := h3 (by simpa using hne)
 exact ⟨b, off, ha, fun j hj => by rw [hc j (by simpa using hj)]; simp [byteV]⟩
theorem Reads.bytes {w : World} {v : Value} {l : List UInt8} (h : Reads w v (l.map byteV)) : Bytes w v l := by
 obtain ⟨a, cap, hv, h1, h2, h3⟩ := h
 refine ⟨a, cap, by simpa using hv, by simpa using h1, h2, fun hne => ?_⟩
 obtain ⟨b, off, ha, hc⟩ := h3 (by simpa using hne)
 exact ⟨b, off, ha, fun j hj => by rw [hc j (by simpa using hj)]; simp [byteV]⟩
theorem Reads.below {w w' : World} {v : Value} {xs : List Value} {B : Nat} (h : Reads w v xs) (hb : Below B w w') (hB : B = w.heap.size) : Reads w' v xs := by
 subst hB
 obtain ⟨a, cap, hv, h1, h2, h3⟩ := h
 refine ⟨a, cap, hv, h1, h2, fun hne => ?_⟩
 obtain ⟨b, off, ha, hc⟩ := h3 hne
 refine ⟨b, off, ha, fun j hj => ?_⟩
 have hlt := World.block_lt_of_cell? w _ (hc j hj)
 rw [hb.cell (p := ⟨b, off + j, none⟩) hlt]
 exact hc j hj
theorem Bytes.below {w w' : World} {v : Value} {l : List UInt8} {B : Nat} (h : Bytes w v l) (hb : Below B w w') (hB : B = w.heap.size) : Bytes w' v l := (h.reads.below hb hB).bytes
theorem Bytes.grown {w w' : World} {v : Value} {l : List UInt8} (h : Bytes w v l) (hg : w.grownBy w' none) : Bytes w' v l :=
 h.below (B := w.heap.size) ⟨hg.os, hg.tape, hg.output, hg.size, fun k hk => hg.block k hk (by simp)⟩ rfl
theorem Bytes.alloc {w : World} {v : Value} {l : List UInt8} (h : Bytes w v l) (o : Obj) : Bytes (w.alloc o) v l :=
 h.grown (World.grownBy_alloc w o none)
theorem Bytes.drew {w : World} {v : Value} {l : List UInt8} (h : Bytes w v l) : Bytes w.drew v l := h
theorem Bytes.nil (w : World) (a : Option Addr) (cap : Nat) (hc : cap ≤ 9223372036854775807) : Bytes w (.slice a 0 cap) [] :=
 ⟨a, cap, rfl, Nat.zero_le _, hc, fun h => absurd rfl h⟩
theorem Bytes.take {w : World} {a : Option Addr} {n cap : Nat} {l : List UInt8} (h : Bytes w (.slice a n cap) l) (k : Nat) (hk : k ≤ l.length) : Bytes w (.slice a k cap) (l.take k) := by
 obtain ⟨a', cap', hv, h1, h2, h3⟩ := h
 simp only [Value.slice.injEq] at hv
 obtain ⟨rfl, rfl, rfl⟩ := hv
 refine ⟨a, cap, by rw [List.length_take, Nat.min_eq_left hk], by rw [List.length_take]; omega, h2, fun hne => ?_⟩
 obtain ⟨b, off, ha, hc⟩ := h3 (by intro e; subst e; simp at hne)
 exact ⟨b, off, ha, fun j hj => by rw [hc j (by simp at hj; omega)]; simp⟩
theorem Bytes.part {w : World} {b off : Nat} {l : List UInt8} (h : ∀ j (h : j < l.length), w.cell? ⟨b, off + j, none⟩ = some (.int .u8 (l[j].toNat : Int))) (k n c : Nat) (hkn : k + n ≤ l.length) (hn : n ≤ c) (hc : c ≤ 9223372036854775807) :
  Bytes w (.slice (some ⟨b, off + k, none⟩) n c) ((l.drop k).take n) := by
 have hlen : ((l.drop k).take n).length = n := by simp; omega
 refine ⟨_, c, by rw [hlen], by omega, hc, fun _ => ⟨_, _, rfl, fun j hj => ?_⟩⟩
 rw [hlen] at hj
 rw [Nat.add_assoc, h (k + j) (by omega)]
 simp
theorem Bytes.sub {w : World} {a : Option Addr} {n0 cap : Nat} {l : List UInt8} (h : Bytes w (.slice a n0 cap) l) (k n : Nat) (hkn : k + n ≤ l.length) :
  Bytes w (.slice (if cap = k then a else a.map (·.add k)) n (cap - k)) ((l.drop k).take n) := by
 obtain ⟨a', cap', hv, h1, h2, h3⟩ := h
 simp only [Value.slice.injEq] at hv
 obtain ⟨rfl, rfl, rfl⟩ := hv
 by_cases hn : n = 0
 ·subst hn
  rw [List.take_zero]
  exact Bytes.nil _ _ _ (by omega)
 ·obtain ⟨b, off, rfl, hc⟩ := h3 (by intro e; subst e; simp at hkn; omega)
  rw [if_neg (by omega)]
  have := Bytes.part hc k n (cap - k) hkn (by omega) (by omega)
  simpa [Addr.add_lit] using this
theorem Reads.take {w : World} {a : Option Addr} {n cap : Nat} {l : List Value} (h : Reads w (.slice a n cap) l) (k : Nat) (hk : k ≤ l.length) : Reads w (.slice a k cap) (l.take k) := by
 obtain ⟨a', cap', hv, h1, h2, h3⟩ := h
 simp only [Value.slice.injEq] at hv
 obtain ⟨rfl, rfl, rfl⟩ := hv
 refine ⟨a, cap, by rw [List.length_take, Nat.min_eq_left hk], by rw [List.length_take]; omega, h2, fun hne => ?_⟩
 obtain ⟨b, off, ha, hc⟩ := h3 (by intro e; subst e; simp at hne)
 exact ⟨b, off, ha, fun j hj => by rw [hc j (by simp at hj; omega)]; simp⟩
def OwnB (w : World) (base e : Nat) (v : Value) (l : List UInt8) : Prop := w.ownsRow base e 1 v l.length (l.map byteV)
theorem Reads.of_owns {w : World} {base e n : Nat} {v : Value} {xs : List Value} (h : w.ownsRow base e 1 v n xs) : Reads w v xs := by
 have hl : xs.length = n := by simpa using h.1
 subst hl
 rcases h.2 with ⟨rfl, hx⟩ | ⟨g, cap, cur, rfl, hb, hg, hnc, hcm, hcs, htake⟩
 ·have : xs = [] := List.eq_nil_of_length_eq_zero hx
  subst this
  exact ⟨none, 0, rfl, by simp, by omega, fun h => absurd rfl h⟩
 ·refine ⟨_, cap, rfl, hnc, by simpa [maxLen] using hcm, fun _ => ⟨g, 0, rfl, fun j hj => ?_⟩⟩
  have := h.cellAt j (by simpa using hj)
  rw [Nat.zero_add, this, List.getElem?_eq_getElem hj]
theorem OwnB.bytes {w : World} {base e : Nat} {v : Value} {l : List UInt8} (h : OwnB w base e v l) : Bytes w v l := (Reads.of_owns h).bytes
theorem OwnB.nil (w : World) (base e : Nat) : OwnB w base e (.slice none 0 0) [] := World.ownsRow_nil w base e 1
theorem OwnB.alloc {w : World} {base e : Nat} {v : Value} {l : List UInt8} (h : OwnB w base e v l) (o : Obj) : OwnB (w.alloc o) base e v l := World.ownsRow.alloc h o
theorem OwnB.drew {w : World} {base e : Nat} {v : Value} {l : List UInt8} (h : OwnB w base e v l) : OwnB w.drew base e v l := h
theorem ownsRow_rebase {w : World} {base base' e s n : Nat} {v : Value} {xs : List Value} (h : w.ownsRow base e s v n xs) (hb : base' ≤ base) : w.ownsRow base' e s v n xs := by
 refine ⟨h.1, ?_⟩
 rcases h.2 with h2 | ⟨g, cap, cur, hv, hg, r⟩
 ·exact .inl h2
 ·exact .inr ⟨g, cap, cur, hv, by omega, r⟩
theorem OwnB.rebase {w : World} {base base' e : Nat} {v : Value} {l : List UInt8} (h : OwnB w base e v l) (hb : base' ≤ base) : OwnB w base' e v l := ownsRow_rebase h hb
theorem OwnB.kept {w w' : World} {base e : Nat} {row : Option Nat} {v : Value} {l : List UInt8} (h : OwnB w base e v l) (hg : w.grownBy w' row) (hne : v.ownBlock = none ∨ v.ownBlock ≠ row) : OwnB w' base e v l := World.ownsRow.kept h hg hne
theorem ownsRow_below {w w' : World} {base e s n : Nat} {v : Value} {xs : List Value} (h : w.ownsRow base e s v n xs) (hb : Below w.heap.size w w') : w'.ownsRow base e s v n xs := by
 refine ⟨h.1, ?_⟩
 rcases h.2 with h2 | ⟨g, cap, cur, hv, hg, hh, r⟩
 ·exact .inl h2
 ·exact .inr ⟨g, cap, cur, hv, hg, by rw [hb.block g (Array.getElem?_eq_some_iff.1 hh).1]; exact hh, r⟩
theorem OwnB.below {w w' : World} {base e : Nat} {v : Value} {l : List UInt8} (h : OwnB w base e v l) (hb : Below w.heap.size w w') : OwnB w' base e v l := ownsRow_below h hb
theorem OwnB.len {w : World} {base e : Nat} {v : Value} {l : List UInt8} (h : OwnB w base e v l) : ∃ a cap, v = .slice a l.length cap := by
 obtain ⟨a, cap, hv, _⟩ := h.bytes
 exact ⟨a, cap, hv⟩
theorem ownsRow_shape {w : World} {base e s n : Nat} {v : Value} {xs : List Value} (h : w.ownsRow base e s v n xs) (hn : n ≠ 0) : ∃ g cap, v = .slice (some ⟨g, 0, none⟩) n cap ∧ base ≤ g ∧ g < w.heap.size ∧ n ≤ cap := by
 rcases h.2 with ⟨rfl, h0⟩ | ⟨g, cap, cur, hv, hg, hh, r⟩
 ·exact absurd h0 hn
 ·exact ⟨g, cap, hv, hg, (Array.getElem?_eq_some_iff.1 hh).1, r.1⟩
theorem OwnB.shape {w : World} {base e : Nat} {v : Value} {l : List UInt8} (h : OwnB w base e v l) (hl : l ≠ []) : ∃ g cap, v = .slice (some ⟨g, 0, none⟩) l.length cap ∧ base ≤ g ∧ g < w.heap.size ∧ l.length ≤ cap :=
 ownsRow_shape h (by intro e; exact hl (List.eq_nil_of_length_eq_zero e))
section
variable {P : Program}
theorem run_append_src {w : World} (t ot : TypeId)
  (base : Nat) (e : TypeId) (i : TypeInfo) (z : Value) (size bytes : Nat) (ht : P.underlying t = some (.slice e)) (hi : P.info? e = some i) (hz : i.zero = some z)
  (hsize : i.size = size) (hby : i.bytes = bytes) (hzs : z.cells.size = size) (hsz : 0 < size)
  (v : Value) (n : Nat) (xs : List Value) (hown : w.ownsRow base e size v n xs)
  (ao : Option Addr) (m c : Nat) (news : List Value) (hl : news.length = m * size)
  (hnews : m ≠ 0 → ∃ ad, ao = some ad ∧ ∀ j u, news[j]? = some u → w.cell? (ad.add j) = some u) (h1 : ∀ u ∈ news, u.oneCell' = true)
  (h63 : n + m ≤ maxLen) (hbytes : (n + m) * bytes ≤ 140737488355328) (hbase : base ≤ w.heap.size) :
  ∃ v' w', (Builtin.append_ #[t, t] ot #[v, .slice ao m c]).run P w = .ok v' w' ∧ w'.ownsRow base e size v' (n + m) (xs ++ news) ∧ w.grownBy w' v.ownBlock ∧ (∀ k, v'.ownBlock = some k → v.ownBlock = some k ∨ w.heap.size ≤ k) := by
 by_cases hm : m = 0
 ·subst hm
  have hn : news = [] := List.eq_nil_of_length_eq_zero (by simpa using hl)
  subst hn
  have hrun : (Builtin.append_ #[t, t] ot #[v, .slice ao 0 c]).run P w = .ok v w := by
   rcases hown.2 with ⟨rfl, rfl⟩ | ⟨g, cap, cur, rfl, _, _, hnc, _⟩
   ·cases ao <;> simp [Builtin.append_, run_underlying ht, sizeOf, typeInfo, hi, Builtin.lenOf, Builtin.firstCells, loadCells, loadCellsFrom]
   ·cases ao <;> simp [Builtin.append_, run_underlying ht, sizeOf, typeInfo, hi, Builtin.lenOf, Builtin.firstCells, hnc, storeCells, loadCells, loadCellsFrom]
  exact ⟨v, w, hrun, by simpa using hown, ⟨rfl, rfl, rfl, Nat.le_refl _, fun _ _ _ => rfl⟩, fun k hk => .inl hk⟩
 ·obtain ⟨ad, rfl, hc⟩ := hnews hm
  subst hsize
  subst hby
  have hsmall : n + m ≤ 9223372036854775807 := by simp only [maxLen] at h63; omega
  have hlen : (xs ++ news).length = (n + m) * i.size := by rw [List.length_append, hown.1, hl, Nat.add_mul]
  have grown : ∀ (old : Nat), old < n + m → ∀ (row : Option Nat),
    (w.drew.alloc (.cells (xs.toArray ++ news.toArray ++ Builtin.zeroCells z.cells (grownCap w (n + m) old e - (n + m))) e)).ownsRow base e i.size
     (.slice (some ⟨w.heap.size, 0, none⟩) (n + m) (grownCap w (n + m) old e)) (n + m) (xs ++ news) ∧
    w.grownBy (w.drew.alloc (.cells (xs.toArray ++ news.toArray ++ Builtin.zeroCells z.cells (grownCap w (n + m) old e - (n + m))) e)) row := by
   intro old ho row
   have hge := grownCap_ge w (n + m) old e
   have hcm : grownCap w (n + m) old e ≤ maxLen := grownCap_le_maxLen w (n + m) old e h63
   refine ⟨⟨hlen, .inr ⟨w.heap.size, _, _, rfl, hbase, _root_.Go.heap_alloc_new w.drew _, hge, hcm, ?_, ?_⟩⟩, ⟨rfl, rfl, rfl, by simp, fun k hk _ => Below.heap_alloc w.drew _ k hk⟩⟩
   ·simp only [Array.size_append, List.size_toArray, size_zeroCells, hzs, hown.1, hl, ← Nat.add_mul]
    congr 1
    omega
   ·simp only [Array.toList_append, List.append_assoc]
    rw [← List.append_assoc, ← hlen]
    exact List.take_left
  rcases hown.2 with ⟨rfl, rfl⟩ | ⟨g, cap, cur, rfl, hbg, hg, hnc, hcm, hcs, htake⟩
  ·have hx : xs = [] := List.eq_nil_of_length_eq_zero (by simpa using hown.1)
   subst hx
   have hr := run_append_nil (P := P) w t ot e i z ht hi hz ad m c news hl hc (by omega) (by omega) (by have hb := hbytes; simp only [Nat.zero_add] at hb; omega)
   have hgr := grown 0 (by omega) (Value.ownBlock (.slice none 0 0))
   simp only [Nat.zero_add, List.nil_append, Array.empty_append] at hgr ⊢
   exact ⟨_, _, hr, hgr.1, hgr.2, fun k hk => .inr (by simp [Value.ownBlock] at hk; omega)⟩
  ·by_cases hroom : n + m ≤ cap
   ·have hfit : n * i.size + news.length ≤ cur.size := by rw [hl, hcs, ← Nat.add_mul]; exact Nat.mul_le_mul_right _ hroom
    have hr := run_append_room (P := P) w t ot e i ht hi g n cap cur hg ad m c news hl hc h1 hroom hfit
    refine ⟨_, _, hr, ⟨hlen, .inr ⟨g, cap, _, rfl, hbg, setRow_heap w g cur _ e _ hg, hroom, hcm, ?_, ?_⟩⟩, ⟨rfl, rfl, rfl, by simp, fun k _ hk => setRow_other w g k _ (fun e => hk (by simp [Value.ownBlock, e]))⟩, fun k hk => .inl hk⟩
    ·simp only [List.size_toArray, List.length_append, List.length_take, List.length_drop, Array.length_toList]
     omega
    ·rw [htake, ← hlen]
     exact List.take_left
   ·have holds : ∀ j u, xs[j]? = some u → w.cell? ((⟨g, 0, none⟩ : Addr).add j) = some u := hown.cells (g := g) rfl
    have hr := run_append_grow (P := P) w t ot e i z ht hi hz ⟨g, 0, none⟩ n cap xs hown.1 holds ad m c news hl hc (by omega) (by omega) (growslice_fits (by omega) hbytes)
    have hgr := grown cap (by omega) (Value.ownBlock (.slice (some ⟨g, 0, none⟩) n cap))
    exact ⟨_, _, hr, hgr.1, hgr.2, fun k hk => .inr (by simp [Value.ownBlock] at hk; omega)⟩
theorem wpList_append_src {w : World} {ops : Array Oper} {rest : List Oper} {o : Oper} {a : Act} {Q : Exit → Act → World → Prop} (hgd : o.guard = none) (s x : Operand) (t : TypeId)
  (ho : o.op = .call { callee := .builtin .append, args := #[s, x], argTypes := #[t, t] })
  (base : Nat) (e : TypeId) (i : TypeInfo) (z : Value) (size bytes : Nat) (ht : P.underlying t = some (.slice e)) (hi : P.info? e = some i) (hz : i.zero = some z)
  (hsize : i.size = size) (hby : i.bytes = bytes) (hzs : z.cells.size = size) (hsz : 0 < size)
  (v : Value) (n : Nat) (xs : List Value) (hs : a.eval s = v) (hown : w.ownsRow base e size v n xs)
  (ao : Option Addr) (m c : Nat) (news : List Value) (hx : a.eval x = .slice ao m c) (hl : news.length = m * size)
  (hnews : m ≠ 0 → ∃ ad, ao = some ad ∧ ∀ j u, news[j]? = some u → w.cell? (ad.add j) = some u) (h1 : ∀ u ∈ news, u.oneCell' = true)
  (h63 : n + m ≤ maxLen) (hbytes : (n + m) * bytes ≤ 140737488355328) (hbase : base ≤ w.heap.size)
  (h : ∀ v' w', w'.ownsRow base e size v' (n + m) (xs ++ news) → w.grownBy w' v.ownBlock → (∀ k, v'.ownBlock = some k → v.ownBlock = some k ∨ w.heap.size ≤ k) → wpList P ops Q rest (a.put o.dst v') w') : wpList P ops Q (o :: rest) a w := by
 obtain ⟨v', w', hr, h2, h3, h4⟩ := run_append_src (P := P) t o.type base e i z size bytes ht hi hz hsize hby hzs hsz v n xs hown ao m c news hl hnews h1 h63 hbytes hbase
 refine wpList_plain hgd fun K hK => ?_
 unfold Oper.wp execOp
 simp only [ho, resolve, invoke, builtin, Sem.run_bind, Sem.run_pure, Result.andThen_ok, List.map_toArray, List.map_cons, List.map_nil, hs, hx, hr]
 exact hK _ _ (h v' w' h2 h3 h4)
end
theorem byteV_oneCell (l : List UInt8) : ∀ u ∈ l.map byteV, u.oneCell' = true := by
 intro u hu
 obtain ⟨_, _, rfl⟩ := List.mem_map.1 hu
 rfl
theorem wpList_append_bytes {P : Program} {w : World} {ops : Array Oper} {rest : List Oper} {o : Oper} {a : Act} {Q : Exit → Act → World → Prop} (t : TypeId) (base : Nat) (e : TypeId)
  (ht : P.underlying t = some (.slice e)) (hinfo : (P.info? e).map (fun i => (i.zero, i.size, i.bytes)) = some (some (.int .u8 0), 1, 1))
  (hgd : o.guard = none) (s x : Operand) (ho : o.op = .call { callee := .builtin .append, args := #[s, x], argTypes := #[t, t] })
  {v : Value} {l : List UInt8} (hown : OwnB w base e v l) {src : Value} {m : List UInt8} (hsrc : Bytes w src m) (hs : a.eval s = v) (hx : a.eval x = src)
  (hlen : l.length + m.length ≤ 140737488355328) (hbase : base ≤ w.heap.size)
  (h : ∀ v' w', OwnB w' base e v' (l ++ m) → w.grownBy w' v.ownBlock → (∀ k, v'.ownBlock = some k → v.ownBlock = some k ∨ w.heap.size ≤ k) → wpList P ops Q rest (a.put o.dst v') w') : wpList P ops Q (o :: rest) a w := by
 obtain ⟨i, hi, hz0, hz1, hz2⟩ := info_parts hinfo
 obtain ⟨ao, cap, rfl, _, _, hc⟩ := hsrc
 refine wpList_append_src (P := P) hgd s x t ho base e i _ 1 1 ht hi hz0 hz1 hz2 rfl (by decide) v l.length (l.map byteV) hs hown ao m.length cap (m.map byteV) hx (by simp) (fun hm => ?_) (byteV_oneCell m) (by unfold maxLen; omega) (by omega) hbase
  (fun v' w' h1 h2 h3 => h v' w' (by unfold OwnB; rw [List.length_append, List.map_append]; exact h1) h2 h3)
 obtain ⟨b, off, rfl, hcell⟩ := hc (by intro e; subst e; simp at hm)
 refine ⟨_, rfl, fun j u hu => ?_⟩
 have hj : j < m.length := by
  have := (List.getElem?_eq_some_iff.1 hu).1
  simpa using this
 rw [Addr.add_lit, hcell j hj]
 rw [List.getElem?_eq_getElem (by simpa using hj)] at hu
 simpa [byteV] using hu
theorem OwnB.stored {w : World} {base e g cap : Nat} {l : List UInt8} {n : Nat} (h : OwnB w base e (.slice (some ⟨g, 0, none⟩) n cap) l) (j : Nat) (c : UInt8) :
  OwnB (w.setCell ⟨g, j, none⟩ (byteV c)) base e (.slice (some ⟨g, 0, none⟩) n cap) (l.set j c) ∧ w.grownBy (w.setCell ⟨g, j, none⟩ (byteV c)) (some g) := by
 obtain ⟨a, cap', hv⟩ := h.len
 simp only [Value.slice.injEq] at hv
 obtain ⟨_, rfl, _⟩ := hv
 have := World.ownsRow.stored h j (byteV c)
 refine ⟨?_, this.2⟩
 unfold OwnB
 rw [List.length_set, List.map_set]
 exact this.1
theorem OwnB.cellAt {w : World} {base e g cap : Nat} {l : List UInt8} {n : Nat} (h : OwnB w base e (.slice (some ⟨g, 0, none⟩) n cap) l) (j : Nat) (hj : j < l.length) :
  w.cell? ⟨g, j, none⟩ = some (.int .u8 (l[j].toNat : Int)) := by
 obtain ⟨a, cap', hv⟩ := h.len
 simp only [Value.slice.injEq] at hv
 obtain ⟨_, rfl, _⟩ := hv
 rw [World.ownsRow.cellAt h j (by omega)]
 simp [byteV, hj]
theorem Bytes.fresh (w : World) (cs : List UInt8) (e : TypeId) (fr : Nat × Nat) (arr : Array Value) (n : Nat) (hn : n = cs.length) (h : arr = (cs.map byteV).toArray) (hl : cs.length ≤ 9223372036854775807) :
  Bytes (w.alloc (.cells arr e fr)) (.slice (some ⟨w.heap.size, 0, none⟩) n n) cs := by
 subst h
 subst hn
 refine ⟨_, _, rfl, Nat.le_refl _, hl, fun _ => ⟨_, _, rfl, fun j hj => ?_⟩⟩
 rw [Nat.zero_add, cell_of_row (w.alloc _) w.heap.size j _ e fr (heap_alloc_new w _)]
 simp [hj, byteV]
theorem size_data (s : ByteArray) : s.data.toList.length = s.size := by rw [Array.length_toList]; rfl
theorem run_string_of {P : Program} {w : World} (src dst e : TypeId) (hs : P.underlying src = some (.slice e)) (he : P.underlying e = some (.int .u8)) (hd : P.underlying dst = some .string) {v : Value} {l : List UInt8} (h : Bytes w v l) :
  (convert src dst v).run P w = .ok (.string ⟨l.toArray⟩) w := by
 obtain ⟨a, cap, rfl, h1, h2, h3⟩ := h
 by_cases hl : l = []
 ·subst hl
  cases a with
  | none => rw [run_convert_bytes_nil w src e hs he _ _ dst hd]; rfl
  | some x =>
   rw [run_convert_bytes_string w src dst e _ _ _ hs he hd]
   simp only [List.length_nil]
   rw [run_bytesToString w x 0 cap [] (by simp [loadCells, loadCellsFrom])]
   rfl
 ·obtain ⟨b, off, rfl, hc⟩ := h3 hl
  exact run_convert_bytes_back w src dst e _ cap l hs he hd (fun j hj => by rw [Addr.add_lit]; exact hc j hj)
end Go.Proofs.YtpchmdddkpocgaaGreatDoor
namespace Go.Proofs.YtpchmdddkpocgaaGreatDoor
set_option maxRecDepth 100000
set_option linter.unusedVariables false
set_option linter.unusedSimpArgs false
open Go.ChangeShapes Go.WideShapes Go.ChangeAt Go.RowKit
structure Keeps (F : List Nat) (w w' : World) : Prop where
 os : w'.os = w.os
 tape : w'.tape = w.tape
 output : w'.output = w.output
 size : w.heap.size ≤ w'.heap.size
 block : ∀ k, k < w.heap.size → k ∉ F → w'.heap[k]? = w.heap[k]?
theorem Keeps.refl (F : List Nat) (w : World) : Keeps F w w := ⟨rfl, rfl, rfl, Nat.le_refl _, fun _ _ _ => rfl⟩
theorem Keeps.trans {F G : List Nat} {a b c : World} (h : Keeps F a b) (k : Keeps G b c) (hG : ∀ x ∈ G, x ∈ F ∨ a.heap.size ≤ x) : Keeps F a c :=
 ⟨k.os.trans h.os, k.tape.trans h.tape, k.output.trans h.output, Nat.le_trans h.size k.size, fun i hi hF =>
  (k.block i (Nat.lt_of_lt_of_le hi h.size) (fun hx => (hG i hx).elim hF (by omega))).trans (h.block i hi hF)⟩
theorem Keeps.mono {F G : List Nat} {w w' : World} (h : Keeps F w w') (hs : ∀ x ∈ F, x < w.heap.size → x ∈ G) : Keeps G w w' :=
 ⟨h.os, h.tape, h.output, h.size, fun k hk hG => h.block k hk fun hF => hG (hs k hF hk)⟩
theorem Keeps.of_below {F : List Nat} {w w' : World} (h : Below w.heap.size w w') : Keeps F w w' := ⟨h.os, h.tape, h.output, h.size, fun k hk _ => h.block k hk⟩
theorem Keeps.of_grown {w w' : World} {row : Option Nat} (h : w.grownBy w' row) : Keeps row.toList w w' :=
 ⟨h.os, h.tape, h.output, h.size, fun k hk hn => h.block k hk fun e => hn (by rw [← e]; simp)⟩
theorem Keeps.below {F : List Nat} {B : Nat} {w w' : World} (h : Keeps F w w') (hF : ∀ x ∈ F, B ≤ x) (hB : B ≤ w.heap.size) : Below B w w' :=
 ⟨h.os, h.tape, h.output, h.size, fun k hk => h.block k (Nat.lt_of_lt_of_le hk hB) fun hx => absurd (hF k hx) (by omega)⟩
theorem Keeps.alloc {F : List Nat} {a w : World} (h : Keeps F a w) (o : Obj) : Keeps F a (w.alloc o) :=
 ⟨h.os, h.tape, h.output, Nat.le_trans h.size (by show w.heap.size ≤ (w.heap.push o).size; simp), fun k hk hF => (Below.heap_alloc w o k (Nat.lt_of_lt_of_le hk h.size)).trans (h.block k hk hF)⟩
theorem Keeps.setCell {F : List Nat} {a w : World} (h : Keeps F a w) {p : Addr} (hp : p.block ∈ F ∨ a.heap.size ≤ p.block) (u : Value) : Keeps F a (w.setCell p u) :=
 ⟨h.os, h.tape, h.output, by simpa [World.setCell] using h.size, fun k hk hF => (Below.heap_setCell w p u k (by rintro rfl; exact hp.elim hF (by omega))).trans (h.block k hk hF)⟩
theorem Keeps.drew {F : List Nat} {a w : World} (h : Keeps F a w) : Keeps F a w.drew := ⟨h.os, h.tape, h.output, h.size, h.block⟩
theorem Keeps.cell {F : List Nat} {w w' : World} (h : Keeps F w w') {p : Addr} (hp : p.block < w.heap.size) (hF : p.block ∉ F) : w'.cell? p = w.cell? p := World.cell?_of_block (w := w) (h.block p.block hp hF)
theorem Keeps.frozen {F : List Nat} {w w' : World} (h : Keeps F w w') {p : Addr} (hp : p.block < w.heap.size) (hF : p.block ∉ F) : w'.frozen? p = w.frozen? p := World.frozen?_of_block (w := w) (h.block p.block hp hF)
def Row (w : World) (e : TypeId) (v : Value) (xs : List Value) : Prop := w.ownsRow 0 e 1 v xs.length xs
theorem Row.keeps {w w' : World} {e : TypeId} {v : Value} {xs : List Value} {F : List Nat} (h : Row w e v xs) (hk : Keeps F w w') (hF : ∀ g, v.ownBlock = some g → g ∉ F) : Row w' e v xs := by
 refine ⟨h.1, ?_⟩
 rcases h.2 with h2 | ⟨g, cap, cur, hv, hg, hh, r⟩
 ·exact .inl h2
 ·refine .inr ⟨g, cap, cur, hv, hg, ?_, r⟩
  rw [hk.block g (Array.getElem?_eq_some_iff.1 hh).1 (hF g (by rw [hv]; rfl))]
  exact hh
theorem Row.lt {w : World} {e : TypeId} {v : Value} {xs : List Value} (h : Row w e v xs) : ∀ g, v.ownBlock = some g → g < w.heap.size := by
 intro g hg
 rcases h.2 with ⟨rfl, _⟩ | ⟨g', cap, cur, rfl, _, hh, _⟩
 ·cases hg
 ·obtain rfl : g' = g := by simpa [Value.ownBlock] using hg
  exact (Array.getElem?_eq_some_iff.1 hh).1
theorem Row.reads {w : World} {e : TypeId} {v : Value} {xs : List Value} (h : Row w e v xs) : Reads w v xs := Reads.of_owns (n := xs.length) h
theorem Row.nil (w : World) (e : TypeId) : Row w e (.slice none 0 0) [] := World.ownsRow_nil w 0 e 1
theorem Row.slice {w : World} {e : TypeId} {v : Value} {xs : List Value} (h : Row w e v xs) : ∃ a n cap, v = .slice a n cap := by
 obtain ⟨a, cap, hv, _⟩ := h.reads
 exact ⟨a, _, cap, hv⟩
theorem Row.shape {w : World} {e : TypeId} {v : Value} {xs : List Value} (h : Row w e v xs) : ∃ a cap, v = .slice a xs.length cap := by
 obtain ⟨a, cap, hv, _⟩ := h.reads
 exact ⟨a, cap, hv⟩
section
variable {P : Program}
theorem wpList_append_row {w : World} {ops : Array Oper} {rest : List Oper} {o : Oper} {a : Act} {Q : Exit → Act → World → Prop} (t : TypeId) (e : TypeId) (z : Value) (bytes : Nat)
  (ht : P.underlying t = some (.slice e)) (hinfo : (P.info? e).map (fun i => (i.zero, i.size, i.bytes)) = some (some z, 1, bytes)) (hzs : z.cells.size = 1)
  (hgd : o.guard = none) (s x : Operand) (ho : o.op = .call { callee := .builtin .append, args := #[s, x], argTypes := #[t, t] })
  {v : Value} {l : List Value} (hown : Row w e v l) {src : Value} {m : List Value} (hsrc : Reads w src m) (h1 : ∀ u ∈ m, u.oneCell' = true) (hs : a.eval s = v) (hx : a.eval x = src)
  (h63 : l.length + m.length ≤ maxLen) (hlen : (l.length + m.length) * bytes ≤ 140737488355328)
  (h : ∀ v' w', Row w' e v' (l ++ m) → w.grownBy w' v.ownBlock → (∀ k, v'.ownBlock = some k → v.ownBlock = some k ∨ w.heap.size ≤ k) → wpList P ops Q rest (a.put o.dst v') w') : wpList P ops Q (o :: rest) a w := by
 obtain ⟨i, hi, hi'⟩ := Option.map_eq_some_iff.1 hinfo
 simp only [Prod.mk.injEq] at hi'
 obtain ⟨hz0, hz1, hz2⟩ := hi'
 obtain ⟨ao, cap, rfl, _, _, hc⟩ := hsrc
 refine wpList_append_src (P := P) hgd s x t ho 0 e i z 1 bytes ht hi hz0 hz1 hz2 hzs (by decide) v l.length l hs hown ao m.length cap m hx (by simp) (fun hm => ?_) h1 h63 hlen (Nat.zero_le _)
  (fun v' w' h1 h2 h3 => h v' w' (by unfold Row; rw [List.length_append]; exact h1) h2 h3)
 obtain ⟨b, off, rfl, hcc⟩ := hc (by intro e; subst e; exact hm rfl)
 refine ⟨_, rfl, fun j u hj => ?_⟩
 obtain ⟨hj', rfl⟩ := List.getElem?_eq_some_iff.1 hj
 rw [Addr.add_lit]
 exact hcc j hj'
end
theorem Reads.fresh (w : World) (xs : List Value) (e : TypeId) (fr : Nat × Nat) (arr : Array Value) (n : Nat) (hn : n = xs.length) (h : arr = xs.toArray) (hl : xs.length ≤ 9223372036854775807) :
  Reads (w.alloc (.cells arr e fr)) (.slice (some ⟨w.heap.size, 0, none⟩) n n) xs := by
 subst h
 subst hn
 refine ⟨_, _, rfl, Nat.le_refl _, hl, fun _ => ⟨_, _, rfl, fun j hj => ?_⟩⟩
 rw [Nat.zero_add, cell_of_row (w.alloc _) w.heap.size j _ e fr (heap_alloc_new w _)]
 simp [hj]
end Go.Proofs.YtpchmdddkpocgaaGreatDoor
namespace Go.Proofs.YtpchmdddkpocgaaGreatDoor
set_option maxRecDepth 100000
set_option linter.unusedVariables false
set_option linter.unusedSimpArgs false
open Go.ChangeShapes Go.WideShapes Go.ChangeAt Go.RowKit Go.Maps
def rdN (T : Nat) (v : Value) : Option (DataW Unit × List MemPlace) :=
 match v with
 | .agg cs => if h : cs.size = 1 then (match cs[0] with | .iface t (.int .i64 n) => if t = T then some (.lit (.int .i64 n), []) else none | _ => none) else none
 | _ => none
theorem rdN_mk (T : Nat) (n : Int) : rdN T (.agg #[.iface T (.int .i64 n)]) = some (.lit (.int .i64 n), []) := by simp [rdN]
theorem rdN_inv {T : Nat} {v : Value} {y : DataW Unit × List MemPlace} (h : rdN T v = some y) : ∃ n : Int, v = .agg #[.iface T (.int .i64 n)] ∧ y = (.lit (.int .i64 n), []) := by
 unfold rdN at h
 split at h
 ·rename_i cs
  split at h
  ·rename_i h1
   obtain ⟨l⟩ := cs
   match l, h1 with
   | [x], _ =>
    simp only [List.getElem_toArray, List.getElem_cons_zero] at h
    split at h
    ·split at h
     ·rename_i t n hx ht
      subst ht
      cases h
      exact ⟨n, rfl, rfl⟩
     ·cases h
    ·cases h
  ·cases h
 ·cases h
theorem strK : Keyed Tryz.prog 9 := string_keyed Tryz.underlying9
theorem keyOf_string_inv {key : Value} {kl : Lit} (h : keyOf Tryz.prog 9 key = some kl) : ∃ s : ByteArray, key = .string s ∧ kl = .string s.data.toList ∧ WideAt.IsKeyLit kl := by
 have hk := strK.key h
 cases key <;> simp [keyOf, Tryz.underlying9, mapKey] at h
 obtain ⟨_, rfl⟩ := h
 exact ⟨_, rfl, rfl, hk⟩
abbrev OwnN (w : World) (b n : Nat) (D : DataW Unit) : Prop := w.ownsMap Tryz.prog 9 (rdN 181) b n D
set_option maxHeartbeats 1000000 in
theorem maps_copy (b b2 n : Nat) (D0 : DataW Unit) (w : World) (hown : OwnN w b n D0) (hout : OwnN w b2 0 (.map [])) (hne : b ≠ b2) (hmax : Maps.size D0 ≤ 1000) :
  Calls Tryz.prog 169 #[.map (some b2), .map (some b)] w fun e w' => e = .returned (.tuple #[]) ∧ OwnN w' b2 (Maps.size D0) D0 ∧ OwnN w' b n D0 ∧ Keeps [b2] w w' := by
 have hbl := hown.lt
 have hbl2 := hout.lt
 go_enter Tryz.func169, Tryz.ntmps169
 go_wp2_with (first
  | (at_range; refine wpList_range_own _ rfl _ 126 rfl 9 125 strK Tryz.underlying126 _ b n _ rfl hown ?_; intro w0 hrg0 hg0 hs0)
  | go_in)
 go_frame
 go_loopw [4, 5] (fun _ _ wr => ∃ (left : Lit → Bool) (cnt : Nat) (Dout : DataW Unit), wr.ranges Tryz.prog 9 (rdN 181) b w.heap.size n D0 left cnt ∧ cnt ≤ Maps.size D0 ∧
   OwnN wr b2 (Maps.size D0 - cnt) Dout ∧ Agree Dout D0 left ∧ Keeps [b2] w wr)
  (fun _ _ wr => wr.rangeLeft b w.heap.size)
 case atStart =>
  exact ⟨_, _, .map [], hrg0, Nat.le_refl _, (hout.kept hg0 (by simp)).mono (Nat.zero_le _), agree_start D0, (Keeps.of_grown hg0).mono (by simp)⟩
 case round =>
  obtain ⟨left, cnt, Dout, hrg, hcs, hout, hA, hkp⟩ := hrel
  go_wp2_with (first
   | (at_next; refine wpList_next_ranges _ rfl _ rfl 9 strK (rdN 181) Value.string (fun c : Int => Value.agg #[.iface 181 (.int .i64 c)]) (fun key kl hk => by obtain ⟨s, e, _⟩ := keyOf_string_inv hk; exact ⟨s, e⟩) (fun v y hv => by obtain ⟨c, e, _⟩ := rdN_inv hv; exact ⟨c, e⟩) b w.heap.size n _ _ _ rfl hrg ?_ ?_)
   | go_in)
  ·intro hc0 hl0
   go_wp2
   go_end0
   subst hc0
   have e := agree_end hA hl0 (hout.canon strK) (hown.canon strK)
   subst e
   exact ⟨rfl, by simpa using hout, hrg.owns, hkp⟩
  ·intro x c kl yd yp w1 cnt1 hkx hlx hRv hat hrg1 hlt hg1 hs1 hen
   obtain ⟨_, _, _, hkl⟩ := keyOf_string_inv hkx
   obtain ⟨rfl, rfl⟩ : DataW.lit (.int .i64 c) = yd ∧ [] = yp := by
    rw [rdN_mk] at hRv
    simpa using hRv
   have hlt2 := hout.lt
   have hltr := hrg.lt
   have hsz := hkp.size
   have hout1 := hout.kept hg1 (by simp; omega)
   have hk1 : Keeps [b2] w w1 := hkp.trans (Keeps.of_grown hg1) (fun x hx => .inr (by simp at hx; omega))
   go_wp2_with (first
    | (at_mapUpdate; refine wpList_mapUpdate_own _ rfl _ _ _ 126 rfl 9 125 strK Tryz.underlying126 _ b2 _ _ rfl (hout1.alloc _) (by unfold maxLen; omega) _ _ _ rfl rfl hkx _ [] (rdN_mk _ c) ?_; intro w2 hout2 hg2; go_frame)
    | go_in)
   have hrg2 := (hrg1.alloc _).kept hg2 (fun e => by have := Option.some.inj e; omega) (fun e => by have := Option.some.inj e; omega)
   go_roundw
   case rel =>
    exact ⟨_, cnt1, _, hrg2, by omega, hout2.mono (by omega), agree_step hA hout.isMap hkl hat,
     (hk1.alloc _).trans (Keeps.of_grown hg2) (fun x hx => .inl hx)⟩
   case measure => rw [hrg2.left_eq, hrg.left_eq]; exact hlt
end Go.Proofs.YtpchmdddkpocgaaGreatDoor
