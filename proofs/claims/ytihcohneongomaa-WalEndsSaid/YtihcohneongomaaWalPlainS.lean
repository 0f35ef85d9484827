/-
  No claim by itself: snapshots as bytes: a head and parts; how they are read. No condition.
-/
import Derived.Test.YtihcohneongomaaWal
namespace Go.Proofs.Ytihcohneongomaa
open Go.ChangeShapes Go.WideShapes Go.ChangeAt Go.RowKit

def zeroS : Snp := ⟨0, 0, .empty, .empty⟩
def headS (s : Snp) : List UInt8 := putN s.i ++ putN s.t ++ putT s.c.data.toList ++ putN (s.d.size : Nat)
/-- The parts of a text. -/
def partsF : Nat → List UInt8 → List UInt8
  | 0, _ => []
  | f + 1, d => if d.length = 0 then [] else sealP 4 (d.take 3000) ++ partsF f (d.drop 3000)
theorem partsF_stable : ∀ (f g : Nat) (d : List UInt8), d.length < f → d.length < g → partsF f d = partsF g d := by
  intro f
  induction f with
  | zero => intro g l h; omega
  | succ f ih =>
    intro g d hf hg
    cases g with
    | zero => omega
    | succ g =>
      rw [partsF, partsF]
      by_cases h0 : d.length = 0
      · rw [if_pos h0, if_pos h0]
      · rw [if_neg h0, if_neg h0, ih g (d.drop 3000) (by rw [List.length_drop]; omega) (by rw [List.length_drop]; omega)]
def partsP (d : List UInt8) : List UInt8 := partsF (d.length + 1) d
theorem partsP_nil : partsP [] = [] := rfl
theorem partsP_cons {d : List UInt8} (h : d.length ≠ 0) : partsP d = sealP 4 (d.take 3000) ++ partsP (d.drop 3000) := by
  unfold partsP
  rw [partsF, if_neg h, partsF_stable d.length ((d.drop 3000).length + 1) (d.drop 3000) (by rw [List.length_drop]; omega) (Nat.lt_succ_self _)]
/-- A snapshot's bytes; none, if it may not be. -/
def putS (s : Snp) : List UInt8 := if mayS s then sealP 3 (headS s) ++ partsP s.d.data.toList else []

/-- What the head says: the snapshot but for its data, how long these are, what is left. -/
def snapP (b : List UInt8) : Snp × Int × List UInt8 × Bool :=
  let x := rdN (b, false)
  let y := rdN x.2
  let c := rdT y.2
  let n := rdN c.2
  (⟨x.1, y.1, ⟨c.1.toArray⟩, .empty⟩, n.1, n.2)
/-- The data, part by part: what, how many bytes these took, the error. -/
def collF : Nat → List UInt8 → Nat → List UInt8 × Nat × Nat
  | 0, _, _ => ([], 0, 3)
  | f + 1, l, left =>
    if left = 0 then ([], 0, 0)
    else if (openP l).2.2.2 ≠ 0 then ([], 0, (openP l).2.2.2)
    else if (openP l).1 ≠ 4 ∨ (openP l).2.1.length ≠ min left 3000 then ([], 0, 3)
    else if (collF f (l.drop (openP l).2.2.1) (left - min left 3000)).2.2 ≠ 0 then ([], 0, (collF f (l.drop (openP l).2.2.1) (left - min left 3000)).2.2)
    else ((openP l).2.1 ++ (collF f (l.drop (openP l).2.2.1) (left - min left 3000)).1, (openP l).2.2.1 + (collF f (l.drop (openP l).2.2.1) (left - min left 3000)).2.1, 0)
theorem collF_stable : ∀ (f g : Nat) (l : List UInt8) (n : Nat), n < f → n < g → collF f l n = collF g l n := by
  intro f
  induction f with
  | zero => intro g l n h; omega
  | succ f ih =>
    intro g l n hf hg
    cases g with
    | zero => omega
    | succ g =>
      rw [collF, collF]
      by_cases h0 : n = 0
      · rw [if_pos h0, if_pos h0]
      · rw [if_neg h0, if_neg h0]
        rw [ih g (l.drop (openP l).2.2.1) (n - min n 3000) (by omega) (by omega)]
def collP (l : List UInt8) (n : Nat) : List UInt8 × Nat × Nat := collF (n + 1) l n
def getS (l : List UInt8) : Snp × Nat × Nat :=
  if (openP l).2.2.2 ≠ 0 then (zeroS, 0, (openP l).2.2.2)
  else if (openP l).1 = 3 ∧ rdD (snapP (openP l).2.1).2.2 = true ∧ mayS (snapP (openP l).2.1).1 = true ∧ inN 0 200000 [(snapP (openP l).2.1).2.1] = true then
    if (collP (l.drop (openP l).2.2.1) (snapP (openP l).2.1).2.1.toNat).2.2 ≠ 0 then (zeroS, 0, (collP (l.drop (openP l).2.2.1) (snapP (openP l).2.1).2.1.toNat).2.2)
    else ({ (snapP (openP l).2.1).1 with d := ⟨(collP (l.drop (openP l).2.2.1) (snapP (openP l).2.1).2.1.toNat).1.toArray⟩ }, (openP l).2.2.1 + (collP (l.drop (openP l).2.2.1) (snapP (openP l).2.1).2.1.toNat).2.1, 0)
  else (zeroS, 0, 3)

theorem headS_len {s : Snp} (h : mayS s = true) : (headS s).length ≤ 90 := by
  obtain ⟨h1, h2, h3, h4, h5, h6⟩ := mayS_iff.1 h
  have hp := fun n => (putN_len n).2
  have a1 := hp s.i
  have a2 := hp s.t
  have a3 := hp (s.d.size : Nat)
  have a4 := hp (s.c.data.toList.length : Nat)
  have a5 : s.c.data.toList.length = s.c.size := size_data _
  unfold headS putT
  simp only [List.length_append]
  omega
theorem snapP_head {s : Snp} (h : mayS s = true) : snapP (headS s) = (⟨s.i, s.t, s.c, .empty⟩, (s.d.size : Int), [], false) := by
  obtain ⟨h1, h2, h3, h4, h5, h6⟩ := mayS_iff.1 h
  have a5 : s.c.data.toList.length = s.c.size := size_data _
  have h7 := rdN_put (s.d.size : Nat) [] (by omega) (by omega)
  rw [List.append_nil] at h7
  unfold snapP headS
  rw [List.append_assoc, List.append_assoc, rdN_put s.i _ (by omega) (by omega)]
  simp only [rdN_put s.t _ (by omega) (by omega), rdT_put s.c.data.toList _ (by omega : s.c.data.toList.length ≤ 1048576), h7, ba_data]

theorem coll_parts : ∀ (f : Nat) (d rest : List UInt8), d.length < f → collP (partsP d ++ rest) d.length = (d, (partsP d).length, 0) := by
  intro f
  induction f with
  | zero => intro d rest h; omega
  | succ f ih =>
    intro d rest hf
    by_cases h0 : d.length = 0
    · have : d = [] := List.eq_nil_of_length_eq_zero h0
      subst this
      rfl
    · have ht : (d.take 3000).length = min d.length 3000 := by rw [List.length_take]; omega
      have hd : (d.drop 3000).length = d.length - min d.length 3000 := by rw [List.length_drop]; omega
      have hi := ih (d.drop 3000) rest (by omega)
      unfold collP at hi
      rw [hd] at hi
      unfold collP
      rw [partsP_cons h0, List.append_assoc, collF, if_neg h0, open_seal _ (by omega) (by omega) (by omega)]
      simp only [ne_eq, not_true_eq_false, if_false, false_or]
      rw [if_neg (by omega)]
      rw [List.drop_left, collF_stable d.length (d.length - min d.length 3000 + 1) _ _ (by omega) (Nat.lt_succ_self _), hi]
      simp only [not_true_eq_false, if_false, List.take_append_drop, List.length_append]
/-- A snapshot's bytes are read. -/
theorem getS_put {s : Snp} (rest : List UInt8) (h : mayS s = true) : getS (putS s ++ rest) = (s, (putS s).length, 0) := by
  have hl := headS_len h
  have hp := snapP_head h
  obtain ⟨h1, h2, h3, h4, h5, h6⟩ := mayS_iff.1 h
  have hd : s.d.data.toList.length = s.d.size := size_data _
  unfold putS
  rw [if_pos h]
  unfold getS
  rw [List.append_assoc, open_seal _ (by omega) (by omega) (by omega)]
  simp only [ne_eq, not_true_eq_false, if_false, true_and]
  have hm : mayS ⟨s.i, s.t, s.c, .empty⟩ = true := mayS_iff.2 ⟨h1, h2, h3, h4, h5, by simp⟩
  rw [hp]
  simp only [rdD, hm, true_and]
  rw [if_pos ⟨by simp, inN1.2 ⟨by omega, by omega⟩⟩, Int.toNat_natCast, List.drop_left, ← hd, coll_parts _ _ rest (Nat.lt_succ_self _)]
  simp only [not_true_eq_false, if_false, ba_data, List.length_append]

/-- What comes of a snapshot's parts. -/
def finS (s : Snp) (k : Nat) (acc : List UInt8) (t : List UInt8 × Nat × Nat) : Snp × Nat × Nat :=
  if t.2.2 ≠ 0 then (zeroS, 0, t.2.2) else ({ s with d := ⟨(acc ++ t.1).toArray⟩ }, k + t.2.1, 0)
theorem getS_open {l : List UInt8} {k : Int} {body : List UInt8} {n err : Nat} (h : openP l = (k, body, n, err)) :
    (err ≠ 0 → getS l = (zeroS, 0, err)) ∧
    (err = 0 → (k = 3 ∧ rdD (snapP body).2.2 = true ∧ mayS (snapP body).1 = true ∧ inN 0 200000 [(snapP body).2.1] = true) → getS l = finS (snapP body).1 n [] (collP (l.drop n) (snapP body).2.1.toNat)) ∧
    (err = 0 → ¬ (k = 3 ∧ rdD (snapP body).2.2 = true ∧ mayS (snapP body).1 = true ∧ inN 0 200000 [(snapP body).2.1] = true) → getS l = (zeroS, 0, 3)) := by
  unfold getS
  rw [h]
  refine ⟨fun h => by rw [if_pos h], fun h h1 => by rw [if_neg (by simpa using h), if_pos h1]; rfl, fun h h1 => by rw [if_neg (by simpa using h), if_neg h1]⟩
theorem coll_zero (l : List UInt8) : collP l 0 = ([], 0, 0) := rfl
theorem coll_err {l : List UInt8} {n : Nat} (hn : n ≠ 0) (h : (openP l).2.2.2 ≠ 0) : collP l n = ([], 0, (openP l).2.2.2) := by
  unfold collP
  rw [collF, if_neg hn, if_pos h]
theorem coll_bad {l : List UInt8} {n : Nat} (hn : n ≠ 0) (h : (openP l).2.2.2 = 0) (h2 : (openP l).1 ≠ 4 ∨ (openP l).2.1.length ≠ min n 3000) : collP l n = ([], 0, 3) := by
  unfold collP
  rw [collF, if_neg hn, if_neg (by simpa using h), if_pos h2]
theorem finS_step {s : Snp} {k : Nat} {acc l : List UInt8} {n : Nat} (hn : n ≠ 0) (h : (openP l).2.2.2 = 0) (h2 : (openP l).1 = 4) (h3 : (openP l).2.1.length = min n 3000) :
    finS s k acc (collP l n) = finS s (k + (openP l).2.2.1) (acc ++ (openP l).2.1) (collP (l.drop (openP l).2.2.1) (n - min n 3000)) := by
  unfold collP
  rw [collF, if_neg hn, if_neg (by simpa using h), if_neg (by simp [h2, h3]), collF_stable n (n - min n 3000 + 1) _ _ (by omega) (Nat.lt_succ_self _)]
  generalize collF (n - min n 3000 + 1) (l.drop (openP l).2.2.1) (n - min n 3000) = t
  unfold finS
  by_cases ht : t.2.2 ≠ 0
  · rw [if_pos ht, if_pos ht]
    simp only [ht, ne_eq, not_false_eq_true, if_true]
  · rw [if_neg ht, if_neg ht]
    simp [Nat.add_assoc]
end Go.Proofs.Ytihcohneongomaa
