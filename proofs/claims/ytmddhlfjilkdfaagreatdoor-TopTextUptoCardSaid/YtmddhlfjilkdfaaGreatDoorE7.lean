/-
  No claim by itself: plain facts on frames, with no program in sight. | one law for a region that draws its order, whose operations read, make memory or call what makes memory (and turn nothing that was there): walked once, in the text's order. Each call's result is known by a predicate that later growth keeps. | frames: Seal and what the document says of it. | num.PutText, frame.Seal with symbols are sound. | runes.Valid, runes.Key with symbols are sound. | runes.Key with symbols is sound. | what a call turns, by the blocks that it may turn; rows whose cells are one value each; a struct's cells in a block of their own. | from the reading of an argument to the words of the walks: bytes, integers. | who belongs: slices.Index, slices.Contains, conf.Has, conf.May, and what the document says of them. | slices.Clone of integers: a row of its own with the same integers. | conf.Decode of what is no configuration. | conf.Decode with symbols is sound. | behind an append what stood in front stands there still. | num.Put: what stood in front of the bytes that it writes to stands there still. Conditions: what is written to is the call's own. No condition.
-/
import Derived.Test.YtmddhlfjilkdfaaGreatDoorE6
import Derived.Orders
import Derived.Still
import Derived.Below
import Derived.WalkKit
import Derived.Tactics
import Derived.Tactics2
import Derived.Deep.DeepCutAuto
import Derived.Deep.Cut
import Derived.Test.YtmddhlfjilkdfaaGreatDoorRows
import Derived.Shelf.Unicode.ValidAny
import Derived.Lib.LaidU8T
import Derived.KernelRfl
import Derived.WalkMore
import Derived.Laws.RangeAny
import Derived.Lib.OthersKept
import Derived.Lib.TrimUEq
import Derived.ProofKit
import Derived.OpenShut
import Derived.ShutString
import Derived.ChangeOld
import Derived.JoinedCond
import Derived.Deep.QuietTactic
import Derived.WalkSmall
import Derived.Lib.BufferMore
namespace Go.Proofs.YtmddhlfjilkdfaaGreatDoor
set_option linter.unusedVariables false
set_option linter.unusedSimpArgs false

theorem zig_zag (u : Nat) : zig (zag u) = u := by
  unfold zig zag
  by_cases h : u % 2 = 1
  · rw [if_pos h, if_pos (by omega)]; omega
  · rw [if_neg h, if_neg (by omega)]; omega

theorem ofNat_toNat' (c : UInt8) : UInt8.ofNat c.toNat = c := by simp

/-- A number that is told has just the bytes that are written for it. -/
theorem getF_canon (l : List UInt8) : ∀ (i u k : Nat) (x : Int), i ≤ 9 → getF i u l = (x, k, 0) →
    ∃ q, x = zag (u + q * 128 ^ i) ∧ l.take (k - i) = leb (9 - i) q ∧ i < k ∧ (0 < i → 0 < q) := by
  induction l with
  | nil => intro i u k x _ h; simp [getF] at h
  | cons c l ih =>
    intro i u k x hi h
    have hc := c.toNat_lt
    rw [getF] at h
    by_cases h1 : i = 9 ∧ 1 < c.toNat
    · rw [if_pos h1] at h; simp at h
    · rw [if_neg h1] at h
      by_cases h2 : 127 < c.toNat
      · rw [if_pos h2] at h
        obtain ⟨q, hx, ht, hk, h0⟩ := ih (i + 1) _ k x (by omega) h
        have hq := h0 (by omega)
        refine ⟨c.toNat % 128 + 128 * q, ?_, ?_, by omega, fun _ => by omega⟩
        · rw [hx]
          congr 1
          rw [Nat.pow_succ, Nat.add_mul, Nat.add_assoc]
          congr 2
          rw [Nat.mul_comm 128 q, Nat.mul_assoc, Nat.mul_comm 128]
        · rw [show k - i = (k - (i + 1)) + 1 by omega, List.take_succ_cons, ht, show 9 - i = (9 - (i + 1)) + 1 by omega, leb, if_neg (by omega)]
          rw [show (c.toNat % 128 + 128 * q) % 128 + 128 = c.toNat by omega, show (c.toNat % 128 + 128 * q) / 128 = q by omega, ofNat_toNat']
      · rw [if_neg h2] at h
        by_cases h3 : 0 < i ∧ c.toNat = 0
        · rw [if_pos h3] at h; simp at h
        · rw [if_neg h3] at h
          simp only [Prod.mk.injEq, and_true] at h
          obtain ⟨rfl, rfl⟩ := h
          refine ⟨c.toNat, by rw [Nat.mod_eq_of_lt (by omega)], ?_, by omega, fun h => by omega⟩
          rw [show i + 1 - i = 0 + 1 by omega, List.take_succ_cons, List.take_zero]
          by_cases h9 : i = 9
          · subst h9
            simp [leb]
          · rw [show 9 - i = (9 - (i + 1)) + 1 by omega, leb, if_pos (by omega), ofNat_toNat']
theorem getN_canon {l : List UInt8} {k : Nat} {x : Int} (h : getN l = (x, k, 0)) : l.take k = putN x := by
  obtain ⟨q, hx, ht, _, _⟩ := getF_canon l 0 0 k x (by omega) h
  rw [Nat.sub_zero, Nat.sub_zero] at ht
  rw [ht, hx]
  unfold putN
  rw [zig_zag]
  simp

theorem fourN_len (u : Nat) : (fourN u).length = 4 := rfl

/-- A frame. -/
def headP (k : Int) (n : Nat) : List UInt8 := UInt8.ofNat k.toNat :: putN n
def sealP (k : Int) (b : List UInt8) : List UInt8 :=
  if k < 1 ∨ 255 < k ∨ 4000 < b.length then [] else headP k b.length ++ fourN (crcSum (headP k b.length ++ b)) ++ b

/-- What bytes begin with: kind, body, how many bytes, the error. -/
def openP (l : List UInt8) : Int × List UInt8 × Nat × Nat :=
  match l with
  | [] => (0, [], 0, 2)
  | c :: t =>
    if c = 0 then (0, [], 0, 3)
    else if (getN t).2.2 = 2 ∧ t.length ≤ 1 then (0, [], 0, 2)
    else if (getN t).2.2 ≠ 0 ∨ (getN t).1 < 0 ∨ 4000 < (getN t).1 then (0, [], 0, 3)
    else if t.length < (getN t).2.1 + 4 + (getN t).1.toNat then (0, [], 0, 2)
    else if fourN (crcSum (c :: t.take (getN t).2.1 ++ (t.drop ((getN t).2.1 + 4)).take (getN t).1.toNat)) = (t.drop (getN t).2.1).take 4 then
      ((c.toNat : Int), (t.drop ((getN t).2.1 + 4)).take (getN t).1.toNat, 1 + (getN t).2.1 + 4 + (getN t).1.toNat, 0)
    else (0, [], 0, 3)

theorem sealP_ok {k : Int} {b : List UInt8} (h0 : 1 ≤ k) (h1 : k ≤ 255) (h2 : b.length ≤ 4000) : sealP k b = headP k b.length ++ fourN (crcSum (headP k b.length ++ b)) ++ b := by
  unfold sealP
  rw [if_neg (by omega)]
theorem sealP_no {k : Int} {b : List UInt8} (h : k < 1 ∨ 255 < k ∨ 4000 < b.length) : sealP k b = [] := by
  unfold sealP
  rw [if_pos h]
theorem sealP_len {k : Int} {b : List UInt8} (h0 : 1 ≤ k) (h1 : k ≤ 255) (h2 : b.length ≤ 4000) : (sealP k b).length = 1 + (putN b.length).length + 4 + b.length := by
  rw [sealP_ok h0 h1 h2]
  simp only [headP, List.length_append, List.length_cons, fourN_len]
  omega
theorem sealP_nil {k : Int} {b : List UInt8} : sealP k b = [] ↔ (k < 1 ∨ 255 < k ∨ 4000 < b.length) := by
  constructor
  · intro h
    by_cases hc : k < 1 ∨ 255 < k ∨ 4000 < b.length
    · exact hc
    · exfalso
      have := sealP_len (k := k) (b := b) (by omega) (by omega) (by omega)
      rw [h] at this
      simp at this
      omega
  · exact sealP_no

theorem kind_ne {k : Int} (h0 : 1 ≤ k) (h1 : k ≤ 255) : UInt8.ofNat k.toNat ≠ 0 ∧ ((UInt8.ofNat k.toNat).toNat : Int) = k := by
  have ht : (UInt8.ofNat k.toNat).toNat = k.toNat := toNat_ofNat (by omega)
  refine ⟨fun h => ?_, by rw [ht]; omega⟩
  rw [h] at ht
  simp at ht
  omega

theorem open_seal {k : Int} {b : List UInt8} (rest : List UInt8) (h0 : 1 ≤ k) (h1 : k ≤ 255) (h2 : b.length ≤ 4000) : openP (sealP k b ++ rest) = (k, b, (sealP k b).length, 0) := by
  rw [sealP_len h0 h1 h2, sealP_ok h0 h1 h2]
  obtain ⟨hc, hk⟩ := kind_ne h0 h1
  unfold headP
  simp only [List.cons_append, List.append_assoc]
  generalize hS : crcSum (UInt8.ofNat k.toNat :: (putN b.length ++ b)) = S
  have hg := getN_putN b.length (fourN S ++ (b ++ rest)) (by omega) (by omega)
  unfold openP
  simp only [hg]
  have hf : (fourN S).length = 4 := rfl
  rw [if_neg hc, if_neg (by omega), if_neg (by omega), if_neg (by simp only [List.length_append]; omega)]
  have e1 : (putN b.length ++ (fourN S ++ (b ++ rest))).drop ((putN b.length).length + 4) = b ++ rest := by
    rw [← List.append_assoc, List.drop_left' (by rw [List.length_append, hf])]
  have e2 : (putN b.length ++ (fourN S ++ (b ++ rest))).take (putN b.length).length = putN b.length := List.take_left
  have e3 : ((putN b.length ++ (fourN S ++ (b ++ rest))).drop (putN b.length).length).take 4 = fourN S := by
    rw [List.drop_left, List.take_left' hf]
  have e4 : (b ++ rest).take ((b.length : Int)).toNat = b := by rw [Int.toNat_natCast]; exact List.take_left
  rw [e1, e2, e3, e4, List.cons_append, hS, if_pos rfl, hk]
  simp only [Prod.mk.injEq, true_and, and_true]
  omega

theorem open_cut {k : Int} {b : List UInt8} (m : Nat) (h0 : 1 ≤ k) (h1 : k ≤ 255) (h2 : b.length ≤ 4000) (hm : m < (sealP k b).length) : openP ((sealP k b).take m) = (0, [], 0, 2) := by
  rw [sealP_len h0 h1 h2] at hm
  rw [sealP_ok h0 h1 h2]
  obtain ⟨hc, hk⟩ := kind_ne h0 h1
  unfold headP
  simp only [List.cons_append, List.append_assoc]
  generalize crcSum (UInt8.ofNat k.toNat :: (putN b.length ++ b)) = S
  have hf : (fourN S).length = 4 := rfl
  cases m with
  | zero => rfl
  | succ m =>
    rw [List.take_succ_cons]
    unfold openP
    simp only []
    rw [if_neg hc]
    have hp2 : (putN b.length).length ≤ 2 := by
      have h := putN_mono (m := b.length) (n := 4000) (by unfold zig; rw [if_neg (by omega), if_neg (by omega)]; omega)
      have : (putN 4000).length = 2 := by decide
      omega
    by_cases hmp : m < (putN b.length).length
    · have e : (putN b.length ++ (fourN S ++ b)).take m = (putN b.length).take m := by rw [List.take_append_of_le_length (by omega)]
      rw [e, getN_cut b.length m (by omega) (by omega) hmp, if_pos ⟨rfl, by rw [List.length_take]; omega⟩]
    · have e : (putN b.length ++ (fourN S ++ b)).take m = putN b.length ++ (fourN S ++ b).take (m - (putN b.length).length) := by
        rw [List.take_append, List.take_of_length_le (by omega)]
      rw [e]
      have hg := getN_putN b.length ((fourN S ++ b).take (m - (putN b.length).length)) (by omega) (by omega)
      simp only [hg]
      rw [if_neg (by omega), if_neg (by omega), if_pos]
      simp only [List.length_append, List.length_take, hf]
      omega

/-- The document's test is the program's. -/
theorem open_ref {c : UInt8} {t : List UInt8} {n : Int} {k : Nat} (hc : c ≠ 0) (hg : getN t = (n, k, 0)) (h0 : 0 ≤ n) (h1 : n ≤ 4000) (hl : k + 4 + n.toNat ≤ t.length) :
    sealP (c.toNat : Int) ((t.drop (k + 4)).take n.toNat) = (c :: t).take (1 + k + 4 + n.toNat) ↔ fourN (crcSum (c :: t.take k ++ (t.drop (k + 4)).take n.toNat)) = (t.drop k).take 4 := by
  have hbl : ((t.drop (k + 4)).take n.toNat).length = n.toNat := by rw [List.length_take, List.length_drop]; omega
  have hcp : 1 ≤ (c.toNat : Int) := by
    have : c.toNat ≠ 0 := fun h => hc (by rw [← ofNat_toNat' c, h]; rfl)
    omega
  have hcl := c.toNat_lt
  rw [sealP_ok hcp (by omega) (by omega), hbl]
  have hh : headP (c.toNat : Int) n.toNat = c :: t.take k := by
    unfold headP
    rw [getN_canon hg, Int.toNat_natCast, ofNat_toNat', Int.toNat_of_nonneg h0]
  rw [hh]
  have hs : (c :: t).take (1 + k + 4 + n.toNat) = (c :: t.take k) ++ (t.drop k).take 4 ++ (t.drop (k + 4)).take n.toNat := by
    rw [show 1 + k + 4 + n.toNat = (k + (4 + n.toNat)) + 1 by omega, List.take_succ_cons, List.take_add, List.take_add, List.drop_drop]
    simp
  rw [hs]
  constructor
  · intro h
    have := List.append_inj_left h (by simp [fourN_len]; omega)
    exact List.append_cancel_left this
  · intro h
    rw [h]

/-- Frames one behind the other. -/
def allF : Nat → List UInt8 → List (Int × List UInt8) × Nat
  | 0, _ => ([], 0)
  | f + 1, l => if (openP l).2.2.2 ≠ 0 then ([], 0) else (((openP l).1, (openP l).2.1) :: (allF f (l.drop (openP l).2.2.1)).1, (openP l).2.2.1 + (allF f (l.drop (openP l).2.2.1)).2)

theorem openP_ok {l : List UInt8} (h : (openP l).2.2.2 = 0) : 5 ≤ (openP l).2.2.1 ∧ (openP l).2.2.1 ≤ l.length ∧ (openP l).2.1.length ≤ 4000 ∧ 0 ≤ (openP l).1 ∧ (openP l).1 ≤ 255 := by
  cases l with
  | nil => simp [openP] at h
  | cons c t =>
    have hc8 := c.toNat_lt
    unfold openP at h ⊢
    simp only [] at h ⊢
    by_cases h1 : c = 0
    · rw [if_pos h1] at h; simp at h
    · rw [if_neg h1] at h ⊢
      by_cases h2 : (getN t).2.2 = 2 ∧ t.length ≤ 1
      · rw [if_pos h2] at h; simp at h
      · rw [if_neg h2] at h ⊢
        by_cases h3 : (getN t).2.2 ≠ 0 ∨ (getN t).1 < 0 ∨ 4000 < (getN t).1
        · rw [if_pos h3] at h; simp at h
        · rw [if_neg h3] at h ⊢
          by_cases h4 : t.length < (getN t).2.1 + 4 + (getN t).1.toNat
          · rw [if_pos h4] at h; simp at h
          · rw [if_neg h4] at h ⊢
            split at h
            · rename_i h5
              rw [if_pos h5]
              simp only [List.length_cons, List.length_take, List.length_drop]
              omega
            · simp at h

theorem allF_stable : ∀ (f g : Nat) (l : List UInt8), l.length < f → l.length < g → allF f l = allF g l := by
  intro f
  induction f with
  | zero => intro g l h; omega
  | succ f ih =>
    intro g l hf hg
    cases g with
    | zero => omega
    | succ g =>
      rw [allF, allF]
      by_cases h : (openP l).2.2.2 ≠ 0
      · rw [if_pos h, if_pos h]
      · rw [if_neg h, if_neg h]
        have ho := openP_ok (l := l) (by simpa using h)
        rw [ih g (l.drop (openP l).2.2.1) (by rw [List.length_drop]; omega) (by rw [List.length_drop]; omega)]
def allP (l : List UInt8) : List (Int × List UInt8) × Nat := allF (l.length + 1) l
theorem allP_no {l : List UInt8} (h : (openP l).2.2.2 ≠ 0) : allP l = ([], 0) := by
  unfold allP
  rw [allF, if_pos h]
theorem allP_yes {l : List UInt8} (h : (openP l).2.2.2 = 0) : allP l = (((openP l).1, (openP l).2.1) :: (allP (l.drop (openP l).2.2.1)).1, (openP l).2.2.1 + (allP (l.drop (openP l).2.2.1)).2) := by
  have ho := openP_ok h
  unfold allP
  rw [allF, if_neg (by simpa using h), allF_stable l.length ((l.drop (openP l).2.2.1).length + 1) _ (by rw [List.length_drop]; omega) (by omega)]
theorem allP_nil : allP [] = ([], 0) := allP_no (by decide)
end Go.Proofs.YtmddhlfjilkdfaaGreatDoor
namespace Go.Proofs.YtmddhlfjilkdfaaGreatDoor
set_option linter.unusedVariables false
set_option linter.unusedSimpArgs false
open Go.RowKit

/-- What an operation yields, whatever value: in the world that it got, or behind a call. -/
def yieldsUpon (P : Program) (_ : World) (R : Value → World → Prop) : Result Next → Prop
  | .ok (.value v) w' => R v w'
  | .ok (.enter f args) w' => Calls P f args w' (fun e w'' => ∃ v, e = .returned v ∧ R v w'')
  | _ => False

/-- May op j be needed by op k: an edge that binds. -/
def depB (ops : Array Oper) (k j : Nat) : Bool :=
  match ops[k]? with
  | some o => o.after.toList.any fun e => Region.binds .any e && e.on == j
  | none => false

/-- The region's form: what an operation looks at was written by one that it waits for, or is written by one that waits for it; no slot is written twice; edges lead back. -/
def regionOk (ops : Array Oper) : Bool :=
  Region.noSelect ops &&
  (List.range ops.size).all fun i =>
    match ops[i]? with
    | none => true
    | some o =>
      (o.after.toList.all fun e => !Region.binds .any e || decide (e.on < i)) &&
      (List.range ops.size).all fun j =>
        match ops[j]? with
        | none => true
        | some oj =>
          match oj.dst with
          | none => true
          | some d => (i == j || o.dst != some d) && (!(o.looksAt ops).contains d || (decide (j < i) && depB ops i j) || (decide (i < j) && depB ops j i))

section
variable {P : Program} (ops : Array Oper) (Φ : Nat → Option (Value → World → Prop)) (w0 : World) (Q : Exit → Act → World → Prop) (vals : Nat → Value)

/-- The walk in the text's order. 'H': what is known of the calls' results so far. -/
def wpSW (P : Program) : List Oper → Nat → Act → List (Nat × (Value → World → Prop)) → Prop
  | [], _, a, H => ∀ w, Below w0.heap.size w0 w → (∀ p ∈ H, p.2 (vals p.1) w) → Q .normal a w
  | o :: rest, k, a, H =>
    if Region.wanted o (yielded ops a.tmps) then
      match Φ k with
      | none => ∃ c, (∀ w, Below w0.heap.size w0 w → (∀ p ∈ H, depB ops k p.1 = true → p.2 (vals p.1) w) → (execOp a.eval o).run P w = .ok (.value c) w) ∧ wpSW P rest (k + 1) (a.put o.dst c) H
      | some φ => (∀ w, Below w0.heap.size w0 w → (∀ p ∈ H, depB ops k p.1 = true → p.2 (vals p.1) w) → yieldsUpon P w (fun v w' => φ v w' ∧ Below w.heap.size w w') ((execOp a.eval o).run P w)) ∧
          wpSW P rest (k + 1) (a.put o.dst (vals k)) ((k, φ) :: H)
    else wpSW P rest (k + 1) (a.put o.dst undef) H
end

section
variable {P : Program} {ops : Array Oper} {Φ : Nat → Option (Value → World → Prop)} {w0 : World} {Q : Exit → Act → World → Prop} {a0 : Act}

def dstOf (ops : Array Oper) (j : Nat) : Option Tmp := (ops[j]?).bind (·.dst)

/-- The frame behind the first k operations, with these values. -/
def actTo (ops : Array Oper) (a0 : Act) (cs : Nat → Value) : Nat → Act
  | 0 => a0
  | k + 1 => (actTo ops a0 cs k).put (dstOf ops k) (cs k)

def wtd (ops : Array Oper) (a0 : Act) (cs : Nat → Value) (k : Nat) : Bool :=
  match ops[k]? with
  | some o => Region.wanted o (yielded ops (actTo ops a0 cs k).tmps)
  | none => false

def hypTo (ops : Array Oper) (Φ : Nat → Option (Value → World → Prop)) (a0 : Act) (cs : Nat → Value) (k : Nat) (w : World) : Prop :=
  ∀ j φ, j < k → wtd ops a0 cs j = true → Φ j = some φ → depB ops k j = true → φ (cs j) w

/-- The values of one walk in the text's order. -/
structure SeqV (P : Program) (ops : Array Oper) (Φ : Nat → Option (Value → World → Prop)) (w0 : World) (Q : Exit → Act → World → Prop) (a0 : Act) (vals cs : Nat → Value) : Prop where
  pure : ∀ k o, ops[k]? = some o → wtd ops a0 cs k = true → Φ k = none → ∀ w, Below w0.heap.size w0 w → hypTo ops Φ a0 cs k w → (execOp (actTo ops a0 cs k).eval o).run P w = .ok (.value (cs k)) w
  pred : ∀ k o φ, ops[k]? = some o → wtd ops a0 cs k = true → Φ k = some φ → cs k = vals k ∧ ∀ w, Below w0.heap.size w0 w → hypTo ops Φ a0 cs k w →
    yieldsUpon P w (fun v w' => φ v w' ∧ Below w.heap.size w w') ((execOp (actTo ops a0 cs k).eval o).run P w)
  skip : ∀ k o, ops[k]? = some o → wtd ops a0 cs k = false → cs k = undef
  done : ∀ w, Below w0.heap.size w0 w → (∀ j φ, j < ops.size → wtd ops a0 cs j = true → Φ j = some φ → φ (cs j) w) → Q .normal (actTo ops a0 cs ops.size) w

theorem actTo_congr {cs cs' : Nat → Value} (k : Nat) (h : ∀ j, j < k → cs j = cs' j) : actTo ops a0 cs k = actTo ops a0 cs' k := by
  induction k with
  | zero => rfl
  | succ k ih =>
    show (actTo ops a0 cs k).put _ _ = (actTo ops a0 cs' k).put _ _
    rw [ih (fun j hj => h j (by omega)), h k (by omega)]

theorem wtd_congr {cs cs' : Nat → Value} (k : Nat) (h : ∀ j, j < k → cs j = cs' j) : wtd ops a0 cs k = wtd ops a0 cs' k := by
  unfold wtd
  rw [actTo_congr k h]

/-- From the walk to its values. -/
theorem seq_of_walk {vals : Nat → Value} : ∀ (l : List Oper) (k : Nat) (cs0 : Nat → Value) (H : List (Nat × (Value → World → Prop))), (∀ j, l[j]? = ops[k + j]?) → k + l.length = ops.size →
    wpSW ops Φ w0 Q vals P l k (actTo ops a0 cs0 k) H →
    (∀ p, p ∈ H ↔ (p.1 < k ∧ wtd ops a0 cs0 p.1 = true ∧ Φ p.1 = some p.2)) →
    (∀ p ∈ H, cs0 p.1 = vals p.1) →
    ∃ cs, (∀ j, j < k → cs j = cs0 j) ∧
      (∀ j o, k ≤ j → ops[j]? = some o → wtd ops a0 cs j = true → Φ j = none → ∀ w, Below w0.heap.size w0 w → hypTo ops Φ a0 cs j w → (execOp (actTo ops a0 cs j).eval o).run P w = .ok (.value (cs j)) w) ∧
      (∀ j o φ, k ≤ j → ops[j]? = some o → wtd ops a0 cs j = true → Φ j = some φ → cs j = vals j ∧ ∀ w, Below w0.heap.size w0 w → hypTo ops Φ a0 cs j w →
        yieldsUpon P w (fun v w' => φ v w' ∧ Below w.heap.size w w') ((execOp (actTo ops a0 cs j).eval o).run P w)) ∧
      (∀ j o, k ≤ j → ops[j]? = some o → wtd ops a0 cs j = false → cs j = undef) ∧
      (∀ w, Below w0.heap.size w0 w → (∀ j φ, j < ops.size → wtd ops a0 cs j = true → Φ j = some φ → φ (cs j) w) → Q .normal (actTo ops a0 cs ops.size) w) := by
  intro l
  induction l with
  | nil =>
    intro k cs0 H hl hk h hH hv
    have hk' : k = ops.size := by simpa using hk
    subst hk'
    refine ⟨cs0, fun _ _ => rfl, ?_, ?_, ?_, ?_⟩
    · intro j o hj ho; exact absurd (Array.getElem?_eq_some_iff.1 ho).1 (by omega)
    · intro j o φ hj ho; exact absurd (Array.getElem?_eq_some_iff.1 ho).1 (by omega)
    · intro j o hj ho; exact absurd (Array.getElem?_eq_some_iff.1 ho).1 (by omega)
    · intro w hw hf
      refine h w hw fun p hp => ?_
      obtain ⟨h1, h2, h3⟩ := (hH p).1 hp
      rw [← hv p hp]
      exact hf p.1 p.2 h1 h2 h3
  | cons o rest ih =>
    intro k cs0 H hl hk h hH hv
    have ho : ops[k]? = some o := by have := hl 0; simpa using this.symm
    have hl' : ∀ j, rest[j]? = ops[k + 1 + j]? := fun j => by
      have := hl (j + 1)
      rw [List.getElem?_cons_succ] at this
      rw [this]
      congr 1
      omega
    have hk' : k + 1 + rest.length = ops.size := by simp at hk; omega
    have hdst : o.dst = dstOf ops k := by simp [dstOf, ho]
    -- the frame with one value more
    have put : ∀ c, (actTo ops a0 cs0 k).put o.dst c = actTo ops a0 (fun j => if j = k then c else cs0 j) (k + 1) := fun c => by
      show _ = (actTo ops a0 _ k).put _ (if k = k then c else cs0 k)
      rw [actTo_congr (cs' := cs0) k (fun j hj => if_neg (by omega)), hdst, if_pos rfl]
    have wold : ∀ c j, j ≤ k → wtd ops a0 (fun j => if j = k then c else cs0 j) j = wtd ops a0 cs0 j := fun c j hj =>
      wtd_congr j (fun i hi => if_neg (by omega))
    have wk : wtd ops a0 cs0 k = Region.wanted o (yielded ops (actTo ops a0 cs0 k).tmps) := by unfold wtd; rw [ho]
    -- what the rest gives, read at k as well
    have lift : ∀ (cs : Nat → Value) (c : Value), (∀ j, j < k + 1 → cs j = (fun j => if j = k then c else cs0 j) j) → (∀ j, j < k → cs j = cs0 j) ∧ cs k = c := fun cs c hc =>
      ⟨fun j hj => by rw [hc j (by omega)]; exact if_neg (by omega), by rw [hc k (by omega)]; exact if_pos rfl⟩
    simp only [wpSW] at h
    by_cases hw : Region.wanted o (yielded ops (actTo ops a0 cs0 k).tmps) = true
    · rw [if_pos hw] at h
      cases hφ : Φ k with
      | none =>
        rw [hφ] at h
        obtain ⟨c, hc, h⟩ := h
        rw [put c] at h
        obtain ⟨cs, e0, e1, e2, e3, e4⟩ := ih (k + 1) _ H hl' hk' h (fun p => by
          rw [hH p]
          constructor
          · rintro ⟨h1, h2, h3⟩; exact ⟨by omega, by rw [wold c p.1 (by omega)]; exact h2, h3⟩
          · rintro ⟨h1, h2, h3⟩
            have hne : p.1 ≠ k := by intro e; rw [e, hφ] at h3; cases h3
            exact ⟨by omega, by rw [← wold c p.1 (by omega)]; exact h2, h3⟩) (fun p hp => by
          have := ((hH p).1 hp).1
          rw [if_neg (by omega)]
          exact hv p hp)
        obtain ⟨f0, fk⟩ := lift cs c e0
        refine ⟨cs, f0, ?_, ?_, ?_, e4⟩
        · intro j o' hj ho' hwj hn w hwB hyp
          rcases Nat.eq_or_lt_of_le hj with rfl | hlt
          · obtain rfl : o = o' := by rw [ho] at ho'; exact Option.some.inj ho'
            rw [actTo_congr (cs' := cs0) k f0, fk]
            refine hc w hwB fun p hp hd => ?_
            obtain ⟨h1, h2, h3⟩ := (hH p).1 hp
            have := hyp p.1 p.2 h1 (by rw [wtd_congr p.1 (fun i hi => f0 i (by omega))]; exact h2) h3 hd
            rw [f0 p.1 h1, hv p hp] at this
            exact this
          · exact e1 j o' hlt ho' hwj hn w hwB hyp
        · intro j o' φ hj ho' hwj hn
          rcases Nat.eq_or_lt_of_le hj with rfl | hlt
          · rw [hφ] at hn; cases hn
          · exact e2 j o' φ hlt ho' hwj hn
        · intro j o' hj ho' hwj
          rcases Nat.eq_or_lt_of_le hj with rfl | hlt
          · rw [wtd_congr k f0, wk, hw] at hwj; cases hwj
          · exact e3 j o' hlt ho' hwj
      | some φ =>
        rw [hφ] at h
        obtain ⟨hc, h⟩ := h
        rw [put (vals k)] at h
        obtain ⟨cs, e0, e1, e2, e3, e4⟩ := ih (k + 1) _ ((k, φ) :: H) hl' hk' h (fun p => by
          rw [List.mem_cons, hH p]
          constructor
          · rintro (rfl | ⟨h1, h2, h3⟩)
            · exact ⟨by simp, by rw [wold _ k (Nat.le_refl _), wk]; exact hw, hφ⟩
            · exact ⟨by omega, by rw [wold _ p.1 (by omega)]; exact h2, h3⟩
          · rintro ⟨h1, h2, h3⟩
            by_cases hpk : p.1 = k
            · left
              rw [hpk, hφ] at h3
              exact Prod.ext hpk (Option.some.inj h3).symm
            · exact .inr ⟨by omega, by rw [← wold (vals k) p.1 (by omega)]; exact h2, h3⟩) (fun p hp => by
          rcases List.mem_cons.1 hp with rfl | hp
          · exact if_pos rfl
          · have := ((hH p).1 hp).1
            rw [if_neg (by omega)]
            exact hv p hp)
        obtain ⟨f0, fk⟩ := lift cs (vals k) e0
        refine ⟨cs, f0, ?_, ?_, ?_, e4⟩
        · intro j o' hj ho' hwj hn w hwB hyp
          rcases Nat.eq_or_lt_of_le hj with rfl | hlt
          · rw [hφ] at hn; cases hn
          · exact e1 j o' hlt ho' hwj hn w hwB hyp
        · intro j o' φ' hj ho' hwj hn
          rcases Nat.eq_or_lt_of_le hj with rfl | hlt
          · obtain rfl : o = o' := by rw [ho] at ho'; exact Option.some.inj ho'
            obtain rfl : φ = φ' := by rw [hφ] at hn; exact Option.some.inj hn
            refine ⟨fk, fun w hwB hyp => ?_⟩
            rw [actTo_congr (cs' := cs0) k f0]
            refine hc w hwB fun p hp hd => ?_
            obtain ⟨h1, h2, h3⟩ := (hH p).1 hp
            have := hyp p.1 p.2 h1 (by rw [wtd_congr p.1 (fun i hi => f0 i (by omega))]; exact h2) h3 hd
            rw [f0 p.1 h1, hv p hp] at this
            exact this
          · exact e2 j o' φ' hlt ho' hwj hn
        · intro j o' hj ho' hwj
          rcases Nat.eq_or_lt_of_le hj with rfl | hlt
          · rw [wtd_congr k f0, wk, hw] at hwj; cases hwj
          · exact e3 j o' hlt ho' hwj
    · rw [if_neg hw] at h
      rw [put undef] at h
      obtain ⟨cs, e0, e1, e2, e3, e4⟩ := ih (k + 1) _ H hl' hk' h (fun p => by
        rw [hH p]
        constructor
        · rintro ⟨h1, h2, h3⟩; exact ⟨by omega, by rw [wold undef p.1 (by omega)]; exact h2, h3⟩
        · rintro ⟨h1, h2, h3⟩
          have hne : p.1 ≠ k := by
            intro e
            rw [e, wold undef k (Nat.le_refl _), wk] at h2
            exact hw h2
          exact ⟨by omega, by rw [← wold undef p.1 (by omega)]; exact h2, h3⟩) (fun p hp => by
        have := ((hH p).1 hp).1
        rw [if_neg (by omega)]
        exact hv p hp)
      obtain ⟨f0, fk⟩ := lift cs undef e0
      have hwf : wtd ops a0 cs k = false := by
        rw [wtd_congr k f0, wk]
        simpa using hw
      refine ⟨cs, f0, ?_, ?_, ?_, e4⟩
      · intro j o' hj ho' hwj hn w hwB hyp
        rcases Nat.eq_or_lt_of_le hj with rfl | hlt
        · rw [hwf] at hwj; cases hwj
        · exact e1 j o' hlt ho' hwj hn w hwB hyp
      · intro j o' φ' hj ho' hwj hn
        rcases Nat.eq_or_lt_of_le hj with rfl | hlt
        · rw [hwf] at hwj; cases hwj
        · exact e2 j o' φ' hlt ho' hwj hn
      · intro j o' hj ho' hwj
        rcases Nat.eq_or_lt_of_le hj with rfl | hlt
        · exact fk
        · exact e3 j o' hlt ho' hwj

theorem seqV_of_walk {vals : Nat → Value} (h : wpSW ops Φ w0 Q vals P ops.toList 0 a0 []) : ∃ cs, SeqV P ops Φ w0 Q a0 vals cs := by
  obtain ⟨cs, _, e1, e2, e3, e4⟩ := seq_of_walk (a0 := a0) ops.toList 0 (fun _ => undef) [] (fun j => by simp) (by simp) h (by simp) (by simp)
  exact ⟨cs, fun k o ho => e1 k o (Nat.zero_le _) ho, fun k o φ ho => e2 k o φ (Nat.zero_le _) ho, fun k o ho => e3 k o (Nat.zero_le _) ho, e4⟩

/-! ### What the form of the region gives -/
structure RForm (ops : Array Oper) : Prop where
  sel : Region.noSelect ops = true
  back : ∀ i o, ops[i]? = some o → ∀ e ∈ o.after, Region.binds .any e = true → e.on < i
  one : ∀ i j d, dstOf ops i = some d → dstOf ops j = some d → i = j
  look : ∀ i o j d, ops[i]? = some o → dstOf ops j = some d → d ∈ o.looksAt ops → (j < i ∧ depB ops i j = true) ∨ (i < j ∧ depB ops j i = true)

theorem rform_of_ok (h : regionOk ops = true) : RForm ops := by
  unfold regionOk at h
  rw [Bool.and_eq_true, List.all_eq_true] at h
  obtain ⟨hs, h⟩ := h
  have key : ∀ i o, ops[i]? = some o → (o.after.toList.all fun e => !Region.binds .any e || decide (e.on < i)) = true ∧
      ∀ j oj d, ops[j]? = some oj → oj.dst = some d → ((i == j || o.dst != some d) && (!(o.looksAt ops).contains d || (decide (j < i) && depB ops i j) || (decide (i < j) && depB ops j i))) = true := by
    intro i o ho
    have hi := (Array.getElem?_eq_some_iff.1 ho).1
    have := h i (List.mem_range.2 hi)
    rw [ho, Bool.and_eq_true, List.all_eq_true (l := List.range ops.size)] at this
    refine ⟨this.1, fun j oj d hj hd => ?_⟩
    have h2 := this.2 j (List.mem_range.2 (Array.getElem?_eq_some_iff.1 hj).1)
    rw [hj] at h2
    simp only [hd] at h2
    exact h2
  have get : ∀ j d, dstOf ops j = some d → ∃ oj, ops[j]? = some oj ∧ oj.dst = some d := fun j d hd => by
    unfold dstOf at hd
    cases hj : ops[j]? with
    | none => rw [hj] at hd; cases hd
    | some oj => rw [hj] at hd; exact ⟨oj, rfl, hd⟩
  refine ⟨hs, fun i o ho e he hb => ?_, fun i j d hi hj => ?_, fun i o j d ho hj hl => ?_⟩
  · have := List.all_eq_true.1 (key i o ho).1 e (by simpa using he)
    simpa [hb] using this
  · obtain ⟨oi, hoi, hdi⟩ := get i d hi
    obtain ⟨oj, hoj, hdj⟩ := get j d hj
    have := (key i oi hoi).2 j oj d hoj hdj
    simp [hdi] at this
    exact this.1
  · obtain ⟨oj, hoj, hdj⟩ := get j d hj
    have := (key i o ho).2 j oj d hoj hdj
    have h2 := (Bool.and_eq_true _ _ ▸ this).2
    rw [show (o.looksAt ops).contains d = true from List.contains_iff_mem.2 hl] at h2
    simp only [Bool.not_true, Bool.false_or, Bool.or_eq_true, Bool.and_eq_true, decide_eq_true_eq] at h2
    exact h2

theorem actTo_defers (cs : Nat → Value) (k : Nat) : (actTo ops a0 cs k).defers = a0.defers := by
  induction k with
  | zero => rfl
  | succ k ih =>
    show ((actTo ops a0 cs k).put _ _).defers = _
    cases dstOf ops k <;> exact ih
theorem put_tmps (a : Act) (x : Option Tmp) (v : Value) (s : Nat) : (a.put x v).tmps[s]? = if x = some s then (if s < a.tmps.size then some v else none) else a.tmps[s]? := by
  cases x with
  | none => simp [Act.put]
  | some d =>
    simp only [Act.put, Option.some.injEq, Array.getElem?_setIfInBounds]
    by_cases h : d = s
    · subst h; simp
    · simp [h]
theorem put_size (a : Act) (x : Option Tmp) (v : Value) : (a.put x v).tmps.size = a.tmps.size := by cases x <;> simp [Act.put]
theorem actTo_size (cs : Nat → Value) (k : Nat) : (actTo ops a0 cs k).tmps.size = a0.tmps.size := by
  induction k with
  | zero => rfl
  | succ k ih => show ((actTo ops a0 cs k).put _ _).tmps.size = _; rw [put_size, ih]
theorem actTo_at (F : RForm ops) (cs : Nat → Value) (k j d : Nat) (hj : j < k) (hd : dstOf ops j = some d) : (actTo ops a0 cs k).tmps[d]? = if d < a0.tmps.size then some (cs j) else none := by
  induction k with
  | zero => omega
  | succ k ih =>
    show ((actTo ops a0 cs k).put _ _).tmps[d]? = _
    rw [put_tmps, actTo_size]
    by_cases hk : j = k
    · subst hk; rw [if_pos hd]
    · rw [if_neg (fun h => hk (F.one j k d hd h)), ih (by omega)]
theorem actTo_old (cs : Nat → Value) (k s : Nat) (h : ∀ j, j < k → dstOf ops j ≠ some s) : (actTo ops a0 cs k).tmps[s]? = a0.tmps[s]? := by
  induction k with
  | zero => rfl
  | succ k ih =>
    show ((actTo ops a0 cs k).put _ _).tmps[s]? = _
    rw [put_tmps, if_neg (h k (by omega)), ih (fun j hj => h j (by omega))]

/-- The frame in whatever order: what was written is what the text's order writes. -/
structure actL (ops : Array Oper) (a0 : Act) (listed : Array Bool) (cs : Nat → Value) (a : Act) : Prop where
  defers : a.defers = a0.defers
  size : a.tmps.size = a0.tmps.size
  at_ : ∀ j d, listed.getD j false = true → dstOf ops j = some d → a.tmps[d]? = if d < a0.tmps.size then some (cs j) else none
  old : ∀ s, (∀ j, listed.getD j false = true → dstOf ops j ≠ some s) → a.tmps[s]? = a0.tmps[s]?

theorem actL_put {listed : Array Bool} {cs : Nat → Value} {a : Act} (F : RForm ops) (h : actL ops a0 listed cs a) (i : Nat) (hi : i < listed.size) (hn : listed.getD i false = false) (o : Oper) (ho : ops[i]? = some o) (v : Value) (hv : cs i = v) :
    actL ops a0 (listed.setIfInBounds i true) cs (a.put o.dst v) := by
  have hd : o.dst = dstOf ops i := by simp [dstOf, ho]
  have hset : ∀ j, (listed.setIfInBounds i true).getD j false = true ↔ j = i ∨ listed.getD j false = true := fun j => by
    by_cases hj : i = j
    · subst hj; simp [hi]
    · rw [getD_set_ne false hj]; simp [Ne.symm hj]
  subst hv
  refine ⟨by rw [show (a.put o.dst (cs i)).defers = a.defers by cases o.dst <;> rfl]; exact h.defers, by rw [put_size]; exact h.size, fun j d hj hdj => ?_, fun s hs => ?_⟩
  · rw [put_tmps, hd, h.size]
    by_cases hji : j = i
    · subst hji; rw [if_pos hdj]
    · rw [if_neg (fun e => hji (F.one j i d hdj e))]
      exact h.at_ j d (((hset j).1 hj).resolve_left hji) hdj
  · rw [put_tmps, hd, if_neg (hs i ((hset i).2 (.inl rfl)))]
    exact h.old s fun j hj => hs j ((hset j).2 (.inr hj))

theorem depB_iff {k j : Nat} : depB ops k j = true ↔ ∃ o, ops[k]? = some o ∧ ∃ e ∈ o.after, Region.binds .any e = true ∧ e.on = j := by
  unfold depB
  cases hk : ops[k]? with
  | none => simp
  | some o => simp only [Option.some.injEq, exists_eq_left', List.any_eq_true, Bool.and_eq_true, beq_iff_eq, Array.mem_toList_iff]

theorem execOp_same {a b : Act} (F : RForm ops) {i : Nat} {o : Oper} (ho : ops[i]? = some o) (h : ∀ d, d ∈ o.looksAt ops → a.tmps[d]? = b.tmps[d]?) :
    execOp a.eval o = execOp b.eval o ∧ Region.wanted o (yielded ops a.tmps) = Region.wanted o (yielded ops b.tmps) := by
  refine ⟨execOp_congr o (fun cs b => Region.noSelect_spec F.sel i o cs b ho) fun x hx => ?_, ?_⟩
  · cases x with
    | tmp t =>
      have := h t (List.mem_append_left _ (List.mem_filterMap.2 ⟨.tmp t, by simpa using hx, rfl⟩))
      simp [Act.eval, this]
    | _ => rfl
  · unfold Region.wanted
    cases hg : o.guard with
    | none => rfl
    | some gw =>
      obtain ⟨g, want⟩ := gw
      have : yielded ops a.tmps g = yielded ops b.tmps g := by
        unfold yielded
        cases ht : (ops[g]?).bind (·.dst) with
        | none => rfl
        | some t =>
          have := h t (by simp [Oper.looksAt, hg, ht])
          simp [this]
      simp only [this]

theorem look_seq (F : RForm ops) {i : Nat} {o : Oper} (ho : ops[i]? = some o) {listed : Array Bool} {cs : Nat → Value} {a : Act} (h : actL ops a0 listed cs a)
    (hdep : ∀ j, depB ops i j = true → listed.getD j false = true) (hun : ∀ j, depB ops j i = true → listed.getD j false = false) :
    ∀ d, d ∈ o.looksAt ops → a.tmps[d]? = (actTo ops a0 cs i).tmps[d]? := by
  intro d hd
  by_cases hx : ∃ j, dstOf ops j = some d
  · obtain ⟨j, hj⟩ := hx
    rcases F.look i o j d ho hj hd with ⟨h1, h2⟩ | ⟨h1, h2⟩
    · rw [h.at_ j d (hdep j h2) hj, actTo_at F cs i j d h1 hj]
    · have x1 : a.tmps[d]? = a0.tmps[d]? := h.old d fun k hk e => by
        have := F.one k j d e hj
        subst this
        rw [hun k h2] at hk
        cases hk
      have x2 : (actTo ops a0 cs i).tmps[d]? = a0.tmps[d]? := actTo_old cs i d fun k hk e => by
        have := F.one k j d e hj
        omega
      rw [x1, x2]
  · rw [h.old d fun j _ e => hx ⟨j, e⟩, actTo_old cs i d fun j _ e => hx ⟨j, e⟩]

theorem look_two (F : RForm ops) {i : Nat} {o : Oper} (ho : ops[i]? = some o) {cs cs' : Nat → Value} (h : ∀ j, j < i → depB ops i j = true → cs j = cs' j) :
    ∀ d, d ∈ o.looksAt ops → (actTo ops a0 cs i).tmps[d]? = (actTo ops a0 cs' i).tmps[d]? := by
  intro d hd
  by_cases hx : ∃ j, dstOf ops j = some d
  · obtain ⟨j, hj⟩ := hx
    rcases F.look i o j d ho hj hd with ⟨h1, h2⟩ | ⟨h1, h2⟩
    · rw [actTo_at F cs i j d h1 hj, actTo_at F cs' i j d h1 hj, h j h1 h2]
    · rw [actTo_old cs i d fun k hk e => by have := F.one k j d e hj; omega, actTo_old cs' i d fun k hk e => by have := F.one k j d e hj; omega]
  · rw [actTo_old cs i d fun j _ e => hx ⟨j, e⟩, actTo_old cs' i d fun j _ e => hx ⟨j, e⟩]

theorem wtd_eq {i : Nat} {o : Oper} (ho : ops[i]? = some o) (cs : Nat → Value) : wtd ops a0 cs i = Region.wanted o (yielded ops (actTo ops a0 cs i).tmps) := by unfold wtd; rw [ho]

/-- TWO WALKS AGREE on all that was carried out, if they agree on the calls' results. -/
theorem seq_agree (F : RForm ops) {vals vals' cs cs' : Nat → Value} (S : SeqV P ops Φ w0 Q a0 vals cs) (S' : SeqV P ops Φ w0 Q a0 vals' cs') {listed : Array Bool} {w : World} (hw : Below w0.heap.size w0 w)
    (hcl : ∀ j k, listed.getD j false = true → depB ops j k = true → listed.getD k false = true)
    (hv : ∀ j, listed.getD j false = true → vals j = vals' j)
    (hφ : ∀ j φ, listed.getD j false = true → wtd ops a0 cs j = true → Φ j = some φ → φ (cs j) w) :
    ∀ n j, j < n → listed.getD j false = true → j < ops.size → cs j = cs' j ∧ wtd ops a0 cs j = wtd ops a0 cs' j := by
  intro n
  induction n with
  | zero => intro j hj; omega
  | succ n ih =>
    intro j hj hl hs
    have ho : ops[j]? = some ops[j] := Array.getElem?_eq_getElem hs
    have hdl : ∀ k, k < j → depB ops j k = true → cs k = cs' k := fun k hk hd => (ih k (by omega) (hcl j k hl hd) (by omega)).1
    obtain ⟨e1, e2⟩ := execOp_same F ho (look_two (a0 := a0) F ho hdl)
    have hwt : wtd ops a0 cs j = wtd ops a0 cs' j := by rw [wtd_eq ho, wtd_eq ho, e2]
    refine ⟨?_, hwt⟩
    have hyp : hypTo ops Φ a0 cs j w := fun k φ hk hwk hf hd => hφ k φ (hcl j k hl hd) hwk hf
    have hyp' : hypTo ops Φ a0 cs' j w := fun k φ hk hwk hf hd => by
      obtain ⟨g1, g2⟩ := ih k (by omega) (hcl j k hl hd) (by omega)
      rw [← g1]
      exact hφ k φ (hcl j k hl hd) (by rw [g2]; exact hwk) hf
    by_cases hwj : wtd ops a0 cs j = true
    · cases hf : Φ j with
      | none =>
        have r1 := S.pure j _ ho hwj hf w hw hyp
        have r2 := S'.pure j _ ho (hwt ▸ hwj) hf w hw hyp'
        rw [e1, r2] at r1
        injection r1 with r1 _
        injection r1 with r1
        exact r1.symm
      | some φ => rw [(S.pred j _ φ ho hwj hf).1, (S'.pred j _ φ ho (hwt ▸ hwj) hf).1, hv j hl]
    · have hwj : wtd ops a0 cs j = false := by simpa using hwj
      rw [S.skip j _ ho hwj, S'.skip j _ ho (hwt ▸ hwj)]

theorem any_of_seq (F : RForm ops) (hst : ∀ k φ, Φ k = some φ → ∀ v w w', φ v w → Below w.heap.size w w' → φ v w') (H : ∀ vals, ∃ cs, SeqV P ops Φ w0 Q a0 vals cs) :
    ∀ (fuel : Nat) (un : List Nat) (listed : Array Bool) (a : Act) (w : World) (vals cs : Nat → Value), un.length = fuel → un.Nodup → listed.size = ops.size →
      (∀ j, j < ops.size → (listed.getD j false = false ↔ j ∈ un)) → (∀ j k, listed.getD j false = true → depB ops j k = true → listed.getD k false = true) →
      Below w0.heap.size w0 w → SeqV P ops Φ w0 Q a0 vals cs → (∀ j φ, listed.getD j false = true → wtd ops a0 cs j = true → Φ j = some φ → φ (cs j) w) → actL ops a0 listed cs a →
      wpAny P .any ops Q fuel listed a w := by
  have final : ∀ (listed : Array Bool) (a : Act) (w : World) (vals cs : Nat → Value), (∀ j, j < ops.size → listed.getD j false = true) →
      Below w0.heap.size w0 w → SeqV P ops Φ w0 Q a0 vals cs → (∀ j φ, listed.getD j false = true → wtd ops a0 cs j = true → Φ j = some φ → φ (cs j) w) → actL ops a0 listed cs a → Q .normal a w := by
    intro listed a w vals cs hall hw S hφ hA
    have : a = actTo ops a0 cs ops.size := by
      obtain ⟨t, d⟩ := a
      have h1 : t = (actTo ops a0 cs ops.size).tmps := by
        apply Array.ext_getElem?
        intro s
        by_cases hx : ∃ j, dstOf ops j = some s
        · obtain ⟨j, hj⟩ := hx
          have hjs : j < ops.size := by
            unfold dstOf at hj
            cases ho : ops[j]? with
            | none => rw [ho] at hj; cases hj
            | some o => exact (Array.getElem?_eq_some_iff.1 ho).1
          rw [hA.at_ j s (hall j hjs) hj, actTo_at F cs _ j s hjs hj]
        · rw [hA.old s fun j _ e => hx ⟨j, e⟩, actTo_old cs _ s fun j _ e => hx ⟨j, e⟩]
      have h2 : d = (actTo ops a0 cs ops.size).defers := by rw [actTo_defers]; exact hA.defers
      rw [h1, h2]
    rw [this]
    exact S.done w hw fun j φ hj hwj hf => hφ j φ (hall j hj) hwj hf
  have noReady : ∀ listed : Array Bool, listed.size = ops.size → Region.ready .any ops listed = [] → ∀ j, j < ops.size → listed.getD j false = true := by
    intro listed hsz hr
    have : ∀ n j, j < n → j < ops.size → listed.getD j false = true := by
      intro n
      induction n with
      | zero => intro j hj; omega
      | succ n ih =>
        intro j hj hs
        by_cases hl : listed.getD j false = true
        · exact hl
        · exfalso
          have ho : ops[j]? = some ops[j] := Array.getElem?_eq_getElem hs
          have : j ∈ Region.ready .any ops listed := by
            rw [mem_ready]
            refine ⟨?_, _, ho, fun e he hb => ?_⟩
            · have hl' : listed.getD j false = false := by simpa using hl
              have hjl : j < listed.size := by omega
              simp [hjl] at hl' ⊢
              exact hl'
            · have := F.back j _ ho e he hb
              exact ih e.on (by omega) (by omega)
          rw [hr] at this
          cases this
    exact fun j hj => this (j + 1) j (Nat.lt_succ_self j) hj
  intro fuel
  induction fuel with
  | zero =>
    intro un listed a w vals cs hu hnd hsz hun hcl hw S hφ hA
    have hun0 : un = [] := List.eq_nil_of_length_eq_zero hu
    subst hun0
    have hall : ∀ j, j < ops.size → listed.getD j false = true := fun j hj => by
      cases hl : listed.getD j false with
      | true => rfl
      | false => exact absurd ((hun j hj).1 hl) (by simp)
    refine ⟨?_, final listed a w vals cs hall hw S hφ hA⟩
    apply List.eq_nil_iff_forall_not_mem.2
    intro j hj
    rw [mem_ready] at hj
    obtain ⟨h0, o, ho, _⟩ := hj
    have hjs := (Array.getElem?_eq_some_iff.1 ho).1
    have h1 := hall j hjs
    have hjl : j < listed.size := by omega
    simp [hjl] at h0 h1
    rw [h0] at h1
    cases h1
  | succ fuel ih =>
    intro un listed a w vals cs hu hnd hsz hun hcl hw S hφ hA
    refine ⟨fun hr => final listed a w vals cs (noReady listed hsz hr) hw S hφ hA, fun i hi => ?_⟩
    rw [mem_ready] at hi
    obtain ⟨h0, o, ho, hdeps⟩ := hi
    have his := (Array.getElem?_eq_some_iff.1 ho).1
    have hil : i < listed.size := by omega
    have hin : listed.getD i false = false := by simp [hil] at h0 ⊢; exact h0
    have hdep : ∀ j, depB ops i j = true → listed.getD j false = true := fun j hj => by
      obtain ⟨o', ho', e, he, hb, hon⟩ := depB_iff.1 hj
      obtain rfl : o = o' := by rw [ho] at ho'; exact Option.some.inj ho'
      rw [← hon]
      exact hdeps e he hb
    have hunb : ∀ j, depB ops j i = true → listed.getD j false = false := fun j hj => by
      cases hl : listed.getD j false with
      | false => rfl
      | true => have := hcl j i hl hj; rw [hin] at this; cases this
    obtain ⟨e1, e2⟩ := execOp_same F ho (look_seq F ho hA hdep hunb)
    have hset : ∀ j, (listed.setIfInBounds i true).getD j false = true ↔ j = i ∨ listed.getD j false = true := fun j => by
      by_cases hj : i = j
      · subst hj; simp [hil]
      · rw [getD_set_ne false hj]; simp [Ne.symm hj]
    have hiu : i ∈ un := (hun i his).1 hin
    have un1 : (un.erase i).length = fuel := by rw [List.length_erase_of_mem hiu, hu]; rfl
    have un2 : (un.erase i).Nodup := hnd.erase i
    have un3 : ∀ j, j < ops.size → ((listed.setIfInBounds i true).getD j false = false ↔ j ∈ un.erase i) := fun j hj => by
      rw [hnd.mem_erase_iff, ← hun j hj]
      by_cases hji : j = i
      · subst hji; simp [hil]
      · rw [getD_set_ne false (Ne.symm hji)]; simp [hji]
    have cl' : ∀ j k, (listed.setIfInBounds i true).getD j false = true → depB ops j k = true → (listed.setIfInBounds i true).getD k false = true := fun j k hj hd => by
      rw [hset] at hj ⊢
      rcases hj with rfl | hj
      · exact .inr (hdep k hd)
      · exact .inr (hcl j k hj hd)
    have next := fun (w' : World) (vals' cs' : Nat → Value) (v : Value) (hw' : Below w0.heap.size w0 w') (S' : SeqV P ops Φ w0 Q a0 vals' cs')
        (hφ' : ∀ j φ, (listed.setIfInBounds i true).getD j false = true → wtd ops a0 cs' j = true → Φ j = some φ → φ (cs' j) w') (hA' : actL ops a0 (listed.setIfInBounds i true) cs' (a.put o.dst v)) =>
      ih (un.erase i) (listed.setIfInBounds i true) (a.put o.dst v) w' vals' cs' un1 un2 (by simpa using hsz) un3 cl' hw' S' hφ' hA'
    have hyp : hypTo ops Φ a0 cs i w := fun k φ hk hwk hf hd => hφ k φ (hdep k hd) hwk hf
    unfold wpOp
    rw [ho]
    simp only []
    rw [e2, ← wtd_eq ho]
    by_cases hwi : wtd ops a0 cs i = true
    · rw [if_pos hwi]
      left
      unfold Oper.wp
      rw [e1]
      cases hf : Φ i with
      | none =>
        rw [S.pure i o ho hwi hf w hw hyp, Oper.upon_value]
        refine next w vals cs (cs i) hw S (fun j φ hj hwj hfj => ?_) (actL_put F hA i hil hin o ho _ rfl)
        rcases (hset j).1 hj with rfl | hj
        · rw [hf] at hfj; cases hfj
        · exact hφ j φ hj hwj hfj
      | some φ =>
        have Y := (S.pred i o φ ho hwi hf).2 w hw hyp
        -- behind the operation: the value v in the world w'
        have after : ∀ (v : Value) (w' : World), φ v w' → Below w.heap.size w w' → wpAny P .any ops Q fuel (listed.setIfInBounds i true) (a.put o.dst v) w' := by
          intro v w' hv hb
          have hw' : Below w0.heap.size w0 w' := hw.trans (hb.mono hw.size)
          obtain ⟨cs', S'⟩ := H (fun j => if j = i then v else vals j)
          have hφw' : ∀ j φ, listed.getD j false = true → wtd ops a0 cs j = true → Φ j = some φ → φ (cs j) w' := fun j ψ hj hwj hfj => hst j ψ hfj _ w w' (hφ j ψ hj hwj hfj) hb
          have hagree := seq_agree F S S' hw' hcl (fun j hj => by
            have : j ≠ i := by intro e; rw [e, hin] at hj; cases hj
            exact (if_neg this).symm) hφw'
          have agree : ∀ j, listed.getD j false = true → j < ops.size → cs j = cs' j ∧ wtd ops a0 cs j = wtd ops a0 cs' j := fun j hj hs => hagree (j + 1) j (Nat.lt_succ_self j) hj hs
          have inr : ∀ j, listed.getD j false = true → j < ops.size := fun j hj => by
            rcases Nat.lt_or_ge j ops.size with h | h
            · exact h
            · rw [← hsz] at h; simp [Array.getElem?_eq_none h] at hj
          have hdl : ∀ k, k < i → depB ops i k = true → cs k = cs' k := fun k hk hd => (agree k (hdep k hd) (by omega)).1
          obtain ⟨f1, f2⟩ := execOp_same F ho (look_two (a0 := a0) F ho hdl)
          have hwt : wtd ops a0 cs i = wtd ops a0 cs' i := by rw [wtd_eq ho, wtd_eq ho, f2]
          have hci : cs' i = v := by
            rw [(S'.pred i o φ ho (hwt ▸ hwi) hf).1]
            exact if_pos rfl
          have hA2 : actL ops a0 listed cs' a := ⟨hA.defers, hA.size, fun j d hj hd => by rw [← (agree j hj (inr j hj)).1]; exact hA.at_ j d hj hd, hA.old⟩
          refine next w' _ cs' v hw' S' (fun j ψ hj hwj hfj => ?_) (actL_put F hA2 i hil hin o ho v hci)
          rcases (hset j).1 hj with rfl | hj
          · rw [hf] at hfj
            obtain rfl := Option.some.inj hfj
            rw [hci]
            exact hv
          · obtain ⟨g1, g2⟩ := agree j hj (inr j hj)
            rw [← g1]
            exact hφw' j ψ hj (by rw [g2]; exact hwj) hfj
        generalize (execOp (actTo ops a0 cs i).eval o).run P w = r at Y
        cases r with
        | halt x w' => exact Y.elim
        | ok nx w' =>
          cases nx with
          | value v => rw [Oper.upon_value]; exact after v w' Y.1 Y.2
          | enter f args =>
            rw [Oper.upon_enter]
            refine Calls.mono Y fun e w'' he => ?_
            obtain ⟨v, rfl, h1, h2⟩ := he
            exact after v w'' h1 h2
          | _ => exact Y.elim
    · rw [if_neg hwi]
      have hwi : wtd ops a0 cs i = false := by simpa using hwi
      refine next w vals cs undef hw S (fun j φ hj hwj hfj => ?_) (actL_put F hA i hil hin o ho _ (S.skip i o ho hwi))
      rcases (hset j).1 hj with rfl | hj
      · rw [hwi] at hwj; cases hwj
      · exact hφ j φ hj hwj hfj

/-- THE LAW. -/
theorem wp_region_sw {id : Nat} {l : List Oper} {w : World} (hm : P.follows .mixedOrders = true) (hok : regionOk l.toArray = true) (Φ : Nat → Option (Value → World → Prop))
    (hst : ∀ k φ, Φ k = some φ → ∀ v w w', φ v w → Below w.heap.size w w' → φ v w') (h : ∀ vals, wpSW l.toArray Φ w Q vals P l 0 a0 []) : (Code.region id l.toArray true).wp P Q a0 w := by
  have F := rform_of_ok hok
  have H : ∀ vals, ∃ cs, SeqV P l.toArray Φ w Q a0 vals cs := fun vals => seqV_of_walk (by simpa using h vals)
  obtain ⟨cs, S⟩ := H (fun _ => undef)
  refine wp_region_any hm ?_
  have hrep : ∀ j, (Array.replicate l.toArray.size false).getD j false = false := fun j => by
    simp only [Array.getD_eq_getD_getElem?, Array.getElem?_replicate]
    split <;> rfl
  refine any_of_seq F hst H l.toArray.size (List.range l.toArray.size) _ a0 _ _ cs (by simp) List.nodup_range (by simp) (fun j hj => ?_) (fun j k hj => ?_) ?_ S (fun j φ hj => ?_) ⟨rfl, rfl, fun j d hj => ?_, fun s _ => rfl⟩
  · rw [hrep j]; simpa using hj
  · rw [hrep j] at hj; cases hj
  · exact ⟨rfl, rfl, rfl, Nat.le_refl _, fun _ _ => rfl⟩
  · rw [hrep j] at hj; cases hj
  · rw [hrep j] at hj; cases hj
end
/-! ### The walk, operation by operation -/
def okUpon (w : World) (v : Value) : Result Next → Prop
  | .ok (.value u) w' => w' = w ∧ u = v
  | _ => False

theorem okUpon_eq {w : World} {v : Value} {r : Result Next} (h : okUpon w v r) : r = .ok (.value v) w := by
  cases r with
  | halt x w' => exact h.elim
  | ok nx w' =>
    cases nx with
    | value u => obtain ⟨rfl, rfl⟩ := h; rfl
    | _ => exact h.elim

section
variable {P : Program} {ops : Array Oper} {Φ : Nat → Option (Value → World → Prop)} {w0 : World} {Q : Exit → Act → World → Prop} {vals : Nat → Value} {o : Oper} {rest : List Oper} {k : Nat} {a : Act} {H : List (Nat × (Value → World → Prop))}

/-- An operation that answers the same in every world. -/
theorem sw_pure (hf : Φ k = none)
    (h : ∀ K : Act → Prop, (∀ a', wpSW ops Φ w0 Q vals P rest (k + 1) a' H → K a') →
      if Region.wanted o (yielded ops a.tmps) then ∃ v, (∀ w, okUpon w v ((execOp a.eval o).run P w)) ∧ K (a.put o.dst v) else K (a.put o.dst undef)) : wpSW ops Φ w0 Q vals P (o :: rest) k a H := by
  have h := h _ (fun _ h => h)
  simp only [wpSW]
  by_cases hw : Region.wanted o (yielded ops a.tmps) = true
  · rw [if_pos hw] at h ⊢
    rw [hf]
    obtain ⟨v, h1, h2⟩ := h
    exact ⟨v, fun w _ _ => okUpon_eq (h1 w), h2⟩
  · rw [if_neg hw] at h ⊢
    exact h

/-- An operation whose value is told, and shown in the world it meets. -/
theorem sw_at (v : Value) (hf : Φ k = none) (hw : Region.wanted o (yielded ops a.tmps) = true)
    (h1 : ∀ w, Below w0.heap.size w0 w → (∀ p ∈ H, depB ops k p.1 = true → p.2 (vals p.1) w) → okUpon w v ((execOp a.eval o).run P w))
    (h : ∀ K : Act → Prop, (∀ a', wpSW ops Φ w0 Q vals P rest (k + 1) a' H → K a') → K (a.put o.dst v)) : wpSW ops Φ w0 Q vals P (o :: rest) k a H := by
  have h := h _ (fun _ h => h)
  simp only [wpSW]
  rw [if_pos hw, hf]
  exact ⟨v, fun w hb hH => okUpon_eq (h1 w hb hH), h⟩

/-- A call, or what makes memory. -/
theorem sw_call (φ : Value → World → Prop) (hf : Φ k = some φ) (hw : Region.wanted o (yielded ops a.tmps) = true)
    (h1 : ∀ w, Below w0.heap.size w0 w → (∀ p ∈ H, depB ops k p.1 = true → p.2 (vals p.1) w) → yieldsUpon P w (fun v w' => φ v w' ∧ Below w.heap.size w w') ((execOp a.eval o).run P w))
    (h : ∀ K : Act → Prop, (∀ a', wpSW ops Φ w0 Q vals P rest (k + 1) a' ((k, φ) :: H) → K a') → K (a.put o.dst (vals k))) : wpSW ops Φ w0 Q vals P (o :: rest) k a H := by
  have h := h _ (fun _ h => h)
  simp only [wpSW]
  rw [if_pos hw, hf]
  exact ⟨h1, h⟩

theorem sw_done (h : ∀ w, Below w0.heap.size w0 w → (∀ p ∈ H, p.2 (vals p.1) w) → Q .normal a w) : wpSW ops Φ w0 Q vals P [] k a H := h
end
/-- The builtin append, its run known. -/
theorem yields_append {P : Program} {w w' : World} {R : Value → World → Prop} {a : Act} {o : Oper} {s x : Operand} {t : TypeId} {v src v' : Value} (ho : o.op = .call { callee := .builtin .append, args := #[s, x], argTypes := #[t, t] })
    (hs : a.eval s = v) (hx : a.eval x = src) (hr : (Builtin.append_ #[t, t] o.type #[v, src]).run P w = .ok v' w') (h : R v' w') : yieldsUpon P w R ((execOp a.eval o).run P w) := by
  unfold execOp
  simp only [ho, resolve, invoke, builtin, Sem.run_bind, Sem.run_pure, Result.andThen_ok, List.map_toArray, List.map_cons, List.map_nil, hs, hx, hr]
  exact h

attribute [go_sem] okUpon yieldsUpon
end Go.Proofs.YtmddhlfjilkdfaaGreatDoor
namespace Go.Proofs.YtmddhlfjilkdfaaGreatDoor
set_option linter.unusedVariables false
set_option linter.unusedSimpArgs false
open Go.ChangeShapes Go.WideShapes Go.ChangeAt Go.RowKit

/-- A literal row of bytes that was just made is one's own. -/
theorem OwnB.fresh (w : World) (e : TypeId) (cs : List UInt8) (arr : Array Value) (n : Nat) (hn : n = cs.length) (h : arr = (cs.map byteV).toArray) (hl : cs.length ≤ 9223372036854775807) :
    OwnB (w.alloc (.cells arr e)) w.heap.size e (.slice (some ⟨w.heap.size, 0, none⟩) n n) cs := by
  subst h hn
  refine ⟨by simp, .inr ⟨w.heap.size, cs.length, _, rfl, Nat.le_refl _, heap_alloc_new w _, Nat.le_refl _, by simpa [maxLen] using hl, by simp, ?_⟩⟩
  simp [List.take_of_length_le]

/-- A new row of bytes. -/
def RetNew (w : World) (l : List UInt8) (e : Ending) (w' : World) : Prop :=
  ∃ v, e = .returned v ∧ OwnB w' w.heap.size 5 v l ∧ Below w.heap.size w w'

theorem frame_seal (k : Int) (v : Value) (l : List UInt8) (w : World) (hk0 : -9223372036854775808 ≤ k) (hk1 : k ≤ 9223372036854775807) (h : Bytes w v l) :
    Calls Tryz.prog 59 #[.int .i64 k, v] w fun e w' => RetNew w (sealP k l) e w' := by
  have hb := h
  obtain ⟨a, cap, rfl, hcap, hcm, -⟩ := h
  by_cases h1 : k < 1
  · have hS := Lib.hid (sealP_no (k := k) (b := l) (.inl h1))
    go_enter Tryz.func59, Tryz.ntmps59
    go_wp2_with fail
    go_ret
    exact ⟨_, rfl, by rw [hS.out]; exact OwnB.nil _ _ _, Below.refl _ _⟩
  · by_cases h2 : 255 < k
    · have hS := Lib.hid (sealP_no (k := k) (b := l) (.inr (.inl h2)))
      go_enter Tryz.func59, Tryz.ntmps59
      go_wp2_with fail
      go_ret
      exact ⟨_, rfl, by rw [hS.out]; exact OwnB.nil _ _ _, Below.refl _ _⟩
    · by_cases h3 : 4000 < l.length
      · have hS := Lib.hid (sealP_no (k := k) (b := l) (.inr (.inr h3)))
        go_enter Tryz.func59, Tryz.ntmps59
        go_wp2_with fail
        go_ret
        exact ⟨_, rfl, by rw [hS.out]; exact OwnB.nil _ _ _, Below.refl _ _⟩
      · have hS := Lib.hid (sealP_ok (k := k) (b := l) (by omega) (by omega) (by omega))
        obtain ⟨m, rfl⟩ := Int.eq_ofNat_of_zero_le (show 0 ≤ k by omega)
        have hown := OwnB.fresh w 5 [UInt8.ofNat m] #[.int .u8 (m : Int)] 1 rfl (by simp [byteV]; omega) (by simp)
        have hba := (Below.refl w.heap.size w).alloc (Nat.le_refl _) (.cells #[.int .u8 (m : Int)] 5)
        have hP := putN_len l.length
        go_enter Tryz.func59, Tryz.ntmps59
        go_wp2_with fail
        refine (num_put _ [UInt8.ofNat m] l.length w.heap.size _ (by omega) (by omega) (by simp) hba.size hown).mono ?_
        rintro e w1 ⟨v1, rfl, ho1, hg1, hk1⟩
        have hb1 : Below w.heap.size w w1 := hba.grown hg1 hba.size (fun k hk => (hown.lt k hk).1)
        have hl := hb.below hb1 rfl
        rw [show [UInt8.ofNat m] ++ putN l.length = headP (m : Int) l.length from by unfold headP; simp] at ho1
        have hH : (headP (m : Int) l.length).length ≤ 11 := by unfold headP; simp; omega
        generalize headP (m : Int) l.length = H at *
        clear hg1 hk1 hown hba
        go_wp2_with fail
        refine (crc_sum _ _ _ ho1.bytes).mono ?_
        rintro e w2 ⟨rfl, rfl⟩
        go_wp2_with fail
        refine (crc_more _ l _ _ (crcSum_lt _) hl).mono ?_
        rintro e w2 ⟨rfl, rfl⟩
        rw [← crcSum_append]
        go_wp2_with fail
        refine (num_four _ _ (crcSum_lt _)).mono ?_
        rintro e w3 ⟨v3, rfl, hb3, hbl3⟩
        have ho3 := ho1.below hbl3
        have hl3 := hl.below hbl3 rfl
        have hb4 : Below w.heap.size w w3 := hb1.trans (hbl3.mono hb1.size)
        have hf4 : Hid ((fourN (crcSum (H ++ l))).length = 4) := Lib.hid rfl
        generalize fourN (crcSum (H ++ l)) = F at *
        clear ho1 hl hbl3 hb1
        go_wp2_with (at_builtin; refine wpList_append_bytes 143 w.heap.size 5 Tryz.underlying143 info_u8 rfl _ _ rfl ho3 hb3 rfl rfl (by rw [hf4.out]; omega) hb4.size ?_)
        intro v5 w5 ho5 hg5 hk5
        have hb5 : Below w.heap.size w w5 := hb4.grown hg5 hb4.size (fun k hk => (ho3.lt k hk).1)
        have hl5 := hb.below hb5 rfl
        have hHF : (H ++ F).length ≤ 15 := by rw [List.length_append, hf4.out]; omega
        clear hg5 hk5 ho3 hb3 hl3 hb4
        go_wp2_with (at_builtin; refine wpList_append_bytes 143 w.heap.size 5 Tryz.underlying143 info_u8 rfl _ _ rfl ho5 hl5 rfl rfl (by omega) hb5.size ?_)
        intro v6 w6 ho6 hg6 hk6
        have hb6 : Below w.heap.size w w6 := hb5.grown hg6 hb5.size (fun k hk => (ho5.lt k hk).1)
        clear hg6 hk6 ho5 hl5 hb5
        go_wp2_with fail
        go_ret
        exact ⟨_, rfl, by rw [hS.out, List.append_assoc]; exact ho6, hb6⟩

end Go.Proofs.YtmddhlfjilkdfaaGreatDoor
namespace Go.Proofs.YtmddhlfjilkdfaaGreatDoor
set_option linter.unusedVariables false
set_option linter.unusedSimpArgs false
open Go.RowKit

section
variable {P : Program} {ρ : Q → Loc} {h : Hp} {w w' : World} {B : Nat}
theorem SoupI.to {e b0 n : Nat} {v : Value} (hI : SoupI P w w' e b0 v n) (h0 : 0 < n) : ∃ l, SoupTo P w w' e b0 v l n := by
  rcases hI.val with ⟨_, e⟩ | ⟨l, hV, hl⟩
  · omega
  · exact ⟨l, hV, hI.size, hI.os, hI.tape, hI.output, hI.frame, hl⟩
theorem SoupI.start {e n : Nat} {v : Value} {l : Loc} (hV : SoupV P w e v l n) : SoupI P w w e l.blk v n :=
  ⟨Nat.le_refl _, rfl, rfl, rfl, fun _ _ _ => rfl, .inr ⟨l, hV, .inl rfl⟩⟩
theorem SoupI.nil (e b0 : Nat) : SoupI P w w e b0 (.slice none 0 0) 0 := ⟨Nat.le_refl _, rfl, rfl, rfl, fun _ _ _ => rfl, .inl ⟨rfl, rfl⟩⟩
theorem OwnB.soup {base el : Nat} {v : Value} {l : List UInt8} (h : OwnB w base el v l) (hl : l ≠ []) (hc1 : P.cellsOf el = 1) : ∃ l', SoupV P w el v l' l.length ∧ base ≤ l'.blk := by
  rcases h.2 with ⟨_, h0⟩ | ⟨g, cap, cur, rfl, hb, hg, hnc, hcm, hcs, htake⟩
  · exact (hl (List.eq_nil_of_length_eq_zero h0)).elim
  · refine ⟨{ blk := g, base := 0, cap := cap }, ⟨rfl, hnc, by simpa [maxLen] using hcm, ⟨cur.size, by unfold World.shape?; simp only [hg], by simp [hc1, hcs], fun o _ => h.frozenAt o⟩, fun i hi => ⟨l[i], ?_⟩⟩, hb⟩
    show World.cell? w ⟨g, 0 + i, none⟩ = _
    rw [Nat.zero_add, h.cellAt i hi]
    rfl
theorem putN_few {n : Nat} (hn : n ≤ 8000) : (putN n).length ≤ 2 := by
  have hz : zig (n : Int) = 2 * n := by unfold zig; rw [if_neg (by omega)]; omega
  unfold putN
  rw [hz]
  unfold leb
  split
  · simp
  · unfold leb
    rw [if_pos (by omega)]
    simp
end
theorem putTextF_sound {o : FS} (ho : SoundF Tryz.prog 82 o) : SoundF Tryz.prog 82 (putTextF 5 o) := by
  refine arm2_sound (fun b s h => putTextG_det 5 b s h) (fun ρ h w B b s u v k E hb hx hk => ?_) ho
  obtain ⟨i, rfl, h1⟩ := Sy.on_os_spec hk
  cases hx with
  | os _ h0 hy =>
    have hsz := Nat.le_trans hy.2.1 (syLen_ok i)
    have hlo := hy.1
    have hhi := hy.2.1
    rcases dstY_sound E (elem1 elem8) hb h1 with ⟨rfl, h2⟩ | ⟨q, l, c, d, n, hlive, hlb, hV, g3, g4, h2⟩
    · rw [natK_eq, natK_eq] at h2
      obtain ⟨hn2, h2⟩ := ifT_le h2
      refine (soup_putText _ 0 (txt ρ i) w.heap.size w w (by omega) (by omega) (SoupI.nil _ _)).mono ?_
      rintro e w' ⟨v', n', rfl, g1, g2, hI⟩
      obtain ⟨l', hS⟩ := hI.to (by omega)
      exact Left.of_made (E.soup' hS h.t (fun _ => .inr rfl) (fun r hr e1 => by have := E.blk_lt' (q := r) hr; omega) (.inl (Nat.le_refl _)) (by show 0 + 1 + syLo i ≤ n'; omega) (by show n' ≤ 0 + 2 + syHi i; omega) h2)
    · rw [natK_eq, natK_eq] at h2
      obtain ⟨hn2, h2⟩ := ifT_le h2
      have hn2 : d + 2 + syHi i ≤ 900000 := hn2
      refine (soup_putText _ n (txt ρ i) l.blk w w (by omega) (by omega) (SoupI.start hV)).mono ?_
      rintro e w' ⟨v', n', rfl, g1, g2, hI⟩
      obtain ⟨l', hS⟩ := hI.to (by omega)
      exact Left.of_made (E.soup' hS (h.t.set .no q) (HT.get_drop q h.t) (fun r hr e1 => by
        by_cases e2 : r = q
        · subst e2; rw [HT.get_set_same] at hr; exact hr rfl
        · rw [HT.get_set_ne _ _ _ _ e2] at hr
          exact e2 (E.inj r q hr hlive (e1.trans hlb))) (.inr ⟨q, hlive, hlb.symm⟩) (by show c + 1 + syLo i ≤ n'; omega) (by show n' ≤ d + 2 + syHi i; omega) h2)
theorem sealK_sound {ρ : Q → Loc} {h : Hp} {w : World} {B : Nat} (E : Emb Tryz.prog ρ h w B) {kd : AV} {u v : Value} {lo hi : Nat} {l : List UInt8} (hu : Rel ρ h.nx.num kd u) (hb : Bytes w v l) (h1 : lo ≤ l.length) (h2 : l.length ≤ hi) {k : AV → Hp → Bool} (hk : sealK 5 kd lo hi h k = true) :
    Calls Tryz.prog 59 #[u, v] w (Left Tryz.prog ρ h w B k) := by
  obtain ⟨kk, n, rfl, k1⟩ := AV.on_i_spec hk
  obtain ⟨e3, k2⟩ := ifT_eq k1
  obtain ⟨e4, k3⟩ := ifT_le k2
  obtain ⟨e5, k4⟩ := ifT_le k3
  obtain ⟨e6, k5⟩ := ifT_le k4
  rw [natK_eq, natK_eq] at k5
  clear hk k1 k2 k3 k4
  obtain rfl := kN3 e3
  cases hu
  have e4 : 9223372036854775809 ≤ n := e4
  have e5 : n ≤ 9223372036854776063 := e5
  have hl4 : l.length ≤ 4000 := by omega
  refine (frame_seal _ v l w (by omega) (by omega) hb).mono ?_
  rintro e w' ⟨v', rfl, hO, hbw⟩
  have hlen := sealP_len (k := (n : Int) - 9223372036854775808) (b := l) (by omega) (by omega) hl4
  have hp1 := (putN_len (l.length : Int)).1
  have hp2 := putN_few (n := l.length) (by omega)
  generalize sealP ((n : Int) - 9223372036854775808) l = sl at *
  obtain ⟨l', hV, hl'⟩ := hO.soup (P := Tryz.prog) (by intro e; subst e; simp at hlen; omega) (elem1 elem8)
  have hS : SoupTo Tryz.prog w w' 5 w.heap.size v' l' sl.length := ⟨hV, hbw.size, hbw.os, hbw.tape, hbw.output, fun c hc _ => hbw.block c hc, .inr hl'⟩
  exact Left.of_made (E.soup' hS h.t (fun _ => .inr rfl) (fun r hr e1 => by have := E.blk_lt' (q := r) hr; omega) (.inl (Nat.le_refl _)) (by show lo + 6 ≤ sl.length; omega) (by show sl.length ≤ hi + 7; omega) k5)
theorem sealF_sound {o : FS} (ho : SoundF Tryz.prog 59 o) : SoundF Tryz.prog 59 (sealF 5 o) := by
  refine arm2_sound (fun b s h => sealG_det 5 b s h) (fun ρ h w B b s u v k E hb hx hk => ?_) ho
  cases s with
  | os i => cases hk
  | iv => cases hk
  | so q i =>
    have hk : ((HT.getR q h.t).onY fun oy => oy.on_op fun j => ifT (Nat.beq i j) (sealK 5 b (syLo i) (syHi i) h k)) = true := hk
    rw [HT.getR_eq] at hk
    obtain ⟨oy, hg, h3⟩ := OB.onY_spec hk
    obtain ⟨j, rfl, h4⟩ := Oy.on_op_spec h3
    obtain ⟨e1, h5⟩ := ifT_eq h4
    subst e1
    cases hx with
    | so _ _ c hq h0 hy hc hm =>
      have hO := (E.op q i hg).2
      refine sealK_sound (l := (txt ρ i).data.toList) E hb ⟨_, c, rfl, by simpa using hc, hm, fun _ => ⟨_, _, rfl, fun j hj => ?_⟩⟩ (by simpa using hy.1) (by simpa using hy.2.1) h5
      have hj2 : j < (txt ρ i).size := by simpa using hj
      rw [hO.2 j hj2]
      rfl
  | su q lo hi =>
    have hk : ((HT.getR q h.t).onY fun oy => oy.on_soup fun _ => sealK 5 b lo hi h k) = true := hk
    rw [HT.getR_eq] at hk
    obtain ⟨oy, hg, h3⟩ := OB.onY_spec hk
    obtain ⟨ty, rfl, h4⟩ := Oy.on_soup_spec h3
    cases hx with
    | su _ _ _ n c hq g1 g2 hf hc hm hxx =>
      have hS := E.soup q ty hg
      obtain ⟨olds, hol, hoc⟩ := soup_list (w := w) (b := (ρ q).blk) (o := (ρ q).base) (n := n) (fun i hi => hS.get i (by omega))
      subst hol
      refine sealK_sound (l := olds) E hb ⟨_, c, rfl, hc, hxx, fun _ => ⟨_, _, rfl, fun j hj => ?_⟩⟩ g1 g2 h4
      exact hoc j _ (by rw [List.getElem?_map, List.getElem?_eq_getElem hj]; rfl)
end Go.Proofs.YtmddhlfjilkdfaaGreatDoor
namespace Go.Proofs.YtmddhlfjilkdfaaGreatDoor
set_option linter.unusedVariables false
set_option linter.unusedSimpArgs false
open Go.RowKit Go.Shelf

def rV : Ren := ⟨fun f => match f with | 196 => 264 | _ => 272,
  fun t => match t with | 3 => 3 | 4 => 4 | 5 => 5 | 9 => 9 | 12 => 12 | 46 => 252 | 53 => 251 | 119 => 359 | 138 => 361 | 139 => 362 | _ => 0, fun g => match g with | 3 => 0 | _ => 1⟩
set_option maxRecDepth 100000 in
theorem layV : Lays.n196 Tryz.prog rV where
  mixed := by kernel_rfl
  f196 := by kernel_rfl
  f259 := by kernel_rfl
  t0 := by kernel_rfl
  a0 := fun _ => by kernel_rfl
  z0 := fun _ => by kernel_rfl
  v0 := fun _ => by kernel_rfl
  t3 := by kernel_rfl
  a3 := fun _ => by kernel_rfl
  z3 := fun _ => by kernel_rfl
  v3 := fun _ => by kernel_rfl
  t4 := by kernel_rfl
  a4 := fun _ => by kernel_rfl
  z4 := fun _ => by kernel_rfl
  v4 := fun _ => by kernel_rfl
  t5 := by kernel_rfl
  a5 := fun _ => by kernel_rfl
  z5 := fun _ => by kernel_rfl
  v5 := fun _ => by kernel_rfl
  t9 := by kernel_rfl
  a9 := fun _ => by kernel_rfl
  z9 := fun _ => by kernel_rfl
  v9 := fun _ => by kernel_rfl
  t12 := by kernel_rfl
  a12 := fun _ => by kernel_rfl
  z12 := fun _ => by kernel_rfl
  v12 := fun _ => by kernel_rfl
  t46 := by kernel_rfl
  a46 := fun _ => by kernel_rfl
  z46 := fun _ => by kernel_rfl
  v46 := fun _ => by kernel_rfl
  t53 := by kernel_rfl
  a53 := fun _ => by kernel_rfl
  z53 := fun _ => by kernel_rfl
  v53 := fun _ => by kernel_rfl
  t119 := by kernel_rfl
  a119 := fun _ => by kernel_rfl
  z119 := fun _ => by kernel_rfl
  t138 := by kernel_rfl
  a138 := fun _ => by kernel_rfl
  z138 := fun _ => by kernel_rfl
  v138 := fun _ => by kernel_rfl
  t139 := by kernel_rfl
  a139 := fun _ => by kernel_rfl
  z139 := fun _ => by kernel_rfl
  v139 := fun _ => by kernel_rfl
  g3 := by kernel_rfl
  g4 := by kernel_rfl
theorem exV : U8Extra Tryz.prog rV where
  n3 := by kernel_rfl
  n4 := by kernel_rfl
  y3 := by kernel_rfl
  y4 := by kernel_rfl
  c5 := by kernel_rfl
  c119 := by kernel_rfl
  c138 := by kernel_rfl
theorem cell?_keep {w0 w : World} (hk : ∀ b, b < w0.heap.size → w.heap[b]? = w0.heap[b]?) {a : Addr} {v : Value} (h : w0.cell? a = some v) : w.cell? a = some v := by
  by_cases hb : a.block < w0.heap.size
  · unfold World.cell? at *
    rw [hk _ hb]
    exact h
  · unfold World.cell? at h
    rw [Array.getElem?_eq_none (by omega)] at h
    simp at h
theorem tabs_utf8 {B : Nat} {w : World} (h : Tabs Tryz.prog B w) : Lib.Utf8Tabs (rV.g 3) (rV.g 4) w := by
  obtain ⟨w0, ⟨h3, h4⟩, _, hk⟩ := h
  have hT := utf8Tabs_of_readsT (U8Types.of196 layV) exV h3 h4
  exact ⟨fun c hc => cell?_keep hk (hT.1 c hc), fun i hi => ⟨cell?_keep hk (hT.2 i hi).1, cell?_keep hk (hT.2 i hi).2⟩⟩
theorem valid_walk (s : ByteArray) (w : World) (hs : s.size ≤ 9223372036854775807) (hT : Lib.Utf8Tabs (rV.g 3) (rV.g 4) w) : Calls Tryz.prog 232 #[.string s] w fun e w' => e = .returned (.bool (Lib.validD s.data.toList)) ∧ Below w.heap.size w w' := by
  have cV : Calls Tryz.prog 264 #[.string s] w _ := Any.utf8_ValidString layV s w hs hT
  generalize Lib.validD s.data.toList = V at cV ⊢
  go_enter Tryz.func232, Tryz.ntmps232
  go_wp2_with fail
  refine cV.mono ?_
  rintro e w1 ⟨rfl, hb⟩
  go_wp2_with fail
  go_ret
  exact ⟨rfl, hb⟩
theorem validF_sound {o : FS} (ho : SoundF Tryz.prog 232 o) : SoundF Tryz.prog 232 (validF o) := by
  refine arm1_sound validG_det (fun ρ h w B s v k E hx hk => ?_) ho
  obtain ⟨i, rfl, h1⟩ := Sy.on_os_spec hk
  obtain ⟨hi, h2⟩ := ifT_lt h1
  cases hx with
  | os _ h0 hy =>
    refine (valid_walk (txt ρ i) w (by have := hy.2.1; have := syLen_ok i; omega) (tabs_utf8 E.tab)).mono ?_
    rintro e w' ⟨rfl, hb⟩
    have hv : Lib.validD (txt ρ i).data.toList = true := by
      match i, hi with
      | 0, _ => exact hy.2.2.key.valid
      | 1, _ => exact hy.2.2.valid
    rw [hv]
    exact Left.of_below E hb (.b true) h2
end Go.Proofs.YtmddhlfjilkdfaaGreatDoor
namespace Go.Proofs.YtmddhlfjilkdfaaGreatDoor
set_option linter.unusedVariables false
set_option linter.unusedSimpArgs false
open Go.RowKit Go.Shelf

theorem Mzw (s : ByteArray) (pos : Nat) (h : pos < s.size) : 1 ≤ (Utf8.decode s pos).2 := by
  by_cases ha : (s[pos]'h).toNat < 128
  · rw [_root_.Go.decode_ascii s pos h ha]
    exact Nat.le_refl _
  · exact (decode_high s pos h (by omega)).2
set_option maxRecDepth 100000 in
set_option maxHeartbeats 1000000 in
theorem key_walk (s : ByteArray) (w : World) (hs : s.size ≤ 1000) (hT : Lib.Utf8Tabs (rV.g 3) (rV.g 4) w) (hk : KeyOk s.data.toList) : Calls Tryz.prog 177 #[.string s] w fun e w' => e = .returned (.bool true) ∧ Below w.heap.size w w' := by
  have h1 := hk.some_; have h2 := hk.few; have h3 := hk.good; have h4 := hk.valid
  have hl : s.data.toList.length = s.size := by simp
  generalize hL : s.data.toList = l at *
  generalize hN : (runesL l.length l).length = N at h1 h2
  go_enter Tryz.func177, Tryz.ntmps177
  go_wp2
  go_loopw [3, 5] (fun c _ wr => ∃ (pos f n : Nat), c = .int .i64 n ∧ wr.heap[w.heap.size]? = some (.stringIter s pos) ∧ Below w.heap.size w wr ∧ s.size - pos ≤ f ∧ n + (runesL f (l.drop pos)).length = N ∧ (∀ r ∈ runesL f (l.drop pos), 32 ≤ r ∧ r ≠ 127)) (fun _ _ wr => s.size - wr.iterPos w.heap.size)
  case atStart => exact ⟨0, l.length, 0, rfl, World.iter_heap w s 0, (Below.refl _ w).alloc (Nat.le_refl _) _, by omega, by simpa using hN, by simpa using h3⟩
  case round =>
    obtain ⟨pos, f, n, rfl, hit, hbw, hf, hn, hg⟩ := hrel
    have hsz : w.heap.size < wr.heap.size := (Array.getElem?_eq_some_iff.1 hit).1
    by_cases hp : pos < s.size
    · have hnx : ∀ ty, (Instr.next (.pointer (some ⟨w.heap.size, 0, none⟩)) true ty).run Tryz.prog wr = _ := fun ty => Lib.run_next_any_at wr w.heap.size s pos ty hit hp
      have hwd := Mzw s pos hp
      have hd1 := decode_le s pos
      have hit2 := Lib.iterAt_heap wr w.heap.size s pos (pos + (Utf8.decode s pos).2) hit
      have hbw2 := Lib.below_iterAt hbw (k := w.heap.size) (Nat.le_refl _) s (pos + (Utf8.decode s pos).2)
      obtain ⟨f, rfl⟩ : ∃ f', f = f' + 1 := ⟨f - 1, by omega⟩
      have hne : l.drop pos ≠ [] := by intro e; have := congrArg List.length e; simp at this; omega
      have hdec : Lib.decodeL (l.drop pos) = Utf8.decode s pos := by rw [← hL]; exact Lib.decodeL_drop s pos
      have hrun : runesL (f + 1) (l.drop pos) = (Utf8.decode s pos).1 :: runesL f (l.drop (pos + (Utf8.decode s pos).2)) := by
        rw [runesL, if_neg hne, hdec, List.drop_drop]
      rw [hrun] at hn hg
      obtain ⟨r1, r2⟩ := hg _ (List.mem_cons_self ..)
      have hg2 : ∀ r ∈ runesL f (l.drop (pos + (Utf8.decode s pos).2)), 32 ≤ r ∧ r ≠ 127 := fun r hr => hg r (List.mem_cons_of_mem _ hr)
      rw [List.length_cons] at hn
      clear hg hrun hdec hne
      generalize (Utf8.decode s pos).1 = r at *
      generalize (Utf8.decode s pos).2 = wd at *
      have z1 : ¬ ((r : Int) < 32) := by omega
      have z2 : ¬ ((r : Int) = 127) := by omega
      go_wp2_with fail
      go_roundw
      case rel => exact ⟨pos + wd, f, n + 1, by simp, hit2, hbw2, by omega, by omega, hg2⟩
      case measure =>
        simp only [World.iterPos, hit2, hit]
        omega
    · have hnx : ∀ ty, (Instr.next (.pointer (some ⟨w.heap.size, 0, none⟩)) true ty).run Tryz.prog wr = _ := fun ty => Lib.run_next_end_at wr w.heap.size s pos ty hit hp
      have he : l.drop pos = [] := List.drop_eq_nil_of_le (by omega)
      have hr0 : runesL f ([] : List UInt8) = [] := by cases f <;> rfl
      rw [he, hr0] at hn
      have hn2 : n = N := by simpa using hn
      have z1 : (1 : Int) ≤ (n : Int) := by omega
      have z2 : (n : Int) ≤ 40 := by omega
      have hT2 := Utf8Tabs_below hT hbw
      have cV := valid_walk s wr (by omega) hT2
      rw [hL, h4] at cV
      clear hT hT2 h3 hg hn hr0 he h4 hN h1 h2 hk
      go_wp2_with fail
      refine cV.mono ?_
      rintro e w1 ⟨rfl, hb⟩
      go_wp2_with fail
      go_ret
      exact ⟨rfl, hbw.trans (hb.mono hbw.size)⟩
theorem keyF_sound {o : FS} (ho : SoundF Tryz.prog 177 o) : SoundF Tryz.prog 177 (keyF o) := by
  refine arm1_sound keyG_det (fun ρ h w B s v k E hx hk => ?_) ho
  obtain ⟨i, rfl, h1⟩ := Sy.on_os_spec hk
  obtain ⟨hi, h2⟩ := ifT_eq h1
  subst hi
  cases hx with
  | os _ h0 hy =>
    refine (key_walk (txt ρ 0) w (by have := hy.2.1; have := syLen_ok 0; omega) (tabs_utf8 E.tab) hy.2.2.key).mono ?_
    rintro e w' ⟨rfl, hb⟩
    exact Left.of_below E hb (.b true) h2
end Go.Proofs.YtmddhlfjilkdfaaGreatDoor
namespace Go.Proofs.YtmddhlfjilkdfaaGreatDoor
set_option linter.unusedVariables false
set_option linter.unusedSimpArgs false
open Go.ChangeShapes Go.WideShapes Go.ChangeAt Go.RowKit

/-- Behind the step all is as it was, but for these blocks, and what is new. -/
structure Keeps (F : List Nat) (w w' : World) : Prop where
  os : w'.os = w.os
  tape : w'.tape = w.tape
  output : w'.output = w.output
  size : w.heap.size ≤ w'.heap.size
  block : ∀ k, k < w.heap.size → k ∉ F → w'.heap[k]? = w.heap[k]?

theorem Keeps.refl (F : List Nat) (w : World) : Keeps F w w := ⟨rfl, rfl, rfl, Nat.le_refl _, fun _ _ _ => rfl⟩
theorem Keeps.trans {F G : List Nat} {a b c : World} (h : Keeps F a b) (k : Keeps G b c) (hG : ∀ x ∈ G, x ∈ F ∨ a.heap.size ≤ x) : Keeps F a c :=
  ⟨k.os.trans h.os, k.tape.trans h.tape, k.output.trans h.output, Nat.le_trans h.size k.size, fun i hi hF =>
    (k.block i (Nat.lt_of_lt_of_le hi h.size) (fun hx => (hG i hx).elim hF (by omega))).trans (h.block i hi hF)⟩
theorem Keeps.mono {F G : List Nat} {w w' : World} (h : Keeps F w w') (hs : ∀ x ∈ F, x < w.heap.size → x ∈ G) : Keeps G w w' :=
  ⟨h.os, h.tape, h.output, h.size, fun k hk hG => h.block k hk fun hF => hG (hs k hF hk)⟩
theorem Keeps.of_below {F : List Nat} {w w' : World} (h : Below w.heap.size w w') : Keeps F w w' := ⟨h.os, h.tape, h.output, h.size, fun k hk _ => h.block k hk⟩
theorem Keeps.of_grown {w w' : World} {row : Option Nat} (h : w.grownBy w' row) : Keeps row.toList w w' :=
  ⟨h.os, h.tape, h.output, h.size, fun k hk hn => h.block k hk fun e => hn (by rw [← e]; simp)⟩
theorem Keeps.below {F : List Nat} {B : Nat} {w w' : World} (h : Keeps F w w') (hF : ∀ x ∈ F, B ≤ x) (hB : B ≤ w.heap.size) : Below B w w' :=
  ⟨h.os, h.tape, h.output, h.size, fun k hk => h.block k (Nat.lt_of_lt_of_le hk hB) fun hx => absurd (hF k hx) (by omega)⟩
theorem Keeps.alloc {F : List Nat} {a w : World} (h : Keeps F a w) (o : Obj) : Keeps F a (w.alloc o) :=
  ⟨h.os, h.tape, h.output, Nat.le_trans h.size (by show w.heap.size ≤ (w.heap.push o).size; simp), fun k hk hF => (Below.heap_alloc w o k (Nat.lt_of_lt_of_le hk h.size)).trans (h.block k hk hF)⟩
theorem Keeps.setCell {F : List Nat} {a w : World} (h : Keeps F a w) {p : Addr} (hp : p.block ∈ F ∨ a.heap.size ≤ p.block) (u : Value) : Keeps F a (w.setCell p u) :=
  ⟨h.os, h.tape, h.output, by simpa [World.setCell] using h.size, fun k hk hF => (Below.heap_setCell w p u k (by rintro rfl; exact hp.elim hF (by omega))).trans (h.block k hk hF)⟩
theorem Keeps.drew {F : List Nat} {a w : World} (h : Keeps F a w) : Keeps F a w.drew := ⟨h.os, h.tape, h.output, h.size, h.block⟩
theorem Keeps.cell {F : List Nat} {w w' : World} (h : Keeps F w w') {p : Addr} (hp : p.block < w.heap.size) (hF : p.block ∉ F) : w'.cell? p = w.cell? p := World.cell?_of_block (w := w) (h.block p.block hp hF)
theorem Keeps.frozen {F : List Nat} {w w' : World} (h : Keeps F w w') {p : Addr} (hp : p.block < w.heap.size) (hF : p.block ∉ F) : w'.frozen? p = w.frozen? p := World.frozen?_of_block (w := w) (h.block p.block hp hF)

/-- A slice value with a row of its own (or nil), and what stands in it. -/
def Row (w : World) (e : TypeId) (v : Value) (xs : List Value) : Prop := w.ownsRow 0 e 1 v xs.length xs

theorem Row.keeps {w w' : World} {e : TypeId} {v : Value} {xs : List Value} {F : List Nat} (h : Row w e v xs) (hk : Keeps F w w') (hF : ∀ g, v.ownBlock = some g → g ∉ F) : Row w' e v xs := by
  refine ⟨h.1, ?_⟩
  rcases h.2 with h2 | ⟨g, cap, cur, hv, hg, hh, r⟩
  · exact .inl h2
  · refine .inr ⟨g, cap, cur, hv, hg, ?_, r⟩
    rw [hk.block g (Array.getElem?_eq_some_iff.1 hh).1 (hF g (by rw [hv]; rfl))]
    exact hh

theorem Row.lt {w : World} {e : TypeId} {v : Value} {xs : List Value} (h : Row w e v xs) : ∀ g, v.ownBlock = some g → g < w.heap.size := by
  intro g hg
  rcases h.2 with ⟨rfl, _⟩ | ⟨g', cap, cur, rfl, _, hh, _⟩
  · cases hg
  · obtain rfl : g' = g := by simpa [Value.ownBlock] using hg
    exact (Array.getElem?_eq_some_iff.1 hh).1

theorem Row.reads {w : World} {e : TypeId} {v : Value} {xs : List Value} (h : Row w e v xs) : Reads w v xs := Reads.of_owns (n := xs.length) h
theorem Row.nil (w : World) (e : TypeId) : Row w e (.slice none 0 0) [] := World.ownsRow_nil w 0 e 1
theorem Row.slice {w : World} {e : TypeId} {v : Value} {xs : List Value} (h : Row w e v xs) : ∃ a n cap, v = .slice a n cap := by
  obtain ⟨a, cap, hv, _⟩ := h.reads
  exact ⟨a, _, cap, hv⟩
theorem Row.shape {w : World} {e : TypeId} {v : Value} {xs : List Value} (h : Row w e v xs) : ∃ a cap, v = .slice a xs.length cap := by
  obtain ⟨a, cap, hv, _⟩ := h.reads
  exact ⟨a, cap, hv⟩

section
variable {P : Program}
/-- 'append(out, src...)' of rows. -/
theorem wpList_append_row {w : World} {ops : Array Oper} {rest : List Oper} {o : Oper} {a : Act} {Q : Exit → Act → World → Prop} (t : TypeId) (e : TypeId) (z : Value) (bytes : Nat)
    (ht : P.underlying t = some (.slice e)) (hinfo : (P.info? e).map (fun i => (i.zero, i.size, i.bytes)) = some (some z, 1, bytes)) (hzs : z.cells.size = 1)
    (hgd : o.guard = none) (s x : Operand) (ho : o.op = .call { callee := .builtin .append, args := #[s, x], argTypes := #[t, t] })
    {v : Value} {l : List Value} (hown : Row w e v l) {src : Value} {m : List Value} (hsrc : Reads w src m) (h1 : ∀ u ∈ m, u.oneCell' = true) (hs : a.eval s = v) (hx : a.eval x = src)
    (h63 : l.length + m.length ≤ maxLen) (hlen : (l.length + m.length) * bytes ≤ 140737488355328)
    (h : ∀ v' w', Row w' e v' (l ++ m) → w.grownBy w' v.ownBlock → (∀ k, v'.ownBlock = some k → v.ownBlock = some k ∨ w.heap.size ≤ k) → wpList P ops Q rest (a.put o.dst v') w') : wpList P ops Q (o :: rest) a w := by
  obtain ⟨i, hi, hi'⟩ := Option.map_eq_some_iff.1 hinfo
  simp only [Prod.mk.injEq] at hi'
  obtain ⟨hz0, hz1, hz2⟩ := hi'
  obtain ⟨ao, cap, rfl, _, _, hc⟩ := hsrc
  refine wpList_append_src (P := P) hgd s x t ho 0 e i z 1 bytes ht hi hz0 hz1 hz2 hzs (by decide) v l.length l hs hown ao m.length cap m hx (by simp) (fun hm => ?_) h1 h63 hlen (Nat.zero_le _)
    (fun v' w' h1 h2 h3 => h v' w' (by unfold Row; rw [List.length_append]; exact h1) h2 h3)
  obtain ⟨b, off, rfl, hcc⟩ := hc (by intro e; subst e; exact hm rfl)
  refine ⟨_, rfl, fun j u hj => ?_⟩
  obtain ⟨hj', rfl⟩ := List.getElem?_eq_some_iff.1 hj
  rw [Addr.add_lit]
  exact hcc j hj'
end

/-- A literal slice that the walk has just built. -/
theorem Reads.fresh (w : World) (xs : List Value) (e : TypeId) (fr : Nat × Nat) (arr : Array Value) (n : Nat) (hn : n = xs.length) (h : arr = xs.toArray) (hl : xs.length ≤ 9223372036854775807) :
    Reads (w.alloc (.cells arr e fr)) (.slice (some ⟨w.heap.size, 0, none⟩) n n) xs := by
  subst h
  subst hn
  refine ⟨_, _, rfl, Nat.le_refl _, hl, fun _ => ⟨_, _, rfl, fun j hj => ?_⟩⟩
  rw [Nat.zero_add, cell_of_row (w.alloc _) w.heap.size j _ e fr (heap_alloc_new w _)]
  simp [hj]
end Go.Proofs.YtmddhlfjilkdfaaGreatDoor
namespace Go.Proofs.YtmddhlfjilkdfaaGreatDoor
set_option linter.unusedVariables false
set_option linter.unusedSimpArgs false
open Go.ChangeShapes Go.WideShapes Go.ChangeAt Go.RowKit

/-- A slice value that reads as integers of one kind. -/
def Ints (k : IntKind) (w : World) (v : Value) (zs : List Int) : Prop := Reads w v (zs.map (Value.int k)) ∧ ∀ n ∈ zs, (Lit.int k n).wf = true

theorem open_intsR {H : Type} {enc : TypeId × Value → H} {P : Program} {W : World} {base base' : Nat} {r : Reach} {t e : TypeId} {k : IntKind} {v : Value} {d : DataW H} {ps : List MemPlace}
    (ht : P.underlying t = some (.slice e)) (he : P.underlying e = some (.int k)) (hc : P.cellsOf e = 1) (hv : Value.okWide P W r base' t v) (h : DataW.Trod enc P W base (fun _ => true) true t v d ps) :
    ∃ zs, Ints k W v zs := by
  obtain ⟨a, len, cap, rfl⟩ := okWide_slice ht hv
  obtain ⟨fuel, hf⟩ := h
  rcases open_ints ht he hc hf with ⟨hcs, _⟩ | ⟨x, l, c, zs, hcs, _, hl, hm, hz, _, hcell, hwz⟩
  · simp [Value.cells] at hcs
    obtain ⟨rfl, rfl, rfl⟩ := hcs
    exact ⟨[], ⟨none, 0, rfl, by simp, by omega, fun h => absurd rfl h⟩, by simp⟩
  · simp [Value.cells] at hcs
    obtain ⟨rfl, rfl, rfl⟩ := hcs
    have hzl : zs.length = cap := by simpa using hz
    refine ⟨zs.take len, ⟨some x, cap, by simp; omega, by simp; omega, by simpa [maxLen] using hm, fun hne => ?_⟩, fun n hn => hwz n (List.mem_of_mem_take hn)⟩
    have h0 : 0 < len := by
      rcases Nat.eq_zero_or_pos len with e | e
      · subst e; simp at hne
      · exact e
    obtain ⟨b, off, spot⟩ := x
    have hc0 := hcell 0 (by omega)
    have hspot : spot = none := by simpa [Addr.add] using World.cell?_spot hc0
    subst hspot
    refine ⟨b, off, rfl, fun j hj => ?_⟩
    have hj' : j < len := by simp at hj; omega
    have := hcell j (by omega)
    rw [Addr.add_lit] at this
    rw [this]
    simp [List.getD, show j < zs.length by omega]

theorem wf_u8 {n : Int} (h : (Lit.int .u8 n).wf = true) : 0 ≤ n ∧ n ≤ 255 := by simpa [Lit.wf, IntKind.min, IntKind.max, IntKind.signed, IntKind.bits] using h
theorem wf_i64 {n : Int} (h : (Lit.int .i64 n).wf = true) : -9223372036854775808 ≤ n ∧ n ≤ 9223372036854775807 := by simpa [Lit.wf, IntKind.min, IntKind.max, IntKind.signed, IntKind.bits] using h
theorem wf_u32 {n : Int} (h : (Lit.int .u32 n).wf = true) : 0 ≤ n ∧ n ≤ 4294967295 := by simpa [Lit.wf, IntKind.min, IntKind.max, IntKind.signed, IntKind.bits] using h

theorem open_bytes {H : Type} {enc : TypeId × Value → H} {P : Program} {W : World} {base base' : Nat} {r : Reach} {t e : TypeId} {v : Value} {d : DataW H} {ps : List MemPlace}
    (ht : P.underlying t = some (.slice e)) (he : P.underlying e = some (.int .u8)) (hc : P.cellsOf e = 1) (hv : Value.okWide P W r base' t v) (h : DataW.Trod enc P W base (fun _ => true) true t v d ps) :
    ∃ l, Bytes W v l := by
  obtain ⟨zs, hr, hw⟩ := open_intsR ht he hc hv h
  refine ⟨zs.map fun n => UInt8.ofNat n.toNat, Reads.bytes ?_⟩
  have e : (zs.map fun n => UInt8.ofNat n.toNat).map byteV = zs.map (Value.int .u8) := by
    rw [List.map_map]
    apply List.map_congr_left
    intro n hn
    have := wf_u8 (hw n hn)
    simp only [Function.comp, byteV, UInt8.toNat_ofNat']
    congr 1
    omega
  rw [e]
  exact hr
end Go.Proofs.YtmddhlfjilkdfaaGreatDoor
namespace Go.Proofs.YtmddhlfjilkdfaaGreatDoor
set_option linter.unusedVariables false
set_option linter.unusedSimpArgs false
open Go.ChangeShapes Go.WideShapes Go.ChangeAt Go.RowKit

/-- A slice value that reads as int64 (or int). -/
def RI (w : World) (v : Value) (l : List Int) : Prop := Reads w v (l.map (Value.int .i64))

theorem RI.drewN {w : World} {v : Value} {l : List Int} (n : Nat) (h : RI w v l) : RI (w.drewN n) v l := Reads.below h (_root_.Go.below_drewN (Below.refl _ _) n) rfl

theorem RI.open_ {w : World} {v : Value} {l : List Int} (h : RI w v l) : ∃ a cap, v = .slice a l.length cap ∧ l.length ≤ cap ∧ cap ≤ 9223372036854775807 ∧
    Hid (∀ k (h : k < l.length), ∃ b off, a = some ⟨b, off, none⟩ ∧ b < w.heap.size ∧ w.cell? ⟨b, off + k, none⟩ = some (.int .i64 l[k])) := by
  obtain ⟨a, cap, hv, h1, h2, hc⟩ := h
  rw [List.length_map] at hv h1
  refine ⟨a, cap, hv, h1, h2, Lib.hid fun k hk => ?_⟩
  obtain ⟨b, off, rfl, hcell⟩ := hc (by intro e; rw [List.map_eq_nil_iff] at e; subst e; simp at hk)
  have := hcell k (by rw [List.length_map]; exact hk)
  rw [List.getElem_map] at this
  exact ⟨b, off, rfl, World.block_lt_of_cell? w _ this, this⟩

theorem mem_take_succ {l : List Int} {k : Nat} {x : Int} (hk : k < l.length) (h : x ∉ l.take k) (hx : x ≠ l[k]) : x ∉ l.take (k + 1) := by
  have : l.take (k + 1) = l.take k ++ [l[k]] := by simp
  rw [this, List.mem_append, List.mem_singleton]
  rintro (h1 | h1)
  · exact h h1
  · exact hx h1

theorem sl_index (v : Value) (l : List Int) (x : Int) (w : World) (h : RI w v l) :
    Calls Tryz.prog 267 #[v, .int .i64 x] w fun e w' => (∃ r : Int, e = .returned (.int .i64 r) ∧ (0 ≤ r ↔ x ∈ l)) ∧ w' = w := by
  obtain ⟨a, cap, rfl, hcap, hcm, hc⟩ := h.open_
  go_enter Tryz.func267, Tryz.ntmps267
  go_wp2_with fail
  go_loop [8] (fun i => ∃ k : Nat, k ≤ l.length ∧ i = .int .i64 k ∧ Hid (x ∉ l.take k)) (fun i => l.length - (intOf i).toNat)
  case atStart => exact ⟨0, by omega, rfl, Lib.hid (by simp)⟩
  case round =>
    obtain ⟨k, hk, rfl, hx⟩ := hrel
    by_cases hlt : k < l.length
    · obtain ⟨b, off, rfl, hbl, hcj⟩ := hc.out k hlt
      by_cases he : x = l[k]
      · have hmem : Hid (x ∈ l) := Lib.hid (by rw [he]; exact List.getElem_mem hlt)
        have hH := Lib.hid he
        rw [← he] at hcj
        clear he
        go_wp2_with fail
        go_ret
        exact ⟨⟨k, rfl, by constructor <;> intro _; exact hmem.out; omega⟩, rfl⟩
      · have hn := Lib.hid (mem_take_succ hlt hx.out he)
        have hte : (x == l[k]) = false := by simp [he]
        generalize l[k]'hlt = y at hcj he hte
        go_wp2_with fail
        go_round
        case rel => exact ⟨k + 1, by omega, by go_num, hn⟩
        case measure => simp [intOf]; omega
    · have hkl : k = l.length := by omega
      subst hkl
      have hx' : Hid (x ∉ l) := Lib.hid (by have := hx.out; rwa [List.take_length] at this)
      go_wp2_with fail
      go_ret
      exact ⟨⟨-1, rfl, by constructor; intro h; omega; intro h; exact absurd h hx'.out⟩, rfl⟩

theorem sl_contains (v : Value) (l : List Int) (x : Int) (w : World) (h : RI w v l) :
    Calls Tryz.prog 241 #[v, .int .i64 x] w fun e w' => e = .returned (.bool (decide (x ∈ l))) ∧ w' = w := by
  go_enter Tryz.func241, Tryz.ntmps241
  go_wp2_with fail
  refine (sl_index _ _ _ _ h).mono ?_
  rintro e w' ⟨⟨r, rfl, hr⟩, rfl⟩
  go_wp2_with fail
  go_ret
  exact ⟨rfl, rfl⟩

theorem conf_has (v : Value) (l : List Int) (x : Int) (w : World) (h : RI w v l) :
    Calls Tryz.prog 189 #[v, .int .i64 x] w fun e w' => e = .returned (.bool (decide (x ∈ l))) ∧ w' = w := by
  go_enter Tryz.func189, Tryz.ntmps189
  go_wp2_with fail
  refine (sl_contains _ _ _ _ h).mono ?_
  rintro e w' ⟨rfl, rfl⟩
  go_wp2_with fail
  go_ret
  exact ⟨rfl, rfl⟩

theorem ret_dec {p q : Prop} [Decidable p] [Decidable q] (h : p ↔ q) : Ending.returned (.bool (decide p)) = Ending.returned (.bool (decide q)) := by
  rw [decide_eq_decide.2 h]

def okAt (l : List Int) (i : Nat) : Bool := decide (1 ≤ l.getD i 0) && decide (l.getD i 0 ≤ 7) && (i == 0 || decide (l.getD (i - 1) 0 < l.getD i 0))
def mayC (l : List Int) : Bool := (List.range l.length).all (okAt l) && decide (0 < l.length)

theorem mayC_no {l : List Int} {k : Nat} (hk : k < l.length) (h : okAt l k = false) : mayC l = false := by
  unfold mayC
  rw [Bool.and_eq_false_iff]
  left
  rw [List.all_eq_false]
  exact ⟨k, List.mem_range.2 hk, by simp [h]⟩
theorem mayC_all {l : List Int} (h : ∀ j, j < l.length → okAt l j = true) : mayC l = decide (0 < l.length) := by
  unfold mayC
  rw [List.all_eq_true.2 (fun j hj => h j (List.mem_range.1 hj)), Bool.true_and]

theorem conf_may (v : Value) (l : List Int) (w : World) (h : RI w v l) :
    Calls Tryz.prog 42 #[v] w fun e w' => e = .returned (.bool (mayC l)) ∧ w' = w := by
  obtain ⟨a, cap, rfl, hcap, hcm, hc⟩ := h.open_
  go_enter Tryz.func42, Tryz.ntmps42
  go_wp2_with fail
  go_loop [7] (fun i => ∃ k : Nat, k ≤ l.length ∧ i = .int .i64 k ∧ Hid (∀ j, j < k → okAt l j = true)) (fun i => l.length - (intOf i).toNat)
  case atStart => exact ⟨0, by omega, rfl, Lib.hid (by intro j hj; omega)⟩
  case round =>
    obtain ⟨k, hk, rfl, hx⟩ := hrel
    by_cases hlt : k < l.length
    · obtain ⟨b, off, rfl, hbl, hcj⟩ := hc.out k hlt
      have hd : Hid (l.getD k 0 = l[k]) := Lib.hid (by simp [List.getD, hlt])
      have hno := fun h => mayC_no hlt h
      have hso : Hid (okAt l k = true → ∀ j, j < k + 1 → okAt l j = true) := Lib.hid fun h j hj => by
        rcases Nat.lt_succ_iff_lt_or_eq.1 hj with h1 | h1
        · exact hx.out j h1
        · rw [h1]; exact h
      by_cases hk0 : k = 0
      · subst hk0
        have hok : Hid (okAt l 0 = (decide (1 ≤ l[0]) && decide (l[0] ≤ 7))) := Lib.hid (by unfold okAt; rw [hd.out]; simp)
        clear hx hd
        rw [Nat.add_zero] at hcj
        generalize l[0]'hlt = x at hcj hok
        by_cases h1 : x < 1
        · have hm := Lib.hid (hno (by rw [hok.out]; simp; omega))
          clear hno
          go_wp2_with fail
          go_ret
          exact ⟨by rw [hm.out]; rfl, rfl⟩
        · by_cases h2 : 7 < x
          · have hm := Lib.hid (hno (by rw [hok.out]; simp; omega))
            clear hno
            go_wp2_with fail
            go_ret
            exact ⟨by rw [hm.out]; rfl, rfl⟩
          · have hs := Lib.hid (hso.out (by rw [hok.out]; simp; omega))
            clear hno hso
            go_wp2_with fail
            go_round
            case rel => exact ⟨1, by omega, by go_num, hs⟩
            case measure => simp [intOf]; omega
      · obtain ⟨b', off', hbo, _, hcj'⟩ := hc.out (k - 1) (by omega)
        simp only [Option.some.injEq, Addr.mk.injEq] at hbo
        obtain ⟨rfl, rfl, -⟩ := hbo
        have hd' : Hid (l.getD (k - 1) 0 = l[k - 1]'(by omega)) := Lib.hid (by simp [List.getD, show k - 1 < l.length by omega])
        have hok : Hid (okAt l k = (decide (1 ≤ l[k]) && decide (l[k] ≤ 7) && decide (l[k - 1]'(by omega) < l[k]))) := Lib.hid (by unfold okAt; rw [hd.out, hd'.out, show (k == 0) = false from beq_eq_false_iff_ne.2 hk0, Bool.false_or])
        clear hx hd hd'
        generalize l[k]'hlt = x at hcj hok
        generalize l[k - 1]'(by omega) = y at hcj' hok
        obtain ⟨m, rfl⟩ : ∃ m, k = m + 1 := ⟨k - 1, by omega⟩
        rw [show m + 1 - 1 = m from rfl] at hcj'
        by_cases h1 : x < 1
        · have hm := Lib.hid (hno (by rw [hok.out]; simp; omega))
          clear hno
          go_wp2_with fail
          go_ret
          exact ⟨by rw [hm.out]; rfl, rfl⟩
        · by_cases h2 : 7 < x
          · have hm := Lib.hid (hno (by rw [hok.out]; simp; omega))
            clear hno
            go_wp2_with fail
            go_ret
            exact ⟨by rw [hm.out]; rfl, rfl⟩
          · by_cases h3 : x ≤ y
            · have hm := Lib.hid (hno (by rw [hok.out]; simp; omega))
              clear hno
              go_wp2_with fail
              go_ret
              exact ⟨by rw [hm.out]; rfl, rfl⟩
            · have hs := Lib.hid (hso.out (by rw [hok.out]; simp; omega))
              clear hno hso
              go_wp2_with fail
              go_round
              case rel => exact ⟨m + 1 + 1, by omega, by go_num, hs⟩
              case measure => simp [intOf]; omega
    · have hkl : k = l.length := by omega
      subst hkl
      have hm := Lib.hid (mayC_all hx.out)
      go_wp2_with fail
      go_ret
      exact ⟨by rw [hm.out]; first | rfl | simp, rfl⟩

/-- How many of them say yes. -/
def cnt (yes : List Int) (l : List Int) : Nat := l.countP fun x => decide (x ∈ yes)
theorem cnt_le (yes l : List Int) : cnt yes l ≤ l.length := List.countP_le_length
theorem cnt_snoc (yes l : List Int) (k : Nat) (h : k < l.length) : cnt yes (l.take (k + 1)) = cnt yes (l.take k) + if l[k] ∈ yes then 1 else 0 := by
  have : l.take (k + 1) = l.take k ++ [l[k]] := by simp
  rw [this]
  unfold cnt
  rw [List.countP_append, List.countP_singleton]
  simp only [decide_eq_true_eq]
def majC (l yes : List Int) : Bool := mayC l && decide (2 * cnt yes l > l.length)

theorem conf_majority (v0 v1 : Value) (l yes : List Int) (w : World) (h : RI w v0 l) (hy : RI w v1 yes) (hl : l.length ≤ 4611686018427387903) :
    Calls Tryz.prog 244 #[v0, v1] w fun e w' => e = .returned (.bool (majC l yes)) ∧ w' = w := by
  obtain ⟨a, cap, rfl, hcap, hcm, hc⟩ := h.open_
  go_enter Tryz.func244, Tryz.ntmps244
  go_wp2_with fail
  go_loop [5, 10] (fun n i => ∃ k : Nat, k ≤ l.length ∧ i = .int .i64 k ∧ n = .int .i64 (cnt yes (l.take k) : Nat)) (fun _ i => l.length - (intOf i).toNat)
  case atStart => exact ⟨0, by omega, rfl, rfl⟩
  case round =>
    obtain ⟨k, hk, rfl, rfl⟩ := hrel
    by_cases hlt : k < l.length
    · obtain ⟨b, off, rfl, hbl, hcj⟩ := hc.out k hlt
      have hsn := cnt_snoc yes l k hlt
      have hle := cnt_le yes (l.take k)
      rw [List.length_take] at hle
      by_cases hin : l[k] ∈ yes
      · have HS : Hid (cnt yes (l.take (k + 1)) = cnt yes (l.take k) + 1) := Lib.hid (by rw [hsn, if_pos hin])
        have hin := Lib.hid (decide_eq_true hin)
        clear hsn
        generalize l[k]'hlt = x at hcj hin
        generalize cnt yes (l.take k) = c at *
        go_wp2_with fail
        refine (conf_has _ _ _ _ hy).mono ?_
        rintro e w' ⟨rfl, rfl⟩
        rw [hin.out]
        go_wp2_with fail
        go_round
        case rel => exact ⟨k + 1, by omega, by go_num, by rw [HS.out]; go_num⟩
        case measure => simp [intOf]; omega
      · have HS : Hid (cnt yes (l.take (k + 1)) = cnt yes (l.take k)) := Lib.hid (by rw [hsn, if_neg hin]; rfl)
        have hin := Lib.hid (decide_eq_false hin)
        clear hsn
        generalize l[k]'hlt = x at hcj hin
        generalize cnt yes (l.take k) = c at *
        go_wp2_with fail
        refine (conf_has _ _ _ _ hy).mono ?_
        rintro e w' ⟨rfl, rfl⟩
        rw [hin.out]
        go_wp2_with fail
        go_round
        case rel => exact ⟨k + 1, by omega, by go_num, by rw [HS.out]⟩
        case measure => simp [intOf]; omega
    · have hkl : k = l.length := by omega
      subst hkl
      rw [List.take_length]
      have hle := cnt_le yes l
      have hM : Hid (majC l yes = (mayC l && decide (2 * cnt yes l > l.length))) := Lib.hid rfl
      go_wp2_with fail
      refine (conf_may _ _ _ h).mono ?_
      rintro e w' ⟨rfl, rfl⟩
      generalize cnt yes l = c at *
      generalize mayC l = m at *
      cases m
      · go_wp2_with fail
        go_ret
        exact ⟨by rw [hM.out]; rfl, rfl⟩
      · go_wp2_with fail
        go_ret
        refine ⟨?_, rfl⟩
        rw [hM.out, Bool.true_and]
        exact ret_dec (by omega)
end Go.Proofs.YtmddhlfjilkdfaaGreatDoor
namespace Go.Proofs.YtmddhlfjilkdfaaGreatDoor
set_option linter.unusedVariables false
set_option linter.unusedSimpArgs false
open Go.ChangeShapes Go.WideShapes Go.ChangeAt Go.RowKit

theorem info_i64 : (Tryz.prog.info? 3).map (fun i => (i.zero, i.size, i.bytes)) = some (some (.int .i64 0), 1, 8) := by kernel_rfl

/-- A row of integers of its own. -/
def RowI (w : World) (v : Value) (l : List Int) : Prop := Row w 3 v (l.map (Value.int .i64))
theorem RowI.ri {w : World} {v : Value} {l : List Int} (h : RowI w v l) : RI w v l := Row.reads h
theorem RowI.keeps {w w' : World} {v : Value} {l : List Int} {F : List Nat} (h : RowI w v l) (hk : Keeps F w w') (hF : ∀ g, v.ownBlock = some g → g ∉ F) : RowI w' v l := Row.keeps h hk hF
theorem RowI.nil (w : World) : RowI w (.slice none 0 0) [] := Row.nil w _
theorem ints_oneCell (l : List Int) : ∀ u ∈ l.map (Value.int .i64), u.oneCell' = true := by
  intro u hu
  obtain ⟨_, _, rfl⟩ := List.mem_map.1 hu
  rfl

/-- What a call yields: a new row of integers. -/
def RetRow (w : World) (l : List Int) (e : Ending) (w' : World) : Prop :=
  ∃ v, e = .returned v ∧ RowI w' v l ∧ Below w.heap.size w w' ∧ ∀ k, v.ownBlock = some k → w.heap.size ≤ k

theorem Row.empty (w : World) (e : TypeId) : Row (w.alloc (.cells #[] e)) e (.slice (some ⟨w.heap.size, 0, none⟩) 0 0) [] := by
  refine ⟨rfl, .inr ⟨w.heap.size, 0, #[], rfl, Nat.zero_le _, ?_, Nat.le_refl _, by decide, rfl, rfl⟩⟩
  exact heap_alloc_new w _

theorem sl_clone (v : Value) (l : List Int) (w : World) (h : RI w v l) (hl : l.length ≤ 1000000000) :
    Calls Tryz.prog 242 #[v] w fun e w' => RetRow w l e w' := by
  have hh := h
  obtain ⟨a, cap, rfl, hcap, hcm, hc⟩ := h
  rw [List.length_map] at hcap
  cases a with
  | none =>
    have hl0 : l = [] := by
      cases l with
      | nil => rfl
      | cons x l => obtain ⟨b, off, h, _⟩ := hc (by simp); cases h
    subst hl0
    have he : ∀ w : World, (binOp .eql 45 (.slice none 0 cap) (.slice none 0 0)).run Tryz.prog w = .ok (.bool true) w := fun W => Lib.run_eql_slice_nil_nil W _ _ Tryz.underlying45
    go_enter Tryz.func242, Tryz.ntmps242
    go_wp2_with fail
    go_ret
    exact ⟨_, rfl, RowI.nil _, Below.refl _ _, fun k hk => by cases hk⟩
  | some ad =>
    have hr := (Reads.below hh ((Below.refl w.heap.size w).alloc (Nat.le_refl _) (.cells #[] 3)) rfl)
    have he : ∀ w : World, (binOp .eql 45 (.slice (some ad) l.length cap) (.slice none 0 0)).run Tryz.prog w = .ok (.bool false) w := fun W => Lib.run_eql_slice_some_nil W _ _ _ Tryz.underlying45
    clear hc hh
    go_enter Tryz.func242, Tryz.ntmps242
    go_wp2_with (at_builtin; refine wpList_append_row 45 3 (.int .i64 0) 8 Tryz.underlying45 info_i64 rfl rfl _ _ rfl (Row.empty w _) hr (ints_oneCell l) rfl rfl (by simp [maxLen]; omega) (by simp; omega) ?_)
    intro v' w' ho hg hk
    have hb : Below w.heap.size w w' := ((Below.refl w.heap.size w).alloc (Nat.le_refl _) _).grown hg (by simp) (fun k hk => by simp [Value.ownBlock] at hk; omega)
    have hk' : ∀ k, v'.ownBlock = some k → w.heap.size ≤ k := fun k h => by
      rcases hk k h with h | h
      · simp [Value.ownBlock] at h; omega
      · omega
    clear hk hg
    go_wp2_with fail
    go_ret
    exact ⟨_, rfl, ho, hb, hk'⟩
end Go.Proofs.YtmddhlfjilkdfaaGreatDoor
namespace Go.Proofs.YtmddhlfjilkdfaaGreatDoor
set_option linter.unusedVariables false
set_option linter.unusedSimpArgs false
open Go.ChangeShapes Go.WideShapes Go.ChangeAt Go.RowKit

/-- Servers, as they are written. -/
def decC (l : List UInt8) : List Int := l.map fun c => (c.toNat : Int) - 48
theorem decC_snoc (s : ByteArray) (k : Nat) (h : k < s.size) : decC (s.data.toList.take (k + 1)) = decC (s.data.toList.take k) ++ [((s[k]).toNat : Int) - 48] := by
  have : s.data.toList.take (k + 1) = s.data.toList.take k ++ [s[k]] := by
    rw [List.take_succ_eq_append_getElem (by rw [size_data]; exact h)]; rfl
  rw [this]
  simp [decC]
set_option maxHeartbeats 1000000 in
theorem conf_decode_no (s : ByteArray) (w : World) (hs : s.size ≤ 1000000000) (hno : mayC (decC s.data.toList) = false) :
    Calls Tryz.prog 198 #[.string s] w fun e w' => e = .returned (.tuple #[.slice none 0 0, .bool false]) ∧ Below w.heap.size w w' := by
  go_enter Tryz.func198, Tryz.ntmps198
  go_wp2_with fail
  go_loopw [4, 8] (fun v i wr => ∃ k : Nat, k ≤ s.size ∧ i = .int .i64 k ∧ RowI wr v (decC (s.data.toList.take k)) ∧ (∀ g, v.ownBlock = some g → w.heap.size ≤ g) ∧ Below w.heap.size w wr) (fun _ i _ => s.size - (intOf i).toNat)
  case atStart => exact ⟨0, by omega, rfl, RowI.nil _, (fun g h => by cases h), Below.refl _ _⟩
  case round =>
    obtain ⟨k, hk, rfl, hr, hg, hbel⟩ := hrel
    have hll : (decC (s.data.toList.take k)).length ≤ 1000000000 := by
      unfold decC
      rw [List.length_map, List.length_take]
      omega
    by_cases hlt : k < s.size
    · have HU := Lib.hid (decC_snoc s k hlt)
      have hc8 := s[k].toNat_lt
      have HG := Lib.hid hg
      have hb := fun x => (Below.refl wr.heap.size wr).alloc (Nat.le_refl _) (.cells #[Value.int .i64 x] 3)
      have hown : ∀ x, Row (wr.alloc (.cells #[Value.int .i64 x] 3)) 3 _ ((decC (s.data.toList.take k)).map (Value.int .i64)) := fun x => RowI.keeps hr (Keeps.of_below (F := []) (hb x)) (by simp)
      have hsrc := fun x : Int => Reads.fresh wr ([x].map (Value.int .i64)) 3 (0, 0) #[.int .i64 x] 1 rfl rfl (by simp)
      have HB := Lib.hid hb
      have HOWN := Lib.hid hown
      have HSRC := Lib.hid hsrc
      clear hr hg hb hown hsrc
      generalize decC (s.data.toList.take k) = Y at *
      go_wp2_with (at_builtin; refine wpList_append_row 45 3 (.int .i64 0) 8 Tryz.underlying45 info_i64 rfl rfl _ _ rfl (HOWN.out (((s[k]).toNat : Int) - 48)) (HSRC.out (((s[k]).toNat : Int) - 48)) (ints_oneCell [((s[k]).toNat : Int) - 48]) rfl rfl (by simp [maxLen]; omega) (by simp; omega) ?_)
      intro v2 w2 ho hg2 hk2
      have hbz : Below w.heap.size w w2 := (hbel.alloc hbel.size _).grown hg2 (by have := hbel.size; simp; omega) HG.out
      have hoo : RowI w2 v2 (Y ++ [((s[k]).toNat : Int) - 48]) := by unfold RowI; rw [List.map_append]; exact ho
      have hgz : ∀ g, v2.ownBlock = some g → w.heap.size ≤ g := fun g h => (hk2 g h).elim (HG.out g) (fun h => by have := hbel.size; omega)
      clear ho hg2 hk2
      go_wp2_with fail
      go_roundw
      case rel => exact ⟨k + 1, by omega, by go_num, by rw [HU.out]; exact hoo, hgz, hbz⟩
      case measure => simp [intOf]; omega
    · obtain rfl : k = s.size := by omega
      have hri := hr.ri
      rw [List.take_of_length_le (by rw [size_data]; omega)] at hri hr hll
      obtain ⟨a4, n4, c4, rfl⟩ := Row.slice hr
      clear hr hg
      generalize decC s.data.toList = Y at *
      go_wp2_with fail
      refine (conf_may _ Y _ hri).mono ?_
      rintro e w' ⟨rfl, rfl⟩
      rw [hno]
      clear hno
      go_wp2_with fail
      go_ret2
      exact ⟨rfl, hbel⟩
end Go.Proofs.YtmddhlfjilkdfaaGreatDoor
namespace Go.Proofs.YtmddhlfjilkdfaaGreatDoor
set_option linter.unusedVariables false
set_option linter.unusedSimpArgs false
open Go.RowKit

theorem confF_sound {o : FS} (ho : SoundF Tryz.prog 198 o) : SoundF Tryz.prog 198 (confF o) := by
  refine arm1_sound confG_det (fun ρ h w B s v k E hx hk => ?_) ho
  obtain ⟨i, rfl, h1⟩ := Sy.on_os_spec hk
  obtain ⟨hi, h2⟩ := ifT_eq h1
  subst hi
  cases hx with
  | os _ h0 hy =>
    have hm : mayC (decC (txt ρ 2).data.toList) = false := by
      rw [hy.2.2.enc]
      exact mayC_no (k := 0) (by simp [encD, decC]) (by simp [encD, decC, okAt])
    refine (conf_decode_no (txt ρ 2) w (by have := hy.2.1; have := syLen_ok 2; omega) hm).mono ?_
    rintro e w' ⟨rfl, hb⟩
    exact Left.of_below E hb (.t _ [_, _] (.cons _ _ _ _ .ns (.cons _ _ _ _ (.b false) .nil))) h2
end Go.Proofs.YtmddhlfjilkdfaaGreatDoor
namespace Go.Proofs.YtmddhlfjilkdfaaGreatDoor
set_option linter.unusedVariables false
set_option linter.unusedSimpArgs false
open Go.RowKit

theorem run_append_src2 {P : Program} {w : World} (t ot : TypeId)
    (base : Nat) (e : TypeId) (i : TypeInfo) (z : Value) (size bytes : Nat) (ht : P.underlying t = some (.slice e)) (hi : P.info? e = some i) (hz : i.zero = some z)
    (hsize : i.size = size) (hby : i.bytes = bytes) (hzs : z.cells.size = size) (hsz : 0 < size)
    (v : Value) (n : Nat) (xs : List Value) (hown : w.ownsRow base e size v n xs)
    (ao : Option Addr) (m c : Nat) (news : List Value) (hl : news.length = m * size)
    (hnews : m ≠ 0 → ∃ ad, ao = some ad ∧ ∀ j u, news[j]? = some u → w.cell? (ad.add j) = some u) (h1 : ∀ u ∈ news, u.oneCell' = true)
    (h63 : n + m ≤ maxLen) (hbytes : (n + m) * bytes ≤ 140737488355328) (hbase : base ≤ w.heap.size) :
    ∃ v' w', (Builtin.append_ #[t, t] ot #[v, .slice ao m c]).run P w = .ok v' w' ∧ w'.ownsRow base e size v' (n + m) (xs ++ news) ∧ w.grownBy w' v.ownBlock ∧ (∀ k, v'.ownBlock = some k → v.ownBlock = some k ∨ w.heap.size ≤ k) ∧ w'.ownsRow base e size v n xs := by
  by_cases hm : m = 0
  · subst hm
    have hn : news = [] := List.eq_nil_of_length_eq_zero (by simpa using hl)
    subst hn
    have hrun : (Builtin.append_ #[t, t] ot #[v, .slice ao 0 c]).run P w = .ok v w := by
      rcases hown.2 with ⟨rfl, rfl⟩ | ⟨g, cap, cur, rfl, _, _, hnc, _⟩
      · cases ao <;> simp [Builtin.append_, run_underlying ht, sizeOf, typeInfo, hi, Builtin.lenOf, Builtin.firstCells, loadCells, loadCellsFrom]
      · cases ao <;> simp [Builtin.append_, run_underlying ht, sizeOf, typeInfo, hi, Builtin.lenOf, Builtin.firstCells, hnc, storeCells, loadCells, loadCellsFrom]
    exact ⟨v, w, hrun, by simpa using hown, ⟨rfl, rfl, rfl, Nat.le_refl _, fun _ _ _ => rfl⟩, fun k hk => .inl hk, hown⟩
  · obtain ⟨ad, rfl, hc⟩ := hnews hm
    subst hsize
    subst hby
    have hsmall : n + m ≤ 9223372036854775807 := by simp only [maxLen] at h63; omega
    have hlen : (xs ++ news).length = (n + m) * i.size := by rw [List.length_append, hown.1, hl, Nat.add_mul]
    have grown : ∀ (old : Nat), old < n + m → ∀ (row : Option Nat),
        (w.drew.alloc (.cells (xs.toArray ++ news.toArray ++ Builtin.zeroCells z.cells (grownCap w (n + m) old e - (n + m))) e)).ownsRow base e i.size
          (.slice (some ⟨w.heap.size, 0, none⟩) (n + m) (grownCap w (n + m) old e)) (n + m) (xs ++ news) ∧
        w.grownBy (w.drew.alloc (.cells (xs.toArray ++ news.toArray ++ Builtin.zeroCells z.cells (grownCap w (n + m) old e - (n + m))) e)) row := by
      intro old ho row
      have hge := grownCap_ge w (n + m) old e
      have hcm : grownCap w (n + m) old e ≤ maxLen := grownCap_le_maxLen w (n + m) old e h63
      refine ⟨⟨hlen, .inr ⟨w.heap.size, _, _, rfl, hbase, _root_.Go.heap_alloc_new w.drew _, hge, hcm, ?_, ?_⟩⟩, ⟨rfl, rfl, rfl, by simp, fun k hk _ => Below.heap_alloc w.drew _ k hk⟩⟩
      · simp only [Array.size_append, List.size_toArray, size_zeroCells, hzs, hown.1, hl, ← Nat.add_mul]
        congr 1
        omega
      · simp only [Array.toList_append, List.append_assoc]
        rw [← List.append_assoc, ← hlen]
        exact List.take_left
    rcases hown.2 with ⟨rfl, rfl⟩ | ⟨g, cap, cur, rfl, hbg, hg, hnc, hcm, hcs, htake⟩
    · have hx : xs = [] := List.eq_nil_of_length_eq_zero (by simpa using hown.1)
      subst hx
      have hr := run_append_nil (P := P) w t ot e i z ht hi hz ad m c news hl hc (by omega) (by omega) (by have hb := hbytes; simp only [Nat.zero_add] at hb; omega)
      have hgr := grown 0 (by omega) (Value.ownBlock (.slice none 0 0))
      simp only [Nat.zero_add, List.nil_append, Array.empty_append] at hgr ⊢
      exact ⟨_, _, hr, hgr.1, hgr.2, fun k hk => .inr (by simp [Value.ownBlock] at hk; omega), World.ownsRow_nil _ _ _ _⟩
    · by_cases hroom : n + m ≤ cap
      · have hfit : n * i.size + news.length ≤ cur.size := by rw [hl, hcs, ← Nat.add_mul]; exact Nat.mul_le_mul_right _ hroom
        have hr := run_append_room (P := P) w t ot e i ht hi g n cap cur hg ad m c news hl hc h1 hroom hfit
        refine ⟨_, _, hr, ⟨hlen, .inr ⟨g, cap, _, rfl, hbg, setRow_heap w g cur _ e _ hg, hroom, hcm, ?_, ?_⟩⟩, ⟨rfl, rfl, rfl, by simp, fun k _ hk => setRow_other w g k _ (fun e => hk (by simp [Value.ownBlock, e]))⟩, fun k hk => .inl hk, ⟨hown.1, .inr ⟨g, cap, _, rfl, hbg, setRow_heap w g cur _ e _ hg, hnc, hcm, ?_, ?_⟩⟩⟩
        · simp only [List.size_toArray, List.length_append, List.length_take, List.length_drop, Array.length_toList]
          omega
        · rw [htake, ← hlen]
          exact List.take_left
        · simp only [List.size_toArray, List.length_append, List.length_take, List.length_drop, Array.length_toList]
          omega
        · show List.take (n * i.size) _ = xs
          simp only [htake, List.append_assoc]
          rw [← hown.1]
          exact List.take_left
      · have holds : ∀ j u, xs[j]? = some u → w.cell? ((⟨g, 0, none⟩ : Addr).add j) = some u := hown.cells (g := g) rfl
        have hr := run_append_grow (P := P) w t ot e i z ht hi hz ⟨g, 0, none⟩ n cap xs hown.1 holds ad m c news hl hc (by omega) (by omega) (growslice_fits (by omega) hbytes)
        have hgr := grown cap (by omega) (Value.ownBlock (.slice (some ⟨g, 0, none⟩) n cap))
        exact ⟨_, _, hr, hgr.1, hgr.2, fun k hk => .inr (by simp [Value.ownBlock] at hk; omega), World.ownsRow.alloc (w := w.drew) hown _⟩
theorem wpList_append_bytes2 {P : Program} {w : World} {ops : Array Oper} {rest : List Oper} {o : Oper} {a : Act} {Q : Exit → Act → World → Prop} (t : TypeId) (base : Nat) (e : TypeId)
    (ht : P.underlying t = some (.slice e)) (hinfo : (P.info? e).map (fun i => (i.zero, i.size, i.bytes)) = some (some (.int .u8 0), 1, 1))
    (hgd : o.guard = none) (s x : Operand) (ho : o.op = .call { callee := .builtin .append, args := #[s, x], argTypes := #[t, t] })
    {v : Value} {l : List UInt8} (hown : OwnB w base e v l) {src : Value} {m : List UInt8} (hsrc : Bytes w src m) (hs : a.eval s = v) (hx : a.eval x = src)
    (hlen : l.length + m.length ≤ 140737488355328) (hbase : base ≤ w.heap.size)
    (h : ∀ v' w', OwnB w' base e v' (l ++ m) → w.grownBy w' v.ownBlock → (∀ k, v'.ownBlock = some k → v.ownBlock = some k ∨ w.heap.size ≤ k) → OwnB w' base e v l → wpList P ops Q rest (a.put o.dst v') w') : wpList P ops Q (o :: rest) a w := by
  obtain ⟨i, hi, hz0, hz1, hz2⟩ := info_parts hinfo
  obtain ⟨ao, cap, rfl, _, _, hc⟩ := hsrc
  obtain ⟨v', w', hr, h2, h3, h4, h5⟩ := run_append_src2 (P := P) t o.type base e i _ 1 1 ht hi hz0 hz1 hz2 rfl (by decide) v l.length (l.map byteV) hown ao m.length cap (m.map byteV) (by simp) (fun hm => by
    obtain ⟨b, off, rfl, hcell⟩ := hc (by intro e; subst e; simp at hm)
    refine ⟨_, rfl, fun j u hu => ?_⟩
    have hj : j < m.length := by
      have := (List.getElem?_eq_some_iff.1 hu).1
      simpa using this
    rw [Addr.add_lit, hcell j hj]
    rw [List.getElem?_eq_getElem (by simpa using hj)] at hu
    simpa [byteV] using hu) (byteV_oneCell m) (by unfold maxLen; omega) (by omega) hbase
  refine wpList_plain hgd fun K hK => ?_
  unfold Oper.wp execOp
  simp only [ho, resolve, invoke, builtin, Sem.run_bind, Sem.run_pure, Result.andThen_ok, List.map_toArray, List.map_cons, List.map_nil, hs, hx, hr]
  exact hK _ _ (h v' w' (by unfold OwnB; rw [List.length_append, List.map_append]; exact h2) h3 h4 h5)
/-- What stood in front of a row that grew stands there still. -/
theorem OwnB.keep2 {w w' : World} {base e : Nat} {v s : Value} {l d : List UInt8} (hv : OwnB w base e v l) (hs : OwnB w base e s (l ++ d)) (hs' : OwnB w' base e s (l ++ d)) (hg : w.grownBy w' s.ownBlock) : OwnB w' base e v l := by
  rcases hv.2 with ⟨rfl, h0⟩ | ⟨g, cap, cur, rfl, hb, hc, hnc, hcm, hcs, htake⟩
  · obtain rfl : l = [] := List.eq_nil_of_length_eq_zero h0
    exact OwnB.nil _ _ _
  · by_cases he : s.ownBlock = some g
    · rcases hs.2 with ⟨rfl, _⟩ | ⟨g2, cap2, cur2, rfl, hb2, hc2, hnc2, hcm2, hcs2, htake2⟩
      · cases he
      · obtain rfl : g2 = g := by simpa [Value.ownBlock] using he
        rcases hs'.2 with ⟨h1, _⟩ | ⟨g3, cap3, cur3, h3, hb3, hc3, hnc3, hcm3, hcs3, htake3⟩
        · cases h1
        · simp only [Value.slice.injEq, Option.some.injEq, Addr.mk.injEq] at h3
          obtain ⟨⟨rfl, -, -⟩, -, rfl⟩ := h3
          rw [hc] at hc2
          cases hc2
          have hcc : cap = cap2 := by omega
          subst hcc
          refine ⟨by simp, .inr ⟨g2, cap, cur3, rfl, hb, hc3, hnc, hcm, hcs3, ?_⟩⟩
          have h9 : l.length * 1 ≤ (l ++ d).length * 1 := by simp
          have h8 := congrArg (List.take (l.length * 1)) htake3
          rw [List.take_take, Nat.min_eq_left h9] at h8
          rw [h8]
          simp
    · exact hv.kept hg (.inr (by simp only [Value.ownBlock]; exact fun h => he h.symm))
end Go.Proofs.YtmddhlfjilkdfaaGreatDoor
namespace Go.Proofs.YtmddhlfjilkdfaaGreatDoor
set_option linter.unusedVariables false
set_option linter.unusedSimpArgs false
open Go.RowKit

theorem num_put2 (v : Value) (l : List UInt8) (n : Int) (B : Nat) (w : World) (hn0 : -9223372036854775808 ≤ n) (hn1 : n ≤ 9223372036854775807) (hl : l.length ≤ 140737488355000) (hB : B ≤ w.heap.size) (ho : OwnB w B 5 v l) :
    Calls Tryz.prog 81 #[v, .int .i64 n] w fun e w' => RetOwn w B 5 v (l ++ putN n) e w' ∧ OwnB w' B 5 v l := by
  have hz := zig_lt hn0 hn1
  go_enter Tryz.func81, Tryz.ntmps81
  go_upto_if 10 with fail
  go_cut [5] (fun s wx => s = .int .u64 (zig n : Nat) ∧ wx = w)
  case first =>
    have H1 := Lib.hid (zig_neg n hn0)
    have H2 := Lib.hid (zig_pos n hn1)
    by_cases hneg : n < 0
    · go_wp2_with fail
      go_meet
      exact ⟨congrArg (Value.int .u64) (H1.out hneg), rfl⟩
    · go_wp2_with fail
      go_meet
      exact ⟨congrArg (Value.int .u64) (H2.out hneg), rfl⟩
  case rest =>
    obtain ⟨rfl, rfl⟩ := hcut
    clear hn0 hn1
    go_wp2_with fail
    go_loopw [0, 5] (fun s x wr => ∃ (f u : Nat) (done : List UInt8), putN n = done ++ leb f u ∧ u < 2 * 128 ^ f ∧ done.length + f = 9 ∧ x = .int .u64 u ∧ OwnB wr B 5 s (l ++ done) ∧ OwnB wr B 5 v l ∧ wc.grownBy wr v.ownBlock ∧ (∀ k, s.ownBlock = some k → v.ownBlock = some k ∨ wc.heap.size ≤ k)) (fun _ x _ => (intOf x).toNat)
    case atStart => exact ⟨9, zig n, [], rfl, by omega, rfl, rfl, by rw [List.append_nil]; exact ho, ho, World.grownBy.refl _ _, fun k hk => .inl hk⟩
    case round =>
      obtain ⟨f, u, done, hput, hu, hd, rfl, hown, hvr, hgr, hrow⟩ := hrel
      have HPUT := Lib.hid hput
      clear hput
      have hu64 : u < 18446744073709551616 := by
        have : 128 ^ f ≤ 128 ^ 9 := Nat.pow_le_pow_right (by omega) (by omega)
        omega
      have hsz := hgr.size
      by_cases hlt : 127 < u
      · obtain ⟨f, rfl⟩ : ∃ f', f = f' + 1 := ⟨f - 1, by
          rcases f with _ | f
          · simp at hu; omega
          · rfl⟩
        have HARR : Hid (#[Value.int .u8 (bits .or .u8 ((u : Int) % 256) 128)] = ([UInt8.ofNat (u % 128 + 128)].map byteV).toArray) := Lib.hid (by
          rw [or128 u hu64]
          simp [byteV, show (u % 128 + 128) % 256 = u % 128 + 128 by omega])
        have HC : Hid (leb (f + 1) u = UInt8.ofNat (u % 128 + 128) :: leb f (u / 128)) := Lib.hid (by rw [leb, if_neg (by omega)])
        generalize UInt8.ofNat (u % 128 + 128) = c at *
        go_wp2_with (at_builtin; refine wpList_append_bytes2 143 B 5 Tryz.underlying143 info8 rfl _ _ rfl (hown.alloc _) (Bytes.fresh wr [c] _ (0, 0) _ 1 rfl HARR.out (by simp)) rfl rfl (by simp; omega) (by simp; omega) ?_)
        intro v2 w2 ho2 hg2 hk2 hold2
        have hv2 := OwnB.keep2 (hvr.alloc _) (hown.alloc _) hold2 hg2
        have hg3 : wc.grownBy w2 v.ownBlock := grownBy_trans (grownBy_trans hgr (World.grownBy_alloc wr _ none) (by simp)) hg2 (fun x hx => (hrow x hx).symm.imp id id)
        have hk3 : ∀ k, v2.ownBlock = some k → v.ownBlock = some k ∨ wc.heap.size ≤ k := fun k hk => by
          rcases hk2 k hk with h | h
          · exact hrow k h
          · right; first | omega | (simp at h; omega)
        have HK3 := Lib.hid hk3
        clear hk3 hk2 hrow hg2 hgr hown hold2 hvr
        go_wp2_with fail
        go_roundw
        case rel =>
          refine ⟨f, u / 128, done ++ [c], ?_, ?_, by simp; omega, by go_num, ho2, hv2, hg3, HK3.out⟩
          · rw [HPUT.out, HC.out]
            simp
          · rw [Nat.pow_succ] at hu; omega
        case measure => simp [intOf]; omega
      · have HARR : Hid (#[Value.int .u8 (u : Int)] = ([UInt8.ofNat u].map byteV).toArray) := Lib.hid (by
          simp [byteV, show u % 256 = u by omega])
        go_wp2_with (at_builtin; refine wpList_append_bytes2 143 B 5 Tryz.underlying143 info8 rfl _ _ rfl (hown.alloc _) (Bytes.fresh wr [UInt8.ofNat u] _ (0, 0) _ 1 rfl HARR.out (by simp)) rfl rfl (by simp; omega) (by simp; omega) ?_)
        intro v2 w2 ho2 hg2 hk2 hold2
        have hv2 := OwnB.keep2 (hvr.alloc _) (hown.alloc _) hold2 hg2
        have hg3 : wc.grownBy w2 v.ownBlock := grownBy_trans (grownBy_trans hgr (World.grownBy_alloc wr _ none) (by simp)) hg2 (fun x hx => (hrow x hx).symm.imp id id)
        have hk3 : ∀ k, v2.ownBlock = some k → v.ownBlock = some k ∨ wc.heap.size ≤ k := fun k hk => by
          rcases hk2 k hk with h | h
          · exact hrow k h
          · right; first | omega | (simp at h; omega)
        have HK3 := Lib.hid hk3
        clear hk3 hk2 hrow hg2 hgr hown hold2 hvr
        go_wp2_with fail
        go_ret
        refine ⟨⟨v2, rfl, ?_, hg3, HK3.out⟩, hv2⟩
        have e : leb f u = [UInt8.ofNat u] := by
          cases f with
          | zero => rfl
          | succ f => rw [leb, if_pos (by omega)]
        rw [HPUT.out, e]
        first | exact ho2 | (rw [← List.append_assoc]; exact ho2)
end Go.Proofs.YtmddhlfjilkdfaaGreatDoor
