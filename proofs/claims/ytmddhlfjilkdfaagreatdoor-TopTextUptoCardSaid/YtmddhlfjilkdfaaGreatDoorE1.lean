/-
  No claim by itself: the data of the evaluator: abstract values, names of blocks, the tree of the blocks, the trees of their cells. | the evaluator: the tree of cells; what an abstract value and an abstract heap stand for. | what is known of the texts that symbols stand for, and of what the world's tables hold. | the evaluator: what an abstract value and an abstract heap stand for. | the evaluator: a block is laid anew, written, or written on. | the evaluator: what it asks of a value. | the evaluator: loads, stores, new blocks. | the evaluator: new blocks. | the evaluator: integers. | the evaluator: small operations: texts, aggregates, slices. No condition.
-/
import Derived.Tactics
import Derived.Lib.ValidU
import Derived.Lib.LaidU8
import Derived.Shelf.Unicode.DecodeSlow
import Derived.Laws.IdiomCopy
namespace Go.Proofs.YtmddhlfjilkdfaaGreatDoor
set_option linter.unusedVariables false
set_option linter.unusedSimpArgs false

/-- A name: digits in base 8, the lowest first. -/
inductive Q where
  | e
  | d0 (q : Q)
  | d1 (q : Q)
  | d2 (q : Q)
  | d3 (q : Q)
  | d4 (q : Q)
  | d5 (q : Q)
  | d6 (q : Q)
  | d7 (q : Q)
  deriving DecidableEq

/-- What a name stands for as a number. -/
def Q.num : Q → Nat
  | .e => 0
  | .d0 q => 8 * q.num + 0
  | .d1 q => 8 * q.num + 1
  | .d2 q => 8 * q.num + 2
  | .d3 q => 8 * q.num + 3
  | .d4 q => 8 * q.num + 4
  | .d5 q => 8 * q.num + 5
  | .d6 q => 8 * q.num + 6
  | .d7 q => 8 * q.num + 7

/-- The next name. -/
def Q.succ : Q → Q
  | .e => .d1 .e
  | .d0 q => .d1 q
  | .d1 q => .d2 q
  | .d2 q => .d3 q
  | .d3 q => .d4 q
  | .d4 q => .d5 q
  | .d5 q => .d6 q
  | .d6 q => .d7 q
  | .d7 q => .d0 q.succ

theorem Q.num_succ : ∀ q : Q, q.succ.num = q.num + 1
  | .e => rfl
  | .d0 q => by simp only [Q.succ, Q.num]; try omega
  | .d1 q => by simp only [Q.succ, Q.num]; try omega
  | .d2 q => by simp only [Q.succ, Q.num]; try omega
  | .d3 q => by simp only [Q.succ, Q.num]; try omega
  | .d4 q => by simp only [Q.succ, Q.num]; try omega
  | .d5 q => by simp only [Q.succ, Q.num]; try omega
  | .d6 q => by simp only [Q.succ, Q.num]; try omega
  | .d7 q => by
    have := Q.num_succ q
    simp only [Q.succ, Q.num]
    omega

/-- A capacity: known, or that of the whole block less so many, at least l. -/
inductive AC where
  | k (c : Nat)
  | u (d l : Nat)
/-- Symbols: a text; an integer between bounds (kept as n + 2^63); a slice that reads as a text; a slice of bytes of whatever content. -/
inductive Sy where
  | os (i : Nat)
  | iv (k : IntKind) (lo hi : Nat)
  | so (q : Q) (i : Nat)
  | su (q : Q) (lo hi : Nat)
/-- Blocks of symbols: a text's bytes; bytes of whatever content. -/
inductive Oy where
  | op (i : Nat)
  | soup (ty : Nat)
/-- Abstract values. An integer n is kept as n + 2^63. -/
inductive AV where
  | d
  | b (x : Bool)
  | i (k : IntKind) (n : Nat)
  | s (n : Nat) (l : List Nat)
  | np
  | p (q : Q) (o : Nat)
  | ns
  | sl (q : Q) (o n : Nat) (c : AC)
  | se
  | f (f : Nat) (fs cs : List AV)
  | nf
  | nm
  | m (q : Q)
  | ni
  | a (cs : List AV)
  | t (cs : List AV)
  | e (t : Nat) (x : AV)
  | y (s : Sy)
/-- The cells of a block: a tree, each node with one cell and four children. -/
inductive V where
  | z
  | n (a : AV) (c0 c1 c2 c3 : V)
/-- A block: its element type, how many cells are known, the cells; or a map's entries; or an iterator over a text: the place, the bytes from there. -/
inductive OB where
  | no
  | bk (ty n : Nat) (v : V)
  | mp (es : List (AV × AV))
  | si (o : Nat) (l : List Nat)
  | y (o : Oy)
/-- The tree of the blocks. -/
inductive HT where
  | z
  | n (b : OB) (c0 c1 c2 c3 c4 c5 c6 c7 : HT)
/-- The heap: its blocks, and the next name. -/
inductive Hp where
  | mk (t : HT) (nx : Q)

/-- The block of a name. -/
def HT.get : Q → HT → OB
  | _, .z => .no
  | .e, .n b _ _ _ _ _ _ _ _ => b
  | .d0 q, .n _ c _ _ _ _ _ _ _ => HT.get q c
  | .d1 q, .n _ _ c _ _ _ _ _ _ => HT.get q c
  | .d2 q, .n _ _ _ c _ _ _ _ _ => HT.get q c
  | .d3 q, .n _ _ _ _ c _ _ _ _ => HT.get q c
  | .d4 q, .n _ _ _ _ _ c _ _ _ => HT.get q c
  | .d5 q, .n _ _ _ _ _ _ c _ _ => HT.get q c
  | .d6 q, .n _ _ _ _ _ _ _ c _ => HT.get q c
  | .d7 q, .n _ _ _ _ _ _ _ _ c => HT.get q c

/-- .. laid. -/
def HT.set (x : OB) : Q → HT → HT
  | .e, .z => .n x .z .z .z .z .z .z .z .z
  | .e, .n _ c0 c1 c2 c3 c4 c5 c6 c7 => .n x c0 c1 c2 c3 c4 c5 c6 c7
  | .d0 q, .z => .n .no (HT.set x q .z) .z .z .z .z .z .z .z
  | .d0 q, .n b c0 c1 c2 c3 c4 c5 c6 c7 => .n b (HT.set x q c0) c1 c2 c3 c4 c5 c6 c7
  | .d1 q, .z => .n .no .z (HT.set x q .z) .z .z .z .z .z .z
  | .d1 q, .n b c0 c1 c2 c3 c4 c5 c6 c7 => .n b c0 (HT.set x q c1) c2 c3 c4 c5 c6 c7
  | .d2 q, .z => .n .no .z .z (HT.set x q .z) .z .z .z .z .z
  | .d2 q, .n b c0 c1 c2 c3 c4 c5 c6 c7 => .n b c0 c1 (HT.set x q c2) c3 c4 c5 c6 c7
  | .d3 q, .z => .n .no .z .z .z (HT.set x q .z) .z .z .z .z
  | .d3 q, .n b c0 c1 c2 c3 c4 c5 c6 c7 => .n b c0 c1 c2 (HT.set x q c3) c4 c5 c6 c7
  | .d4 q, .z => .n .no .z .z .z .z (HT.set x q .z) .z .z .z
  | .d4 q, .n b c0 c1 c2 c3 c4 c5 c6 c7 => .n b c0 c1 c2 c3 (HT.set x q c4) c5 c6 c7
  | .d5 q, .z => .n .no .z .z .z .z .z (HT.set x q .z) .z .z
  | .d5 q, .n b c0 c1 c2 c3 c4 c5 c6 c7 => .n b c0 c1 c2 c3 c4 (HT.set x q c5) c6 c7
  | .d6 q, .z => .n .no .z .z .z .z .z .z (HT.set x q .z) .z
  | .d6 q, .n b c0 c1 c2 c3 c4 c5 c6 c7 => .n b c0 c1 c2 c3 c4 c5 (HT.set x q c6) c7
  | .d7 q, .z => .n .no .z .z .z .z .z .z .z (HT.set x q .z)
  | .d7 q, .n b c0 c1 c2 c3 c4 c5 c6 c7 => .n b c0 c1 c2 c3 c4 c5 c6 (HT.set x q c7)

theorem HT.get_z (q : Q) : HT.get q .z = .no := by cases q <;> rfl
theorem HT.get_set_same (x : OB) : ∀ (q : Q) (t : HT), (HT.set x q t).get q = x
  | .e, .z => rfl
  | .e, .n .. => rfl
  | .d0 q, .z => HT.get_set_same x q .z
  | .d0 q, .n _ c _ _ _ _ _ _ _ => HT.get_set_same x q c
  | .d1 q, .z => HT.get_set_same x q .z
  | .d1 q, .n _ _ c _ _ _ _ _ _ => HT.get_set_same x q c
  | .d2 q, .z => HT.get_set_same x q .z
  | .d2 q, .n _ _ _ c _ _ _ _ _ => HT.get_set_same x q c
  | .d3 q, .z => HT.get_set_same x q .z
  | .d3 q, .n _ _ _ _ c _ _ _ _ => HT.get_set_same x q c
  | .d4 q, .z => HT.get_set_same x q .z
  | .d4 q, .n _ _ _ _ _ c _ _ _ => HT.get_set_same x q c
  | .d5 q, .z => HT.get_set_same x q .z
  | .d5 q, .n _ _ _ _ _ _ c _ _ => HT.get_set_same x q c
  | .d6 q, .z => HT.get_set_same x q .z
  | .d6 q, .n _ _ _ _ _ _ _ c _ => HT.get_set_same x q c
  | .d7 q, .z => HT.get_set_same x q .z
  | .d7 q, .n _ _ _ _ _ _ _ _ c => HT.get_set_same x q c

theorem HT.get_set_ne (x : OB) : ∀ (q r : Q) (t : HT), r ≠ q → (HT.set x q t).get r = t.get r := by
  intro q
  induction q with
  | e => intro r t h; cases r <;> cases t <;> first | exact (h rfl).elim | rfl | (simp only [HT.set, HT.get, HT.get_z])
  | d0 q ih => intro r t h; cases r <;> cases t <;> first | rfl | (simp only [HT.set, HT.get, HT.get_z]; done) | (rename_i r'; simp only [HT.set, HT.get]; rw [ih _ _ (fun e => h (by rw [e]))]; first | rfl | (simp only [HT.get_z]; done)) | (rename_i r' b c0 c1 c2 c3 c4 c5 c6 c7; simp only [HT.set, HT.get]; rw [ih _ _ (fun e => h (by rw [e]))])
  | d1 q ih => intro r t h; cases r <;> cases t <;> first | rfl | (simp only [HT.set, HT.get, HT.get_z]; done) | (rename_i r'; simp only [HT.set, HT.get]; rw [ih _ _ (fun e => h (by rw [e]))]; first | rfl | (simp only [HT.get_z]; done)) | (rename_i r' b c0 c1 c2 c3 c4 c5 c6 c7; simp only [HT.set, HT.get]; rw [ih _ _ (fun e => h (by rw [e]))])
  | d2 q ih => intro r t h; cases r <;> cases t <;> first | rfl | (simp only [HT.set, HT.get, HT.get_z]; done) | (rename_i r'; simp only [HT.set, HT.get]; rw [ih _ _ (fun e => h (by rw [e]))]; first | rfl | (simp only [HT.get_z]; done)) | (rename_i r' b c0 c1 c2 c3 c4 c5 c6 c7; simp only [HT.set, HT.get]; rw [ih _ _ (fun e => h (by rw [e]))])
  | d3 q ih => intro r t h; cases r <;> cases t <;> first | rfl | (simp only [HT.set, HT.get, HT.get_z]; done) | (rename_i r'; simp only [HT.set, HT.get]; rw [ih _ _ (fun e => h (by rw [e]))]; first | rfl | (simp only [HT.get_z]; done)) | (rename_i r' b c0 c1 c2 c3 c4 c5 c6 c7; simp only [HT.set, HT.get]; rw [ih _ _ (fun e => h (by rw [e]))])
  | d4 q ih => intro r t h; cases r <;> cases t <;> first | rfl | (simp only [HT.set, HT.get, HT.get_z]; done) | (rename_i r'; simp only [HT.set, HT.get]; rw [ih _ _ (fun e => h (by rw [e]))]; first | rfl | (simp only [HT.get_z]; done)) | (rename_i r' b c0 c1 c2 c3 c4 c5 c6 c7; simp only [HT.set, HT.get]; rw [ih _ _ (fun e => h (by rw [e]))])
  | d5 q ih => intro r t h; cases r <;> cases t <;> first | rfl | (simp only [HT.set, HT.get, HT.get_z]; done) | (rename_i r'; simp only [HT.set, HT.get]; rw [ih _ _ (fun e => h (by rw [e]))]; first | rfl | (simp only [HT.get_z]; done)) | (rename_i r' b c0 c1 c2 c3 c4 c5 c6 c7; simp only [HT.set, HT.get]; rw [ih _ _ (fun e => h (by rw [e]))])
  | d6 q ih => intro r t h; cases r <;> cases t <;> first | rfl | (simp only [HT.set, HT.get, HT.get_z]; done) | (rename_i r'; simp only [HT.set, HT.get]; rw [ih _ _ (fun e => h (by rw [e]))]; first | rfl | (simp only [HT.get_z]; done)) | (rename_i r' b c0 c1 c2 c3 c4 c5 c6 c7; simp only [HT.set, HT.get]; rw [ih _ _ (fun e => h (by rw [e]))])
  | d7 q ih => intro r t h; cases r <;> cases t <;> first | rfl | (simp only [HT.set, HT.get, HT.get_z]; done) | (rename_i r'; simp only [HT.set, HT.get]; rw [ih _ _ (fun e => h (by rw [e]))]; first | rfl | (simp only [HT.get_z]; done)) | (rename_i r' b c0 c1 c2 c3 c4 c5 c6 c7; simp only [HT.set, HT.get]; rw [ih _ _ (fun e => h (by rw [e]))])

/-- Laying, strictly. -/
abbrev HT.K := (HT → Bool) → Bool
noncomputable def HT.setK (x : OB) (q : Q) : HT → (HT → Bool) → Bool :=
  Q.rec (motive := fun _ => HT → (HT → Bool) → Bool)
    (fun t k => HT.casesOn (motive := fun _ => Bool) t (k (.n x .z .z .z .z .z .z .z .z)) (fun _ c0 c1 c2 c3 c4 c5 c6 c7 => k (.n x c0 c1 c2 c3 c4 c5 c6 c7)))
    (fun _ ih t k => HT.casesOn (motive := fun _ => Bool) t (ih .z (fun c => k (.n .no c .z .z .z .z .z .z .z))) (fun b c0 c1 c2 c3 c4 c5 c6 c7 => ih c0 (fun c => k (.n b c c1 c2 c3 c4 c5 c6 c7))))
    (fun _ ih t k => HT.casesOn (motive := fun _ => Bool) t (ih .z (fun c => k (.n .no .z c .z .z .z .z .z .z))) (fun b c0 c1 c2 c3 c4 c5 c6 c7 => ih c1 (fun c => k (.n b c0 c c2 c3 c4 c5 c6 c7))))
    (fun _ ih t k => HT.casesOn (motive := fun _ => Bool) t (ih .z (fun c => k (.n .no .z .z c .z .z .z .z .z))) (fun b c0 c1 c2 c3 c4 c5 c6 c7 => ih c2 (fun c => k (.n b c0 c1 c c3 c4 c5 c6 c7))))
    (fun _ ih t k => HT.casesOn (motive := fun _ => Bool) t (ih .z (fun c => k (.n .no .z .z .z c .z .z .z .z))) (fun b c0 c1 c2 c3 c4 c5 c6 c7 => ih c3 (fun c => k (.n b c0 c1 c2 c c4 c5 c6 c7))))
    (fun _ ih t k => HT.casesOn (motive := fun _ => Bool) t (ih .z (fun c => k (.n .no .z .z .z .z c .z .z .z))) (fun b c0 c1 c2 c3 c4 c5 c6 c7 => ih c4 (fun c => k (.n b c0 c1 c2 c3 c c5 c6 c7))))
    (fun _ ih t k => HT.casesOn (motive := fun _ => Bool) t (ih .z (fun c => k (.n .no .z .z .z .z .z c .z .z))) (fun b c0 c1 c2 c3 c4 c5 c6 c7 => ih c5 (fun c => k (.n b c0 c1 c2 c3 c4 c c6 c7))))
    (fun _ ih t k => HT.casesOn (motive := fun _ => Bool) t (ih .z (fun c => k (.n .no .z .z .z .z .z .z c .z))) (fun b c0 c1 c2 c3 c4 c5 c6 c7 => ih c6 (fun c => k (.n b c0 c1 c2 c3 c4 c5 c c7))))
    (fun _ ih t k => HT.casesOn (motive := fun _ => Bool) t (ih .z (fun c => k (.n .no .z .z .z .z .z .z .z c))) (fun b c0 c1 c2 c3 c4 c5 c6 c7 => ih c7 (fun c => k (.n b c0 c1 c2 c3 c4 c5 c6 c))))
    q

theorem HT.setK_eq (x : OB) (q : Q) : ∀ (t : HT) (k : HT → Bool), HT.setK x q t k = k (HT.set x q t) := by
  induction q with
  | e => intro t k; cases t <;> rfl
  | d0 q ih => intro t k; cases t <;> exact ih _ _
  | d1 q ih => intro t k; cases t <;> exact ih _ _
  | d2 q ih => intro t k; cases t <;> exact ih _ _
  | d3 q ih => intro t k; cases t <;> exact ih _ _
  | d4 q ih => intro t k; cases t <;> exact ih _ _
  | d5 q ih => intro t k; cases t <;> exact ih _ _
  | d6 q ih => intro t k; cases t <;> exact ih _ _
  | d7 q ih => intro t k; cases t <;> exact ih _ _

/-- The block, by recursors. -/
noncomputable def HT.getR (q : Q) : HT → OB :=
  Q.rec (motive := fun _ => HT → OB)
    (fun t => HT.casesOn (motive := fun _ => OB) t .no (fun b _ _ _ _ _ _ _ _ => b))
    (fun _ ih t => HT.casesOn (motive := fun _ => OB) t .no (fun _ c _ _ _ _ _ _ _ => ih c))
    (fun _ ih t => HT.casesOn (motive := fun _ => OB) t .no (fun _ _ c _ _ _ _ _ _ => ih c))
    (fun _ ih t => HT.casesOn (motive := fun _ => OB) t .no (fun _ _ _ c _ _ _ _ _ => ih c))
    (fun _ ih t => HT.casesOn (motive := fun _ => OB) t .no (fun _ _ _ _ c _ _ _ _ => ih c))
    (fun _ ih t => HT.casesOn (motive := fun _ => OB) t .no (fun _ _ _ _ _ c _ _ _ => ih c))
    (fun _ ih t => HT.casesOn (motive := fun _ => OB) t .no (fun _ _ _ _ _ _ c _ _ => ih c))
    (fun _ ih t => HT.casesOn (motive := fun _ => OB) t .no (fun _ _ _ _ _ _ _ c _ => ih c))
    (fun _ ih t => HT.casesOn (motive := fun _ => OB) t .no (fun _ _ _ _ _ _ _ _ c => ih c))
    q

theorem HT.getR_eq (q : Q) : ∀ t : HT, HT.getR q t = HT.get q t := by
  induction q with
  | e => intro t; cases t <;> rfl
  | d0 q ih => intro t; cases t <;> first | rfl | exact ih _
  | d1 q ih => intro t; cases t <;> first | rfl | exact ih _
  | d2 q ih => intro t; cases t <;> first | rfl | exact ih _
  | d3 q ih => intro t; cases t <;> first | rfl | exact ih _
  | d4 q ih => intro t; cases t <;> first | rfl | exact ih _
  | d5 q ih => intro t; cases t <;> first | rfl | exact ih _
  | d6 q ih => intro t; cases t <;> first | rfl | exact ih _
  | d7 q ih => intro t; cases t <;> first | rfl | exact ih _
end Go.Proofs.YtmddhlfjilkdfaaGreatDoor
namespace Go.Proofs.YtmddhlfjilkdfaaGreatDoor
set_option linter.unusedVariables false
set_option linter.unusedSimpArgs false

/-! The tree of cells. -/
def sel4 {α : Type} (n : Nat) (a b c d : α) : α := Nat.casesOn (motive := fun _ => α) n a (fun m => Nat.casesOn (motive := fun _ => α) m b (fun m => Nat.casesOn (motive := fun _ => α) m c (fun _ => d)))
noncomputable def V.get (v : V) : Nat → AV :=
  V.rec (motive := fun _ => Nat → AV) (fun _ => .d)
    (fun a _ _ _ _ g0 g1 g2 g3 i => Nat.casesOn (motive := fun _ => AV) i a (fun j => sel4 (Nat.mod j 4) (g0 (Nat.div j 4)) (g1 (Nat.div j 4)) (g2 (Nat.div j 4)) (g3 (Nat.div j 4)))) v
noncomputable def V.setK (x : AV) (v : V) : Nat → (V → Bool) → Bool :=
  V.rec (motive := fun _ => Nat → (V → Bool) → Bool) (fun i k => Nat.casesOn (motive := fun _ => Bool) i (k (.n x .z .z .z .z)) (fun _ => false))
    (fun a c0 c1 c2 c3 s0 s1 s2 s3 i k => Nat.casesOn (motive := fun _ => Bool) i (k (.n x c0 c1 c2 c3)) (fun j => sel4 (Nat.mod j 4)
      (s0 (Nat.div j 4) (fun c => k (.n a c c1 c2 c3))) (s1 (Nat.div j 4) (fun c => k (.n a c0 c c2 c3))) (s2 (Nat.div j 4) (fun c => k (.n a c0 c1 c c3))) (s3 (Nat.div j 4) (fun c => k (.n a c0 c1 c2 c))))) v
theorem V.get_z (i : Nat) : V.z.get i = .d := rfl
theorem V.get_n (a : AV) (c0 c1 c2 c3 : V) (i : Nat) : (V.n a c0 c1 c2 c3).get i = Nat.casesOn (motive := fun _ => AV) i a (fun j => sel4 (j % 4) (c0.get (j / 4)) (c1.get (j / 4)) (c2.get (j / 4)) (c3.get (j / 4))) := rfl
theorem sel4_0 {α : Type} (a b c d : α) {n : Nat} (h : n = 0) : sel4 n a b c d = a := by subst h; rfl
theorem sel4_1 {α : Type} (a b c d : α) {n : Nat} (h : n = 1) : sel4 n a b c d = b := by subst h; rfl
theorem sel4_2 {α : Type} (a b c d : α) {n : Nat} (h : n = 2) : sel4 n a b c d = c := by subst h; rfl
theorem sel4_3 {α : Type} (a b c d : α) {n : Nat} (h : n = 3) : sel4 n a b c d = d := by subst h; rfl
theorem V.setK_spec (x : AV) (v : V) : ∀ (i : Nat) (k : V → Bool), V.setK x v i k = true → ∃ v' : V, k v' = true ∧ v'.get i = x ∧ ∀ j, j ≠ i → v'.get j = v.get j := by
  induction v with
  | z =>
    intro i k h
    cases i with
    | zero => exact ⟨_, h, rfl, fun j hj => by cases j with | zero => exact (hj rfl).elim | succ j => rw [V.get_n]; show sel4 _ _ _ _ _ = _; unfold sel4; repeat' (first | rfl | (cases (j % 4) with | zero => rfl | succ m => cases m with | zero => rfl | succ m => cases m <;> rfl))⟩
    | succ i => cases h
  | n a c0 c1 c2 c3 h0 h1 h2 h3 =>
    intro i k h
    cases i with
    | zero => exact ⟨_, h, rfl, fun j hj => by cases j with | zero => exact (hj rfl).elim | succ j => rfl⟩
    | succ i =>
      have h : sel4 (i % 4) (V.setK x c0 (i / 4) (fun c => k (.n a c c1 c2 c3))) (V.setK x c1 (i / 4) (fun c => k (.n a c0 c c2 c3))) (V.setK x c2 (i / 4) (fun c => k (.n a c0 c1 c c3))) (V.setK x c3 (i / 4) (fun c => k (.n a c0 c1 c2 c))) = true := h
      have hlt : i % 4 = 0 ∨ i % 4 = 1 ∨ i % 4 = 2 ∨ i % 4 = 3 := by omega
      have key : ∀ j, j + 1 ≠ i + 1 → (j % 4 = i % 4 → j / 4 ≠ i / 4) := fun j hj he hd => hj (by omega)
      rcases hlt with e | e | e | e
      · rw [sel4_0 _ _ _ _ e] at h
        obtain ⟨c, hk, hi, ho⟩ := h0 _ _ h
        refine ⟨_, hk, by rw [V.get_n]; show sel4 _ _ _ _ _ = _; rw [sel4_0 _ _ _ _ e]; exact hi, fun j hj => ?_⟩
        cases j with
        | zero => rfl
        | succ j =>
          rw [V.get_n, V.get_n]; show sel4 _ _ _ _ _ = sel4 _ _ _ _ _
          by_cases hm : j % 4 = i % 4
          · rw [sel4_0 _ _ _ _ (hm.trans e), sel4_0 _ _ _ _ (hm.trans e)]; exact ho _ (key j hj hm)
          · have : j % 4 = 1 ∨ j % 4 = 2 ∨ j % 4 = 3 := by omega
            rcases this with q | q | q
            · rw [sel4_1 _ _ _ _ q, sel4_1 _ _ _ _ q]
            · rw [sel4_2 _ _ _ _ q, sel4_2 _ _ _ _ q]
            · rw [sel4_3 _ _ _ _ q, sel4_3 _ _ _ _ q]
      · rw [sel4_1 _ _ _ _ e] at h
        obtain ⟨c, hk, hi, ho⟩ := h1 _ _ h
        refine ⟨_, hk, by rw [V.get_n]; show sel4 _ _ _ _ _ = _; rw [sel4_1 _ _ _ _ e]; exact hi, fun j hj => ?_⟩
        cases j with
        | zero => rfl
        | succ j =>
          rw [V.get_n, V.get_n]; show sel4 _ _ _ _ _ = sel4 _ _ _ _ _
          by_cases hm : j % 4 = i % 4
          · rw [sel4_1 _ _ _ _ (hm.trans e), sel4_1 _ _ _ _ (hm.trans e)]; exact ho _ (key j hj hm)
          · have : j % 4 = 0 ∨ j % 4 = 2 ∨ j % 4 = 3 := by omega
            rcases this with q | q | q
            · rw [sel4_0 _ _ _ _ q, sel4_0 _ _ _ _ q]
            · rw [sel4_2 _ _ _ _ q, sel4_2 _ _ _ _ q]
            · rw [sel4_3 _ _ _ _ q, sel4_3 _ _ _ _ q]
      · rw [sel4_2 _ _ _ _ e] at h
        obtain ⟨c, hk, hi, ho⟩ := h2 _ _ h
        refine ⟨_, hk, by rw [V.get_n]; show sel4 _ _ _ _ _ = _; rw [sel4_2 _ _ _ _ e]; exact hi, fun j hj => ?_⟩
        cases j with
        | zero => rfl
        | succ j =>
          rw [V.get_n, V.get_n]; show sel4 _ _ _ _ _ = sel4 _ _ _ _ _
          by_cases hm : j % 4 = i % 4
          · rw [sel4_2 _ _ _ _ (hm.trans e), sel4_2 _ _ _ _ (hm.trans e)]; exact ho _ (key j hj hm)
          · have : j % 4 = 0 ∨ j % 4 = 1 ∨ j % 4 = 3 := by omega
            rcases this with q | q | q
            · rw [sel4_0 _ _ _ _ q, sel4_0 _ _ _ _ q]
            · rw [sel4_1 _ _ _ _ q, sel4_1 _ _ _ _ q]
            · rw [sel4_3 _ _ _ _ q, sel4_3 _ _ _ _ q]
      · rw [sel4_3 _ _ _ _ e] at h
        obtain ⟨c, hk, hi, ho⟩ := h3 _ _ h
        refine ⟨_, hk, by rw [V.get_n]; show sel4 _ _ _ _ _ = _; rw [sel4_3 _ _ _ _ e]; exact hi, fun j hj => ?_⟩
        cases j with
        | zero => rfl
        | succ j =>
          rw [V.get_n, V.get_n]; show sel4 _ _ _ _ _ = sel4 _ _ _ _ _
          by_cases hm : j % 4 = i % 4
          · rw [sel4_3 _ _ _ _ (hm.trans e), sel4_3 _ _ _ _ (hm.trans e)]; exact ho _ (key j hj hm)
          · have : j % 4 = 0 ∨ j % 4 = 1 ∨ j % 4 = 2 := by omega
            rcases this with q | q | q
            · rw [sel4_0 _ _ _ _ q, sel4_0 _ _ _ _ q]
            · rw [sel4_1 _ _ _ _ q, sel4_1 _ _ _ _ q]
            · rw [sel4_2 _ _ _ _ q, sel4_2 _ _ _ _ q]
end Go.Proofs.YtmddhlfjilkdfaaGreatDoor
namespace Go.Proofs.YtmddhlfjilkdfaaGreatDoor
set_option linter.unusedVariables false
set_option linter.unusedSimpArgs false

/-- A text's runes, as 'range' tells them. -/
def runesL : Nat → List UInt8 → List Nat
  | 0, _ => []
  | n + 1, l => if l = [] then [] else (Lib.decodeL l).1 :: runesL n (l.drop (Lib.decodeL l).2)
/-- A short length, as the program writes it. -/
def lenB (n : Nat) : List UInt8 := if n < 64 then [UInt8.ofNat (2 * n)] else [UInt8.ofNat (2 * n % 128 + 128), UInt8.ofNat (2 * n / 128)]
/-- The one batch: client 1's first, a put of the text 's' at 'k'. -/
def encD (k s : List UInt8) : List UInt8 := [2, 2, 2, 2] ++ (lenB k.length ++ k) ++ ([4] ++ (lenB s.length ++ s))
structure KeyOk (l : List UInt8) : Prop where
  valid : Lib.validD l = true
  some_ : 1 ≤ (runesL l.length l).length
  few : (runesL l.length l).length ≤ 40
  good : ∀ r ∈ runesL l.length l, 32 ≤ r ∧ r ≠ 127
/-- The three texts: a key, a text, the batch's bytes. -/
structure TxOk (tx : Nat → ByteArray) : Prop where
  key : KeyOk (tx 0).data.toList
  valid : Lib.validD (tx 1).data.toList = true
  enc : (tx 2).data.toList = encD (tx 0).data.toList (tx 1).data.toList
  kLen : (tx 0).size ≤ 100
  sLen : (tx 1).size ≤ 200
def TabOk (P : Program) (w : World) : Prop := Lib.VarReads P w "unicode/utf8.first" Lib.firstData ∧ Lib.VarReads P w "unicode/utf8.acceptRanges" Lib.acceptData
/-- The old blocks are a world's in which the tables lie. -/
def Tabs (P : Program) (B : Nat) (w : World) : Prop := ∃ w0 : World, TabOk P w0 ∧ w0.heap.size ≤ B ∧ ∀ b, b < w0.heap.size → w.heap[b]? = w0.heap[b]?
theorem Tabs.mono {P : Program} {B : Nat} {w w' : World} (h : Tabs P B w) (hk : ∀ b, b < B → w'.heap[b]? = w.heap[b]?) : Tabs P B w' := by
  obtain ⟨w0, h1, h2, h3⟩ := h
  exact ⟨w0, h1, h2, fun b hb => (hk b (by omega)).trans (h3 b hb)⟩
end Go.Proofs.YtmddhlfjilkdfaaGreatDoor
namespace Go.Proofs.YtmddhlfjilkdfaaGreatDoor
set_option linter.unusedVariables false
set_option linter.unusedSimpArgs false

/-- Where a block lies: its number, where its cells begin, how many elements it has room for. -/
structure Loc where
  blk : Nat
  base : Nat
  cap : Nat
  fil : Nat := 0
  tx : Nat → ByteArray := fun _ => .empty
/-- The bounds of the texts' lengths. -/
def syLo (i : Nat) : Nat := Nat.casesOn (motive := fun _ => Nat) i 1 fun i => Nat.casesOn (motive := fun _ => Nat) i 0 fun _ => 8
def syHi (i : Nat) : Nat := Nat.casesOn (motive := fun _ => Nat) i 100 fun i => Nat.casesOn (motive := fun _ => Nat) i 200 fun _ => 309
/-- What the texts are: laid beside the first name. -/
def txt (ρ : Q → Loc) (i : Nat) : ByteArray := (ρ .e).tx i
def SyOk (ρ : Q → Loc) (i : Nat) : Prop := syLo i ≤ (txt ρ i).size ∧ (txt ρ i).size ≤ syHi i ∧ TxOk (txt ρ)
mutual
/-- An abstract value stands for a value. -/
inductive Rel (ρ : Q → Loc) (N : Nat) : AV → Value → Prop
  | d (v : Value) : Rel ρ N .d v
  | b (x : Bool) : Rel ρ N (.b x) (.bool x)
  | i (k : IntKind) (n : Nat) : Rel ρ N (.i k n) (.int k ((n : Int) - 9223372036854775808))
  | s (s : ByteArray) : Rel ρ N (.s s.size (s.data.toList.map UInt8.toNat)) (.string s)
  | np : Rel ρ N .np (.pointer none)
  | p (q : Q) (o : Nat) (h : q.num < N) : Rel ρ N (.p q o) (.pointer (some ⟨(ρ q).blk, (ρ q).base + o, none⟩))
  | ns : Rel ρ N .ns (.slice none 0 0)
  | slk (q : Q) (o n c : Nat) (h : q.num < N) (hc : n ≤ c) : Rel ρ N (.sl q o n (.k c)) (.slice (some ⟨(ρ q).blk, (ρ q).base + o, none⟩) n c)
  | slu (q : Q) (o n d l : Nat) (h : q.num < N) (hn : n ≤ l) (hc : l + d ≤ (ρ q).cap) (hm : (ρ q).cap ≤ 9223372036854775807) : Rel ρ N (.sl q o n (.u d l)) (.slice (some ⟨(ρ q).blk, (ρ q).base + o, none⟩) n ((ρ q).cap - d))
  | se (a : Addr) (c : Nat) : Rel ρ N .se (.slice (some a) 0 c)
  | f (f : Nat) (fs cs : List AV) (us vs : List Value) (h1 : RelL ρ N fs us) (h : RelL ρ N cs vs) : Rel ρ N (.f f fs cs) (.func (.func f) us.toArray vs.toArray)
  | nf : Rel ρ N .nf .nilFunc
  | nm : Rel ρ N .nm (.map none)
  | m (q : Q) (h : q.num < N) : Rel ρ N (.m q) (.map (some (ρ q).blk))
  | ni : Rel ρ N .ni .nilIface
  | a (cs : List AV) (vs : List Value) (h : RelL ρ N cs vs) (h1 : ∀ v ∈ vs, v.oneCell' = true) : Rel ρ N (.a cs) (.agg vs.toArray)
  | t (cs : List AV) (vs : List Value) (h : RelL ρ N cs vs) : Rel ρ N (.t cs) (.tuple vs.toArray)
  | e (t : Nat) (x : AV) (v : Value) (h : Rel ρ N x v) : Rel ρ N (.e t x) (.iface t v)
  | os (i : Nat) (h : 0 < N) (hb : SyOk ρ i) : Rel ρ N (.y (.os i)) (.string (txt ρ i))
  | iv (k : IntKind) (lo hi n : Nat) (h1 : lo ≤ n) (h2 : n ≤ hi) : Rel ρ N (.y (.iv k lo hi)) (.int k ((n : Int) - 9223372036854775808))
  | so (q : Q) (i c : Nat) (h : q.num < N) (h0 : 0 < N) (hb : SyOk ρ i) (hc : (txt ρ i).size ≤ c) (hm : c ≤ 9223372036854775807) : Rel ρ N (.y (.so q i)) (.slice (some ⟨(ρ q).blk, (ρ q).base, none⟩) (txt ρ i).size c)
  | su (q : Q) (lo hi n c : Nat) (h : q.num < N) (h1 : lo ≤ n) (h2 : n ≤ hi) (hf : n ≤ (ρ q).fil) (hc : n ≤ c) (hm : c ≤ (ρ q).cap) (hx : c ≤ 9223372036854775807) : Rel ρ N (.y (.su q lo hi)) (.slice (some ⟨(ρ q).blk, (ρ q).base, none⟩) n c)
inductive RelL (ρ : Q → Loc) (N : Nat) : List AV → List Value → Prop
  | nil : RelL ρ N [] []
  | cons (x : AV) (v : Value) (xs : List AV) (vs : List Value) (h : Rel ρ N x v) (t : RelL ρ N xs vs) : RelL ρ N (x :: xs) (v :: vs)
end
mutual
theorem Rel.mono {ρ ρ' : Q → Loc} {N N' : Nat} (he : ∀ q, q.num < N → ρ' q = ρ q) (hN : N ≤ N') : ∀ {x : AV} {v : Value}, Rel ρ N x v → Rel ρ' N' x v
  | _, _, .d v => .d v
  | _, _, .b x => .b x
  | _, _, .i k n => .i k n
  | _, _, .s s => .s s
  | _, _, .np => .np
  | _, _, .p q o h => by rw [← he q h]; exact .p q o (Nat.lt_of_lt_of_le h hN)
  | _, _, .ns => .ns
  | _, _, .slk q o n c h hc => by rw [← he q h]; exact .slk q o n c (Nat.lt_of_lt_of_le h hN) hc
  | _, _, .slu q o n d l h hn hc hm => by rw [← he q h] at hc hm ⊢; exact .slu q o n d l (Nat.lt_of_lt_of_le h hN) hn hc hm
  | _, _, .se a c => .se a c
  | _, _, .f f fs cs us vs h1 h => .f f fs cs us vs (RelL.mono he hN h1) (RelL.mono he hN h)
  | _, _, .nf => .nf
  | _, _, .nm => .nm
  | _, _, .m q h => by rw [← he q h]; exact .m q (Nat.lt_of_lt_of_le h hN)
  | _, _, .ni => .ni
  | _, _, .a cs vs h h1 => .a cs vs (RelL.mono he hN h) h1
  | _, _, .t cs vs h => .t cs vs (RelL.mono he hN h)
  | _, _, .e t x v h => .e t x v (Rel.mono he hN h)
  | _, _, .os i h hb => by
    have e0 : txt ρ' = txt ρ := by unfold txt; rw [he .e h]
    have e : txt ρ' i = txt ρ i := by rw [e0]
    have hb' : SyOk ρ' i := by unfold SyOk; rw [e0]; exact hb
    rw [← e]
    exact .os i (Nat.lt_of_lt_of_le h hN) hb'
  | _, _, .iv k lo hi n h1 h2 => .iv k lo hi n h1 h2
  | _, _, .so q i c h h0 hb hc hm => by
    have e0 : txt ρ' = txt ρ := by unfold txt; rw [he .e h0]
    have e : txt ρ' i = txt ρ i := by rw [e0]
    have hb' : SyOk ρ' i := by unfold SyOk; rw [e0]; exact hb
    rw [← e] at hc ⊢
    rw [← he q h]
    exact .so q i c (Nat.lt_of_lt_of_le h hN) (Nat.lt_of_lt_of_le h0 hN) hb' hc hm
  | _, _, .su q lo hi n c h h1 h2 hf hc hm hx => by
    rw [← he q h] at hf hm ⊢
    exact .su q lo hi n c (Nat.lt_of_lt_of_le h hN) h1 h2 hf hc hm hx
theorem RelL.mono {ρ ρ' : Q → Loc} {N N' : Nat} (he : ∀ q, q.num < N → ρ' q = ρ q) (hN : N ≤ N') : ∀ {x : List AV} {v : List Value}, RelL ρ N x v → RelL ρ' N' x v
  | _, _, .nil => .nil
  | _, _, .cons x v xs vs h t => .cons x v xs vs (Rel.mono he hN h) (RelL.mono he hN t)
end
theorem RelL.length {ρ : Q → Loc} {N : Nat} : ∀ {x : List AV} {v : List Value}, RelL ρ N x v → x.length = v.length
  | _, _, .nil => rfl
  | _, _, .cons _ _ _ _ _ t => by simp only [List.length_cons]; rw [RelL.length t]
theorem RelL.get {ρ : Q → Loc} {N : Nat} : ∀ {x : List AV} {v : List Value}, RelL ρ N x v → ∀ (i : Nat) (hx : i < x.length) (hv : i < v.length), Rel ρ N x[i] v[i]
  | _, _, .nil, _, h, _ => absurd h (by simp)
  | _, _, .cons _ _ _ _ h _, 0, _, _ => h
  | _, _, .cons _ _ _ _ _ t, i + 1, hx, hv => RelL.get t i (by simpa using hx) (by simpa using hv)
theorem RelL.of_get {ρ : Q → Loc} {N : Nat} : ∀ {x : List AV} {v : List Value}, x.length = v.length → (∀ (i : Nat) (hx : i < x.length) (hv : i < v.length), Rel ρ N x[i] v[i]) → RelL ρ N x v
  | [], [], _, _ => .nil
  | [], _ :: _, h, _ => by simp at h
  | _ :: _, [], h, _ => by simp at h
  | x :: xs, v :: vs, h, g => .cons x v xs vs (g 0 (by simp) (by simp)) (RelL.of_get (by simpa using h) fun i hx hv => g (i + 1) (by simpa using hx) (by simpa using hv))
theorem RelL.append {ρ : Q → Loc} {N : Nat} : ∀ {x y : List AV} {v u : List Value}, RelL ρ N x v → RelL ρ N y u → RelL ρ N (x ++ y) (v ++ u)
  | _, _, _, _, .nil, h => h
  | _, _, _, _, .cons x v xs vs h t, h2 => .cons x v _ _ h (RelL.append t h2)

def Hp.t : Hp → HT
  | .mk t _ => t
def Hp.nx : Hp → Q
  | .mk _ n => n
/-- There is a block of this name. -/
def Hp.live (h : Hp) (q : Q) : Prop := h.t.get q ≠ .no
/-- A block of cells. -/
structure RowE (P : Program) (l : Loc) (ρ : Q → Loc) (N : Nat) (w : World) (ty n : Nat) (v : V) : Prop where
  at_ : ∃ sz, w.shape? l.blk = some (ty, sz) ∧ l.base + n ≤ sz ∧ l.base + l.cap * P.cellsOf ty ≤ sz ∧ (∀ o, o < sz → w.frozen? ⟨l.blk, o, none⟩ = false)
  get : ∀ i, i < n → ∃ x, w.cell? ⟨l.blk, l.base + i, none⟩ = some x ∧ Rel ρ N (v.get i) x ∧ x.oneCell' = true
/-- The entries of a map. -/
inductive RelE (ρ : Q → Loc) (N : Nat) : List (AV × AV) → List MapEntry → Prop
  | nil : RelE ρ N [] []
  | cons (k x : AV) (es : List (AV × AV)) (e : MapEntry) (fs : List MapEntry) (hk : Rel ρ N k e.key) (hx : Rel ρ N x e.val) (t : RelE ρ N es fs) : RelE ρ N ((k, x) :: es) (e :: fs)
/-- A map of these entries. -/
def MapAt (ρ : Q → Loc) (N : Nat) (w : World) (b : Nat) (es : List (AV × AV)) : Prop := ∃ fs c, w.heap[b]? = some (.map fs c) ∧ RelE ρ N es fs.toList ∧ ∀ e ∈ fs.toList, e.born < c
/-- An iterator over a text: the place, the bytes from there. -/
def SiAt (w : World) (b : Loc) (o : Nat) (l : List Nat) : Prop := ∃ s : ByteArray, w.heap[b.blk]? = some (.stringIter s o) ∧ (s.data.toList.map UInt8.toNat).drop o = l ∧ b.base = 0
/-- A block that begins with a text's bytes. -/
def OpAt (ρ : Q → Loc) (w : World) (l : Loc) (i : Nat) : Prop := (∃ o, w.heap[l.blk]? = some o) ∧ ∀ j (h : j < (txt ρ i).size), w.cell? ⟨l.blk, l.base + j, none⟩ = some (.int .u8 (((txt ρ i).get j h).toNat : Int))
/-- A block of bytes of whatever content. -/
structure SoupAt (P : Program) (w : World) (l : Loc) (ty : Nat) : Prop where
  at_ : ∃ sz, w.shape? l.blk = some (ty, sz) ∧ l.base + l.cap * P.cellsOf ty ≤ sz ∧ (∀ o, o < sz → w.frozen? ⟨l.blk, o, none⟩ = false)
  get : ∀ i, i < l.fil → ∃ x : UInt8, w.cell? ⟨l.blk, l.base + i, none⟩ = some (.int .u8 (x.toNat : Int))
structure Emb (P : Program) (ρ : Q → Loc) (h : Hp) (w : World) (B : Nat) : Prop where
  base : B ≤ w.heap.size
  lt : ∀ q, h.live q → q.num < h.nx.num
  ge : ∀ q, h.live q → B ≤ (ρ q).blk
  inj : ∀ q r, h.live q → h.live r → (ρ q).blk = (ρ r).blk → q = r
  row : ∀ q ty n v, h.t.get q = .bk ty n v → RowE P (ρ q) ρ h.nx.num w ty n v
  map : ∀ q es, h.t.get q = .mp es → MapAt ρ h.nx.num w (ρ q).blk es
  si : ∀ q o l, h.t.get q = .si o l → SiAt w (ρ q) o l
  op : ∀ q i, h.t.get q = .y (.op i) → 0 < h.nx.num ∧ OpAt ρ w (ρ q) i
  soup : ∀ q ty, h.t.get q = .y (.soup ty) → SoupAt P w (ρ q) ty
  tab : Tabs P B w
/-- From one state to a later one. -/
structure Step (ρ : Q → Loc) (h : Hp) (w : World) (ρ' : Q → Loc) (h' : Hp) (w' : World) : Prop where
  ext : ∀ q, q.num < h.nx.num → ρ' q = ρ q
  nx : h.nx.num ≤ h'.nx.num
  size : w.heap.size ≤ w'.heap.size
  frame : ∀ b, b < w.heap.size → (∀ q, h.live q → (ρ q).blk ≠ b) → w'.heap[b]? = w.heap[b]?
  img : ∀ q, h'.live q → (∃ r, h.live r ∧ (ρ' q).blk = (ρ r).blk) ∨ w.heap.size ≤ (ρ' q).blk
  os : w'.os = w.os
  tape : w'.tape = w.tape
  output : w'.output = w.output
theorem Step.refl (ρ : Q → Loc) (h : Hp) (w : World) : Step ρ h w ρ h w := ⟨fun _ _ => rfl, Nat.le_refl _, Nat.le_refl _, fun _ _ _ => rfl, fun q hq => .inl ⟨q, hq, rfl⟩, rfl, rfl, rfl⟩
theorem Step.trans {ρ ρ1 ρ2 : Q → Loc} {h h1 h2 : Hp} {w w1 w2 : World} (a : Step ρ h w ρ1 h1 w1) (b : Step ρ1 h1 w1 ρ2 h2 w2) : Step ρ h w ρ2 h2 w2 where
  ext q hq := (b.ext q (Nat.lt_of_lt_of_le hq a.nx)).trans (a.ext q hq)
  nx := Nat.le_trans a.nx b.nx
  size := Nat.le_trans a.size b.size
  frame c hc hl := by
    rw [b.frame c (Nat.lt_of_lt_of_le hc a.size) (fun q hq e => ?_), a.frame c hc hl]
    rcases a.img q hq with ⟨r, hr, e2⟩ | e2
    · exact hl r hr (e2 ▸ e)
    · omega
  img q hq := by
    rcases b.img q hq with ⟨r, hr, e⟩ | e
    · rcases a.img r hr with ⟨r2, hr2, e2⟩ | e2
      · exact .inl ⟨r2, hr2, e.trans e2⟩
      · exact .inr (e ▸ e2)
    · exact .inr (Nat.le_trans a.size e)
  os := b.os.trans a.os
  tape := b.tape.trans a.tape
  output := b.output.trans a.output
theorem cell?_of_heap {w w' : World} {b : Nat} (h : w'.heap[b]? = w.heap[b]?) (o : Nat) (s : Option Nat) : w'.cell? ⟨b, o, s⟩ = w.cell? ⟨b, o, s⟩ := by unfold World.cell?; rw [h]
theorem shape?_of_heap {w w' : World} {b : Nat} (h : w'.heap[b]? = w.heap[b]?) : w'.shape? b = w.shape? b := by unfold World.shape?; rw [h]
theorem frozen?_of_heap {w w' : World} {b : Nat} (h : w'.heap[b]? = w.heap[b]?) (o : Nat) (s : Option Nat) : w'.frozen? ⟨b, o, s⟩ = w.frozen? ⟨b, o, s⟩ := by unfold World.frozen?; rw [h]
theorem RowE.mono {P : Program} {l : Loc} {ρ ρ' : Q → Loc} {N N' : Nat} {w w' : World} {ty n : Nat} {v : V} (he : ∀ q, q.num < N → ρ' q = ρ q) (hN : N ≤ N') (hw : w'.heap[l.blk]? = w.heap[l.blk]?) (h : RowE P l ρ N w ty n v) : RowE P l ρ' N' w' ty n v := by
  obtain ⟨sz, h1, h2, h3, h4⟩ := h.at_
  refine ⟨⟨sz, (shape?_of_heap hw).trans h1, h2, h3, fun o ho => (frozen?_of_heap hw o none).trans (h4 o ho)⟩, fun i hi => ?_⟩
  obtain ⟨x, a, b, d⟩ := h.get i hi
  exact ⟨x, (cell?_of_heap hw _ _).trans a, b.mono he hN, d⟩
theorem RelE.mono {ρ ρ' : Q → Loc} {N N' : Nat} (he : ∀ q, q.num < N → ρ' q = ρ q) (hN : N ≤ N') : ∀ {x : List (AV × AV)} {v : List MapEntry}, RelE ρ N x v → RelE ρ' N' x v
  | _, _, .nil => .nil
  | _, _, .cons k x es e fs hk hx t => .cons k x es e fs (hk.mono he hN) (hx.mono he hN) (t.mono he hN)
theorem MapAt.mono {ρ ρ' : Q → Loc} {N N' : Nat} {w w' : World} {b : Nat} {es : List (AV × AV)} (he : ∀ q, q.num < N → ρ' q = ρ q) (hN : N ≤ N') (hw : w'.heap[b]? = w.heap[b]?) (h : MapAt ρ N w b es) : MapAt ρ' N' w' b es := by
  obtain ⟨fs, c, h1, h2, h3⟩ := h
  exact ⟨fs, c, hw.trans h1, h2.mono he hN, h3⟩
theorem SiAt.mono {w w' : World} {b : Loc} {o : Nat} {l : List Nat} (hw : w'.heap[b.blk]? = w.heap[b.blk]?) (h : SiAt w b o l) : SiAt w' b o l := by
  obtain ⟨s, h1, h2⟩ := h
  exact ⟨s, hw.trans h1, h2⟩
theorem OpAt.mono {ρ ρ' : Q → Loc} {N : Nat} {w w' : World} {l : Loc} {i : Nat} (he : ∀ q, q.num < N → ρ' q = ρ q) (h0 : 0 < N) (hw : w'.heap[l.blk]? = w.heap[l.blk]?) (h : OpAt ρ w l i) : OpAt ρ' w' l i := by
  have e : txt ρ' i = txt ρ i := by unfold txt; rw [he .e h0]
  unfold OpAt at *
  rw [e]
  exact ⟨by rw [hw]; exact h.1, fun j hj => (cell?_of_heap hw _ _).trans (h.2 j hj)⟩
theorem SoupAt.mono {P : Program} {w w' : World} {l : Loc} {ty : Nat} (hw : w'.heap[l.blk]? = w.heap[l.blk]?) (h : SoupAt P w l ty) : SoupAt P w' l ty := by
  obtain ⟨sz, h1, h2, h3⟩ := h.at_
  refine ⟨⟨sz, (shape?_of_heap hw).trans h1, h2, fun o ho => (frozen?_of_heap hw o none).trans (h3 o ho)⟩, fun i hi => ?_⟩
  obtain ⟨x, hx⟩ := h.get i hi
  exact ⟨x, (cell?_of_heap hw _ _).trans hx⟩
/-- The environment: what the temporaries hold. -/
structure Env (ρ : Q → Loc) (N : Nat) (env : List AV) (a : Act) : Prop where
  size : env.length = a.tmps.size
  get : ∀ i, i < env.length → Rel ρ N (env.getD i .d) (a.tmps.getD i undef)
  defers : a.defers = []
theorem Env.mono {ρ ρ' : Q → Loc} {N N' : Nat} {env : List AV} {a : Act} (he : ∀ q, q.num < N → ρ' q = ρ q) (hN : N ≤ N') (h : Env ρ N env a) : Env ρ' N' env a := ⟨h.size, fun i hi => (h.get i hi).mono he hN, h.defers⟩
theorem Env.tmp {ρ : Q → Loc} {N : Nat} {env : List AV} {a : Act} (h : Env ρ N env a) (i : Nat) : Rel ρ N (env.getD i .d) (a.tmps.getD i undef) := by
  by_cases hi : i < env.length
  · exact h.get i hi
  · rw [List.getD_eq_getElem?_getD, List.getElem?_eq_none (by omega)]; exact .d _
theorem Env.put {ρ : Q → Loc} {N : Nat} {env : List AV} {a : Act} (h : Env ρ N env a) (d : Nat) {x : AV} {v : Value} (hx : Rel ρ N x v) : Env ρ N (env.set d x) (a.put (some d) v) := by
  refine ⟨by simp [Act.put, h.size], fun i hi => ?_, h.defers⟩
  rw [List.length_set] at hi
  have hi2 : i < a.tmps.size := h.size ▸ hi
  simp only [Act.put]
  by_cases e : d = i
  · subst e
    simpa [List.getD_eq_getElem?_getD, hi, hi2, Array.getD_eq_getD_getElem?] using hx
  · have := h.get i hi
    rw [List.getD_eq_getElem?_getD, Array.getD_eq_getD_getElem?, List.getElem?_set_ne e, Array.getElem?_setIfInBounds_ne e, ← List.getD_eq_getElem?_getD, ← Array.getD_eq_getD_getElem?]
    exact this
theorem Env.put_none {ρ : Q → Loc} {N : Nat} {env : List AV} {a : Act} (h : Env ρ N env a) (v : Value) : Env ρ N env (a.put none v) := h
end Go.Proofs.YtmddhlfjilkdfaaGreatDoor
namespace Go.Proofs.YtmddhlfjilkdfaaGreatDoor
set_option linter.unusedVariables false
set_option linter.unusedSimpArgs false

def upd (ρ : Q → Loc) (q : Q) (l : Loc) : Q → Loc := fun r => if r = q then l else ρ r
theorem upd_same (ρ : Q → Loc) (q : Q) (l : Loc) : upd ρ q l q = l := if_pos rfl
theorem upd_ne (ρ : Q → Loc) {q r : Q} (l : Loc) (h : r ≠ q) : upd ρ q l r = ρ r := if_neg h
theorem upd_lt (ρ : Q → Loc) (q : Q) (l : Loc) : ∀ r, r.num < q.num → upd ρ q l r = ρ r := fun r hr => upd_ne ρ l (fun e => by rw [e] at hr; omega)
theorem Hp.live_mk {t : HT} {n q : Q} : (Hp.mk t n).live q ↔ t.get q ≠ .no := Iff.rfl

/-- A block of this name is written. -/
theorem Emb.set {P : Program} {ρ : Q → Loc} {h : Hp} {w w' : World} {B : Nat} (E : Emb P ρ h w B) {q : Q} (hq : h.live q) (b : OB) (hb : b ≠ .no)
    (hsz : w'.heap.size = w.heap.size) (hoth : ∀ c, c ≠ (ρ q).blk → w'.heap[c]? = w.heap[c]?) (hos : w'.os = w.os) (htape : w'.tape = w.tape) (hout : w'.output = w.output)
    (hrow : ∀ ty n v, b = .bk ty n v → RowE P (ρ q) ρ h.nx.num w' ty n v)
    (hmap : ∀ es, b = .mp es → MapAt ρ h.nx.num w' (ρ q).blk es) (hsi : ∀ o l, b = .si o l → SiAt w' (ρ q) o l := by intro _ _ hb; cases hb) (hy : ∀ o, b ≠ .y o := by intro _ hb; cases hb) :
    Emb P ρ (.mk (h.t.set b q) h.nx) w' B ∧ Step ρ h w ρ (.mk (h.t.set b q) h.nx) w' := by
  have hlive : ∀ r, (Hp.mk (h.t.set b q) h.nx).live r ↔ h.live r := fun r => by
    by_cases e : r = q
    · subst e; rw [Hp.live_mk, HT.get_set_same]; exact ⟨fun _ => hq, fun _ => hb⟩
    · rw [Hp.live_mk, HT.get_set_ne _ _ _ _ e]; exact Iff.rfl
  have hkeep : ∀ r, h.live r → r ≠ q → w'.heap[(ρ r).blk]? = w.heap[(ρ r).blk]? := fun r hr e => hoth _ (fun e2 => e (E.inj _ _ hr hq e2))
  refine ⟨⟨by rw [hsz]; exact E.base, fun r hr => E.lt r ((hlive r).1 hr), fun r hr => E.ge r ((hlive r).1 hr), fun r s hr hs e => E.inj r s ((hlive r).1 hr) ((hlive s).1 hs) e, fun r ty n v hg => ?_, fun r es hg => ?_, fun r o l hg => ?_, fun r i hg => ?_, fun r ty hg => ?_, E.tab.mono fun c hc => hoth c (by have := E.ge q hq; omega)⟩, ?_⟩
  · by_cases e : r = q
    · subst e; exact hrow ty n v (by rw [← hg]; exact (HT.get_set_same b r h.t).symm)
    · have hg : (h.t.set b q).get r = .bk ty n v := hg
      rw [HT.get_set_ne _ _ _ _ e] at hg
      exact (E.row r ty n v hg).mono (fun _ _ => rfl) (Nat.le_refl _) (hkeep r (by rw [Hp.live, hg]; simp) e)
  · by_cases e : r = q
    · subst e; exact hmap es (by rw [← hg]; exact (HT.get_set_same b r h.t).symm)
    · have hg : (h.t.set b q).get r = .mp es := hg
      rw [HT.get_set_ne _ _ _ _ e] at hg
      exact (E.map r es hg).mono (fun _ _ => rfl) (Nat.le_refl _) (hkeep r (by rw [Hp.live, hg]; simp) e)
  · by_cases e : r = q
    · subst e; exact hsi o l (by rw [← hg]; exact (HT.get_set_same b r h.t).symm)
    · have hg : (h.t.set b q).get r = .si o l := hg
      rw [HT.get_set_ne _ _ _ _ e] at hg
      exact (E.si r o l hg).mono (hkeep r (by rw [Hp.live, hg]; simp) e)
  · by_cases e : r = q
    · subst e; exact (hy _ (by rw [← hg]; exact (HT.get_set_same b r h.t).symm)).elim
    · have hg : (h.t.set b q).get r = .y (.op i) := hg
      rw [HT.get_set_ne _ _ _ _ e] at hg
      exact ⟨(E.op r i hg).1, (E.op r i hg).2.mono (fun _ _ => rfl) (E.op r i hg).1 (hkeep r (by rw [Hp.live, hg]; simp) e)⟩
  · by_cases e : r = q
    · subst e; exact (hy _ (by rw [← hg]; exact (HT.get_set_same b r h.t).symm)).elim
    · have hg : (h.t.set b q).get r = .y (.soup ty) := hg
      rw [HT.get_set_ne _ _ _ _ e] at hg
      exact (E.soup r ty hg).mono (hkeep r (by rw [Hp.live, hg]; simp) e)
  · exact ⟨fun _ _ => rfl, Nat.le_refl _, by rw [hsz]; exact Nat.le_refl _, fun c _ hc => hoth c (fun e => hc q hq e.symm), fun r hr => .inl ⟨r, (hlive r).1 hr, rfl⟩, hos, htape, hout⟩

/-- A new name; of the old ones one may go ('t0'). -/
theorem Emb.lay {P : Program} {ρ : Q → Loc} {h : Hp} {w w' : World} {B : Nat} (E : Emb P ρ h w B) (t0 : HT) (ht : ∀ r, t0.get r = .no ∨ t0.get r = h.t.get r) (b : OB) (hb : b ≠ .no) (l : Loc)
    (hsz : w.heap.size ≤ w'.heap.size) (hB : B ≤ l.blk) (hoth : ∀ r, t0.get r ≠ .no → w'.heap[(ρ r).blk]? = w.heap[(ρ r).blk]?) (hinj : ∀ r, t0.get r ≠ .no → (ρ r).blk ≠ l.blk)
    (hfr : ∀ c, c < w.heap.size → (∀ q, h.live q → (ρ q).blk ≠ c) → w'.heap[c]? = w.heap[c]?) (himg : (∃ r, h.live r ∧ l.blk = (ρ r).blk) ∨ w.heap.size ≤ l.blk)
    (hos : w'.os = w.os) (htape : w'.tape = w.tape) (hout : w'.output = w.output)
    (hrow : ∀ ty n v, b = .bk ty n v → RowE P l (upd ρ h.nx l) h.nx.succ.num w' ty n v)
    (hmap : ∀ es, b = .mp es → MapAt (upd ρ h.nx l) h.nx.succ.num w' l.blk es) (hsi : ∀ o l', b = .si o l' → SiAt w' l o l' := by intro _ _ hb; cases hb)
    (hop : ∀ i, b = .y (.op i) → 0 < h.nx.num ∧ OpAt (upd ρ h.nx l) w' l i := by intro _ hb; cases hb) (hso : ∀ ty, b = .y (.soup ty) → SoupAt P w' l ty := by intro _ hb; cases hb) :
    Emb P (upd ρ h.nx l) (.mk (t0.set b h.nx) h.nx.succ) w' B ∧ Step ρ h w (upd ρ h.nx l) (.mk (t0.set b h.nx) h.nx.succ) w' := by
  have hN : h.nx.num ≤ h.nx.succ.num := by rw [Q.num_succ]; omega
  have hold : ∀ r, t0.get r ≠ .no → h.live r := fun r hr => by
    rcases ht r with e | e
    · exact (hr e).elim
    · rw [Hp.live, ← e]; exact hr
  have hne : ∀ r, t0.get r ≠ .no → r ≠ h.nx := fun r hr e => by have := E.lt r (hold r hr); rw [e] at this; omega
  have hlive : ∀ r, (Hp.mk (t0.set b h.nx) h.nx.succ).live r → r = h.nx ∨ (t0.get r ≠ .no ∧ r ≠ h.nx) := fun r hr => by
    by_cases e : r = h.nx
    · exact .inl e
    · rw [Hp.live_mk, HT.get_set_ne _ _ _ _ e] at hr; exact .inr ⟨hr, e⟩
  have hme : ∀ r, r.num < h.nx.num → upd ρ h.nx l r = ρ r := upd_lt ρ h.nx l
  refine ⟨⟨Nat.le_trans E.base hsz, fun r hr => ?_, fun r hr => ?_, fun r s hr hs e => ?_, fun r ty n v hg => ?_, fun r es hg => ?_, fun r o l' hg => ?_, fun r i hg => ?_, fun r ty hg => ?_, E.tab.mono fun c hc => hfr c (by have := E.base; omega) fun r hr => by have := E.ge r hr; omega⟩, ⟨hme, hN, hsz, hfr, fun r hr => ?_, hos, htape, hout⟩⟩
  · show r.num < h.nx.succ.num
    rcases hlive r hr with rfl | ⟨h1, _⟩
    · rw [Q.num_succ]; omega
    · exact Nat.lt_of_lt_of_le (E.lt r (hold r h1)) hN
  · rcases hlive r hr with rfl | ⟨h1, h2⟩
    · rw [upd_same]; exact hB
    · rw [upd_ne _ _ h2]; exact E.ge r (hold r h1)
  · rcases hlive r hr with rfl | ⟨h1, h2⟩
    · rcases hlive s hs with rfl | ⟨h3, h4⟩
      · rfl
      · rw [upd_same, upd_ne _ _ h4] at e; exact (hinj s h3 e.symm).elim
    · rcases hlive s hs with rfl | ⟨h3, h4⟩
      · rw [upd_same, upd_ne _ _ h2] at e; exact (hinj r h1 e).elim
      · rw [upd_ne _ _ h2, upd_ne _ _ h4] at e; exact E.inj r s (hold r h1) (hold s h3) e
  · by_cases e : r = h.nx
    · subst e
      rw [upd_same]
      exact hrow ty n v (by rw [← hg]; exact (HT.get_set_same b _ t0).symm)
    · have hg : (t0.set b h.nx).get r = .bk ty n v := hg
      rw [HT.get_set_ne _ _ _ _ e] at hg
      have hl : t0.get r ≠ .no := by rw [hg]; simp
      have hg2 : h.t.get r = .bk ty n v := by
        rcases ht r with e2 | e2
        · exact (hl e2).elim
        · rw [← e2]; exact hg
      rw [upd_ne _ _ e]
      exact (E.row r ty n v hg2).mono hme hN (hoth r hl)
  · by_cases e : r = h.nx
    · subst e
      rw [upd_same]
      exact hmap es (by rw [← hg]; exact (HT.get_set_same b _ t0).symm)
    · have hg : (t0.set b h.nx).get r = .mp es := hg
      rw [HT.get_set_ne _ _ _ _ e] at hg
      have hl : t0.get r ≠ .no := by rw [hg]; simp
      have hg2 : h.t.get r = .mp es := by
        rcases ht r with e2 | e2
        · exact (hl e2).elim
        · rw [← e2]; exact hg
      rw [upd_ne _ _ e]
      exact (E.map r es hg2).mono hme hN (hoth r hl)
  · by_cases e : r = h.nx
    · subst e
      rw [upd_same]
      exact hsi o l' (by rw [← hg]; exact (HT.get_set_same b _ t0).symm)
    · have hg : (t0.set b h.nx).get r = .si o l' := hg
      rw [HT.get_set_ne _ _ _ _ e] at hg
      have hl : t0.get r ≠ .no := by rw [hg]; simp
      have hg2 : h.t.get r = .si o l' := by
        rcases ht r with e2 | e2
        · exact (hl e2).elim
        · rw [← e2]; exact hg
      rw [upd_ne _ _ e]
      exact (E.si r o l' hg2).mono (hoth r hl)
  · by_cases e : r = h.nx
    · subst e
      rw [upd_same]
      obtain ⟨h1, h2⟩ := hop i (by rw [← hg]; exact (HT.get_set_same b _ t0).symm)
      exact ⟨Nat.lt_of_lt_of_le h1 hN, h2⟩
    · have hg : (t0.set b h.nx).get r = .y (.op i) := hg
      rw [HT.get_set_ne _ _ _ _ e] at hg
      have hl : t0.get r ≠ .no := by rw [hg]; simp
      have hg2 : h.t.get r = .y (.op i) := by
        rcases ht r with e2 | e2
        · exact (hl e2).elim
        · rw [← e2]; exact hg
      rw [upd_ne _ _ e]
      exact ⟨Nat.lt_of_lt_of_le (E.op r i hg2).1 hN, (E.op r i hg2).2.mono hme (E.op r i hg2).1 (hoth r hl)⟩
  · by_cases e : r = h.nx
    · subst e
      rw [upd_same]
      exact hso ty (by rw [← hg]; exact (HT.get_set_same b _ t0).symm)
    · have hg : (t0.set b h.nx).get r = .y (.soup ty) := hg
      rw [HT.get_set_ne _ _ _ _ e] at hg
      have hl : t0.get r ≠ .no := by rw [hg]; simp
      have hg2 : h.t.get r = .y (.soup ty) := by
        rcases ht r with e2 | e2
        · exact (hl e2).elim
        · rw [← e2]; exact hg
      rw [upd_ne _ _ e]
      exact (E.soup r ty hg2).mono (hoth r hl)
  · rcases hlive r hr with rfl | ⟨h1, h2⟩
    · rw [upd_same]; exact himg
    · rw [upd_ne _ _ h2]; exact .inl ⟨r, hold r h1, rfl⟩

/-- A new block. -/
theorem Emb.new' {P : Program} {ρ : Q → Loc} {h : Hp} {w w' : World} {B : Nat} (E : Emb P ρ h w B) (t0 : HT) (ht : ∀ r, t0.get r = .no ∨ t0.get r = h.t.get r) (o : Obj) (hw : w'.heap = w.heap.push o) (hos : w'.os = w.os) (htape : w'.tape = w.tape) (hout : w'.output = w.output)
    (b : OB) (hb : b ≠ .no) (cap : Nat) (hrow : ∀ ty n v, b = .bk ty n v → RowE P { blk := w.heap.size, base := 0, cap := cap } (upd ρ h.nx { blk := w.heap.size, base := 0, cap := cap }) h.nx.succ.num w' ty n v)
    (hmap : ∀ es, b = .mp es → MapAt (upd ρ h.nx { blk := w.heap.size, base := 0, cap := cap }) h.nx.succ.num w' w.heap.size es) (hsi : ∀ o l', b = .si o l' → SiAt w' { blk := w.heap.size, base := 0, cap := cap } o l' := by intro _ _ hb; cases hb) (hy : ∀ o, b ≠ .y o := by intro _ hb; cases hb) :
    Emb P (upd ρ h.nx { blk := w.heap.size, base := 0, cap := cap }) (.mk (t0.set b h.nx) h.nx.succ) w' B ∧ Step ρ h w (upd ρ h.nx { blk := w.heap.size, base := 0, cap := cap }) (.mk (t0.set b h.nx) h.nx.succ) w' := by
  have hlt : ∀ r, h.live r → (ρ r).blk < w.heap.size := fun r hr => by
    cases hg : h.t.get r with
    | no => exact (hr hg).elim
    | bk ty n v =>
      obtain ⟨sz, h1, _⟩ := (E.row r ty n v hg).at_
      unfold World.shape? at h1
      by_cases hh : (ρ r).blk < w.heap.size
      · exact hh
      · rw [Array.getElem?_eq_none (by omega)] at h1; cases h1
    | mp es =>
      obtain ⟨fs, c, h1, _⟩ := E.map r es hg
      exact (Array.getElem?_eq_some_iff.1 h1).1
    | si o l =>
      obtain ⟨s, h1, _⟩ := E.si r o l hg
      exact (Array.getElem?_eq_some_iff.1 h1).1
    | y o =>
      cases o with
      | op i =>
        obtain ⟨s, h1⟩ := (E.op r i hg).2.1
        exact (Array.getElem?_eq_some_iff.1 h1).1
      | soup ty =>
        obtain ⟨sz, h1, _⟩ := (E.soup r ty hg).at_
        unfold World.shape? at h1
        by_cases hh : (ρ r).blk < w.heap.size
        · exact hh
        · rw [Array.getElem?_eq_none (by omega)] at h1; cases h1
  have hk : ∀ c, c < w.heap.size → w'.heap[c]? = w.heap[c]? := fun c hc => by rw [hw, Array.getElem?_push, if_neg (by omega)]
  have hold : ∀ r, t0.get r ≠ .no → h.live r := fun r hr => by
    rcases ht r with e | e
    · exact (hr e).elim
    · rw [Hp.live, ← e]; exact hr
  exact E.lay t0 ht b hb { blk := w.heap.size, base := 0, cap := cap } (by rw [hw]; simp) E.base (fun r hr => hk _ (hlt r (hold r hr))) (fun r hr e => by have := hlt r (hold r hr); simp only at e; omega) (fun c hc _ => hk c hc) (.inr (Nat.le_refl _)) hos htape hout hrow hmap hsi (fun i e => (hy _ e).elim) (fun ty e => (hy _ e).elim)
end Go.Proofs.YtmddhlfjilkdfaaGreatDoor
namespace Go.Proofs.YtmddhlfjilkdfaaGreatDoor
set_option linter.unusedVariables false
set_option linter.unusedSimpArgs false

def AV.on_b (x : AV) (f : Bool → Bool) : Bool := AV.casesOn (motive_1 := fun _ => Bool) x false f (fun _ _ => false) (fun _ _ => false) false (fun _ _ => false) false (fun _ _ _ _ => false) false (fun _ _ _ => false) false false (fun _ => false) false (fun _ => false) (fun _ => false) (fun _ _ => false) (fun _ => false)
theorem AV.on_b_spec {x : AV} {f : Bool → Bool} (h : x.on_b f = true) : ∃ vx, x = .b vx ∧ f vx = true := by cases x <;> first | exact ⟨_, rfl, h⟩ | cases h

def AV.on_i (x : AV) (f : IntKind → Nat → Bool) : Bool := AV.casesOn (motive_1 := fun _ => Bool) x false (fun _ => false) f (fun _ _ => false) false (fun _ _ => false) false (fun _ _ _ _ => false) false (fun _ _ _ => false) false false (fun _ => false) false (fun _ => false) (fun _ => false) (fun _ _ => false) (fun _ => false)
theorem AV.on_i_spec {x : AV} {f : IntKind → Nat → Bool} (h : x.on_i f = true) : ∃ vk vn, x = .i vk vn ∧ f vk vn = true := by cases x <;> first | exact ⟨_, _, rfl, h⟩ | cases h

def AV.on_s (x : AV) (f : Nat → List Nat → Bool) : Bool := AV.casesOn (motive_1 := fun _ => Bool) x false (fun _ => false) (fun _ _ => false) f false (fun _ _ => false) false (fun _ _ _ _ => false) false (fun _ _ _ => false) false false (fun _ => false) false (fun _ => false) (fun _ => false) (fun _ _ => false) (fun _ => false)
theorem AV.on_s_spec {x : AV} {f : Nat → List Nat → Bool} (h : x.on_s f = true) : ∃ vn vl, x = .s vn vl ∧ f vn vl = true := by cases x <;> first | exact ⟨_, _, rfl, h⟩ | cases h

def AV.on_p (x : AV) (f : Q → Nat → Bool) : Bool := AV.casesOn (motive_1 := fun _ => Bool) x false (fun _ => false) (fun _ _ => false) (fun _ _ => false) false f false (fun _ _ _ _ => false) false (fun _ _ _ => false) false false (fun _ => false) false (fun _ => false) (fun _ => false) (fun _ _ => false) (fun _ => false)
theorem AV.on_p_spec {x : AV} {f : Q → Nat → Bool} (h : x.on_p f = true) : ∃ vq vo, x = .p vq vo ∧ f vq vo = true := by cases x <;> first | exact ⟨_, _, rfl, h⟩ | cases h

def AV.on_sl (x : AV) (f : Q → Nat → Nat → AC → Bool) : Bool := AV.casesOn (motive_1 := fun _ => Bool) x false (fun _ => false) (fun _ _ => false) (fun _ _ => false) false (fun _ _ => false) false f false (fun _ _ _ => false) false false (fun _ => false) false (fun _ => false) (fun _ => false) (fun _ _ => false) (fun _ => false)
theorem AV.on_sl_spec {x : AV} {f : Q → Nat → Nat → AC → Bool} (h : x.on_sl f = true) : ∃ vq vo vn vc, x = .sl vq vo vn vc ∧ f vq vo vn vc = true := by cases x <;> first | exact ⟨_, _, _, _, rfl, h⟩ | cases h

def AV.on_f (x : AV) (f : Nat → List AV → List AV → Bool) : Bool := AV.casesOn (motive_1 := fun _ => Bool) x false (fun _ => false) (fun _ _ => false) (fun _ _ => false) false (fun _ _ => false) false (fun _ _ _ _ => false) false f false false (fun _ => false) false (fun _ => false) (fun _ => false) (fun _ _ => false) (fun _ => false)
theorem AV.on_f_spec {x : AV} {f : Nat → List AV → List AV → Bool} (h : x.on_f f = true) : ∃ vf vfs vcs, x = .f vf vfs vcs ∧ f vf vfs vcs = true := by cases x <;> first | exact ⟨_, _, _, rfl, h⟩ | cases h

def AV.on_m (x : AV) (f : Q → Bool) : Bool := AV.casesOn (motive_1 := fun _ => Bool) x false (fun _ => false) (fun _ _ => false) (fun _ _ => false) false (fun _ _ => false) false (fun _ _ _ _ => false) false (fun _ _ _ => false) false false f false (fun _ => false) (fun _ => false) (fun _ _ => false) (fun _ => false)
theorem AV.on_m_spec {x : AV} {f : Q → Bool} (h : x.on_m f = true) : ∃ vq, x = .m vq ∧ f vq = true := by cases x <;> first | exact ⟨_, rfl, h⟩ | cases h

def AV.on_a (x : AV) (f : List AV → Bool) : Bool := AV.casesOn (motive_1 := fun _ => Bool) x false (fun _ => false) (fun _ _ => false) (fun _ _ => false) false (fun _ _ => false) false (fun _ _ _ _ => false) false (fun _ _ _ => false) false false (fun _ => false) false f (fun _ => false) (fun _ _ => false) (fun _ => false)
theorem AV.on_a_spec {x : AV} {f : List AV → Bool} (h : x.on_a f = true) : ∃ vcs, x = .a vcs ∧ f vcs = true := by cases x <;> first | exact ⟨_, rfl, h⟩ | cases h

def AV.on_t (x : AV) (f : List AV → Bool) : Bool := AV.casesOn (motive_1 := fun _ => Bool) x false (fun _ => false) (fun _ _ => false) (fun _ _ => false) false (fun _ _ => false) false (fun _ _ _ _ => false) false (fun _ _ _ => false) false false (fun _ => false) false (fun _ => false) f (fun _ _ => false) (fun _ => false)
theorem AV.on_t_spec {x : AV} {f : List AV → Bool} (h : x.on_t f = true) : ∃ vcs, x = .t vcs ∧ f vcs = true := by cases x <;> first | exact ⟨_, rfl, h⟩ | cases h

def AV.on_e (x : AV) (f : Nat → AV → Bool) : Bool := AV.casesOn (motive_1 := fun _ => Bool) x false (fun _ => false) (fun _ _ => false) (fun _ _ => false) false (fun _ _ => false) false (fun _ _ _ _ => false) false (fun _ _ _ => false) false false (fun _ => false) false (fun _ => false) (fun _ => false) f (fun _ => false)
theorem AV.on_e_spec {x : AV} {f : Nat → AV → Bool} (h : x.on_e f = true) : ∃ vt vx, x = .e vt vx ∧ f vt vx = true := by cases x <;> first | exact ⟨_, _, rfl, h⟩ | cases h

def AV.on_y (x : AV) (f : Sy → Bool) : Bool := AV.casesOn (motive_1 := fun _ => Bool) x false (fun _ => false) (fun _ _ => false) (fun _ _ => false) false (fun _ _ => false) false (fun _ _ _ _ => false) false (fun _ _ _ => false) false false (fun _ => false) false (fun _ => false) (fun _ => false) (fun _ _ => false) f
theorem AV.on_y_spec {x : AV} {f : Sy → Bool} (h : x.on_y f = true) : ∃ s, x = .y s ∧ f s = true := by cases x <;> first | exact ⟨_, rfl, h⟩ | cases h
/-- A symbol goes its own way. -/
def AV.yK (x : AV) (f : Sy → Bool) (o : Bool) : Bool := AV.casesOn (motive_1 := fun _ => Bool) x o (fun _ => o) (fun _ _ => o) (fun _ _ => o) o (fun _ _ => o) o (fun _ _ _ _ => o) o (fun _ _ _ => o) o o (fun _ => o) o (fun _ => o) (fun _ => o) (fun _ _ => o) f
theorem AV.yK_spec {x : AV} {f : Sy → Bool} {o : Bool} (h : x.yK f o = true) : (∃ s, x = .y s ∧ f s = true) ∨ o = true := by cases x <;> first | exact .inl ⟨_, rfl, h⟩ | exact .inr h
def Sy.on_os (s : Sy) (f : Nat → Bool) : Bool := Sy.casesOn (motive := fun _ => Bool) s f (fun _ _ _ => false) (fun _ _ => false) (fun _ _ _ => false)
theorem Sy.on_os_spec {s : Sy} {f : Nat → Bool} (h : s.on_os f = true) : ∃ i, s = .os i ∧ f i = true := by cases s <;> first | exact ⟨_, rfl, h⟩ | cases h
def Sy.on_iv (s : Sy) (f : IntKind → Nat → Nat → Bool) : Bool := Sy.casesOn (motive := fun _ => Bool) s (fun _ => false) f (fun _ _ => false) (fun _ _ _ => false)
theorem Sy.on_iv_spec {s : Sy} {f : IntKind → Nat → Nat → Bool} (h : s.on_iv f = true) : ∃ k a b, s = .iv k a b ∧ f k a b = true := by cases s <;> first | exact ⟨_, _, _, rfl, h⟩ | cases h
def Sy.on_so (s : Sy) (f : Q → Nat → Bool) : Bool := Sy.casesOn (motive := fun _ => Bool) s (fun _ => false) (fun _ _ _ => false) f (fun _ _ _ => false)
theorem Sy.on_so_spec {s : Sy} {f : Q → Nat → Bool} (h : s.on_so f = true) : ∃ q i, s = .so q i ∧ f q i = true := by cases s <;> first | exact ⟨_, _, rfl, h⟩ | cases h
/-- Two texts that are one. -/
def osK (x y : AV) (o k : Bool) : Bool := x.yK (fun s => s.on_os fun i => y.on_y fun t => t.on_os fun j => Bool.casesOn (motive := fun _ => Bool) (Nat.beq i j) false k) o
theorem osK_spec {x y : AV} {o k : Bool} (h : osK x y o k = true) : (∃ i, x = .y (.os i) ∧ y = .y (.os i) ∧ k = true) ∨ o = true := by
  rcases AV.yK_spec h with ⟨s, rfl, h1⟩ | h1
  · obtain ⟨i, rfl, h2⟩ := Sy.on_os_spec h1
    obtain ⟨t, rfl, h3⟩ := AV.on_y_spec h2
    obtain ⟨j, rfl, h4⟩ := Sy.on_os_spec h3
    cases hb : Nat.beq i j with
    | true =>
      have := Nat.eq_of_beq_eq_true hb
      subst this
      rw [hb] at h4
      exact .inl ⟨i, rfl, rfl, h4⟩
    | false => rw [hb] at h4; cases h4
  · exact .inr h1
/-- Surely the value of one cell. -/
def AV.one (x : AV) : Bool := AV.casesOn (motive_1 := fun _ => Bool) x false (fun _ => true) (fun _ _ => true) (fun _ _ => true) true (fun _ _ => true) true (fun _ _ _ _ => true) true (fun _ _ _ => true) true true (fun _ => true) true (fun _ => false) (fun _ => false) (fun _ _ => true) (fun _ => true)
theorem AV.one_spec {ρ : Q → Loc} {N : Nat} {x : AV} {v : Value} (h : x.one = true) (r : Rel ρ N x v) : v.oneCell' = true := by cases r <;> first | rfl | cases h
/-- The cells of a value of so many. -/
def AV.cellsK (x : AV) (n : Nat) (k : List AV → Bool) : Bool := AV.casesOn (motive_1 := fun _ => Bool) x false (fun _ => Bool.casesOn (motive := fun _ => Bool) (Nat.beq n 1) false (k [x])) (fun _ _ => Bool.casesOn (motive := fun _ => Bool) (Nat.beq n 1) false (k [x])) (fun _ _ => Bool.casesOn (motive := fun _ => Bool) (Nat.beq n 1) false (k [x])) (Bool.casesOn (motive := fun _ => Bool) (Nat.beq n 1) false (k [x])) (fun _ _ => Bool.casesOn (motive := fun _ => Bool) (Nat.beq n 1) false (k [x])) (Bool.casesOn (motive := fun _ => Bool) (Nat.beq n 1) false (k [x])) (fun _ _ _ _ => Bool.casesOn (motive := fun _ => Bool) (Nat.beq n 1) false (k [x])) (Bool.casesOn (motive := fun _ => Bool) (Nat.beq n 1) false (k [x])) (fun _ _ _ => Bool.casesOn (motive := fun _ => Bool) (Nat.beq n 1) false (k [x])) (Bool.casesOn (motive := fun _ => Bool) (Nat.beq n 1) false (k [x])) (Bool.casesOn (motive := fun _ => Bool) (Nat.beq n 1) false (k [x])) (fun _ => Bool.casesOn (motive := fun _ => Bool) (Nat.beq n 1) false (k [x])) (Bool.casesOn (motive := fun _ => Bool) (Nat.beq n 1) false (k [x])) (fun cs => Bool.casesOn (motive := fun _ => Bool) (Nat.beq cs.length n) false (k cs)) (fun _ => false) (fun _ _ => Bool.casesOn (motive := fun _ => Bool) (Nat.beq n 1) false (k [x])) (fun _ => (Bool.casesOn (motive := fun _ => Bool) (Nat.beq n 1) false (k [x])))
def ifT (c : Bool) (x : Bool) : Bool := Bool.casesOn (motive := fun _ => Bool) c false x
theorem ifT_spec {c x : Bool} (h : ifT c x = true) : c = true ∧ x = true := by cases c <;> first | exact ⟨rfl, h⟩ | cases h
theorem ifT_le {a b : Nat} {x : Bool} (h : ifT (Nat.ble a b) x = true) : a ≤ b ∧ x = true := ⟨Nat.le_of_ble_eq_true (ifT_spec h).1, (ifT_spec h).2⟩
theorem ifT_lt {a b : Nat} {x : Bool} (h : ifT (Nat.blt a b) x = true) : a < b ∧ x = true := ⟨Nat.le_of_ble_eq_true (ifT_spec h).1, (ifT_spec h).2⟩
theorem ifT_eq {a b : Nat} {x : Bool} (h : ifT (Nat.beq a b) x = true) : a = b ∧ x = true := ⟨Nat.eq_of_beq_eq_true (ifT_spec h).1, (ifT_spec h).2⟩
theorem AV.cellsK_spec {ρ : Q → Loc} {N : Nat} {x : AV} {v : Value} {n : Nat} {k : List AV → Bool} (h : x.cellsK n k = true) (r : Rel ρ N x v) : ∃ cs : List AV, k cs = true ∧ cs.length = n ∧ v.cells.size = n ∧ RelL ρ N cs v.cells.toList ∧ ∀ u ∈ v.cells.toList, u.oneCell' = true := by
  have key : ∀ (g : Bool) , x.one = true → ifT (Nat.beq n 1) g = true → g = k [x] → ∃ cs : List AV, k cs = true ∧ cs.length = n ∧ v.cells.size = n ∧ RelL ρ N cs v.cells.toList ∧ ∀ u ∈ v.cells.toList, u.oneCell' = true := by
    intro g h1 h2 h3
    obtain ⟨e, h2⟩ := ifT_eq h2
    subst e
    have ho := AV.one_spec h1 r
    have hc : v.cells = #[v] := by cases v <;> first | rfl | cases ho
    rw [hc]
    exact ⟨[x], h3 ▸ h2, rfl, rfl, .cons _ _ _ _ r .nil, fun u hu => by simp at hu; rw [hu]; exact ho⟩
  cases x with
  | d => cases h
  | t cs => cases h
  | a cs =>
    obtain ⟨e, h⟩ := ifT_eq h
    cases r with
    | a cs vs hl h1 => exact ⟨cs, h, e, by rw [← e, hl.length]; rfl, hl, by simpa [Value.cells] using h1⟩
  | _ => exact key _ rfl h rfl

def OB.on (b : OB) (f : Nat → Nat → V → Bool) : Bool := OB.casesOn (motive := fun _ => Bool) b false f (fun _ => false) (fun _ _ => false) (fun _ => false)
theorem OB.on_spec {b : OB} {f : Nat → Nat → V → Bool} (h : b.on f = true) : ∃ ty n v, b = .bk ty n v ∧ f ty n v = true := by cases b <;> first | exact ⟨_, _, _, rfl, h⟩ | cases h
def OB.onY (b : OB) (f : Oy → Bool) : Bool := OB.casesOn (motive := fun _ => Bool) b false (fun _ _ _ => false) (fun _ => false) (fun _ _ => false) f
theorem OB.onY_spec {b : OB} {f : Oy → Bool} (h : b.onY f = true) : ∃ o, b = .y o ∧ f o = true := by cases b <;> first | exact ⟨_, rfl, h⟩ | cases h
def Oy.on_op (b : Oy) (f : Nat → Bool) : Bool := Oy.casesOn (motive := fun _ => Bool) b f (fun _ => false)
theorem Oy.on_op_spec {b : Oy} {f : Nat → Bool} (h : b.on_op f = true) : ∃ i, b = .op i ∧ f i = true := by cases b <;> first | exact ⟨_, rfl, h⟩ | cases h
def Oy.on_soup (b : Oy) (f : Nat → Bool) : Bool := Oy.casesOn (motive := fun _ => Bool) b (fun _ => false) f
theorem Oy.on_soup_spec {b : Oy} {f : Nat → Bool} (h : b.on_soup f = true) : ∃ i, b = .soup i ∧ f i = true := by cases b <;> first | exact ⟨_, rfl, h⟩ | cases h
def OB.onM (b : OB) (f : List (AV × AV) → Bool) : Bool := OB.casesOn (motive := fun _ => Bool) b false (fun _ _ _ => false) f (fun _ _ => false) (fun _ => false)
theorem OB.onM_spec {b : OB} {f : List (AV × AV) → Bool} (h : b.onM f = true) : ∃ es, b = .mp es ∧ f es = true := by cases b <;> first | exact ⟨_, rfl, h⟩ | cases h
def OB.onS (b : OB) (f : Nat → List Nat → Bool) : Bool := OB.casesOn (motive := fun _ => Bool) b false (fun _ _ _ => false) (fun _ => false) f (fun _ => false)
theorem OB.onS_spec {b : OB} {f : Nat → List Nat → Bool} (h : b.onS f = true) : ∃ o l, b = .si o l ∧ f o l = true := by cases b <;> first | exact ⟨_, _, rfl, h⟩ | cases h

noncomputable def Q.succK (q : Q) : (Q → Bool) → Bool :=
  Q.rec (motive := fun _ => (Q → Bool) → Bool) (fun k => k (.d1 .e)) (fun q _ k => k (.d1 q)) (fun q _ k => k (.d2 q)) (fun q _ k => k (.d3 q)) (fun q _ k => k (.d4 q)) (fun q _ k => k (.d5 q)) (fun q _ k => k (.d6 q)) (fun q _ k => k (.d7 q)) (fun _ ih k => ih (fun q => k (.d0 q))) q
theorem Q.succK_eq (q : Q) : ∀ k : Q → Bool, q.succK k = k q.succ := by
  induction q with
  | e => intro k; rfl
  | d0 q _ => intro k; rfl
  | d1 q _ => intro k; rfl
  | d2 q _ => intro k; rfl
  | d3 q _ => intro k; rfl
  | d4 q _ => intro k; rfl
  | d5 q _ => intro k; rfl
  | d6 q _ => intro k; rfl
  | d7 q ih => intro k; exact ih _

/-- So many cells from a place. -/
noncomputable def V.range (v : V) (n o : Nat) : List AV := Nat.rec (motive := fun _ => Nat → List AV) (fun _ => []) (fun _ ih o => v.get o :: ih (Nat.succ o)) n o
theorem V.range_length (v : V) : ∀ n o, (v.range n o).length = n
  | 0, _ => rfl
  | m + 1, o => by show (v.get o :: v.range m (o + 1)).length = m + 1; rw [List.length_cons, V.range_length v m]
theorem V.range_get? (v : V) : ∀ (n o i : Nat), i < n → (v.range n o)[i]? = some (v.get (o + i))
  | 0, _, _, h => absurd h (by omega)
  | m + 1, o, 0, _ => rfl
  | m + 1, o, i + 1, h => (V.range_get? v m (o + 1) i (by omega)).trans (by rw [show o + 1 + i = o + (i + 1) by omega])
theorem V.range_get (v : V) (n o i : Nat) (h : i < (v.range n o).length) : (v.range n o)[i] = v.get (o + i) := by
  have := V.range_get? v n o i (by rwa [V.range_length] at h)
  rw [List.getElem?_eq_getElem h] at this
  exact Option.some.inj this
/-- Cells laid from a place on. -/
noncomputable def V.setL (xs : List AV) : V → Nat → (V → Bool) → Bool :=
  List.rec (motive := fun _ => V → Nat → (V → Bool) → Bool) (fun v _ k => k v) (fun x _ ih v i k => V.setK x v i (fun v' => ih v' (Nat.succ i) k)) xs
theorem V.setL_spec : ∀ (xs : List AV) (v : V) (i : Nat) (k : V → Bool), V.setL xs v i k = true → ∃ v' : V, k v' = true ∧ (∀ (j : Nat) (hj : j < xs.length), v'.get (i + j) = xs[j]) ∧ ∀ j, j < i ∨ i + xs.length ≤ j → v'.get j = v.get j
  | [], v, i, k, h => ⟨v, h, fun j hj => absurd hj (by simp), fun _ _ => rfl⟩
  | x :: xs, v, i, k, h => by
    obtain ⟨v1, h1, g1, o1⟩ := V.setK_spec x v i _ h
    obtain ⟨v2, h2, g2, o2⟩ := V.setL_spec xs v1 (i + 1) k h1
    refine ⟨v2, h2, fun j hj => ?_, fun j hj => ?_⟩
    · cases j with
      | zero => rw [Nat.add_zero, o2 i (.inl (by omega)), g1]; rfl
      | succ j => rw [show i + (j + 1) = i + 1 + j by omega]; exact g2 j (by simpa using hj)
    · simp only [List.length_cons] at hj
      rw [o2 j (by omega), o1 j (by omega)]
end Go.Proofs.YtmddhlfjilkdfaaGreatDoor
namespace Go.Proofs.YtmddhlfjilkdfaaGreatDoor
set_option linter.unusedVariables false
set_option linter.unusedSimpArgs false

theorem Addr.add_none (b o j : Nat) : (⟨b, o, none⟩ : Addr).add j = ⟨b, o + j, none⟩ := by unfold Addr.add; split <;> simp_all
/-- What a type's value is: an aggregate or one cell, and of how many cells. -/
def aggOf (P : Program) (t : TypeId) : Option (Bool × Nat) :=
  match P.underlying t, P.info? t with
  | some (.struct _), some i => some (true, i.size)
  | some (.array _ _), some i => some (true, i.size)
  | some _, some i => some (false, i.size)
  | _, _ => none
theorem aggOf_true {P : Program} {t n : Nat} (h : aggOf P t = some (true, n)) (w : World) : (isAgg t).run P w = .ok true w ∧ (sizeOf t).run P w = .ok n w ∧ P.cellsOf t = n := by
  unfold aggOf at h
  split at h
  · rename_i hu hi; cases h; exact ⟨by simp [isAgg, run_underlying hu], by simp [sizeOf, typeInfo, hi], by simp [Program.cellsOf, hi]⟩
  · rename_i hu hi; cases h; exact ⟨by simp [isAgg, run_underlying hu], by simp [sizeOf, typeInfo, hi], by simp [Program.cellsOf, hi]⟩
  · cases h
  · cases h
theorem aggOf_false {P : Program} {t n : Nat} (h : aggOf P t = some (false, n)) (w : World) : (isAgg t).run P w = .ok false w ∧ (sizeOf t).run P w = .ok n w ∧ P.cellsOf t = n := by
  unfold aggOf at h
  split at h
  · cases h
  · cases h
  · rename_i d i h1 h2 hu hi
    cases h
    refine ⟨?_, by simp [sizeOf, typeInfo, hi], by simp [Program.cellsOf, hi]⟩
    simp only [isAgg, Sem.run_bind, run_underlying hu, Result.andThen_ok]
    cases d <;> first | rfl | exact (h1 _ rfl).elim | exact (h2 _ _ rfl).elim
  · cases h
theorem aggOf_size {P : Program} {t n : Nat} {g : Bool} (h : aggOf P t = some (g, n)) (w : World) : (sizeOf t).run P w = .ok n w := by
  cases g
  · exact (aggOf_false h w).2.1
  · exact (aggOf_true h w).2.1

/-! Loads. -/
noncomputable def ld1 (x : AV) (h : Hp) (k : AV → Bool) : Bool := x.on_p fun q o => (HT.getR q h.t).on fun _ n v => ifT (Nat.blt o n) (k (v.get o))
noncomputable def ldN (m : Nat) (x : AV) (h : Hp) (k : AV → Bool) : Bool := x.on_p fun q o => (HT.getR q h.t).on fun _ n v => ifT (Nat.ble (Nat.add o m) n) (k (.a (v.range m o)))
section
variable {P : Program} {ρ : Q → Loc} {h : Hp} {w : World} {B : Nat}
theorem Emb.cells (E : Emb P ρ h w B) {q : Q} {ty n : Nat} {v : V} (hg : h.t.get q = .bk ty n v) (o : Nat) (m : Nat) (hm : o + m ≤ n) : ∃ vs : List Value, vs.length = m ∧ RelL ρ h.nx.num (v.range m o) vs ∧ (∀ u ∈ vs, u.oneCell' = true) ∧ ∀ j u, vs[j]? = some u → w.cell? ⟨(ρ q).blk, (ρ q).base + o + j, none⟩ = some u := by
  have R := E.row q ty n v hg
  refine ⟨(List.range m).map fun j => (w.cell? ⟨(ρ q).blk, (ρ q).base + (o + j), none⟩).getD undef, by simp, ?_, ?_, ?_⟩
  · refine RelL.of_get (by simp [V.range_length]) fun i hx hv => ?_
    rw [V.range_length] at hx
    obtain ⟨x, h1, h2, _⟩ := R.get (o + i) (by omega)
    rw [V.range_get]
    simpa [h1] using h2
  · intro u hu
    obtain ⟨j, hj, rfl⟩ := List.mem_map.1 hu
    obtain ⟨x, h1, _, h3⟩ := R.get (o + j) (by have := List.mem_range.1 hj; omega)
    simpa [h1] using h3
  · intro j u hu
    have hj : j < m := by
      have := (List.getElem?_eq_some_iff.1 hu).1
      simpa using this
    obtain ⟨x, h1, _, _⟩ := R.get (o + j) (by omega)
    simp [hj] at hu
    rw [h1] at hu
    simp at hu
    rw [Nat.add_assoc, h1, hu]
theorem ld1_sound (E : Emb P ρ h w B) {t n : Nat} (ht : aggOf P t = some (false, n)) {x : AV} {u : Value} (hx : Rel ρ h.nx.num x u) {k : AV → Bool} (hk : ld1 x h k = true) : ∃ y v, (Instr.loadAt t u).run P w = .ok v w ∧ Rel ρ h.nx.num y v ∧ k y = true := by
  obtain ⟨q, o, rfl, hk2⟩ := AV.on_p_spec hk
  clear hk
  have hk := hk2
  clear hk2
  rw [HT.getR_eq] at hk
  obtain ⟨ty, m, v, hg, hk⟩ := OB.on_spec hk
  obtain ⟨hlt, hk⟩ := ifT_lt hk
  obtain ⟨y, h1, h2, _⟩ := (E.row q ty m v hg).get o hlt
  cases hx
  refine ⟨_, y, ?_, h2, hk⟩
  simp [Instr.loadAt, Instr.sureAddr, loadVar, (aggOf_false ht w).1, h1]
theorem ldN_sound (E : Emb P ρ h w B) {t n : Nat} (ht : aggOf P t = some (true, n)) {x : AV} {u : Value} (hx : Rel ρ h.nx.num x u) {k : AV → Bool} (hk : ldN n x h k = true) : ∃ y v, (Instr.loadAt t u).run P w = .ok v w ∧ Rel ρ h.nx.num y v ∧ k y = true := by
  obtain ⟨q, o, rfl, hk2⟩ := AV.on_p_spec hk
  clear hk
  have hk := hk2
  clear hk2
  rw [HT.getR_eq] at hk
  obtain ⟨ty, m, v, hg, hk⟩ := OB.on_spec hk
  obtain ⟨hle, hk⟩ := ifT_le hk
  obtain ⟨vs, hl, hr, h1, hc⟩ := E.cells hg o n hle
  cases hx
  refine ⟨_, .agg vs.toArray, ?_, .a _ vs hr h1, hk⟩
  have hrun := run_loadCells_list (P := P) w ⟨(ρ q).blk, (ρ q).base + o, none⟩ vs (fun j u hu => by rw [Addr.add_none]; exact hc j u hu)
  rw [hl] at hrun
  simp [Instr.loadAt, Instr.sureAddr, loadVar, (aggOf_true ht w).1, (aggOf_true ht w).2.1, hrun]

/-! Stores. -/
theorem World.shape?_setCell (w : World) (a : Addr) (u : Value) (b : Nat) : (w.setCell a u).shape? b = w.shape? b := by
  unfold World.shape? World.setCell
  simp only [Array.getElem?_modify]
  by_cases e : a.block = b
  · subst e
    rw [if_pos rfl]
    cases w.heap[a.block]? with
    | none => rfl
    | some ob => cases ob <;> simp only [Option.map_some]; split <;> simp
  · rw [if_neg e]
theorem World.shape?_setCells (b : Nat) : ∀ (vs : List Value) (o : Nat) (w : World) (c : Nat), (w.setCells b o vs).shape? c = w.shape? c
  | [], _, _, _ => rfl
  | v :: r, o, w, c => by rw [World.setCells, World.shape?_setCells b r, World.shape?_setCell]
theorem World.setCells_other (b : Nat) : ∀ (vs : List Value) (o : Nat) (w : World), (w.setCells b o vs).heap.size = w.heap.size ∧ (∀ c, c ≠ b → (w.setCells b o vs).heap[c]? = w.heap[c]?) ∧ (w.setCells b o vs).os = w.os ∧ (w.setCells b o vs).tape = w.tape ∧ (w.setCells b o vs).output = w.output
  | [], _, _ => ⟨rfl, fun _ _ => rfl, rfl, rfl, rfl⟩
  | v :: r, o, w => by
    obtain ⟨h1, h2, h3, h4, h5⟩ := World.setCells_other b r (o + 1) (w.setCell ⟨b, o, none⟩ v)
    rw [World.setCells]
    refine ⟨h1.trans (by simp [World.setCell]), fun c hc => (h2 c hc).trans ?_, h3, h4, h5⟩
    simp only [World.setCell, Array.getElem?_modify]
    rw [if_neg (fun e => hc e.symm)]
/-- Cells of a block of this name are written, known ones or such as stand behind them. -/
theorem Emb.write (E : Emb P ρ h w B) {q : Q} {ty n : Nat} {v : V} (hg : h.t.get q = .bk ty n v) (o : Nat) {xs : List AV} {vs : List Value} (hx : RelL ρ h.nx.num xs vs) (h1 : ∀ u ∈ vs, u.oneCell' = true) (hle : o ≤ n)
    (v' : V) (hin : ∀ (j : Nat) (hj : j < xs.length), v'.get (o + j) = xs[j]) (hout : ∀ j, j < o ∨ o + xs.length ≤ j → v'.get j = v.get j) (n' : Nat) (hn : n' = n ∨ n' = o + xs.length) (hn1 : n' ≤ max n (o + xs.length)) (hroom : ∀ sz, w.shape? (ρ q).blk = some (ty, sz) → (ρ q).base + o + xs.length ≤ sz) :
    (storeCells ⟨(ρ q).blk, (ρ q).base + o, none⟩ vs).run P w = .ok () (w.setCells (ρ q).blk ((ρ q).base + o) vs) ∧
    Emb P ρ (.mk (h.t.set (.bk ty n' v') q) h.nx) (w.setCells (ρ q).blk ((ρ q).base + o) vs) B ∧ Step ρ h w ρ (.mk (h.t.set (.bk ty n' v') q) h.nx) (w.setCells (ρ q).blk ((ρ q).base + o) vs) := by
  have R := E.row q ty n v hg
  obtain ⟨sz, hs, hb1, hb2, hfz⟩ := R.at_
  have hroom := hroom sz hs
  have hlen := hx.length
  have hcell : ∀ j, j < sz → (w.cell? ⟨(ρ q).blk, j, none⟩).isSome = true := fun j hj => by
    unfold World.shape? at hs
    unfold World.cell?
    cases hh : w.heap[(ρ q).blk]? with
    | none => rw [hh] at hs; cases hs
    | some ob =>
      rw [hh] at hs
      cases ob <;> cases hs
      simp [hj]
  obtain ⟨g1, g2, g3, g4, g5⟩ := World.setCells_other (ρ q).blk vs ((ρ q).base + o) w
  refine ⟨?_, ?_⟩
  · have := run_storeCells_cells (P := P) (ρ q).blk ((ρ q).base + o) vs 0 w (fun j hj => hcell _ (by omega)) (fun j hj => hfz _ (by omega)) h1
    simpa using this
  · refine E.set (by rw [Hp.live, hg]; simp) _ (by simp) g1 g2 g3 g4 g5 (fun ty' m u hb => ?_) (fun es hb => by cases hb)
    injection hb with e1 e2 e3
    subst e1 e2 e3
    have hs2 : (w.setCells (ρ q).blk ((ρ q).base + o) vs).shape? (ρ q).blk = some (ty, sz) := (World.shape?_setCells _ _ _ _ _).trans hs
    have hn2 : n' ≤ n ∨ n' = o + xs.length := by omega
    refine ⟨⟨sz, hs2, by omega, hb2, fun i hi => by rw [World.frozen?_setCells]; exact hfz i hi⟩, fun i hi => ?_⟩
    by_cases hh : o ≤ i ∧ i < o + xs.length
    · have hj : i - o < vs.length := by omega
      have := World.cell?_setCells_in (ρ q).blk vs ((ρ q).base + o) w (fun j hj => hcell _ (by omega)) (i - o) hj
      rw [show (ρ q).base + o + (i - o) = (ρ q).base + i by omega] at this
      refine ⟨_, this, ?_, h1 _ (List.getElem_mem hj)⟩
      have h3 := hin (i - o) (by omega)
      rw [show o + (i - o) = i by omega] at h3
      rw [h3]
      exact hx.get (i - o) (by omega) hj
    · have hin2 : i < n := by omega
      obtain ⟨x, a1, a2, a3⟩ := R.get i hin2
      refine ⟨x, ?_, ?_, a3⟩
      · rw [World.cell?_setCells_out (ρ q).blk vs ((ρ q).base + o) w _ (fun _ _ => by show _ ∨ _; simp only; omega)]; exact a1
      · rw [hout i (by omega)]; exact a2
noncomputable def stL (m : Nat) (x y : AV) (h : Hp) (k : Hp → Bool) : Bool :=
  x.on_p fun q o => y.cellsK m fun cs => (HT.getR q h.t).on fun ty n v => ifT (Nat.ble (Nat.add o m) n) (V.setL cs v o fun v' => HT.setK (.bk ty n v') q h.t fun t' => k (.mk t' h.nx))
theorem stL_sound (E : Emb P ρ h w B) {t m : Nat} {g : Bool} (ht : aggOf P t = some (g, m)) {x y : AV} {u z : Value} (hx : Rel ρ h.nx.num x u) (hy : Rel ρ h.nx.num y z) {k : Hp → Bool} (hk : stL m x y h k = true) :
    ∃ w' h', (Instr.storeAt t u z).run P w = .ok () w' ∧ Emb P ρ h' w' B ∧ Step ρ h w ρ h' w' ∧ k h' = true := by
  obtain ⟨q, o, rfl, hk2⟩ := AV.on_p_spec hk
  clear hk
  have hk := hk2
  clear hk2
  obtain ⟨cs, hk, hl, hsz, hr, h1⟩ := AV.cellsK_spec hk hy
  rw [HT.getR_eq] at hk
  obtain ⟨ty, n, v, hg, hk⟩ := OB.on_spec hk
  obtain ⟨hle, hk⟩ := ifT_le hk
  have hle : o + m ≤ n := hle
  obtain ⟨v', hk, hin, hout⟩ := V.setL_spec cs v o _ hk
  rw [HT.setK_eq] at hk
  cases hx
  have R := E.row q ty n v hg
  obtain ⟨a1, a2, a3⟩ := E.write hg o hr h1 (by omega) v' hin hout n (.inl rfl) (by omega) (fun sz hs => by
    obtain ⟨sz', hs', hb, _⟩ := R.at_
    rw [hs] at hs'
    cases hs'
    omega)
  refine ⟨_, _, ?_, a2, a3, hk⟩
  simp [Instr.storeAt, Instr.sureAddr, storeVar, aggOf_size ht w, hsz, a1]
end
end Go.Proofs.YtmddhlfjilkdfaaGreatDoor
namespace Go.Proofs.YtmddhlfjilkdfaaGreatDoor
set_option linter.unusedVariables false
set_option linter.unusedSimpArgs false

section
variable {P : Program} {ρ : Q → Loc} {h : Hp} {w : World} {B : Nat}
/-- The place of the next block, with room for so many. -/
def Hp.loc (w : World) (cap : Nat) : Loc := { blk := w.heap.size, base := 0, cap := cap }
/-- A new row of cells, the first of them known. -/
theorem Emb.cellsNew' (E : Emb P ρ h w B) (t0 : HT) (ht : ∀ r, t0.get r = .no ∨ t0.get r = h.t.get r) {w' : World} (c : Array Value) (ty : TypeId) (fz : Nat × Nat) (hw : w'.heap = w.heap.push (.cells c ty fz)) (hos : w'.os = w.os) (htape : w'.tape = w.tape) (hout : w'.output = w.output)
    {cs : List AV} {vs : List Value} (hr : RelL ρ h.nx.num cs vs) (h1 : ∀ u ∈ vs, u.oneCell' = true) (hv : ∀ (j : Nat) (u : Value), vs[j]? = some u → c[j]? = some u) (hsz : vs.length ≤ c.size) (cap : Nat) (hcap : cap * P.cellsOf ty ≤ c.size) (hfz : ∀ o, o < c.size → ¬ (fz.1 ≤ o ∧ o < fz.2))
    {v : V} (hg : ∀ (j : Nat) (hj : j < cs.length), v.get j = cs[j]) :
    Emb P (upd ρ h.nx (Hp.loc w cap)) (.mk (t0.set (.bk ty cs.length v) h.nx) h.nx.succ) w' B ∧ Step ρ h w (upd ρ h.nx (Hp.loc w cap)) (.mk (t0.set (.bk ty cs.length v) h.nx) h.nx.succ) w' := by
  have hat : w'.heap[w.heap.size]? = some (.cells c ty fz) := by rw [hw]; simp
  have hlen := hr.length
  refine E.new' t0 ht (.cells c ty fz) hw hos htape hout _ (by simp) cap (fun ty' n' v' hb => ?_) (fun es hb => by cases hb)
  injection hb with e1 e2 e3
  subst e1 e2 e3
  refine ⟨⟨c.size, by unfold World.shape?; simp only; rw [hat], by simp only; omega, by simp only; omega, fun o ho => ?_⟩, fun i hi => ?_⟩
  · unfold World.frozen?
    simp only [hat]
    have := hfz o ho
    obtain ⟨lo, hi⟩ := fz
    simp only at this ⊢
    simpa using this
  · have hi2 : i < vs.length := by omega
    refine ⟨vs[i], ?_, ?_, h1 _ (List.getElem_mem hi2)⟩
    · unfold World.cell?
      simp only [hat, Nat.zero_add]
      simpa using hv i _ (List.getElem?_eq_getElem hi2)
    · rw [hg i hi]
      exact (hr.get i hi hi2).mono (upd_lt _ _ _) (by rw [Q.num_succ]; omega)
theorem Emb.cellsNew (E : Emb P ρ h w B) {w' : World} (c : Array Value) (ty : TypeId) (fz : Nat × Nat) (hw : w'.heap = w.heap.push (.cells c ty fz)) (hos : w'.os = w.os) (htape : w'.tape = w.tape) (hout : w'.output = w.output)
    {cs : List AV} {vs : List Value} (hr : RelL ρ h.nx.num cs vs) (h1 : ∀ u ∈ vs, u.oneCell' = true) (hv : ∀ (j : Nat) (u : Value), vs[j]? = some u → c[j]? = some u) (hsz : vs.length ≤ c.size) (cap : Nat) (hcap : cap * P.cellsOf ty ≤ c.size) (hfz : ∀ o, o < c.size → ¬ (fz.1 ≤ o ∧ o < fz.2))
    {v : V} (hg : ∀ (j : Nat) (hj : j < cs.length), v.get j = cs[j]) :
    Emb P (upd ρ h.nx (Hp.loc w cap)) (.mk (h.t.set (.bk ty cs.length v) h.nx) h.nx.succ) w' B ∧ Step ρ h w (upd ρ h.nx (Hp.loc w cap)) (.mk (h.t.set (.bk ty cs.length v) h.nx) h.nx.succ) w' :=
  E.cellsNew' h.t (fun _ => .inr rfl) c ty fz hw hos htape hout hr h1 hv hsz cap hcap hfz hg
/-- The pointer to it. -/
theorem rel_new (ρ : Q → Loc) (q : Q) (w : World) (cap N : Nat) (hN : q.num < N) (o : Nat) : Rel (upd ρ q (Hp.loc w cap)) N (.p q o) (.pointer (some ⟨w.heap.size, o, none⟩)) := by
  have := Rel.p (ρ := upd ρ q (Hp.loc w cap)) (N := N) q o hN
  rw [upd_same] at this
  simpa [Hp.loc] using this
noncomputable def nbK (ty m : Nat) (cs : List AV) (h : Hp) (k : Q → Hp → Bool) : Bool := V.setL cs .z 0 fun v => HT.setK (.bk ty m v) h.nx h.t fun t' => h.nx.succK fun n' => k h.nx (.mk t' n')
theorem nbK_spec {ty m : Nat} {cs : List AV} {k : Q → Hp → Bool} (hl : cs.length = m) (hk : nbK ty m cs h k = true) : ∃ v : V, (∀ (j : Nat) (hj : j < cs.length), v.get j = cs[j]) ∧ k h.nx (.mk (h.t.set (.bk ty cs.length v) h.nx) h.nx.succ) = true := by
  obtain ⟨v, h1, h2, _⟩ := V.setL_spec cs .z 0 _ hk
  rw [HT.setK_eq, Q.succK_eq, ← hl] at h1
  exact ⟨v, fun j hj => by simpa using h2 j hj, h1⟩

/-! 'new(T)', '&x'. -/
noncomputable def boxK (ty m : Nat) (x : AV) (h : Hp) (k : AV → Hp → Bool) : Bool := x.cellsK m fun cs => nbK ty m cs h fun q h' => k (.p q 0) h'
/-- Abstract values of constants. -/
def cv : Value → AV
  | .bool b => .b b
  | .int k n => if 0 ≤ n + 9223372036854775808 then .i k (n + 9223372036854775808).toNat else .d
  | .string s => .s s.size (s.data.toList.map UInt8.toNat)
  | .pointer none => .np
  | .slice none 0 0 => .ns
  | .map none => .nm
  | .nilFunc => .nf
  | .nilIface => .ni
  | _ => .d
theorem cv_rel (ρ : Q → Loc) (N : Nat) (v : Value) : Rel ρ N (cv v) v := by
  unfold cv
  split
  · exact .b _
  · rename_i k n
    split
    · rename_i hn
      have := Rel.i (ρ := ρ) (N := N) k (n + 9223372036854775808).toNat
      rwa [Int.toNat_of_nonneg hn, Int.add_sub_cancel] at this
    · exact .d _
  · exact .s _
  · exact .np
  · exact .ns
  · exact .nm
  · exact .nf
  · exact .ni
  · exact .d _
/-- A constant, maybe an aggregate. -/
def cva : Value → AV
  | .agg cs => if cs.toList.all Value.oneCell' then .a (cs.toList.map cv) else .d
  | v => cv v
theorem relL_cv (ρ : Q → Loc) (N : Nat) : ∀ vs : List Value, RelL ρ N (vs.map cv) vs
  | [] => .nil
  | v :: vs => .cons _ _ _ _ (cv_rel ρ N v) (relL_cv ρ N vs)
theorem cva_rel (ρ : Q → Loc) (N : Nat) (v : Value) : Rel ρ N (cva v) v := by
  unfold cva
  split
  · rename_i cs
    split
    · rename_i hh
      have := Rel.a (ρ := ρ) (N := N) _ cs.toList (relL_cv ρ N cs.toList) (fun v hv => List.all_eq_true.1 hh v hv)
      simpa using this
    · exact .d _
  · exact cv_rel _ _ _
/-- A type's zero value. -/
def zeroOf (P : Program) (t : TypeId) : AV := match (P.info? t).bind (·.zero) with
  | some v => cva v
  | none => .d
theorem box_run (ty : TypeId) (v : Value) : (Instr.box ty v).run P w = .ok (.pointer (some ⟨w.heap.size, 0, none⟩)) { w with heap := w.heap.push (.cells v.cells ty (0, 0)) } := by
  simp [Instr.box, newVar, newRow]
theorem boxK_sound (E : Emb P ρ h w B) (ty m : Nat) (hm : P.cellsOf ty = m) {x : AV} {u : Value} (hx : Rel ρ h.nx.num x u) {k : AV → Hp → Bool} (hk : boxK ty m x h k = true) :
    ∃ y v w' ρ' h', (Instr.box ty u).run P w = .ok v w' ∧ Emb P ρ' h' w' B ∧ Step ρ h w ρ' h' w' ∧ Rel ρ' h'.nx.num y v ∧ k y h' = true := by
  obtain ⟨cs, hk, hl, hsz, hr, h1⟩ := AV.cellsK_spec hk hx
  obtain ⟨v, hg, hk⟩ := nbK_spec hl hk
  obtain ⟨a1, a2⟩ := E.cellsNew (w' := { w with heap := w.heap.push (.cells u.cells ty (0, 0)) }) u.cells ty (0, 0) rfl rfl rfl rfl hr h1 (fun j u hu => by simpa using hu) (by simp) 1 (by rw [hm, hsz]; omega) (fun o _ => by simp) hg
  exact ⟨_, _, _, _, _, box_run ty u, a1, a2, rel_new _ _ _ _ _ (by show h.nx.num < h.nx.succ.num; rw [Q.num_succ]; omega) 0, hk⟩
theorem alloc_run (ty : TypeId) (z : Value) (hz : (P.info? ty).bind (·.zero) = some z) : (Instr.alloc ty true (.tuple #[])).run P w = (Instr.box ty z).run P w := by
  rw [box_run]
  cases hi : P.info? ty with
  | none => rw [hi] at hz; cases hz
  | some i =>
    rw [hi] at hz
    have hz : i.zero = some z := hz
    simp [Instr.alloc, zeroValue, typeInfo, hi, hz, newVar, newRow]
end
end Go.Proofs.YtmddhlfjilkdfaaGreatDoor
namespace Go.Proofs.YtmddhlfjilkdfaaGreatDoor
set_option linter.unusedVariables false
set_option linter.unusedSimpArgs false

def IM (k : IntKind) : Nat := IntKind.casesOn (motive := fun _ => Nat) k 256 65536 4294967296 18446744073709551616 256 65536 4294967296 18446744073709551616
/-- What residue stands for what integer (plus 2^63). -/
def back (k : IntKind) (r : Nat) : Nat :=
  IntKind.casesOn (motive := fun _ => Nat) k (Nat.add (Nat.mod (Nat.add r 128) 256) 9223372036854775680) (Nat.add (Nat.mod (Nat.add r 32768) 65536) 9223372036854743040) (Nat.add (Nat.mod (Nat.add r 2147483648) 4294967296) 9223372034707292160) (Nat.mod (Nat.add r 9223372036854775808) 18446744073709551616)
    (Nat.add r 9223372036854775808) (Nat.add r 9223372036854775808) (Nat.add r 9223372036854775808) (Nat.add r 9223372036854775808)
theorem IM_pos (k : IntKind) : 0 < IM k := by cases k <;> decide
theorem IM_bits (k : IntKind) : IM k = 2 ^ k.bits := by cases k <;> rfl
theorem back_i8 (r : Nat) : back .i8 r = (r + 128) % 256 + 9223372036854775680 := rfl
theorem back_i16 (r : Nat) : back .i16 r = (r + 32768) % 65536 + 9223372036854743040 := rfl
theorem back_i32 (r : Nat) : back .i32 r = (r + 2147483648) % 4294967296 + 9223372034707292160 := rfl
theorem back_i64 (r : Nat) : back .i64 r = (r + 9223372036854775808) % 18446744073709551616 := rfl
theorem wrapI (x : Int) : IntKind.i8.wrap x = (x + 128) % 256 - 128 ∧ IntKind.i16.wrap x = (x + 32768) % 65536 - 32768 ∧ IntKind.i32.wrap x = (x + 2147483648) % 4294967296 - 2147483648 ∧ IntKind.i64.wrap x = (x + 9223372036854775808) % 18446744073709551616 - 9223372036854775808 := by
  refine ⟨?_, ?_, ?_, ?_⟩ <;> (simp [IntKind.wrap, IntKind.bits, IntKind.signed]; split <;> omega)
theorem wrapU (x : Int) : IntKind.u8.wrap x = x % 256 ∧ IntKind.u16.wrap x = x % 65536 ∧ IntKind.u32.wrap x = x % 4294967296 ∧ IntKind.u64.wrap x = x % 18446744073709551616 := by
  refine ⟨?_, ?_, ?_, ?_⟩ <;> simp [IntKind.wrap, IntKind.bits, IntKind.signed]
theorem wrap_back (k : IntKind) (x : Int) (r : Nat) (h : (r : Int) = x % (IM k : Nat)) : k.wrap x = ((back k r : Nat) : Int) - 9223372036854775808 := by
  cases k
  · rw [(wrapI x).1, back_i8]; have h : (r : Int) = x % (256 : Nat) := h; omega
  · rw [(wrapI x).2.1, back_i16]; have h : (r : Int) = x % (65536 : Nat) := h; omega
  · rw [(wrapI x).2.2.1, back_i32]; have h : (r : Int) = x % (4294967296 : Nat) := h; omega
  · rw [(wrapI x).2.2.2, back_i64]; have h : (r : Int) = x % (18446744073709551616 : Nat) := h; omega
  · rw [(wrapU x).1]; have h : (r : Int) = x % (256 : Nat) := h; show _ = ((r + 9223372036854775808 : Nat) : Int) - _; omega
  · rw [(wrapU x).2.1]; have h : (r : Int) = x % (65536 : Nat) := h; show _ = ((r + 9223372036854775808 : Nat) : Int) - _; omega
  · rw [(wrapU x).2.2.1]; have h : (r : Int) = x % (4294967296 : Nat) := h; show _ = ((r + 9223372036854775808 : Nat) : Int) - _; omega
  · rw [(wrapU x).2.2.2]; have h : (r : Int) = x % (18446744073709551616 : Nat) := h; show _ = ((r + 9223372036854775808 : Nat) : Int) - _; omega
def natK (n : Nat) (k : Nat → Bool) : Bool := Nat.casesOn (motive := fun _ => Bool) n (k 0) (fun m => k (Nat.succ m))
theorem natK_eq (n : Nat) (k : Nat → Bool) : natK n k = k n := by cases n <;> rfl
/-- The residue of an integer kept as n. -/
def res (k : IntKind) (n : Nat) : Nat := Nat.mod (Nat.add n 9223372036854775808) (IM k)
theorem res_eq (k : IntKind) (n : Nat) : ((res k n : Nat) : Int) = ((n : Int) - 9223372036854775808) % (IM k : Nat) := by
  cases k
  · show (((n + 9223372036854775808) % 256 : Nat) : Int) = (_ - _) % (256 : Nat); omega
  · show (((n + 9223372036854775808) % 65536 : Nat) : Int) = (_ - _) % (65536 : Nat); omega
  · show (((n + 9223372036854775808) % 4294967296 : Nat) : Int) = (_ - _) % (4294967296 : Nat); omega
  · show (((n + 9223372036854775808) % 18446744073709551616 : Nat) : Int) = (_ - _) % (18446744073709551616 : Nat); omega
  · show (((n + 9223372036854775808) % 256 : Nat) : Int) = (_ - _) % (256 : Nat); omega
  · show (((n + 9223372036854775808) % 65536 : Nat) : Int) = (_ - _) % (65536 : Nat); omega
  · show (((n + 9223372036854775808) % 4294967296 : Nat) : Int) = (_ - _) % (4294967296 : Nat); omega
  · show (((n + 9223372036854775808) % 18446744073709551616 : Nat) : Int) = (_ - _) % (18446744073709551616 : Nat); omega
theorem bv_res (k : IntKind) (n : Nat) : (BitVec.ofInt k.bits ((n : Int) - 9223372036854775808)).toNat = res k n := by
  have h := res_eq k n
  rw [BitVec.toNat_ofInt]
  rw [IM_bits] at h
  have : ((2 ^ k.bits : Nat) : Int) = ((2 : Int) ^ k.bits) := by simp
  omega

theorem rel_back (ρ : Q → Loc) (N : Nat) (kd : IntKind) (x : Int) (r : Nat) (h : (r : Int) = x % (IM kd : Nat)) : Rel ρ N (.i kd (back kd r)) (.int kd (kd.wrap x)) := by
  rw [wrap_back kd x r h]; exact .i _ _
theorem res_lt (k : IntKind) (n : Nat) : res k n < 2 ^ k.bits := by rw [← IM_bits]; exact Nat.mod_lt _ (IM_pos k)
theorem mod_lt_IM (k : IntKind) (r : Nat) (h : r < 2 ^ k.bits) : ((r : Nat) : Int) = ((r : Nat) : Int) % (IM k : Nat) := by
  rw [← IM_bits] at h
  rw [Int.emod_eq_of_lt (by omega) (by omega)]
def nb (b : Bool) : Bool := Bool.casesOn (motive := fun _ => Bool) b true false
theorem nb_eq (b : Bool) : nb b = !b := by cases b <;> rfl
/-- Two integers of one kind. -/
def ibK (op : BinOp) (kd : IntKind) (a b : Nat) (k : AV → Bool) : Bool :=
  BinOp.casesOn (motive := fun _ => Bool) op
    (natK (back kd (Nat.mod (Nat.add a b) (IM kd))) fun n => k (.i kd n))
    (natK (back kd (Nat.mod (Nat.add a (Nat.sub 36893488147419103232 (Nat.mod b (IM kd)))) (IM kd))) fun n => k (.i kd n))
    (natK (back kd (Nat.mod (Nat.mul (res kd a) (res kd b)) (IM kd))) fun n => k (.i kd n))
    (ifT (Nat.ble 9223372036854775808 a) (ifT (Nat.blt 9223372036854775808 b) (natK (back kd (Nat.mod (Nat.div (Nat.sub a 9223372036854775808) (Nat.sub b 9223372036854775808)) (IM kd))) fun n => k (.i kd n))))
    (ifT (Nat.ble 9223372036854775808 a) (ifT (Nat.blt 9223372036854775808 b) (natK (Nat.add (Nat.mod (Nat.sub a 9223372036854775808) (Nat.sub b 9223372036854775808)) 9223372036854775808) fun n => k (.i kd n))))
    (natK (back kd (Nat.land (res kd a) (res kd b))) fun n => k (.i kd n))
    (natK (back kd (Nat.lor (res kd a) (res kd b))) fun n => k (.i kd n))
    (natK (back kd (Nat.xor (res kd a) (res kd b))) fun n => k (.i kd n))
    false false false
    (k (.b (Nat.beq a b))) (k (.b (nb (Nat.beq a b)))) (k (.b (Nat.blt a b))) (k (.b (Nat.ble a b))) (k (.b (Nat.blt b a))) (k (.b (Nat.ble b a)))
theorem IM_dvd (k : IntKind) : ((IM k : Nat) : Int) ∣ 18446744073709551616 := by
  cases k
  · exact ⟨72057594037927936, rfl⟩
  · exact ⟨281474976710656, rfl⟩
  · exact ⟨4294967296, rfl⟩
  · exact ⟨1, rfl⟩
  · exact ⟨72057594037927936, rfl⟩
  · exact ⟨281474976710656, rfl⟩
  · exact ⟨4294967296, rfl⟩
  · exact ⟨1, rfl⟩
theorem emod_shift (k : IntKind) (x y : Int) (c : Int) (h : x = y + 18446744073709551616 * c) : x % (IM k : Nat) = y % (IM k : Nat) := by
  obtain ⟨d, hd⟩ := IM_dvd k
  rw [h, hd, Int.mul_assoc, Int.add_mul_emod_self_left]
section
variable {P : Program} (t : TypeId) (kd : IntKind) (x y : Int) (w : World)
theorem run_iadd : (binOp .add t (.int kd x) (.int kd y)).run P w = .ok (.int kd (kd.wrap (x + y))) w := by simp [binOp, Op.intArith]
theorem run_isub : (binOp .sub t (.int kd x) (.int kd y)).run P w = .ok (.int kd (kd.wrap (x - y))) w := by simp [binOp, Op.intArith]
theorem run_imul : (binOp .mul t (.int kd x) (.int kd y)).run P w = .ok (.int kd (kd.wrap (x * y))) w := by simp [binOp, Op.intArith]
theorem run_iquo (h : ¬ y = 0) : (binOp .quo t (.int kd x) (.int kd y)).run P w = .ok (.int kd (kd.wrap (x.tdiv y))) w := by simp [binOp, Op.intDiv, h]
theorem run_irem (h : ¬ y = 0) : (binOp .rem t (.int kd x) (.int kd y)).run P w = .ok (.int kd (x.tmod y)) w := by simp [binOp, Op.intDiv, h]
theorem run_iand : (binOp .and t (.int kd x) (.int kd y)).run P w = .ok (.int kd (kd.wrap ((BitVec.ofInt kd.bits x).toNat &&& (BitVec.ofInt kd.bits y).toNat : Nat))) w := by simp [binOp, Op.intBits, BitVec.toNat_and]
theorem run_ior : (binOp .or t (.int kd x) (.int kd y)).run P w = .ok (.int kd (kd.wrap ((BitVec.ofInt kd.bits x).toNat ||| (BitVec.ofInt kd.bits y).toNat : Nat))) w := by simp [binOp, Op.intBits, BitVec.toNat_or]
theorem run_ixor : (binOp .xor t (.int kd x) (.int kd y)).run P w = .ok (.int kd (kd.wrap ((BitVec.ofInt kd.bits x).toNat ^^^ (BitVec.ofInt kd.bits y).toNat : Nat))) w := by simp [binOp, Op.intBits, BitVec.toNat_xor]
theorem run_ieql : (binOp .eql t (.int kd x) (.int kd y)).run P w = .ok (.bool (x == y)) w := by simp [binOp, Op.intCmp]
theorem run_ineq : (binOp .neq t (.int kd x) (.int kd y)).run P w = .ok (.bool (x != y)) w := by simp [binOp, Op.intCmp]
theorem run_ilss : (binOp .lss t (.int kd x) (.int kd y)).run P w = .ok (.bool (decide (x < y))) w := by simp [binOp, Op.intCmp]
theorem run_ileq : (binOp .leq t (.int kd x) (.int kd y)).run P w = .ok (.bool (decide (x ≤ y))) w := by simp [binOp, Op.intCmp]
theorem run_igtr : (binOp .gtr t (.int kd x) (.int kd y)).run P w = .ok (.bool (decide (x > y))) w := by simp [binOp, Op.intCmp]
theorem run_igeq : (binOp .geq t (.int kd x) (.int kd y)).run P w = .ok (.bool (decide (x ≥ y))) w := by simp [binOp, Op.intCmp]
theorem run_ishl (kb : IntKind) (h : ¬ y < 0) : (binOp .shl t (.int kd x) (.int kb y)).run P w = .ok (.int kd (kd.wrap (x * 2 ^ min y.toNat kd.bits))) w := by simp only [binOp, Op.shift, if_neg h, Sem.run_pure]
theorem run_ishr (kb : IntKind) (h : ¬ y < 0) : (binOp .shr t (.int kd x) (.int kb y)).run P w = .ok (.int kd (x.fdiv (2 ^ min y.toNat kd.bits))) w := by simp only [binOp, Op.shift, if_neg h, Sem.run_pure]
end
section
variable {P : Program} {ρ : Q → Loc} {N : Nat}
theorem ibK_sound {op : BinOp} {kd : IntKind} {a b : Nat} {k : AV → Bool} (hk : ibK op kd a b k = true) (t : TypeId) (w : World) :
    ∃ y v, (binOp op t (.int kd ((a : Int) - 9223372036854775808)) (.int kd ((b : Int) - 9223372036854775808))).run P w = .ok v w ∧ Rel ρ N y v ∧ k y = true := by
  cases op
  case add =>
    dsimp only [ibK] at hk
    rw [natK_eq] at hk
    refine ⟨_, _, run_iadd .., rel_back ρ N kd _ _ ?_, hk⟩
    show (((a + b) % IM kd : Nat) : Int) = _
    rw [Int.natCast_emod]
    exact (emod_shift kd _ _ 1 (by push_cast; omega))
  case sub =>
    dsimp only [ibK] at hk
    rw [natK_eq] at hk
    refine ⟨_, _, run_isub .., rel_back ρ N kd _ _ ?_, hk⟩
    show (((a + (36893488147419103232 - b % IM kd)) % IM kd : Nat) : Int) = _
    have hlt : b % IM kd < IM kd := Nat.mod_lt _ (IM_pos kd)
    have hle : IM kd ≤ 18446744073709551616 := by cases kd <;> decide
    rw [Int.natCast_emod]
    have hb : ((b % IM kd : Nat) : Int) = (b : Int) - (IM kd : Nat) * ((b : Int) / (IM kd : Nat)) := by rw [Int.natCast_emod, Int.emod_def]
    rw [Int.natCast_add, Int.natCast_sub (by omega), hb]
    have : (a : Int) + (((36893488147419103232 : Nat) : Int) - ((b : Int) - (IM kd : Nat) * ((b : Int) / (IM kd : Nat)))) = ((a : Int) - b + ((36893488147419103232 : Nat) : Int)) + (IM kd : Nat) * ((b : Int) / (IM kd : Nat)) := by omega
    rw [this, Int.add_mul_emod_self_left]
    exact (emod_shift kd _ _ 2 (by omega))
  case mul =>
    dsimp only [ibK] at hk
    rw [natK_eq] at hk
    refine ⟨_, _, run_imul .., rel_back ρ N kd _ _ ?_, hk⟩
    show (((res kd a * res kd b) % IM kd : Nat) : Int) = _
    rw [Int.natCast_emod, Int.natCast_mul, res_eq, res_eq, ← Int.mul_emod]
  case quo =>
    obtain ⟨ha, hk⟩ := ifT_le (show ifT _ (ifT _ (natK _ _)) = true from hk)
    obtain ⟨hb, hk⟩ := ifT_lt hk
    rw [natK_eq] at hk
    have h0 : ¬ ((b : Int) - 9223372036854775808 = 0) := by omega
    refine ⟨_, _, run_iquo _ _ _ _ _ h0, rel_back ρ N kd _ _ ?_, hk⟩
    show ((((a - 9223372036854775808) / (b - 9223372036854775808)) % IM kd : Nat) : Int) = _
    rw [Int.natCast_emod, Int.natCast_ediv, Int.tdiv_eq_ediv_of_nonneg (by omega), Int.natCast_sub (by omega), Int.natCast_sub (by omega)]
    rfl
  case rem =>
    obtain ⟨ha, hk⟩ := ifT_le (show ifT _ (ifT _ (natK _ _)) = true from hk)
    obtain ⟨hb, hk⟩ := ifT_lt hk
    rw [natK_eq] at hk
    have h0 : ¬ ((b : Int) - 9223372036854775808 = 0) := by omega
    refine ⟨_, _, run_irem _ _ _ _ _ h0, ?_, hk⟩
    have hm : ((a : Int) - 9223372036854775808).tmod ((b : Int) - 9223372036854775808) = (((a - 9223372036854775808) % (b - 9223372036854775808) + 9223372036854775808 : Nat) : Int) - 9223372036854775808 := by
      have e1 : ((a - 9223372036854775808 : Nat) : Int) = (a : Int) - 9223372036854775808 := by omega
      have e2 : ((b - 9223372036854775808 : Nat) : Int) = (b : Int) - 9223372036854775808 := Int.natCast_sub (Nat.le_of_lt hb)
      rw [Int.tmod_eq_emod_of_nonneg (by omega), Int.natCast_add, Int.natCast_emod, e1, e2]
      exact (Int.add_sub_cancel _ _).symm
    rw [hm]
    exact .i _ _
  case and =>
    dsimp only [ibK] at hk
    rw [natK_eq] at hk
    refine ⟨_, _, run_iand .., rel_back ρ N kd _ _ ?_, hk⟩
    rw [bv_res, bv_res]
    exact mod_lt_IM kd _ (Nat.and_lt_two_pow _ (res_lt kd b))
  case or =>
    dsimp only [ibK] at hk
    rw [natK_eq] at hk
    refine ⟨_, _, run_ior .., rel_back ρ N kd _ _ ?_, hk⟩
    rw [bv_res, bv_res]
    exact mod_lt_IM kd _ (Nat.or_lt_two_pow (res_lt kd a) (res_lt kd b))
  case xor =>
    dsimp only [ibK] at hk
    rw [natK_eq] at hk
    refine ⟨_, _, run_ixor .., rel_back ρ N kd _ _ ?_, hk⟩
    rw [bv_res, bv_res]
    exact mod_lt_IM kd _ (Nat.xor_lt_two_pow (res_lt kd a) (res_lt kd b))
  case shl => cases hk
  case shr => cases hk
  case andNot => cases hk
  case eql =>
    refine ⟨_, _, run_ieql .., ?_, (show k (.b (Nat.beq a b)) = true from hk)⟩
    have : ((a : Int) - 9223372036854775808 == (b : Int) - 9223372036854775808) = Nat.beq a b := by rw [Bool.eq_iff_iff, beq_iff_eq, Nat.beq_eq]; omega
    simpa [this] using Rel.b (ρ := ρ) (N := N) (Nat.beq a b)
  case neq =>
    refine ⟨_, _, run_ineq .., ?_, (show k (.b (nb (Nat.beq a b))) = true from hk)⟩
    have : ((a : Int) - 9223372036854775808 != (b : Int) - 9223372036854775808) = nb (Nat.beq a b) := by rw [nb_eq, Bool.eq_iff_iff, bne_iff_ne, Bool.not_eq_true', ← Bool.not_eq_true, Nat.beq_eq]; omega
    rw [this]; exact .b _
  case lss =>
    refine ⟨_, _, run_ilss .., ?_, (show k (.b (Nat.blt a b)) = true from hk)⟩
    have : decide ((a : Int) - 9223372036854775808 < (b : Int) - 9223372036854775808) = Nat.blt a b := by rw [Bool.eq_iff_iff, decide_eq_true_eq, Nat.blt_eq]; omega
    rw [this]; exact .b _
  case leq =>
    refine ⟨_, _, run_ileq .., ?_, (show k (.b (Nat.ble a b)) = true from hk)⟩
    have : decide ((a : Int) - 9223372036854775808 ≤ (b : Int) - 9223372036854775808) = Nat.ble a b := by rw [Bool.eq_iff_iff, decide_eq_true_eq, Nat.ble_eq]; omega
    rw [this]; exact .b _
  case gtr =>
    refine ⟨_, _, run_igtr .., ?_, (show k (.b (Nat.blt b a)) = true from hk)⟩
    have : decide ((a : Int) - 9223372036854775808 > (b : Int) - 9223372036854775808) = Nat.blt b a := by rw [Bool.eq_iff_iff, decide_eq_true_eq, Nat.blt_eq]; omega
    rw [this]; exact .b _
  case geq =>
    refine ⟨_, _, run_igeq .., ?_, (show k (.b (Nat.ble b a)) = true from hk)⟩
    have : decide ((a : Int) - 9223372036854775808 ≥ (b : Int) - 9223372036854775808) = Nat.ble b a := by rw [Bool.eq_iff_iff, decide_eq_true_eq, Nat.ble_eq]; omega
    rw [this]; exact .b _
/-- Shifts. -/
def shK (op : BinOp) (kd : IntKind) (a b : Nat) (k : AV → Bool) : Bool :=
  ifT (Nat.ble 9223372036854775808 b) (ifT (Nat.ble (Nat.sub b 9223372036854775808) kd.bits) (BinOp.casesOn (motive := fun _ => Bool) op false false false false false false false false
    (natK (back kd (Nat.mod (Nat.mul (res kd a) (Nat.pow 2 (Nat.sub b 9223372036854775808))) (IM kd))) fun n => k (.i kd n))
    (natK (Nat.div (Nat.add a (Nat.mul 9223372036854775808 (Nat.sub (Nat.pow 2 (Nat.sub b 9223372036854775808)) 1))) (Nat.pow 2 (Nat.sub b 9223372036854775808))) fun n => k (.i kd n))
    false false false false false false false))
theorem shK_sound {op : BinOp} {kd kb : IntKind} {a b : Nat} {k : AV → Bool} (hk : shK op kd a b k = true) (t : TypeId) (w : World) :
    ∃ y v, (binOp op t (.int kd ((a : Int) - 9223372036854775808)) (.int kb ((b : Int) - 9223372036854775808))).run P w = .ok v w ∧ Rel ρ N y v ∧ k y = true := by
  obtain ⟨hb, hk⟩ := ifT_le hk
  obtain ⟨hn, hk⟩ := ifT_le hk
  have hn : b - 9223372036854775808 ≤ kd.bits := hn
  have h0 : ¬ ((b : Int) - 9223372036854775808 < 0) := by omega
  have hmin : min ((b : Int) - 9223372036854775808).toNat kd.bits = b - 9223372036854775808 := by omega
  cases op
  case shl =>
    dsimp only at hk
    rw [natK_eq] at hk
    refine ⟨_, _, run_ishl _ _ _ _ _ _ h0, rel_back ρ N kd _ _ ?_, hk⟩
    rw [hmin]
    show (((res kd a * 2 ^ (b - 9223372036854775808)) % IM kd : Nat) : Int) = _
    rw [Int.natCast_emod, Int.natCast_mul, res_eq, Int.mul_emod, Int.emod_emod_of_dvd _ (Int.dvd_refl _), ← Int.mul_emod]
    congr 1
  case shr =>
    dsimp only at hk
    rw [natK_eq] at hk
    refine ⟨_, _, run_ishr _ _ _ _ _ _ h0, ?_, hk⟩
    rw [hmin]
    have hp : 0 < 2 ^ (b - 9223372036854775808) := Nat.two_pow_pos _
    generalize hpp : 2 ^ (b - 9223372036854775808) = p at hp
    have e : ((a : Int) - 9223372036854775808).fdiv (2 ^ (b - 9223372036854775808)) = (((a + 9223372036854775808 * (p - 1)) / p : Nat) : Int) - 9223372036854775808 := by
      have hpi : ((2 : Int) ^ (b - 9223372036854775808)) = ((p : Nat) : Int) := by rw [← hpp]; simp
      rw [hpi, Int.fdiv_eq_ediv_of_nonneg _ (by omega), Int.natCast_ediv]
      have : ((a + 9223372036854775808 * (p - 1) : Nat) : Int) = ((a : Int) - 9223372036854775808) + (9223372036854775808 : Int) * p := by
        rw [Int.natCast_add, Int.natCast_mul, Int.natCast_sub hp, Int.mul_sub]
        omega
      rw [this, Int.add_mul_ediv_right _ _ (by omega)]
      omega
    rw [e]
    show Rel ρ N (.i kd ((a + 9223372036854775808 * (2 ^ (b - 9223372036854775808) - 1)) / 2 ^ (b - 9223372036854775808))) _
    rw [hpp]
    exact .i _ _
  all_goals cases hk
end
end Go.Proofs.YtmddhlfjilkdfaaGreatDoor
namespace Go.Proofs.YtmddhlfjilkdfaaGreatDoor
set_option linter.unusedVariables false
set_option linter.unusedSimpArgs false

/-- The element at a place of a list. -/
noncomputable def lgetK {α : Type} (l : List α) : Nat → (α → Bool) → Bool :=
  List.rec (motive := fun _ => Nat → (α → Bool) → Bool) (fun _ _ => false) (fun x _ ih i k => Nat.casesOn (motive := fun _ => Bool) i (k x) (fun j => ih j k)) l
theorem lgetK_spec {α : Type} : ∀ (l : List α) (i : Nat) (k : α → Bool), lgetK l i k = true → ∃ h : i < l.length, k l[i] = true
  | [], _, _, h => by cases h
  | x :: l, 0, k, h => ⟨by simp, h⟩
  | x :: l, i + 1, k, h => by
    obtain ⟨h1, h2⟩ := lgetK_spec l i k h
    exact ⟨by simpa using h1, by simpa using h2⟩
/-- Are two lists of numbers one? -/
noncomputable def leq (l : List Nat) : List Nat → Bool :=
  List.rec (motive := fun _ => List Nat → Bool) (fun m => List.casesOn (motive := fun _ => Bool) m true (fun _ _ => false))
    (fun x _ ih m => List.casesOn (motive := fun _ => Bool) m false (fun y m => Bool.casesOn (motive := fun _ => Bool) (Nat.beq x y) false (ih m))) l
theorem leq_eq : ∀ l m : List Nat, leq l m = decide (l = m)
  | [], [] => rfl
  | [], _ :: _ => rfl
  | _ :: _, [] => rfl
  | x :: l, y :: m => by
    show (Bool.casesOn (motive := fun _ => Bool) (Nat.beq x y) false (leq l m)) = _
    rw [leq_eq l m]
    by_cases h : x = y
    · subst h
      rw [Nat.beq_refl]
      simp
    · have : Nat.beq x y = false := by rw [← Bool.not_eq_true, Nat.beq_eq]; exact h
      rw [this]
      simp [h]
/-- Is one list of numbers before another, by the first place where they differ? -/
noncomputable def llt (l : List Nat) : List Nat → Bool :=
  List.rec (motive := fun _ => List Nat → Bool) (fun m => List.casesOn (motive := fun _ => Bool) m false (fun _ _ => true))
    (fun x _ ih m => List.casesOn (motive := fun _ => Bool) m false
      (fun y m => Bool.casesOn (motive := fun _ => Bool) (Nat.beq x y) (Nat.ble (Nat.succ x) y) (ih m))) l
theorem llt_eq : ∀ a b : List UInt8, llt (a.map UInt8.toNat) (b.map UInt8.toNat) = Op.bytesLess a b
  | [], [] => rfl
  | [], _ :: _ => rfl
  | _ :: _, [] => rfl
  | x :: a, y :: b => by
    show (Bool.casesOn (motive := fun _ => Bool) (Nat.beq x.toNat y.toNat) (Nat.ble (Nat.succ x.toNat) y.toNat) (llt (a.map UInt8.toNat) (b.map UInt8.toNat))) = (decide (x < y) || (x == y && Op.bytesLess a b))
    rw [llt_eq a b]
    by_cases h : x = y
    · subst h
      rw [Nat.beq_refl]
      have : ¬ x < x := by rw [UInt8.lt_iff_toNat_lt]; omega
      simp [this]
    · have h1 : Nat.beq x.toNat y.toNat = false := by rw [← Bool.not_eq_true, Nat.beq_eq]; exact fun e => h (UInt8.toNat_inj.1 e)
      rw [h1]
      have h2 : (x == y) = false := by simpa using h
      rw [h2]
      simp only [Bool.false_and, Bool.or_false]
      rw [Bool.eq_iff_iff, Nat.ble_eq, decide_eq_true_eq, UInt8.lt_iff_toNat_lt]
      exact Iff.rfl
section
variable {P : Program} {ρ : Q → Loc} {N : Nat}
theorem rel_s (r : ByteArray) {n : Nat} {l : List Nat} (h1 : r.size = n) (h2 : r.data.toList.map UInt8.toNat = l) : Rel ρ N (.s n l) (.string r) := by subst h1 h2; exact .s r
theorem bytes_inj {a b : List UInt8} (h : a.map UInt8.toNat = b.map UInt8.toNat) : a = b := by
  induction a generalizing b with
  | nil => cases b with
    | nil => rfl
    | cons => simp at h
  | cons x a ih => cases b with
    | nil => simp at h
    | cons y b =>
      simp only [List.map_cons, List.cons.injEq] at h
      rw [UInt8.toNat_inj.1 h.1, ih h.2]
theorem ba_toList (s : ByteArray) : s.toList = s.data.toList := by
  have key : ∀ (n i : Nat) (r : List UInt8), s.size - i = n → ByteArray.toList.loop s i r = r.reverse ++ s.data.toList.drop i := by
    intro n
    induction n with
    | zero =>
      intro i r h
      rw [ByteArray.toList.loop]
      rw [if_neg (by omega), List.drop_eq_nil_of_le (by have : s.size = s.data.toList.length := (by simp); omega)]
      simp
    | succ n ih =>
      intro i r h
      rw [ByteArray.toList.loop, if_pos (by omega), ih (i + 1) _ (by omega)]
      have hi : i < s.data.toList.length := by have : s.size = s.data.toList.length := (by simp); omega
      rw [List.drop_eq_getElem_cons hi]
      simp [ByteArray.get!]
      rw [getElem!_pos s.data i (by simpa using hi)]
  have := key s.size 0 [] rfl
  simpa [ByteArray.toList] using this
/-- Two texts. -/
noncomputable def sbK (op : BinOp) (n : Nat) (l : List Nat) (m : Nat) (r : List Nat) (k : AV → Bool) : Bool :=
  BinOp.casesOn (motive := fun _ => Bool) op (ifT (Nat.ble (Nat.add n m) 1000000000) (k (.s (Nat.add n m) (List.append l r)))) false false false false false false false false false false
    (k (.b (leq l r))) (k (.b (nb (leq l r)))) (k (.b (llt l r))) (k (.b (nb (llt r l)))) (k (.b (llt r l))) (k (.b (nb (llt l r))))
theorem bytesLess_tri : ∀ a b : List UInt8, (Op.bytesLess a b || a == b) = !Op.bytesLess b a
  | [], [] => rfl
  | [], _ :: _ => rfl
  | _ :: _, [] => rfl
  | x :: a, y :: b => by
    have ih := bytesLess_tri a b
    simp only [Op.bytesLess]
    by_cases h : x = y
    · subst h
      have hx : ¬ x < x := by rw [UInt8.lt_iff_toNat_lt]; omega
      simpa [hx] using ih
    · have h' : ¬ y = x := fun e => h e.symm
      have hn : x.toNat ≠ y.toNat := fun e => h (UInt8.toNat_inj.1 e)
      have h2 : (x == y) = false := by simpa using h
      have h3 : (y == x) = false := by simpa using h'
      have h4 : ((x :: a) == (y :: b)) = false := by simp [h]
      rw [h2, h3, h4]
      simp only [Bool.false_and, Bool.or_false]
      rw [Bool.eq_iff_iff, decide_eq_true_eq, Bool.not_eq_true', decide_eq_false_iff_not, UInt8.lt_iff_toNat_lt, UInt8.lt_iff_toNat_lt]
      omega
theorem sbK_sound {op : BinOp} {n m : Nat} {l r : List Nat} {u v : Value} (hu : Rel ρ N (.s n l) u) (hv : Rel ρ N (.s m r) v) {k : AV → Bool} (hk : sbK op n l m r k = true) (t : TypeId) (w : World) :
    ∃ y z, (binOp op t u v).run P w = .ok z w ∧ Rel ρ N y z ∧ k y = true := by
  cases hu with
  | s a =>
    cases hv with
    | s b =>
      have he : (a.toList == b.toList) = leq (a.data.toList.map UInt8.toNat) (b.data.toList.map UInt8.toNat) := by
        rw [leq_eq, ba_toList, ba_toList, Bool.eq_iff_iff, beq_iff_eq, decide_eq_true_eq]
        exact ⟨fun h => by rw [h], fun h => bytes_inj h⟩
      cases op
      case add =>
        obtain ⟨h, hk⟩ := ifT_le hk
        have h : a.size + b.size ≤ 1000000000 := h
        have h1 : ¬ (((a.size + b.size : Nat) : Int) > IntKind.i64.max) := by
          rw [show IntKind.i64.max = 9223372036854775807 from rfl]
          omega
        refine ⟨_, .string (a ++ b), ?_, rel_s _ (ByteArray.size_append) ?_, hk⟩
        · simp only [binOp, Op.stringOp, if_neg h1, Sem.run_pure]
        · rw [ByteArray.data_append, Array.toList_append, List.map_append]; rfl
      case eql => exact ⟨_, .bool (a.toList == b.toList), by simp only [binOp, Op.stringOp, Sem.run_pure], by rw [he]; exact .b _, hk⟩
      case neq => exact ⟨_, .bool (!(a.toList == b.toList)), by simp only [binOp, Op.stringOp, Sem.run_pure], by rw [he, ← nb_eq]; exact .b _, hk⟩
      case lss =>
        have h1 : Op.bytesLess a.toList b.toList = llt (a.data.toList.map UInt8.toNat) (b.data.toList.map UInt8.toNat) := by rw [llt_eq, ba_toList, ba_toList]
        exact ⟨_, .bool (Op.bytesLess a.toList b.toList), by simp only [binOp, Op.stringOp, Sem.run_pure], by rw [h1]; exact .b _, hk⟩
      case leq =>
        have h1 : (Op.bytesLess a.toList b.toList || a.toList == b.toList) = nb (llt (b.data.toList.map UInt8.toNat) (a.data.toList.map UInt8.toNat)) := by rw [nb_eq, llt_eq, ← ba_toList, ← ba_toList, bytesLess_tri]
        exact ⟨_, .bool (Op.bytesLess a.toList b.toList || a.toList == b.toList), by simp only [binOp, Op.stringOp, Sem.run_pure], by rw [h1]; exact .b _, hk⟩
      case gtr =>
        have h1 : (!(Op.bytesLess a.toList b.toList || a.toList == b.toList)) = llt (b.data.toList.map UInt8.toNat) (a.data.toList.map UInt8.toNat) := by rw [llt_eq, ← ba_toList, ← ba_toList, bytesLess_tri, Bool.not_not]
        exact ⟨_, .bool (!(Op.bytesLess a.toList b.toList || a.toList == b.toList)), by simp only [binOp, Op.stringOp, Sem.run_pure], by rw [h1]; exact .b _, hk⟩
      case geq =>
        have h1 : (!Op.bytesLess a.toList b.toList) = nb (llt (a.data.toList.map UInt8.toNat) (b.data.toList.map UInt8.toNat)) := by rw [nb_eq, llt_eq, ba_toList, ba_toList]
        exact ⟨_, .bool (!Op.bytesLess a.toList b.toList), by simp only [binOp, Op.stringOp, Sem.run_pure], by rw [h1]; exact .b _, hk⟩
      all_goals cases hk
end
end Go.Proofs.YtmddhlfjilkdfaaGreatDoor
