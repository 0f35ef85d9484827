/-
  No claim by itself: the data of the evaluator: abstract values, names of blocks, the tree of the blocks, the trees of their cells. | the evaluator: the tree of cells; what an abstract value and an abstract heap stand for. | what is known of the texts that symbols stand for, and of what the world's tables hold. | the evaluator: what an abstract value and an abstract heap stand for. | the evaluator: a block is laid anew, written, or written on. No condition.
-/
import Derived.Tactics
import Derived.Lib.ValidU
import Derived.Lib.LaidU8
import Derived.Shelf.Unicode.DecodeSlow
import Derived.Laws.IdiomCopy
import Derived.Maps.Own
namespace Go.Proofs.YtpchmdddkpocgaaGreatDoor
set_option linter.unusedVariables false
set_option linter.unusedSimpArgs false
inductive Q where
 | e
 | d0 (q : Q)
 | d1 (q : Q)
 | d2 (q : Q)
 | d3 (q : Q)
 | d4 (q : Q)
 | d5 (q : Q)
 | d6 (q : Q)
 | d7 (q : Q)
 deriving DecidableEq
def Q.num : Q → Nat
 | .e => 0
 | .d0 q => 8 * q.num + 0
 | .d1 q => 8 * q.num + 1
 | .d2 q => 8 * q.num + 2
 | .d3 q => 8 * q.num + 3
 | .d4 q => 8 * q.num + 4
 | .d5 q => 8 * q.num + 5
 | .d6 q => 8 * q.num + 6
 | .d7 q => 8 * q.num + 7
def Q.succ : Q → Q
 | .e => .d1 .e
 | .d0 q => .d1 q
 | .d1 q => .d2 q
 | .d2 q => .d3 q
 | .d3 q => .d4 q
 | .d4 q => .d5 q
 | .d5 q => .d6 q
 | .d6 q => .d7 q
 | .d7 q => .d0 q.succ
theorem Q.num_succ : ∀ q : Q, q.succ.num = q.num + 1
 | .e => rfl
 | .d0 q => by simp only [Q.succ, Q.num]; try omega
 | .d1 q => by simp only [Q.succ, Q.num]; try omega
 | .d2 q => by simp only [Q.succ, Q.num]; try omega
 | .d3 q => by simp only [Q.succ, Q.num]; try omega
 | .d4 q => by simp only [Q.succ, Q.num]; try omega
 | .d5 q => by simp only [Q.succ, Q.num]; try omega
 | .d6 q => by simp only [Q.succ, Q.num]; try omega
 | .d7 q => by
  have := Q.num_succ q
  simp only [Q.succ, Q.num]
  omega
inductive AC where
 | k (c : Nat)
 | u (d l : Nat)
inductive Sy where
 | os (i : Nat)
 | iv (k : IntKind) (lo hi : Nat)
 | so (q : Q) (i : Nat)
 | su (q : Q) (lo hi : Nat)
 | sv (q : Q) (i : Nat)
inductive Oy where
 | op (i : Nat)
 | soup (ty : Nat)
 | dm (ty : Nat × Nat × Nat) (q : Q) (us : List (List Nat × Nat))
inductive AV where
 | d
 | b (x : Bool)
 | i (k : IntKind) (n : Nat)
 | s (n : Nat) (l : List Nat)
 | np
 | p (q : Q) (o : Nat)
 | ns
 | sl (q : Q) (o n : Nat) (c : AC)
 | se
 | f (f : Nat) (fs cs : List AV)
 | nf
 | nm
 | m (q : Q)
 | ni
 | a (cs : List AV)
 | t (cs : List AV)
 | e (t : Nat) (x : AV)
 | y (s : Sy)
inductive V where
 | z
 | n (a : AV) (c0 c1 c2 c3 : V)
inductive OB where
 | no
 | bk (ty n : Nat) (v : V)
 | mp (es : List (AV × AV))
 | si (o : Nat) (l : List Nat)
 | y (o : Oy)
inductive HT where
 | z
 | n (b : OB) (c0 c1 c2 c3 c4 c5 c6 c7 : HT)
inductive Hp where
 | mk (t : HT) (nx : Q)
def HT.get : Q → HT → OB
 | _, .z => .no
 | .e, .n b _ _ _ _ _ _ _ _ => b
 | .d0 q, .n _ c _ _ _ _ _ _ _ => HT.get q c
 | .d1 q, .n _ _ c _ _ _ _ _ _ => HT.get q c
 | .d2 q, .n _ _ _ c _ _ _ _ _ => HT.get q c
 | .d3 q, .n _ _ _ _ c _ _ _ _ => HT.get q c
 | .d4 q, .n _ _ _ _ _ c _ _ _ => HT.get q c
 | .d5 q, .n _ _ _ _ _ _ c _ _ => HT.get q c
 | .d6 q, .n _ _ _ _ _ _ _ c _ => HT.get q c
 | .d7 q, .n _ _ _ _ _ _ _ _ c => HT.get q c
def HT.set (x : OB) : Q → HT → HT
 | .e, .z => .n x .z .z .z .z .z .z .z .z
 | .e, .n _ c0 c1 c2 c3 c4 c5 c6 c7 => .n x c0 c1 c2 c3 c4 c5 c6 c7
 | .d0 q, .z => .n .no (HT.set x q .z) .z .z .z .z .z .z .z
 | .d0 q, .n b c0 c1 c2 c3 c4 c5 c6 c7 => .n b (HT.set x q c0) c1 c2 c3 c4 c5 c6 c7
 | .d1 q, .z => .n .no .z (HT.set x q .z) .z .z .z .z .z .z
 | .d1 q, .n b c0 c1 c2 c3 c4 c5 c6 c7 => .n b c0 (HT.set x q c1) c2 c3 c4 c5 c6 c7
 | .d2 q, .z => .n .no .z .z (HT.set x q .z) .z .z .z .z .z
 | .d2 q, .n b c0 c1 c2 c3 c4 c5 c6 c7 => .n b c0 c1 (HT.set x q c2) c3 c4 c5 c6 c7
 | .d3 q, .z => .n .no .z .z .z (HT.set x q .z) .z .z .z .z
 | .d3 q, .n b c0 c1 c2 c3 c4 c5 c6 c7 => .n b c0 c1 c2 (HT.set x q c3) c4 c5 c6 c7
 | .d4 q, .z => .n .no .z .z .z .z (HT.set x q .z) .z .z .z
 | .d4 q, .n b c0 c1 c2 c3 c4 c5 c6 c7 => .n b c0 c1 c2 c3 (HT.set x q c4) c5 c6 c7
 | .d5 q, .z => .n .no .z .z .z .z .z (HT.set x q .z) .z .z
 | .d5 q, .n b c0 c1 c2 c3 c4 c5 c6 c7 => .n b c0 c1 c2 c3 c4 (HT.set x q c5) c6 c7
 | .d6 q, .z => .n .no .z .z .z .z .z .z (HT.set x q .z) .z
 | .d6 q, .n b c0 c1 c2 c3 c4 c5 c6 c7 => .n b c0 c1 c2 c3 c4 c5 (HT.set x q c6) c7
 | .d7 q, .z => .n .no .z .z .z .z .z .z .z (HT.set x q .z)
 | .d7 q, .n b c0 c1 c2 c3 c4 c5 c6 c7 => .n b c0 c1 c2 c3 c4 c5 c6 (HT.set x q c7)
theorem HT.get_z (q : Q) : HT.get q .z = .no := by cases q <;> rfl
theorem HT.get_set_same (x : OB) : ∀ (q : Q) (t : HT), (HT.set x q t).get q = x
 | .e, .z => rfl
 | .e, .n .. => rfl
 | .d0 q, .z => HT.get_set_same x q .z
 | .d0 q, .n _ c _ _ _ _ _ _ _ => HT.get_set_same x q c
 | .d1 q, .z => HT.get_set_same x q .z
 | .d1 q, .n _ _ c _ _ _ _ _ _ => HT.get_set_same x q c
 | .d2 q, .z => HT.get_set_same x q .z
 | .d2 q, .n _ _ _ c _ _ _ _ _ => HT.get_set_same x q c
 | .d3 q, .z => HT.get_set_same x q .z
 | .d3 q, .n _ _ _ _ c _ _ _ _ => HT.get_set_same x q c
 | .d4 q, .z => HT.get_set_same x q .z
 | .d4 q, .n _ _ _ _ _ c _ _ _ => HT.get_set_same x q c
 | .d5 q, .z => HT.get_set_same x q .z
 | .d5 q, .n _ _ _ _ _ _ c _ _ => HT.get_set_same x q c
 | .d6 q, .z => HT.get_set_same x q .z
 | .d6 q, .n _ _ _ _ _ _ _ c _ => HT.get_set_same x q c
 | .d7 q, .z => HT.get_set_same x q .z
 | .d7 q, .n _ _ _ _ _ _ _ _ c => HT.get_set_same x q c
theorem HT.get_set_ne (x : OB) : ∀ (q r : Q) (t : HT), r ≠ q → (HT.set x q t).get r = t.get r := by
 intro q
 induction q with
 | e => intro r t h; cases r <;> cases t <;> first | exact (h rfl).elim | rfl | (simp only [HT.set, HT.get, HT.get_z])
 | d0 q ih => intro r t h; cases r <;> cases t <;> first | rfl | (simp only [HT.set, HT.get, HT.get_z]; done) | (rename_i r'; simp only [HT.set, HT.get]; rw [ih _ _ (fun e => h (by rw [e]))]; first | rfl | (simp only [HT.get_z]; done)) | (rename_i r' b c0 c1 c2 c3 c4 c5 c6 c7; simp only [HT.set, HT.get]; rw [ih _ _ (fun e => h (by rw [e]))])
 | d1 q ih => intro r t h; cases r <;> cases t <;> first | rfl | (simp only [HT.set, HT.get, HT.get_z]; done) | (rename_i r'; simp only [HT.set, HT.get]; rw [ih _ _ (fun e => h (by rw [e]))]; first | rfl | (simp only [HT.get_z]; done)) | (rename_i r' b c0 c1 c2 c3 c4 c5 c6 c7; simp only [HT.set, HT.get]; rw [ih _ _ (fun e => h (by rw [e]))])
 | d2 q ih => intro r t h; cases r <;> cases t <;> first | rfl | (simp only [HT.set, HT.get, HT.get_z]; done) | (rename_i r'; simp only [HT.set, HT.get]; rw [ih _ _ (fun e => h (by rw [e]))]; first | rfl | (simp only [HT.get_z]; done)) | (rename_i r' b c0 c1 c2 c3 c4 c5 c6 c7; simp only [HT.set, HT.get]; rw [ih _ _ (fun e => h (by rw [e]))])
 | d3 q ih => intro r t h; cases r <;> cases t <;> first | rfl | (simp only [HT.set, HT.get, HT.get_z]; done) | (rename_i r'; simp only [HT.set, HT.get]; rw [ih _ _ (fun e => h (by rw [e]))]; first | rfl | (simp only [HT.get_z]; done)) | (rename_i r' b c0 c1 c2 c3 c4 c5 c6 c7; simp only [HT.set, HT.get]; rw [ih _ _ (fun e => h (by rw [e]))])
 | d4 q ih => intro r t h; cases r <;> cases t <;> first | rfl | (simp only [HT.set, HT.get, HT.get_z]; done) | (rename_i r'; simp only [HT.set, HT.get]; rw [ih _ _ (fun e => h (by rw [e]))]; first | rfl | (simp only [HT.get_z]; done)) | (rename_i r' b c0 c1 c2 c3 c4 c5 c6 c7; simp only [HT.set, HT.get]; rw [ih _ _ (fun e => h (by rw [e]))])
 | d5 q ih => intro r t h; cases r <;> cases t <;> first | rfl | (simp only [HT.set, HT.get, HT.get_z]; done) | (rename_i r'; simp only [HT.set, HT.get]; rw [ih _ _ (fun e => h (by rw [e]))]; first | rfl | (simp only [HT.get_z]; done)) | (rename_i r' b c0 c1 c2 c3 c4 c5 c6 c7; simp only [HT.set, HT.get]; rw [ih _ _ (fun e => h (by rw [e]))])
 | d6 q ih => intro r t h; cases r <;> cases t <;> first | rfl | (simp only [HT.set, HT.get, HT.get_z]; done) | (rename_i r'; simp only [HT.set, HT.get]; rw [ih _ _ (fun e => h (by rw [e]))]; first | rfl | (simp only [HT.get_z]; done)) | (rename_i r' b c0 c1 c2 c3 c4 c5 c6 c7; simp only [HT.set, HT.get]; rw [ih _ _ (fun e => h (by rw [e]))])
 | d7 q ih => intro r t h; cases r <;> cases t <;> first | rfl | (simp only [HT.set, HT.get, HT.get_z]; done) | (rename_i r'; simp only [HT.set, HT.get]; rw [ih _ _ (fun e => h (by rw [e]))]; first | rfl | (simp only [HT.get_z]; done)) | (rename_i r' b c0 c1 c2 c3 c4 c5 c6 c7; simp only [HT.set, HT.get]; rw [ih _ _ (fun e => h (by rw [e]))])
abbrev HT.K := (HT → Bool) → Bool
noncomputable def HT.setK (x : OB) (q : Q) : HT → (HT → Bool) → Bool :=
 Q.rec (motive := fun _ => HT → (HT → Bool) → Bool)
  (fun t k => HT.casesOn (motive := fun _ => Bool) t (k (.n x .z .z .z .z .z .z .z .z)) (fun _ c0 c1 c2 c3 c4 c5 c6 c7 => k (.n x c0 c1 c2 c3 c4 c5 c6 c7)))
  (fun _ ih t k => HT.casesOn (motive := fun _ => Bool) t (ih .z (fun c => k (.n .no c .z .z .z .z .z .z .z))) (fun b c0 c1 c2 c3 c4 c5 c6 c7 => ih c0 (fun c => k (.n b c c1 c2 c3 c4 c5 c6 c7))))
  (fun _ ih t k => HT.casesOn (motive := fun _ => Bool) t (ih .z (fun c => k (.n .no .z c .z .z .z .z .z .z))) (fun b c0 c1 c2 c3 c4 c5 c6 c7 => ih c1 (fun c => k (.n b c0 c c2 c3 c4 c5 c6 c7))))
  (fun _ ih t k => HT.casesOn (motive := fun _ => Bool) t (ih .z (fun c => k (.n .no .z .z c .z .z .z .z .z))) (fun b c0 c1 c2 c3 c4 c5 c6 c7 => ih c2 (fun c => k (.n b c0 c1 c c3 c4 c5 c6 c7))))
  (fun _ ih t k => HT.casesOn (motive := fun _ => Bool) t (ih .z (fun c => k (.n .no .z .z .z c .z .z .z .z))) (fun b c0 c1 c2 c3 c4 c5 c6 c7 => ih c3 (fun c => k (.n b c0 c1 c2 c c4 c5 c6 c7))))
  (fun _ ih t k => HT.casesOn (motive := fun _ => Bool) t (ih .z (fun c => k (.n .no .z .z .z .z c .z .z .z))) (fun b c0 c1 c2 c3 c4 c5 c6 c7 => ih c4 (fun c => k (.n b c0 c1 c2 c3 c c5 c6 c7))))
  (fun _ ih t k => HT.casesOn (motive := fun _ => Bool) t (ih .z (fun c => k (.n .no .z .z .z .z .z c .z .z))) (fun b c0 c1 c2 c3 c4 c5 c6 c7 => ih c5 (fun c => k (.n b c0 c1 c2 c3 c4 c c6 c7))))
  (fun _ ih t k => HT.casesOn (motive := fun _ => Bool) t (ih .z (fun c => k (.n .no .z .z .z .z .z .z c .z))) (fun b c0 c1 c2 c3 c4 c5 c6 c7 => ih c6 (fun c => k (.n b c0 c1 c2 c3 c4 c5 c c7))))
  (fun _ ih t k => HT.casesOn (motive := fun _ => Bool) t (ih .z (fun c => k (.n .no .z .z .z .z .z .z .z c))) (fun b c0 c1 c2 c3 c4 c5 c6 c7 => ih c7 (fun c => k (.n b c0 c1 c2 c3 c4 c5 c6 c))))
  q
theorem HT.setK_eq (x : OB) (q : Q) : ∀ (t : HT) (k : HT → Bool), HT.setK x q t k = k (HT.set x q t) := by
 induction q with
 | e => intro t k; cases t <;> rfl
 | d0 q ih => intro t k; cases t <;> exact ih _ _
 | d1 q ih => intro t k; cases t <;> exact ih _ _
 | d2 q ih => intro t k; cases t <;> exact ih _ _
 | d3 q ih => intro t k; cases t <;> exact ih _ _
 | d4 q ih => intro t k; cases t <;> exact ih _ _
 | d5 q ih => intro t k; cases t <;> exact ih _ _
 | d6 q ih => intro t k; cases t <;> exact ih _ _
 | d7 q ih => intro t k; cases t <;> exact ih _ _
noncomputable def HT.getR (q : Q) : HT → OB :=
 Q.rec (motive := fun _ => HT → OB)
  (fun t => HT.casesOn (motive := fun _ => OB) t .no (fun b _ _ _ _ _ _ _ _ => b))
  (fun _ ih t => HT.casesOn (motive := fun _ => OB) t .no (fun _ c _ _ _ _ _ _ _ => ih c))
  (fun _ ih t => HT.casesOn (motive := fun _ => OB) t .no (fun _ _ c _ _ _ _ _ _ => ih c))
  (fun _ ih t => HT.casesOn (motive := fun _ => OB) t .no (fun _ _ _ c _ _ _ _ _ => ih c))
  (fun _ ih t => HT.casesOn (motive := fun _ => OB) t .no (fun _ _ _ _ c _ _ _ _ => ih c))
  (fun _ ih t => HT.casesOn (motive := fun _ => OB) t .no (fun _ _ _ _ _ c _ _ _ => ih c))
  (fun _ ih t => HT.casesOn (motive := fun _ => OB) t .no (fun _ _ _ _ _ _ c _ _ => ih c))
  (fun _ ih t => HT.casesOn (motive := fun _ => OB) t .no (fun _ _ _ _ _ _ _ c _ => ih c))
  (fun _ ih t => HT.casesOn (motive := fun _ => OB) t .no (fun _ _ _ _ _ _ _ _ c => ih c))
  q
theorem HT.getR_eq (q : Q) : ∀ t : HT, HT.getR q t = HT.get q t := by
 induction q with
 | e => intro t; cases t <;> rfl
 | d0 q ih => intro t; cases t <;> first | rfl | exact ih _
 | d1 q ih => intro t; cases t <;> first | rfl | exact ih _
 | d2 q ih => intro t; cases t <;> first | rfl | exact ih _
 | d3 q ih => intro t; cases t <;> first | rfl | exact ih _
 | d4 q ih => intro t; cases t <;> first | rfl | exact ih _
 | d5 q ih => intro t; cases t <;> first | rfl | exact ih _
 | d6 q ih => intro t; cases t <;> first | rfl | exact ih _
 | d7 q ih => intro t; cases t <;> first | rfl | exact ih _
def sel4 {α : Type} (n : Nat) (a b c d : α) : α := Nat.casesOn (motive := fun _ => α) n a (fun m => Nat.casesOn (motive := fun _ => α) m b (fun m => Nat.casesOn (motive := fun _ => α) m c (fun _ => d)))
noncomputable def V.get (v : V) : Nat → AV :=
 V.rec (motive := fun _ => Nat → AV) (fun _ => .d)
  (fun a _ _ _ _ g0 g1 g2 g3 i => Nat.casesOn (motive := fun _ => AV) i a (fun j => sel4 (Nat.mod j 4) (g0 (Nat.div j 4)) (g1 (Nat.div j 4)) (g2 (Nat.div j 4)) (g3 (Nat.div j 4)))) v
noncomputable def V.setK (x : AV) (v : V) : Nat → (V → Bool) → Bool :=
 V.rec (motive := fun _ => Nat → (V → Bool) → Bool) (fun i k => Nat.casesOn (motive := fun _ => Bool) i (k (.n x .z .z .z .z)) (fun _ => false))
  (fun a c0 c1 c2 c3 s0 s1 s2 s3 i k => Nat.casesOn (motive := fun _ => Bool) i (k (.n x c0 c1 c2 c3)) (fun j => sel4 (Nat.mod j 4)
   (s0 (Nat.div j 4) (fun c => k (.n a c c1 c2 c3))) (s1 (Nat.div j 4) (fun c => k (.n a c0 c c2 c3))) (s2 (Nat.div j 4) (fun c => k (.n a c0 c1 c c3))) (s3 (Nat.div j 4) (fun c => k (.n a c0 c1 c2 c))))) v
theorem V.get_z (i : Nat) : V.z.get i = .d := rfl
theorem V.get_n (a : AV) (c0 c1 c2 c3 : V) (i : Nat) : (V.n a c0 c1 c2 c3).get i = Nat.casesOn (motive := fun _ => AV) i a (fun j => sel4 (j % 4) (c0.get (j / 4)) (c1.get (j / 4)) (c2.get (j / 4)) (c3.get (j / 4))) := rfl
theorem sel4_0 {α : Type} (a b c d : α) {n : Nat} (h : n = 0) : sel4 n a b c d = a := by subst h; rfl
theorem sel4_1 {α : Type} (a b c d : α) {n : Nat} (h : n = 1) : sel4 n a b c d = b := by subst h; rfl
theorem sel4_2 {α : Type} (a b c d : α) {n : Nat} (h : n = 2) : sel4 n a b c d = c := by subst h; rfl
theorem sel4_3 {α : Type} (a b c d : α) {n : Nat} (h : n = 3) : sel4 n a b c d = d := by subst h; rfl
theorem V.setK_spec (x : AV) (v : V) : ∀ (i : Nat) (k : V → Bool), V.setK x v i k = true → ∃ v' : V, k v' = true ∧ v'.get i = x ∧ ∀ j, j ≠ i → v'.get j = v.get j := by
 induction v with
 | z =>
  intro i k h
  cases i with
  | zero => exact ⟨_, h, rfl, fun j hj => by cases j with | zero => exact (hj rfl).elim | succ j => rw [V.get_n]; show sel4 _ _ _ _ _ = _; unfold sel4; repeat' (first | rfl | (cases (j % 4) with | zero => rfl | succ m => cases m with | zero => rfl | succ m => cases m <;> rfl))⟩
  | succ i => cases h
 | n a c0 c1 c2 c3 h0 h1 h2 h3 =>
  intro i k h
  cases i with
  | zero => exact ⟨_, h, rfl, fun j hj => by cases j with | zero => exact (hj rfl).elim | succ j => rfl⟩
  | succ i =>
   have h : sel4 (i % 4) (V.setK x c0 (i / 4) (fun c => k (.n a c c1 c2 c3))) (V.setK x c1 (i / 4) (fun c => k (.n a c0 c c2 c3))) (V.setK x c2 (i / 4) (fun c => k (.n a c0 c1 c c3))) (V.setK x c3 (i / 4) (fun c => k (.n a c0 c1 c2 c))) = true := h
   have hlt : i % 4 = 0 ∨ i % 4 = 1 ∨ i % 4 = 2 ∨ i % 4 = 3 := by omega
   have key : ∀ j, j + 1 ≠ i + 1 → (j % 4 = i % 4 → j / 4 ≠ i / 4) := fun j hj he hd => hj (by omega)
   rcases hlt with e | e | e | e
   ·rw [sel4_0 _ _ _ _ e] at h
    obtain ⟨c, hk, hi, ho⟩ := h0 _ _ h
    refine ⟨_, hk, by rw [V.get_n]; show sel4 _ _ _ _ _ = _; rw [sel4_0 _ _ _ _ e]; exact hi, fun j hj => ?_⟩
    cases j with
    | zero => rfl
    | succ j =>
     rw [V.get_n, V.get_n]; show sel4 _ _ _ _ _ = sel4 _ _ _ _ _
     by_cases hm : j % 4 = i % 4
     ·rw [sel4_0 _ _ _ _ (hm.trans e), sel4_0 _ _ _ _ (hm.trans e)]; exact ho _ (key j hj hm)
     ·have : j % 4 = 1 ∨ j % 4 = 2 ∨ j % 4 = 3 := by omega
      rcases this with q | q | q
      ·rw [sel4_1 _ _ _ _ q, sel4_1 _ _ _ _ q]
      ·rw [sel4_2 _ _ _ _ q, sel4_2 _ _ _ _ q]
      ·rw [sel4_3 _ _ _ _ q, sel4_3 _ _ _ _ q]
   ·rw [sel4_1 _ _ _ _ e] at h
    obtain ⟨c, hk, hi, ho⟩ := h1 _ _ h
    refine ⟨_, hk, by rw [V.get_n]; show sel4 _ _ _ _ _ = _; rw [sel4_1 _ _ _ _ e]; exact hi, fun j hj => ?_⟩
    cases j with
    | zero => rfl
    | succ j =>
     rw [V.get_n, V.get_n]; show sel4 _ _ _ _ _ = sel4 _ _ _ _ _
     by_cases hm : j % 4 = i % 4
     ·rw [sel4_1 _ _ _ _ (hm.trans e), sel4_1 _ _ _ _ (hm.trans e)]; exact ho _ (key j hj hm)
     ·have : j % 4 = 0 ∨ j % 4 = 2 ∨ j % 4 = 3 := by omega
      rcases this with q | q | q
      ·rw [sel4_0 _ _ _ _ q, sel4_0 _ _ _ _ q]
      ·rw [sel4_2 _ _ _ _ q, sel4_2 _ _ _ _ q]
      ·rw [sel4_3 _ _ _ _ q, sel4_3 _ _ _ _ q]
   ·rw [sel4_2 _ _ _ _ e] at h
    obtain ⟨c, hk, hi, ho⟩ := h2 _ _ h
    refine ⟨_, hk, by rw [V.get_n]; show sel4 _ _ _ _ _ = _; rw [sel4_2 _ _ _ _ e]; exact hi, fun j hj => ?_⟩
    cases j with
    | zero => rfl
    | succ j =>
     rw [V.get_n, V.get_n]; show sel4 _ _ _ _ _ = sel4 _ _ _ _ _
     by_cases hm : j % 4 = i % 4
     ·rw [sel4_2 _ _ _ _ (hm.trans e), sel4_2 _ _ _ _ (hm.trans e)]; exact ho _ (key j hj hm)
     ·have : j % 4 = 0 ∨ j % 4 = 1 ∨ j % 4 = 3 := by omega
      rcases this with q | q | q
      ·rw [sel4_0 _ _ _ _ q, sel4_0 _ _ _ _ q]
      ·rw [sel4_1 _ _ _ _ q, sel4_1 _ _ _ _ q]
      ·rw [sel4_3 _ _ _ _ q, sel4_3 _ _ _ _ q]
   ·rw [sel4_3 _ _ _ _ e] at h
    obtain ⟨c, hk, hi, ho⟩ := h3 _ _ h
    refine ⟨_, hk, by rw [V.get_n]; show sel4 _ _ _ _ _ = _; rw [sel4_3 _ _ _ _ e]; exact hi, fun j hj => ?_⟩
    cases j with
    | zero => rfl
    | succ j =>
     rw [V.get_n, V.get_n]; show sel4 _ _ _ _ _ = sel4 _ _ _ _ _
     by_cases hm : j % 4 = i % 4
     ·rw [sel4_3 _ _ _ _ (hm.trans e), sel4_3 _ _ _ _ (hm.trans e)]; exact ho _ (key j hj hm)
     ·have : j % 4 = 0 ∨ j % 4 = 1 ∨ j % 4 = 2 := by omega
      rcases this with q | q | q
      ·rw [sel4_0 _ _ _ _ q, sel4_0 _ _ _ _ q]
      ·rw [sel4_1 _ _ _ _ q, sel4_1 _ _ _ _ q]
      ·rw [sel4_2 _ _ _ _ q, sel4_2 _ _ _ _ q]
def runesL : Nat → List UInt8 → List Nat
 | 0, _ => []
 | n + 1, l => if l = [] then [] else (Lib.decodeL l).1 :: runesL n (l.drop (Lib.decodeL l).2)
def lenB (n : Nat) : List UInt8 := if n < 64 then [UInt8.ofNat (2 * n)] else [UInt8.ofNat (2 * n % 128 + 128), UInt8.ofNat (2 * n / 128)]
def encD (k s : List UInt8) : List UInt8 := [2, 2, 2, 2] ++ (lenB k.length ++ k) ++ ([4] ++ (lenB s.length ++ s))
structure KeyOk (l : List UInt8) : Prop where
 valid : Lib.validD l = true
 some_ : 1 ≤ (runesL l.length l).length
 few : (runesL l.length l).length ≤ 40
 good : ∀ r ∈ runesL l.length l, 32 ≤ r ∧ r ≠ 127
structure TxOk (tx : Nat → ByteArray) : Prop where
 key : KeyOk (tx 0).data.toList
 valid : Lib.validD (tx 1).data.toList = true
 enc : (tx 2).data.toList = encD (tx 0).data.toList (tx 1).data.toList
 kLen : (tx 0).size ≤ 100
 sLen : (tx 1).size ≤ 200
def TabOk (P : Program) (w : World) : Prop := Lib.VarReads P w "unicode/utf8.first" Lib.firstData ∧ Lib.VarReads P w "unicode/utf8.acceptRanges" Lib.acceptData
def Tabs (P : Program) (B : Nat) (w : World) : Prop := ∃ w0 : World, TabOk P w0 ∧ w0.heap.size ≤ B ∧ ∀ b, b < w0.heap.size → w.heap[b]? = w0.heap[b]?
theorem Tabs.mono {P : Program} {B : Nat} {w w' : World} (h : Tabs P B w) (hk : ∀ b, b < B → w'.heap[b]? = w.heap[b]?) : Tabs P B w' := by
 obtain ⟨w0, h1, h2, h3⟩ := h
 exact ⟨w0, h1, h2, fun b hb => (hk b (by omega)).trans (h3 b hb)⟩
structure Loc where
 blk : Nat
 base : Nat
 cap : Nat
 fil : Nat := 0
 tx : Nat → ByteArray := fun _ => .empty
 vl : Q → Nat → Value := fun _ _ => .bool false
 mc : Q → DataW Unit := fun _ => .nil
def SvOk (i : Nat) (v : Value) : Prop := v.oneCell' = true ∧ (1000000 ≤ i → ∃ s, v = .string s ∧ s.size ≤ 1000 ∧ ∃ c r, s.data.toList = c :: r ∧ c.toNat < 48)
def syLo (i : Nat) : Nat := Nat.casesOn (motive := fun _ => Nat) i 1 fun i => Nat.casesOn (motive := fun _ => Nat) i 0 fun _ => 8
def syHi (i : Nat) : Nat := Nat.casesOn (motive := fun _ => Nat) i 100 fun i => Nat.casesOn (motive := fun _ => Nat) i 200 fun _ => 309
def txt (ρ : Q → Loc) (i : Nat) : ByteArray := (ρ .e).tx i
def SyOk (ρ : Q → Loc) (i : Nat) : Prop := syLo i ≤ (txt ρ i).size ∧ (txt ρ i).size ≤ syHi i ∧ TxOk (txt ρ)
mutual
inductive Rel (ρ : Q → Loc) (N : Nat) : AV → Value → Prop
 | d (v : Value) : Rel ρ N .d v
 | b (x : Bool) : Rel ρ N (.b x) (.bool x)
 | i (k : IntKind) (n : Nat) : Rel ρ N (.i k n) (.int k ((n : Int) - 9223372036854775808))
 | s (s : ByteArray) : Rel ρ N (.s s.size (s.data.toList.map UInt8.toNat)) (.string s)
 | np : Rel ρ N .np (.pointer none)
 | p (q : Q) (o : Nat) (h : q.num < N) : Rel ρ N (.p q o) (.pointer (some ⟨(ρ q).blk, (ρ q).base + o, none⟩))
 | ns : Rel ρ N .ns (.slice none 0 0)
 | slk (q : Q) (o n c : Nat) (h : q.num < N) (hc : n ≤ c) : Rel ρ N (.sl q o n (.k c)) (.slice (some ⟨(ρ q).blk, (ρ q).base + o, none⟩) n c)
 | slu (q : Q) (o n d l : Nat) (h : q.num < N) (hn : n ≤ l) (hc : l + d ≤ (ρ q).cap) (hm : (ρ q).cap ≤ 9223372036854775807) : Rel ρ N (.sl q o n (.u d l)) (.slice (some ⟨(ρ q).blk, (ρ q).base + o, none⟩) n ((ρ q).cap - d))
 | se (a : Addr) (c : Nat) : Rel ρ N .se (.slice (some a) 0 c)
 | f (f : Nat) (fs cs : List AV) (us vs : List Value) (h1 : RelL ρ N fs us) (h : RelL ρ N cs vs) : Rel ρ N (.f f fs cs) (.func (.func f) us.toArray vs.toArray)
 | nf : Rel ρ N .nf .nilFunc
 | nm : Rel ρ N .nm (.map none)
 | m (q : Q) (h : q.num < N) : Rel ρ N (.m q) (.map (some (ρ q).blk))
 | ni : Rel ρ N .ni .nilIface
 | a (cs : List AV) (vs : List Value) (h : RelL ρ N cs vs) (h1 : ∀ v ∈ vs, v.oneCell' = true) : Rel ρ N (.a cs) (.agg vs.toArray)
 | t (cs : List AV) (vs : List Value) (h : RelL ρ N cs vs) : Rel ρ N (.t cs) (.tuple vs.toArray)
 | e (t : Nat) (x : AV) (v : Value) (h : Rel ρ N x v) : Rel ρ N (.e t x) (.iface t v)
 | os (i : Nat) (h : 0 < N) (hb : SyOk ρ i) : Rel ρ N (.y (.os i)) (.string (txt ρ i))
 | iv (k : IntKind) (lo hi n : Nat) (h1 : lo ≤ n) (h2 : n ≤ hi) : Rel ρ N (.y (.iv k lo hi)) (.int k ((n : Int) - 9223372036854775808))
 | so (q : Q) (i c : Nat) (h : q.num < N) (h0 : 0 < N) (hb : SyOk ρ i) (hc : (txt ρ i).size ≤ c) (hm : c ≤ 9223372036854775807) : Rel ρ N (.y (.so q i)) (.slice (some ⟨(ρ q).blk, (ρ q).base, none⟩) (txt ρ i).size c)
 | sv (q : Q) (i : Nat) (v : Value) (h : 0 < N) (hv : (ρ .e).vl q i = v) (h1 : SvOk i v) : Rel ρ N (.y (.sv q i)) v
 | su (q : Q) (lo hi n c : Nat) (h : q.num < N) (h1 : lo ≤ n) (h2 : n ≤ hi) (hf : n ≤ (ρ q).fil) (hc : n ≤ c) (hm : c ≤ (ρ q).cap) (hx : c ≤ 9223372036854775807) : Rel ρ N (.y (.su q lo hi)) (.slice (some ⟨(ρ q).blk, (ρ q).base, none⟩) n c)
inductive RelL (ρ : Q → Loc) (N : Nat) : List AV → List Value → Prop
 | nil : RelL ρ N [] []
 | cons (x : AV) (v : Value) (xs : List AV) (vs : List Value) (h : Rel ρ N x v) (t : RelL ρ N xs vs) : RelL ρ N (x :: xs) (v :: vs)
end
mutual
theorem Rel.mono {ρ ρ' : Q → Loc} {N N' : Nat} (he : ∀ q, q.num < N → ρ' q = ρ q) (hN : N ≤ N') : ∀ {x : AV} {v : Value}, Rel ρ N x v → Rel ρ' N' x v
 | _, _, .d v => .d v
 | _, _, .b x => .b x
 | _, _, .i k n => .i k n
 | _, _, .s s => .s s
 | _, _, .np => .np
 | _, _, .p q o h => by rw [← he q h]; exact .p q o (Nat.lt_of_lt_of_le h hN)
 | _, _, .ns => .ns
 | _, _, .slk q o n c h hc => by rw [← he q h]; exact .slk q o n c (Nat.lt_of_lt_of_le h hN) hc
 | _, _, .slu q o n d l h hn hc hm => by rw [← he q h] at hc hm ⊢; exact .slu q o n d l (Nat.lt_of_lt_of_le h hN) hn hc hm
 | _, _, .se a c => .se a c
 | _, _, .f f fs cs us vs h1 h => .f f fs cs us vs (RelL.mono he hN h1) (RelL.mono he hN h)
 | _, _, .nf => .nf
 | _, _, .nm => .nm
 | _, _, .m q h => by rw [← he q h]; exact .m q (Nat.lt_of_lt_of_le h hN)
 | _, _, .ni => .ni
 | _, _, .a cs vs h h1 => .a cs vs (RelL.mono he hN h) h1
 | _, _, .t cs vs h => .t cs vs (RelL.mono he hN h)
 | _, _, .e t x v h => .e t x v (Rel.mono he hN h)
 | _, _, .os i h hb => by
  have e0 : txt ρ' = txt ρ := by unfold txt; rw [he .e h]
  have e : txt ρ' i = txt ρ i := by rw [e0]
  have hb' : SyOk ρ' i := by unfold SyOk; rw [e0]; exact hb
  rw [← e]
  exact .os i (Nat.lt_of_lt_of_le h hN) hb'
 | _, _, .iv k lo hi n h1 h2 => .iv k lo hi n h1 h2
 | _, _, .so q i c h h0 hb hc hm => by
  have e0 : txt ρ' = txt ρ := by unfold txt; rw [he .e h0]
  have e : txt ρ' i = txt ρ i := by rw [e0]
  have hb' : SyOk ρ' i := by unfold SyOk; rw [e0]; exact hb
  rw [← e] at hc ⊢
  rw [← he q h]
  exact .so q i c (Nat.lt_of_lt_of_le h hN) (Nat.lt_of_lt_of_le h0 hN) hb' hc hm
 | _, _, .sv q i v h hv h1 => .sv q i v (Nat.lt_of_lt_of_le h hN) (by rw [he .e h]; exact hv) h1
 | _, _, .su q lo hi n c h h1 h2 hf hc hm hx => by
  rw [← he q h] at hf hm ⊢
  exact .su q lo hi n c (Nat.lt_of_lt_of_le h hN) h1 h2 hf hc hm hx
theorem RelL.mono {ρ ρ' : Q → Loc} {N N' : Nat} (he : ∀ q, q.num < N → ρ' q = ρ q) (hN : N ≤ N') : ∀ {x : List AV} {v : List Value}, RelL ρ N x v → RelL ρ' N' x v
 | _, _, .nil => .nil
 | _, _, .cons x v xs vs h t => .cons x v xs vs (Rel.mono he hN h) (RelL.mono he hN t)
end
theorem RelL.length {ρ : Q → Loc} {N : Nat} : ∀ {x : List AV} {v : List Value}, RelL ρ N x v → x.length = v.length
 | _, _, .nil => rfl
 | _, _, .cons _ _ _ _ _ t => by simp only [List.length_cons]; rw [RelL.length t]
theorem RelL.get {ρ : Q → Loc} {N : Nat} : ∀ {x : List AV} {v : List Value}, RelL ρ N x v → ∀ (i : Nat) (hx : i < x.length) (hv : i < v.length), Rel ρ N x[i] v[i]
 | _, _, .nil, _, h, _ => absurd h (by simp)
 | _, _, .cons _ _ _ _ h _, 0, _, _ => h
 | _, _, .cons _ _ _ _ _ t, i + 1, hx, hv => RelL.get t i (by simpa using hx) (by simpa using hv)
theorem RelL.of_get {ρ : Q → Loc} {N : Nat} : ∀ {x : List AV} {v : List Value}, x.length = v.length → (∀ (i : Nat) (hx : i < x.length) (hv : i < v.length), Rel ρ N x[i] v[i]) → RelL ρ N x v
 | [], [], _, _ => .nil
 | [], _ :: _, h, _ => by simp at h
 | _ :: _, [], h, _ => by simp at h
 | x :: xs, v :: vs, h, g => .cons x v xs vs (g 0 (by simp) (by simp)) (RelL.of_get (by simpa using h) fun i hx hv => g (i + 1) (by simpa using hx) (by simpa using hv))
theorem RelL.append {ρ : Q → Loc} {N : Nat} : ∀ {x y : List AV} {v u : List Value}, RelL ρ N x v → RelL ρ N y u → RelL ρ N (x ++ y) (v ++ u)
 | _, _, _, _, .nil, h => h
 | _, _, _, _, .cons x v xs vs h t, h2 => .cons x v _ _ h (RelL.append t h2)
def Hp.t : Hp → HT
 | .mk t _ => t
def Hp.nx : Hp → Q
 | .mk _ n => n
def Hp.live (h : Hp) (q : Q) : Prop := h.t.get q ≠ .no
structure RowE (P : Program) (l : Loc) (ρ : Q → Loc) (N : Nat) (w : World) (ty n : Nat) (v : V) : Prop where
 at_ : ∃ sz, w.shape? l.blk = some (ty, sz) ∧ l.base + n ≤ sz ∧ l.base + l.cap * P.cellsOf ty ≤ sz ∧ (∀ o, o < sz → w.frozen? ⟨l.blk, o, none⟩ = false)
 get : ∀ i, i < n → ∃ x, w.cell? ⟨l.blk, l.base + i, none⟩ = some x ∧ Rel ρ N (v.get i) x ∧ x.oneCell' = true
inductive RelE (ρ : Q → Loc) (N : Nat) : List (AV × AV) → List MapEntry → Prop
 | nil : RelE ρ N [] []
 | cons (k x : AV) (es : List (AV × AV)) (e : MapEntry) (fs : List MapEntry) (hk : Rel ρ N k e.key) (hx : Rel ρ N x e.val) (t : RelE ρ N es fs) : RelE ρ N ((k, x) :: es) (e :: fs)
def MapAt (ρ : Q → Loc) (N : Nat) (w : World) (b : Nat) (es : List (AV × AV)) : Prop := ∃ fs c, w.heap[b]? = some (.map fs c) ∧ RelE ρ N es fs.toList ∧ ∀ e ∈ fs.toList, e.born < c
def SiAt (w : World) (b : Loc) (o : Nat) (l : List Nat) : Prop := ∃ s : ByteArray, w.heap[b.blk]? = some (.stringIter s o) ∧ (s.data.toList.map UInt8.toNat).drop o = l ∧ b.base = 0
def OpAt (ρ : Q → Loc) (w : World) (l : Loc) (i : Nat) : Prop := (∃ o, w.heap[l.blk]? = some o) ∧ ∀ j (h : j < (txt ρ i).size), w.cell? ⟨l.blk, l.base + j, none⟩ = some (.int .u8 (((txt ρ i).get j h).toNat : Int))
structure SoupAt (P : Program) (w : World) (l : Loc) (ty : Nat) : Prop where
 at_ : ∃ sz, w.shape? l.blk = some (ty, sz) ∧ l.base + l.cap * P.cellsOf ty ≤ sz ∧ (∀ o, o < sz → w.frozen? ⟨l.blk, o, none⟩ = false)
 get : ∀ i, i < l.fil → ∃ x : UInt8, w.cell? ⟨l.blk, l.base + i, none⟩ = some (.int .u8 (x.toNat : Int))
def readNum (T : Nat) (v : Value) : Option (DataW Unit × List MemPlace) :=
 match v with
 | .agg cs => if h : cs.size = 1 then (match cs[0] with | .iface t (.int .i64 n) => if t = T then some (.lit (.int .i64 n), []) else none | _ => none) else none
 | _ => none
def updM (m : DataW Unit) (u : List Nat × Nat) : DataW Unit := m.put (.string (u.1.map UInt8.ofNat)) (.lit (.int .i64 ((u.2 : Int) - 9223372036854775808)))
def dmC (ρ : Q → Loc) (q : Q) (us : List (List Nat × Nat)) : DataW Unit := us.foldl updM ((ρ .e).mc q)
def DmAt (P : Program) (w : World) (b : Nat) (ty : Nat × Nat × Nat) (m : DataW Unit) : Prop := w.ownsMap P ty.1 (readNum ty.2.1) b ty.2.2 m
theorem DmAt.mono {P : Program} {w w' : World} {b : Nat} {ty : Nat × Nat × Nat} {m : DataW Unit} (hw : w'.heap[b]? = w.heap[b]?) (h : DmAt P w b ty m) : DmAt P w' b ty m := by
 obtain ⟨es, c, h1, h2⟩ := h
 exact ⟨es, c, hw.trans h1, h2⟩
theorem dmC_mono {ρ ρ' : Q → Loc} (h : ρ' .e = ρ .e) (q : Q) (us : List (List Nat × Nat)) : dmC ρ' q us = dmC ρ q us := by unfold dmC; rw [h]
structure Emb (P : Program) (ρ : Q → Loc) (h : Hp) (w : World) (B : Nat) : Prop where
 base : B ≤ w.heap.size
 lt : ∀ q, h.live q → q.num < h.nx.num
 ge : ∀ q, h.live q → B ≤ (ρ q).blk
 inj : ∀ q r, h.live q → h.live r → (ρ q).blk = (ρ r).blk → q = r
 row : ∀ q ty n v, h.t.get q = .bk ty n v → RowE P (ρ q) ρ h.nx.num w ty n v
 map : ∀ q es, h.t.get q = .mp es → MapAt ρ h.nx.num w (ρ q).blk es
 si : ∀ q o l, h.t.get q = .si o l → SiAt w (ρ q) o l
 op : ∀ q i, h.t.get q = .y (.op i) → 0 < h.nx.num ∧ OpAt ρ w (ρ q) i
 soup : ∀ q ty, h.t.get q = .y (.soup ty) → SoupAt P w (ρ q) ty
 dm : ∀ q ty q0 us, h.t.get q = .y (.dm ty q0 us) → 0 < h.nx.num ∧ DmAt P w (ρ q).blk ty (dmC ρ q0 us)
 tab : Tabs P B w
structure Step (ρ : Q → Loc) (h : Hp) (w : World) (ρ' : Q → Loc) (h' : Hp) (w' : World) : Prop where
 ext : ∀ q, q.num < h.nx.num → ρ' q = ρ q
 nx : h.nx.num ≤ h'.nx.num
 size : w.heap.size ≤ w'.heap.size
 frame : ∀ b, b < w.heap.size → (∀ q, h.live q → (ρ q).blk ≠ b) → w'.heap[b]? = w.heap[b]?
 img : ∀ q, h'.live q → (∃ r, h.live r ∧ (ρ' q).blk = (ρ r).blk) ∨ w.heap.size ≤ (ρ' q).blk
 os : w'.os = w.os
 tape : w'.tape = w.tape
 output : w'.output = w.output
theorem Step.refl (ρ : Q → Loc) (h : Hp) (w : World) : Step ρ h w ρ h w := ⟨fun _ _ => rfl, Nat.le_refl _, Nat.le_refl _, fun _ _ _ => rfl, fun q hq => .inl ⟨q, hq, rfl⟩, rfl, rfl, rfl⟩
theorem Step.trans {ρ ρ1 ρ2 : Q → Loc} {h h1 h2 : Hp} {w w1 w2 : World} (a : Step ρ h w ρ1 h1 w1) (b : Step ρ1 h1 w1 ρ2 h2 w2) : Step ρ h w ρ2 h2 w2 where
 ext q hq := (b.ext q (Nat.lt_of_lt_of_le hq a.nx)).trans (a.ext q hq)
 nx := Nat.le_trans a.nx b.nx
 size := Nat.le_trans a.size b.size
 frame c hc hl := by
  rw [b.frame c (Nat.lt_of_lt_of_le hc a.size) (fun q hq e => ?_), a.frame c hc hl]
  rcases a.img q hq with ⟨r, hr, e2⟩ | e2
  ·exact hl r hr (e2 ▸ e)
  ·omega
 img q hq := by
  rcases b.img q hq with ⟨r, hr, e⟩ | e
  ·rcases a.img r hr with ⟨r2, hr2, e2⟩ | e2
   ·exact .inl ⟨r2, hr2, e.trans e2⟩
   ·exact .inr (e ▸ e2)
  ·exact .inr (Nat.le_trans a.size e)
 os := b.os.trans a.os
 tape := b.tape.trans a.tape
 output := b.output.trans a.output
theorem cell?_of_heap {w w' : World} {b : Nat} (h : w'.heap[b]? = w.heap[b]?) (o : Nat) (s : Option Nat) : w'.cell? ⟨b, o, s⟩ = w.cell? ⟨b, o, s⟩ := by unfold World.cell?; rw [h]
theorem shape?_of_heap {w w' : World} {b : Nat} (h : w'.heap[b]? = w.heap[b]?) : w'.shape? b = w.shape? b := by unfold World.shape?; rw [h]
theorem frozen?_of_heap {w w' : World} {b : Nat} (h : w'.heap[b]? = w.heap[b]?) (o : Nat) (s : Option Nat) : w'.frozen? ⟨b, o, s⟩ = w.frozen? ⟨b, o, s⟩ := by unfold World.frozen?; rw [h]
theorem RowE.mono {P : Program} {l : Loc} {ρ ρ' : Q → Loc} {N N' : Nat} {w w' : World} {ty n : Nat} {v : V} (he : ∀ q, q.num < N → ρ' q = ρ q) (hN : N ≤ N') (hw : w'.heap[l.blk]? = w.heap[l.blk]?) (h : RowE P l ρ N w ty n v) : RowE P l ρ' N' w' ty n v := by
 obtain ⟨sz, h1, h2, h3, h4⟩ := h.at_
 refine ⟨⟨sz, (shape?_of_heap hw).trans h1, h2, h3, fun o ho => (frozen?_of_heap hw o none).trans (h4 o ho)⟩, fun i hi => ?_⟩
 obtain ⟨x, a, b, d⟩ := h.get i hi
 exact ⟨x, (cell?_of_heap hw _ _).trans a, b.mono he hN, d⟩
theorem RelE.mono {ρ ρ' : Q → Loc} {N N' : Nat} (he : ∀ q, q.num < N → ρ' q = ρ q) (hN : N ≤ N') : ∀ {x : List (AV × AV)} {v : List MapEntry}, RelE ρ N x v → RelE ρ' N' x v
 | _, _, .nil => .nil
 | _, _, .cons k x es e fs hk hx t => .cons k x es e fs (hk.mono he hN) (hx.mono he hN) (t.mono he hN)
theorem MapAt.mono {ρ ρ' : Q → Loc} {N N' : Nat} {w w' : World} {b : Nat} {es : List (AV × AV)} (he : ∀ q, q.num < N → ρ' q = ρ q) (hN : N ≤ N') (hw : w'.heap[b]? = w.heap[b]?) (h : MapAt ρ N w b es) : MapAt ρ' N' w' b es := by
 obtain ⟨fs, c, h1, h2, h3⟩ := h
 exact ⟨fs, c, hw.trans h1, h2.mono he hN, h3⟩
theorem SiAt.mono {w w' : World} {b : Loc} {o : Nat} {l : List Nat} (hw : w'.heap[b.blk]? = w.heap[b.blk]?) (h : SiAt w b o l) : SiAt w' b o l := by
 obtain ⟨s, h1, h2⟩ := h
 exact ⟨s, hw.trans h1, h2⟩
theorem OpAt.mono {ρ ρ' : Q → Loc} {N : Nat} {w w' : World} {l : Loc} {i : Nat} (he : ∀ q, q.num < N → ρ' q = ρ q) (h0 : 0 < N) (hw : w'.heap[l.blk]? = w.heap[l.blk]?) (h : OpAt ρ w l i) : OpAt ρ' w' l i := by
 have e : txt ρ' i = txt ρ i := by unfold txt; rw [he .e h0]
 unfold OpAt at *
 rw [e]
 exact ⟨by rw [hw]; exact h.1, fun j hj => (cell?_of_heap hw _ _).trans (h.2 j hj)⟩
theorem SoupAt.mono {P : Program} {w w' : World} {l : Loc} {ty : Nat} (hw : w'.heap[l.blk]? = w.heap[l.blk]?) (h : SoupAt P w l ty) : SoupAt P w' l ty := by
 obtain ⟨sz, h1, h2, h3⟩ := h.at_
 refine ⟨⟨sz, (shape?_of_heap hw).trans h1, h2, fun o ho => (frozen?_of_heap hw o none).trans (h3 o ho)⟩, fun i hi => ?_⟩
 obtain ⟨x, hx⟩ := h.get i hi
 exact ⟨x, (cell?_of_heap hw _ _).trans hx⟩
structure Env (ρ : Q → Loc) (N : Nat) (env : List AV) (a : Act) : Prop where
 size : env.length = a.tmps.size
 get : ∀ i, i < env.length → Rel ρ N (env.getD i .d) (a.tmps.getD i undef)
 defers : a.defers = []
theorem Env.mono {ρ ρ' : Q → Loc} {N N' : Nat} {env : List AV} {a : Act} (he : ∀ q, q.num < N → ρ' q = ρ q) (hN : N ≤ N') (h : Env ρ N env a) : Env ρ' N' env a := ⟨h.size, fun i hi => (h.get i hi).mono he hN, h.defers⟩
theorem Env.tmp {ρ : Q → Loc} {N : Nat} {env : List AV} {a : Act} (h : Env ρ N env a) (i : Nat) : Rel ρ N (env.getD i .d) (a.tmps.getD i undef) := by
 by_cases hi : i < env.length
 ·exact h.get i hi
 ·rw [List.getD_eq_getElem?_getD, List.getElem?_eq_none (by omega)]; exact .d _
theorem Env.put {ρ : Q → Loc} {N : Nat} {env : List AV} {a : Act} (h : Env ρ N env a) (d : Nat) {x : AV} {v : Value} (hx : Rel ρ N x v) : Env ρ N (env.set d x) (a.put (some d) v) := by
 refine ⟨by simp [Act.put, h.size], fun i hi => ?_, h.defers⟩
 rw [List.length_set] at hi
 have hi2 : i < a.tmps.size := h.size ▸ hi
 simp only [Act.put]
 by_cases e : d = i
 ·subst e
  simpa [List.getD_eq_getElem?_getD, hi, hi2, Array.getD_eq_getD_getElem?] using hx
 ·have := h.get i hi
  rw [List.getD_eq_getElem?_getD, Array.getD_eq_getD_getElem?, List.getElem?_set_ne e, Array.getElem?_setIfInBounds_ne e, ← List.getD_eq_getElem?_getD, ← Array.getD_eq_getD_getElem?]
  exact this
theorem Env.put_none {ρ : Q → Loc} {N : Nat} {env : List AV} {a : Act} (h : Env ρ N env a) (v : Value) : Env ρ N env (a.put none v) := h
def upd (ρ : Q → Loc) (q : Q) (l : Loc) : Q → Loc := fun r => if r = q then l else ρ r
theorem upd_same (ρ : Q → Loc) (q : Q) (l : Loc) : upd ρ q l q = l := if_pos rfl
theorem upd_ne (ρ : Q → Loc) {q r : Q} (l : Loc) (h : r ≠ q) : upd ρ q l r = ρ r := if_neg h
theorem upd_lt (ρ : Q → Loc) (q : Q) (l : Loc) : ∀ r, r.num < q.num → upd ρ q l r = ρ r := fun r hr => upd_ne ρ l (fun e => by rw [e] at hr; omega)
theorem Hp.live_mk {t : HT} {n q : Q} : (Hp.mk t n).live q ↔ t.get q ≠ .no := Iff.rfl
theorem Emb.set {P : Program} {ρ : Q → Loc} {h : Hp} {w w' : World} {B : Nat} (E : Emb P ρ h w B) {q : Q} (hq : h.live q) (b : OB) (hb : b ≠ .no)
  (hsz : w'.heap.size = w.heap.size) (hoth : ∀ c, c ≠ (ρ q).blk → w'.heap[c]? = w.heap[c]?) (hos : w'.os = w.os) (htape : w'.tape = w.tape) (hout : w'.output = w.output)
  (hrow : ∀ ty n v, b = .bk ty n v → RowE P (ρ q) ρ h.nx.num w' ty n v)
  (hmap : ∀ es, b = .mp es → MapAt ρ h.nx.num w' (ρ q).blk es) (hsi : ∀ o l, b = .si o l → SiAt w' (ρ q) o l := by intro _ _ hb; cases hb) (hy : ∀ o, b ≠ .y o := by intro _ hb; cases hb) :
  Emb P ρ (.mk (h.t.set b q) h.nx) w' B ∧ Step ρ h w ρ (.mk (h.t.set b q) h.nx) w' := by
 have hlive : ∀ r, (Hp.mk (h.t.set b q) h.nx).live r ↔ h.live r := fun r => by
  by_cases e : r = q
  ·subst e; rw [Hp.live_mk, HT.get_set_same]; exact ⟨fun _ => hq, fun _ => hb⟩
  ·rw [Hp.live_mk, HT.get_set_ne _ _ _ _ e]; exact Iff.rfl
 have hkeep : ∀ r, h.live r → r ≠ q → w'.heap[(ρ r).blk]? = w.heap[(ρ r).blk]? := fun r hr e => hoth _ (fun e2 => e (E.inj _ _ hr hq e2))
 refine ⟨⟨by rw [hsz]; exact E.base, fun r hr => E.lt r ((hlive r).1 hr), fun r hr => E.ge r ((hlive r).1 hr), fun r s hr hs e => E.inj r s ((hlive r).1 hr) ((hlive s).1 hs) e, fun r ty n v hg => ?_, fun r es hg => ?_, fun r o l hg => ?_, fun r i hg => ?_, fun r ty hg => ?_, fun r ty q0 us hg => ?_, E.tab.mono fun c hc => hoth c (by have := E.ge q hq; omega)⟩, ?_⟩
 ·by_cases e : r = q
  ·subst e; exact hrow ty n v (by rw [← hg]; exact (HT.get_set_same b r h.t).symm)
  ·have hg : (h.t.set b q).get r = .bk ty n v := hg
   rw [HT.get_set_ne _ _ _ _ e] at hg
   exact (E.row r ty n v hg).mono (fun _ _ => rfl) (Nat.le_refl _) (hkeep r (by rw [Hp.live, hg]; simp) e)
 ·by_cases e : r = q
  ·subst e; exact hmap es (by rw [← hg]; exact (HT.get_set_same b r h.t).symm)
  ·have hg : (h.t.set b q).get r = .mp es := hg
   rw [HT.get_set_ne _ _ _ _ e] at hg
   exact (E.map r es hg).mono (fun _ _ => rfl) (Nat.le_refl _) (hkeep r (by rw [Hp.live, hg]; simp) e)
 ·by_cases e : r = q
  ·subst e; exact hsi o l (by rw [← hg]; exact (HT.get_set_same b r h.t).symm)
  ·have hg : (h.t.set b q).get r = .si o l := hg
   rw [HT.get_set_ne _ _ _ _ e] at hg
   exact (E.si r o l hg).mono (hkeep r (by rw [Hp.live, hg]; simp) e)
 ·by_cases e : r = q
  ·subst e; exact (hy _ (by rw [← hg]; exact (HT.get_set_same b r h.t).symm)).elim
  ·have hg : (h.t.set b q).get r = .y (.op i) := hg
   rw [HT.get_set_ne _ _ _ _ e] at hg
   exact ⟨(E.op r i hg).1, (E.op r i hg).2.mono (fun _ _ => rfl) (E.op r i hg).1 (hkeep r (by rw [Hp.live, hg]; simp) e)⟩
 ·by_cases e : r = q
  ·subst e; exact (hy _ (by rw [← hg]; exact (HT.get_set_same b r h.t).symm)).elim
  ·have hg : (h.t.set b q).get r = .y (.soup ty) := hg
   rw [HT.get_set_ne _ _ _ _ e] at hg
   exact (E.soup r ty hg).mono (hkeep r (by rw [Hp.live, hg]; simp) e)
 ·by_cases e : r = q
  ·subst e; exact (hy _ (by rw [← hg]; exact (HT.get_set_same b r h.t).symm)).elim
  ·have hg : (h.t.set b q).get r = .y (.dm ty q0 us) := hg
   rw [HT.get_set_ne _ _ _ _ e] at hg
   exact ⟨(E.dm r ty q0 us hg).1, (E.dm r ty q0 us hg).2.mono (hkeep r (by rw [Hp.live, hg]; simp) e)⟩
 ·exact ⟨fun _ _ => rfl, Nat.le_refl _, by rw [hsz]; exact Nat.le_refl _, fun c _ hc => hoth c (fun e => hc q hq e.symm), fun r hr => .inl ⟨r, (hlive r).1 hr, rfl⟩, hos, htape, hout⟩
theorem Emb.lay {P : Program} {ρ : Q → Loc} {h : Hp} {w w' : World} {B : Nat} (E : Emb P ρ h w B) (t0 : HT) (ht : ∀ r, t0.get r = .no ∨ t0.get r = h.t.get r) (b : OB) (hb : b ≠ .no) (l : Loc)
  (hsz : w.heap.size ≤ w'.heap.size) (hB : B ≤ l.blk) (hoth : ∀ r, t0.get r ≠ .no → w'.heap[(ρ r).blk]? = w.heap[(ρ r).blk]?) (hinj : ∀ r, t0.get r ≠ .no → (ρ r).blk ≠ l.blk)
  (hfr : ∀ c, c < w.heap.size → (∀ q, h.live q → (ρ q).blk ≠ c) → w'.heap[c]? = w.heap[c]?) (himg : (∃ r, h.live r ∧ l.blk = (ρ r).blk) ∨ w.heap.size ≤ l.blk)
  (hos : w'.os = w.os) (htape : w'.tape = w.tape) (hout : w'.output = w.output)
  (hrow : ∀ ty n v, b = .bk ty n v → RowE P l (upd ρ h.nx l) h.nx.succ.num w' ty n v)
  (hmap : ∀ es, b = .mp es → MapAt (upd ρ h.nx l) h.nx.succ.num w' l.blk es) (hsi : ∀ o l', b = .si o l' → SiAt w' l o l' := by intro _ _ hb; cases hb)
  (hop : ∀ i, b = .y (.op i) → 0 < h.nx.num ∧ OpAt (upd ρ h.nx l) w' l i := by intro _ hb; cases hb) (hso : ∀ ty, b = .y (.soup ty) → SoupAt P w' l ty := by intro _ hb; cases hb)
  (hdm : ∀ ty q0 us, b = .y (.dm ty q0 us) → 0 < h.nx.num ∧ DmAt P w' l.blk ty (dmC ρ q0 us) := by intro _ _ _ hb; cases hb) :
  Emb P (upd ρ h.nx l) (.mk (t0.set b h.nx) h.nx.succ) w' B ∧ Step ρ h w (upd ρ h.nx l) (.mk (t0.set b h.nx) h.nx.succ) w' := by
 have hN : h.nx.num ≤ h.nx.succ.num := by rw [Q.num_succ]; omega
 have hold : ∀ r, t0.get r ≠ .no → h.live r := fun r hr => by
  rcases ht r with e | e
  ·exact (hr e).elim
  ·rw [Hp.live, ← e]; exact hr
 have hne : ∀ r, t0.get r ≠ .no → r ≠ h.nx := fun r hr e => by have := E.lt r (hold r hr); rw [e] at this; omega
 have hlive : ∀ r, (Hp.mk (t0.set b h.nx) h.nx.succ).live r → r = h.nx ∨ (t0.get r ≠ .no ∧ r ≠ h.nx) := fun r hr => by
  by_cases e : r = h.nx
  ·exact .inl e
  ·rw [Hp.live_mk, HT.get_set_ne _ _ _ _ e] at hr; exact .inr ⟨hr, e⟩
 have hme : ∀ r, r.num < h.nx.num → upd ρ h.nx l r = ρ r := upd_lt ρ h.nx l
 refine ⟨⟨Nat.le_trans E.base hsz, fun r hr => ?_, fun r hr => ?_, fun r s hr hs e => ?_, fun r ty n v hg => ?_, fun r es hg => ?_, fun r o l' hg => ?_, fun r i hg => ?_, fun r ty hg => ?_, fun r ty q0 us hg => ?_, E.tab.mono fun c hc => hfr c (by have := E.base; omega) fun r hr => by have := E.ge r hr; omega⟩, ⟨hme, hN, hsz, hfr, fun r hr => ?_, hos, htape, hout⟩⟩
 ·show r.num < h.nx.succ.num
  rcases hlive r hr with rfl | ⟨h1, _⟩
  ·rw [Q.num_succ]; omega
  ·exact Nat.lt_of_lt_of_le (E.lt r (hold r h1)) hN
 ·rcases hlive r hr with rfl | ⟨h1, h2⟩
  ·rw [upd_same]; exact hB
  ·rw [upd_ne _ _ h2]; exact E.ge r (hold r h1)
 ·rcases hlive r hr with rfl | ⟨h1, h2⟩
  ·rcases hlive s hs with rfl | ⟨h3, h4⟩
   ·rfl
   ·rw [upd_same, upd_ne _ _ h4] at e; exact (hinj s h3 e.symm).elim
  ·rcases hlive s hs with rfl | ⟨h3, h4⟩
   ·rw [upd_same, upd_ne _ _ h2] at e; exact (hinj r h1 e).elim
   ·rw [upd_ne _ _ h2, upd_ne _ _ h4] at e; exact E.inj r s (hold r h1) (hold s h3) e
 ·by_cases e : r = h.nx
  ·subst e
   rw [upd_same]
   exact hrow ty n v (by rw [← hg]; exact (HT.get_set_same b _ t0).symm)
  ·have hg : (t0.set b h.nx).get r = .bk ty n v := hg
   rw [HT.get_set_ne _ _ _ _ e] at hg
   have hl : t0.get r ≠ .no := by rw [hg]; simp
   have hg2 : h.t.get r = .bk ty n v := by
    rcases ht r with e2 | e2
    ·exact (hl e2).elim
    ·rw [← e2]; exact hg
   rw [upd_ne _ _ e]
   exact (E.row r ty n v hg2).mono hme hN (hoth r hl)
 ·by_cases e : r = h.nx
  ·subst e
   rw [upd_same]
   exact hmap es (by rw [← hg]; exact (HT.get_set_same b _ t0).symm)
  ·have hg : (t0.set b h.nx).get r = .mp es := hg
   rw [HT.get_set_ne _ _ _ _ e] at hg
   have hl : t0.get r ≠ .no := by rw [hg]; simp
   have hg2 : h.t.get r = .mp es := by
    rcases ht r with e2 | e2
    ·exact (hl e2).elim
    ·rw [← e2]; exact hg
   rw [upd_ne _ _ e]
   exact (E.map r es hg2).mono hme hN (hoth r hl)
 ·by_cases e : r = h.nx
  ·subst e
   rw [upd_same]
   exact hsi o l' (by rw [← hg]; exact (HT.get_set_same b _ t0).symm)
  ·have hg : (t0.set b h.nx).get r = .si o l' := hg
   rw [HT.get_set_ne _ _ _ _ e] at hg
   have hl : t0.get r ≠ .no := by rw [hg]; simp
   have hg2 : h.t.get r = .si o l' := by
    rcases ht r with e2 | e2
    ·exact (hl e2).elim
    ·rw [← e2]; exact hg
   rw [upd_ne _ _ e]
   exact (E.si r o l' hg2).mono (hoth r hl)
 ·by_cases e : r = h.nx
  ·subst e
   rw [upd_same]
   obtain ⟨h1, h2⟩ := hop i (by rw [← hg]; exact (HT.get_set_same b _ t0).symm)
   exact ⟨Nat.lt_of_lt_of_le h1 hN, h2⟩
  ·have hg : (t0.set b h.nx).get r = .y (.op i) := hg
   rw [HT.get_set_ne _ _ _ _ e] at hg
   have hl : t0.get r ≠ .no := by rw [hg]; simp
   have hg2 : h.t.get r = .y (.op i) := by
    rcases ht r with e2 | e2
    ·exact (hl e2).elim
    ·rw [← e2]; exact hg
   rw [upd_ne _ _ e]
   exact ⟨Nat.lt_of_lt_of_le (E.op r i hg2).1 hN, (E.op r i hg2).2.mono hme (E.op r i hg2).1 (hoth r hl)⟩
 ·by_cases e : r = h.nx
  ·subst e
   rw [upd_same]
   exact hso ty (by rw [← hg]; exact (HT.get_set_same b _ t0).symm)
  ·have hg : (t0.set b h.nx).get r = .y (.soup ty) := hg
   rw [HT.get_set_ne _ _ _ _ e] at hg
   have hl : t0.get r ≠ .no := by rw [hg]; simp
   have hg2 : h.t.get r = .y (.soup ty) := by
    rcases ht r with e2 | e2
    ·exact (hl e2).elim
    ·rw [← e2]; exact hg
   rw [upd_ne _ _ e]
   exact (E.soup r ty hg2).mono (hoth r hl)
 ·have hdc : 0 < h.nx.num → dmC (upd ρ h.nx l) q0 us = dmC ρ q0 us := fun h0 => dmC_mono (hme .e h0) q0 us
  by_cases e : r = h.nx
  ·subst e
   rw [upd_same]
   obtain ⟨h1, h2⟩ := hdm ty q0 us (by rw [← hg]; exact (HT.get_set_same b _ t0).symm)
   rw [hdc h1]
   exact ⟨Nat.lt_of_lt_of_le h1 hN, h2⟩
  ·have hg : (t0.set b h.nx).get r = .y (.dm ty q0 us) := hg
   rw [HT.get_set_ne _ _ _ _ e] at hg
   have hl : t0.get r ≠ .no := by rw [hg]; simp
   have hg2 : h.t.get r = .y (.dm ty q0 us) := by
    rcases ht r with e2 | e2
    ·exact (hl e2).elim
    ·rw [← e2]; exact hg
   rw [upd_ne _ _ e]
   obtain ⟨h1, h2⟩ := E.dm r ty q0 us hg2
   rw [hdc h1]
   exact ⟨Nat.lt_of_lt_of_le h1 hN, h2.mono (hoth r hl)⟩
 ·rcases hlive r hr with rfl | ⟨h1, h2⟩
  ·rw [upd_same]; exact himg
  ·rw [upd_ne _ _ h2]; exact .inl ⟨r, hold r h1, rfl⟩
theorem Emb.new' {P : Program} {ρ : Q → Loc} {h : Hp} {w w' : World} {B : Nat} (E : Emb P ρ h w B) (t0 : HT) (ht : ∀ r, t0.get r = .no ∨ t0.get r = h.t.get r) (o : Obj) (hw : w'.heap = w.heap.push o) (hos : w'.os = w.os) (htape : w'.tape = w.tape) (hout : w'.output = w.output)
  (b : OB) (hb : b ≠ .no) (cap : Nat) (hrow : ∀ ty n v, b = .bk ty n v → RowE P { blk := w.heap.size, base := 0, cap := cap } (upd ρ h.nx { blk := w.heap.size, base := 0, cap := cap }) h.nx.succ.num w' ty n v)
  (hmap : ∀ es, b = .mp es → MapAt (upd ρ h.nx { blk := w.heap.size, base := 0, cap := cap }) h.nx.succ.num w' w.heap.size es) (hsi : ∀ o l', b = .si o l' → SiAt w' { blk := w.heap.size, base := 0, cap := cap } o l' := by intro _ _ hb; cases hb) (hy : ∀ o, b ≠ .y o := by intro _ hb; cases hb) :
  Emb P (upd ρ h.nx { blk := w.heap.size, base := 0, cap := cap }) (.mk (t0.set b h.nx) h.nx.succ) w' B ∧ Step ρ h w (upd ρ h.nx { blk := w.heap.size, base := 0, cap := cap }) (.mk (t0.set b h.nx) h.nx.succ) w' := by
 have hlt : ∀ r, h.live r → (ρ r).blk < w.heap.size := fun r hr => by
  cases hg : h.t.get r with
  | no => exact (hr hg).elim
  | bk ty n v =>
   obtain ⟨sz, h1, _⟩ := (E.row r ty n v hg).at_
   unfold World.shape? at h1
   by_cases hh : (ρ r).blk < w.heap.size
   ·exact hh
   ·rw [Array.getElem?_eq_none (by omega)] at h1; cases h1
  | mp es =>
   obtain ⟨fs, c, h1, _⟩ := E.map r es hg
   exact (Array.getElem?_eq_some_iff.1 h1).1
  | si o l =>
   obtain ⟨s, h1, _⟩ := E.si r o l hg
   exact (Array.getElem?_eq_some_iff.1 h1).1
  | y o =>
   cases o with
   | op i =>
    obtain ⟨s, h1⟩ := (E.op r i hg).2.1
    exact (Array.getElem?_eq_some_iff.1 h1).1
   | soup ty =>
    obtain ⟨sz, h1, _⟩ := (E.soup r ty hg).at_
    unfold World.shape? at h1
    by_cases hh : (ρ r).blk < w.heap.size
    ·exact hh
    ·rw [Array.getElem?_eq_none (by omega)] at h1; cases h1
   | dm ty q0 us =>
    obtain ⟨fs, c, h1, _⟩ := (E.dm r ty q0 us hg).2
    exact (Array.getElem?_eq_some_iff.1 h1).1
 have hk : ∀ c, c < w.heap.size → w'.heap[c]? = w.heap[c]? := fun c hc => by rw [hw, Array.getElem?_push, if_neg (by omega)]
 have hold : ∀ r, t0.get r ≠ .no → h.live r := fun r hr => by
  rcases ht r with e | e
  ·exact (hr e).elim
  ·rw [Hp.live, ← e]; exact hr
 exact E.lay t0 ht b hb { blk := w.heap.size, base := 0, cap := cap } (by rw [hw]; simp) E.base (fun r hr => hk _ (hlt r (hold r hr))) (fun r hr e => by have := hlt r (hold r hr); simp only at e; omega) (fun c hc _ => hk c hc) (.inr (Nat.le_refl _)) hos htape hout hrow hmap hsi (fun i e => (hy _ e).elim) (fun ty e => (hy _ e).elim) (fun ty q0 us e => (hy _ e).elim)
end Go.Proofs.YtpchmdddkpocgaaGreatDoor
