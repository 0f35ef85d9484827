/-
  No claim by itself: the evaluator: small operations: texts, aggregates, slices. | the evaluator: slices of slices and of texts. | the evaluator: append. | the evaluator: append, of abstract slices. No condition.
-/
import Derived.Test.YtpchmdddkpocgaaGreatDoorP2
import Derived.Laws.AppendOwn
namespace Go.Proofs.YtpchmdddkpocgaaGreatDoor
set_option linter.unusedVariables false
set_option linter.unusedSimpArgs false
noncomputable def lgetK {α : Type} (l : List α) : Nat → (α → Bool) → Bool :=
 List.rec (motive := fun _ => Nat → (α → Bool) → Bool) (fun _ _ => false) (fun x _ ih i k => Nat.casesOn (motive := fun _ => Bool) i (k x) (fun j => ih j k)) l
theorem lgetK_spec {α : Type} : ∀ (l : List α) (i : Nat) (k : α → Bool), lgetK l i k = true → ∃ h : i < l.length, k l[i] = true
 | [], _, _, h => by cases h
 | x :: l, 0, k, h => ⟨by simp, h⟩
 | x :: l, i + 1, k, h => by
  obtain ⟨h1, h2⟩ := lgetK_spec l i k h
  exact ⟨by simpa using h1, by simpa using h2⟩
noncomputable def leq (l : List Nat) : List Nat → Bool :=
 List.rec (motive := fun _ => List Nat → Bool) (fun m => List.casesOn (motive := fun _ => Bool) m true (fun _ _ => false))
  (fun x _ ih m => List.casesOn (motive := fun _ => Bool) m false (fun y m => Bool.casesOn (motive := fun _ => Bool) (Nat.beq x y) false (ih m))) l
theorem leq_eq : ∀ l m : List Nat, leq l m = decide (l = m)
 | [], [] => rfl
 | [], _ :: _ => rfl
 | _ :: _, [] => rfl
 | x :: l, y :: m => by
  show (Bool.casesOn (motive := fun _ => Bool) (Nat.beq x y) false (leq l m)) = _
  rw [leq_eq l m]
  by_cases h : x = y
  ·subst h
   rw [Nat.beq_refl]
   simp
  ·have : Nat.beq x y = false := by rw [← Bool.not_eq_true, Nat.beq_eq]; exact h
   rw [this]
   simp [h]
noncomputable def llt (l : List Nat) : List Nat → Bool :=
 List.rec (motive := fun _ => List Nat → Bool) (fun m => List.casesOn (motive := fun _ => Bool) m false (fun _ _ => true))
  (fun x _ ih m => List.casesOn (motive := fun _ => Bool) m false
   (fun y m => Bool.casesOn (motive := fun _ => Bool) (Nat.beq x y) (Nat.ble (Nat.succ x) y) (ih m))) l
theorem llt_eq : ∀ a b : List UInt8, llt (a.map UInt8.toNat) (b.map UInt8.toNat) = Op.bytesLess a b
 | [], [] => rfl
 | [], _ :: _ => rfl
 | _ :: _, [] => rfl
 | x :: a, y :: b => by
  show (Bool.casesOn (motive := fun _ => Bool) (Nat.beq x.toNat y.toNat) (Nat.ble (Nat.succ x.toNat) y.toNat) (llt (a.map UInt8.toNat) (b.map UInt8.toNat))) = (decide (x < y) || (x == y && Op.bytesLess a b))
  rw [llt_eq a b]
  by_cases h : x = y
  ·subst h
   rw [Nat.beq_refl]
   have : ¬ x < x := by rw [UInt8.lt_iff_toNat_lt]; omega
   simp [this]
  ·have h1 : Nat.beq x.toNat y.toNat = false := by rw [← Bool.not_eq_true, Nat.beq_eq]; exact fun e => h (UInt8.toNat_inj.1 e)
   rw [h1]
   have h2 : (x == y) = false := by simpa using h
   rw [h2]
   simp only [Bool.false_and, Bool.or_false]
   rw [Bool.eq_iff_iff, Nat.ble_eq, decide_eq_true_eq, UInt8.lt_iff_toNat_lt]
   exact Iff.rfl
section
variable {P : Program} {ρ : Q → Loc} {N : Nat}
theorem rel_s (r : ByteArray) {n : Nat} {l : List Nat} (h1 : r.size = n) (h2 : r.data.toList.map UInt8.toNat = l) : Rel ρ N (.s n l) (.string r) := by subst h1 h2; exact .s r
theorem bytes_inj {a b : List UInt8} (h : a.map UInt8.toNat = b.map UInt8.toNat) : a = b := by
 induction a generalizing b with
 | nil => cases b with
  | nil => rfl
  | cons => simp at h
 | cons x a ih => cases b with
  | nil => simp at h
  | cons y b =>
   simp only [List.map_cons, List.cons.injEq] at h
   rw [UInt8.toNat_inj.1 h.1, ih h.2]
theorem ba_toList (s : ByteArray) : s.toList = s.data.toList := by
 have key : ∀ (n i : Nat) (r : List UInt8), s.size - i = n → ByteArray.toList.loop s i r = r.reverse ++ s.data.toList.drop i := by
  intro n
  induction n with
  | zero =>
   intro i r h
   rw [ByteArray.toList.loop]
   rw [if_neg (by omega), List.drop_eq_nil_of_le (by have : s.size = s.data.toList.length := (by simp); omega)]
   simp
  | succ n ih =>
   intro i r h
   rw [ByteArray.toList.loop, if_pos (by omega), ih (i + 1) _ (by omega)]
   have hi : i < s.data.toList.length := by have : s.size = s.data.toList.length := (by simp); omega
   rw [List.drop_eq_getElem_cons hi]
   simp [ByteArray.get!]
   rw [getElem!_pos s.data i (by simpa using hi)]
 have := key s.size 0 [] rfl
 simpa [ByteArray.toList] using this
noncomputable def sbK (op : BinOp) (n : Nat) (l : List Nat) (m : Nat) (r : List Nat) (k : AV → Bool) : Bool :=
 BinOp.casesOn (motive := fun _ => Bool) op (ifT (Nat.ble (Nat.add n m) 1000000000) (k (.s (Nat.add n m) (List.append l r)))) false false false false false false false false false false
  (k (.b (leq l r))) (k (.b (nb (leq l r)))) (k (.b (llt l r))) (k (.b (nb (llt r l)))) (k (.b (llt r l))) (k (.b (nb (llt l r))))
theorem bytesLess_tri : ∀ a b : List UInt8, (Op.bytesLess a b || a == b) = !Op.bytesLess b a
 | [], [] => rfl
 | [], _ :: _ => rfl
 | _ :: _, [] => rfl
 | x :: a, y :: b => by
  have ih := bytesLess_tri a b
  simp only [Op.bytesLess]
  by_cases h : x = y
  ·subst h
   have hx : ¬ x < x := by rw [UInt8.lt_iff_toNat_lt]; omega
   simpa [hx] using ih
  ·have h' : ¬ y = x := fun e => h e.symm
   have hn : x.toNat ≠ y.toNat := fun e => h (UInt8.toNat_inj.1 e)
   have h2 : (x == y) = false := by simpa using h
   have h3 : (y == x) = false := by simpa using h'
   have h4 : ((x :: a) == (y :: b)) = false := by simp [h]
   rw [h2, h3, h4]
   simp only [Bool.false_and, Bool.or_false]
   rw [Bool.eq_iff_iff, decide_eq_true_eq, Bool.not_eq_true', decide_eq_false_iff_not, UInt8.lt_iff_toNat_lt, UInt8.lt_iff_toNat_lt]
   omega
theorem sbK_sound {op : BinOp} {n m : Nat} {l r : List Nat} {u v : Value} (hu : Rel ρ N (.s n l) u) (hv : Rel ρ N (.s m r) v) {k : AV → Bool} (hk : sbK op n l m r k = true) (t : TypeId) (w : World) :
  ∃ y z, (binOp op t u v).run P w = .ok z w ∧ Rel ρ N y z ∧ k y = true := by
 cases hu with
 | s a =>
  cases hv with
  | s b =>
   have he : (a.toList == b.toList) = leq (a.data.toList.map UInt8.toNat) (b.data.toList.map UInt8.toNat) := by
    rw [leq_eq, ba_toList, ba_toList, Bool.eq_iff_iff, beq_iff_eq, decide_eq_true_eq]
    exact ⟨fun h => by rw [h], fun h => bytes_inj h⟩
   cases op
   case add =>
    obtain ⟨h, hk⟩ := ifT_le hk
    have h : a.size + b.size ≤ 1000000000 := h
    have h1 : ¬ (((a.size + b.size : Nat) : Int) > IntKind.i64.max) := by
     rw [show IntKind.i64.max = 9223372036854775807 from rfl]
     omega
    refine ⟨_, .string (a ++ b), ?_, rel_s _ (ByteArray.size_append) ?_, hk⟩
    ·simp only [binOp, Op.stringOp, if_neg h1, Sem.run_pure]
    ·rw [ByteArray.data_append, Array.toList_append, List.map_append]; rfl
   case eql => exact ⟨_, .bool (a.toList == b.toList), by simp only [binOp, Op.stringOp, Sem.run_pure], by rw [he]; exact .b _, hk⟩
   case neq => exact ⟨_, .bool (!(a.toList == b.toList)), by simp only [binOp, Op.stringOp, Sem.run_pure], by rw [he, ← nb_eq]; exact .b _, hk⟩
   case lss =>
    have h1 : Op.bytesLess a.toList b.toList = llt (a.data.toList.map UInt8.toNat) (b.data.toList.map UInt8.toNat) := by rw [llt_eq, ba_toList, ba_toList]
    exact ⟨_, .bool (Op.bytesLess a.toList b.toList), by simp only [binOp, Op.stringOp, Sem.run_pure], by rw [h1]; exact .b _, hk⟩
   case leq =>
    have h1 : (Op.bytesLess a.toList b.toList || a.toList == b.toList) = nb (llt (b.data.toList.map UInt8.toNat) (a.data.toList.map UInt8.toNat)) := by rw [nb_eq, llt_eq, ← ba_toList, ← ba_toList, bytesLess_tri]
    exact ⟨_, .bool (Op.bytesLess a.toList b.toList || a.toList == b.toList), by simp only [binOp, Op.stringOp, Sem.run_pure], by rw [h1]; exact .b _, hk⟩
   case gtr =>
    have h1 : (!(Op.bytesLess a.toList b.toList || a.toList == b.toList)) = llt (b.data.toList.map UInt8.toNat) (a.data.toList.map UInt8.toNat) := by rw [llt_eq, ← ba_toList, ← ba_toList, bytesLess_tri, Bool.not_not]
    exact ⟨_, .bool (!(Op.bytesLess a.toList b.toList || a.toList == b.toList)), by simp only [binOp, Op.stringOp, Sem.run_pure], by rw [h1]; exact .b _, hk⟩
   case geq =>
    have h1 : (!Op.bytesLess a.toList b.toList) = nb (llt (a.data.toList.map UInt8.toNat) (b.data.toList.map UInt8.toNat)) := by rw [nb_eq, llt_eq, ba_toList, ba_toList]
    exact ⟨_, .bool (!Op.bytesLess a.toList b.toList), by simp only [binOp, Op.stringOp, Sem.run_pure], by rw [h1]; exact .b _, hk⟩
   all_goals cases hk
end
def idxK (x : AV) (k : Nat → Bool) : Bool := x.on_i fun _ m => ifT (Nat.ble 9223372036854775808 m) (natK (Nat.sub m 9223372036854775808) k)
def optK (x : Option AV) (d : Nat) (k : Nat → Bool) : Bool := Option.casesOn (motive := fun _ => Bool) x (k d) (fun x => idxK x k)
section
variable {P : Program} {ρ : Q → Loc} {N : Nat}
theorem idxK_spec {x : AV} {u : Value} (hx : Rel ρ N x u) {k : Nat → Bool} (hk : idxK x k = true) : ∃ (kd : IntKind) (i : Nat), u = .int kd (i : Nat) ∧ k i = true := by
 obtain ⟨kd, m, rfl, hk⟩ := AV.on_i_spec hk
 obtain ⟨hm, hk⟩ := ifT_le hk
 rw [natK_eq] at hk
 cases hx
 exact ⟨kd, m - 9223372036854775808, by congr 1; omega, hk⟩
inductive RelO (ρ : Q → Loc) (N : Nat) : Option AV → Option Value → Prop
 | none : RelO ρ N none none
 | some (x : AV) (v : Value) (h : Rel ρ N x v) : RelO ρ N (some x) (some v)
theorem optK_spec {x : Option AV} {u : Option Value} (hx : RelO ρ N x u) {d : Nat} {k : Nat → Bool} (hk : optK x d k = true) : (u = none ∧ k d = true) ∨ ∃ (kd : IntKind) (i : Nat), u = some (.int kd (i : Nat)) ∧ k i = true := by
 cases hx with
 | none => exact .inl ⟨rfl, hk⟩
 | some x v h =>
  obtain ⟨kd, i, h1, h2⟩ := idxK_spec h hk
  exact .inr ⟨kd, i, by rw [h1], h2⟩
theorem run_bound (w : World) (kd : IntKind) (i y : Nat) (c : BoundsCode) (h : i ≤ y) : (Instr.sliceBound (.int kd (i : Nat)) y c).run P w = .ok i w := by
 have : (0 : Int) ≤ (i : Nat) ∧ ((i : Nat) : Int) ≤ (y : Nat) := by omega
 simp only [Instr.sliceBound, asIntOf, Sem.run_bind, Sem.run_pure, Result.andThen_ok, if_pos this, Int.toNat_natCast]
theorem run_bounds2 (w : World) (b : Bool) {lo hi : Option Value} (n c h l : Nat) (hh : (hi = none ∧ h = n) ∨ ∃ kd : IntKind, hi = some (.int kd (h : Nat))) (hl : (lo = none ∧ l = 0) ∨ ∃ kd : IntKind, lo = some (.int kd (l : Nat))) (h1 : l ≤ h) (h2 : h ≤ c) :
  (Instr.sliceBounds b n c lo hi none).run P w = .ok (l, h, c) w := by
 have b1 : ∀ (kd : IntKind) (c' : BoundsCode), (Instr.sliceBound (.int kd (l : Nat)) h c').run P w = .ok l w := fun kd c' => run_bound w kd l h c' h1
 have b2 : ∀ (kd : IntKind) (c' : BoundsCode), (Instr.sliceBound (.int kd (h : Nat)) c c').run P w = .ok h w := fun kd c' => run_bound w kd h c c' h2
 rcases hh with ⟨rfl, rfl⟩ | ⟨kd, rfl⟩ <;> rcases hl with ⟨rfl, rfl⟩ | ⟨ke, rfl⟩ <;> simp [Instr.sliceBounds, b1, b2]
theorem run_bounds3 (w : World) (b : Bool) {lo : Option Value} (n c h l m : Nat) (kh km : IntKind) (hl : (lo = none ∧ l = 0) ∨ ∃ kd : IntKind, lo = some (.int kd (l : Nat))) (h1 : l ≤ h) (h2 : h ≤ m) (h3 : m ≤ c) :
  (Instr.sliceBounds b n c lo (some (.int kh (h : Nat))) (some (.int km (m : Nat)))).run P w = .ok (l, h, m) w := by
 have b1 : ∀ (kd : IntKind) (c' : BoundsCode), (Instr.sliceBound (.int kd (l : Nat)) h c').run P w = .ok l w := fun kd c' => run_bound w kd l h c' h1
 rcases hl with ⟨rfl, rfl⟩ | ⟨ke, rfl⟩ <;> simp [Instr.sliceBounds, b1, run_bound w km m c _ h3, run_bound w kh h m _ h2]
def sl2K (sz : Nat) (q : Q) (o : Nat) (c : AC) (l h : Nat) (k : AV → Bool) : Bool :=
 AC.casesOn (motive := fun _ => Bool) c
  (fun cc => ifT (Nat.ble h cc) (Bool.casesOn (motive := fun _ => Bool) (Nat.beq cc l) (k (.sl q (Nat.add o (Nat.mul l sz)) (Nat.sub h l) (.k (Nat.sub cc l)))) (k (.sl q o (Nat.sub h l) (.k 0)))))
  (fun d b => ifT (Nat.ble h b) (Bool.casesOn (motive := fun _ => Bool) (Nat.blt l b) (Bool.casesOn (motive := fun _ => Bool) (Nat.beq l 0) (k .se) (k (.sl q o (Nat.sub h l) (.u d b)))) (k (.sl q (Nat.add o (Nat.mul l sz)) (Nat.sub h l) (.u (Nat.add d l) (Nat.sub b l))))))
def AC.lim (c : AC) : Nat := AC.casesOn (motive := fun _ => Nat) c (fun c => c) (fun _ b => b)
def sl3K (sz : Nat) (q : Q) (o l h m : Nat) (k : AV → Bool) : Bool :=
 Bool.casesOn (motive := fun _ => Bool) (Nat.beq m l) (k (.sl q (Nat.add o (Nat.mul l sz)) (Nat.sub h l) (.k (Nat.sub m l)))) (k (.sl q o (Nat.sub h l) (.k 0)))
def nilX (m : AV) (lo hi : Option AV) (b : Bool) : Bool := Option.casesOn (motive := fun _ => Bool) hi false (fun hi => idxK m fun m => idxK hi fun h => optK lo 0 fun l => ifT (Nat.ble m 0) (ifT (Nat.ble h 0) (ifT (Nat.ble l 0) b)))
noncomputable def slK (sz : Nat) (lo hi mx : Option AV) (x : AV) (k : AV → Bool) : Bool :=
 AV.casesOn (motive_1 := fun _ => Bool) x false (fun _ => false) (fun _ _ => false)
  (fun n s => Option.casesOn (motive := fun _ => Bool) mx (optK hi n fun h => optK lo 0 fun l => ifT (Nat.ble l h) (ifT (Nat.ble h n) (k (.s (Nat.sub h l) (List.take (Nat.sub h l) (List.drop l s)))))) (fun _ => false))
  false (fun _ _ => false)
  (Option.casesOn (motive := fun _ => Bool) mx (optK hi 0 fun h => optK lo 0 fun l => ifT (Nat.ble h 0) (ifT (Nat.ble l 0) (k .ns))) (fun m => nilX m lo hi (k .ns)))
  (fun q o n c => Option.casesOn (motive := fun _ => Bool) mx
   (optK hi n fun h => optK lo 0 fun l => ifT (Nat.ble l h) (sl2K sz q o c l h k))
   (fun m => Option.casesOn (motive := fun _ => Bool) hi false (fun hi => idxK m fun m => idxK hi fun h => optK lo 0 fun l => ifT (Nat.ble l h) (ifT (Nat.ble h m) (ifT (Nat.ble m c.lim) (sl3K sz q o l h m k))))))
  (Option.casesOn (motive := fun _ => Bool) mx (optK hi 0 fun h => optK lo 0 fun l => ifT (Nat.ble h 0) (ifT (Nat.ble l 0) (k .se))) (fun m => nilX m lo hi (k .se)))
  (fun _ _ _ => false) false false (fun _ => false) false (fun _ => false) (fun _ => false) (fun _ _ => false) (fun _ => false)
def slOk (P : Program) (t sz : Nat) : Prop := P.underlying t = some .string ∨ ∃ e, P.underlying t = some (.slice e) ∧ ∀ w, (sizeOf e).run P w = .ok sz w
theorem run_slice_slice {t e sz : Nat} (hu : P.underlying t = some (.slice e)) (hs : ∀ w, (sizeOf e).run P w = .ok sz w) (w : World) (a : Option Addr) (n c l h m : Nat) {lo hi mx : Option Value} (hb : (Instr.sliceBounds true n c lo hi mx).run P w = .ok (l, h, m) w) :
  (Instr.sliceAt t (.slice a n c) lo hi mx).run P w = .ok (.slice (if m = l then a else a.map (·.add (l * sz))) (h - l) (m - l)) w := by
 simp only [Instr.sliceAt, Sem.run_bind, run_underlying hu, Result.andThen_ok, Instr.slice, hb, hs, Sem.run_pure]
theorem run_slice_string {t : Nat} (hu : P.underlying t = some .string) (w : World) (s : ByteArray) (l h m : Nat) {lo hi : Option Value} (hb : (Instr.sliceBounds false s.size s.size lo hi none).run P w = .ok (l, h, m) w) :
  (Instr.sliceAt t (.string s) lo hi none).run P w = .ok (.string (s.extract l h)) w := by
 simp [Instr.sliceAt, run_underlying hu, Instr.slice, hb]
theorem opt_of {u : Option Value} {d : Nat} {k : Nat → Bool} (h : (u = none ∧ k d = true) ∨ ∃ (kd : IntKind) (i : Nat), u = some (.int kd (i : Nat)) ∧ k i = true) : ∃ i, k i = true ∧ ((u = none ∧ i = d) ∨ ∃ kd : IntKind, u = some (.int kd (i : Nat))) := by
 rcases h with ⟨h1, h2⟩ | ⟨kd, i, h1, h2⟩
 ·exact ⟨d, h2, .inl ⟨h1, rfl⟩⟩
 ·exact ⟨i, h2, .inr ⟨kd, h1⟩⟩
theorem Rel.sl_inv {q : Q} {o n : Nat} {c : AC} {v : Value} (h : Rel ρ N (.sl q o n c) v) : q.num < N ∧ ((∃ cc, c = .k cc ∧ n ≤ cc ∧ v = .slice (some ⟨(ρ q).blk, (ρ q).base + o, none⟩) n cc) ∨ ∃ d l, c = .u d l ∧ n ≤ l ∧ l + d ≤ (ρ q).cap ∧ v = .slice (some ⟨(ρ q).blk, (ρ q).base + o, none⟩) n ((ρ q).cap - d)) := by
 cases h with
 | slk _ _ _ cc h1 h2 => exact ⟨h1, .inl ⟨cc, rfl, h2, rfl⟩⟩
 | slu _ _ _ d l h1 h2 h3 _ => exact ⟨h1, .inr ⟨d, l, rfl, h2, h3, rfl⟩⟩
theorem Rel.sl_cap {q : Q} {o n d l : Nat} {v : Value} (h : Rel ρ N (.sl q o n (.u d l)) v) : (ρ q).cap ≤ 9223372036854775807 := by
 cases h with
 | slu _ _ _ _ _ _ _ _ h4 => exact h4
theorem pick_y {r : Result Value} {v : Value} {w : World} {k : AV → Bool} (hr : r = .ok v w) (h : ∃ y, Rel ρ N y v ∧ k y = true) : ∃ y v, r = .ok v w ∧ Rel ρ N y v ∧ k y = true :=
 let ⟨y, h1, h2⟩ := h
 ⟨y, v, hr, h1, h2⟩
theorem nilX_spec {m : AV} {mv : Value} {lo hi : Option AV} {lov hiv : Option Value} (hm : Rel ρ N m mv) (hlo : RelO ρ N lo lov) (hhi : RelO ρ N hi hiv) {b : Bool} (hk : nilX m lo hi b = true) :
  ∃ (km kh : IntKind), mv = .int km (0 : Nat) ∧ hiv = some (.int kh (0 : Nat)) ∧ ((lov = none ∧ (0 : Nat) = 0) ∨ ∃ kd : IntKind, lov = some (.int kd (0 : Nat))) ∧ b = true := by
 cases hhi with
 | none => cases hk
 | some hi hv hh =>
  obtain ⟨km, m', rfl, hk2⟩ := idxK_spec hm (show idxK m _ = true from hk)
  obtain ⟨kh, h', rfl, hk3⟩ := idxK_spec hh hk2
  obtain ⟨l, hk4, hl⟩ := opt_of (optK_spec hlo hk3)
  obtain ⟨h1, hk5⟩ := ifT_le hk4
  obtain ⟨h2, hk6⟩ := ifT_le hk5
  obtain ⟨h3, hk7⟩ := ifT_le hk6
  have h1 : m' = 0 := by omega
  have h2 : h' = 0 := by omega
  have h3 : l = 0 := by omega
  subst h1 h2 h3
  exact ⟨km, kh, rfl, rfl, hl, hk7⟩
theorem slK_sound {t sz : Nat} (ht : slOk P t sz) {x : AV} {u : Value} {lo hi mx : Option AV} {lov hiv mxv : Option Value} (hx : Rel ρ N x u) (hlo : RelO ρ N lo lov) (hhi : RelO ρ N hi hiv) (hmx : RelO ρ N mx mxv)
  {k : AV → Bool} (hk : slK sz lo hi mx x k = true) (hty : (∃ s, u = .string s) ↔ P.underlying t = some .string) (w : World) : ∃ y v, (Instr.sliceAt t u lov hiv mxv).run P w = .ok v w ∧ Rel ρ N y v ∧ k y = true := by
 have sl : ∀ (a : Option Addr) (n c : Nat), u = .slice a n c → ∃ e, P.underlying t = some (.slice e) ∧ ∀ w, (sizeOf e).run P w = .ok sz w := fun a n c e => by
  rcases ht with h | h
  ·obtain ⟨s, hs⟩ := hty.2 h
   rw [hs] at e
   cases e
  ·exact h
 cases x <;> first | (cases hk; done) | skip
 case s n s =>
  cases hmx with
  | some _ _ _ => cases hk
  | none =>
   have hu := hty.1 (by cases hx; exact ⟨_, rfl⟩)
   dsimp only [slK] at hk
   obtain ⟨h, hk, hh⟩ := opt_of (optK_spec hhi hk)
   obtain ⟨l, hk, hl⟩ := opt_of (optK_spec hlo hk)
   obtain ⟨h1, hk1⟩ := ifT_le hk
   obtain ⟨h2, hk2⟩ := ifT_le hk1
   cases hx with
   | s s =>
    refine ⟨_, _, run_slice_string hu w s l h s.size (run_bounds2 w false s.size s.size h l hh hl h1 h2), rel_s _ ?_ ?_, hk2⟩
    ·simp only [ByteArray.size_extract]; show _ = h - l; omega
    ·rw [ByteArray.data_extract, Array.toList_extract]
     simp [List.extract, List.map_take, List.map_drop]
 case ns =>
  cases hmx with
  | some m mv hm =>
   obtain ⟨km, kh, e1, e2, hl, hk2⟩ := nilX_spec hm hlo hhi (show nilX m lo hi (k .ns) = true from hk)
   subst e1 e2
   cases hx with
   | ns =>
    obtain ⟨e, hu, hs⟩ := sl _ _ _ rfl
    refine ⟨_, _, run_slice_slice hu hs w none 0 0 0 0 0 (run_bounds3 w true 0 0 0 0 0 kh km (by simpa using hl) (Nat.le_refl _) (Nat.le_refl _) (Nat.le_refl _)), .ns, hk2⟩
  | none =>
   dsimp only [slK] at hk
   obtain ⟨h, hk, hh⟩ := opt_of (optK_spec hhi hk)
   obtain ⟨l, hk, hl⟩ := opt_of (optK_spec hlo hk)
   obtain ⟨h1, hk⟩ := ifT_le hk
   obtain ⟨h2, hk⟩ := ifT_le hk
   cases hx with
   | ns =>
    obtain ⟨e, hu, hs⟩ := sl _ _ _ rfl
    refine ⟨_, _, run_slice_slice hu hs w none 0 0 l h 0 (run_bounds2 w true 0 0 h l hh hl (by omega) h1), ?_, hk⟩
    have : l = 0 := by omega
    have : h = 0 := by omega
    subst l h
    exact .ns
 case se =>
  cases hmx with
  | some m mv hm =>
   obtain ⟨km, kh, e1, e2, hl, hk2⟩ := nilX_spec hm hlo hhi (show nilX m lo hi (k .se) = true from hk)
   subst e1 e2
   cases hx with
   | se a c =>
    obtain ⟨e, hu, hs⟩ := sl _ _ _ rfl
    refine ⟨_, _, run_slice_slice hu hs w (some a) 0 c 0 0 0 (run_bounds3 w true 0 c 0 0 0 kh km (by simpa using hl) (Nat.le_refl _) (Nat.le_refl _) (Nat.zero_le _)), .se a 0, hk2⟩
  | none =>
   dsimp only [slK] at hk
   obtain ⟨h, hk, hh⟩ := opt_of (optK_spec hhi hk)
   obtain ⟨l, hk, hl⟩ := opt_of (optK_spec hlo hk)
   obtain ⟨h1, hk⟩ := ifT_le hk
   obtain ⟨h2, hk⟩ := ifT_le hk
   cases hx with
   | se a c =>
    obtain ⟨e, hu, hs⟩ := sl _ _ _ rfl
    refine ⟨_, _, run_slice_slice hu hs w (some a) 0 c l h c (run_bounds2 w true 0 c h l hh hl (by omega) (by omega)), ?_, hk⟩
    have : l = 0 := by omega
    have : h = 0 := by omega
    subst l h
    have e : (if c = 0 then some a else (some a).map (·.add (0 * sz))) = some a := by
     rw [Nat.zero_mul]
     split
     ·rfl
     ·simp [Addr.add]
    rw [e]
    exact .se a _
 case sl q o n c =>
  cases hmx with
  | none =>
   dsimp only [slK] at hk
   obtain ⟨h, hk2, hh⟩ := opt_of (optK_spec hhi hk)
   obtain ⟨l, hk3, hl⟩ := opt_of (optK_spec hlo hk2)
   obtain ⟨h1, hk4⟩ := ifT_le hk3
   clear hk hk2 hk3
   obtain ⟨hq, ⟨c, rfl, hc, rfl⟩ | ⟨d, b, rfl, hn, hc, rfl⟩⟩ := hx.sl_inv
   ·obtain ⟨e, hu, hs⟩ := sl _ _ _ rfl
    obtain ⟨h2, hk⟩ := ifT_le (show ifT (Nat.ble h c) _ = true from hk4)
    refine pick_y (run_slice_slice hu hs w _ n c l h c (run_bounds2 w true n c h l hh hl h1 h2)) ?_
    by_cases hcl : c = l
    ·subst hcl
     rw [Nat.beq_refl] at hk
     refine ⟨_, ?_, hk⟩
     rw [if_pos rfl, Nat.sub_self]
     exact .slk q o _ 0 hq (by show h - c ≤ 0; omega)
    ·have hb : Nat.beq c l = false := by rw [← Bool.not_eq_true, Nat.beq_eq]; exact hcl
     rw [hb] at hk
     refine ⟨_, ?_, hk⟩
     rw [if_neg hcl]
     have := Rel.slk (ρ := ρ) (N := N) q (o + l * sz) (h - l) (c - l) hq (by omega)
     simp only [Option.map_some, Addr.add_none, Nat.add_assoc]
     exact this
   ·obtain ⟨e, hu, hs⟩ := sl _ _ _ rfl
    obtain ⟨h2, hk⟩ := ifT_le (show ifT (Nat.ble h b) _ = true from hk4)
    refine pick_y (run_slice_slice hu hs w _ n _ l h _ (run_bounds2 w true n _ h l hh hl h1 (by omega))) ?_
    by_cases hln : l < b
    ·have hb : Nat.blt l b = true := by rw [Nat.blt_eq]; exact hln
     rw [hb] at hk
     refine ⟨_, ?_, hk⟩
     rw [if_neg (by omega)]
     have := Rel.slu (ρ := ρ) (N := N) q (o + l * sz) (h - l) (d + l) (b - l) hq (by omega) (by omega) hx.sl_cap
     simp only [Option.map_some, Addr.add_none, Nat.add_assoc]
     rw [Nat.sub_sub]
     exact this
    ·have hb : Nat.blt l b = false := by rw [← Bool.not_eq_true, Nat.blt_eq]; exact hln
     rw [hb] at hk
     have hhl : h - l = 0 := by omega
     by_cases hl0 : l = 0
     ·subst hl0
      refine ⟨_, ?_, hk⟩
      have e : (if (ρ q).cap - d = 0 then some (⟨(ρ q).blk, (ρ q).base + o, none⟩ : Addr) else (some (⟨(ρ q).blk, (ρ q).base + o, none⟩ : Addr)).map (·.add (0 * sz))) = some ⟨(ρ q).blk, (ρ q).base + o, none⟩ := by
       rw [Nat.zero_mul]
       split
       ·rfl
       ·simp [Addr.add]
      rw [e]
      exact .slu q o _ d b hq (by show h - 0 ≤ _; omega) hc hx.sl_cap
     ·have hb0 : Nat.beq l 0 = false := by rw [← Bool.not_eq_true, Nat.beq_eq]; exact hl0
      rw [hb0] at hk
      refine ⟨_, ?_, hk⟩
      rw [hhl]
      split
      ·exact .se _ _
      ·exact .se _ _
  | some m mv hm =>
   cases hhi with
   | none => cases hk
   | some h hv hh =>
    dsimp only [slK] at hk
    obtain ⟨km, m', rfl, hk⟩ := idxK_spec hm hk
    obtain ⟨kh, h', rfl, hk⟩ := idxK_spec hh hk
    obtain ⟨l, hk, hl⟩ := opt_of (optK_spec hlo hk)
    obtain ⟨h1, hk⟩ := ifT_le hk
    obtain ⟨h2, hk⟩ := ifT_le hk
    obtain ⟨h3, hk⟩ := ifT_le hk
    have key : ∀ cap : Nat, m' ≤ cap → q.num < N → (∃ e, P.underlying t = some (.slice e) ∧ ∀ w, (sizeOf e).run P w = .ok sz w) →
      ∃ y v, (Instr.sliceAt t (.slice (some ⟨(ρ q).blk, (ρ q).base + o, none⟩) n cap) lov (some (.int kh (h' : Nat))) (some (.int km (m' : Nat)))).run P w = .ok v w ∧ Rel ρ N y v ∧ k y = true := by
     intro cap hcap hq ⟨e, hu, hs⟩
     refine pick_y (run_slice_slice hu hs w _ n cap l h' m' (run_bounds3 w true n cap h' l m' kh km hl h1 h2 (by omega))) ?_
     by_cases hml : m' = l
     ·subst hml
      have hk : (Bool.casesOn (motive := fun _ => Bool) (Nat.beq m' m') _ (k (.sl q o (Nat.sub h' m') (.k 0)))) = true := hk
      rw [Nat.beq_refl] at hk
      refine ⟨_, ?_, hk⟩
      rw [if_pos rfl, Nat.sub_self]
      exact .slk q o _ 0 hq (by show h' - m' ≤ 0; omega)
     ·have hb : Nat.beq m' l = false := by rw [← Bool.not_eq_true, Nat.beq_eq]; exact hml
      have hk : (Bool.casesOn (motive := fun _ => Bool) (Nat.beq m' l) (k (.sl q (Nat.add o (Nat.mul l sz)) (Nat.sub h' l) (.k (Nat.sub m' l)))) (k (.sl q o (Nat.sub h' l) (.k 0)))) = true := hk
      rw [hb] at hk
      refine ⟨_, ?_, hk⟩
      rw [if_neg hml]
      have := Rel.slk (ρ := ρ) (N := N) q (o + l * sz) (h' - l) (m' - l) hq (by omega)
      simp only [Option.map_some, Addr.add_none, Nat.add_assoc]
      exact this
    obtain ⟨hq, ⟨c, rfl, hc, rfl⟩ | ⟨d, b, rfl, hn, hc, rfl⟩⟩ := hx.sl_inv
    ·exact key c h3 hq (sl _ _ _ rfl)
    ·exact key _ (by have h3 : m' ≤ b := h3; omega) hq (sl _ _ _ rfl)
end
def elemOk (P : Program) (e sz : Nat) : Bool := match P.info? e with
 | some i => (match i.zero with | some z => z.cells.size == sz | none => false) && i.size == sz && decide (i.bytes ≤ 100000)
 | none => false
theorem elemOk_spec {P : Program} {e sz : Nat} (h : elemOk P e sz = true) : ∃ i z, P.info? e = some i ∧ i.zero = some z ∧ z.cells.size = sz ∧ i.size = sz ∧ i.bytes ≤ 100000 := by
 unfold elemOk at h
 split at h
 ·rename_i i hi
  simp only [Bool.and_eq_true, beq_iff_eq, decide_eq_true_eq] at h
  obtain ⟨⟨h1, h2⟩, h3⟩ := h
  split at h1
  ·rename_i z hz
   exact ⟨i, z, hi, hz, by simpa using h1, h2, h3⟩
  ·cases h1
 ·cases h
section
variable {P : Program} (w : World)
theorem run_app_room {t u ty e sz : Nat} (ht : P.underlying t = some (.slice e)) (hu : (∃ f, P.underlying u = some (.slice f)) ∨ P.underlying u = some .string) (he : elemOk P e sz = true) (x : Value) (n : Nat) (news : List Value)
  (hx : ∀ w' : World, (Builtin.lenOf x).run P w' = .ok n w') (hc : (Builtin.firstCells sz n x).run P w = .ok news.toArray w)
  (base : Option Addr) (len cap : Nat) (hr : len + n ≤ cap) {w' : World} (hst : (∀ a, base = some a → (storeCells (a.add (len * sz)) news).run P w = .ok () w') ∧ (base = none → w' = w)) :
  (Builtin.append_ #[t, u] ty #[.slice base len cap, x]).run P w = .ok (.slice base (len + n) cap) w' := by
 obtain ⟨i, z, hi, hz, hzs, hs, hb⟩ := elemOk_spec he
 subst hs
 cases base with
 | none =>
  have := hst.2 rfl
  subst this
  rcases hu with ⟨f, hd⟩ | hd <;> simp [Builtin.append_, run_underlying ht, run_underlying hd, sizeOf, typeInfo, hi, hx, hr, hc]
 | some a =>
  have h2 := hst.1 a rfl
  rcases hu with ⟨f, hd⟩ | hd <;> simp [Builtin.append_, run_underlying ht, run_underlying hd, sizeOf, typeInfo, hi, hx, hr, hc, h2]
theorem run_app_grow {t u ty e sz : Nat} (ht : P.underlying t = some (.slice e)) (hu : (∃ f, P.underlying u = some (.slice f)) ∨ P.underlying u = some .string) (he : elemOk P e sz = true) (x : Value) (n : Nat) (news olds : List Value)
  (hx : ∀ w' : World, (Builtin.lenOf x).run P w' = .ok n w') (hc : (Builtin.firstCells sz n x).run P w.drew = .ok news.toArray w.drew)
  (base : Option Addr) (len cap : Nat) (ho : (Builtin.firstCells sz len (.slice base len cap)).run P w.drew = .ok olds.toArray w.drew) (hr : cap < len + n) (hm : len + n ≤ 1000000) :
  ∃ z : Value, z.cells.size = sz ∧ (Builtin.append_ #[t, u] ty #[.slice base len cap, x]).run P w = .ok (.slice (some ⟨w.heap.size, 0, none⟩) (len + n) (grownCap w (len + n) cap e))
   (w.drew.alloc (.cells (olds.toArray ++ news.toArray ++ Builtin.zeroCells z.cells (grownCap w (len + n) cap e - (len + n))) e)) := by
 obtain ⟨i, z, hi, hz, hzs, hs, hb⟩ := elemOk_spec he
 subst hs
 refine ⟨z, hzs, ?_⟩
 have hn : ¬ (len + n ≤ cap) := by omega
 have h63' : ¬ (9223372036854775807 < ((len : Int) + (n : Int))) := by omega
 have h48 : Builtin.nextslicecap (len + n) cap * i.bytes ≤ 281474976710656 := growslice_fits hr (by
  have : (len + n) * i.bytes ≤ 1000000 * 100000 := Nat.mul_le_mul hm hb
  omega)
 have h48' : ¬ (281474976710656 < Builtin.nextslicecap (len + n) cap * i.bytes) := by omega
 have hdr : w.drew.heap = w.heap := rfl
 rcases hu with ⟨f, hd⟩ | hd <;> (simp [Builtin.append_, run_underlying ht, run_underlying hd, sizeOf, typeInfo, zeroValue, hi, hz, hx, hn, h63', h48', Question.forced, hc, ho, newRow, grownCap]; congr 2; apply Array.ext'; simp)
end
def byteAV (b : Nat) : AV := .i .u8 (Nat.add b 9223372036854775808)
noncomputable def srcK (sz : Nat) (y : AV) (h : Hp) (k : Nat → List AV → Bool) : Bool :=
 AV.casesOn (motive_1 := fun _ => Bool) y false (fun _ => false) (fun _ _ => false) (fun n l => ifT (Nat.beq sz 1) (k n (List.map byteAV l))) false (fun _ _ => false)
  (k 0 []) (fun q o n _ => (HT.getR q h.t).on fun _ m v => ifT (Nat.ble (Nat.add o (Nat.mul n sz)) m) (k n (v.range (Nat.mul n sz) o))) (k 0 [])
  (fun _ _ _ => false) false false (fun _ => false) false (fun _ => false) (fun _ => false) (fun _ _ => false) (fun _ => false)
section
variable {P : Program} {ρ : Q → Loc} {h : Hp} {w : World} {B : Nat}
theorem rel_bytes (ρ : Q → Loc) (N : Nat) : ∀ l : List UInt8, RelL ρ N ((l.map UInt8.toNat).map byteAV) (l.map fun b => Value.int .u8 b.toNat)
 | [] => .nil
 | b :: l => .cons _ _ _ _ (by
   have := Rel.i (ρ := ρ) (N := N) .u8 (b.toNat + 9223372036854775808)
   rw [Int.natCast_add, show (((9223372036854775808 : Nat) : Int)) = 9223372036854775808 from rfl, Int.add_sub_cancel] at this
   exact this) (rel_bytes ρ N l)
theorem srcK_sound (E : Emb P ρ h w B) {sz : Nat} {y : AV} {u : Value} (hy : Rel ρ h.nx.num y u) {k : Nat → List AV → Bool} (hk : srcK sz y h k = true) :
  ∃ (n : Nat) (cs : List AV) (news : List Value), k n cs = true ∧ cs.length = n * sz ∧ RelL ρ h.nx.num cs news ∧ (∀ v ∈ news, v.oneCell' = true) ∧ (∀ w' : World, (Builtin.lenOf u).run P w' = .ok n w') ∧
   (∀ w' : World, w'.heap = w.heap → (Builtin.firstCells sz n u).run P w' = .ok news.toArray w') ∧ news.length = n * sz := by
 cases y <;> first | (cases hk; done) | skip
 case s n l =>
  obtain ⟨h1, hk⟩ := ifT_eq hk
  cases hy with
  | s s =>
   refine ⟨_, _, s.data.toList.map fun b => .int .u8 b.toNat, hk, ?_, rel_bytes _ _ _, ?_, fun w' => rfl, fun w' _ => ?_, ?_⟩
   ·rw [h1]; simp
   ·intro v hv
    obtain ⟨b, _, rfl⟩ := List.mem_map.1 hv
    rfl
   ·have e : s.extract 0 s.size = s := by
     apply ByteArray.ext
     rw [ByteArray.data_extract]
     simp
    simp only [Builtin.firstCells, e, Sem.run_pure]
    congr 1
    apply Array.ext'
    simp
   ·rw [h1]; simp
 case ns =>
  cases hy with
  | ns => exact ⟨0, [], [], hk, by simp, .nil, by simp, fun _ => rfl, fun _ _ => by simp [Builtin.firstCells], by simp⟩
 case se =>
  cases hy with
  | se a c => exact ⟨0, [], [], hk, by simp, .nil, by simp, fun _ => rfl, fun w' _ => by simp [Builtin.firstCells, loadCells, loadCellsFrom], by simp⟩
 case sl q o n c =>
  dsimp only [srcK] at hk
  rw [HT.getR_eq] at hk
  obtain ⟨ty, m, v, hg, hk⟩ := OB.on_spec hk
  obtain ⟨hle, hk⟩ := ifT_le hk
  obtain ⟨vs, hl, hr, h1, hc⟩ := E.cells hg o (n * sz) hle
  have hfc : ∀ (cap : Nat) (w' : World), w'.heap = w.heap → (Builtin.firstCells sz n (.slice (some ⟨(ρ q).blk, (ρ q).base + o, none⟩) n cap)).run P w' = .ok vs.toArray w' := fun cap w' hw' =>
   run_firstCells_some w' sz n _ n cap vs hl (fun j u hu => by rw [Addr.add_none]; exact (cell?_of_heap (by rw [hw']) _ _).trans (hc j u hu))
  cases hy with
  | slk q o n c hq hcc => exact ⟨n, _, vs, hk, V.range_length _ _ _, hr, h1, fun _ => rfl, hfc _, hl⟩
  | slu q o n d hq hcc _ => exact ⟨n, _, vs, hk, V.range_length _ _ _, hr, h1, fun _ => rfl, hfc _, hl⟩
noncomputable def bK (o : Nat) (v : V) (m : Nat) (cs : List AV) (k : V → Bool) : Bool := Bool.casesOn (motive := fun _ => Bool) (Nat.beq o 0) (V.setL (List.append (v.range m o) cs) .z 0 k) (V.setL cs v m k)
theorem bK_spec {o : Nat} {v : V} {m : Nat} {cs : List AV} {k : V → Bool} (hk : bK o v m cs k = true) : ∃ v' : V, k v' = true ∧ (∀ j, j < m → v'.get j = v.get (o + j)) ∧ ∀ (j : Nat) (hj : j < cs.length), v'.get (m + j) = cs[j] := by
 unfold bK at hk
 cases hb : Nat.beq o 0 with
 | true =>
  have ho := Nat.eq_of_beq_eq_true hb
  subst ho
  rw [hb] at hk
  obtain ⟨v', h1, h2, h3⟩ := V.setL_spec cs v m k hk
  exact ⟨v', h1, fun j hj => by rw [Nat.zero_add]; exact h3 j (.inl hj), h2⟩
 | false =>
  rw [hb] at hk
  obtain ⟨v', h1, h2, _⟩ := V.setL_spec (v.range m o ++ cs) .z 0 k hk
  have hl : (v.range m o ++ cs).length = m + cs.length := by rw [List.length_append, V.range_length]
  refine ⟨v', h1, fun j hj => ?_, fun j hj => ?_⟩
  ·have := h2 j (by omega)
   rw [Nat.zero_add] at this
   rw [this, List.getElem_append_left (by rw [V.range_length]; exact hj), V.range_get]
  ·have := h2 (m + j) (by omega)
   rw [Nat.zero_add] at this
   rw [this, List.getElem_append_right (by rw [V.range_length]; omega)]
   congr 1
   rw [V.range_length]
   omega
noncomputable def apK (el sz : Nat) (x y : AV) (h : Hp) (k : AV → Hp → Bool) : Bool :=
 srcK sz y h fun n cs => AV.casesOn (motive_1 := fun _ => Bool) x false (fun _ => false) (fun _ _ => false) (fun _ _ => false) false (fun _ _ => false)
  (Bool.casesOn (motive := fun _ => Bool) (Nat.beq n 0) (ifT (Nat.ble n 1000000) (nbK el (Nat.mul n sz) cs h fun q h' => k (.sl q 0 n (.u 0 n)) h')) (k .ns h))
  (fun q o len c => Bool.casesOn (motive := fun _ => Bool) (Nat.beq n 0)
   (ifT (Nat.ble (Nat.add len n) 1000000) ((HT.getR q h.t).on fun ty m v => AC.casesOn (motive := fun _ => Bool) c
    (fun cc => Bool.casesOn (motive := fun _ => Bool) (Nat.ble (Nat.add len n) cc)
     (ifT (Nat.ble (Nat.add o (Nat.mul len sz)) m) (bK o v (Nat.mul len sz) cs fun v' => HT.setK (.bk el (Nat.mul (Nat.add len n) sz) v') h.nx h.t fun t' => h.nx.succK fun n' => k (.sl h.nx 0 (Nat.add len n) (.u 0 (Nat.add len n))) (.mk t' n')))
     (ifT (Nat.ble (Nat.add o (Nat.mul (Nat.add len n) sz)) m) (V.setL cs v (Nat.add o (Nat.mul len sz)) fun v' => HT.setK (.bk ty m v') q h.t fun t' => k (.sl q o (Nat.add len n) (.k cc)) (.mk t' h.nx))))
    (fun d b => Bool.casesOn (motive := fun _ => Bool) (Nat.ble (Nat.add len n) b) (ifT (Nat.beq ty el) (ifT (Nat.beq o (Nat.mul d sz)) (ifT (Nat.ble (Nat.add o (Nat.mul len sz)) m) (bK o v (Nat.mul len sz) cs fun v' =>
     HT.setK .no q h.t fun t0 => HT.setK (.bk el (Nat.mul (Nat.add len n) sz) v') h.nx t0 fun t' => h.nx.succK fun n' => k (.sl h.nx 0 (Nat.add len n) (.u 0 (Nat.add len n))) (.mk t' n')))))
     (ifT (Nat.ble (Nat.add o (Nat.mul (Nat.add len n) sz)) m) (V.setL cs v (Nat.add o (Nat.mul len sz)) fun v' => HT.setK (.bk ty m v') q h.t fun t' => k (.sl q o (Nat.add len n) (.u d b)) (.mk t' h.nx))))))
   (k x h))
  (Bool.casesOn (motive := fun _ => Bool) (Nat.beq n 0) false (k .se h)) (fun _ _ _ => false) false false (fun _ => false) false (fun _ => false) (fun _ => false) (fun _ _ => false) (fun _ => false)
def Made (P : Program) (ρ : Q → Loc) (h : Hp) (w : World) (B : Nat) (r : Result Value) (k : AV → Hp → Bool) : Prop :=
 ∃ y v w' ρ' h', r = .ok v w' ∧ Emb P ρ' h' w' B ∧ Step ρ h w ρ' h' w' ∧ Rel ρ' h'.nx.num y v ∧ k y h' = true
theorem rel_newSlice (ρ : Q → Loc) (q : Q) (w : World) (n cap N : Nat) (hN : q.num < N) (hc : n ≤ cap) (hm : cap ≤ 9223372036854775807) : Rel (upd ρ q (Hp.loc w cap)) N (.sl q 0 n (.u 0 n)) (.slice (some ⟨w.heap.size, 0, none⟩) n cap) := by
 have := Rel.slu (ρ := upd ρ q (Hp.loc w cap)) (N := N) q 0 n 0 n hN (Nat.le_refl _) (by rw [upd_same]; exact hc) (by rw [upd_same]; exact hm)
 rw [upd_same] at this
 simpa [Hp.loc] using this
theorem Emb.grow (E : Emb P ρ h w B) {t u ty e sz : Nat} (ht : P.underlying t = some (.slice e)) (hu : (∃ f, P.underlying u = some (.slice f)) ∨ P.underlying u = some .string) (he : elemOk P e sz = true) {x : Value} {n : Nat} {cs : List AV} {news : List Value}
  (hcs : cs.length = n * sz) (hr : RelL ρ h.nx.num cs news) (h1 : ∀ v ∈ news, v.oneCell' = true) (hx : ∀ w' : World, (Builtin.lenOf x).run P w' = .ok n w') (hfc : ∀ w' : World, w'.heap = w.heap → (Builtin.firstCells sz n x).run P w' = .ok news.toArray w')
  {base : Option Addr} {len cap : Nat} {os : List AV} {olds : List Value} (hol : os.length = len * sz) (hor : RelL ρ h.nx.num os olds) (ho1 : ∀ v ∈ olds, v.oneCell' = true) (hofc : ∀ w' : World, w'.heap = w.heap → (Builtin.firstCells sz len (.slice base len cap)).run P w' = .ok olds.toArray w')
  (hcap : cap < len + n) (hm : len + n ≤ 1000000) (t0 : HT) (ht0 : ∀ r, t0.get r = .no ∨ t0.get r = h.t.get r) {v : V} (hv : ∀ (j : Nat) (hj : j < (os ++ cs).length), v.get j = (os ++ cs)[j]) {k : AV → Hp → Bool}
  (hk : k (.sl h.nx 0 (len + n) (.u 0 (len + n))) (.mk (t0.set (.bk e ((len + n) * sz) v) h.nx) h.nx.succ) = true) : Made P ρ h w B ((Builtin.append_ #[t, u] ty #[.slice base len cap, x]).run P w) k := by
 obtain ⟨z, hz, hrun⟩ := run_app_grow w (ty := ty) ht hu he x n news olds hx (hfc _ rfl) base len cap (hofc _ rfl) hcap hm
 obtain ⟨i, z', hi, hz', hzs', hs, hb⟩ := elemOk_spec he
 have hcells : P.cellsOf e = sz := by simp [Program.cellsOf, hi, hs]
 have hge := grownCap_ge w (len + n) cap e
 have hgm : grownCap w (len + n) cap e ≤ 9223372036854775807 := grownCap_le_maxLen w (len + n) cap e (by unfold maxLen; omega)
 generalize hC : grownCap w (len + n) cap e = C at *
 have hlenL : (os ++ cs).length = (len + n) * sz := by rw [List.length_append, hol, hcs, Nat.add_mul]
 have hlo := hor.length
 have hln := hr.length
 have hsz : (olds.toArray ++ news.toArray ++ Builtin.zeroCells z.cells (C - (len + n))).size = C * sz := by
  simp only [Array.size_append, List.size_toArray, size_zeroCells, hz, ← hlo, ← hln, hol, hcs, ← Nat.add_mul]
  congr 1
  omega
 obtain ⟨a1, a2⟩ := E.cellsNew' t0 ht0 (w' := w.drew.alloc (.cells (olds.toArray ++ news.toArray ++ Builtin.zeroCells z.cells (C - (len + n))) e)) _ e (0, 0) rfl rfl rfl rfl (hor.append hr)
  (fun v hv => (List.mem_append.1 hv).elim (ho1 v) (h1 v))
  (fun j u hu => by
   have hj := (List.getElem?_eq_some_iff.1 hu).1
   have hj2 : j < (olds.toArray ++ news.toArray).size := by simpa using hj
   exact (Array.getElem?_append_left hj2).trans (by simpa using hu))
  (by rw [hsz, ← hor.append hr |>.length, hlenL]; exact Nat.mul_le_mul_right _ hge) C (by rw [hsz, hcells]; exact Nat.le_refl _) (fun o _ => by simp) hv
 rw [hlenL] at a1 a2
 exact ⟨_, _, _, _, _, hrun, a1, a2, rel_newSlice _ _ _ _ _ _ (by show h.nx.num < h.nx.succ.num; rw [Q.num_succ]; omega) hge hgm, hk⟩
theorem HT.get_drop (q : Q) (t : HT) : ∀ r, (HT.set .no q t).get r = .no ∨ (HT.set .no q t).get r = t.get r := fun r => by
 by_cases e : r = q
 ·subst e; exact .inl (HT.get_set_same _ _ _)
 ·exact .inr (HT.get_set_ne _ _ _ _ e)
theorem apK_sound (E : Emb P ρ h w B) {t u ty e sz : Nat} (ht : P.underlying t = some (.slice e)) (hu : (∃ f, P.underlying u = some (.slice f)) ∨ P.underlying u = some .string) (he : elemOk P e sz = true) {x y : AV} {xv yv : Value} (hx : Rel ρ h.nx.num x xv) (hy : Rel ρ h.nx.num y yv)
  {k : AV → Hp → Bool} (hk : apK e sz x y h k = true) : Made P ρ h w B ((Builtin.append_ #[t, u] ty #[xv, yv]).run P w) k := by
 obtain ⟨n, cs, news, hk2, hcs, hr, h1, hlen, hfc, hnl⟩ := srcK_sound E hy hk
 clear hk
 have hk := hk2
 clear hk2
 obtain ⟨i0, z0, hi0, hz0, hzs0, hs0, hb0⟩ := elemOk_spec he
 have hcells : P.cellsOf e = sz := by simp [Program.cellsOf, hi0, hs0]
 have zero : ∀ (base : Option Addr) (len cap : Nat), n = 0 → len ≤ cap → (Builtin.append_ #[t, u] ty #[.slice base len cap, yv]).run P w = .ok (.slice base len cap) w := fun base len cap h0 hle => by
  subst h0
  have hn : news = [] := by apply List.eq_nil_of_length_eq_zero; omega
  subst hn
  have := run_app_room w (ty := ty) (base := base) (len := len) (cap := cap) (w' := w) ht hu he yv 0 [] hlen (hfc w rfl) (by omega) ⟨fun a _ => rfl, fun _ => rfl⟩
  simpa using this
 have same : ∀ (base : Option Addr) (len cap : Nat) (x' : AV), n = 0 → len ≤ cap → Rel ρ h.nx.num x' (.slice base len cap) → k x' h = true → Made P ρ h w B ((Builtin.append_ #[t, u] ty #[.slice base len cap, yv]).run P w) k := fun base len cap x' h0 hle hR hk =>
  ⟨x', _, w, ρ, h, zero base len cap h0 hle, E, Step.refl _ _ _, hR, hk⟩
 cases x <;> first | (cases hk; done) | skip
 case ns =>
  cases hx with
  | ns =>
   cases hb : Nat.beq n 0 with
   | true =>
    dsimp only at hk
    rw [hb] at hk
    exact same none 0 0 .ns (Nat.eq_of_beq_eq_true hb) (Nat.le_refl _) .ns hk
   | false =>
    dsimp only at hk
    rw [hb] at hk
    obtain ⟨hm, hk⟩ := ifT_le hk
    obtain ⟨v, hg, hk⟩ := nbK_spec hcs hk
    have hn0 : 0 < n := by
     rcases Nat.eq_zero_or_pos n with h0 | h0
     ·rw [h0] at hb; cases hb
     ·exact h0
    rw [hcs] at hk
    refine E.grow ht hu he hcs hr h1 hlen hfc (len := 0) (cap := 0) (base := none) (os := []) (olds := []) (by simp) .nil (by simp) (fun w' _ => by simp [Builtin.firstCells]) (by omega) (by omega) h.t (fun _ => .inr rfl) (v := v) hg ?_
    rw [Nat.zero_add]
    exact hk
 case se =>
  cases hx with
  | se a c =>
   cases hb : Nat.beq n 0 with
   | false => dsimp only at hk; rw [hb] at hk; cases hk
   | true =>
    dsimp only at hk
    rw [hb] at hk
    exact same (some a) 0 c .se (Nat.eq_of_beq_eq_true hb) (Nat.zero_le _) (.se a c) hk
 case sl q o n' c =>
  cases hb : Nat.beq n 0 with
  | true =>
   dsimp only at hk
   rw [hb] at hk
   have h0 := Nat.eq_of_beq_eq_true hb
   obtain ⟨hq, ⟨cc, rfl, hc, rfl⟩ | ⟨d, b, rfl, hn, hc, rfl⟩⟩ := hx.sl_inv
   ·exact same _ _ _ _ h0 hc (.slk q o n' cc hq hc) hk
   ·exact same _ _ _ _ h0 (by omega) (.slu q o n' d b hq hn hc hx.sl_cap) hk
  | false =>
   dsimp only at hk
   rw [hb] at hk
   obtain ⟨hm, hk⟩ := ifT_le hk
   have hm : n' + n ≤ 1000000 := hm
   rw [HT.getR_eq] at hk
   obtain ⟨bty, m, v, hg, hk⟩ := OB.on_spec hk
   have R := E.row q bty m v hg
   have hlive : h.live q := by rw [Hp.live, hg]; simp
   obtain ⟨hq, ⟨cc, rfl, hc, rfl⟩ | ⟨d, b, rfl, hn, hc, rfl⟩⟩ := hx.sl_inv
   ·dsimp only at hk
    cases hr2 : Nat.ble (n' + n) cc with
    | true =>
     have hle2 : n' + n ≤ cc := Nat.le_of_ble_eq_true hr2
     have hk : (Bool.casesOn (motive := fun _ => Bool) (Nat.ble (n' + n) cc) _ (ifT (Nat.ble (Nat.add o (Nat.mul (Nat.add n' n) sz)) m) (V.setL cs v (Nat.add o (Nat.mul n' sz)) fun v' => HT.setK (.bk bty m v') q h.t fun t' => k (.sl q o (Nat.add n' n) (.k cc)) (.mk t' h.nx)))) = true := hk
     rw [hr2] at hk
     obtain ⟨hfit, hk⟩ := ifT_le hk
     have hfit : o + (n' + n) * sz ≤ m := hfit
     rw [Nat.add_mul] at hfit
     obtain ⟨v', hk, hin, hout⟩ := V.setL_spec cs v _ _ hk
     rw [HT.setK_eq] at hk
     obtain ⟨a1, a2, a3⟩ := E.write hg (o + n' * sz) hr h1 (by omega) v' hin hout m (.inl rfl) (by omega) (fun sz' hs => by
      obtain ⟨sz'', hs', hbb, _⟩ := R.at_
      rw [hs] at hs'
      cases hs'
      omega)
     refine ⟨_, _, _, _, _, run_app_room w (ty := ty) (cap := cc) ht hu he yv n news hlen (hfc w rfl) (some ⟨(ρ q).blk, (ρ q).base + o, none⟩) n' hle2 ⟨fun a ha => ?_, fun h => by cases h⟩, a2, a3, .slk q o (n' + n) cc hq hle2, hk⟩
     cases ha
     rw [Addr.add_none, Nat.add_assoc]
     exact a1
    | false =>
     have hgt : cc < n' + n := by
      rw [← Bool.not_eq_true, Nat.ble_eq] at hr2
      omega
     have hk : (Bool.casesOn (motive := fun _ => Bool) (Nat.ble (n' + n) cc) (ifT (Nat.ble (Nat.add o (Nat.mul n' sz)) m) (bK o v (Nat.mul n' sz) cs fun v' => HT.setK (.bk e (Nat.mul (Nat.add n' n) sz) v') h.nx h.t fun t' => h.nx.succK fun n'' => k (.sl h.nx 0 (Nat.add n' n) (.u 0 (Nat.add n' n))) (.mk t' n''))) _) = true := hk
     rw [hr2] at hk
     obtain ⟨hfit, hk⟩ := ifT_le hk
     have hfit : o + n' * sz ≤ m := hfit
     obtain ⟨v', hk, hg1, hg2⟩ := bK_spec hk
     have hg1 : ∀ j, j < n' * sz → v'.get j = v.get (o + j) := hg1
     have hg2 : ∀ (j : Nat) (hj : j < cs.length), v'.get (n' * sz + j) = cs[j] := hg2
     rw [HT.setK_eq, Q.succK_eq] at hk
     obtain ⟨olds, hl, hor, ho1, hoc⟩ := E.cells hg o (n' * sz) hfit
     refine E.grow ht hu he hcs hr h1 hlen hfc (V.range_length _ _ _) hor ho1 (fun w' hw' => run_firstCells_some w' sz n' _ n' cc olds hl (fun j u hu => by rw [Addr.add_none]; exact (cell?_of_heap (by rw [hw']) _ _).trans (hoc j u hu))) hgt hm h.t (fun _ => .inr rfl) (v := v') (fun j hj => ?_) hk
     by_cases hjl : j < n' * sz
     ·rw [hg1 j hjl, List.getElem_append_left (by rw [V.range_length]; exact hjl), V.range_get]
     ·rw [List.length_append, V.range_length] at hj
      rw [List.getElem_append_right (by rw [V.range_length]; omega)]
      have := hg2 (j - n' * sz) (by omega)
      rw [show n' * sz + (j - n' * sz) = j by omega] at this
      rw [this]
      congr 1
      rw [V.range_length]
   ·dsimp only at hk
    cases hr2 : Nat.ble (n' + n) b with
    | true =>
     have hle2 : n' + n ≤ b := Nat.le_of_ble_eq_true hr2
     have hk : (Bool.casesOn (motive := fun _ => Bool) (Nat.ble (n' + n) b) _ (ifT (Nat.ble (Nat.add o (Nat.mul (Nat.add n' n) sz)) m) (V.setL cs v (Nat.add o (Nat.mul n' sz)) fun v' => HT.setK (.bk bty m v') q h.t fun t' => k (.sl q o (Nat.add n' n) (.u d b)) (.mk t' h.nx)))) = true := hk
     rw [hr2] at hk
     obtain ⟨hfit, hk⟩ := ifT_le hk
     have hfit : o + (n' + n) * sz ≤ m := hfit
     rw [Nat.add_mul] at hfit
     obtain ⟨v', hk, hin, hout⟩ := V.setL_spec cs v _ _ hk
     rw [HT.setK_eq] at hk
     obtain ⟨a1, a2, a3⟩ := E.write hg (o + n' * sz) hr h1 (by omega) v' hin hout m (.inl rfl) (by omega) (fun sz' hs => by
      obtain ⟨sz'', hs', hbb, _⟩ := R.at_
      rw [hs] at hs'
      cases hs'
      omega)
     refine ⟨_, _, _, _, _, run_app_room w (ty := ty) (cap := (ρ q).cap - d) ht hu he yv n news hlen (hfc w rfl) (some ⟨(ρ q).blk, (ρ q).base + o, none⟩) n' (by omega) ⟨fun a ha => ?_, fun h => by cases h⟩, a2, a3, .slu q o (n' + n) d b hq hle2 hc hx.sl_cap, hk⟩
     cases ha
     rw [Addr.add_none, Nat.add_assoc]
     exact a1
    | false =>
    have hk : (Bool.casesOn (motive := fun _ => Bool) (Nat.ble (n' + n) b) (ifT (Nat.beq bty e) (ifT (Nat.beq o (Nat.mul d sz)) (ifT (Nat.ble (Nat.add o (Nat.mul n' sz)) m) (bK o v (Nat.mul n' sz) cs fun v' =>
     HT.setK .no q h.t fun t0 => HT.setK (.bk e (Nat.mul (Nat.add n' n) sz) v') h.nx t0 fun t' => h.nx.succK fun n'' => k (.sl h.nx 0 (Nat.add n' n) (.u 0 (Nat.add n' n))) (.mk t' n''))))) _) = true := hk
    rw [hr2] at hk
    obtain ⟨hte, hk⟩ := ifT_eq hk
    obtain ⟨hod, hk⟩ := ifT_eq hk
    have hod : o = d * sz := hod
    subst hte
    obtain ⟨hfit, hk⟩ := ifT_le hk
    have hfit : o + n' * sz ≤ m := hfit
    obtain ⟨v', hk, hg1, hg2⟩ := bK_spec hk
    have hg1 : ∀ j, j < n' * sz → v'.get j = v.get (o + j) := hg1
    have hg2 : ∀ (j : Nat) (hj : j < cs.length), v'.get (n' * sz + j) = cs[j] := hg2
    rw [HT.setK_eq, HT.setK_eq, Q.succK_eq] at hk
    obtain ⟨olds, hl, hor, ho1, hoc⟩ := E.cells hg o (n' * sz) hfit
    have hv : ∀ (j : Nat) (hj : j < (v.range (n' * sz) o ++ cs).length), v'.get j = (v.range (n' * sz) o ++ cs)[j] := fun j hj => by
     by_cases hjl : j < n' * sz
     ·rw [hg1 j hjl, List.getElem_append_left (by rw [V.range_length]; exact hjl), V.range_get]
     ·rw [List.length_append, V.range_length] at hj
      rw [List.getElem_append_right (by rw [V.range_length]; omega)]
      have := hg2 (j - n' * sz) (by omega)
      rw [show n' * sz + (j - n' * sz) = j by omega] at this
      rw [this]
      congr 1
      rw [V.range_length]
    by_cases hroom : n' + n ≤ (ρ q).cap - d
    ·
     obtain ⟨sz', hs', hb1, hb2, hfz⟩ := R.at_
     rw [hcells] at hb2
     have hcapd : d ≤ (ρ q).cap := by omega
     have hmul : ((n' + n) + d) * sz ≤ (ρ q).cap * sz := Nat.mul_le_mul_right _ (by omega)
     rw [Nat.add_mul, Nat.add_mul] at hmul
     have hln := hr.length
     have hcell : ∀ j, j < sz' → (w.cell? ⟨(ρ q).blk, j, none⟩).isSome = true := fun j hj => by
      unfold World.shape? at hs'
      unfold World.cell?
      cases hh : w.heap[(ρ q).blk]? with
      | none => rw [hh] at hs'; cases hs'
      | some ob =>
       rw [hh] at hs'
       cases ob <;> cases hs'
       simp [hj]
     have hst := run_storeCells_cells (P := P) (ρ q).blk ((ρ q).base + o + n' * sz) news 0 w (fun j hj => hcell _ (by omega)) (fun j hj => hfz _ (by omega)) h1
     rw [Nat.add_zero] at hst
     obtain ⟨g1, g2, g3, g4, g5⟩ := World.setCells_other (ρ q).blk news ((ρ q).base + o + n' * sz) w
     have hdrop : ∀ r, (HT.set .no q h.t).get r ≠ .no → r ≠ q ∧ h.live r := fun r hr => by
      by_cases e : r = q
      ·subst e; rw [HT.get_set_same] at hr; exact (hr rfl).elim
      ·rw [HT.get_set_ne _ _ _ _ e] at hr; exact ⟨e, hr⟩
     have hrow : ∀ ty' m' u', OB.bk bty ((n' + n) * sz) v' = .bk ty' m' u' → RowE P { blk := (ρ q).blk, base := (ρ q).base + o, cap := (ρ q).cap - d } (upd ρ h.nx { blk := (ρ q).blk, base := (ρ q).base + o, cap := (ρ q).cap - d }) h.nx.succ.num (w.setCells (ρ q).blk ((ρ q).base + o + n' * sz) news) ty' m' u' := by
      intro ty' m' u' hb
      injection hb with e1 e2 e3
      subst e1 e2 e3
      have hs2 : (w.setCells (ρ q).blk ((ρ q).base + o + n' * sz) news).shape? (ρ q).blk = some (bty, sz') := (World.shape?_setCells _ _ _ _ _).trans hs'
      refine ⟨⟨sz', hs2, ?_, ?_, fun i hi => by rw [World.frozen?_setCells]; exact hfz i hi⟩, fun i hi => ?_⟩
      ·show (ρ q).base + o + (n' + n) * sz ≤ sz'
       rw [Nat.add_mul]
       omega
      ·show (ρ q).base + o + ((ρ q).cap - d) * P.cellsOf bty ≤ sz'
       rw [hcells, Nat.sub_mul]
       omega
      ·have hme : ∀ r, r.num < h.nx.num → upd ρ h.nx { blk := (ρ q).blk, base := (ρ q).base + o, cap := (ρ q).cap - d } r = ρ r := upd_lt ρ h.nx _
       have hN : h.nx.num ≤ h.nx.succ.num := by rw [Q.num_succ]; omega
       rw [Nat.add_mul] at hi
       by_cases hin : i < n' * sz
       ·obtain ⟨y', b1, b2, b3⟩ := R.get (o + i) (by omega)
        refine ⟨y', ?_, ?_, b3⟩
        ·show World.cell? _ ⟨(ρ q).blk, (ρ q).base + o + i, none⟩ = _
         rw [World.cell?_setCells_out _ _ _ _ _ (fun _ _ => by show _ ∨ _; simp only; omega), Nat.add_assoc]
         exact b1
        ·rw [hg1 i hin]; exact b2.mono hme hN
       ·have hj : i - n' * sz < news.length := by omega
        have := World.cell?_setCells_in (ρ q).blk news ((ρ q).base + o + n' * sz) w (fun j hj => hcell _ (by omega)) (i - n' * sz) hj
        refine ⟨_, ?_, ?_, h1 _ (List.getElem_mem hj)⟩
        ·show World.cell? _ ⟨(ρ q).blk, (ρ q).base + o + i, none⟩ = _
         rw [show (ρ q).base + o + i = (ρ q).base + o + n' * sz + (i - n' * sz) by omega]
         exact this
        ·have h3 := hg2 (i - n' * sz) (by omega)
         rw [show n' * sz + (i - n' * sz) = i by omega] at h3
         rw [h3]
         exact (hr.get _ (by omega) hj).mono hme hN
     obtain ⟨a1, a2⟩ := E.lay (w' := w.setCells (ρ q).blk ((ρ q).base + o + n' * sz) news) (HT.set .no q h.t) (HT.get_drop q h.t) (.bk bty ((n' + n) * sz) v') (by simp) { blk := (ρ q).blk, base := (ρ q).base + o, cap := (ρ q).cap - d }
      (by rw [g1]; exact Nat.le_refl _) (E.ge q hlive) (fun r hr => g2 _ (fun e => (hdrop r hr).1 (E.inj r q (hdrop r hr).2 hlive e))) (fun r hr e => (hdrop r hr).1 (E.inj r q (hdrop r hr).2 hlive e))
      (fun c _ hc => g2 c (fun e => hc q hlive e.symm)) (.inl ⟨q, hlive, rfl⟩) g3 g4 g5 hrow (fun es hb => by cases hb)
     refine ⟨_, _, _, _, _, run_app_room w (ty := ty) (cap := (ρ q).cap - d) ht hu he yv n news hlen (hfc w rfl) (some ⟨(ρ q).blk, (ρ q).base + o, none⟩) n' hroom ⟨fun a ha => ?_, fun h => by cases h⟩, a1, a2, ?_, hk⟩
     ·cases ha
      rw [Addr.add_none]
      exact hst
     ·have := Rel.slu (ρ := upd ρ h.nx { blk := (ρ q).blk, base := (ρ q).base + o, cap := (ρ q).cap - d }) (N := h.nx.succ.num) h.nx 0 (n' + n) 0 (n' + n) (by rw [Q.num_succ]; omega) (Nat.le_refl _) (by rw [upd_same]; exact hroom) (by rw [upd_same]; have := hx.sl_cap; show (ρ q).cap - d ≤ _; omega)
      rw [upd_same] at this
      exact this
    ·refine E.grow ht hu he hcs hr h1 hlen hfc (V.range_length _ _ _) hor ho1 (fun w' hw' => run_firstCells_some w' sz n' _ n' _ olds hl (fun j u hu => by rw [Addr.add_none]; exact (cell?_of_heap (by rw [hw']) _ _).trans (hoc j u hu))) (by omega) hm (HT.set .no q h.t) (HT.get_drop q h.t) (v := v') hv hk
end
end Go.Proofs.YtpchmdddkpocgaaGreatDoor
