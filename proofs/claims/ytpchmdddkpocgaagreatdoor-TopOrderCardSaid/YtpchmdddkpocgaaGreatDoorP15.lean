/-
  No claim by itself: one law for a region that draws its order, whose operations read, make memory or call what makes memory (and turn nothing that was there): walked once, in the text's order. Each call's result is known by a predicate that later growth keeps. | a law on drawn regions of which the last operations (a store, an append) wait for all others: all but they are walked once, in the text's order; then they. No condition.
-/
import Derived.Orders
import Derived.Still
import Derived.Below
import Derived.WalkKit
import Derived.Tactics
import Derived.Tactics2
import Derived.StillTail
namespace Go.Proofs.YtpchmdddkpocgaaGreatDoor
set_option linter.unusedVariables false
set_option linter.unusedSimpArgs false
open Go.RowKit
def yieldsUpon (P : Program) (_ : World) (R : Value → World → Prop) : Result Next → Prop
 | .ok (.value v) w' => R v w'
 | .ok (.enter f args) w' => Calls P f args w' (fun e w'' => ∃ v, e = .returned v ∧ R v w'')
 | _ => False
def depB (ops : Array Oper) (k j : Nat) : Bool :=
 match ops[k]? with
 | some o => o.after.toList.any fun e => Region.binds .any e && e.on == j
 | none => false
def regionOk (ops : Array Oper) : Bool :=
 Region.noSelect ops &&
 (List.range ops.size).all fun i =>
  match ops[i]? with
  | none => true
  | some o =>
   (o.after.toList.all fun e => !Region.binds .any e || decide (e.on < i)) &&
   (List.range ops.size).all fun j =>
    match ops[j]? with
    | none => true
    | some oj =>
     match oj.dst with
     | none => true
     | some d => (i == j || o.dst != some d) && (!(o.looksAt ops).contains d || (decide (j < i) && depB ops i j) || (decide (i < j) && depB ops j i))
section
variable {P : Program} (ops : Array Oper) (Φ : Nat → Option (Value → World → Prop)) (w0 : World) (Q : Exit → Act → World → Prop) (vals : Nat → Value)
def wpSW (P : Program) : List Oper → Nat → Act → List (Nat × (Value → World → Prop)) → Prop
 | [], _, a, H => ∀ w, Below w0.heap.size w0 w → (∀ p ∈ H, p.2 (vals p.1) w) → Q .normal a w
 | o :: rest, k, a, H =>
  if Region.wanted o (yielded ops a.tmps) then
   match Φ k with
   | none => ∃ c, (∀ w, Below w0.heap.size w0 w → (∀ p ∈ H, depB ops k p.1 = true → p.2 (vals p.1) w) → (execOp a.eval o).run P w = .ok (.value c) w) ∧ wpSW P rest (k + 1) (a.put o.dst c) H
   | some φ => (∀ w, Below w0.heap.size w0 w → (∀ p ∈ H, depB ops k p.1 = true → p.2 (vals p.1) w) → yieldsUpon P w (fun v w' => φ v w' ∧ Below w.heap.size w w') ((execOp a.eval o).run P w)) ∧
     wpSW P rest (k + 1) (a.put o.dst (vals k)) ((k, φ) :: H)
  else wpSW P rest (k + 1) (a.put o.dst undef) H
end
section
variable {P : Program} {ops : Array Oper} {Φ : Nat → Option (Value → World → Prop)} {w0 : World} {Q : Exit → Act → World → Prop} {a0 : Act}
def dstOf (ops : Array Oper) (j : Nat) : Option Tmp := (ops[j]?).bind (·.dst)
def actTo (ops : Array Oper) (a0 : Act) (cs : Nat → Value) : Nat → Act
 | 0 => a0
 | k + 1 => (actTo ops a0 cs k).put (dstOf ops k) (cs k)
def wtd (ops : Array Oper) (a0 : Act) (cs : Nat → Value) (k : Nat) : Bool :=
 match ops[k]? with
 | some o => Region.wanted o (yielded ops (actTo ops a0 cs k).tmps)
 | none => false
def hypTo (ops : Array Oper) (Φ : Nat → Option (Value → World → Prop)) (a0 : Act) (cs : Nat → Value) (k : Nat) (w : World) : Prop :=
 ∀ j φ, j < k → wtd ops a0 cs j = true → Φ j = some φ → depB ops k j = true → φ (cs j) w
structure SeqV (P : Program) (ops : Array Oper) (Φ : Nat → Option (Value → World → Prop)) (w0 : World) (Q : Exit → Act → World → Prop) (a0 : Act) (vals cs : Nat → Value) : Prop where
 pure : ∀ k o, ops[k]? = some o → wtd ops a0 cs k = true → Φ k = none → ∀ w, Below w0.heap.size w0 w → hypTo ops Φ a0 cs k w → (execOp (actTo ops a0 cs k).eval o).run P w = .ok (.value (cs k)) w
 pred : ∀ k o φ, ops[k]? = some o → wtd ops a0 cs k = true → Φ k = some φ → cs k = vals k ∧ ∀ w, Below w0.heap.size w0 w → hypTo ops Φ a0 cs k w →
  yieldsUpon P w (fun v w' => φ v w' ∧ Below w.heap.size w w') ((execOp (actTo ops a0 cs k).eval o).run P w)
 skip : ∀ k o, ops[k]? = some o → wtd ops a0 cs k = false → cs k = undef
 done : ∀ w, Below w0.heap.size w0 w → (∀ j φ, j < ops.size → wtd ops a0 cs j = true → Φ j = some φ → φ (cs j) w) → Q .normal (actTo ops a0 cs ops.size) w
theorem actTo_congr {cs cs' : Nat → Value} (k : Nat) (h : ∀ j, j < k → cs j = cs' j) : actTo ops a0 cs k = actTo ops a0 cs' k := by
 induction k with
 | zero => rfl
 | succ k ih =>
  show (actTo ops a0 cs k).put _ _ = (actTo ops a0 cs' k).put _ _
  rw [ih (fun j hj => h j (by omega)), h k (by omega)]
theorem wtd_congr {cs cs' : Nat → Value} (k : Nat) (h : ∀ j, j < k → cs j = cs' j) : wtd ops a0 cs k = wtd ops a0 cs' k := by
 unfold wtd
 rw [actTo_congr k h]
theorem seq_of_walk {vals : Nat → Value} : ∀ (l : List Oper) (k : Nat) (cs0 : Nat → Value) (H : List (Nat × (Value → World → Prop))), (∀ j, l[j]? = ops[k + j]?) → k + l.length = ops.size →
  wpSW ops Φ w0 Q vals P l k (actTo ops a0 cs0 k) H →
  (∀ p, p ∈ H ↔ (p.1 < k ∧ wtd ops a0 cs0 p.1 = true ∧ Φ p.1 = some p.2)) →
  (∀ p ∈ H, cs0 p.1 = vals p.1) →
  ∃ cs, (∀ j, j < k → cs j = cs0 j) ∧
   (∀ j o, k ≤ j → ops[j]? = some o → wtd ops a0 cs j = true → Φ j = none → ∀ w, Below w0.heap.size w0 w → hypTo ops Φ a0 cs j w → (execOp (actTo ops a0 cs j).eval o).run P w = .ok (.value (cs j)) w) ∧
   (∀ j o φ, k ≤ j → ops[j]? = some o → wtd ops a0 cs j = true → Φ j = some φ → cs j = vals j ∧ ∀ w, Below w0.heap.size w0 w → hypTo ops Φ a0 cs j w →
    yieldsUpon P w (fun v w' => φ v w' ∧ Below w.heap.size w w') ((execOp (actTo ops a0 cs j).eval o).run P w)) ∧
   (∀ j o, k ≤ j → ops[j]? = some o → wtd ops a0 cs j = false → cs j = undef) ∧
   (∀ w, Below w0.heap.size w0 w → (∀ j φ, j < ops.size → wtd ops a0 cs j = true → Φ j = some φ → φ (cs j) w) → Q .normal (actTo ops a0 cs ops.size) w) := by
 intro l
 induction l with
 | nil =>
  intro k cs0 H hl hk h hH hv
  have hk' : k = ops.size := by simpa using hk
  subst hk'
  refine ⟨cs0, fun _ _ => rfl, ?_, ?_, ?_, ?_⟩
  ·intro j o hj ho; exact absurd (Array.getElem?_eq_some_iff.1 ho).1 (by omega)
  ·intro j o φ hj ho; exact absurd (Array.getElem?_eq_some_iff.1 ho).1 (by omega)
  ·intro j o hj ho; exact absurd (Array.getElem?_eq_some_iff.1 ho).1 (by omega)
  ·intro w hw hf
   refine h w hw fun p hp => ?_
   obtain ⟨h1, h2, h3⟩ := (hH p).1 hp
   rw [← hv p hp]
   exact hf p.1 p.2 h1 h2 h3
 | cons o rest ih =>
  intro k cs0 H hl hk h hH hv
  have ho : ops[k]? = some o := by have := hl 0; simpa using this.symm
  have hl' : ∀ j, rest[j]? = ops[k + 1 + j]? := fun j => by
   have := hl (j + 1)
   rw [List.getElem?_cons_succ] at this
   rw [this]
   congr 1
   omega
  have hk' : k + 1 + rest.length = ops.size := by simp at hk; omega
  have hdst : o.dst = dstOf ops k := by simp [dstOf, ho]
  have put : ∀ c, (actTo ops a0 cs0 k).put o.dst c = actTo ops a0 (fun j => if j = k then c else cs0 j) (k + 1) := fun c => by
   show _ = (actTo ops a0 _ k).put _ (if k = k then c else cs0 k)
   rw [actTo_congr (cs' := cs0) k (fun j hj => if_neg (by omega)), hdst, if_pos rfl]
  have wold : ∀ c j, j ≤ k → wtd ops a0 (fun j => if j = k then c else cs0 j) j = wtd ops a0 cs0 j := fun c j hj =>
   wtd_congr j (fun i hi => if_neg (by omega))
  have wk : wtd ops a0 cs0 k = Region.wanted o (yielded ops (actTo ops a0 cs0 k).tmps) := by unfold wtd; rw [ho]
  have lift : ∀ (cs : Nat → Value) (c : Value), (∀ j, j < k + 1 → cs j = (fun j => if j = k then c else cs0 j) j) → (∀ j, j < k → cs j = cs0 j) ∧ cs k = c := fun cs c hc =>
   ⟨fun j hj => by rw [hc j (by omega)]; exact if_neg (by omega), by rw [hc k (by omega)]; exact if_pos rfl⟩
  simp only [wpSW] at h
  by_cases hw : Region.wanted o (yielded ops (actTo ops a0 cs0 k).tmps) = true
  ·rw [if_pos hw] at h
   cases hφ : Φ k with
   | none =>
    rw [hφ] at h
    obtain ⟨c, hc, h⟩ := h
    rw [put c] at h
    obtain ⟨cs, e0, e1, e2, e3, e4⟩ := ih (k + 1) _ H hl' hk' h (fun p => by
     rw [hH p]
     constructor
     ·rintro ⟨h1, h2, h3⟩; exact ⟨by omega, by rw [wold c p.1 (by omega)]; exact h2, h3⟩
     ·rintro ⟨h1, h2, h3⟩
      have hne : p.1 ≠ k := by intro e; rw [e, hφ] at h3; cases h3
      exact ⟨by omega, by rw [← wold c p.1 (by omega)]; exact h2, h3⟩) (fun p hp => by
     have := ((hH p).1 hp).1
     rw [if_neg (by omega)]
     exact hv p hp)
    obtain ⟨f0, fk⟩ := lift cs c e0
    refine ⟨cs, f0, ?_, ?_, ?_, e4⟩
    ·intro j o' hj ho' hwj hn w hwB hyp
     rcases Nat.eq_or_lt_of_le hj with rfl | hlt
     ·obtain rfl : o = o' := by rw [ho] at ho'; exact Option.some.inj ho'
      rw [actTo_congr (cs' := cs0) k f0, fk]
      refine hc w hwB fun p hp hd => ?_
      obtain ⟨h1, h2, h3⟩ := (hH p).1 hp
      have := hyp p.1 p.2 h1 (by rw [wtd_congr p.1 (fun i hi => f0 i (by omega))]; exact h2) h3 hd
      rw [f0 p.1 h1, hv p hp] at this
      exact this
     ·exact e1 j o' hlt ho' hwj hn w hwB hyp
    ·intro j o' φ hj ho' hwj hn
     rcases Nat.eq_or_lt_of_le hj with rfl | hlt
     ·rw [hφ] at hn; cases hn
     ·exact e2 j o' φ hlt ho' hwj hn
    ·intro j o' hj ho' hwj
     rcases Nat.eq_or_lt_of_le hj with rfl | hlt
     ·rw [wtd_congr k f0, wk, hw] at hwj; cases hwj
     ·exact e3 j o' hlt ho' hwj
   | some φ =>
    rw [hφ] at h
    obtain ⟨hc, h⟩ := h
    rw [put (vals k)] at h
    obtain ⟨cs, e0, e1, e2, e3, e4⟩ := ih (k + 1) _ ((k, φ) :: H) hl' hk' h (fun p => by
     rw [List.mem_cons, hH p]
     constructor
     ·rintro (rfl | ⟨h1, h2, h3⟩)
      ·exact ⟨by simp, by rw [wold _ k (Nat.le_refl _), wk]; exact hw, hφ⟩
      ·exact ⟨by omega, by rw [wold _ p.1 (by omega)]; exact h2, h3⟩
     ·rintro ⟨h1, h2, h3⟩
      by_cases hpk : p.1 = k
      ·left
       rw [hpk, hφ] at h3
       exact Prod.ext hpk (Option.some.inj h3).symm
      ·exact .inr ⟨by omega, by rw [← wold (vals k) p.1 (by omega)]; exact h2, h3⟩) (fun p hp => by
     rcases List.mem_cons.1 hp with rfl | hp
     ·exact if_pos rfl
     ·have := ((hH p).1 hp).1
      rw [if_neg (by omega)]
      exact hv p hp)
    obtain ⟨f0, fk⟩ := lift cs (vals k) e0
    refine ⟨cs, f0, ?_, ?_, ?_, e4⟩
    ·intro j o' hj ho' hwj hn w hwB hyp
     rcases Nat.eq_or_lt_of_le hj with rfl | hlt
     ·rw [hφ] at hn; cases hn
     ·exact e1 j o' hlt ho' hwj hn w hwB hyp
    ·intro j o' φ' hj ho' hwj hn
     rcases Nat.eq_or_lt_of_le hj with rfl | hlt
     ·obtain rfl : o = o' := by rw [ho] at ho'; exact Option.some.inj ho'
      obtain rfl : φ = φ' := by rw [hφ] at hn; exact Option.some.inj hn
      refine ⟨fk, fun w hwB hyp => ?_⟩
      rw [actTo_congr (cs' := cs0) k f0]
      refine hc w hwB fun p hp hd => ?_
      obtain ⟨h1, h2, h3⟩ := (hH p).1 hp
      have := hyp p.1 p.2 h1 (by rw [wtd_congr p.1 (fun i hi => f0 i (by omega))]; exact h2) h3 hd
      rw [f0 p.1 h1, hv p hp] at this
      exact this
     ·exact e2 j o' φ' hlt ho' hwj hn
    ·intro j o' hj ho' hwj
     rcases Nat.eq_or_lt_of_le hj with rfl | hlt
     ·rw [wtd_congr k f0, wk, hw] at hwj; cases hwj
     ·exact e3 j o' hlt ho' hwj
  ·rw [if_neg hw] at h
   rw [put undef] at h
   obtain ⟨cs, e0, e1, e2, e3, e4⟩ := ih (k + 1) _ H hl' hk' h (fun p => by
    rw [hH p]
    constructor
    ·rintro ⟨h1, h2, h3⟩; exact ⟨by omega, by rw [wold undef p.1 (by omega)]; exact h2, h3⟩
    ·rintro ⟨h1, h2, h3⟩
     have hne : p.1 ≠ k := by
      intro e
      rw [e, wold undef k (Nat.le_refl _), wk] at h2
      exact hw h2
     exact ⟨by omega, by rw [← wold undef p.1 (by omega)]; exact h2, h3⟩) (fun p hp => by
    have := ((hH p).1 hp).1
    rw [if_neg (by omega)]
    exact hv p hp)
   obtain ⟨f0, fk⟩ := lift cs undef e0
   have hwf : wtd ops a0 cs k = false := by
    rw [wtd_congr k f0, wk]
    simpa using hw
   refine ⟨cs, f0, ?_, ?_, ?_, e4⟩
   ·intro j o' hj ho' hwj hn w hwB hyp
    rcases Nat.eq_or_lt_of_le hj with rfl | hlt
    ·rw [hwf] at hwj; cases hwj
    ·exact e1 j o' hlt ho' hwj hn w hwB hyp
   ·intro j o' φ' hj ho' hwj hn
    rcases Nat.eq_or_lt_of_le hj with rfl | hlt
    ·rw [hwf] at hwj; cases hwj
    ·exact e2 j o' φ' hlt ho' hwj hn
   ·intro j o' hj ho' hwj
    rcases Nat.eq_or_lt_of_le hj with rfl | hlt
    ·exact fk
    ·exact e3 j o' hlt ho' hwj
theorem seqV_of_walk {vals : Nat → Value} (h : wpSW ops Φ w0 Q vals P ops.toList 0 a0 []) : ∃ cs, SeqV P ops Φ w0 Q a0 vals cs := by
 obtain ⟨cs, _, e1, e2, e3, e4⟩ := seq_of_walk (a0 := a0) ops.toList 0 (fun _ => undef) [] (fun j => by simp) (by simp) h (by simp) (by simp)
 exact ⟨cs, fun k o ho => e1 k o (Nat.zero_le _) ho, fun k o φ ho => e2 k o φ (Nat.zero_le _) ho, fun k o ho => e3 k o (Nat.zero_le _) ho, e4⟩
structure RForm (ops : Array Oper) : Prop where
 sel : Region.noSelect ops = true
 back : ∀ i o, ops[i]? = some o → ∀ e ∈ o.after, Region.binds .any e = true → e.on < i
 one : ∀ i j d, dstOf ops i = some d → dstOf ops j = some d → i = j
 look : ∀ i o j d, ops[i]? = some o → dstOf ops j = some d → d ∈ o.looksAt ops → (j < i ∧ depB ops i j = true) ∨ (i < j ∧ depB ops j i = true)
theorem rform_of_ok (h : regionOk ops = true) : RForm ops := by
 unfold regionOk at h
 rw [Bool.and_eq_true, List.all_eq_true] at h
 obtain ⟨hs, h⟩ := h
 have key : ∀ i o, ops[i]? = some o → (o.after.toList.all fun e => !Region.binds .any e || decide (e.on < i)) = true ∧
   ∀ j oj d, ops[j]? = some oj → oj.dst = some d → ((i == j || o.dst != some d) && (!(o.looksAt ops).contains d || (decide (j < i) && depB ops i j) || (decide (i < j) && depB ops j i))) = true := by
  intro i o ho
  have hi := (Array.getElem?_eq_some_iff.1 ho).1
  have := h i (List.mem_range.2 hi)
  rw [ho, Bool.and_eq_true, List.all_eq_true (l := List.range ops.size)] at this
  refine ⟨this.1, fun j oj d hj hd => ?_⟩
  have h2 := this.2 j (List.mem_range.2 (Array.getElem?_eq_some_iff.1 hj).1)
  rw [hj] at h2
  simp only [hd] at h2
  exact h2
 have get : ∀ j d, dstOf ops j = some d → ∃ oj, ops[j]? = some oj ∧ oj.dst = some d := fun j d hd => by
  unfold dstOf at hd
  cases hj : ops[j]? with
  | none => rw [hj] at hd; cases hd
  | some oj => rw [hj] at hd; exact ⟨oj, rfl, hd⟩
 refine ⟨hs, fun i o ho e he hb => ?_, fun i j d hi hj => ?_, fun i o j d ho hj hl => ?_⟩
 ·have := List.all_eq_true.1 (key i o ho).1 e (by simpa using he)
  simpa [hb] using this
 ·obtain ⟨oi, hoi, hdi⟩ := get i d hi
  obtain ⟨oj, hoj, hdj⟩ := get j d hj
  have := (key i oi hoi).2 j oj d hoj hdj
  simp [hdi] at this
  exact this.1
 ·obtain ⟨oj, hoj, hdj⟩ := get j d hj
  have := (key i o ho).2 j oj d hoj hdj
  have h2 := (Bool.and_eq_true _ _ ▸ this).2
  rw [show (o.looksAt ops).contains d = true from List.contains_iff_mem.2 hl] at h2
  simp only [Bool.not_true, Bool.false_or, Bool.or_eq_true, Bool.and_eq_true, decide_eq_true_eq] at h2
  exact h2
theorem actTo_defers (cs : Nat → Value) (k : Nat) : (actTo ops a0 cs k).defers = a0.defers := by
 induction k with
 | zero => rfl
 | succ k ih =>
  show ((actTo ops a0 cs k).put _ _).defers = _
  cases dstOf ops k <;> exact ih
theorem put_tmps (a : Act) (x : Option Tmp) (v : Value) (s : Nat) : (a.put x v).tmps[s]? = if x = some s then (if s < a.tmps.size then some v else none) else a.tmps[s]? := by
 cases x with
 | none => simp [Act.put]
 | some d =>
  simp only [Act.put, Option.some.injEq, Array.getElem?_setIfInBounds]
  by_cases h : d = s
  ·subst h; simp
  ·simp [h]
theorem put_size (a : Act) (x : Option Tmp) (v : Value) : (a.put x v).tmps.size = a.tmps.size := by cases x <;> simp [Act.put]
theorem actTo_size (cs : Nat → Value) (k : Nat) : (actTo ops a0 cs k).tmps.size = a0.tmps.size := by
 induction k with
 | zero => rfl
 | succ k ih => show ((actTo ops a0 cs k).put _ _).tmps.size = _; rw [put_size, ih]
theorem actTo_at (F : RForm ops) (cs : Nat → Value) (k j d : Nat) (hj : j < k) (hd : dstOf ops j = some d) : (actTo ops a0 cs k).tmps[d]? = if d < a0.tmps.size then some (cs j) else none := by
 induction k with
 | zero => omega
 | succ k ih =>
  show ((actTo ops a0 cs k).put _ _).tmps[d]? = _
  rw [put_tmps, actTo_size]
  by_cases hk : j = k
  ·subst hk; rw [if_pos hd]
  ·rw [if_neg (fun h => hk (F.one j k d hd h)), ih (by omega)]
theorem actTo_old (cs : Nat → Value) (k s : Nat) (h : ∀ j, j < k → dstOf ops j ≠ some s) : (actTo ops a0 cs k).tmps[s]? = a0.tmps[s]? := by
 induction k with
 | zero => rfl
 | succ k ih =>
  show ((actTo ops a0 cs k).put _ _).tmps[s]? = _
  rw [put_tmps, if_neg (h k (by omega)), ih (fun j hj => h j (by omega))]
structure actL (ops : Array Oper) (a0 : Act) (listed : Array Bool) (cs : Nat → Value) (a : Act) : Prop where
 defers : a.defers = a0.defers
 size : a.tmps.size = a0.tmps.size
 at_ : ∀ j d, listed.getD j false = true → dstOf ops j = some d → a.tmps[d]? = if d < a0.tmps.size then some (cs j) else none
 old : ∀ s, (∀ j, listed.getD j false = true → dstOf ops j ≠ some s) → a.tmps[s]? = a0.tmps[s]?
theorem actL_put {listed : Array Bool} {cs : Nat → Value} {a : Act} (F : RForm ops) (h : actL ops a0 listed cs a) (i : Nat) (hi : i < listed.size) (hn : listed.getD i false = false) (o : Oper) (ho : ops[i]? = some o) (v : Value) (hv : cs i = v) :
  actL ops a0 (listed.setIfInBounds i true) cs (a.put o.dst v) := by
 have hd : o.dst = dstOf ops i := by simp [dstOf, ho]
 have hset : ∀ j, (listed.setIfInBounds i true).getD j false = true ↔ j = i ∨ listed.getD j false = true := fun j => by
  by_cases hj : i = j
  ·subst hj; simp [hi]
  ·rw [getD_set_ne false hj]; simp [Ne.symm hj]
 subst hv
 refine ⟨by rw [show (a.put o.dst (cs i)).defers = a.defers by cases o.dst <;> rfl]; exact h.defers, by rw [put_size]; exact h.size, fun j d hj hdj => ?_, fun s hs => ?_⟩
 ·rw [put_tmps, hd, h.size]
  by_cases hji : j = i
  ·subst hji; rw [if_pos hdj]
  ·rw [if_neg (fun e => hji (F.one j i d hdj e))]
   exact h.at_ j d (((hset j).1 hj).resolve_left hji) hdj
 ·rw [put_tmps, hd, if_neg (hs i ((hset i).2 (.inl rfl)))]
  exact h.old s fun j hj => hs j ((hset j).2 (.inr hj))
theorem depB_iff {k j : Nat} : depB ops k j = true ↔ ∃ o, ops[k]? = some o ∧ ∃ e ∈ o.after, Region.binds .any e = true ∧ e.on = j := by
 unfold depB
 cases hk : ops[k]? with
 | none => simp
 | some o => simp only [Option.some.injEq, exists_eq_left', List.any_eq_true, Bool.and_eq_true, beq_iff_eq, Array.mem_toList_iff]
theorem execOp_same {a b : Act} (F : RForm ops) {i : Nat} {o : Oper} (ho : ops[i]? = some o) (h : ∀ d, d ∈ o.looksAt ops → a.tmps[d]? = b.tmps[d]?) :
  execOp a.eval o = execOp b.eval o ∧ Region.wanted o (yielded ops a.tmps) = Region.wanted o (yielded ops b.tmps) := by
 refine ⟨execOp_congr o (fun cs b => Region.noSelect_spec F.sel i o cs b ho) fun x hx => ?_, ?_⟩
 ·cases x with
  | tmp t =>
   have := h t (List.mem_append_left _ (List.mem_filterMap.2 ⟨.tmp t, by simpa using hx, rfl⟩))
   simp [Act.eval, this]
  | _ => rfl
 ·unfold Region.wanted
  cases hg : o.guard with
  | none => rfl
  | some gw =>
   obtain ⟨g, want⟩ := gw
   have : yielded ops a.tmps g = yielded ops b.tmps g := by
    unfold yielded
    cases ht : (ops[g]?).bind (·.dst) with
    | none => rfl
    | some t =>
     have := h t (by simp [Oper.looksAt, hg, ht])
     simp [this]
   simp only [this]
theorem look_seq (F : RForm ops) {i : Nat} {o : Oper} (ho : ops[i]? = some o) {listed : Array Bool} {cs : Nat → Value} {a : Act} (h : actL ops a0 listed cs a)
  (hdep : ∀ j, depB ops i j = true → listed.getD j false = true) (hun : ∀ j, depB ops j i = true → listed.getD j false = false) :
  ∀ d, d ∈ o.looksAt ops → a.tmps[d]? = (actTo ops a0 cs i).tmps[d]? := by
 intro d hd
 by_cases hx : ∃ j, dstOf ops j = some d
 ·obtain ⟨j, hj⟩ := hx
  rcases F.look i o j d ho hj hd with ⟨h1, h2⟩ | ⟨h1, h2⟩
  ·rw [h.at_ j d (hdep j h2) hj, actTo_at F cs i j d h1 hj]
  ·have x1 : a.tmps[d]? = a0.tmps[d]? := h.old d fun k hk e => by
    have := F.one k j d e hj
    subst this
    rw [hun k h2] at hk
    cases hk
   have x2 : (actTo ops a0 cs i).tmps[d]? = a0.tmps[d]? := actTo_old cs i d fun k hk e => by
    have := F.one k j d e hj
    omega
   rw [x1, x2]
 ·rw [h.old d fun j _ e => hx ⟨j, e⟩, actTo_old cs i d fun j _ e => hx ⟨j, e⟩]
theorem look_two (F : RForm ops) {i : Nat} {o : Oper} (ho : ops[i]? = some o) {cs cs' : Nat → Value} (h : ∀ j, j < i → depB ops i j = true → cs j = cs' j) :
  ∀ d, d ∈ o.looksAt ops → (actTo ops a0 cs i).tmps[d]? = (actTo ops a0 cs' i).tmps[d]? := by
 intro d hd
 by_cases hx : ∃ j, dstOf ops j = some d
 ·obtain ⟨j, hj⟩ := hx
  rcases F.look i o j d ho hj hd with ⟨h1, h2⟩ | ⟨h1, h2⟩
  ·rw [actTo_at F cs i j d h1 hj, actTo_at F cs' i j d h1 hj, h j h1 h2]
  ·rw [actTo_old cs i d fun k hk e => by have := F.one k j d e hj; omega, actTo_old cs' i d fun k hk e => by have := F.one k j d e hj; omega]
 ·rw [actTo_old cs i d fun j _ e => hx ⟨j, e⟩, actTo_old cs' i d fun j _ e => hx ⟨j, e⟩]
theorem wtd_eq {i : Nat} {o : Oper} (ho : ops[i]? = some o) (cs : Nat → Value) : wtd ops a0 cs i = Region.wanted o (yielded ops (actTo ops a0 cs i).tmps) := by unfold wtd; rw [ho]
theorem seq_agree (F : RForm ops) {vals vals' cs cs' : Nat → Value} (S : SeqV P ops Φ w0 Q a0 vals cs) (S' : SeqV P ops Φ w0 Q a0 vals' cs') {listed : Array Bool} {w : World} (hw : Below w0.heap.size w0 w)
  (hcl : ∀ j k, listed.getD j false = true → depB ops j k = true → listed.getD k false = true)
  (hv : ∀ j, listed.getD j false = true → vals j = vals' j)
  (hφ : ∀ j φ, listed.getD j false = true → wtd ops a0 cs j = true → Φ j = some φ → φ (cs j) w) :
  ∀ n j, j < n → listed.getD j false = true → j < ops.size → cs j = cs' j ∧ wtd ops a0 cs j = wtd ops a0 cs' j := by
 intro n
 induction n with
 | zero => intro j hj; omega
 | succ n ih =>
  intro j hj hl hs
  have ho : ops[j]? = some ops[j] := Array.getElem?_eq_getElem hs
  have hdl : ∀ k, k < j → depB ops j k = true → cs k = cs' k := fun k hk hd => (ih k (by omega) (hcl j k hl hd) (by omega)).1
  obtain ⟨e1, e2⟩ := execOp_same F ho (look_two (a0 := a0) F ho hdl)
  have hwt : wtd ops a0 cs j = wtd ops a0 cs' j := by rw [wtd_eq ho, wtd_eq ho, e2]
  refine ⟨?_, hwt⟩
  have hyp : hypTo ops Φ a0 cs j w := fun k φ hk hwk hf hd => hφ k φ (hcl j k hl hd) hwk hf
  have hyp' : hypTo ops Φ a0 cs' j w := fun k φ hk hwk hf hd => by
   obtain ⟨g1, g2⟩ := ih k (by omega) (hcl j k hl hd) (by omega)
   rw [← g1]
   exact hφ k φ (hcl j k hl hd) (by rw [g2]; exact hwk) hf
  by_cases hwj : wtd ops a0 cs j = true
  ·cases hf : Φ j with
   | none =>
    have r1 := S.pure j _ ho hwj hf w hw hyp
    have r2 := S'.pure j _ ho (hwt ▸ hwj) hf w hw hyp'
    rw [e1, r2] at r1
    injection r1 with r1 _
    injection r1 with r1
    exact r1.symm
   | some φ => rw [(S.pred j _ φ ho hwj hf).1, (S'.pred j _ φ ho (hwt ▸ hwj) hf).1, hv j hl]
  ·have hwj : wtd ops a0 cs j = false := by simpa using hwj
   rw [S.skip j _ ho hwj, S'.skip j _ ho (hwt ▸ hwj)]
theorem any_of_seq (F : RForm ops) (hst : ∀ k φ, Φ k = some φ → ∀ v w w', φ v w → Below w.heap.size w w' → φ v w') (H : ∀ vals, ∃ cs, SeqV P ops Φ w0 Q a0 vals cs) :
  ∀ (fuel : Nat) (un : List Nat) (listed : Array Bool) (a : Act) (w : World) (vals cs : Nat → Value), un.length = fuel → un.Nodup → listed.size = ops.size →
   (∀ j, j < ops.size → (listed.getD j false = false ↔ j ∈ un)) → (∀ j k, listed.getD j false = true → depB ops j k = true → listed.getD k false = true) →
   Below w0.heap.size w0 w → SeqV P ops Φ w0 Q a0 vals cs → (∀ j φ, listed.getD j false = true → wtd ops a0 cs j = true → Φ j = some φ → φ (cs j) w) → actL ops a0 listed cs a →
   wpAny P .any ops Q fuel listed a w := by
 have final : ∀ (listed : Array Bool) (a : Act) (w : World) (vals cs : Nat → Value), (∀ j, j < ops.size → listed.getD j false = true) →
   Below w0.heap.size w0 w → SeqV P ops Φ w0 Q a0 vals cs → (∀ j φ, listed.getD j false = true → wtd ops a0 cs j = true → Φ j = some φ → φ (cs j) w) → actL ops a0 listed cs a → Q .normal a w := by
  intro listed a w vals cs hall hw S hφ hA
  have : a = actTo ops a0 cs ops.size := by
   obtain ⟨t, d⟩ := a
   have h1 : t = (actTo ops a0 cs ops.size).tmps := by
    apply Array.ext_getElem?
    intro s
    by_cases hx : ∃ j, dstOf ops j = some s
    ·obtain ⟨j, hj⟩ := hx
     have hjs : j < ops.size := by
      unfold dstOf at hj
      cases ho : ops[j]? with
      | none => rw [ho] at hj; cases hj
      | some o => exact (Array.getElem?_eq_some_iff.1 ho).1
     rw [hA.at_ j s (hall j hjs) hj, actTo_at F cs _ j s hjs hj]
    ·rw [hA.old s fun j _ e => hx ⟨j, e⟩, actTo_old cs _ s fun j _ e => hx ⟨j, e⟩]
   have h2 : d = (actTo ops a0 cs ops.size).defers := by rw [actTo_defers]; exact hA.defers
   rw [h1, h2]
  rw [this]
  exact S.done w hw fun j φ hj hwj hf => hφ j φ (hall j hj) hwj hf
 have noReady : ∀ listed : Array Bool, listed.size = ops.size → Region.ready .any ops listed = [] → ∀ j, j < ops.size → listed.getD j false = true := by
  intro listed hsz hr
  have : ∀ n j, j < n → j < ops.size → listed.getD j false = true := by
   intro n
   induction n with
   | zero => intro j hj; omega
   | succ n ih =>
    intro j hj hs
    by_cases hl : listed.getD j false = true
    ·exact hl
    ·exfalso
     have ho : ops[j]? = some ops[j] := Array.getElem?_eq_getElem hs
     have : j ∈ Region.ready .any ops listed := by
      rw [mem_ready]
      refine ⟨?_, _, ho, fun e he hb => ?_⟩
      ·have hl' : listed.getD j false = false := by simpa using hl
       have hjl : j < listed.size := by omega
       simp [hjl] at hl' ⊢
       exact hl'
      ·have := F.back j _ ho e he hb
       exact ih e.on (by omega) (by omega)
     rw [hr] at this
     cases this
  exact fun j hj => this (j + 1) j (Nat.lt_succ_self j) hj
 intro fuel
 induction fuel with
 | zero =>
  intro un listed a w vals cs hu hnd hsz hun hcl hw S hφ hA
  have hun0 : un = [] := List.eq_nil_of_length_eq_zero hu
  subst hun0
  have hall : ∀ j, j < ops.size → listed.getD j false = true := fun j hj => by
   cases hl : listed.getD j false with
   | true => rfl
   | false => exact absurd ((hun j hj).1 hl) (by simp)
  refine ⟨?_, final listed a w vals cs hall hw S hφ hA⟩
  apply List.eq_nil_iff_forall_not_mem.2
  intro j hj
  rw [mem_ready] at hj
  obtain ⟨h0, o, ho, _⟩ := hj
  have hjs := (Array.getElem?_eq_some_iff.1 ho).1
  have h1 := hall j hjs
  have hjl : j < listed.size := by omega
  simp [hjl] at h0 h1
  rw [h0] at h1
  cases h1
 | succ fuel ih =>
  intro un listed a w vals cs hu hnd hsz hun hcl hw S hφ hA
  refine ⟨fun hr => final listed a w vals cs (noReady listed hsz hr) hw S hφ hA, fun i hi => ?_⟩
  rw [mem_ready] at hi
  obtain ⟨h0, o, ho, hdeps⟩ := hi
  have his := (Array.getElem?_eq_some_iff.1 ho).1
  have hil : i < listed.size := by omega
  have hin : listed.getD i false = false := by simp [hil] at h0 ⊢; exact h0
  have hdep : ∀ j, depB ops i j = true → listed.getD j false = true := fun j hj => by
   obtain ⟨o', ho', e, he, hb, hon⟩ := depB_iff.1 hj
   obtain rfl : o = o' := by rw [ho] at ho'; exact Option.some.inj ho'
   rw [← hon]
   exact hdeps e he hb
  have hunb : ∀ j, depB ops j i = true → listed.getD j false = false := fun j hj => by
   cases hl : listed.getD j false with
   | false => rfl
   | true => have := hcl j i hl hj; rw [hin] at this; cases this
  obtain ⟨e1, e2⟩ := execOp_same F ho (look_seq F ho hA hdep hunb)
  have hset : ∀ j, (listed.setIfInBounds i true).getD j false = true ↔ j = i ∨ listed.getD j false = true := fun j => by
   by_cases hj : i = j
   ·subst hj; simp [hil]
   ·rw [getD_set_ne false hj]; simp [Ne.symm hj]
  have hiu : i ∈ un := (hun i his).1 hin
  have un1 : (un.erase i).length = fuel := by rw [List.length_erase_of_mem hiu, hu]; rfl
  have un2 : (un.erase i).Nodup := hnd.erase i
  have un3 : ∀ j, j < ops.size → ((listed.setIfInBounds i true).getD j false = false ↔ j ∈ un.erase i) := fun j hj => by
   rw [hnd.mem_erase_iff, ← hun j hj]
   by_cases hji : j = i
   ·subst hji; simp [hil]
   ·rw [getD_set_ne false (Ne.symm hji)]; simp [hji]
  have cl' : ∀ j k, (listed.setIfInBounds i true).getD j false = true → depB ops j k = true → (listed.setIfInBounds i true).getD k false = true := fun j k hj hd => by
   rw [hset] at hj ⊢
   rcases hj with rfl | hj
   ·exact .inr (hdep k hd)
   ·exact .inr (hcl j k hj hd)
  have next := fun (w' : World) (vals' cs' : Nat → Value) (v : Value) (hw' : Below w0.heap.size w0 w') (S' : SeqV P ops Φ w0 Q a0 vals' cs')
    (hφ' : ∀ j φ, (listed.setIfInBounds i true).getD j false = true → wtd ops a0 cs' j = true → Φ j = some φ → φ (cs' j) w') (hA' : actL ops a0 (listed.setIfInBounds i true) cs' (a.put o.dst v)) =>
   ih (un.erase i) (listed.setIfInBounds i true) (a.put o.dst v) w' vals' cs' un1 un2 (by simpa using hsz) un3 cl' hw' S' hφ' hA'
  have hyp : hypTo ops Φ a0 cs i w := fun k φ hk hwk hf hd => hφ k φ (hdep k hd) hwk hf
  unfold wpOp
  rw [ho]
  simp only []
  rw [e2, ← wtd_eq ho]
  by_cases hwi : wtd ops a0 cs i = true
  ·rw [if_pos hwi]
   left
   unfold Oper.wp
   rw [e1]
   cases hf : Φ i with
   | none =>
    rw [S.pure i o ho hwi hf w hw hyp, Oper.upon_value]
    refine next w vals cs (cs i) hw S (fun j φ hj hwj hfj => ?_) (actL_put F hA i hil hin o ho _ rfl)
    rcases (hset j).1 hj with rfl | hj
    ·rw [hf] at hfj; cases hfj
    ·exact hφ j φ hj hwj hfj
   | some φ =>
    have Y := (S.pred i o φ ho hwi hf).2 w hw hyp
    have after : ∀ (v : Value) (w' : World), φ v w' → Below w.heap.size w w' → wpAny P .any ops Q fuel (listed.setIfInBounds i true) (a.put o.dst v) w' := by
     intro v w' hv hb
     have hw' : Below w0.heap.size w0 w' := hw.trans (hb.mono hw.size)
     obtain ⟨cs', S'⟩ := H (fun j => if j = i then v else vals j)
     have hφw' : ∀ j φ, listed.getD j false = true → wtd ops a0 cs j = true → Φ j = some φ → φ (cs j) w' := fun j ψ hj hwj hfj => hst j ψ hfj _ w w' (hφ j ψ hj hwj hfj) hb
     have hagree := seq_agree F S S' hw' hcl (fun j hj => by
      have : j ≠ i := by intro e; rw [e, hin] at hj; cases hj
      exact (if_neg this).symm) hφw'
     have agree : ∀ j, listed.getD j false = true → j < ops.size → cs j = cs' j ∧ wtd ops a0 cs j = wtd ops a0 cs' j := fun j hj hs => hagree (j + 1) j (Nat.lt_succ_self j) hj hs
     have inr : ∀ j, listed.getD j false = true → j < ops.size := fun j hj => by
      rcases Nat.lt_or_ge j ops.size with h | h
      ·exact h
      ·rw [← hsz] at h; simp [Array.getElem?_eq_none h] at hj
     have hdl : ∀ k, k < i → depB ops i k = true → cs k = cs' k := fun k hk hd => (agree k (hdep k hd) (by omega)).1
     obtain ⟨f1, f2⟩ := execOp_same F ho (look_two (a0 := a0) F ho hdl)
     have hwt : wtd ops a0 cs i = wtd ops a0 cs' i := by rw [wtd_eq ho, wtd_eq ho, f2]
     have hci : cs' i = v := by
      rw [(S'.pred i o φ ho (hwt ▸ hwi) hf).1]
      exact if_pos rfl
     have hA2 : actL ops a0 listed cs' a := ⟨hA.defers, hA.size, fun j d hj hd => by rw [← (agree j hj (inr j hj)).1]; exact hA.at_ j d hj hd, hA.old⟩
     refine next w' _ cs' v hw' S' (fun j ψ hj hwj hfj => ?_) (actL_put F hA2 i hil hin o ho v hci)
     rcases (hset j).1 hj with rfl | hj
     ·rw [hf] at hfj
      obtain rfl := Option.some.inj hfj
      rw [hci]
      exact hv
     ·obtain ⟨g1, g2⟩ := agree j hj (inr j hj)
      rw [← g1]
      exact hφw' j ψ hj (by rw [g2]; exact hwj) hfj
    generalize (execOp (actTo ops a0 cs i).eval o).run P w = r at Y
    cases r with
    | halt x w' => exact Y.elim
    | ok nx w' =>
     cases nx with
     | value v => rw [Oper.upon_value]; exact after v w' Y.1 Y.2
     | enter f args =>
      rw [Oper.upon_enter]
      refine Calls.mono Y fun e w'' he => ?_
      obtain ⟨v, rfl, h1, h2⟩ := he
      exact after v w'' h1 h2
     | _ => exact Y.elim
  ·rw [if_neg hwi]
   have hwi : wtd ops a0 cs i = false := by simpa using hwi
   refine next w vals cs undef hw S (fun j φ hj hwj hfj => ?_) (actL_put F hA i hil hin o ho _ (S.skip i o ho hwi))
   rcases (hset j).1 hj with rfl | hj
   ·rw [hwi] at hwj; cases hwj
   ·exact hφ j φ hj hwj hfj
theorem wp_region_sw {id : Nat} {l : List Oper} {w : World} (hm : P.follows .mixedOrders = true) (hok : regionOk l.toArray = true) (Φ : Nat → Option (Value → World → Prop))
  (hst : ∀ k φ, Φ k = some φ → ∀ v w w', φ v w → Below w.heap.size w w' → φ v w') (h : ∀ vals, wpSW l.toArray Φ w Q vals P l 0 a0 []) : (Code.region id l.toArray true).wp P Q a0 w := by
 have F := rform_of_ok hok
 have H : ∀ vals, ∃ cs, SeqV P l.toArray Φ w Q a0 vals cs := fun vals => seqV_of_walk (by simpa using h vals)
 obtain ⟨cs, S⟩ := H (fun _ => undef)
 refine wp_region_any hm ?_
 have hrep : ∀ j, (Array.replicate l.toArray.size false).getD j false = false := fun j => by
  simp only [Array.getD_eq_getD_getElem?, Array.getElem?_replicate]
  split <;> rfl
 refine any_of_seq F hst H l.toArray.size (List.range l.toArray.size) _ a0 _ _ cs (by simp) List.nodup_range (by simp) (fun j hj => ?_) (fun j k hj => ?_) ?_ S (fun j φ hj => ?_) ⟨rfl, rfl, fun j d hj => ?_, fun s _ => rfl⟩
 ·rw [hrep j]; simpa using hj
 ·rw [hrep j] at hj; cases hj
 ·exact ⟨rfl, rfl, rfl, Nat.le_refl _, fun _ _ => rfl⟩
 ·rw [hrep j] at hj; cases hj
 ·rw [hrep j] at hj; cases hj
end
def okUpon (w : World) (v : Value) : Result Next → Prop
 | .ok (.value u) w' => w' = w ∧ u = v
 | _ => False
theorem okUpon_eq {w : World} {v : Value} {r : Result Next} (h : okUpon w v r) : r = .ok (.value v) w := by
 cases r with
 | halt x w' => exact h.elim
 | ok nx w' =>
  cases nx with
  | value u => obtain ⟨rfl, rfl⟩ := h; rfl
  | _ => exact h.elim
section
variable {P : Program} {ops : Array Oper} {Φ : Nat → Option (Value → World → Prop)} {w0 : World} {Q : Exit → Act → World → Prop} {vals : Nat → Value} {o : Oper} {rest : List Oper} {k : Nat} {a : Act} {H : List (Nat × (Value → World → Prop))}
theorem sw_pure (hf : Φ k = none)
  (h : ∀ K : Act → Prop, (∀ a', wpSW ops Φ w0 Q vals P rest (k + 1) a' H → K a') →
   if Region.wanted o (yielded ops a.tmps) then ∃ v, (∀ w, okUpon w v ((execOp a.eval o).run P w)) ∧ K (a.put o.dst v) else K (a.put o.dst undef)) : wpSW ops Φ w0 Q vals P (o :: rest) k a H := by
 have h := h _ (fun _ h => h)
 simp only [wpSW]
 by_cases hw : Region.wanted o (yielded ops a.tmps) = true
 ·rw [if_pos hw] at h ⊢
  rw [hf]
  obtain ⟨v, h1, h2⟩ := h
  exact ⟨v, fun w _ _ => okUpon_eq (h1 w), h2⟩
 ·rw [if_neg hw] at h ⊢
  exact h
theorem sw_at (v : Value) (hf : Φ k = none) (hw : Region.wanted o (yielded ops a.tmps) = true)
  (h1 : ∀ w, Below w0.heap.size w0 w → (∀ p ∈ H, depB ops k p.1 = true → p.2 (vals p.1) w) → okUpon w v ((execOp a.eval o).run P w))
  (h : ∀ K : Act → Prop, (∀ a', wpSW ops Φ w0 Q vals P rest (k + 1) a' H → K a') → K (a.put o.dst v)) : wpSW ops Φ w0 Q vals P (o :: rest) k a H := by
 have h := h _ (fun _ h => h)
 simp only [wpSW]
 rw [if_pos hw, hf]
 exact ⟨v, fun w hb hH => okUpon_eq (h1 w hb hH), h⟩
theorem sw_call (φ : Value → World → Prop) (hf : Φ k = some φ) (hw : Region.wanted o (yielded ops a.tmps) = true)
  (h1 : ∀ w, Below w0.heap.size w0 w → (∀ p ∈ H, depB ops k p.1 = true → p.2 (vals p.1) w) → yieldsUpon P w (fun v w' => φ v w' ∧ Below w.heap.size w w') ((execOp a.eval o).run P w))
  (h : ∀ K : Act → Prop, (∀ a', wpSW ops Φ w0 Q vals P rest (k + 1) a' ((k, φ) :: H) → K a') → K (a.put o.dst (vals k))) : wpSW ops Φ w0 Q vals P (o :: rest) k a H := by
 have h := h _ (fun _ h => h)
 simp only [wpSW]
 rw [if_pos hw, hf]
 exact ⟨h1, h⟩
theorem sw_done (h : ∀ w, Below w0.heap.size w0 w → (∀ p ∈ H, p.2 (vals p.1) w) → Q .normal a w) : wpSW ops Φ w0 Q vals P [] k a H := h
end
attribute [go_sem] okUpon yieldsUpon
def tailQ (P : Program) (ops : Array Oper) (Q : Exit → Act → World → Prop) (tail : List Oper) : Exit → Act → World → Prop
 | .normal, a, w => wpList P ops Q tail a w
 | e, a, w => Q e a w
def tailOk (l : List Oper) (n : Nat) : Bool :=
 regionOk (l.take n).toArray && decide (n < l.length) &&
 ((l.take n).all fun o => match o.guard with | some (g, _) => decide (g < n) | none => true) &&
 Region.sinkB .any l.toArray n && Region.chainB .any l.toArray n &&
 Region.seqB .any l.toArray (l.length - n) n (Array.replicate n true ++ Array.replicate (l.length - n) false)
section
variable {P : Program} {l : List Oper} {n : Nat} {Q : Exit → Act → World → Prop}
theorem head_at {i : Nat} (hi : i < n) : (l.take n).toArray[i]? = l.toArray[i]? := by simp [hi]
theorem upon_tail {o : Oper} {ops : Array Oper} {tail : List Oper} {K : Act → World → Prop} {a : Act} {r : Result Next} (h : o.upon P a K (tailQ P ops Q tail) r) : o.upon P a K Q r := by
 cases r with
 | halt x w =>
  cases x <;> exact h
 | ok nx w =>
  cases nx with
  | enter f args =>
   refine Calls.mono (show Calls P f args w _ from h) fun e w'' he => ?_
   cases e <;> exact he
  | _ => exact h
theorem wpOp_head {K : Act → World → Prop} {i : Nat} {a : Act} {w : World} {tail : List Oper} (hi : i < n) (hg : ((l.take n).all fun o => match o.guard with | some (g, _) => decide (g < n) | none => true) = true)
  (h : wpOp P (l.take n).toArray (tailQ P l.toArray Q tail) i K a w) : wpOp P l.toArray Q i K a w := by
 unfold wpOp at h ⊢
 rw [head_at hi] at h
 cases ho : l.toArray[i]? with
 | none => rw [ho] at h; exact h
 | some o =>
  rw [ho] at h
  simp only [] at h ⊢
  have hw : Region.wanted o (yielded (l.take n).toArray a.tmps) = Region.wanted o (yielded l.toArray a.tmps) := by
   unfold Region.wanted
   cases hgd : o.guard with
   | none => rfl
   | some g =>
    obtain ⟨j, b⟩ := g
    have hmem : o ∈ l.take n := by
     have : l[i]? = some o := by simpa using ho
     exact List.mem_of_getElem? (i := i) (by rw [List.getElem?_take, if_pos hi]; exact this)
    have := List.all_eq_true.1 hg o hmem
    rw [hgd] at this
    have hj : j < n := by simpa using this
    simp only []
    unfold yielded
    rw [head_at hj]
  rw [hw] at h
  split
  ·rename_i hwt
   rw [if_pos hwt] at h
   rcases h with h | ⟨h1, h2⟩
   ·exact .inl (upon_tail h)
   ·exact .inr ⟨h1, h2⟩
  ·rename_i hwt
   rwa [if_neg hwt] at h
theorem app_get {L : Array Bool} {g j : Nat} (hL : L.size = n) (hj : j < n) (b : Bool) : (L ++ Array.replicate g false).getD j b = L.getD j b := by
 have h1 : j < L.size := by omega
 simp [Array.getD_eq_getD_getElem?, Array.getElem?_append_left h1]
theorem app_get' {L : Array Bool} {g j : Nat} (hL : L.size = n) (hj : n ≤ j) (hj2 : j < n + g) (b : Bool) : (L ++ Array.replicate g false).getD j b = false := by
 simp only [Array.getD_eq_getD_getElem?]
 rw [Array.getElem?_append_right (by omega), Array.getElem?_replicate, if_pos (by omega)]
 rfl
theorem any_tail (hok : tailOk l n = true) : ∀ (f : Nat) (L : Array Bool) (a : Act) (w : World), L.size = n →
  (∀ j oj, j < n → l.toArray[j]? = some oj → L.getD j false = true → ∀ e ∈ oj.after, Region.binds .any e = true → L.getD e.on false = true) → L.toList.count false = f →
  wpAny P .any (l.take n).toArray (tailQ P l.toArray Q (l.drop n)) f L a w → wpAny P .any l.toArray Q (f + (l.length - n)) (L ++ Array.replicate (l.length - n) false) a w := by
 unfold tailOk at hok
 simp only [Bool.and_eq_true, decide_eq_true_eq] at hok
 obtain ⟨⟨⟨⟨⟨hreg, hn⟩, hg⟩, hs⟩, hc⟩, hseq⟩ := hok
 have F := rform_of_ok hreg
 have hsz : (l.take n).toArray.size = n := by simp; omega
 have back : ∀ j oj, j < n → l.toArray[j]? = some oj → ∀ e ∈ oj.after, Region.binds .any e = true → e.on < j := fun j oj hj ho e he hb =>
  F.back j oj (by rw [head_at hj]; exact ho) e he hb
 intro f
 induction f with
 | zero =>
  intro L a w hL hcl hcnt h
  have hall : L = Array.replicate n true := by
   apply Array.ext'
   rw [Array.toList_replicate]
   apply List.ext_getElem
   ·simpa using hL
   ·intro i h1 h2
    rw [List.getElem_replicate]
    have := List.count_eq_zero.1 hcnt
    cases hb : L.toList[i] with
    | true => rfl
    | false => exact absurd (hb ▸ List.getElem_mem h1) this
  subst hall
  have hq : wpList P l.toArray Q (l.drop n) a w := h.2
  have hd : (l.drop n).length = l.length - n := List.length_drop
  have := wpAny_of_seq (P := P) (md := .any) (ops := l.toArray) (Q' := Q) (l.drop n) n _ a w (fun j => by simp) (by rw [hd]; exact hseq) hq
  rw [hd] at this
  rw [Nat.zero_add]
  exact this
 | succ f ih =>
  intro L a w hL hcl hcnt h
  have hdeps : ∀ j, j < n → (j ∈ Region.ready .any l.toArray (L ++ Array.replicate (l.length - n) false) ↔ j ∈ Region.ready .any (l.take n).toArray L) := fun j hj => by
   rw [mem_ready, mem_ready, app_get hL hj, head_at hj]
   constructor
   ·rintro ⟨h1, o, h2, h3⟩
    exact ⟨h1, o, h2, fun e he hb => by rw [← app_get (g := l.length - n) hL (by have := back j o hj h2 e he hb; omega)]; exact h3 e he hb⟩
   ·rintro ⟨h1, o, h2, h3⟩
    exact ⟨h1, o, h2, fun e he hb => by rw [app_get hL (by have := back j o hj h2 e he hb; omega)]; exact h3 e he hb⟩
  have inv : HeadInv .any l.toArray n (L ++ Array.replicate (l.length - n) false) := by
   refine ⟨by simp; omega, fun j oj ho hl e he hb => ?_, fun t h1 h2 => app_get' hL h1 (by simp at h2; omega) _⟩
   have hjs := (Array.getElem?_eq_some_iff.1 ho).1
   rcases Nat.lt_or_ge j n with hj | hj
   ·rw [app_get hL hj] at hl
    rw [app_get hL (by have := back j oj hj ho e he hb; omega)]
    exact hcl j oj hj ho hl e he hb
   ·rw [app_get' hL hj (by simp at hjs; omega)] at hl
    cases hl
  have some_un : ∃ i, i < n ∧ L.getD i false = false := by
   have : false ∈ L.toList := by
    rw [← List.count_pos_iff]
    omega
   obtain ⟨i, hi, he⟩ := List.mem_iff_getElem.1 this
   have hi' : i < L.size := by simpa using hi
   exact ⟨i, by omega, by simpa [hi'] using he⟩
  obtain ⟨i0, hi0, hu0⟩ := some_un
  have least : ∃ j, j ∈ Region.ready .any (l.take n).toArray L := by
   have key : ∀ m i, i < m → i < n → L.getD i false = false → ∃ j, j ∈ Region.ready .any (l.take n).toArray L := by
    intro m
    induction m with
    | zero => intro i hi; omega
    | succ m ihm =>
     intro i hi hin hun
     by_cases hex : ∃ k, k < i ∧ L.getD k false = false
     ·obtain ⟨k, hk, hku⟩ := hex
      exact ihm k (by omega) (by omega) hku
     ·refine ⟨i, mem_ready.2 ⟨getD_in (by omega) hun, ?_⟩⟩
      have his : i < (l.take n).toArray.size := by omega
      refine ⟨_, Array.getElem?_eq_getElem his, fun e he hb => ?_⟩
      have := F.back i _ (Array.getElem?_eq_getElem his) e he hb
      cases hl : L.getD e.on false with
      | true => rfl
      | false => exact absurd ⟨e.on, this, hl⟩ hex
   exact key (i0 + 1) i0 (by omega) hi0 hu0
  obtain ⟨j0, hj0⟩ := least
  have hj0n : j0 < n := by
   obtain ⟨_, o, ho, _⟩ := mem_ready.1 hj0
   have := (Array.getElem?_eq_some_iff.1 ho).1
   omega
  rw [Nat.add_right_comm]
  refine ⟨fun hr => ?_, fun i hi => ?_⟩
  ·have := (hdeps j0 hj0n).2 hj0
   rw [hr] at this
   cases this
  ·have hin : i < n := by
    rcases Nat.lt_or_ge i n with h1 | h1
    ·exact h1
    ·exact absurd hi (tail_waits hs hc (by simpa using hn) inv (n - i0) i0 rfl hi0 (by rw [app_get hL hi0]; exact getD_in (by omega) hu0) i h1)
   have hih := (hdeps i hin).1 hi
   obtain ⟨hiu, oi, hoi, hdi⟩ := mem_ready.1 hih
   refine wpOp_mono (fun a' w' h' => ?_) (wpOp_head hin hg (h.2 i hih))
   have hset : (L ++ Array.replicate (l.length - n) false).setIfInBounds i true = L.setIfInBounds i true ++ Array.replicate (l.length - n) false := by
    rw [Array.setIfInBounds_append_left (by omega)]
   rw [hset]
   refine ih (L.setIfInBounds i true) a' w' (by simpa using hL) (fun j oj hj ho hl e he hb => ?_) ?_ h'
   ·by_cases hij : i = j
    ·subst hij
     rw [head_at hin] at hoi
     obtain rfl : oj = oi := Option.some.inj (ho.symm.trans hoi)
     exact getD_set_true (hdi e he hb)
    ·rw [getD_set_ne false hij] at hl
     exact getD_set_true (hcl j oj hj ho hl e he hb)
   ·have hiL : i < L.toList.length := by simp; omega
    have hib : L.toList[i] = false := by
     have : i < L.size := by omega
     simpa [this] using hiu
    rw [Array.toList_setIfInBounds, List.count_set hiL, hcnt, hib]
    simp
theorem any_of_tail {w : World} {a0 : Act} (n : Nat) (hok : tailOk l n = true) (Φ : Nat → Option (Value → World → Prop))
  (hst : ∀ k φ, Φ k = some φ → ∀ v w w', φ v w → Below w.heap.size w w' → φ v w') (h : ∀ vals, wpSW (l.take n).toArray Φ w (tailQ P l.toArray Q (l.drop n)) vals P (l.take n) 0 a0 []) : wpAny P .any l.toArray Q l.toArray.size (Array.replicate l.toArray.size false) a0 { w with drawn := w.drawn + 1 } := by
 have hok' := hok
 unfold tailOk at hok'
 simp only [Bool.and_eq_true, decide_eq_true_eq] at hok'
 obtain ⟨⟨⟨⟨⟨hreg, hn⟩, _⟩, _⟩, _⟩, _⟩ := hok'
 have F := rform_of_ok hreg
 have hsz : (l.take n).toArray.size = n := by simp; omega
 have H : ∀ vals, ∃ cs, SeqV P (l.take n).toArray Φ w (tailQ P l.toArray Q (l.drop n)) a0 vals cs := fun vals => seqV_of_walk (by simpa using h vals)
 obtain ⟨cs, S⟩ := H (fun _ => undef)
 have hrep : ∀ j, (Array.replicate n false).getD j false = false := fun j => by
  simp only [Array.getD_eq_getD_getElem?, Array.getElem?_replicate]
  split <;> rfl
 have hA := any_of_seq F hst H (l.take n).toArray.size (List.range (l.take n).toArray.size) (Array.replicate n false) a0 { w with drawn := w.drawn + 1 } (fun _ => undef) cs (by simp) List.nodup_range (by simp; omega) (fun j hj => by rw [hrep j]; simpa using hj) (fun j k hj => by rw [hrep j] at hj; cases hj) ⟨rfl, rfl, rfl, Nat.le_refl _, fun _ _ => rfl⟩ S
  (fun j φ hj => by rw [hrep j] at hj; cases hj) ⟨rfl, rfl, fun j d hj => (by rw [hrep j] at hj; cases hj), fun s _ => rfl⟩
 rw [hsz] at hA
 have := any_tail hok n (Array.replicate n false) a0 _ (by simp) (fun j oj _ _ hl => by rw [hrep j] at hl; cases hl) (by simp) hA
 have e1 : n + (l.length - n) = l.toArray.size := by simp; omega
 have e2 : Array.replicate n false ++ Array.replicate (l.length - n) false = Array.replicate l.toArray.size false := by
  apply Array.ext'
  simp
  omega
 rw [e1, e2] at this
 exact this
theorem wp_region_tail {id : Nat} {w : World} {a0 : Act} (n : Nat) (hm : P.follows .mixedOrders = true) (hok : tailOk l n = true) (Φ : Nat → Option (Value → World → Prop))
  (hst : ∀ k φ, Φ k = some φ → ∀ v w w', φ v w → Below w.heap.size w w' → φ v w') (h : ∀ vals, wpSW (l.take n).toArray Φ w (tailQ P l.toArray Q (l.drop n)) vals P (l.take n) 0 a0 []) : (Code.region id l.toArray true).wp P Q a0 w :=
 wp_region_any hm (any_of_tail n hok Φ hst h)
end
end Go.Proofs.YtpchmdddkpocgaaGreatDoor
