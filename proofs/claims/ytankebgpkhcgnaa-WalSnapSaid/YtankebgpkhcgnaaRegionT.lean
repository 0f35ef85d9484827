/-
  No claim by itself: a law on drawn regions of which the last operations (a store, an append) wait for all others: all but they are walked once, in the text's order; then they. No condition.
-/
import Derived.Test.YtankebgpkhcgnaaRegion
import Derived.StillTail
namespace Go.Proofs.Ytankebgpkhcgnaa
open Go.RowKit

/-- What the head of a region must reach: the tail's walk. -/
def tailQ (P : Program) (ops : Array Oper) (Q : Exit → Act → World → Prop) (tail : List Oper) : Exit → Act → World → Prop
  | .normal, a, w => wpList P ops Q tail a w
  | e, a, w => Q e a w

/-- The form: the head is one, its guards lead into it, and the tail waits for all of it. -/
def tailOk (l : List Oper) (n : Nat) : Bool :=
  regionOk (l.take n).toArray && decide (n < l.length) &&
  ((l.take n).all fun o => match o.guard with | some (g, _) => decide (g < n) | none => true) &&
  Region.sinkB .any l.toArray n && Region.chainB .any l.toArray n &&
  Region.seqB .any l.toArray (l.length - n) n (Array.replicate n true ++ Array.replicate (l.length - n) false)

section
variable {P : Program} {l : List Oper} {n : Nat} {Q : Exit → Act → World → Prop}

theorem head_at {i : Nat} (hi : i < n) : (l.take n).toArray[i]? = l.toArray[i]? := by simp [List.getElem?_take, hi]

theorem upon_tail {o : Oper} {ops : Array Oper} {tail : List Oper} {K : Act → World → Prop} {a : Act} {r : Result Next} (h : o.upon P a K (tailQ P ops Q tail) r) : o.upon P a K Q r := by
  cases r with
  | halt x w =>
    cases x <;> exact h
  | ok nx w =>
    cases nx with
    | enter f args =>
      refine Calls.mono (show Calls P f args w _ from h) fun e w'' he => ?_
      cases e <;> exact he
    | _ => exact h

theorem wpOp_head {K : Act → World → Prop} {i : Nat} {a : Act} {w : World} {tail : List Oper} (hi : i < n) (hg : ((l.take n).all fun o => match o.guard with | some (g, _) => decide (g < n) | none => true) = true)
    (h : wpOp P (l.take n).toArray (tailQ P l.toArray Q tail) i K a w) : wpOp P l.toArray Q i K a w := by
  unfold wpOp at h ⊢
  rw [head_at hi] at h
  cases ho : l.toArray[i]? with
  | none => rw [ho] at h; exact h
  | some o =>
    rw [ho] at h
    simp only [] at h ⊢
    have hw : Region.wanted o (yielded (l.take n).toArray a.tmps) = Region.wanted o (yielded l.toArray a.tmps) := by
      unfold Region.wanted
      cases hgd : o.guard with
      | none => rfl
      | some g =>
        obtain ⟨j, b⟩ := g
        have hmem : o ∈ l.take n := by
          have : l[i]? = some o := by simpa using ho
          exact List.mem_of_getElem? (i := i) (by rw [List.getElem?_take, if_pos hi]; exact this)
        have := List.all_eq_true.1 hg o hmem
        rw [hgd] at this
        have hj : j < n := by simpa using this
        simp only []
        unfold yielded
        rw [head_at hj]
    rw [hw] at h
    split
    · rename_i hwt
      rw [if_pos hwt] at h
      rcases h with h | ⟨h1, h2⟩
      · exact .inl (upon_tail h)
      · exact .inr ⟨h1, h2⟩
    · rename_i hwt
      rwa [if_neg hwt] at h

theorem app_get {L : Array Bool} {g j : Nat} (hL : L.size = n) (hj : j < n) (b : Bool) : (L ++ Array.replicate g false).getD j b = L.getD j b := by
  have h1 : j < L.size := by omega
  simp [Array.getD_eq_getD_getElem?, Array.getElem?_append_left h1]
theorem app_get' {L : Array Bool} {g j : Nat} (hL : L.size = n) (hj : n ≤ j) (hj2 : j < n + g) (b : Bool) : (L ++ Array.replicate g false).getD j b = false := by
  simp only [Array.getD_eq_getD_getElem?]
  rw [Array.getElem?_append_right (by omega), Array.getElem?_replicate, if_pos (by omega)]
  rfl

theorem any_tail (hok : tailOk l n = true) : ∀ (f : Nat) (L : Array Bool) (a : Act) (w : World), L.size = n →
    (∀ j oj, j < n → l.toArray[j]? = some oj → L.getD j false = true → ∀ e ∈ oj.after, Region.binds .any e = true → L.getD e.on false = true) → L.toList.count false = f →
    wpAny P .any (l.take n).toArray (tailQ P l.toArray Q (l.drop n)) f L a w → wpAny P .any l.toArray Q (f + (l.length - n)) (L ++ Array.replicate (l.length - n) false) a w := by
  unfold tailOk at hok
  simp only [Bool.and_eq_true, decide_eq_true_eq] at hok
  obtain ⟨⟨⟨⟨⟨hreg, hn⟩, hg⟩, hs⟩, hc⟩, hseq⟩ := hok
  have F := rform_of_ok hreg
  have hsz : (l.take n).toArray.size = n := by simp; omega
  have back : ∀ j oj, j < n → l.toArray[j]? = some oj → ∀ e ∈ oj.after, Region.binds .any e = true → e.on < j := fun j oj hj ho e he hb =>
    F.back j oj (by rw [head_at hj]; exact ho) e he hb
  intro f
  induction f with
  | zero =>
    intro L a w hL hcl hcnt h
    have hall : L = Array.replicate n true := by
      apply Array.ext'
      rw [Array.toList_replicate]
      apply List.ext_getElem
      · simpa using hL
      · intro i h1 h2
        rw [List.getElem_replicate]
        have := List.count_eq_zero.1 hcnt
        cases hb : L.toList[i] with
        | true => rfl
        | false => exact absurd (hb ▸ List.getElem_mem h1) this
    subst hall
    have hq : wpList P l.toArray Q (l.drop n) a w := h.2
    have hd : (l.drop n).length = l.length - n := List.length_drop
    have := wpAny_of_seq (P := P) (md := .any) (ops := l.toArray) (Q' := Q) (l.drop n) n _ a w (fun j => by simp) (by rw [hd]; exact hseq) hq
    rw [hd] at this
    rw [Nat.zero_add]
    exact this
  | succ f ih =>
    intro L a w hL hcl hcnt h
    have hdeps : ∀ j, j < n → (j ∈ Region.ready .any l.toArray (L ++ Array.replicate (l.length - n) false) ↔ j ∈ Region.ready .any (l.take n).toArray L) := fun j hj => by
      rw [mem_ready, mem_ready, app_get hL hj, head_at hj]
      constructor
      · rintro ⟨h1, o, h2, h3⟩
        exact ⟨h1, o, h2, fun e he hb => by rw [← app_get (g := l.length - n) hL (by have := back j o hj h2 e he hb; omega)]; exact h3 e he hb⟩
      · rintro ⟨h1, o, h2, h3⟩
        exact ⟨h1, o, h2, fun e he hb => by rw [app_get hL (by have := back j o hj h2 e he hb; omega)]; exact h3 e he hb⟩
    have inv : HeadInv .any l.toArray n (L ++ Array.replicate (l.length - n) false) := by
      refine ⟨by simp; omega, fun j oj ho hl e he hb => ?_, fun t h1 h2 => app_get' hL h1 (by simp at h2; omega) _⟩
      have hjs := (Array.getElem?_eq_some_iff.1 ho).1
      rcases Nat.lt_or_ge j n with hj | hj
      · rw [app_get hL hj] at hl
        rw [app_get hL (by have := back j oj hj ho e he hb; omega)]
        exact hcl j oj hj ho hl e he hb
      · rw [app_get' hL hj (by simp at hjs; omega)] at hl
        cases hl
    have some_un : ∃ i, i < n ∧ L.getD i false = false := by
      have : false ∈ L.toList := by
        rw [← List.count_pos_iff]
        omega
      obtain ⟨i, hi, he⟩ := List.mem_iff_getElem.1 this
      have hi' : i < L.size := by simpa using hi
      exact ⟨i, by omega, by simpa [hi'] using he⟩
    obtain ⟨i0, hi0, hu0⟩ := some_un
    have least : ∃ j, j ∈ Region.ready .any (l.take n).toArray L := by
      have key : ∀ m i, i < m → i < n → L.getD i false = false → ∃ j, j ∈ Region.ready .any (l.take n).toArray L := by
        intro m
        induction m with
        | zero => intro i hi; omega
        | succ m ihm =>
          intro i hi hin hun
          by_cases hex : ∃ k, k < i ∧ L.getD k false = false
          · obtain ⟨k, hk, hku⟩ := hex
            exact ihm k (by omega) (by omega) hku
          · refine ⟨i, mem_ready.2 ⟨getD_in (by omega) hun, ?_⟩⟩
            have his : i < (l.take n).toArray.size := by omega
            refine ⟨_, Array.getElem?_eq_getElem his, fun e he hb => ?_⟩
            have := F.back i _ (Array.getElem?_eq_getElem his) e he hb
            cases hl : L.getD e.on false with
            | true => rfl
            | false => exact absurd ⟨e.on, this, hl⟩ hex
      exact key (i0 + 1) i0 (by omega) hi0 hu0
    obtain ⟨j0, hj0⟩ := least
    have hj0n : j0 < n := by
      obtain ⟨_, o, ho, _⟩ := mem_ready.1 hj0
      have := (Array.getElem?_eq_some_iff.1 ho).1
      omega
    rw [Nat.add_right_comm]
    refine ⟨fun hr => ?_, fun i hi => ?_⟩
    · have := (hdeps j0 hj0n).2 hj0
      rw [hr] at this
      cases this
    · have hin : i < n := by
        rcases Nat.lt_or_ge i n with h1 | h1
        · exact h1
        · exact absurd hi (tail_waits hs hc (by simpa using hn) inv (n - i0) i0 rfl hi0 (by rw [app_get hL hi0]; exact getD_in (by omega) hu0) i h1)
      have hih := (hdeps i hin).1 hi
      obtain ⟨hiu, oi, hoi, hdi⟩ := mem_ready.1 hih
      refine wpOp_mono (fun a' w' h' => ?_) (wpOp_head hin hg (h.2 i hih))
      have hset : (L ++ Array.replicate (l.length - n) false).setIfInBounds i true = L.setIfInBounds i true ++ Array.replicate (l.length - n) false := by
        rw [Array.setIfInBounds_append_left (by omega)]
      rw [hset]
      refine ih (L.setIfInBounds i true) a' w' (by simpa using hL) (fun j oj hj ho hl e he hb => ?_) ?_ h'
      · by_cases hij : i = j
        · subst hij
          rw [head_at hin] at hoi
          obtain rfl : oj = oi := Option.some.inj (ho.symm.trans hoi)
          exact getD_set_true (hdi e he hb)
        · rw [getD_set_ne false hij] at hl
          exact getD_set_true (hcl j oj hj ho hl e he hb)
      · have hiL : i < L.toList.length := by simp; omega
        have hib : L.toList[i] = false := by
          have : i < L.size := by omega
          simpa [this] using hiu
        rw [Array.toList_setIfInBounds, List.count_set hiL, hcnt, hib]
        simp

theorem any_of_tail {w : World} {a0 : Act} (n : Nat) (hok : tailOk l n = true) (Φ : Nat → Option (Value → World → Prop))
    (hst : ∀ k φ, Φ k = some φ → ∀ v w w', φ v w → Below w.heap.size w w' → φ v w') (h : ∀ vals, wpSW (l.take n).toArray Φ w (tailQ P l.toArray Q (l.drop n)) vals P (l.take n) 0 a0 []) : wpAny P .any l.toArray Q l.toArray.size (Array.replicate l.toArray.size false) a0 { w with drawn := w.drawn + 1 } := by
  have hok' := hok
  unfold tailOk at hok'
  simp only [Bool.and_eq_true, decide_eq_true_eq] at hok'
  obtain ⟨⟨⟨⟨⟨hreg, hn⟩, _⟩, _⟩, _⟩, _⟩ := hok'
  have F := rform_of_ok hreg
  have hsz : (l.take n).toArray.size = n := by simp; omega
  have H : ∀ vals, ∃ cs, SeqV P (l.take n).toArray Φ w (tailQ P l.toArray Q (l.drop n)) a0 vals cs := fun vals => seqV_of_walk (by simpa using h vals)
  obtain ⟨cs, S⟩ := H (fun _ => undef)
  have hrep : ∀ j, (Array.replicate n false).getD j false = false := fun j => by
    simp only [Array.getD_eq_getD_getElem?, Array.getElem?_replicate]
    split <;> rfl
  have hA := any_of_seq F hst H (l.take n).toArray.size (List.range (l.take n).toArray.size) (Array.replicate n false) a0 { w with drawn := w.drawn + 1 } (fun _ => undef) cs (by simp) List.nodup_range (by simp; omega) (fun j hj => by rw [hrep j]; simpa using hj) (fun j k hj => by rw [hrep j] at hj; cases hj) ⟨rfl, rfl, rfl, Nat.le_refl _, fun _ _ => rfl⟩ S
    (fun j φ hj => by rw [hrep j] at hj; cases hj) ⟨rfl, rfl, fun j d hj => (by rw [hrep j] at hj; cases hj), fun s _ => rfl⟩
  rw [hsz] at hA
  have := any_tail hok n (Array.replicate n false) a0 _ (by simp) (fun j oj _ _ hl => by rw [hrep j] at hl; cases hl) (by simp) hA
  have e1 : n + (l.length - n) = l.toArray.size := by simp; omega
  have e2 : Array.replicate n false ++ Array.replicate (l.length - n) false = Array.replicate l.toArray.size false := by
    apply Array.ext'
    simp [List.replicate_append_replicate]
    omega
  rw [e1, e2] at this
  exact this

/-- THE LAW. -/
theorem wp_region_tail {id : Nat} {w : World} {a0 : Act} (n : Nat) (hm : P.follows .mixedOrders = true) (hok : tailOk l n = true) (Φ : Nat → Option (Value → World → Prop))
    (hst : ∀ k φ, Φ k = some φ → ∀ v w w', φ v w → Below w.heap.size w w' → φ v w') (h : ∀ vals, wpSW (l.take n).toArray Φ w (tailQ P l.toArray Q (l.drop n)) vals P (l.take n) 0 a0 []) : (Code.region id l.toArray true).wp P Q a0 w :=
  wp_region_any hm (any_of_tail n hok Φ hst h)
end
end Go.Proofs.Ytankebgpkhcgnaa
