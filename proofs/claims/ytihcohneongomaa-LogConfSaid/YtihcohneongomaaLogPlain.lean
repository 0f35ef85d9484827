/-
  No claim by itself: plain facts on logs: rows, Put of what is there. No condition.
-/
import Derived.Test.YtihcohneongomaaRlog5
namespace Go.Proofs.Ytihcohneongomaa
open Go.RowKit

theorem row_take (L : List Ent) : ∀ (i t : Int) (n : Nat), rowP i t L = true → rowP i t (L.take n) = true := by
  induction L with
  | nil => intro i t n h; simpa using h
  | cons e L ih =>
    intro i t n h
    cases n with
    | zero => rfl
    | succ n =>
      rw [List.take_succ_cons]
      simp only [rowP, Bool.and_eq_true] at h ⊢
      exact ⟨h.1, ih _ _ n h.2⟩
theorem row_drop (L : List Ent) : ∀ (i t : Int) (n : Nat), rowP i t L = true → ∃ i' t', rowP i' t' (L.drop n) = true := by
  induction L with
  | nil => intro i t n h; exact ⟨i, t, by simpa using h⟩
  | cons e L ih =>
    intro i t n h
    cases n with
    | zero => exact ⟨i, t, h⟩
    | succ n =>
      rw [List.drop_succ_cons]
      simp only [rowP, Bool.and_eq_true] at h
      exact ih _ _ n h.2
theorem row_at (L : List Ent) : ∀ (i t : Int), rowP i t L = true → 0 ≤ i → i + L.length ≤ 9000000000000000000 → ∀ k (h : k < L.length), L[k].i = i + 1 + k ∧ t ≤ L[k].t := by
  induction L with
  | nil => intro i t _ _ _ k h; simp at h
  | cons e L ih =>
    intro i t h h0 h1 k hk
    simp only [rowP, Bool.and_eq_true, beq_iff_eq, decide_eq_true_eq, List.length_cons] at h h1
    obtain ⟨⟨he, ht⟩, hr⟩ := h
    rw [IntWalk.wrap64_in _ (by omega)] at he
    cases k with
    | zero => exact ⟨by rw [List.getElem_cons_zero, he]; omega, ht⟩
    | succ k =>
      rw [List.getElem_cons_succ]
      have := ih e.i e.t hr (by omega) (by omega) k (by simpa using hk)
      exact ⟨by omega, by omega⟩
theorem row_self {i t : Int} {e : Ent} {L : List Ent} (h : rowP i t (e :: L) = true) (h0 : -9223372036854775808 ≤ e.i ∧ e.i ≤ 9223372036854775807) : rowP (wrap64 (e.i - 1)) e.t (e :: L) = true := by
  simp only [rowP, Bool.and_eq_true, beq_iff_eq, decide_eq_true_eq] at h ⊢
  refine ⟨⟨?_, Int.le_refl _⟩, h.2⟩
  unfold wrap64
  omega

/-- A good log. -/
structure Good (s : Snp) (L : List Ent) : Prop where
  b : LogB s L
  r : rowP s.i s.t L = true
theorem Good.of_new {s : Snp} {L : List Ent} (h : newOk s L = true) : Good s L := by
  unfold newOk inP at h
  simp only [List.all_cons, List.all_nil, Bool.and_eq_true, decide_eq_true_eq, Bool.and_true] at h
  obtain ⟨⟨⟨h1, h2⟩, h3⟩, h4⟩ := h
  unfold okN at h1
  simp only [Bool.and_eq_true, decide_eq_true_eq] at h1
  exact ⟨⟨h1.1, by omega, h3⟩, h4⟩
theorem Good.at_ {s : Snp} {L : List Ent} (h : Good s L) (k : Nat) (hk : k < L.length) : L[k].i = s.i + 1 + k ∧ s.t ≤ L[k].t :=
  row_at L s.i s.t h.r h.b.1 (by have := h.b.2.1; have := h.b.2.2; omega) k hk
theorem Good.term {s : Snp} {L : List Ent} (h : Good s L) (k : Nat) (hk : k < L.length) : termP s L (s.i + 1 + k) = (L[k].t, true) := by
  unfold termP lastP
  rw [if_neg (by omega), if_neg (by omega), show (s.i + 1 + (k : Int) - s.i - 1).toNat = k by omega, List.getElem?_eq_getElem hk]
  rfl
theorem Good.fits {s : Snp} {L : List Ent} (h : Good s L) (k : Nat) (hk : k < L.length) : fitsP s L L[k].i L[k].t = true := by
  unfold fitsP
  rw [(h.at_ k hk).1, h.term k hk]
  simp

theorem dropWhile_all {α : Type} (p : α → Bool) (l : List α) (h : ∀ x ∈ l, p x = true) : l.dropWhile p = [] := by
  induction l with
  | nil => rfl
  | cons x l ih => rw [List.dropWhile_cons_of_pos (h x (by simp))]; exact ih fun y hy => h y (by simp [hy])

/-- Entries that are there are put again: nothing changes. -/
theorem Good.again {s : Snp} {L : List Ent} (h : Good s L) (a n : Nat) : putP s L ((L.drop a).take n) = ((0, true), L) := by
  have hall : ∀ e ∈ (L.drop a).take n, pastP s L e = true := fun e he => by
    obtain ⟨k, hk, rfl⟩ := List.mem_iff_getElem.1 (List.mem_of_mem_drop (List.mem_of_mem_take he))
    unfold pastP
    rw [h.fits k hk]
    simp
  obtain ⟨i', t', hr⟩ := row_drop L s.i s.t a h.r
  have hr := row_take _ _ _ n hr
  cases hE : (L.drop a).take n with
  | nil => rfl
  | cons e E =>
    rw [hE] at hall hr
    have hm : e ∈ L := List.mem_of_mem_drop (List.mem_of_mem_take (by rw [hE]; simp))
    obtain ⟨k, hk, he⟩ := List.mem_iff_getElem.1 hm
    have hi := (h.at_ k hk).1
    rw [he] at hi
    have hB := h.b
    obtain ⟨b0, b1, b2⟩ := hB
    show (if lastP s L + 1 < e.i ∨ rowP (wrap64 (e.i - 1)) e.t (e :: E) = false then _ else _) = _
    rw [if_neg (by
      rintro (h1 | h1)
      · unfold lastP at h1; omega
      · rw [row_self hr (by omega)] at h1; cases h1)]
    rw [dropWhile_all _ _ hall]
    rfl
theorem Good.getAll {s : Snp} {L : List Ent} (h : Good s L) (n : Int) (hn : (L.length : Int) ≤ n) : getP s L (s.i + 1) n = L := by
  unfold getP lastP
  by_cases h0 : L = []
  · subst h0
    split <;> simp
  · have hl : 0 < L.length := by cases L with | nil => exact absurd rfl h0 | cons _ _ => simp
    rw [if_neg (by omega)]
    rw [show (s.i + 1 - (s.i + 1)).toNat = 0 by omega, List.drop_zero, List.take_of_length_le (by omega)]
end Go.Proofs.Ytihcohneongomaa
