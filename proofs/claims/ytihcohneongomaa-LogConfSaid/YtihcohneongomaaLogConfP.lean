/-
  No claim by itself: what the law on a log's configuration makes: entries of the five kinds, and which text counts last. No condition.
-/
import Derived.Test.YtihcohneongomaaLogB
import Derived.Test.YtihcohneongomaaRlog8
namespace Go.Proofs.Ytihcohneongomaa
open Go.ChangeShapes Go.WideShapes Go.ChangeAt Go.RowKit

def t12 : ByteArray := ⟨#[49, 50]⟩
def t1234 : ByteArray := ⟨#[49, 50, 51, 52]⟩
def tx : ByteArray := ⟨#[120]⟩
def t13 : ByteArray := ⟨#[49, 51]⟩
def t123 : ByteArray := ⟨#[49, 50, 51]⟩
def snp5 : Snp := ⟨5, 1, t123, ⟨#[]⟩⟩
/-- The kinds and texts of an entry on the way. -/
def fiveKD (k : Int) (d : ByteArray) : Prop := (k = 1 ∧ d = t12) ∨ (k = 3 ∧ (d = t12 ∨ d = t1234 ∨ d = tx ∨ d = t13))
def fourD : Nat → ByteArray
  | 0 => t12
  | 1 => t1234
  | 2 => tx
  | _ => t13
theorem fourD_five (k : Nat) : fiveKD 3 (fourD k) := by
  refine .inr ⟨rfl, ?_⟩
  match k with
  | 0 => exact .inl rfl
  | 1 => exact .inr (.inl rfl)
  | 2 => exact .inr (.inr (.inl rfl))
  | k + 3 => exact .inr (.inr (.inr rfl))
/-- A text of digits that may be a configuration. -/
def wantOk (d : ByteArray) : Prop := d = t123 ∨ d = t12 ∨ d = t1234 ∨ d = t13

structure ConfInv (L : List Ent) (want : ByteArray) (wh : Int) : Prop where
  r : rowP 5 1 L = true
  t : ∀ e ∈ L, e.t = 1 ∧ e.d.size ≤ 4
  s : scanC snp5 L L.length = (decC want.data.toList, wh)
  w : wantOk want
  b : 5 ≤ wh ∧ wh ≤ 5 + L.length

theorem confInv_nil : ConfInv [] t123 5 := ⟨rfl, by simp, by decide +kernel, .inl rfl, by simp⟩
theorem scanC_append (s : Snp) (L : List Ent) (e : Ent) : ∀ k, k ≤ L.length → scanC s (L ++ [e]) k = scanC s L k := by
  intro k
  induction k with
  | zero => intro _; rfl
  | succ k ih =>
    intro hk
    rw [scanC, scanC, List.getElem?_append_left (by omega), ih (by omega)]
theorem row_snoc (L : List Ent) : ∀ (i t : Int) (e : Ent), rowP i t L = true → 0 ≤ i → i + L.length + 1 ≤ 9000000000000000000 → e.i = i + L.length + 1 → t ≤ e.t → (∀ x ∈ L, x.t ≤ e.t) → rowP i t (L ++ [e]) = true := by
  induction L with
  | nil =>
    intro i t e _ h0 h1 he ht _
    simp only [List.nil_append, rowP, Bool.and_eq_true, beq_iff_eq, decide_eq_true_eq, Bool.and_true]
    simp only [List.length_nil] at he h1
    exact ⟨by unfold wrap64; omega, ht⟩
  | cons x L ih =>
    intro i t e h h0 h1 he ht hx
    simp only [rowP, Bool.and_eq_true, beq_iff_eq, decide_eq_true_eq, List.length_cons] at h h1 he
    obtain ⟨⟨hxi, hxt⟩, hr⟩ := h
    have hxi' : x.i = i + 1 := by rw [hxi]; unfold wrap64; omega
    simp only [List.cons_append, rowP, Bool.and_eq_true, beq_iff_eq, decide_eq_true_eq]
    exact ⟨⟨hxi, hxt⟩, ih x.i x.t e hr (by omega) (by omega) (by omega) (hx x (by simp)) (fun y hy => hx y (by simp [hy]))⟩

theorem five_size {k : Int} {d : ByteArray} (h : fiveKD k d) : d.size ≤ 4 := by
  rcases h with ⟨_, rfl⟩ | ⟨_, rfl | rfl | rfl | rfl⟩ <;> decide
theorem confD_ok {d : ByteArray} (h : wantOk d) : confD d = (decC d.data.toList, true) := by
  rcases h with rfl | rfl | rfl | rfl <;> decide +kernel
theorem confD_x : confD tx = ([], false) := by decide +kernel

theorem ConfInv.snoc {L : List Ent} {want : ByteArray} {wh : Int} (h : ConfInv L want wh) (hl : L.length ≤ 1000) {k : Int} {d : ByteArray} (hk : fiveKD k d) :
    ConfInv (L ++ [⟨6 + L.length, 1, k, d⟩]) (if k = 3 ∧ d ≠ tx then d else want) (if k = 3 ∧ d ≠ tx then 6 + L.length else wh) := by
  have hb := h.b
  have hg : (L ++ [(⟨6 + L.length, 1, k, d⟩ : Ent)])[L.length]'(by simp) = ⟨6 + L.length, 1, k, d⟩ := by simp
  refine ⟨row_snoc L 5 1 _ h.r (by omega) (by omega) (by simp only; omega) (Int.le_refl _) (fun x hx => by rw [(h.t x hx).1]; exact Int.le_refl _), fun e he => ?_, ?_, ?_, ?_⟩
  · rcases List.mem_append.1 he with he | he
    · exact h.t e he
    · simp only [List.mem_singleton] at he
      subst he
      exact ⟨rfl, five_size hk⟩
  · rw [List.length_append, List.length_singleton]
    by_cases hc : k = 3 ∧ d ≠ tx
    · obtain ⟨rfl, hd⟩ := hc
      have hw : wantOk d := by
        rcases hk with ⟨hk, _⟩ | ⟨_, rfl | rfl | rfl | rfl⟩
        · cases hk
        · exact .inr (.inl rfl)
        · exact .inr (.inr (.inl rfl))
        · exact absurd rfl hd
        · exact .inr (.inr (.inr rfl))
      rw [if_pos ⟨rfl, hd⟩, if_pos ⟨rfl, hd⟩, scanC_yes (by simp) (by rw [hg]; unfold isConf; rw [confD_ok hw]; rfl), hg, confD_ok hw]
      simp only [snp5]
      congr 1
    · rw [if_neg hc, if_neg hc, scanC_no (by simp) (by
        rw [hg]
        unfold isConf
        by_cases h3 : k = 3
        · have hd : d = tx := Classical.byContradiction fun hn => hc ⟨h3, hn⟩
          rw [hd, confD_x]
          rfl
        · simp [h3]), scanC_append _ _ _ _ (Nat.le_refl _)]
      exact h.s
  · split
    · rename_i hc
      obtain ⟨rfl, hd⟩ := hc
      rcases hk with ⟨hk, _⟩ | ⟨_, rfl | rfl | rfl | rfl⟩
      · cases hk
      · exact .inr (.inl rfl)
      · exact .inr (.inr (.inl rfl))
      · exact absurd rfl hd
      · exact .inr (.inr (.inr rfl))
    · exact h.w
  · rw [List.length_append, List.length_singleton]
    split <;> omega
theorem ConfInv.ok {L : List Ent} {want : ByteArray} {wh : Int} (h : ConfInv L want wh) (hl : L.length ≤ 200) : newOk snp5 L = true := by
  unfold newOk
  rw [show rowP snp5.i snp5.t L = true from h.r, decide_eq_true hl]
  rfl
end Go.Proofs.Ytihcohneongomaa
