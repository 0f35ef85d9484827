/-
  No claim by itself: records as bytes: what may be, how it is written, how it is read. No condition.
-/
import Derived.Test.YtihcohneongomaaFrameP2
import Derived.Test.YtihcohneongomaaEnt
namespace Go.Proofs.Ytihcohneongomaa
open Go.ChangeShapes Go.WideShapes Go.ChangeAt Go.RowKit

/-- A record: of a server's Term and vote, or of an entry. -/
structure Rec where
  hd : Bool
  t : Int
  v : Int
  e : Ent
def zeroE : Ent := ⟨0, 0, 0, .empty⟩
def zeroR : Rec := ⟨false, 0, 0, zeroE⟩
def inN (lo hi : Int) (l : List Int) : Bool := l.all fun n => decide (lo ≤ n) && decide (n ≤ hi)
def mxN : Int := 1099511627776
/-- May it be? -/
def mayR (r : Rec) : Bool :=
  if r.hd then decide (0 ≤ r.t) && decide (r.t ≤ 1099511627776) && decide (0 ≤ r.v) && decide (r.v ≤ 7) && (r.e.i == 0 && r.e.t == 0 && r.e.k == 0 && decide (r.e.d.size = 0))
  else (r.t == 0 && r.v == 0) && (decide (1 ≤ r.e.i) && decide (r.e.i ≤ 1099511627776) && decide (1 ≤ r.e.t) && decide (r.e.t ≤ 1099511627776)) && decide (1 ≤ r.e.k) && decide (r.e.k ≤ 3) && decide (r.e.d.size ≤ 2500)
def bodyR (r : Rec) : List UInt8 := if r.hd then putN r.t ++ putN r.v else putN r.e.i ++ putN r.e.t ++ putN r.e.k ++ putT r.e.d.data.toList
/-- Its bytes; none, if it may not be. -/
def encR (r : Rec) : List UInt8 := if mayR r then sealP (if r.hd then 1 else 2) (bodyR r) else []

/-- A reader of parts: a number, a text, whether all went. -/
def rdN (s : List UInt8 × Bool) : Int × List UInt8 × Bool :=
  ((getN s.1).1, if (s.2 || decide ((getN s.1).2.2 ≠ 0)) then s.1 else s.1.drop (getN s.1).2.1, s.2 || decide ((getN s.1).2.2 ≠ 0))
def rdT (s : List UInt8 × Bool) : List UInt8 × List UInt8 × Bool :=
  ((getT s.1).1, if (s.2 || decide ((getT s.1).2.2 ≠ 0)) then s.1 else s.1.drop (getT s.1).2.1, s.2 || decide ((getT s.1).2.2 ≠ 0))
def rdD (s : List UInt8 × Bool) : Bool := !s.2 && decide (s.1.length = 0)

/-- What the parts say. -/
def hardP (b : List UInt8) : Rec × List UInt8 × Bool :=
  let x := rdN (b, false)
  let y := rdN x.2
  (⟨true, x.1, y.1, zeroE⟩, y.2)
def entP (b : List UInt8) : Rec × List UInt8 × Bool :=
  let x := rdN (b, false)
  let y := rdN x.2
  let z := rdN y.2
  let d := rdT z.2
  (⟨false, 0, 0, ⟨x.1, y.1, z.1, ⟨d.1.toArray⟩⟩⟩, d.2)
def finP (r : Rec × List UInt8 × Bool) (n : Nat) : Rec × Nat × Nat := if rdD r.2 && mayR r.1 then (r.1, n, 0) else (zeroR, 0, 3)
def decR (l : List UInt8) : Rec × Nat × Nat :=
  if (openP l).2.2.2 ≠ 0 then (zeroR, 0, (openP l).2.2.2)
  else if (openP l).1 = 1 then finP (hardP (openP l).2.1) (openP l).2.2.1
  else if (openP l).1 = 2 then finP (entP (openP l).2.1) (openP l).2.2.1
  else (zeroR, 0, 3)

theorem rdN_put (n : Int) (rest : List UInt8) (h0 : -9223372036854775808 ≤ n) (h1 : n ≤ 9223372036854775807) : rdN (putN n ++ rest, false) = (n, rest, false) := by
  unfold rdN
  rw [getN_putN n rest h0 h1]
  simp
theorem rdT_put (s rest : List UInt8) (h : s.length ≤ 1048576) : rdT (putT s ++ rest, false) = (s, rest, false) := by
  unfold rdT
  rw [getT_putT s rest h]
  simp
theorem rdN_bad (b : List UInt8) : (rdN (b, true)).2 = (b, true) := rfl
theorem rdT_bad (b : List UInt8) : (rdT (b, true)).2 = (b, true) := rfl
theorem rdN_ok {b c : List UInt8} {x : Int} {s : Bool} (h : rdN (b, s) = (x, c, false)) : s = false ∧ b = putN x ++ c ∧ -9223372036854775808 ≤ x ∧ x ≤ 9223372036854775807 := by
  unfold rdN at h
  simp only [Prod.mk.injEq, Bool.or_eq_false_iff, decide_eq_false_iff_not, Decidable.not_not] at h
  obtain ⟨h1, h2, rfl, h3⟩ := h
  rw [if_neg (by simp [h3])] at h2
  subst h1 h2
  refine ⟨rfl, ?_, ?_⟩
  · have := getN_canon (l := b) (k := (getN b).2.1) (x := (getN b).1) (by rw [← h3])
    rw [← this]
    exact (List.take_append_drop _ _).symm
  · rcases getN_any b with (hx | hx) | ⟨x, k, hx, h5, h6, -⟩
    · rw [hx] at h3; cases h3
    · rw [hx] at h3; cases h3
    · rw [hx]; exact ⟨h5, h6⟩
theorem rdT_ok {b c d : List UInt8} {s : Bool} (h : rdT (b, s) = (d, c, false)) : s = false ∧ b = putT d ++ c ∧ d.length ≤ 1048576 := by
  unfold rdT at h
  simp only [Prod.mk.injEq, Bool.or_eq_false_iff, decide_eq_false_iff_not, Decidable.not_not] at h
  obtain ⟨h1, h2, rfl, h3⟩ := h
  rw [if_neg (by simp [h3])] at h2
  unfold getT at h1 h2 h3
  by_cases c1 : (getN b).2.2 ≠ 0
  · rw [if_pos c1] at h3; exact absurd h3 c1
  rw [if_neg c1] at h1 h2 h3
  by_cases c2 : (getN b).1 < 0 ∨ 1048576 < (getN b).1
  · rw [if_pos c2] at h3; cases h3
  rw [if_neg c2] at h1 h2 h3
  by_cases c3 : (b.length : Int) - (getN b).2.1 < (getN b).1
  · rw [if_pos c3] at h3; cases h3
  rw [if_neg c3] at h1 h2 h3
  rcases getN_any b with (hx | hx) | ⟨x, k, hx, h5, h6, h7, h8, -⟩
  · rw [hx] at c1; exact absurd (by decide) c1
  · rw [hx] at c1; exact absurd (by decide) c1
  rw [hx] at h1 h2 c2 c3
  have hcn := getN_canon hx
  simp only [] at h1 h2 c2 c3
  have hdl : d.length = x.toNat := by rw [← h1, List.length_take, List.length_drop]; omega
  refine ⟨rfl, ?_, by omega⟩
  unfold putT
  rw [hdl, Int.toNat_of_nonneg (by omega), ← hcn, ← h1, ← h2, List.append_assoc, ← List.drop_drop, List.take_append_drop, List.take_append_drop]

theorem openP_no {l : List UInt8} (h : (openP l).2.2.2 ≠ 0) : openP l = (0, [], 0, (openP l).2.2.2) := by
  unfold openP at h ⊢
  cases l with
  | nil => rfl
  | cons c t =>
    simp only [] at h ⊢
    by_cases h1 : c = 0
    · rw [if_pos h1]
    rw [if_neg h1] at h ⊢
    by_cases h2 : (getN t).2.2 = 2 ∧ t.length ≤ 1
    · rw [if_pos h2]
    rw [if_neg h2] at h ⊢
    by_cases h3 : (getN t).2.2 ≠ 0 ∨ (getN t).1 < 0 ∨ 4000 < (getN t).1
    · rw [if_pos h3]
    rw [if_neg h3] at h ⊢
    by_cases h4 : t.length < (getN t).2.1 + 4 + (getN t).1.toNat
    · rw [if_pos h4]
    rw [if_neg h4] at h ⊢
    split at h
    · exact absurd rfl h
    · rename_i h5
      rw [if_neg h5]
theorem open_canon {l : List UInt8} (h : (openP l).2.2.2 = 0) : l.take (openP l).2.2.1 = sealP (openP l).1 (openP l).2.1 ∧ 1 ≤ (openP l).1 ∧ (openP l).2.2.1 = (sealP (openP l).1 (openP l).2.1).length := by
  have hk := openP_ok h
  have key : l.take (openP l).2.2.1 = sealP (openP l).1 (openP l).2.1 ∧ 1 ≤ (openP l).1 := by
    cases l with
    | nil => simp [openP] at h
    | cons c t =>
      unfold openP at h ⊢
      simp only [] at h ⊢
      by_cases h1 : c = 0
      · rw [if_pos h1] at h; simp at h
      rw [if_neg h1] at h ⊢
      by_cases h2 : (getN t).2.2 = 2 ∧ t.length ≤ 1
      · rw [if_pos h2] at h; simp at h
      rw [if_neg h2] at h ⊢
      by_cases h3 : (getN t).2.2 ≠ 0 ∨ (getN t).1 < 0 ∨ 4000 < (getN t).1
      · rw [if_pos h3] at h; simp at h
      rw [if_neg h3] at h ⊢
      by_cases h4 : t.length < (getN t).2.1 + 4 + (getN t).1.toNat
      · rw [if_pos h4] at h; simp at h
      rw [if_neg h4] at h ⊢
      split at h
      · rename_i h5
        rw [if_pos h5]
        have hg : getN t = ((getN t).1, (getN t).2.1, 0) := by
          have : (getN t).2.2 = 0 := Decidable.not_not.1 fun hx => h3 (.inl hx)
          rw [← this]
        refine ⟨((open_ref h1 hg (by omega) (by omega) (by omega)).2 h5).symm, ?_⟩
        have : c.toNat ≠ 0 := fun hx => h1 (by rw [← ofNat_toNat' c, hx]; rfl)
        show 1 ≤ (c.toNat : Int)
        omega
      · simp at h
  refine ⟨key.1, key.2, ?_⟩
  rw [← key.1, List.length_take]
  omega

theorem mayR_body {r : Rec} (h : mayR r = true) : (bodyR r).length ≤ 4000 := by
  have hp := fun n => (putN_len n).2
  unfold mayR at h
  unfold bodyR
  by_cases hd : r.hd = true
  · rw [if_pos hd]
    have h1 := hp r.t
    have h2 := hp r.v
    rw [List.length_append]
    omega
  · rw [if_neg hd] at h ⊢
    simp only [Bool.and_eq_true, decide_eq_true_eq] at h
    have h1 := hp r.e.i
    have h2 := hp r.e.t
    have h3 := hp r.e.k
    have h4 := hp r.e.d.data.toList.length
    have h5 : r.e.d.data.toList.length = r.e.d.size := size_data _
    simp only [List.length_append, putT]
    omega
theorem ba_data (d : ByteArray) : (⟨d.data.toList.toArray⟩ : ByteArray) = d := by simp

theorem hardP_enc (t v : Int) (ht0 : 0 ≤ t) (ht1 : t ≤ 1099511627776) (hv0 : 0 ≤ v) (hv1 : v ≤ 7) : hardP (putN t ++ putN v) = (⟨true, t, v, zeroE⟩, [], false) := by
  unfold hardP
  rw [rdN_put t (putN v) (by omega) (by omega)]
  have := rdN_put v [] (by omega) (by omega)
  rw [List.append_nil] at this
  simp only [this]
theorem entP_enc (e : Ent) (h1 : 1 ≤ e.i) (h2 : e.i ≤ 1099511627776) (h3 : 1 ≤ e.t) (h4 : e.t ≤ 1099511627776) (h5 : 1 ≤ e.k) (h6 : e.k ≤ 3) (h7 : e.d.size ≤ 2500) :
    entP (putN e.i ++ putN e.t ++ putN e.k ++ putT e.d.data.toList) = (⟨false, 0, 0, e⟩, [], false) := by
  unfold entP
  have hs : e.d.data.toList.length = e.d.size := size_data _
  have := rdT_put e.d.data.toList [] (by omega)
  rw [List.append_nil] at this
  rw [List.append_assoc, List.append_assoc, rdN_put e.i _ (by omega) (by omega)]
  simp only [rdN_put e.t _ (by omega) (by omega), rdN_put e.k _ (by omega) (by omega), this, ba_data]

/-- A record's bytes are read. -/
theorem decR_enc {r : Rec} (rest : List UInt8) (h : mayR r = true) : decR (encR r ++ rest) = (r, (encR r).length, 0) := by
  have hb := mayR_body h
  have h' := h
  unfold encR
  rw [if_pos h]
  unfold mayR at h
  unfold decR
  by_cases hd : r.hd = true
  · rw [if_pos hd] at h ⊢
    simp only [Bool.and_eq_true, decide_eq_true_eq, beq_iff_eq] at h
    obtain ⟨⟨⟨⟨a1, a2⟩, a3⟩, a4⟩, ⟨⟨b1, b2⟩, b3⟩, b4⟩ := h
    rw [open_seal rest (by omega) (by omega) hb]
    have hr : r = ⟨true, r.t, r.v, zeroE⟩ := by
      obtain ⟨hd', t, v, ⟨i, t', k, d⟩⟩ := r
      simp only at hd b1 b2 b3 b4
      subst hd b1 b2 b3
      have : d = .empty := by
        apply ByteArray.ext
        have : d.data.toList = [] := List.eq_nil_of_length_eq_zero ((size_data d).trans b4)
        simpa using this
      subst this
      rfl
    have hbd : bodyR r = putN r.t ++ putN r.v := by unfold bodyR; rw [if_pos hd]
    simp only [ne_eq, not_true_eq_false, if_false, if_true]
    have := hardP_enc r.t r.v a1 a2 a3 a4
    rw [← hr, ← hbd] at this
    rw [this]
    unfold finP
    rw [if_pos (by rw [h']; rfl)]
  · rw [if_neg hd] at h ⊢
    simp only [Bool.and_eq_true, decide_eq_true_eq, beq_iff_eq] at h
    obtain ⟨⟨⟨⟨⟨b1, b2⟩, ⟨⟨a1, a2⟩, a3⟩, a4⟩, a5⟩, a6⟩, a7⟩ := h
    rw [open_seal rest (by omega) (by omega) hb]
    have hr : r = ⟨false, 0, 0, r.e⟩ := by
      obtain ⟨hd', t, v, e⟩ := r
      simp only [Bool.not_eq_true] at hd b1 b2
      subst hd b1 b2
      rfl
    have hbd : bodyR r = putN r.e.i ++ putN r.e.t ++ putN r.e.k ++ putT r.e.d.data.toList := by unfold bodyR; rw [if_neg hd]
    simp only [ne_eq, not_true_eq_false, if_false, if_true, show ((2 : Int) = 1) = False from by simp]
    have := entP_enc r.e a1 a2 a3 a4 a5 a6 a7
    rw [← hr, ← hbd] at this
    rw [this]
    unfold finP
    rw [if_pos (by rw [h']; rfl)]

/-- What is read was written. -/
theorem decR_ok {l : List UInt8} (h : (decR l).2.2 = 0) : mayR (decR l).1 = true ∧ l.take (decR l).2.1 = encR (decR l).1 ∧ (decR l).2.1 = (encR (decR l).1).length ∧ 5 ≤ (decR l).2.1 ∧ (decR l).2.1 ≤ l.length := by
  unfold decR at h ⊢
  by_cases h1 : (openP l).2.2.2 ≠ 0
  · rw [if_pos h1] at h; exact absurd h h1
  rw [if_neg h1] at h ⊢
  have ho : (openP l).2.2.2 = 0 := Decidable.not_not.1 h1
  obtain ⟨c1, c2, c3⟩ := open_canon ho
  obtain ⟨k1, k2, -, -, -⟩ := openP_ok ho
  have fin : ∀ p : Rec × List UInt8 × Bool, (finP p (openP l).2.2.1).2.2 = 0 → rdD p.2 = true ∧ mayR p.1 = true ∧ finP p (openP l).2.2.1 = (p.1, (openP l).2.2.1, 0) := by
    intro p hp
    unfold finP at hp ⊢
    split at hp
    · rename_i hc
      rw [if_pos hc]
      rw [Bool.and_eq_true] at hc
      exact ⟨hc.1, hc.2, rfl⟩
    · cases hp
  by_cases h2 : (openP l).1 = 1
  · rw [if_pos h2] at h ⊢
    obtain ⟨f1, f2, f3⟩ := fin _ h
    rw [f3]
    generalize hB : (openP l).2.1 = B at *
    have hbd : bodyR (hardP B).1 = B := by
      obtain ⟨x, b2, s2, hx⟩ : ∃ x b2 s2, rdN (B, false) = (x, b2, s2) := ⟨_, _, _, rfl⟩
      obtain ⟨y, b3, s3, hy⟩ : ∃ y b3 s3, rdN (b2, s2) = (y, b3, s3) := ⟨_, _, _, rfl⟩
      unfold hardP at f1 ⊢
      simp only [hx, hy] at f1 ⊢
      simp only [rdD, Bool.and_eq_true, Bool.not_eq_true', decide_eq_true_eq] at f1
      obtain ⟨rfl, hl⟩ := f1
      obtain rfl : b3 = [] := List.eq_nil_of_length_eq_zero hl
      obtain ⟨rfl, e1, -⟩ := rdN_ok hy
      obtain ⟨-, e2, -⟩ := rdN_ok hx
      show putN x ++ putN y = B
      rw [e2, e1, List.append_nil]
    have hhd : (hardP B).1.hd = true := rfl
    have he : encR (hardP B).1 = sealP 1 B := by
      unfold encR
      rw [if_pos f2, if_pos hhd, hbd]
    refine ⟨f2, ?_, ?_, k1, k2⟩
    · rw [he, c1, h2]
    · rw [he, c3, h2]
  rw [if_neg h2] at h ⊢
  by_cases h3 : (openP l).1 = 2
  · rw [if_pos h3] at h ⊢
    obtain ⟨f1, f2, f3⟩ := fin _ h
    rw [f3]
    generalize hB : (openP l).2.1 = B at *
    have hbd : bodyR (entP B).1 = B := by
      obtain ⟨x, b2, s2, hx⟩ : ∃ x b2 s2, rdN (B, false) = (x, b2, s2) := ⟨_, _, _, rfl⟩
      obtain ⟨y, b3, s3, hy⟩ : ∃ y b3 s3, rdN (b2, s2) = (y, b3, s3) := ⟨_, _, _, rfl⟩
      obtain ⟨z, b4, s4, hz⟩ : ∃ y b4 s4, rdN (b3, s3) = (y, b4, s4) := ⟨_, _, _, rfl⟩
      obtain ⟨d, b5, s5, hd⟩ : ∃ y b5 s5, rdT (b4, s4) = (y, b5, s5) := ⟨_, _, _, rfl⟩
      unfold entP at f1 ⊢
      simp only [hx, hy, hz, hd] at f1 ⊢
      simp only [rdD, Bool.and_eq_true, Bool.not_eq_true', decide_eq_true_eq] at f1
      obtain ⟨rfl, hl⟩ := f1
      obtain rfl : b5 = [] := List.eq_nil_of_length_eq_zero hl
      obtain ⟨rfl, e0, -⟩ := rdT_ok hd
      obtain ⟨rfl, e1, -⟩ := rdN_ok hz
      obtain ⟨rfl, e2, -⟩ := rdN_ok hy
      obtain ⟨-, e3, -⟩ := rdN_ok hx
      show putN x ++ putN y ++ putN z ++ putT d = B
      rw [e3, e2, e1, e0, List.append_nil, List.append_assoc, List.append_assoc]
    have hhd : ¬ (entP B).1.hd = true := by simp [entP]
    have he : encR (entP B).1 = sealP 2 B := by
      unfold encR
      rw [if_pos f2, if_neg hhd, hbd]
    refine ⟨f2, ?_, ?_, k1, k2⟩
    · rw [he, c1, h3]
    · rw [he, c3, h3]
  · rw [if_neg h3] at h; cases h
theorem decR_no {l : List UInt8} (h : (decR l).2.2 ≠ 0) : decR l = (zeroR, 0, (decR l).2.2) := by
  unfold decR at h ⊢
  split
  · rfl
  · rename_i h1
    rw [if_neg h1] at h
    have fin : ∀ p n, (finP p n).2.2 ≠ 0 → finP p n = (zeroR, 0, (finP p n).2.2) := by
      intro p n hp
      unfold finP at hp ⊢
      split
      · rename_i hc; rw [if_pos hc] at hp; exact absurd rfl hp
      · rfl
    split
    · rename_i h2; rw [if_pos h2] at h; exact fin _ _ h
    · rename_i h2
      rw [if_neg h2] at h
      split
      · rename_i h3; rw [if_pos h3] at h; exact fin _ _ h
      · rfl

/-- Records one behind the other: which, how far, and whether what stands behind is nothing or torn. -/
def scanF : Nat → List UInt8 → List Rec × Nat × Bool
  | 0, _ => ([], 0, true)
  | f + 1, l => if l.length = 0 then ([], 0, true) else if (decR l).2.2 ≠ 0 then ([], 0, decide ((decR l).2.2 = 2))
    else ((decR l).1 :: (scanF f (l.drop (decR l).2.1)).1, (decR l).2.1 + (scanF f (l.drop (decR l).2.1)).2.1, (scanF f (l.drop (decR l).2.1)).2.2)
theorem scanF_stable : ∀ (f g : Nat) (l : List UInt8), l.length < f → l.length < g → scanF f l = scanF g l := by
  intro f
  induction f with
  | zero => intro g l h; omega
  | succ f ih =>
    intro g l hf hg
    cases g with
    | zero => omega
    | succ g =>
      rw [scanF, scanF]
      by_cases h0 : l.length = 0
      · rw [if_pos h0, if_pos h0]
      · rw [if_neg h0, if_neg h0]
        by_cases h : (decR l).2.2 ≠ 0
        · rw [if_pos h, if_pos h]
        · rw [if_neg h, if_neg h]
          have ho := decR_ok (l := l) (by simpa using h)
          rw [ih g (l.drop (decR l).2.1) (by rw [List.length_drop]; omega) (by rw [List.length_drop]; omega)]
def scanR (l : List UInt8) : List Rec × Nat × Bool := scanF (l.length + 1) l
theorem scanR_nil : scanR [] = ([], 0, true) := rfl
theorem scanR_no {l : List UInt8} (hl : l.length ≠ 0) (h : (decR l).2.2 ≠ 0) : scanR l = ([], 0, decide ((decR l).2.2 = 2)) := by
  unfold scanR
  rw [scanF, if_neg hl, if_pos h]
theorem scanR_yes {l : List UInt8} (hl : l.length ≠ 0) (h : (decR l).2.2 = 0) : scanR l = ((decR l).1 :: (scanR (l.drop (decR l).2.1)).1, (decR l).2.1 + (scanR (l.drop (decR l).2.1)).2.1, (scanR (l.drop (decR l).2.1)).2.2) := by
  have ho := decR_ok h
  unfold scanR
  rw [scanF, if_neg hl, if_neg (by simpa using h), scanF_stable l.length ((l.drop (decR l).2.1).length + 1) (l.drop (decR l).2.1) (by rw [List.length_drop]; omega) (Nat.lt_succ_self _)]
end Go.Proofs.Ytihcohneongomaa
