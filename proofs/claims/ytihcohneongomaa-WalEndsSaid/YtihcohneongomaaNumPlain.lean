/-
  No claim by itself: plain facts on numbers as bytes, with no program in sight. No condition.
-/
namespace Go.Proofs.Ytihcohneongomaa

/-- A number without sign, as the program writes it. -/
def zig (n : Int) : Nat := if n < 0 then (-2 * n - 1).toNat else (2 * n).toNat
def zag (u : Nat) : Int := if u % 2 = 1 then -(u / 2 : Nat) - 1 else (u / 2 : Nat)

/-- Bytes of seven bits each, the lowest first; the last one is below 128. -/
def leb : Nat → Nat → List UInt8
  | 0, u => [UInt8.ofNat u]
  | f + 1, u => if u < 128 then [UInt8.ofNat u] else UInt8.ofNat (u % 128 + 128) :: leb f (u / 128)
def putN (n : Int) : List UInt8 := leb 9 (zig n)

/-- The first number of bytes: its value, how many bytes, the error. -/
def getF : Nat → Nat → List UInt8 → Int × Nat × Nat
  | _, _, [] => (0, 0, 2)
  | i, u, c :: l =>
    if i = 9 ∧ 1 < c.toNat then (0, 0, 1)
    else if 127 < c.toNat then getF (i + 1) (u + c.toNat % 128 * 128 ^ i) l
    else if 0 < i ∧ c.toNat = 0 then (0, 0, 1)
    else (zag (u + c.toNat % 128 * 128 ^ i), i + 1, 0)
def getN (l : List UInt8) : Int × Nat × Nat := getF 0 0 l

theorem zig_lt {n : Int} (h0 : -9223372036854775808 ≤ n) (h1 : n ≤ 9223372036854775807) : zig n < 18446744073709551616 := by unfold zig; split <;> omega
theorem zag_zig (n : Int) : zag (zig n) = n := by
  unfold zig zag
  by_cases h : n < 0
  · rw [if_pos h, if_pos (by omega)]; omega
  · rw [if_neg h, if_neg (by omega)]; omega
theorem zag_bd {u : Nat} (h : u < 18446744073709551616) : -9223372036854775808 ≤ zag u ∧ zag u ≤ 9223372036854775807 := by unfold zag; split <;> omega

theorem toNat_ofNat {u : Nat} (h : u < 256) : (UInt8.ofNat u).toNat = u := by simp; omega

theorem leb_len (f : Nat) : ∀ u, 1 ≤ (leb f u).length ∧ (leb f u).length ≤ f + 1 := by
  induction f with
  | zero => intro u; simp [leb]
  | succ f ih =>
    intro u
    rw [leb]
    split
    · simp
    · have := ih (u / 128)
      simp only [List.length_cons]
      omega
theorem putN_len (n : Int) : 1 ≤ (putN n).length ∧ (putN n).length ≤ 10 := leb_len 9 _

/-- What was written is read again, whatever stands behind. -/
theorem getF_leb (rest : List UInt8) (f : Nat) : ∀ (i u a : Nat), i + f = 9 → u < 2 * 128 ^ f → (0 < i → 0 < u) →
    getF i a (leb f u ++ rest) = (zag (a + u * 128 ^ i), i + (leb f u).length, 0) := by
  induction f with
  | zero =>
    intro i u a hi hu h0
    have hi9 : i = 9 := by omega
    subst hi9
    have hu' : u < 2 := by simpa using hu
    have := h0 (by omega)
    have ht : (UInt8.ofNat u).toNat = u := toNat_ofNat (by omega)
    simp only [leb, List.cons_append, List.nil_append, getF, ht]
    rw [if_neg (by omega), if_neg (by omega), if_neg (by omega)]
    simp [Nat.mod_eq_of_lt (show u < 128 by omega)]
  | succ f ih =>
    intro i u a hi hu h0
    rw [leb]
    by_cases h : u < 128
    · rw [if_pos h]
      have ht : (UInt8.ofNat u).toNat = u := toNat_ofNat (by omega)
      simp only [List.cons_append, List.nil_append, getF, ht]
      rw [if_neg (by omega), if_neg (by omega), if_neg (by intro hh; have := h0 hh.1; omega)]
      simp [Nat.mod_eq_of_lt h]
    · rw [if_neg h]
      have ht : (UInt8.ofNat (u % 128 + 128)).toNat = u % 128 + 128 := toNat_ofNat (by omega)
      simp only [List.cons_append, getF, ht]
      rw [if_neg (by omega), if_pos (by omega), ih (i + 1) (u / 128) _ (by omega) (by rw [Nat.pow_succ] at hu; omega) (by intro _; omega)]
      have e : a + (u % 128 + 128) % 128 * 128 ^ i + u / 128 * 128 ^ (i + 1) = a + u * 128 ^ i := by
        rw [show (u % 128 + 128) % 128 = u % 128 by omega, Nat.pow_succ, Nat.add_assoc, ← Nat.mul_assoc, Nat.mul_right_comm, ← Nat.add_mul]
        congr 2
        omega
      rw [e]
      simp only [List.length_cons]
      congr 2
      omega

theorem getN_putN (n : Int) (rest : List UInt8) (h0 : -9223372036854775808 ≤ n) (h1 : n ≤ 9223372036854775807) : getN (putN n ++ rest) = (n, (putN n).length, 0) := by
  have h := getF_leb rest 9 0 (zig n) 0 (by omega) (by have := zig_lt h0 h1; omega) (by omega)
  unfold getN putN
  rw [h]
  simp [zag_zig]

/-- A cut of what was written is not all. -/
theorem getF_cut (f : Nat) : ∀ (i u a k : Nat), i + f = 9 → u < 2 * 128 ^ f → k < (leb f u).length → getF i a ((leb f u).take k) = (0, 0, 2) := by
  induction f with
  | zero =>
    intro i u a k hi hu hk
    simp only [leb, List.length_cons, List.length_nil] at hk
    obtain rfl : k = 0 := by omega
    simp [getF]
  | succ f ih =>
    intro i u a k hi hu hk
    rw [leb] at hk ⊢
    by_cases h : u < 128
    · rw [if_pos h] at hk ⊢
      simp only [List.length_cons, List.length_nil] at hk
      obtain rfl : k = 0 := by omega
      simp [getF]
    · rw [if_neg h] at hk ⊢
      cases k with
      | zero => simp [getF]
      | succ k =>
        have ht : (UInt8.ofNat (u % 128 + 128)).toNat = u % 128 + 128 := toNat_ofNat (by omega)
        simp only [List.take_succ_cons, getF, ht]
        rw [if_neg (by omega), if_pos (by omega)]
        exact ih (i + 1) (u / 128) _ k (by omega) (by rw [Nat.pow_succ] at hu; omega) (by simpa using hk)
theorem getN_cut (n : Int) (k : Nat) (h0 : -9223372036854775808 ≤ n) (h1 : n ≤ 9223372036854775807) (hk : k < (putN n).length) : getN ((putN n).take k) = (0, 0, 2) :=
  getF_cut 9 0 (zig n) 0 k (by omega) (by have := zig_lt h0 h1; omega) hk

/-- What any bytes give. -/
theorem getF_any (l : List UInt8) : ∀ (i u : Nat), i ≤ 9 → u < 128 ^ i → (getF i u l = (0, 0, 1) ∨ getF i u l = (0, 0, 2)) ∨
    ∃ x k, getF i u l = (x, k, 0) ∧ -9223372036854775808 ≤ x ∧ x ≤ 9223372036854775807 ∧ i < k ∧ k ≤ i + l.length ∧ k ≤ 10 := by
  induction l with
  | nil => intro i u _ _; exact .inl (.inr rfl)
  | cons c l ih =>
    intro i u hi hu
    have hc := c.toNat_lt
    rw [getF]
    by_cases h1 : i = 9 ∧ 1 < c.toNat
    · rw [if_pos h1]; exact .inl (.inl rfl)
    · rw [if_neg h1]
      by_cases h2 : 127 < c.toNat
      · rw [if_pos h2]
        have hlt : u + c.toNat % 128 * 128 ^ i < 128 ^ (i + 1) := by
          have : c.toNat % 128 * 128 ^ i ≤ 127 * 128 ^ i := Nat.mul_le_mul_right _ (by omega)
          rw [Nat.pow_succ]
          omega
        rcases ih (i + 1) _ (by omega) hlt with h | ⟨x, k, h, a, b, c', d, e⟩
        · exact .inl h
        · exact .inr ⟨x, k, h, a, b, by omega, by simp; omega, e⟩
      · rw [if_neg h2]
        by_cases h3 : 0 < i ∧ c.toNat = 0
        · rw [if_pos h3]; exact .inl (.inl rfl)
        · rw [if_neg h3]
          have hlt : u + c.toNat % 128 * 128 ^ i < 18446744073709551616 := by
            by_cases h9 : i = 9
            · subst h9
              have : c.toNat % 128 * 128 ^ 9 ≤ 1 * 128 ^ 9 := Nat.mul_le_mul_right _ (by omega)
              omega
            · have h4 : c.toNat % 128 * 128 ^ i ≤ 127 * 128 ^ i := Nat.mul_le_mul_right _ (by omega)
              have h5 : 128 ^ (i + 1) ≤ 128 ^ 9 := Nat.pow_le_pow_right (by omega) (by omega)
              rw [Nat.pow_succ] at h5
              omega
          have := zag_bd hlt
          exact .inr ⟨_, _, rfl, this.1, this.2, by omega, by simp only [List.length_cons]; omega, by omega⟩
theorem getN_any (l : List UInt8) : (getN l = (0, 0, 1) ∨ getN l = (0, 0, 2)) ∨ ∃ x k, getN l = (x, k, 0) ∧ -9223372036854775808 ≤ x ∧ x ≤ 9223372036854775807 ∧ 0 < k ∧ k ≤ l.length ∧ k ≤ 10 := by
  rcases getF_any l 0 0 (by omega) (by decide) with h | ⟨x, k, h, a, b, c, d, e⟩
  · exact .inl h
  · exact .inr ⟨x, k, h, a, b, c, by omega, e⟩

/-- Four bytes of a number below 2^32. -/
def fourN (u : Nat) : List UInt8 := [UInt8.ofNat (u / 16777216), UInt8.ofNat (u / 65536), UInt8.ofNat (u / 256), UInt8.ofNat u]

/-- A text: its length, and its bytes. -/
def putT (s : List UInt8) : List UInt8 := putN s.length ++ s
def getT (l : List UInt8) : List UInt8 × Nat × Nat :=
  if (getN l).2.2 ≠ 0 then ([], 0, (getN l).2.2)
  else if (getN l).1 < 0 ∨ 1048576 < (getN l).1 then ([], 0, 1)
  else if (l.length : Int) - (getN l).2.1 < (getN l).1 then ([], 0, 2)
  else ((l.drop (getN l).2.1).take (getN l).1.toNat, (getN l).2.1 + (getN l).1.toNat, 0)

theorem getT_putT (s rest : List UInt8) (h : s.length ≤ 1048576) : getT (putT s ++ rest) = (s, (putT s).length, 0) := by
  have hg := getN_putN s.length (s ++ rest) (by omega) (by omega)
  rw [← List.append_assoc] at hg
  unfold putT
  unfold getT
  simp only [hg]
  rw [if_neg (by omega), if_neg (by omega), if_neg (by simp only [List.length_append]; omega)]
  simp

theorem getT_cut (s : List UInt8) (k : Nat) (h : s.length ≤ 1048576) (hk : k < (putT s).length) : getT ((putT s).take k) = ([], 0, 2) := by
  by_cases hk' : k < (putN s.length).length
  · have e : (putT s).take k = (putN s.length).take k := by
      unfold putT
      rw [List.take_append_of_le_length (by omega)]
    rw [e]
    unfold getT
    simp only [getN_cut s.length k (by omega) (by omega) hk']
    rfl
  · have e : (putT s).take k = putN s.length ++ s.take (k - (putN s.length).length) := by
      unfold putT
      rw [List.take_append, List.take_of_length_le (by omega)]
    rw [e]
    have hg := getN_putN s.length (s.take (k - (putN s.length).length)) (by omega) (by omega)
    unfold getT
    simp only [hg]
    unfold putT at hk
    rw [List.length_append] at hk
    rw [if_neg (by omega), if_neg (by omega), if_pos (by simp; omega)]

theorem leb_mono (f : Nat) : ∀ u v, u ≤ v → (leb f u).length ≤ (leb f v).length := by
  induction f with
  | zero => intro u v _; simp [leb]
  | succ f ih =>
    intro u v h
    rw [leb, leb]
    by_cases hu : u < 128
    · rw [if_pos hu]
      split
      · simp
      · simp
    · rw [if_neg hu, if_neg (by omega)]
      have := ih (u / 128) (v / 128) (by omega)
      simp only [List.length_cons]
      omega
theorem putN_mono {m n : Int} (h : zig m ≤ zig n) : (putN m).length ≤ (putN n).length := leb_mono 9 _ _ h
end Go.Proofs.Ytihcohneongomaa
