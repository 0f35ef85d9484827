/-
  No claim by itself: plain facts on numbers as bytes, with no program in sight. | plain facts on the sum of bytes (a polynomial's remainder), with no program in sight. | plain facts on frames, with no program in sight. | plain facts on frames that stand one behind the other. No condition.
-/
import Derived.Laws.BitsAllLaws
namespace Go.Proofs.Ytcogmohepcifiaa

/-- A number without sign, as the program writes it. -/
def zig (n : Int) : Nat := if n < 0 then (-2 * n - 1).toNat else (2 * n).toNat
def zag (u : Nat) : Int := if u % 2 = 1 then -(u / 2 : Nat) - 1 else (u / 2 : Nat)

/-- Bytes of seven bits each, the lowest first; the last one is below 128. -/
def leb : Nat → Nat → List UInt8
  | 0, u => [UInt8.ofNat u]
  | f + 1, u => if u < 128 then [UInt8.ofNat u] else UInt8.ofNat (u % 128 + 128) :: leb f (u / 128)
def putN (n : Int) : List UInt8 := leb 9 (zig n)

/-- The first number of bytes: its value, how many bytes, the error. -/
def getF : Nat → Nat → List UInt8 → Int × Nat × Nat
  | _, _, [] => (0, 0, 2)
  | i, u, c :: l =>
    if i = 9 ∧ 1 < c.toNat then (0, 0, 1)
    else if 127 < c.toNat then getF (i + 1) (u + c.toNat % 128 * 128 ^ i) l
    else if 0 < i ∧ c.toNat = 0 then (0, 0, 1)
    else (zag (u + c.toNat % 128 * 128 ^ i), i + 1, 0)
def getN (l : List UInt8) : Int × Nat × Nat := getF 0 0 l

theorem zig_lt {n : Int} (h0 : -9223372036854775808 ≤ n) (h1 : n ≤ 9223372036854775807) : zig n < 18446744073709551616 := by unfold zig; split <;> omega
theorem zag_zig (n : Int) : zag (zig n) = n := by
  unfold zig zag
  by_cases h : n < 0
  · rw [if_pos h, if_pos (by omega)]; omega
  · rw [if_neg h, if_neg (by omega)]; omega
theorem zag_bd {u : Nat} (h : u < 18446744073709551616) : -9223372036854775808 ≤ zag u ∧ zag u ≤ 9223372036854775807 := by unfold zag; split <;> omega

theorem toNat_ofNat {u : Nat} (h : u < 256) : (UInt8.ofNat u).toNat = u := by simp; omega

theorem leb_len (f : Nat) : ∀ u, 1 ≤ (leb f u).length ∧ (leb f u).length ≤ f + 1 := by
  induction f with
  | zero => intro u; simp [leb]
  | succ f ih =>
    intro u
    rw [leb]
    split
    · simp
    · have := ih (u / 128)
      simp only [List.length_cons]
      omega
theorem putN_len (n : Int) : 1 ≤ (putN n).length ∧ (putN n).length ≤ 10 := leb_len 9 _

/-- What was written is read again, whatever stands behind. -/
theorem getF_leb (rest : List UInt8) (f : Nat) : ∀ (i u a : Nat), i + f = 9 → u < 2 * 128 ^ f → (0 < i → 0 < u) →
    getF i a (leb f u ++ rest) = (zag (a + u * 128 ^ i), i + (leb f u).length, 0) := by
  induction f with
  | zero =>
    intro i u a hi hu h0
    have hi9 : i = 9 := by omega
    subst hi9
    have hu' : u < 2 := by simpa using hu
    have := h0 (by omega)
    have ht : (UInt8.ofNat u).toNat = u := toNat_ofNat (by omega)
    simp only [leb, List.cons_append, List.nil_append, getF, ht]
    rw [if_neg (by omega), if_neg (by omega), if_neg (by omega)]
    simp [Nat.mod_eq_of_lt (show u < 128 by omega)]
  | succ f ih =>
    intro i u a hi hu h0
    rw [leb]
    by_cases h : u < 128
    · rw [if_pos h]
      have ht : (UInt8.ofNat u).toNat = u := toNat_ofNat (by omega)
      simp only [List.cons_append, List.nil_append, getF, ht]
      rw [if_neg (by omega), if_neg (by omega), if_neg (by intro hh; have := h0 hh.1; omega)]
      simp [Nat.mod_eq_of_lt h]
    · rw [if_neg h]
      have ht : (UInt8.ofNat (u % 128 + 128)).toNat = u % 128 + 128 := toNat_ofNat (by omega)
      simp only [List.cons_append, getF, ht]
      rw [if_neg (by omega), if_pos (by omega), ih (i + 1) (u / 128) _ (by omega) (by rw [Nat.pow_succ] at hu; omega) (by intro _; omega)]
      have e : a + (u % 128 + 128) % 128 * 128 ^ i + u / 128 * 128 ^ (i + 1) = a + u * 128 ^ i := by
        rw [show (u % 128 + 128) % 128 = u % 128 by omega, Nat.pow_succ, Nat.add_assoc, ← Nat.mul_assoc, Nat.mul_right_comm, ← Nat.add_mul]
        congr 2
        omega
      rw [e]
      simp only [List.length_cons]
      congr 2
      omega

theorem getN_putN (n : Int) (rest : List UInt8) (h0 : -9223372036854775808 ≤ n) (h1 : n ≤ 9223372036854775807) : getN (putN n ++ rest) = (n, (putN n).length, 0) := by
  have h := getF_leb rest 9 0 (zig n) 0 (by omega) (by have := zig_lt h0 h1; omega) (by omega)
  unfold getN putN
  rw [h]
  simp [zag_zig]

/-- A cut of what was written is not all. -/
theorem getF_cut (f : Nat) : ∀ (i u a k : Nat), i + f = 9 → u < 2 * 128 ^ f → k < (leb f u).length → getF i a ((leb f u).take k) = (0, 0, 2) := by
  induction f with
  | zero =>
    intro i u a k hi hu hk
    simp only [leb, List.length_cons, List.length_nil] at hk
    obtain rfl : k = 0 := by omega
    simp [getF]
  | succ f ih =>
    intro i u a k hi hu hk
    rw [leb] at hk ⊢
    by_cases h : u < 128
    · rw [if_pos h] at hk ⊢
      simp only [List.length_cons, List.length_nil] at hk
      obtain rfl : k = 0 := by omega
      simp [getF]
    · rw [if_neg h] at hk ⊢
      cases k with
      | zero => simp [getF]
      | succ k =>
        have ht : (UInt8.ofNat (u % 128 + 128)).toNat = u % 128 + 128 := toNat_ofNat (by omega)
        simp only [List.take_succ_cons, getF, ht]
        rw [if_neg (by omega), if_pos (by omega)]
        exact ih (i + 1) (u / 128) _ k (by omega) (by rw [Nat.pow_succ] at hu; omega) (by simpa using hk)
theorem getN_cut (n : Int) (k : Nat) (h0 : -9223372036854775808 ≤ n) (h1 : n ≤ 9223372036854775807) (hk : k < (putN n).length) : getN ((putN n).take k) = (0, 0, 2) :=
  getF_cut 9 0 (zig n) 0 k (by omega) (by have := zig_lt h0 h1; omega) hk

/-- What any bytes give. -/
theorem getF_any (l : List UInt8) : ∀ (i u : Nat), i ≤ 9 → u < 128 ^ i → (getF i u l = (0, 0, 1) ∨ getF i u l = (0, 0, 2)) ∨
    ∃ x k, getF i u l = (x, k, 0) ∧ -9223372036854775808 ≤ x ∧ x ≤ 9223372036854775807 ∧ i < k ∧ k ≤ i + l.length ∧ k ≤ 10 := by
  induction l with
  | nil => intro i u _ _; exact .inl (.inr rfl)
  | cons c l ih =>
    intro i u hi hu
    have hc := c.toNat_lt
    rw [getF]
    by_cases h1 : i = 9 ∧ 1 < c.toNat
    · rw [if_pos h1]; exact .inl (.inl rfl)
    · rw [if_neg h1]
      by_cases h2 : 127 < c.toNat
      · rw [if_pos h2]
        have hlt : u + c.toNat % 128 * 128 ^ i < 128 ^ (i + 1) := by
          have : c.toNat % 128 * 128 ^ i ≤ 127 * 128 ^ i := Nat.mul_le_mul_right _ (by omega)
          rw [Nat.pow_succ]
          omega
        rcases ih (i + 1) _ (by omega) hlt with h | ⟨x, k, h, a, b, c', d, e⟩
        · exact .inl h
        · exact .inr ⟨x, k, h, a, b, by omega, by simp; omega, e⟩
      · rw [if_neg h2]
        by_cases h3 : 0 < i ∧ c.toNat = 0
        · rw [if_pos h3]; exact .inl (.inl rfl)
        · rw [if_neg h3]
          have hlt : u + c.toNat % 128 * 128 ^ i < 18446744073709551616 := by
            by_cases h9 : i = 9
            · subst h9
              have : c.toNat % 128 * 128 ^ 9 ≤ 1 * 128 ^ 9 := Nat.mul_le_mul_right _ (by omega)
              omega
            · have h4 : c.toNat % 128 * 128 ^ i ≤ 127 * 128 ^ i := Nat.mul_le_mul_right _ (by omega)
              have h5 : 128 ^ (i + 1) ≤ 128 ^ 9 := Nat.pow_le_pow_right (by omega) (by omega)
              rw [Nat.pow_succ] at h5
              omega
          have := zag_bd hlt
          exact .inr ⟨_, _, rfl, this.1, this.2, by omega, by simp only [List.length_cons]; omega, by omega⟩
theorem getN_any (l : List UInt8) : (getN l = (0, 0, 1) ∨ getN l = (0, 0, 2)) ∨ ∃ x k, getN l = (x, k, 0) ∧ -9223372036854775808 ≤ x ∧ x ≤ 9223372036854775807 ∧ 0 < k ∧ k ≤ l.length ∧ k ≤ 10 := by
  rcases getF_any l 0 0 (by omega) (by decide) with h | ⟨x, k, h, a, b, c, d, e⟩
  · exact .inl h
  · exact .inr ⟨x, k, h, a, b, c, by omega, e⟩

/-- Four bytes of a number below 2^32. -/
def fourN (u : Nat) : List UInt8 := [UInt8.ofNat (u / 16777216), UInt8.ofNat (u / 65536), UInt8.ofNat (u / 256), UInt8.ofNat u]

/-- A text: its length, and its bytes. -/
def putT (s : List UInt8) : List UInt8 := putN s.length ++ s
def getT (l : List UInt8) : List UInt8 × Nat × Nat :=
  if (getN l).2.2 ≠ 0 then ([], 0, (getN l).2.2)
  else if (getN l).1 < 0 ∨ 1048576 < (getN l).1 then ([], 0, 1)
  else if (l.length : Int) - (getN l).2.1 < (getN l).1 then ([], 0, 2)
  else ((l.drop (getN l).2.1).take (getN l).1.toNat, (getN l).2.1 + (getN l).1.toNat, 0)

theorem getT_putT (s rest : List UInt8) (h : s.length ≤ 1048576) : getT (putT s ++ rest) = (s, (putT s).length, 0) := by
  have hg := getN_putN s.length (s ++ rest) (by omega) (by omega)
  rw [← List.append_assoc] at hg
  unfold putT
  unfold getT
  simp only [hg]
  rw [if_neg (by omega), if_neg (by omega), if_neg (by simp only [List.length_append]; omega)]
  simp

theorem getT_cut (s : List UInt8) (k : Nat) (h : s.length ≤ 1048576) (hk : k < (putT s).length) : getT ((putT s).take k) = ([], 0, 2) := by
  by_cases hk' : k < (putN s.length).length
  · have e : (putT s).take k = (putN s.length).take k := by
      unfold putT
      rw [List.take_append_of_le_length (by omega)]
    rw [e]
    unfold getT
    simp only [getN_cut s.length k (by omega) (by omega) hk']
    rfl
  · have e : (putT s).take k = putN s.length ++ s.take (k - (putN s.length).length) := by
      unfold putT
      rw [List.take_append, List.take_of_length_le (by omega)]
    rw [e]
    have hg := getN_putN s.length (s.take (k - (putN s.length).length)) (by omega) (by omega)
    unfold getT
    simp only [hg]
    unfold putT at hk
    rw [List.length_append] at hk
    rw [if_neg (by omega), if_neg (by omega), if_pos (by simp; omega)]

theorem leb_mono (f : Nat) : ∀ u v, u ≤ v → (leb f u).length ≤ (leb f v).length := by
  induction f with
  | zero => intro u v _; simp [leb]
  | succ f ih =>
    intro u v h
    rw [leb, leb]
    by_cases hu : u < 128
    · rw [if_pos hu]
      split
      · simp
      · simp
    · rw [if_neg hu, if_neg (by omega)]
      have := ih (u / 128) (v / 128) (by omega)
      simp only [List.length_cons]
      omega
theorem putN_mono {m n : Int} (h : zig m ≤ zig n) : (putN m).length ≤ (putN n).length := leb_mono 9 _ _ h
end Go.Proofs.Ytcogmohepcifiaa
namespace Go.Proofs.Ytcogmohepcifiaa
def crcBit (x : Nat) : Nat := (x / 2) ^^^ (if x % 2 = 1 then 3988292384 else 0)
def crcBits : Nat → Nat → Nat
  | 0, x => x
  | k + 1, x => crcBit (crcBits k x)
def crcByte (x c : Nat) : Nat := crcBits 8 (x ^^^ c)
def crcRaw (x : Nat) (l : List UInt8) : Nat := l.foldl (fun x c => crcByte x c.toNat) x
def crcMore (s : Nat) (l : List UInt8) : Nat := 4294967295 ^^^ crcRaw (4294967295 ^^^ s) l
def crcSum (l : List UInt8) : Nat := crcMore 0 l

theorem xor_lt {a b : Nat} (ha : a < 4294967296) (hb : b < 4294967296) : a ^^^ b < 4294967296 := Nat.xor_lt_two_pow (n := 32) ha hb
theorem crcBit_lt {x : Nat} (h : x < 4294967296) : crcBit x < 4294967296 := by
  unfold crcBit; apply xor_lt; omega; split <;> omega
theorem crcBits_lt {k x : Nat} (h : x < 4294967296) : crcBits k x < 4294967296 := by
  induction k with
  | zero => exact h
  | succ k ih => exact crcBit_lt ih
theorem crcByte_lt {x c : Nat} (h : x < 4294967296) (hc : c < 256) : crcByte x c < 4294967296 := crcBits_lt (xor_lt h (by omega))
theorem crcRaw_lt {x : Nat} {l : List UInt8} (h : x < 4294967296) : crcRaw x l < 4294967296 := by
  unfold crcRaw
  induction l generalizing x with
  | nil => exact h
  | cons c l ih => exact ih (crcByte_lt h c.toNat_lt)
theorem crcMore_lt {s : Nat} {l : List UInt8} (h : s < 4294967296) : crcMore s l < 4294967296 := xor_lt (by omega) (crcRaw_lt (xor_lt (by omega) h))
theorem crcSum_lt (l : List UInt8) : crcSum l < 4294967296 := crcMore_lt (by omega)

/-- One bit of the program's text. -/
theorem crc_step (x : Nat) (h : x < 4294967296) : bits .xor .u32 ((x : Int) / 2) (bits .and .u32 3988292384 (-bits .and .u32 (x : Int) 1 % 4294967296)) = (crcBit x : Nat) := by
  have h1 : bits .and .u32 (x : Int) 1 = ((x % 2 : Nat) : Int) := by
    rw [show (1 : Int) = ((1 : Nat) : Int) from rfl, u32_and_nat _ _ h (by omega), Nat.and_one_is_mod]
  rw [h1]
  unfold crcBit
  rcases Nat.mod_two_eq_zero_or_one x with e | e
  · rw [e]
    have : bits .and .u32 3988292384 (-((0 : Nat) : Int) % 4294967296) = ((0 : Nat) : Int) := by decide +kernel
    rw [this, show (x : Int) / 2 = ((x / 2 : Nat) : Int) by omega, u32_xor_nat _ _ (by omega) (by omega)]
    simp
  · rw [e]
    have : bits .and .u32 3988292384 (-((1 : Nat) : Int) % 4294967296) = ((3988292384 : Nat) : Int) := by decide +kernel
    rw [this, show (x : Int) / 2 = ((x / 2 : Nat) : Int) by omega, u32_xor_nat _ _ (by omega) (by omega)]
    simp

theorem xor_mod2 (x y : Nat) : (x ^^^ y) % 2 = (x + y) % 2 := by
  have h : (x ^^^ y) % 2 = (x % 2) ^^^ (y % 2) := by rw [← Nat.and_one_is_mod, ← Nat.and_one_is_mod, ← Nat.and_one_is_mod, Nat.and_xor_distrib_right]
  rw [h]
  rcases Nat.mod_two_eq_zero_or_one x with e | e <;> rcases Nat.mod_two_eq_zero_or_one y with f | f <;> simp [e, f, Nat.add_mod]

theorem xor_zero {a b : Nat} (h : a ^^^ b = 0) : a = b := by
  have e : a = (a ^^^ b) ^^^ b := by rw [Nat.xor_assoc, Nat.xor_self, Nat.xor_zero]
  rw [e, h, Nat.zero_xor]

theorem crcBit_xor (x y : Nat) : crcBit (x ^^^ y) = crcBit x ^^^ crcBit y := by
  unfold crcBit
  rw [Nat.xor_div_two, xor_mod2]
  have key : (if (x + y) % 2 = 1 then 3988292384 else 0) = (if x % 2 = 1 then 3988292384 else 0) ^^^ (if y % 2 = 1 then 3988292384 else 0) := by
    rcases Nat.mod_two_eq_zero_or_one x with e | e <;> rcases Nat.mod_two_eq_zero_or_one y with f | f <;> simp [e, f, Nat.add_mod]
  rw [key]
  ac_rfl

theorem crcBits_xor (k x y : Nat) : crcBits k (x ^^^ y) = crcBits k x ^^^ crcBits k y := by
  induction k with
  | zero => rfl
  | succ k ih => rw [crcBits, ih, crcBit_xor]; rfl

theorem crcBit_zero {x : Nat} (hx : x < 4294967296) (h : crcBit x = 0) : x = 0 := by
  unfold crcBit at h
  have := xor_zero h
  split at this <;> omega

theorem crcBits_zero {k x : Nat} (hx : x < 4294967296) (h : crcBits k x = 0) : x = 0 := by
  induction k with
  | zero => exact h
  | succ k ih => exact ih (crcBit_zero (crcBits_lt hx) h)

theorem crcBits_nought (k : Nat) : crcBits k 0 = 0 := by
  induction k with
  | zero => rfl
  | succ k ih => rw [crcBits, ih]; rfl

theorem crcRaw_append (x : Nat) (l m : List UInt8) : crcRaw x (l ++ m) = crcRaw (crcRaw x l) m := by simp [crcRaw]

theorem xor_not (x : Nat) : 4294967295 ^^^ (4294967295 ^^^ x) = x := by rw [← Nat.xor_assoc, Nat.xor_self, Nat.zero_xor]

theorem crcMore_append (s : Nat) (l m : List UInt8) : crcMore s (l ++ m) = crcMore (crcMore s l) m := by
  unfold crcMore
  rw [crcRaw_append, xor_not]
theorem crcSum_append (l m : List UInt8) : crcSum (l ++ m) = crcMore (crcSum l) m := crcMore_append 0 l m
theorem crcMore_nil (s : Nat) : crcMore s [] = s := by show 4294967295 ^^^ (4294967295 ^^^ s) = s; exact xor_not s
theorem crcSum_nil : crcSum [] = 0 := crcMore_nil 0

/-- Three texts of one length. -/
def xor3 (a b c : List UInt8) : List UInt8 := List.zipWith (fun x y => x ^^^ y) (List.zipWith (fun x y => x ^^^ y) a b) c

theorem crcByte_three (x y z a b c : Nat) : crcByte (x ^^^ y ^^^ z) (a ^^^ b ^^^ c) = crcByte x a ^^^ crcByte y b ^^^ crcByte z c := by
  unfold crcByte
  rw [← crcBits_xor, ← crcBits_xor]
  congr 1
  ac_rfl

theorem crcRaw_three (a : List UInt8) : ∀ (b c : List UInt8) (x y z : Nat), a.length = b.length → b.length = c.length → crcRaw (x ^^^ y ^^^ z) (xor3 a b c) = crcRaw x a ^^^ crcRaw y b ^^^ crcRaw z c := by
  induction a with
  | nil =>
    intro b c x y z h1 h2
    obtain rfl : b = [] := List.eq_nil_of_length_eq_zero h1.symm
    obtain rfl : c = [] := List.eq_nil_of_length_eq_zero h2.symm
    rfl
  | cons a0 a ih =>
    intro b c x y z h1 h2
    match b, c, h1, h2 with
    | b0 :: b, c0 :: c, h1, h2 =>
      show crcRaw (crcByte (x ^^^ y ^^^ z) (a0 ^^^ b0 ^^^ c0).toNat) (xor3 a b c) = crcRaw (crcByte x a0.toNat) a ^^^ crcRaw (crcByte y b0.toNat) b ^^^ crcRaw (crcByte z c0.toNat) c
      rw [UInt8.toNat_xor, UInt8.toNat_xor, crcByte_three]
      exact ih b c _ _ _ (by simpa using h1) (by simpa using h2)

theorem crcSum_three (a b c : List UInt8) (h1 : a.length = b.length) (h2 : b.length = c.length) : crcSum (xor3 a b c) = crcSum a ^^^ crcSum b ^^^ crcSum c := by
  have h := crcRaw_three a b c 4294967295 4294967295 4294967295 h1 h2
  rw [show (4294967295 ^^^ 4294967295 ^^^ 4294967295 : Nat) = 4294967295 from by decide] at h
  show 4294967295 ^^^ crcRaw 4294967295 (xor3 a b c) = (4294967295 ^^^ crcRaw 4294967295 a) ^^^ (4294967295 ^^^ crcRaw 4294967295 b) ^^^ (4294967295 ^^^ crcRaw 4294967295 c)
  rw [h]
  generalize crcRaw 4294967295 a = A
  generalize crcRaw 4294967295 b = B
  generalize crcRaw 4294967295 c = C
  have e : (4294967295 ^^^ A) ^^^ (4294967295 ^^^ B) ^^^ (4294967295 ^^^ C) = (4294967295 ^^^ 4294967295) ^^^ (4294967295 ^^^ (A ^^^ B ^^^ C)) := by ac_rfl
  rw [e, Nat.xor_self, Nat.zero_xor]

/-- What differs before goes on to differ: the difference of two runs over one text. -/
theorem crcRaw_diff (l : List UInt8) : ∀ x y : Nat, x < 4294967296 → y < 4294967296 → crcRaw x l = crcRaw y l → x = y := by
  induction l with
  | nil => intro x y _ _ h; exact h
  | cons c l ih =>
    intro x y hx hy h
    have h' := ih _ _ (crcByte_lt hx c.toNat_lt) (crcByte_lt hy c.toNat_lt) h
    unfold crcByte at h'
    have h2 : crcBits 8 (x ^^^ y) = 0 := by
      have e : x ^^^ y = (x ^^^ c.toNat) ^^^ (y ^^^ c.toNat) := by
        have e1 : (x ^^^ c.toNat) ^^^ (y ^^^ c.toNat) = (c.toNat ^^^ c.toNat) ^^^ (x ^^^ y) := by ac_rfl
        rw [e1, Nat.xor_self, Nat.zero_xor]
      rw [e, crcBits_xor, h', Nat.xor_self]
    exact xor_zero (crcBits_zero (xor_lt hx hy) h2)

/-- Two runs over two texts of one length differ by the run over what parts them. -/
theorem crcRaw_xor (a : List UInt8) : ∀ (b : List UInt8) (x y : Nat), a.length = b.length → crcRaw x a ^^^ crcRaw y b = crcRaw (x ^^^ y) (List.zipWith (fun p q => p ^^^ q) a b) := by
  induction a with
  | nil =>
    intro b x y h1
    obtain rfl : b = [] := List.eq_nil_of_length_eq_zero h1.symm
    rfl
  | cons a0 a ih =>
    intro b x y h1
    match b, h1 with
    | b0 :: b, h1 =>
      show crcRaw (crcByte x a0.toNat) a ^^^ crcRaw (crcByte y b0.toNat) b = crcRaw (crcByte (x ^^^ y) (a0 ^^^ b0).toNat) (List.zipWith (fun p q => p ^^^ q) a b)
      rw [ih b _ _ (by simpa using h1), UInt8.toNat_xor]
      congr 1
      unfold crcByte
      rw [← crcBits_xor]
      congr 1
      ac_rfl

/-- A word of bytes, the first one lowest. -/
def wordOf : List UInt8 → Nat
  | [] => 0
  | c :: l => c.toNat + 256 * wordOf l

theorem wordOf_lt (l : List UInt8) : wordOf l < 256 ^ l.length := by
  induction l with
  | nil => simp [wordOf]
  | cons c l ih =>
    have := c.toNat_lt
    simp only [wordOf, List.length_cons, Nat.pow_succ]
    omega

theorem crcBit_even (x : Nat) : crcBit (2 * x) = x := by
  unfold crcBit
  rw [if_neg (by omega), Nat.xor_zero]
  omega

theorem crcBits_succ' (k x : Nat) : crcBits (k + 1) x = crcBits k (crcBit x) := by
  induction k with
  | zero => rfl
  | succ k ih => rw [crcBits, ih]; rfl

theorem crcBits_shift (k x : Nat) : crcBits k (2 ^ k * x) = x := by
  induction k generalizing x with
  | zero => simp [crcBits]
  | succ k ih =>
    rw [crcBits_succ', show 2 ^ (k + 1) * x = 2 * (2 ^ k * x) by rw [Nat.pow_succ]; ac_rfl, crcBit_even, ih]

theorem crcBits_add (j k x : Nat) : crcBits (j + k) x = crcBits j (crcBits k x) := by
  induction j with
  | zero => simp [crcBits]
  | succ j ih => rw [show j + 1 + k = (j + k) + 1 by omega, crcBits, ih]; rfl

theorem byte_word (c r : Nat) (hc : c < 256) : c + 256 * r = c ^^^ 256 * r := by
  have h := Nat.two_pow_add_eq_or_of_lt (i := 8) (b := c) (by omega) r
  have h2 : 256 * r &&& c = 0 := by
    apply Nat.eq_of_testBit_eq
    intro i
    rw [Nat.testBit_and, show 256 * r = 2 ^ 8 * r by rfl, Nat.testBit_two_pow_mul, Nat.zero_testBit]
    by_cases hi : 8 ≤ i
    · have : c.testBit i = false := Nat.testBit_lt_two_pow (Nat.lt_of_lt_of_le hc (show 2 ^ 8 ≤ 2 ^ i from Nat.pow_le_pow_right (by decide) hi))
      simp [this]
    · simp [hi]
  apply Nat.eq_of_testBit_eq
  intro i
  rw [show c + 256 * r = 2 ^ 8 * r + c by omega, h, Nat.testBit_or, Nat.testBit_xor]
  have h3 : (256 * r &&& c).testBit i = false := by rw [h2, Nat.zero_testBit]
  rw [Nat.testBit_and] at h3
  rw [show (256 : Nat) = 2 ^ 8 from rfl] at h3 ⊢
  revert h3
  cases (2 ^ 8 * r).testBit i <;> cases c.testBit i <;> simp

/-- The run over up to four bytes is that over their word. -/
theorem crcRaw_word (l : List UInt8) : ∀ r : Nat, crcRaw (wordOf l ^^^ r * 256 ^ l.length) (List.replicate l.length 0) = crcBits (8 * l.length) (wordOf l ^^^ r * 256 ^ l.length) := by
  intro r
  generalize wordOf l ^^^ r * 256 ^ l.length = x
  generalize l.length = n
  induction n generalizing x with
  | zero => rfl
  | succ n ih =>
    rw [List.replicate_succ]
    show crcRaw (crcByte x 0) (List.replicate n 0) = _
    rw [ih, show 8 * (n + 1) = 8 * n + 8 by omega, crcBits_add]
    unfold crcByte
    rw [Nat.xor_zero]

theorem crcRaw_lin (l : List UInt8) : ∀ x : Nat, crcRaw x l = crcBits (8 * l.length) (x ^^^ wordOf l) := by
  induction l with
  | nil => intro x; simp [crcRaw, crcBits, wordOf]
  | cons c l ih =>
    intro x
    show crcRaw (crcByte x c.toNat) l = _
    rw [ih, List.length_cons, show 8 * (l.length + 1) = 8 * l.length + 8 by omega, crcBits_add]
    congr 1
    unfold crcByte
    rw [wordOf, byte_word _ _ c.toNat_lt, ← Nat.xor_assoc, crcBits_xor 8 (x ^^^ c.toNat) (256 * wordOf l)]
    have e : crcBits 8 (256 * wordOf l) = wordOf l := crcBits_shift 8 (wordOf l)
    rw [e]

theorem wordOf_zero {l : List UInt8} (h : wordOf l = 0) : ∀ c ∈ l, c = 0 := by
  induction l with
  | nil => intro c hc; cases hc
  | cons a l ih =>
    simp only [wordOf] at h
    intro c hc
    cases hc with
    | head => exact UInt8.toNat_inj.1 (by simp; omega)
    | tail _ hm => exact ih (by omega) c hm

/-- Up to four bytes behind one another that were changed change the sum. -/
theorem crcSum_burst (pre mid mid' post : List UInt8) (hl : mid.length = mid'.length) (h4 : mid.length ≤ 4) (hne : mid ≠ mid') : crcSum (pre ++ mid ++ post) ≠ crcSum (pre ++ mid' ++ post) := by
  intro h
  unfold crcSum crcMore at h
  have h1 : crcRaw (4294967295 ^^^ 0) (pre ++ mid ++ post) = crcRaw (4294967295 ^^^ 0) (pre ++ mid' ++ post) := by
    have := congrArg (4294967295 ^^^ ·) h
    simpa only [xor_not] using this
  rw [crcRaw_append, crcRaw_append, crcRaw_append, crcRaw_append] at h1
  have hp : crcRaw (4294967295 ^^^ 0) pre < 4294967296 := crcRaw_lt (by decide)
  have h2 := crcRaw_diff post _ _ (crcRaw_lt hp) (crcRaw_lt hp) h1
  generalize crcRaw (4294967295 ^^^ 0) pre = x at *
  have h3 := crcRaw_xor mid mid' x x hl
  rw [h2, Nat.xor_self, Nat.xor_self, crcRaw_lin] at h3
  have hlen : (List.zipWith (fun p q => p ^^^ q) mid mid').length ≤ 4 := by simp; omega
  have hw : wordOf (List.zipWith (fun p q => p ^^^ q) mid mid') < 4294967296 := Nat.lt_of_lt_of_le (wordOf_lt _) (Nat.pow_le_pow_right (n := 256) (by omega) hlen)
  have h5 := crcBits_zero (by rw [Nat.zero_xor]; exact hw) h3.symm
  rw [Nat.zero_xor] at h5
  have h6 := wordOf_zero h5
  apply hne
  apply List.ext_getElem hl
  intro i hi hi'
  have := h6 (mid[i] ^^^ mid'[i]) (by
    rw [List.mem_iff_getElem]
    exact ⟨i, by simp; omega, by simp⟩)
  exact UInt8.xor_eq_zero_iff.1 this
end Go.Proofs.Ytcogmohepcifiaa
namespace Go.Proofs.Ytcogmohepcifiaa

theorem zig_zag (u : Nat) : zig (zag u) = u := by
  unfold zig zag
  by_cases h : u % 2 = 1
  · rw [if_pos h, if_pos (by omega)]; omega
  · rw [if_neg h, if_neg (by omega)]; omega

theorem ofNat_toNat' (c : UInt8) : UInt8.ofNat c.toNat = c := by simp

/-- A number that is told has just the bytes that are written for it. -/
theorem getF_canon (l : List UInt8) : ∀ (i u k : Nat) (x : Int), i ≤ 9 → getF i u l = (x, k, 0) →
    ∃ q, x = zag (u + q * 128 ^ i) ∧ l.take (k - i) = leb (9 - i) q ∧ i < k ∧ (0 < i → 0 < q) := by
  induction l with
  | nil => intro i u k x _ h; simp [getF] at h
  | cons c l ih =>
    intro i u k x hi h
    have hc := c.toNat_lt
    rw [getF] at h
    by_cases h1 : i = 9 ∧ 1 < c.toNat
    · rw [if_pos h1] at h; simp at h
    · rw [if_neg h1] at h
      by_cases h2 : 127 < c.toNat
      · rw [if_pos h2] at h
        obtain ⟨q, hx, ht, hk, h0⟩ := ih (i + 1) _ k x (by omega) h
        have hq := h0 (by omega)
        refine ⟨c.toNat % 128 + 128 * q, ?_, ?_, by omega, fun _ => by omega⟩
        · rw [hx]
          congr 1
          rw [Nat.pow_succ, Nat.add_mul, Nat.add_assoc]
          congr 2
          rw [Nat.mul_comm 128 q, Nat.mul_assoc, Nat.mul_comm 128]
        · rw [show k - i = (k - (i + 1)) + 1 by omega, List.take_succ_cons, ht, show 9 - i = (9 - (i + 1)) + 1 by omega, leb, if_neg (by omega)]
          rw [show (c.toNat % 128 + 128 * q) % 128 + 128 = c.toNat by omega, show (c.toNat % 128 + 128 * q) / 128 = q by omega, ofNat_toNat']
      · rw [if_neg h2] at h
        by_cases h3 : 0 < i ∧ c.toNat = 0
        · rw [if_pos h3] at h; simp at h
        · rw [if_neg h3] at h
          simp only [Prod.mk.injEq, and_true] at h
          obtain ⟨rfl, rfl⟩ := h
          refine ⟨c.toNat, by rw [Nat.mod_eq_of_lt (by omega)], ?_, by omega, fun h => by omega⟩
          rw [show i + 1 - i = 0 + 1 by omega, List.take_succ_cons, List.take_zero]
          by_cases h9 : i = 9
          · subst h9
            simp [leb]
          · rw [show 9 - i = (9 - (i + 1)) + 1 by omega, leb, if_pos (by omega), ofNat_toNat']
theorem getN_canon {l : List UInt8} {k : Nat} {x : Int} (h : getN l = (x, k, 0)) : l.take k = putN x := by
  obtain ⟨q, hx, ht, _, _⟩ := getF_canon l 0 0 k x (by omega) h
  rw [Nat.sub_zero, Nat.sub_zero] at ht
  rw [ht, hx]
  unfold putN
  rw [zig_zag]
  simp

theorem fourN_len (u : Nat) : (fourN u).length = 4 := rfl

/-- A frame. -/
def headP (k : Int) (n : Nat) : List UInt8 := UInt8.ofNat k.toNat :: putN n
def sealP (k : Int) (b : List UInt8) : List UInt8 :=
  if k < 1 ∨ 255 < k ∨ 4000 < b.length then [] else headP k b.length ++ fourN (crcSum (headP k b.length ++ b)) ++ b

/-- What bytes begin with: kind, body, how many bytes, the error. -/
def openP (l : List UInt8) : Int × List UInt8 × Nat × Nat :=
  match l with
  | [] => (0, [], 0, 2)
  | c :: t =>
    if c = 0 then (0, [], 0, 3)
    else if (getN t).2.2 = 2 ∧ t.length ≤ 1 then (0, [], 0, 2)
    else if (getN t).2.2 ≠ 0 ∨ (getN t).1 < 0 ∨ 4000 < (getN t).1 then (0, [], 0, 3)
    else if t.length < (getN t).2.1 + 4 + (getN t).1.toNat then (0, [], 0, 2)
    else if fourN (crcSum (c :: t.take (getN t).2.1 ++ (t.drop ((getN t).2.1 + 4)).take (getN t).1.toNat)) = (t.drop (getN t).2.1).take 4 then
      ((c.toNat : Int), (t.drop ((getN t).2.1 + 4)).take (getN t).1.toNat, 1 + (getN t).2.1 + 4 + (getN t).1.toNat, 0)
    else (0, [], 0, 3)

theorem sealP_ok {k : Int} {b : List UInt8} (h0 : 1 ≤ k) (h1 : k ≤ 255) (h2 : b.length ≤ 4000) : sealP k b = headP k b.length ++ fourN (crcSum (headP k b.length ++ b)) ++ b := by
  unfold sealP
  rw [if_neg (by omega)]
theorem sealP_no {k : Int} {b : List UInt8} (h : k < 1 ∨ 255 < k ∨ 4000 < b.length) : sealP k b = [] := by
  unfold sealP
  rw [if_pos h]
theorem sealP_len {k : Int} {b : List UInt8} (h0 : 1 ≤ k) (h1 : k ≤ 255) (h2 : b.length ≤ 4000) : (sealP k b).length = 1 + (putN b.length).length + 4 + b.length := by
  rw [sealP_ok h0 h1 h2]
  simp only [headP, List.length_append, List.length_cons, fourN_len]
  omega
theorem sealP_nil {k : Int} {b : List UInt8} : sealP k b = [] ↔ (k < 1 ∨ 255 < k ∨ 4000 < b.length) := by
  constructor
  · intro h
    by_cases hc : k < 1 ∨ 255 < k ∨ 4000 < b.length
    · exact hc
    · exfalso
      have := sealP_len (k := k) (b := b) (by omega) (by omega) (by omega)
      rw [h] at this
      simp at this
      omega
  · exact sealP_no

theorem kind_ne {k : Int} (h0 : 1 ≤ k) (h1 : k ≤ 255) : UInt8.ofNat k.toNat ≠ 0 ∧ ((UInt8.ofNat k.toNat).toNat : Int) = k := by
  have ht : (UInt8.ofNat k.toNat).toNat = k.toNat := toNat_ofNat (by omega)
  refine ⟨fun h => ?_, by rw [ht]; omega⟩
  rw [h] at ht
  simp at ht
  omega

theorem open_seal {k : Int} {b : List UInt8} (rest : List UInt8) (h0 : 1 ≤ k) (h1 : k ≤ 255) (h2 : b.length ≤ 4000) : openP (sealP k b ++ rest) = (k, b, (sealP k b).length, 0) := by
  rw [sealP_len h0 h1 h2, sealP_ok h0 h1 h2]
  obtain ⟨hc, hk⟩ := kind_ne h0 h1
  unfold headP
  simp only [List.cons_append, List.append_assoc]
  generalize hS : crcSum (UInt8.ofNat k.toNat :: (putN b.length ++ b)) = S
  have hg := getN_putN b.length (fourN S ++ (b ++ rest)) (by omega) (by omega)
  unfold openP
  simp only [hg]
  have hf : (fourN S).length = 4 := rfl
  rw [if_neg hc, if_neg (by omega), if_neg (by omega), if_neg (by simp only [List.length_append]; omega)]
  have e1 : (putN b.length ++ (fourN S ++ (b ++ rest))).drop ((putN b.length).length + 4) = b ++ rest := by
    rw [← List.append_assoc, List.drop_left' (by rw [List.length_append, hf])]
  have e2 : (putN b.length ++ (fourN S ++ (b ++ rest))).take (putN b.length).length = putN b.length := List.take_left
  have e3 : ((putN b.length ++ (fourN S ++ (b ++ rest))).drop (putN b.length).length).take 4 = fourN S := by
    rw [List.drop_left, List.take_left' hf]
  have e4 : (b ++ rest).take ((b.length : Int)).toNat = b := by rw [Int.toNat_natCast]; exact List.take_left
  rw [e1, e2, e3, e4, List.cons_append, hS, if_pos rfl, hk]
  simp only [Prod.mk.injEq, true_and, and_true]
  omega

theorem open_cut {k : Int} {b : List UInt8} (m : Nat) (h0 : 1 ≤ k) (h1 : k ≤ 255) (h2 : b.length ≤ 4000) (hm : m < (sealP k b).length) : openP ((sealP k b).take m) = (0, [], 0, 2) := by
  rw [sealP_len h0 h1 h2] at hm
  rw [sealP_ok h0 h1 h2]
  obtain ⟨hc, hk⟩ := kind_ne h0 h1
  unfold headP
  simp only [List.cons_append, List.append_assoc]
  generalize crcSum (UInt8.ofNat k.toNat :: (putN b.length ++ b)) = S
  have hf : (fourN S).length = 4 := rfl
  cases m with
  | zero => rfl
  | succ m =>
    rw [List.take_succ_cons]
    unfold openP
    simp only []
    rw [if_neg hc]
    have hp2 : (putN b.length).length ≤ 2 := by
      have h := putN_mono (m := b.length) (n := 4000) (by unfold zig; rw [if_neg (by omega), if_neg (by omega)]; omega)
      have : (putN 4000).length = 2 := by decide
      omega
    by_cases hmp : m < (putN b.length).length
    · have e : (putN b.length ++ (fourN S ++ b)).take m = (putN b.length).take m := by rw [List.take_append_of_le_length (by omega)]
      rw [e, getN_cut b.length m (by omega) (by omega) hmp, if_pos ⟨rfl, by rw [List.length_take]; omega⟩]
    · have e : (putN b.length ++ (fourN S ++ b)).take m = putN b.length ++ (fourN S ++ b).take (m - (putN b.length).length) := by
        rw [List.take_append, List.take_of_length_le (by omega)]
      rw [e]
      have hg := getN_putN b.length ((fourN S ++ b).take (m - (putN b.length).length)) (by omega) (by omega)
      simp only [hg]
      rw [if_neg (by omega), if_neg (by omega), if_pos]
      simp only [List.length_append, List.length_take, hf]
      omega

/-- The document's test is the program's. -/
theorem open_ref {c : UInt8} {t : List UInt8} {n : Int} {k : Nat} (hc : c ≠ 0) (hg : getN t = (n, k, 0)) (h0 : 0 ≤ n) (h1 : n ≤ 4000) (hl : k + 4 + n.toNat ≤ t.length) :
    sealP (c.toNat : Int) ((t.drop (k + 4)).take n.toNat) = (c :: t).take (1 + k + 4 + n.toNat) ↔ fourN (crcSum (c :: t.take k ++ (t.drop (k + 4)).take n.toNat)) = (t.drop k).take 4 := by
  have hbl : ((t.drop (k + 4)).take n.toNat).length = n.toNat := by rw [List.length_take, List.length_drop]; omega
  have hcp : 1 ≤ (c.toNat : Int) := by
    have : c.toNat ≠ 0 := fun h => hc (by rw [← ofNat_toNat' c, h]; rfl)
    omega
  have hcl := c.toNat_lt
  rw [sealP_ok hcp (by omega) (by omega), hbl]
  have hh : headP (c.toNat : Int) n.toNat = c :: t.take k := by
    unfold headP
    rw [getN_canon hg, Int.toNat_natCast, ofNat_toNat', Int.toNat_of_nonneg h0]
  rw [hh]
  have hs : (c :: t).take (1 + k + 4 + n.toNat) = (c :: t.take k) ++ (t.drop k).take 4 ++ (t.drop (k + 4)).take n.toNat := by
    rw [show 1 + k + 4 + n.toNat = (k + (4 + n.toNat)) + 1 by omega, List.take_succ_cons, List.take_add, List.take_add, List.drop_drop]
    simp
  rw [hs]
  constructor
  · intro h
    have := List.append_inj_left h (by simp [fourN_len]; omega)
    exact List.append_cancel_left this
  · intro h
    rw [h]

/-- Frames one behind the other. -/
def allF : Nat → List UInt8 → List (Int × List UInt8) × Nat
  | 0, _ => ([], 0)
  | f + 1, l => if (openP l).2.2.2 ≠ 0 then ([], 0) else (((openP l).1, (openP l).2.1) :: (allF f (l.drop (openP l).2.2.1)).1, (openP l).2.2.1 + (allF f (l.drop (openP l).2.2.1)).2)

theorem openP_ok {l : List UInt8} (h : (openP l).2.2.2 = 0) : 5 ≤ (openP l).2.2.1 ∧ (openP l).2.2.1 ≤ l.length ∧ (openP l).2.1.length ≤ 4000 ∧ 0 ≤ (openP l).1 ∧ (openP l).1 ≤ 255 := by
  cases l with
  | nil => simp [openP] at h
  | cons c t =>
    have hc8 := c.toNat_lt
    unfold openP at h ⊢
    simp only [] at h ⊢
    by_cases h1 : c = 0
    · rw [if_pos h1] at h; simp at h
    · rw [if_neg h1] at h ⊢
      by_cases h2 : (getN t).2.2 = 2 ∧ t.length ≤ 1
      · rw [if_pos h2] at h; simp at h
      · rw [if_neg h2] at h ⊢
        by_cases h3 : (getN t).2.2 ≠ 0 ∨ (getN t).1 < 0 ∨ 4000 < (getN t).1
        · rw [if_pos h3] at h; simp at h
        · rw [if_neg h3] at h ⊢
          by_cases h4 : t.length < (getN t).2.1 + 4 + (getN t).1.toNat
          · rw [if_pos h4] at h; simp at h
          · rw [if_neg h4] at h ⊢
            split at h
            · rename_i h5
              rw [if_pos h5]
              simp only [List.length_cons, List.length_take, List.length_drop]
              omega
            · simp at h

theorem allF_stable : ∀ (f g : Nat) (l : List UInt8), l.length < f → l.length < g → allF f l = allF g l := by
  intro f
  induction f with
  | zero => intro g l h; omega
  | succ f ih =>
    intro g l hf hg
    cases g with
    | zero => omega
    | succ g =>
      rw [allF, allF]
      by_cases h : (openP l).2.2.2 ≠ 0
      · rw [if_pos h, if_pos h]
      · rw [if_neg h, if_neg h]
        have ho := openP_ok (l := l) (by simpa using h)
        rw [ih g (l.drop (openP l).2.2.1) (by rw [List.length_drop]; omega) (by rw [List.length_drop]; omega)]
def allP (l : List UInt8) : List (Int × List UInt8) × Nat := allF (l.length + 1) l
theorem allP_no {l : List UInt8} (h : (openP l).2.2.2 ≠ 0) : allP l = ([], 0) := by
  unfold allP
  rw [allF, if_pos h]
theorem allP_yes {l : List UInt8} (h : (openP l).2.2.2 = 0) : allP l = (((openP l).1, (openP l).2.1) :: (allP (l.drop (openP l).2.2.1)).1, (openP l).2.2.1 + (allP (l.drop (openP l).2.2.1)).2) := by
  have ho := openP_ok h
  unfold allP
  rw [allF, if_neg (by simpa using h), allF_stable l.length ((l.drop (openP l).2.2.1).length + 1) _ (by rw [List.length_drop]; omega) (by omega)]
theorem allP_nil : allP [] = ([], 0) := allP_no (by decide)
end Go.Proofs.Ytcogmohepcifiaa
namespace Go.Proofs.Ytcogmohepcifiaa

theorem sealP_le (k : Int) (b : List UInt8) : (sealP k b).length ≤ 4016 := by
  by_cases h : k < 1 ∨ 255 < k ∨ 4000 < b.length
  · rw [sealP_no h]; simp
  · rw [sealP_len (by omega) (by omega) (by omega)]
    have := putN_len b.length
    omega

theorem allP_seal {k : Int} {b : List UInt8} (rest : List UInt8) (h0 : 1 ≤ k) (h1 : k ≤ 255) (h2 : b.length ≤ 4000) : allP (sealP k b ++ rest) = ((k, b) :: (allP rest).1, (sealP k b).length + (allP rest).2) := by
  have ho := open_seal rest h0 h1 h2
  rw [allP_yes (by rw [ho])]
  simp only [ho, List.drop_left]

def sealed (fs : List (Int × List UInt8)) : List UInt8 := fs.flatMap fun f => sealP f.1 f.2
def okF (fs : List (Int × List UInt8)) : Prop := ∀ f ∈ fs, 1 ≤ f.1 ∧ f.1 ≤ 255 ∧ f.2.length ≤ 4000
theorem allP_sealed (fs : List (Int × List UInt8)) (rest : List UInt8) (h : okF fs) : allP (sealed fs ++ rest) = (fs ++ (allP rest).1, (sealed fs).length + (allP rest).2) := by
  induction fs with
  | nil => simp [sealed]
  | cons f fs ih =>
    have hf := h f (by simp)
    have ih := ih fun g hg => h g (by simp [hg])
    have e : sealed (f :: fs) = sealP f.1 f.2 ++ sealed fs := rfl
    rw [e, List.append_assoc, allP_seal _ hf.1 hf.2.1 hf.2.2, ih, List.length_append]
    simp only [List.cons_append, Prod.mk.injEq, true_and]
    omega
theorem sealed_snoc (fs : List (Int × List UInt8)) (f : Int × List UInt8) : sealed (fs ++ [f]) = sealed fs ++ sealP f.1 f.2 := by simp [sealed]

/-- So many small frames. -/
def insF (n : Nat) : List (Int × List UInt8) := (List.range n).map fun (i : Nat) => ((1 : Int) + i, [UInt8.ofNat i])
theorem insF_len (n : Nat) : (insF n).length = n := by simp [insF]
theorem insF_succ (n : Nat) : insF (n + 1) = insF n ++ [(1 + (n : Int), [UInt8.ofNat n])] := by simp [insF, List.range_succ]
theorem insF_ok (n : Nat) (h : n ≤ 50) : okF (insF n) := by
  intro f hf
  simp only [insF, List.mem_map, List.mem_range] at hf
  obtain ⟨i, hi, rfl⟩ := hf
  simp
  omega
theorem insF_size (n : Nat) (h : n ≤ 50) : (sealed (insF n)).length = 7 * n := by
  induction n with
  | zero => rfl
  | succ n ih =>
    rw [insF_succ, sealed_snoc, List.length_append, ih (by omega), sealP_len (by simp; omega) (by simp; omega) (by simp)]
    have : (putN 1).length = 1 := by decide
    simp [this]
    omega
theorem insF_all (n : Nat) (h : n ≤ 50) : allP (sealed (insF n)) = (insF n, (sealed (insF n)).length) := by
  have := allP_sealed (insF n) [] (insF_ok n h)
  rw [List.append_nil, allP_nil] at this
  simpa using this
theorem insF_in (n : Nat) (h : n ≤ 50) : allP (sealP 9 (sealed (insF n))) = ([(9, sealed (insF n))], (sealP 9 (sealed (insF n))).length) := by
  have := allP_seal (k := 9) (b := sealed (insF n)) [] (by omega) (by omega) (by rw [insF_size n h]; omega)
  rw [List.append_nil, allP_nil] at this
  simpa using this
end Go.Proofs.Ytcogmohepcifiaa
