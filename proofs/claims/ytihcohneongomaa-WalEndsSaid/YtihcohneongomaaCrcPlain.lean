/-
  No claim by itself: plain facts on the sum of bytes (a polynomial's remainder), with no program in sight. No condition.
-/
import Derived.Laws.BitsAllLaws
namespace Go.Proofs.Ytihcohneongomaa
def crcBit (x : Nat) : Nat := (x / 2) ^^^ (if x % 2 = 1 then 3988292384 else 0)
def crcBits : Nat → Nat → Nat
  | 0, x => x
  | k + 1, x => crcBit (crcBits k x)
def crcByte (x c : Nat) : Nat := crcBits 8 (x ^^^ c)
def crcRaw (x : Nat) (l : List UInt8) : Nat := l.foldl (fun x c => crcByte x c.toNat) x
def crcMore (s : Nat) (l : List UInt8) : Nat := 4294967295 ^^^ crcRaw (4294967295 ^^^ s) l
def crcSum (l : List UInt8) : Nat := crcMore 0 l

theorem xor_lt {a b : Nat} (ha : a < 4294967296) (hb : b < 4294967296) : a ^^^ b < 4294967296 := Nat.xor_lt_two_pow (n := 32) ha hb
theorem crcBit_lt {x : Nat} (h : x < 4294967296) : crcBit x < 4294967296 := by
  unfold crcBit; apply xor_lt; omega; split <;> omega
theorem crcBits_lt {k x : Nat} (h : x < 4294967296) : crcBits k x < 4294967296 := by
  induction k with
  | zero => exact h
  | succ k ih => exact crcBit_lt ih
theorem crcByte_lt {x c : Nat} (h : x < 4294967296) (hc : c < 256) : crcByte x c < 4294967296 := crcBits_lt (xor_lt h (by omega))
theorem crcRaw_lt {x : Nat} {l : List UInt8} (h : x < 4294967296) : crcRaw x l < 4294967296 := by
  unfold crcRaw
  induction l generalizing x with
  | nil => exact h
  | cons c l ih => exact ih (crcByte_lt h c.toNat_lt)
theorem crcMore_lt {s : Nat} {l : List UInt8} (h : s < 4294967296) : crcMore s l < 4294967296 := xor_lt (by omega) (crcRaw_lt (xor_lt (by omega) h))
theorem crcSum_lt (l : List UInt8) : crcSum l < 4294967296 := crcMore_lt (by omega)

/-- One bit of the program's text. -/
theorem crc_step (x : Nat) (h : x < 4294967296) : bits .xor .u32 ((x : Int) / 2) (bits .and .u32 3988292384 (-bits .and .u32 (x : Int) 1 % 4294967296)) = (crcBit x : Nat) := by
  have h1 : bits .and .u32 (x : Int) 1 = ((x % 2 : Nat) : Int) := by
    rw [show (1 : Int) = ((1 : Nat) : Int) from rfl, u32_and_nat _ _ h (by omega), Nat.and_one_is_mod]
  rw [h1]
  unfold crcBit
  rcases Nat.mod_two_eq_zero_or_one x with e | e
  · rw [e]
    have : bits .and .u32 3988292384 (-((0 : Nat) : Int) % 4294967296) = ((0 : Nat) : Int) := by decide +kernel
    rw [this, show (x : Int) / 2 = ((x / 2 : Nat) : Int) by omega, u32_xor_nat _ _ (by omega) (by omega)]
    simp
  · rw [e]
    have : bits .and .u32 3988292384 (-((1 : Nat) : Int) % 4294967296) = ((3988292384 : Nat) : Int) := by decide +kernel
    rw [this, show (x : Int) / 2 = ((x / 2 : Nat) : Int) by omega, u32_xor_nat _ _ (by omega) (by omega)]
    simp

theorem xor_mod2 (x y : Nat) : (x ^^^ y) % 2 = (x + y) % 2 := by
  have h : (x ^^^ y) % 2 = (x % 2) ^^^ (y % 2) := by rw [← Nat.and_one_is_mod, ← Nat.and_one_is_mod, ← Nat.and_one_is_mod, Nat.and_xor_distrib_right]
  rw [h]
  rcases Nat.mod_two_eq_zero_or_one x with e | e <;> rcases Nat.mod_two_eq_zero_or_one y with f | f <;> simp [e, f, Nat.add_mod]

theorem xor_zero {a b : Nat} (h : a ^^^ b = 0) : a = b := by
  have e : a = (a ^^^ b) ^^^ b := by rw [Nat.xor_assoc, Nat.xor_self, Nat.xor_zero]
  rw [e, h, Nat.zero_xor]

theorem crcBit_xor (x y : Nat) : crcBit (x ^^^ y) = crcBit x ^^^ crcBit y := by
  unfold crcBit
  rw [Nat.xor_div_two, xor_mod2]
  have key : (if (x + y) % 2 = 1 then 3988292384 else 0) = (if x % 2 = 1 then 3988292384 else 0) ^^^ (if y % 2 = 1 then 3988292384 else 0) := by
    rcases Nat.mod_two_eq_zero_or_one x with e | e <;> rcases Nat.mod_two_eq_zero_or_one y with f | f <;> simp [e, f, Nat.add_mod]
  rw [key]
  ac_rfl

theorem crcBits_xor (k x y : Nat) : crcBits k (x ^^^ y) = crcBits k x ^^^ crcBits k y := by
  induction k with
  | zero => rfl
  | succ k ih => rw [crcBits, ih, crcBit_xor]; rfl

theorem crcBit_zero {x : Nat} (hx : x < 4294967296) (h : crcBit x = 0) : x = 0 := by
  unfold crcBit at h
  have := xor_zero h
  split at this <;> omega

theorem crcBits_zero {k x : Nat} (hx : x < 4294967296) (h : crcBits k x = 0) : x = 0 := by
  induction k with
  | zero => exact h
  | succ k ih => exact ih (crcBit_zero (crcBits_lt hx) h)

theorem crcBits_nought (k : Nat) : crcBits k 0 = 0 := by
  induction k with
  | zero => rfl
  | succ k ih => rw [crcBits, ih]; rfl

theorem crcRaw_append (x : Nat) (l m : List UInt8) : crcRaw x (l ++ m) = crcRaw (crcRaw x l) m := by simp [crcRaw]

theorem xor_not (x : Nat) : 4294967295 ^^^ (4294967295 ^^^ x) = x := by rw [← Nat.xor_assoc, Nat.xor_self, Nat.zero_xor]

theorem crcMore_append (s : Nat) (l m : List UInt8) : crcMore s (l ++ m) = crcMore (crcMore s l) m := by
  unfold crcMore
  rw [crcRaw_append, xor_not]
theorem crcSum_append (l m : List UInt8) : crcSum (l ++ m) = crcMore (crcSum l) m := crcMore_append 0 l m
theorem crcMore_nil (s : Nat) : crcMore s [] = s := by show 4294967295 ^^^ (4294967295 ^^^ s) = s; exact xor_not s
theorem crcSum_nil : crcSum [] = 0 := crcMore_nil 0

/-- Three texts of one length. -/
def xor3 (a b c : List UInt8) : List UInt8 := List.zipWith (fun x y => x ^^^ y) (List.zipWith (fun x y => x ^^^ y) a b) c

theorem crcByte_three (x y z a b c : Nat) : crcByte (x ^^^ y ^^^ z) (a ^^^ b ^^^ c) = crcByte x a ^^^ crcByte y b ^^^ crcByte z c := by
  unfold crcByte
  rw [← crcBits_xor, ← crcBits_xor]
  congr 1
  ac_rfl

theorem crcRaw_three (a : List UInt8) : ∀ (b c : List UInt8) (x y z : Nat), a.length = b.length → b.length = c.length → crcRaw (x ^^^ y ^^^ z) (xor3 a b c) = crcRaw x a ^^^ crcRaw y b ^^^ crcRaw z c := by
  induction a with
  | nil =>
    intro b c x y z h1 h2
    obtain rfl : b = [] := List.eq_nil_of_length_eq_zero h1.symm
    obtain rfl : c = [] := List.eq_nil_of_length_eq_zero h2.symm
    rfl
  | cons a0 a ih =>
    intro b c x y z h1 h2
    match b, c, h1, h2 with
    | b0 :: b, c0 :: c, h1, h2 =>
      show crcRaw (crcByte (x ^^^ y ^^^ z) (a0 ^^^ b0 ^^^ c0).toNat) (xor3 a b c) = crcRaw (crcByte x a0.toNat) a ^^^ crcRaw (crcByte y b0.toNat) b ^^^ crcRaw (crcByte z c0.toNat) c
      rw [UInt8.toNat_xor, UInt8.toNat_xor, crcByte_three]
      exact ih b c _ _ _ (by simpa using h1) (by simpa using h2)

theorem crcSum_three (a b c : List UInt8) (h1 : a.length = b.length) (h2 : b.length = c.length) : crcSum (xor3 a b c) = crcSum a ^^^ crcSum b ^^^ crcSum c := by
  have h := crcRaw_three a b c 4294967295 4294967295 4294967295 h1 h2
  rw [show (4294967295 ^^^ 4294967295 ^^^ 4294967295 : Nat) = 4294967295 from by decide] at h
  show 4294967295 ^^^ crcRaw 4294967295 (xor3 a b c) = (4294967295 ^^^ crcRaw 4294967295 a) ^^^ (4294967295 ^^^ crcRaw 4294967295 b) ^^^ (4294967295 ^^^ crcRaw 4294967295 c)
  rw [h]
  generalize crcRaw 4294967295 a = A
  generalize crcRaw 4294967295 b = B
  generalize crcRaw 4294967295 c = C
  have e : (4294967295 ^^^ A) ^^^ (4294967295 ^^^ B) ^^^ (4294967295 ^^^ C) = (4294967295 ^^^ 4294967295) ^^^ (4294967295 ^^^ (A ^^^ B ^^^ C)) := by ac_rfl
  rw [e, Nat.xor_self, Nat.zero_xor]

/-- What differs before goes on to differ: the difference of two runs over one text. -/
theorem crcRaw_diff (l : List UInt8) : ∀ x y : Nat, x < 4294967296 → y < 4294967296 → crcRaw x l = crcRaw y l → x = y := by
  induction l with
  | nil => intro x y _ _ h; exact h
  | cons c l ih =>
    intro x y hx hy h
    have h' := ih _ _ (crcByte_lt hx c.toNat_lt) (crcByte_lt hy c.toNat_lt) h
    unfold crcByte at h'
    have h2 : crcBits 8 (x ^^^ y) = 0 := by
      have e : x ^^^ y = (x ^^^ c.toNat) ^^^ (y ^^^ c.toNat) := by
        have e1 : (x ^^^ c.toNat) ^^^ (y ^^^ c.toNat) = (c.toNat ^^^ c.toNat) ^^^ (x ^^^ y) := by ac_rfl
        rw [e1, Nat.xor_self, Nat.zero_xor]
      rw [e, crcBits_xor, h', Nat.xor_self]
    exact xor_zero (crcBits_zero (xor_lt hx hy) h2)

/-- Two runs over two texts of one length differ by the run over what parts them. -/
theorem crcRaw_xor (a : List UInt8) : ∀ (b : List UInt8) (x y : Nat), a.length = b.length → crcRaw x a ^^^ crcRaw y b = crcRaw (x ^^^ y) (List.zipWith (fun p q => p ^^^ q) a b) := by
  induction a with
  | nil =>
    intro b x y h1
    obtain rfl : b = [] := List.eq_nil_of_length_eq_zero h1.symm
    rfl
  | cons a0 a ih =>
    intro b x y h1
    match b, h1 with
    | b0 :: b, h1 =>
      show crcRaw (crcByte x a0.toNat) a ^^^ crcRaw (crcByte y b0.toNat) b = crcRaw (crcByte (x ^^^ y) (a0 ^^^ b0).toNat) (List.zipWith (fun p q => p ^^^ q) a b)
      rw [ih b _ _ (by simpa using h1), UInt8.toNat_xor]
      congr 1
      unfold crcByte
      rw [← crcBits_xor]
      congr 1
      ac_rfl

/-- A word of bytes, the first one lowest. -/
def wordOf : List UInt8 → Nat
  | [] => 0
  | c :: l => c.toNat + 256 * wordOf l

theorem wordOf_lt (l : List UInt8) : wordOf l < 256 ^ l.length := by
  induction l with
  | nil => simp [wordOf]
  | cons c l ih =>
    have := c.toNat_lt
    simp only [wordOf, List.length_cons, Nat.pow_succ]
    omega

theorem crcBit_even (x : Nat) : crcBit (2 * x) = x := by
  unfold crcBit
  rw [if_neg (by omega), Nat.xor_zero]
  omega

theorem crcBits_succ' (k x : Nat) : crcBits (k + 1) x = crcBits k (crcBit x) := by
  induction k with
  | zero => rfl
  | succ k ih => rw [crcBits, ih]; rfl

theorem crcBits_shift (k x : Nat) : crcBits k (2 ^ k * x) = x := by
  induction k generalizing x with
  | zero => simp [crcBits]
  | succ k ih =>
    rw [crcBits_succ', show 2 ^ (k + 1) * x = 2 * (2 ^ k * x) by rw [Nat.pow_succ]; ac_rfl, crcBit_even, ih]

theorem crcBits_add (j k x : Nat) : crcBits (j + k) x = crcBits j (crcBits k x) := by
  induction j with
  | zero => simp [crcBits]
  | succ j ih => rw [show j + 1 + k = (j + k) + 1 by omega, crcBits, ih]; rfl

theorem byte_word (c r : Nat) (hc : c < 256) : c + 256 * r = c ^^^ 256 * r := by
  have h := Nat.two_pow_add_eq_or_of_lt (i := 8) (b := c) (by omega) r
  have h2 : 256 * r &&& c = 0 := by
    apply Nat.eq_of_testBit_eq
    intro i
    rw [Nat.testBit_and, show 256 * r = 2 ^ 8 * r by rfl, Nat.testBit_two_pow_mul, Nat.zero_testBit]
    by_cases hi : 8 ≤ i
    · have : c.testBit i = false := Nat.testBit_lt_two_pow (Nat.lt_of_lt_of_le hc (show 2 ^ 8 ≤ 2 ^ i from Nat.pow_le_pow_right (by decide) hi))
      simp [this]
    · simp [hi]
  apply Nat.eq_of_testBit_eq
  intro i
  rw [show c + 256 * r = 2 ^ 8 * r + c by omega, h, Nat.testBit_or, Nat.testBit_xor]
  have h3 : (256 * r &&& c).testBit i = false := by rw [h2, Nat.zero_testBit]
  rw [Nat.testBit_and] at h3
  rw [show (256 : Nat) = 2 ^ 8 from rfl] at h3 ⊢
  revert h3
  cases (2 ^ 8 * r).testBit i <;> cases c.testBit i <;> simp

/-- The run over up to four bytes is that over their word. -/
theorem crcRaw_word (l : List UInt8) : ∀ r : Nat, crcRaw (wordOf l ^^^ r * 256 ^ l.length) (List.replicate l.length 0) = crcBits (8 * l.length) (wordOf l ^^^ r * 256 ^ l.length) := by
  intro r
  generalize wordOf l ^^^ r * 256 ^ l.length = x
  generalize l.length = n
  induction n generalizing x with
  | zero => rfl
  | succ n ih =>
    rw [List.replicate_succ]
    show crcRaw (crcByte x 0) (List.replicate n 0) = _
    rw [ih, show 8 * (n + 1) = 8 * n + 8 by omega, crcBits_add]
    unfold crcByte
    rw [Nat.xor_zero]

theorem crcRaw_lin (l : List UInt8) : ∀ x : Nat, crcRaw x l = crcBits (8 * l.length) (x ^^^ wordOf l) := by
  induction l with
  | nil => intro x; simp [crcRaw, crcBits, wordOf]
  | cons c l ih =>
    intro x
    show crcRaw (crcByte x c.toNat) l = _
    rw [ih, List.length_cons, show 8 * (l.length + 1) = 8 * l.length + 8 by omega, crcBits_add]
    congr 1
    unfold crcByte
    rw [wordOf, byte_word _ _ c.toNat_lt, ← Nat.xor_assoc, crcBits_xor 8 (x ^^^ c.toNat) (256 * wordOf l)]
    have e : crcBits 8 (256 * wordOf l) = wordOf l := crcBits_shift 8 (wordOf l)
    rw [e]

theorem wordOf_zero {l : List UInt8} (h : wordOf l = 0) : ∀ c ∈ l, c = 0 := by
  induction l with
  | nil => intro c hc; cases hc
  | cons a l ih =>
    simp only [wordOf] at h
    intro c hc
    cases hc with
    | head => exact UInt8.toNat_inj.1 (by simp; omega)
    | tail _ hm => exact ih (by omega) c hm

/-- Up to four bytes behind one another that were changed change the sum. -/
theorem crcSum_burst (pre mid mid' post : List UInt8) (hl : mid.length = mid'.length) (h4 : mid.length ≤ 4) (hne : mid ≠ mid') : crcSum (pre ++ mid ++ post) ≠ crcSum (pre ++ mid' ++ post) := by
  intro h
  unfold crcSum crcMore at h
  have h1 : crcRaw (4294967295 ^^^ 0) (pre ++ mid ++ post) = crcRaw (4294967295 ^^^ 0) (pre ++ mid' ++ post) := by
    have := congrArg (4294967295 ^^^ ·) h
    simpa only [xor_not] using this
  rw [crcRaw_append, crcRaw_append, crcRaw_append, crcRaw_append] at h1
  have hp : crcRaw (4294967295 ^^^ 0) pre < 4294967296 := crcRaw_lt (by decide)
  have h2 := crcRaw_diff post _ _ (crcRaw_lt hp) (crcRaw_lt hp) h1
  generalize crcRaw (4294967295 ^^^ 0) pre = x at *
  have h3 := crcRaw_xor mid mid' x x hl
  rw [h2, Nat.xor_self, Nat.xor_self, crcRaw_lin] at h3
  have hlen : (List.zipWith (fun p q => p ^^^ q) mid mid').length ≤ 4 := by simp; omega
  have hw : wordOf (List.zipWith (fun p q => p ^^^ q) mid mid') < 4294967296 := Nat.lt_of_lt_of_le (wordOf_lt _) (Nat.pow_le_pow_right (n := 256) (by omega) hlen)
  have h5 := crcBits_zero (by rw [Nat.zero_xor]; exact hw) h3.symm
  rw [Nat.zero_xor] at h5
  have h6 := wordOf_zero h5
  apply hne
  apply List.ext_getElem hl
  intro i hi hi'
  have := h6 (mid[i] ^^^ mid'[i]) (by
    rw [List.mem_iff_getElem]
    exact ⟨i, by simp; omega, by simp⟩)
  exact UInt8.xor_eq_zero_iff.1 this
end Go.Proofs.Ytihcohneongomaa
