/-
  No claim by itself: plain facts on frames that stand one behind the other. No condition.
-/
import Derived.Test.YtihcohneongomaaFramePlain
namespace Go.Proofs.Ytihcohneongomaa

theorem sealP_le (k : Int) (b : List UInt8) : (sealP k b).length ≤ 4016 := by
  by_cases h : k < 1 ∨ 255 < k ∨ 4000 < b.length
  · rw [sealP_no h]; simp
  · rw [sealP_len (by omega) (by omega) (by omega)]
    have := putN_len b.length
    omega

theorem allP_seal {k : Int} {b : List UInt8} (rest : List UInt8) (h0 : 1 ≤ k) (h1 : k ≤ 255) (h2 : b.length ≤ 4000) : allP (sealP k b ++ rest) = ((k, b) :: (allP rest).1, (sealP k b).length + (allP rest).2) := by
  have ho := open_seal rest h0 h1 h2
  rw [allP_yes (by rw [ho])]
  simp only [ho, List.drop_left]

def sealed (fs : List (Int × List UInt8)) : List UInt8 := fs.flatMap fun f => sealP f.1 f.2
def okF (fs : List (Int × List UInt8)) : Prop := ∀ f ∈ fs, 1 ≤ f.1 ∧ f.1 ≤ 255 ∧ f.2.length ≤ 4000
theorem allP_sealed (fs : List (Int × List UInt8)) (rest : List UInt8) (h : okF fs) : allP (sealed fs ++ rest) = (fs ++ (allP rest).1, (sealed fs).length + (allP rest).2) := by
  induction fs with
  | nil => simp [sealed]
  | cons f fs ih =>
    have hf := h f (by simp)
    have ih := ih fun g hg => h g (by simp [hg])
    have e : sealed (f :: fs) = sealP f.1 f.2 ++ sealed fs := rfl
    rw [e, List.append_assoc, allP_seal _ hf.1 hf.2.1 hf.2.2, ih, List.length_append]
    simp only [List.cons_append, Prod.mk.injEq, true_and]
    omega
theorem sealed_snoc (fs : List (Int × List UInt8)) (f : Int × List UInt8) : sealed (fs ++ [f]) = sealed fs ++ sealP f.1 f.2 := by simp [sealed]

/-- So many small frames. -/
def insF (n : Nat) : List (Int × List UInt8) := (List.range n).map fun (i : Nat) => ((1 : Int) + i, [UInt8.ofNat i])
theorem insF_len (n : Nat) : (insF n).length = n := by simp [insF]
theorem insF_succ (n : Nat) : insF (n + 1) = insF n ++ [(1 + (n : Int), [UInt8.ofNat n])] := by simp [insF, List.range_succ]
theorem insF_ok (n : Nat) (h : n ≤ 50) : okF (insF n) := by
  intro f hf
  simp only [insF, List.mem_map, List.mem_range] at hf
  obtain ⟨i, hi, rfl⟩ := hf
  simp
  omega
theorem insF_size (n : Nat) (h : n ≤ 50) : (sealed (insF n)).length = 7 * n := by
  induction n with
  | zero => rfl
  | succ n ih =>
    rw [insF_succ, sealed_snoc, List.length_append, ih (by omega), sealP_len (by simp; omega) (by simp; omega) (by simp)]
    have : (putN 1).length = 1 := by decide
    simp [this]
    omega
theorem insF_all (n : Nat) (h : n ≤ 50) : allP (sealed (insF n)) = (insF n, (sealed (insF n)).length) := by
  have := allP_sealed (insF n) [] (insF_ok n h)
  rw [List.append_nil, allP_nil] at this
  simpa using this
theorem insF_in (n : Nat) (h : n ≤ 50) : allP (sealP 9 (sealed (insF n))) = ([(9, sealed (insF n))], (sealP 9 (sealed (insF n))).length) := by
  have := allP_seal (k := 9) (b := sealed (insF n)) [] (by omega) (by omega) (by rw [insF_size n h]; omega)
  rw [List.append_nil, allP_nil] at this
  simpa using this
end Go.Proofs.Ytihcohneongomaa
