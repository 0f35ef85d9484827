/-
  No claim by itself: a snapshot's bytes cut off, or with a byte changed, are not told: the laws. No condition.
-/
import Derived.Test.YtankebgpkhcgnaaWalPlainX
namespace Go.Proofs.Ytankebgpkhcgnaa
open Go.ChangeShapes Go.WideShapes Go.ChangeAt Go.RowKit

theorem getS_no {l : List UInt8} (h : (getS l).2.2 ≠ 0) : (getS l).2.1 = 0 := by
  unfold getS at h ⊢
  by_cases h1 : (openP l).2.2.2 ≠ 0
  · rw [if_pos h1]
  rw [if_neg h1] at h ⊢
  split
  · rename_i h2
    rw [if_pos h2] at h
    split
    · rfl
    · rename_i h3
      rw [if_neg h3] at h
      exact absurd rfl h
  · rfl

/-- Parts cut off. -/
theorem coll_cut : ∀ (f : Nat) (d : List UInt8) (m : Nat), d.length < f → m < (partsP d).length → (collP ((partsP d).take m) d.length).2.2 = 2 := by
  intro f
  induction f with
  | zero => intro d m h; omega
  | succ f ih =>
    intro d m hf hm
    have h0 : d.length ≠ 0 := fun h => by
      obtain rfl : d = [] := List.eq_nil_of_length_eq_zero h
      simp [partsP_nil] at hm
    have ht : (d.take 3000).length = min d.length 3000 := by rw [List.length_take]; omega
    have hd : (d.drop 3000).length = d.length - min d.length 3000 := by rw [List.length_drop]; omega
    rw [partsP_cons h0] at hm ⊢
    rw [List.length_append] at hm
    by_cases c : m < (sealP 4 (d.take 3000)).length
    · have := open_cut (k := 4) (b := d.take 3000) m (by omega) (by omega) (by omega) c
      rw [List.take_append_of_le_length (by omega), coll_err h0 (by rw [this]; decide), this]
    · have hi := ih (d.drop 3000) (m - (sealP 4 (d.take 3000)).length) (by omega) (by omega)
      rw [List.take_append, List.take_of_length_le (by omega)]
      generalize (partsP (d.drop 3000)).take (m - (sealP 4 (d.take 3000)).length) = Z at *
      unfold collP at hi
      rw [hd] at hi
      unfold collP
      rw [collF, if_neg h0, open_seal _ (by omega) (by omega) (by omega)]
      simp only [ne_eq, not_true_eq_false, if_false, false_or]
      rw [if_neg (by omega), List.drop_left, collF_stable d.length (d.length - min d.length 3000 + 1) _ _ (by omega) (Nat.lt_succ_self _), if_pos (by rw [hi]; decide)]
      exact hi

theorem mayS_four {s : Snp} (h : mayS s = true) : May4 s.i s.t s.c.data.toList (s.d.size : Nat) := by
  obtain ⟨h1, h2, h3, h4, h5, h6⟩ := mayS_iff.1 h
  have : s.c.data.toList.length = s.c.size := size_data _
  exact ⟨h1, h2, h3, h4, by omega, by omega, by omega⟩

/-- A snapshot's bytes cut off: more is wanted. -/
theorem getS_cut {s : Snp} (h : mayS s = true) (m : Nat) (hm : m < (putS s).length) : getS ((putS s).take m) = (zeroS, 0, 2) := by
  have hl := headS_len h
  have hp := snapP_head h
  obtain ⟨h1, h2, h3, h4, h5, h6⟩ := mayS_iff.1 h
  have hd : s.d.data.toList.length = s.d.size := size_data _
  unfold putS at hm ⊢
  rw [if_pos h] at hm ⊢
  rw [List.length_append] at hm
  by_cases c : m < (sealP 3 (headS s)).length
  · have := open_cut (k := 3) (b := headS s) m (by omega) (by omega) (by omega) c
    rw [List.take_append_of_le_length (by omega)]
    exact (getS_open this).1 (by decide)
  · have hc := coll_cut _ s.d.data.toList (m - (sealP 3 (headS s)).length) (Nat.lt_succ_self _) (by omega)
    rw [hd] at hc
    rw [List.take_append, List.take_of_length_le (by omega)]
    generalize (partsP s.d.data.toList).take (m - (sealP 3 (headS s)).length) = Z at *
    have ho := open_seal (k := 3) (b := headS s) Z (by omega) (by omega) (by omega)
    have hm' : mayS ⟨s.i, s.t, s.c, .empty⟩ = true := mayS_iff.2 ⟨h1, h2, h3, h4, h5, by simp⟩
    rw [(getS_open ho).2.1 rfl (by rw [hp]; exact ⟨rfl, by simp [rdD], hm', inN1.2 ⟨by dsimp only; omega, by dsimp only; omega⟩⟩), hp, List.drop_left]
    dsimp only
    rw [Int.toNat_natCast]
    unfold finS
    rw [if_pos (by rw [hc]; decide), hc]

/-- Two lists that differ in one place, both with a frame ahead. -/
theorem set_take (l : List UInt8) (i : Nat) (x : UInt8) (m : Nat) : (l.set i x).take m = (l.take m).set i x := by rw [List.take_set]

/-- Parts with a byte changed. -/
theorem coll_set : ∀ (f : Nat) (d : List UInt8) (i : Nat) (x : UInt8) (hf : d.length < f) (hi : i < (partsP d).length), (partsP d)[i] ≠ x → (collP ((partsP d).set i x) d.length).2.2 ≠ 0 := by
  intro f
  induction f with
  | zero => intro d i x h; omega
  | succ f ih =>
    intro d i x hf hi hx
    have h0 : d.length ≠ 0 := fun h => by
      obtain rfl : d = [] := List.eq_nil_of_length_eq_zero h
      simp [partsP_nil] at hi
    have ht : (d.take 3000).length = min d.length 3000 := by rw [List.length_take]; omega
    have hd : (d.drop 3000).length = d.length - min d.length 3000 := by rw [List.length_drop]; omega
    by_cases ho : (openP ((partsP d).set i x)).2.2.2 = 0
    · by_cases h2 : (openP ((partsP d).set i x)).1 ≠ 4 ∨ (openP ((partsP d).set i x)).2.1.length ≠ min d.length 3000
      · rw [coll_bad h0 ho h2]; decide
      · have hk : (openP ((partsP d).set i x)).1 = 4 := Decidable.not_not.1 fun h => h2 (.inl h)
        have hb : (openP ((partsP d).set i x)).2.1.length = min d.length 3000 := Decidable.not_not.1 fun h => h2 (.inr h)
        obtain ⟨hc1, hc2, hc3⟩ := open_canon ho
        have hc1' := hc1
        rw [hk] at hc1 hc3
        have hlen : (sealP 4 (openP ((partsP d).set i x)).2.1).length = (sealP 4 (d.take 3000)).length := by
          rw [sealP_len (by omega) (by omega) (by omega), sealP_len (by omega) (by omega) (by omega), hb, ht]
        rw [hlen] at hc3
        have hpl : (partsP d).length = (sealP 4 (d.take 3000)).length + (partsP (d.drop 3000)).length := by rw [partsP_cons h0, List.length_append]
        by_cases c : i < (sealP 4 (d.take 3000)).length
        · exfalso
          have hpt : (partsP d).take (sealP 4 (d.take 3000)).length = sealP 4 (d.take 3000) := by
            rw [partsP_cons h0, List.take_left]
          rw [hc3, set_take, hpt] at hc1
          refine seal_one (k := 4) (b := d.take 3000) (by omega) (by omega) (by omega) (by rw [hb, ht]) rfl c ?_ hc1
          have e : (partsP d)[i]? = (sealP 4 (d.take 3000))[i]? := by rw [partsP_cons h0, List.getElem?_append_left c]
          rw [List.getElem?_eq_getElem hi, List.getElem?_eq_getElem c] at e
          rw [← Option.some.inj e]
          exact hx
        · have hi2 : i - (sealP 4 (d.take 3000)).length < (partsP (d.drop 3000)).length := by omega
          have hI := ih (d.drop 3000) (i - (sealP 4 (d.take 3000)).length) x (by omega) hi2 (by
            have e : (partsP d)[i]? = (partsP (d.drop 3000))[i - (sealP 4 (d.take 3000)).length]? := by rw [partsP_cons h0, List.getElem?_append_right (by omega)]
            rw [List.getElem?_eq_getElem hi, List.getElem?_eq_getElem hi2] at e
            rw [← Option.some.inj e]
            exact hx)
          have hset : ((partsP d).set i x).drop (sealP 4 (d.take 3000)).length = (partsP (d.drop 3000)).set (i - (sealP 4 (d.take 3000)).length) x := by
            rw [partsP_cons h0, List.set_append_right _ _ (by omega), List.drop_left]
          unfold collP at hI ⊢
          rw [hd] at hI
          rw [collF, if_neg h0, if_neg (by simpa using ho), if_neg h2, hc3, hset, collF_stable d.length (d.length - min d.length 3000 + 1) _ _ (by omega) (Nat.lt_succ_self _), if_pos hI]
          exact hI
    · rw [coll_err h0 ho]; exact ho

theorem putN_upto {n : Nat} (h : n ≤ 66) : putN (n : Int) = UInt8.ofNat (2 * n) :: (if n < 64 then [] else [1]) := by
  have key : ∀ k : Fin 67, putN ((k.val : Nat) : Int) = UInt8.ofNat (2 * k.val) :: (if k.val < 64 then [] else [1]) := by decide
  exact key ⟨n, by omega⟩
theorem four_of {F : List UInt8} (h : F.length = 4) : ∃ a b c d, F = [a, b, c, d] := by
  match F, h with
  | [a, b, c, d], _ => exact ⟨a, b, c, d, rfl⟩
/-- A snapshot's bytes with one changed: not told. -/
theorem getS_set {s : Snp} (h : mayS s = true) (i : Nat) (x : UInt8) (hi : i < (putS s).length) (hx : (putS s)[i] ≠ x) : (getS ((putS s).set i x)).2.2 ≠ 0 := by
  have hl := headS_len h
  have hp := snapP_head h
  have hM := mayS_four h
  have hS : headS s = head4 s.i s.t s.c.data.toList (s.d.size : Nat) := rfl
  obtain ⟨h1, h2, h3, h4, h5, h6⟩ := mayS_iff.1 h
  have hd : s.d.data.toList.length = s.d.size := size_data _
  have hL : putS s = sealP 3 (headS s) ++ partsP s.d.data.toList := by unfold putS; rw [if_pos h]
  have hx0 : (putS s)[i]? ≠ some x := by rw [List.getElem?_eq_getElem hi]; simpa using hx
  clear hx
  rw [hL] at hx0 hi ⊢
  intro e0
  generalize hPd : partsP s.d.data.toList = P at *
  generalize headS s = H at *
  generalize hl' : (sealP 3 H ++ P).set i x = l' at *
  have hdiff : ∀ j, j ≠ i → l'[j]? = (sealP 3 H ++ P)[j]? := fun j hj => by rw [← hl', List.getElem?_set_ne (Ne.symm hj)]
  by_cases ho : (openP l').2.2.2 ≠ 0
  · exact ho (by rw [(getS_open (k := (openP l').1) (body := (openP l').2.1) (n := (openP l').2.2.1) (err := (openP l').2.2.2) rfl).1 ho] at e0; exact absurd e0 ho)
  have ho0 : (openP l').2.2.2 = 0 := Decidable.not_not.1 ho
  by_cases hc : (openP l').1 = 3 ∧ rdD (snapP (openP l').2.1).2.2 = true ∧ mayS (snapP (openP l').2.1).1 = true ∧ inN 0 200000 [(snapP (openP l').2.1).2.1] = true
  case neg =>
    rw [(getS_open (k := (openP l').1) (body := (openP l').2.1) (n := (openP l').2.2.1) (err := (openP l').2.2.2) rfl).2.2 ho0 hc] at e0
    cases e0
  case pos =>
    have hg := (getS_open (k := (openP l').1) (body := (openP l').2.1) (n := (openP l').2.2.1) (err := (openP l').2.2.2) rfl).2.1 ho0 hc
    obtain ⟨hc1, hc2, hc3, hc4⟩ := hc
    obtain ⟨g1, g2, g3⟩ := open_canon ho0
    have hbl := (openP_ok ho0).2.2.1
    rw [hc1] at g1 g3
    generalize (openP l').2.1 = H' at *
    generalize (openP l').2.2.1 = n' at *
    subst g3
    obtain ⟨i', t', c', z', hsn, hH'⟩ := snapP_ok hc2
    rw [hsn] at hc3 hc4 hg
    obtain ⟨m1, m2, m3, m4, m5, m6⟩ := mayS_iff.1 hc3
    obtain ⟨m7, m8⟩ := inN1.1 hc4
    have hM' : May4 i' t' c' z' := ⟨m1, m2, m3, m4, by simpa [ByteArray.size] using m5, m7, m8⟩
    have hl66 := (head4_len hM).2
    have hl66' := (head4_len hM').2
    rw [← hS] at hl66
    rw [← hH'] at hl66'
    -- the two lists
    have hA : l' = sealP 3 H' ++ l'.drop (sealP 3 H').length := (List.take_append_drop _ l').symm.trans (by rw [g1])
    generalize hP' : l'.drop (sealP 3 H').length = P' at *
    by_cases hn : H'.length = H.length
    · have hm : (sealP 3 H').length = (sealP 3 H).length := by rw [sealP_len (by omega) (by omega) (by omega), sealP_len (by omega) (by omega) (by omega), hn]
      by_cases c : i < (sealP 3 H).length
      · have hpt : (sealP 3 H ++ P).take (sealP 3 H).length = sealP 3 H := List.take_left
        rw [hm, ← hl', set_take, hpt] at g1
        refine seal_one (k := 3) (b := H) (by omega) (by omega) (by omega) hn rfl c ?_ g1
        rw [List.getElem?_append_left c, List.getElem?_eq_getElem c] at hx0
        simpa using hx0
      · have hset : l' = sealP 3 H ++ P.set (i - (sealP 3 H).length) x := by
          rw [← hl', List.set_append_right _ _ (by omega)]
        rw [hset] at hA
        obtain ⟨hs, hPP⟩ := List.append_inj hA hm.symm
        have hHH : H' = H := by
          have s1 := sealP_ok (k := 3) (b := H) (by omega) (by omega) (by omega)
          have s2 := sealP_ok (k := 3) (b := H') (by omega) (by omega) (by omega)
          rw [s1, s2] at hs
          exact ((List.append_inj' hs hn.symm).2).symm
        subst hHH
        rw [hsn] at hp
        simp only [Prod.mk.injEq] at hp
        have hi2 : i - (sealP 3 H').length < P.length := by rw [List.length_append] at hi; omega
        rw [List.getElem?_append_right (by omega), List.getElem?_eq_getElem hi2] at hx0
        have hcs := coll_set _ s.d.data.toList (i - (sealP 3 H').length) x (Nat.lt_succ_self _) (by rw [hPd]; exact hi2) (by
          intro h
          apply hx0
          rw [← h]
          congr 1
          simp only [hPd])
        rw [hPd, hPP, hd] at hcs
        rw [hg, hp.2.1, Int.toNat_natCast] at e0
        unfold finS at e0
        rw [if_pos hcs] at e0
        exact hcs e0
    · have p1 := putN_upto (n := H.length) hl66
      have p2 := putN_upto (n := H'.length) hl66'
      have s1 := sealP_ok (k := 3) (b := H) (by omega) (by omega) (by omega)
      have s2 := sealP_ok (k := 3) (b := H') (by omega) (by omega) (by omega)
      unfold headP at s1 s2
      rw [p1] at s1
      rw [p2] at s2
      have f1 := fourN_len (crcSum (UInt8.ofNat (3 : Int).toNat :: (UInt8.ofNat (2 * H.length) :: if H.length < 64 then [] else [1]) ++ H))
      have f2 := fourN_len (crcSum (UInt8.ofNat (3 : Int).toNat :: (UInt8.ofNat (2 * H'.length) :: if H'.length < 64 then [] else [1]) ++ H'))
      generalize fourN (crcSum (UInt8.ofNat (3 : Int).toNat :: (UInt8.ofNat (2 * H.length) :: if H.length < 64 then [] else [1]) ++ H)) = F at *
      generalize fourN (crcSum (UInt8.ofNat (3 : Int).toNat :: (UInt8.ofNat (2 * H'.length) :: if H'.length < 64 then [] else [1]) ++ H')) = F' at *
      rw [s1] at hdiff
      rw [hA, s2] at hdiff
      simp only [List.cons_append, List.append_assoc] at hdiff
      have hi1 : i = 1 := Decidable.byContradiction fun hi1 => by
        have := hdiff 1 (Ne.symm hi1)
        simp only [List.getElem?_cons_succ, List.getElem?_cons_zero, Option.some.injEq] at this
        have := congrArg UInt8.toNat this
        simp at this
        omega
      subst hi1
      have heq : (if H'.length < 64 then [] else [1]) ++ (F' ++ (H' ++ P')) = (if H.length < 64 then [] else [(1 : UInt8)]) ++ (F ++ (H ++ P)) := by
        apply List.ext_getElem?
        intro j
        have := hdiff (j + 2) (by omega)
        simpa only [List.getElem?_cons_succ] using this
      obtain ⟨a0, a1, a2, a3, rfl⟩ := four_of f1
      obtain ⟨b0, b1, b2, b3, rfl⟩ := four_of f2
      by_cases q1 : H.length < 64
      · rw [if_pos q1] at heq
        by_cases q2 : H'.length < 64
        · rw [if_pos q2] at heq
          simp only [List.nil_append, List.cons_append, List.cons.injEq] at heq
          have := heq.2.2.2.2
          rw [hS, hH'] at this
          have := (head4_pre hM' hM this).1
          rw [← hS, ← hH'] at this
          exact hn (by rw [this])
        · rw [if_neg q2] at heq
          simp only [List.nil_append, List.cons_append, List.cons.injEq] at heq
          have := heq.2.2.2.2
          rw [hS, hH'] at this
          have := head4_shift hM hM' this.symm (by rw [← hH']; omega)
          rw [← hS] at this
          omega
      · rw [if_neg q1] at heq
        by_cases q2 : H'.length < 64
        · rw [if_pos q2] at heq
          simp only [List.nil_append, List.cons_append, List.cons.injEq] at heq
          have := heq.2.2.2.2
          rw [hS, hH'] at this
          have := head4_shift hM' hM this (by rw [← hS]; omega)
          rw [← hH'] at this
          omega
        · rw [if_neg q2] at heq
          simp only [List.nil_append, List.cons_append, List.cons.injEq] at heq
          have := heq.2.2.2.2.2
          rw [hS, hH'] at this
          have := (head4_pre hM' hM this).1
          rw [← hS, ← hH'] at this
          exact hn (by rw [this])
end Go.Proofs.Ytankebgpkhcgnaa
