/-
  No claim by itself: records one behind the other are read one by one, up to what stands behind. | a snapshot's bytes cut off, or with a byte changed, are not told: the laws. | logs: in, row, First, Last, Term, Fits, Get: what each tells. | logs: Term, Fits, Get, Newer: what each tells. | logs: Fits, Newer, Get, Snap: what each tells. | logs: New. | logs: Put. | a law on drawn regions of which the last operations (a store, an append) wait for all others: all but they are walked once, in the text's order; then they. | logs: Pack, Set. | slices.Clone of integers: a row of its own with the same integers. | conf.Decode; logs: Conf. No condition.
-/
import Derived.Test.YtcogmohepcifiaaP3
import Derived.Test.YtcogmohepcifiaaP5
import Derived.Test.YtcogmohepcifiaaP4
import Derived.Deep.QuietTactic
import Derived.Deep.DeepCutAuto
import Derived.Deep.Cut
import Derived.WalkSmall
import Derived.WalkLawsBesides
import Derived.StillTail
import Derived.Lib.BufferMore
namespace Go.Proofs.Ytcogmohepcifiaa
open Go.ChangeShapes Go.WideShapes Go.ChangeAt Go.RowKit

def encs (rs : List Rec) : List UInt8 := rs.flatMap encR
theorem encs_snoc (rs : List Rec) (r : Rec) : encs (rs ++ [r]) = encs rs ++ encR r := by simp [encs]
theorem encR_pos {r : Rec} (h : mayR r = true) : 5 ≤ (encR r).length := by
  unfold encR
  rw [if_pos h, sealP_len (by split <;> decide) (by split <;> decide) (mayR_body h)]
  omega
theorem encR_nil {r : Rec} (h : mayR r = false) : encR r = [] := by
  unfold encR
  rw [h]
  rfl
theorem encR_le (r : Rec) : (encR r).length ≤ 4016 := by
  unfold encR
  split
  · exact sealP_le _ _
  · simp
theorem encs_len (rs : List Rec) : (encs rs).length ≤ 4016 * rs.length := by
  induction rs with
  | nil => simp [encs]
  | cons r rs ih =>
    have := encR_le r
    unfold encs at ih ⊢
    rw [List.flatMap_cons, List.length_append, List.length_cons]
    omega
theorem scan_encs (rs : List Rec) (rest : List UInt8) (h : ∀ r ∈ rs, mayR r = true) : scanR (encs rs ++ rest) = (rs ++ (scanR rest).1, (encs rs).length + (scanR rest).2.1, (scanR rest).2.2) := by
  induction rs with
  | nil => simp [encs]
  | cons r rs ih =>
    have hr := h r (List.mem_cons_self ..)
    have hp := encR_pos hr
    have hd := decR_enc (encs rs ++ rest) hr
    have e : encs (r :: rs) = encR r ++ encs rs := by simp [encs]
    rw [e, List.append_assoc, scanR_yes (by rw [List.length_append]; omega) (by rw [hd]), hd]
    simp only [List.drop_left]
    rw [ih (fun x hx => h x (List.mem_cons_of_mem _ hx))]
    simp only [List.cons_append, List.length_append, Nat.add_assoc]
/-- A record that is cut off. -/
theorem decR_cut {r : Rec} (h : mayR r = true) (m : Nat) (hm : m < (encR r).length) : decR ((encR r).take m) = (zeroR, 0, 2) := by
  have hb := mayR_body h
  unfold encR at hm ⊢
  rw [if_pos h] at hm ⊢
  unfold decR
  rw [open_cut m (by split <;> decide) (by split <;> decide) hb hm]
  rfl
theorem scan_torn (rs : List Rec) (r : Rec) (h : ∀ x ∈ rs, mayR x = true) (hr : mayR r = true) (m : Nat) (h0 : 0 < m) (hm : m < (encR r).length) : scanR (encs rs ++ (encR r).take m) = (rs, (encs rs).length, true) := by
  have hd := decR_cut hr m hm
  rw [scan_encs rs _ h, scanR_no (by rw [List.length_take]; omega) (by rw [hd]; decide), hd]
  simp
end Go.Proofs.Ytcogmohepcifiaa
namespace Go.Proofs.Ytcogmohepcifiaa
open Go.ChangeShapes Go.WideShapes Go.ChangeAt Go.RowKit

theorem getS_no {l : List UInt8} (h : (getS l).2.2 ≠ 0) : (getS l).2.1 = 0 := by
  unfold getS at h ⊢
  by_cases h1 : (openP l).2.2.2 ≠ 0
  · rw [if_pos h1]
  rw [if_neg h1] at h ⊢
  split
  · rename_i h2
    rw [if_pos h2] at h
    split
    · rfl
    · rename_i h3
      rw [if_neg h3] at h
      exact absurd rfl h
  · rfl

/-- Parts cut off. -/
theorem coll_cut : ∀ (f : Nat) (d : List UInt8) (m : Nat), d.length < f → m < (partsP d).length → (collP ((partsP d).take m) d.length).2.2 = 2 := by
  intro f
  induction f with
  | zero => intro d m h; omega
  | succ f ih =>
    intro d m hf hm
    have h0 : d.length ≠ 0 := fun h => by
      obtain rfl : d = [] := List.eq_nil_of_length_eq_zero h
      simp [partsP_nil] at hm
    have ht : (d.take 3000).length = min d.length 3000 := by rw [List.length_take]; omega
    have hd : (d.drop 3000).length = d.length - min d.length 3000 := by rw [List.length_drop]; omega
    rw [partsP_cons h0] at hm ⊢
    rw [List.length_append] at hm
    by_cases c : m < (sealP 4 (d.take 3000)).length
    · have := open_cut (k := 4) (b := d.take 3000) m (by omega) (by omega) (by omega) c
      rw [List.take_append_of_le_length (by omega), coll_err h0 (by rw [this]; decide), this]
    · have hi := ih (d.drop 3000) (m - (sealP 4 (d.take 3000)).length) (by omega) (by omega)
      rw [List.take_append, List.take_of_length_le (by omega)]
      generalize (partsP (d.drop 3000)).take (m - (sealP 4 (d.take 3000)).length) = Z at *
      unfold collP at hi
      rw [hd] at hi
      unfold collP
      rw [collF, if_neg h0, open_seal _ (by omega) (by omega) (by omega)]
      simp only [ne_eq, not_true_eq_false, if_false, false_or]
      rw [if_neg (by omega), List.drop_left, collF_stable d.length (d.length - min d.length 3000 + 1) _ _ (by omega) (Nat.lt_succ_self _), if_pos (by rw [hi]; decide)]
      exact hi

theorem mayS_four {s : Snp} (h : mayS s = true) : May4 s.i s.t s.c.data.toList (s.d.size : Nat) := by
  obtain ⟨h1, h2, h3, h4, h5, h6⟩ := mayS_iff.1 h
  have : s.c.data.toList.length = s.c.size := size_data _
  exact ⟨h1, h2, h3, h4, by omega, by omega, by omega⟩

/-- A snapshot's bytes cut off: more is wanted. -/
theorem getS_cut {s : Snp} (h : mayS s = true) (m : Nat) (hm : m < (putS s).length) : getS ((putS s).take m) = (zeroS, 0, 2) := by
  have hl := headS_len h
  have hp := snapP_head h
  obtain ⟨h1, h2, h3, h4, h5, h6⟩ := mayS_iff.1 h
  have hd : s.d.data.toList.length = s.d.size := size_data _
  unfold putS at hm ⊢
  rw [if_pos h] at hm ⊢
  rw [List.length_append] at hm
  by_cases c : m < (sealP 3 (headS s)).length
  · have := open_cut (k := 3) (b := headS s) m (by omega) (by omega) (by omega) c
    rw [List.take_append_of_le_length (by omega)]
    exact (getS_open this).1 (by decide)
  · have hc := coll_cut _ s.d.data.toList (m - (sealP 3 (headS s)).length) (Nat.lt_succ_self _) (by omega)
    rw [hd] at hc
    rw [List.take_append, List.take_of_length_le (by omega)]
    generalize (partsP s.d.data.toList).take (m - (sealP 3 (headS s)).length) = Z at *
    have ho := open_seal (k := 3) (b := headS s) Z (by omega) (by omega) (by omega)
    have hm' : mayS ⟨s.i, s.t, s.c, .empty⟩ = true := mayS_iff.2 ⟨h1, h2, h3, h4, h5, by simp⟩
    rw [(getS_open ho).2.1 rfl (by rw [hp]; exact ⟨rfl, by simp [rdD], hm', inN1.2 ⟨by dsimp only; omega, by dsimp only; omega⟩⟩), hp, List.drop_left]
    dsimp only
    rw [Int.toNat_natCast]
    unfold finS
    rw [if_pos (by rw [hc]; decide), hc]

/-- Two lists that differ in one place, both with a frame ahead. -/
theorem set_take (l : List UInt8) (i : Nat) (x : UInt8) (m : Nat) : (l.set i x).take m = (l.take m).set i x := by rw [List.take_set]

/-- Parts with a byte changed. -/
theorem coll_set : ∀ (f : Nat) (d : List UInt8) (i : Nat) (x : UInt8) (_hf : d.length < f) (hi : i < (partsP d).length), (partsP d)[i] ≠ x → (collP ((partsP d).set i x) d.length).2.2 ≠ 0 := by
  intro f
  induction f with
  | zero => intro d i x h; omega
  | succ f ih =>
    intro d i x hf hi hx
    have h0 : d.length ≠ 0 := fun h => by
      obtain rfl : d = [] := List.eq_nil_of_length_eq_zero h
      simp [partsP_nil] at hi
    have ht : (d.take 3000).length = min d.length 3000 := by rw [List.length_take]; omega
    have hd : (d.drop 3000).length = d.length - min d.length 3000 := by rw [List.length_drop]; omega
    by_cases ho : (openP ((partsP d).set i x)).2.2.2 = 0
    · by_cases h2 : (openP ((partsP d).set i x)).1 ≠ 4 ∨ (openP ((partsP d).set i x)).2.1.length ≠ min d.length 3000
      · rw [coll_bad h0 ho h2]; decide
      · have hk : (openP ((partsP d).set i x)).1 = 4 := Decidable.not_not.1 fun h => h2 (.inl h)
        have hb : (openP ((partsP d).set i x)).2.1.length = min d.length 3000 := Decidable.not_not.1 fun h => h2 (.inr h)
        obtain ⟨hc1, hc2, hc3⟩ := open_canon ho
        have hc1' := hc1
        rw [hk] at hc1 hc3
        have hlen : (sealP 4 (openP ((partsP d).set i x)).2.1).length = (sealP 4 (d.take 3000)).length := by
          rw [sealP_len (by omega) (by omega) (by omega), sealP_len (by omega) (by omega) (by omega), hb, ht]
        rw [hlen] at hc3
        have hpl : (partsP d).length = (sealP 4 (d.take 3000)).length + (partsP (d.drop 3000)).length := by rw [partsP_cons h0, List.length_append]
        by_cases c : i < (sealP 4 (d.take 3000)).length
        · exfalso
          have hpt : (partsP d).take (sealP 4 (d.take 3000)).length = sealP 4 (d.take 3000) := by
            rw [partsP_cons h0, List.take_left]
          rw [hc3, set_take, hpt] at hc1
          refine seal_one (k := 4) (b := d.take 3000) (by omega) (by omega) (by omega) (by rw [hb, ht]) rfl c ?_ hc1
          have e : (partsP d)[i]? = (sealP 4 (d.take 3000))[i]? := by rw [partsP_cons h0, List.getElem?_append_left c]
          rw [List.getElem?_eq_getElem hi, List.getElem?_eq_getElem c] at e
          rw [← Option.some.inj e]
          exact hx
        · have hi2 : i - (sealP 4 (d.take 3000)).length < (partsP (d.drop 3000)).length := by omega
          have hI := ih (d.drop 3000) (i - (sealP 4 (d.take 3000)).length) x (by omega) hi2 (by
            have e : (partsP d)[i]? = (partsP (d.drop 3000))[i - (sealP 4 (d.take 3000)).length]? := by rw [partsP_cons h0, List.getElem?_append_right (by omega)]
            rw [List.getElem?_eq_getElem hi, List.getElem?_eq_getElem hi2] at e
            rw [← Option.some.inj e]
            exact hx)
          have hset : ((partsP d).set i x).drop (sealP 4 (d.take 3000)).length = (partsP (d.drop 3000)).set (i - (sealP 4 (d.take 3000)).length) x := by
            rw [partsP_cons h0, List.set_append_right _ _ (by omega), List.drop_left]
          unfold collP at hI ⊢
          rw [hd] at hI
          rw [collF, if_neg h0, if_neg (by simpa using ho), if_neg h2, hc3, hset, collF_stable d.length (d.length - min d.length 3000 + 1) _ _ (by omega) (Nat.lt_succ_self _), if_pos hI]
          exact hI
    · rw [coll_err h0 ho]; exact ho

theorem putN_upto {n : Nat} (h : n ≤ 66) : putN (n : Int) = UInt8.ofNat (2 * n) :: (if n < 64 then [] else [1]) := by
  have key : ∀ k : Fin 67, putN ((k.val : Nat) : Int) = UInt8.ofNat (2 * k.val) :: (if k.val < 64 then [] else [1]) := by decide
  exact key ⟨n, by omega⟩
theorem four_of {F : List UInt8} (h : F.length = 4) : ∃ a b c d, F = [a, b, c, d] := by
  match F, h with
  | [a, b, c, d], _ => exact ⟨a, b, c, d, rfl⟩
/-- A snapshot's bytes with one changed: not told. -/
theorem getS_set {s : Snp} (h : mayS s = true) (i : Nat) (x : UInt8) (hi : i < (putS s).length) (hx : (putS s)[i] ≠ x) : (getS ((putS s).set i x)).2.2 ≠ 0 := by
  have hl := headS_len h
  have hp := snapP_head h
  have hM := mayS_four h
  have hS : headS s = head4 s.i s.t s.c.data.toList (s.d.size : Nat) := rfl
  obtain ⟨h1, h2, h3, h4, h5, h6⟩ := mayS_iff.1 h
  have hd : s.d.data.toList.length = s.d.size := size_data _
  have hL : putS s = sealP 3 (headS s) ++ partsP s.d.data.toList := by unfold putS; rw [if_pos h]
  have hx0 : (putS s)[i]? ≠ some x := by rw [List.getElem?_eq_getElem hi]; simpa using hx
  clear hx
  rw [hL] at hx0 hi ⊢
  intro e0
  generalize hPd : partsP s.d.data.toList = P at *
  generalize headS s = H at *
  generalize hl' : (sealP 3 H ++ P).set i x = l' at *
  have hdiff : ∀ j, j ≠ i → l'[j]? = (sealP 3 H ++ P)[j]? := fun j hj => by rw [← hl', List.getElem?_set_ne (Ne.symm hj)]
  by_cases ho : (openP l').2.2.2 ≠ 0
  · exact ho (by rw [(getS_open (k := (openP l').1) (body := (openP l').2.1) (n := (openP l').2.2.1) (err := (openP l').2.2.2) rfl).1 ho] at e0; exact absurd e0 ho)
  have ho0 : (openP l').2.2.2 = 0 := Decidable.not_not.1 ho
  by_cases hc : (openP l').1 = 3 ∧ rdD (snapP (openP l').2.1).2.2 = true ∧ mayS (snapP (openP l').2.1).1 = true ∧ inN 0 200000 [(snapP (openP l').2.1).2.1] = true
  case neg =>
    rw [(getS_open (k := (openP l').1) (body := (openP l').2.1) (n := (openP l').2.2.1) (err := (openP l').2.2.2) rfl).2.2 ho0 hc] at e0
    cases e0
  case pos =>
    have hg := (getS_open (k := (openP l').1) (body := (openP l').2.1) (n := (openP l').2.2.1) (err := (openP l').2.2.2) rfl).2.1 ho0 hc
    obtain ⟨hc1, hc2, hc3, hc4⟩ := hc
    obtain ⟨g1, g2, g3⟩ := open_canon ho0
    have hbl := (openP_ok ho0).2.2.1
    rw [hc1] at g1 g3
    generalize (openP l').2.1 = H' at *
    generalize (openP l').2.2.1 = n' at *
    subst g3
    obtain ⟨i', t', c', z', hsn, hH'⟩ := snapP_ok hc2
    rw [hsn] at hc3 hc4 hg
    obtain ⟨m1, m2, m3, m4, m5, m6⟩ := mayS_iff.1 hc3
    obtain ⟨m7, m8⟩ := inN1.1 hc4
    have hM' : May4 i' t' c' z' := ⟨m1, m2, m3, m4, by simpa [ByteArray.size] using m5, m7, m8⟩
    have hl66 := (head4_len hM).2
    have hl66' := (head4_len hM').2
    rw [← hS] at hl66
    rw [← hH'] at hl66'
    -- the two lists
    have hA : l' = sealP 3 H' ++ l'.drop (sealP 3 H').length := (List.take_append_drop _ l').symm.trans (by rw [g1])
    generalize hP' : l'.drop (sealP 3 H').length = P' at *
    by_cases hn : H'.length = H.length
    · have hm : (sealP 3 H').length = (sealP 3 H).length := by rw [sealP_len (by omega) (by omega) (by omega), sealP_len (by omega) (by omega) (by omega), hn]
      by_cases c : i < (sealP 3 H).length
      · have hpt : (sealP 3 H ++ P).take (sealP 3 H).length = sealP 3 H := List.take_left
        rw [hm, ← hl', set_take, hpt] at g1
        refine seal_one (k := 3) (b := H) (by omega) (by omega) (by omega) hn rfl c ?_ g1
        rw [List.getElem?_append_left c, List.getElem?_eq_getElem c] at hx0
        simpa using hx0
      · have hset : l' = sealP 3 H ++ P.set (i - (sealP 3 H).length) x := by
          rw [← hl', List.set_append_right _ _ (by omega)]
        rw [hset] at hA
        obtain ⟨hs, hPP⟩ := List.append_inj hA hm.symm
        have hHH : H' = H := by
          have s1 := sealP_ok (k := 3) (b := H) (by omega) (by omega) (by omega)
          have s2 := sealP_ok (k := 3) (b := H') (by omega) (by omega) (by omega)
          rw [s1, s2] at hs
          exact ((List.append_inj' hs hn.symm).2).symm
        subst hHH
        rw [hsn] at hp
        simp only [Prod.mk.injEq] at hp
        have hi2 : i - (sealP 3 H').length < P.length := by rw [List.length_append] at hi; omega
        rw [List.getElem?_append_right (by omega), List.getElem?_eq_getElem hi2] at hx0
        have hcs := coll_set _ s.d.data.toList (i - (sealP 3 H').length) x (Nat.lt_succ_self _) (by rw [hPd]; exact hi2) (by
          intro h
          apply hx0
          rw [← h]
          congr 1
          simp only [hPd])
        rw [hPd, hPP, hd] at hcs
        rw [hg, hp.2.1, Int.toNat_natCast] at e0
        unfold finS at e0
        rw [if_pos hcs] at e0
        exact hcs e0
    · have p1 := putN_upto (n := H.length) hl66
      have p2 := putN_upto (n := H'.length) hl66'
      have s1 := sealP_ok (k := 3) (b := H) (by omega) (by omega) (by omega)
      have s2 := sealP_ok (k := 3) (b := H') (by omega) (by omega) (by omega)
      unfold headP at s1 s2
      rw [p1] at s1
      rw [p2] at s2
      have f1 := fourN_len (crcSum (UInt8.ofNat (3 : Int).toNat :: (UInt8.ofNat (2 * H.length) :: if H.length < 64 then [] else [1]) ++ H))
      have f2 := fourN_len (crcSum (UInt8.ofNat (3 : Int).toNat :: (UInt8.ofNat (2 * H'.length) :: if H'.length < 64 then [] else [1]) ++ H'))
      generalize fourN (crcSum (UInt8.ofNat (3 : Int).toNat :: (UInt8.ofNat (2 * H.length) :: if H.length < 64 then [] else [1]) ++ H)) = F at *
      generalize fourN (crcSum (UInt8.ofNat (3 : Int).toNat :: (UInt8.ofNat (2 * H'.length) :: if H'.length < 64 then [] else [1]) ++ H')) = F' at *
      rw [s1] at hdiff
      rw [hA, s2] at hdiff
      simp only [List.cons_append, List.append_assoc] at hdiff
      have hi1 : i = 1 := Decidable.byContradiction fun hi1 => by
        have := hdiff 1 (Ne.symm hi1)
        simp only [List.getElem?_cons_succ, List.getElem?_cons_zero, Option.some.injEq] at this
        have := congrArg UInt8.toNat this
        simp at this
        omega
      subst hi1
      have heq : (if H'.length < 64 then [] else [1]) ++ (F' ++ (H' ++ P')) = (if H.length < 64 then [] else [(1 : UInt8)]) ++ (F ++ (H ++ P)) := by
        apply List.ext_getElem?
        intro j
        have := hdiff (j + 2) (by omega)
        simpa only [List.getElem?_cons_succ] using this
      obtain ⟨a0, a1, a2, a3, rfl⟩ := four_of f1
      obtain ⟨b0, b1, b2, b3, rfl⟩ := four_of f2
      by_cases q1 : H.length < 64
      · rw [if_pos q1] at heq
        by_cases q2 : H'.length < 64
        · rw [if_pos q2] at heq
          simp only [List.nil_append, List.cons_append, List.cons.injEq] at heq
          have := heq.2.2.2.2
          rw [hS, hH'] at this
          have := (head4_pre hM' hM this).1
          rw [← hS, ← hH'] at this
          exact hn (by rw [this])
        · rw [if_neg q2] at heq
          simp only [List.nil_append, List.cons_append, List.cons.injEq] at heq
          have := heq.2.2.2.2
          rw [hS, hH'] at this
          have := head4_shift hM hM' this.symm (by rw [← hH']; omega)
          rw [← hS] at this
          omega
      · rw [if_neg q1] at heq
        by_cases q2 : H'.length < 64
        · rw [if_pos q2] at heq
          simp only [List.nil_append, List.cons_append, List.cons.injEq] at heq
          have := heq.2.2.2.2
          rw [hS, hH'] at this
          have := head4_shift hM' hM this (by rw [← hS]; omega)
          rw [← hH'] at this
          omega
        · rw [if_neg q2] at heq
          simp only [List.nil_append, List.cons_append, List.cons.injEq] at heq
          have := heq.2.2.2.2.2
          rw [hS, hH'] at this
          have := (head4_pre hM' hM this).1
          rw [← hS, ← hH'] at this
          exact hn (by rw [this])
end Go.Proofs.Ytcogmohepcifiaa
namespace Go.Proofs.Ytcogmohepcifiaa
open Go.ChangeShapes Go.WideShapes Go.ChangeAt Go.RowKit

/-- May numbers be? -/
def okN (n : Int) : Bool := decide (0 ≤ n) && decide (n ≤ 1099511627776)
def inP (l : List Int) : Bool := l.all okN
/-- Do entries stand one behind the other, behind an Index and a Term? -/
def rowP : Int → Int → List Ent → Bool
  | _, _, [] => true
  | i, t, e :: es => (e.i == wrap64 (i + 1)) && decide (t ≤ e.t) && rowP e.i e.t es

theorem reads_ints {w : World} {a : Option Addr} {n cap : Nat} {l : List Int} (h : Reads w (.slice a n cap) (l.map (Value.int .i64))) : n = l.length ∧ cap ≤ 9223372036854775807 ∧ l.length ≤ cap ∧ Hid (∀ k (h : k < l.length), ∃ b off, a = some ⟨b, off, none⟩ ∧ w.cell? ⟨b, off + k, none⟩ = some (.int .i64 l[k])) := by
  obtain ⟨a', cap', hv, h1, h2, h3⟩ := h
  rw [List.length_map] at hv h1
  simp only [Value.slice.injEq] at hv
  obtain ⟨rfl, rfl, rfl⟩ := hv
  refine ⟨rfl, h2, h1, Lib.hid fun k hk => ?_⟩
  obtain ⟨b, off, rfl, hc⟩ := h3 (by intro e; rw [List.map_eq_nil_iff] at e; subst e; simp at hk)
  have := hc k (by rw [List.length_map]; exact hk)
  rw [List.getElem_map] at this
  exact ⟨b, off, rfl, this⟩

/-- A log in memory: a block of five cells, and its entries. -/
structure LogS (w : World) (b : Nat) (s : Snp) (lv : Value) (es : List Ent) : Prop where
  lt : b < w.heap.size
  c0 : w.cell? ⟨b, 0, none⟩ = some (.int .i64 s.i)
  c1 : w.cell? ⟨b, 1, none⟩ = some (.int .i64 s.t)
  c2 : w.cell? ⟨b, 2, none⟩ = some (.string s.c)
  c3 : w.cell? ⟨b, 3, none⟩ = some (.string s.d)
  c4 : w.cell? ⟨b, 4, none⟩ = some lv
  fr : ∀ j, w.frozen? ⟨b, j, none⟩ = false
  r : EntR w lv es
  ne : ∀ g off n c, lv = .slice (some ⟨g, off, none⟩) n c → g ≠ b
/-- Its numbers. -/
def LogB (s : Snp) (es : List Ent) : Prop := 0 ≤ s.i ∧ s.i ≤ 4611686018427387904 ∧ es.length ≤ 200
def logPtr (b : Nat) : Value := .pointer (some ⟨b, 0, none⟩)

theorem LogS.below {w w' : World} {b : Nat} {s : Snp} {lv : Value} {es : List Ent} (h : LogS w b s lv es) (hb : Below w.heap.size w w') : LogS w' b s lv es :=
  ⟨Nat.lt_of_lt_of_le h.lt hb.size, (hb.cell (p := ⟨b, 0, none⟩) h.lt).trans h.c0, (hb.cell (p := ⟨b, 1, none⟩) h.lt).trans h.c1, (hb.cell (p := ⟨b, 2, none⟩) h.lt).trans h.c2, (hb.cell (p := ⟨b, 3, none⟩) h.lt).trans h.c3, (hb.cell (p := ⟨b, 4, none⟩) h.lt).trans h.c4,
    fun j => (hb.frozen (p := ⟨b, j, none⟩) h.lt).trans (h.fr j), h.r.below hb, h.ne⟩

def lastP (s : Snp) (es : List Ent) : Int := s.i + es.length
def termP (s : Snp) (es : List Ent) (i : Int) : Int × Bool :=
  if i < s.i ∨ lastP s es < i then (0, false) else if i = s.i then (s.t, true) else ((es[(i - s.i - 1).toNat]?.map (·.t)).getD 0, true)
def fitsP (s : Snp) (es : List Ent) (i t : Int) : Bool := (termP s es i).2 && ((termP s es i).1 == t)
def getP (s : Snp) (es : List Ent) (i n : Int) : List Ent := if i < s.i + 1 ∨ lastP s es < i ∨ n < 1 then [] else (es.drop (i - (s.i + 1)).toNat).take n.toNat
def newerP (s : Snp) (es : List Ent) (i t : Int) : Bool := decide ((termP s es (lastP s es)).1 < t) || (t == (termP s es (lastP s es)).1 && decide (lastP s es ≤ i))

end Go.Proofs.Ytcogmohepcifiaa
namespace Go.Proofs.Ytcogmohepcifiaa
open Go.ChangeShapes Go.WideShapes Go.ChangeAt Go.RowKit

theorem below_drewN' {w : World} (n : Nat) : Below w.heap.size w (w.drewN n) := below_drewN (Below.refl _ _) n

end Go.Proofs.Ytcogmohepcifiaa
namespace Go.Proofs.Ytcogmohepcifiaa
open Go.ChangeShapes Go.WideShapes Go.ChangeAt Go.RowKit

end Go.Proofs.Ytcogmohepcifiaa
namespace Go.Proofs.Ytcogmohepcifiaa
open Go.ChangeShapes Go.WideShapes Go.ChangeAt Go.RowKit

def newOk (s : Snp) (es : List Ent) : Bool := inP [s.i, s.t] && decide (es.length ≤ 200) && rowP s.i s.t es
/-- Of a slice's own block: new since a world. -/
def Since (w : World) (lv : Value) : Prop := ∀ g off n c, lv = .slice (some ⟨g, off, none⟩) n c → w.heap.size ≤ g
def RetLog (w : World) (s : Snp) (es : List Ent) (e : Ending) (w' : World) : Prop :=
  ∃ b lv, e = .returned (logPtr b) ∧ LogS w' b s lv es ∧ Below w.heap.size w w' ∧ w.heap.size ≤ b ∧ Since w lv

theorem EntO.since {w w0 : World} {base : Nat} {v : Value} {es : List Ent} (h : EntO w base v es) (hb : w0.heap.size ≤ base) : Since w0 v := by
  intro g off n c hv
  rcases h.2 with ⟨h1, _⟩ | ⟨g', cap, cur, h1, hg, _⟩
  · rw [hv] at h1; cases h1
  · rw [hv] at h1
    simp only [Value.slice.injEq, Option.some.injEq, Addr.mk.injEq] at h1
    omega
theorem EntO.lt {w : World} {base : Nat} {v : Value} {es : List Ent} (h : EntO w base v es) : ∀ g off n c, v = .slice (some ⟨g, off, none⟩) n c → g < w.heap.size := by
  intro g off n c hv
  rcases h.2 with ⟨h1, _⟩ | ⟨g', cap, cur, h1, hg, hh, _⟩
  · rw [hv] at h1; cases h1
  · rw [hv] at h1
    simp only [Value.slice.injEq, Option.some.injEq, Addr.mk.injEq] at h1
    obtain ⟨⟨rfl, _⟩, _⟩ := h1
    exact (Array.getElem?_eq_some_iff.1 hh).1

theorem logS_fresh {w : World} {base : Nat} {lv : Value} {es : List Ent} {s : Snp} (h : EntO w base lv es) (T : TypeId) :
    LogS (w.alloc (.cells #[.int .i64 s.i, .int .i64 s.t, .string s.c, .string s.d, lv] T)) w.heap.size s lv es := by
  have hn := heap_alloc_new w (.cells #[.int .i64 s.i, .int .i64 s.t, .string s.c, .string s.d, lv] T)
  have hb := (Below.refl w.heap.size w).alloc (Nat.le_refl _) (.cells #[.int .i64 s.i, .int .i64 s.t, .string s.c, .string s.d, lv] T)
  refine ⟨?_, ?_, ?_, ?_, ?_, ?_, fun j => World.frozen?_alloc_new w _ _ j, h.r.below hb, fun g off n c hv => by have := h.lt g off n c hv; omega⟩
  · show w.heap.size < (w.heap.push _).size; simp
  · rw [cell_of_row _ w.heap.size 0 _ T (0, 0) hn]; rfl
  · rw [cell_of_row _ w.heap.size 1 _ T (0, 0) hn]; rfl
  · rw [cell_of_row _ w.heap.size 2 _ T (0, 0) hn]; rfl
  · rw [cell_of_row _ w.heap.size 3 _ T (0, 0) hn]; rfl
  · rw [cell_of_row _ w.heap.size 4 _ T (0, 0) hn]; rfl

set_option maxHeartbeats 1000000 in
/-- What New yields. -/
def RetNewL (w : World) (s : Snp) (es : List Ent) (e : Ending) (w' : World) : Prop :=
  if newOk s es = true then RetLog w s es e w' else e = .returned (.pointer none) ∧ Below w.heap.size w w'
theorem RetNewL.no {w : World} {s : Snp} {es : List Ent} {w' : World} (h : newOk s es = false) (hb : Below w.heap.size w w') : RetNewL w s es (.returned (.pointer none)) w' := by
  unfold RetNewL
  rw [if_neg (by rw [h]; decide)]
  exact ⟨rfl, hb⟩
theorem RetNewL.yes {w : World} {s : Snp} {es : List Ent} {e : Ending} {w' : World} (h : newOk s es = true) (hb : RetLog w s es e w') : RetNewL w s es e w' := by
  unfold RetNewL
  rw [if_pos h]
  exact hb

end Go.Proofs.Ytcogmohepcifiaa
namespace Go.Proofs.Ytcogmohepcifiaa
open Go.ChangeShapes Go.WideShapes Go.ChangeAt Go.RowKit

/-- What Put goes past. -/
def pastP (s : Snp) (es : List Ent) (e : Ent) : Bool := decide (e.i ≤ s.i) || fitsP s es e.i e.t
def putRest (s : Snp) (es : List Ent) : List Ent → (Int × Bool) × List Ent
  | [] => ((0, true), es)
  | e :: fs => if e.t < (termP s es (e.i - 1)).1 ∨ 200 < e.i - (s.i + 1) + ((fs.length : Int) + 1) then ((0, false), es) else ((e.i, true), es.take (e.i - (s.i + 1)).toNat ++ e :: fs)
def putP (s : Snp) (es : List Ent) : List Ent → (Int × Bool) × List Ent
  | [] => ((0, true), es)
  | e :: fs => if lastP s es + 1 < e.i ∨ rowP (wrap64 (e.i - 1)) e.t (e :: fs) = false then ((0, false), es) else putRest s es ((e :: fs).dropWhile (pastP s es))

def pastL (s : Snp) (es : List Ent) : List Ent → Bool
  | [] => false
  | e :: _ => pastP s es e
/-- What the loop keeps. -/
def putInv (s : Snp) (es : List Ent) (fs : List Ent) : Prop := (∃ i t, rowP i t fs = true) ∧ ∀ e ∈ fs.head?, e.i ≤ lastP s es + 1
theorem term_in {s : Snp} {es : List Ent} {i : Int} (h : (termP s es i).2 = true) : s.i ≤ i ∧ i ≤ lastP s es := by
  unfold termP at h
  split at h
  · cases h
  · omega
theorem putInv.next {s : Snp} {es : List Ent} {e : Ent} {fs : List Ent} (hB : LogB s es) (h : putInv s es (e :: fs)) (hp : pastP s es e = true) (hlo : -9223372036854775808 ≤ e.i) : putInv s es fs := by
  obtain ⟨⟨i, t, hr⟩, hh⟩ := h
  obtain ⟨b0, b1, b2⟩ := hB
  simp only [rowP, Bool.and_eq_true] at hr
  refine ⟨⟨e.i, e.t, hr.2⟩, fun f hf => ?_⟩
  cases fs with
  | nil => cases hf
  | cons g fs =>
    simp only [List.head?_cons, Option.mem_some] at hf
    subst hf
    have h2 := hr.2
    simp only [rowP, Bool.and_eq_true, beq_iff_eq] at h2
    have hl : e.i ≤ lastP s es := by
      simp only [pastP, Bool.or_eq_true, decide_eq_true_eq] at hp
      rcases hp with hp | hp
      · unfold lastP; omega
      · simp only [fitsP, Bool.and_eq_true] at hp
        exact (term_in hp.1).2
    rw [h2.1.1, IntWalk.wrap64_in _ (by unfold lastP at hl; omega)]
    omega
theorem row_start {e : Ent} {fs : List Ent} (h : rowP (wrap64 (e.i - 1)) e.t (e :: fs) = true) : ∃ i t, rowP i t (e :: fs) = true := ⟨_, _, h⟩

def RetPut (w : World) (b : Nat) (s : Snp) (lv : Value) (es fs : List Ent) (e : Ending) (w' : World) : Prop :=
  ∃ lv', e = .returned (.tuple #[.int .i64 (putP s es fs).1.1, .bool (putP s es fs).1.2]) ∧ LogS w' b s lv' (putP s es fs).2 ∧ Keeps [b] w w' ∧ (lv' = lv ∨ Since w lv')

theorem LogS.setL {w w1 : World} {b : Nat} {s : Snp} {lv lv' : Value} {es es' : List Ent} (h : LogS w b s lv es) (hb : Below w.heap.size w w1) (hr : EntR w1 lv' es') (hn : Since w lv') :
    LogS (w1.setCell ⟨b, 4, none⟩ lv') b s lv' es' ∧ Keeps [b] w (w1.setCell ⟨b, 4, none⟩ lv') := by
  have h1 := h.below hb
  have hlt := h.lt
  have hne : ∀ g off n c, lv' = .slice (some ⟨g, off, none⟩) n c → g ≠ b := fun g off n c hv => by have := hn g off n c hv; omega
  have hk : Keeps [b] w1 (w1.setCell ⟨b, 4, none⟩ lv') := (Keeps.refl [b] w1).setCell (.inl (by simp)) _
  refine ⟨⟨?_, ?_, ?_, ?_, ?_, ?_, fun j => ?_, ?_, hne⟩, (Keeps.of_below hb).trans hk (fun x hx => .inl hx)⟩
  · have := h1.lt; simpa [World.setCell] using this
  · rw [World.cell?_setCell_other (h := by simp)]; exact h1.c0
  · rw [World.cell?_setCell_other (h := by simp)]; exact h1.c1
  · rw [World.cell?_setCell_other (h := by simp)]; exact h1.c2
  · rw [World.cell?_setCell_other (h := by simp)]; exact h1.c3
  · exact World.cell?_setCell_same _ _ _ h1.c4
  · rw [World.frozen?_setCell]; exact h1.fr j
  · obtain ⟨a, cap, hv, g1, g2, g3⟩ := hr
    refine ⟨a, cap, hv, g1, g2, fun k hk' => ?_⟩
    obtain ⟨bb, off, ha, hlt', hc⟩ := g3 k hk'
    have := hne bb off _ _ (by rw [hv, ha])
    refine ⟨bb, off, ha, by simpa [World.setCell] using hlt', fun j u hu => ?_⟩
    rw [World.cell?_setCell_other (h := by intro e; exact this (congrArg Addr.block e).symm)]
    exact hc j u hu

def entsLo (fs : List Ent) : Prop := ∀ e ∈ fs, -9223372036854775808 ≤ e.i ∧ e.i ≤ 9223372036854775807

end Go.Proofs.Ytcogmohepcifiaa
namespace Go.Proofs.Ytcogmohepcifiaa
open Go.RowKit

/-- What the head of a region must reach: the tail's walk. -/
def tailQ (P : Program) (ops : Array Oper) (Q : Exit → Act → World → Prop) (tail : List Oper) : Exit → Act → World → Prop
  | .normal, a, w => wpList P ops Q tail a w
  | e, a, w => Q e a w

/-- The form: the head is one, its guards lead into it, and the tail waits for all of it. -/
def tailOk (l : List Oper) (n : Nat) : Bool :=
  regionOk (l.take n).toArray && decide (n < l.length) &&
  ((l.take n).all fun o => match o.guard with | some (g, _) => decide (g < n) | none => true) &&
  Region.sinkB .any l.toArray n && Region.chainB .any l.toArray n &&
  Region.seqB .any l.toArray (l.length - n) n (Array.replicate n true ++ Array.replicate (l.length - n) false)

section
variable {P : Program} {l : List Oper} {n : Nat} {Q : Exit → Act → World → Prop}

theorem head_at {i : Nat} (hi : i < n) : (l.take n).toArray[i]? = l.toArray[i]? := by simp [hi]

theorem upon_tail {o : Oper} {ops : Array Oper} {tail : List Oper} {K : Act → World → Prop} {a : Act} {r : Result Next} (h : o.upon P a K (tailQ P ops Q tail) r) : o.upon P a K Q r := by
  cases r with
  | halt x w =>
    cases x <;> exact h
  | ok nx w =>
    cases nx with
    | enter f args =>
      refine Calls.mono (show Calls P f args w _ from h) fun e w'' he => ?_
      cases e <;> exact he
    | _ => exact h

theorem wpOp_head {K : Act → World → Prop} {i : Nat} {a : Act} {w : World} {tail : List Oper} (hi : i < n) (hg : ((l.take n).all fun o => match o.guard with | some (g, _) => decide (g < n) | none => true) = true)
    (h : wpOp P (l.take n).toArray (tailQ P l.toArray Q tail) i K a w) : wpOp P l.toArray Q i K a w := by
  unfold wpOp at h ⊢
  rw [head_at hi] at h
  cases ho : l.toArray[i]? with
  | none => rw [ho] at h; exact h
  | some o =>
    rw [ho] at h
    simp only [] at h ⊢
    have hw : Region.wanted o (yielded (l.take n).toArray a.tmps) = Region.wanted o (yielded l.toArray a.tmps) := by
      unfold Region.wanted
      cases hgd : o.guard with
      | none => rfl
      | some g =>
        obtain ⟨j, b⟩ := g
        have hmem : o ∈ l.take n := by
          have : l[i]? = some o := by simpa using ho
          exact List.mem_of_getElem? (i := i) (by rw [List.getElem?_take, if_pos hi]; exact this)
        have := List.all_eq_true.1 hg o hmem
        rw [hgd] at this
        have hj : j < n := by simpa using this
        simp only []
        unfold yielded
        rw [head_at hj]
    rw [hw] at h
    split
    · rename_i hwt
      rw [if_pos hwt] at h
      rcases h with h | ⟨h1, h2⟩
      · exact .inl (upon_tail h)
      · exact .inr ⟨h1, h2⟩
    · rename_i hwt
      rwa [if_neg hwt] at h

theorem app_get {L : Array Bool} {g j : Nat} (hL : L.size = n) (hj : j < n) (b : Bool) : (L ++ Array.replicate g false).getD j b = L.getD j b := by
  have h1 : j < L.size := by omega
  simp [Array.getD_eq_getD_getElem?, Array.getElem?_append_left h1]
theorem app_get' {L : Array Bool} {g j : Nat} (hL : L.size = n) (hj : n ≤ j) (hj2 : j < n + g) (b : Bool) : (L ++ Array.replicate g false).getD j b = false := by
  simp only [Array.getD_eq_getD_getElem?]
  rw [Array.getElem?_append_right (by omega), Array.getElem?_replicate, if_pos (by omega)]
  rfl

theorem any_tail (hok : tailOk l n = true) : ∀ (f : Nat) (L : Array Bool) (a : Act) (w : World), L.size = n →
    (∀ j oj, j < n → l.toArray[j]? = some oj → L.getD j false = true → ∀ e ∈ oj.after, Region.binds .any e = true → L.getD e.on false = true) → L.toList.count false = f →
    wpAny P .any (l.take n).toArray (tailQ P l.toArray Q (l.drop n)) f L a w → wpAny P .any l.toArray Q (f + (l.length - n)) (L ++ Array.replicate (l.length - n) false) a w := by
  unfold tailOk at hok
  simp only [Bool.and_eq_true, decide_eq_true_eq] at hok
  obtain ⟨⟨⟨⟨⟨hreg, hn⟩, hg⟩, hs⟩, hc⟩, hseq⟩ := hok
  have F := rform_of_ok hreg
  have hsz : (l.take n).toArray.size = n := by simp; omega
  have back : ∀ j oj, j < n → l.toArray[j]? = some oj → ∀ e ∈ oj.after, Region.binds .any e = true → e.on < j := fun j oj hj ho e he hb =>
    F.back j oj (by rw [head_at hj]; exact ho) e he hb
  intro f
  induction f with
  | zero =>
    intro L a w hL hcl hcnt h
    have hall : L = Array.replicate n true := by
      apply Array.ext'
      rw [Array.toList_replicate]
      apply List.ext_getElem
      · simpa using hL
      · intro i h1 h2
        rw [List.getElem_replicate]
        have := List.count_eq_zero.1 hcnt
        cases hb : L.toList[i] with
        | true => rfl
        | false => exact absurd (hb ▸ List.getElem_mem h1) this
    subst hall
    have hq : wpList P l.toArray Q (l.drop n) a w := h.2
    have hd : (l.drop n).length = l.length - n := List.length_drop
    have := wpAny_of_seq (P := P) (md := .any) (ops := l.toArray) (Q' := Q) (l.drop n) n _ a w (fun j => by simp) (by rw [hd]; exact hseq) hq
    rw [hd] at this
    rw [Nat.zero_add]
    exact this
  | succ f ih =>
    intro L a w hL hcl hcnt h
    have hdeps : ∀ j, j < n → (j ∈ Region.ready .any l.toArray (L ++ Array.replicate (l.length - n) false) ↔ j ∈ Region.ready .any (l.take n).toArray L) := fun j hj => by
      rw [mem_ready, mem_ready, app_get hL hj, head_at hj]
      constructor
      · rintro ⟨h1, o, h2, h3⟩
        exact ⟨h1, o, h2, fun e he hb => by rw [← app_get (g := l.length - n) hL (by have := back j o hj h2 e he hb; omega)]; exact h3 e he hb⟩
      · rintro ⟨h1, o, h2, h3⟩
        exact ⟨h1, o, h2, fun e he hb => by rw [app_get hL (by have := back j o hj h2 e he hb; omega)]; exact h3 e he hb⟩
    have inv : HeadInv .any l.toArray n (L ++ Array.replicate (l.length - n) false) := by
      refine ⟨by simp; omega, fun j oj ho hl e he hb => ?_, fun t h1 h2 => app_get' hL h1 (by simp at h2; omega) _⟩
      have hjs := (Array.getElem?_eq_some_iff.1 ho).1
      rcases Nat.lt_or_ge j n with hj | hj
      · rw [app_get hL hj] at hl
        rw [app_get hL (by have := back j oj hj ho e he hb; omega)]
        exact hcl j oj hj ho hl e he hb
      · rw [app_get' hL hj (by simp at hjs; omega)] at hl
        cases hl
    have some_un : ∃ i, i < n ∧ L.getD i false = false := by
      have : false ∈ L.toList := by
        rw [← List.count_pos_iff]
        omega
      obtain ⟨i, hi, he⟩ := List.mem_iff_getElem.1 this
      have hi' : i < L.size := by simpa using hi
      exact ⟨i, by omega, by simpa [hi'] using he⟩
    obtain ⟨i0, hi0, hu0⟩ := some_un
    have least : ∃ j, j ∈ Region.ready .any (l.take n).toArray L := by
      have key : ∀ m i, i < m → i < n → L.getD i false = false → ∃ j, j ∈ Region.ready .any (l.take n).toArray L := by
        intro m
        induction m with
        | zero => intro i hi; omega
        | succ m ihm =>
          intro i hi hin hun
          by_cases hex : ∃ k, k < i ∧ L.getD k false = false
          · obtain ⟨k, hk, hku⟩ := hex
            exact ihm k (by omega) (by omega) hku
          · refine ⟨i, mem_ready.2 ⟨getD_in (by omega) hun, ?_⟩⟩
            have his : i < (l.take n).toArray.size := by omega
            refine ⟨_, Array.getElem?_eq_getElem his, fun e he hb => ?_⟩
            have := F.back i _ (Array.getElem?_eq_getElem his) e he hb
            cases hl : L.getD e.on false with
            | true => rfl
            | false => exact absurd ⟨e.on, this, hl⟩ hex
      exact key (i0 + 1) i0 (by omega) hi0 hu0
    obtain ⟨j0, hj0⟩ := least
    have hj0n : j0 < n := by
      obtain ⟨_, o, ho, _⟩ := mem_ready.1 hj0
      have := (Array.getElem?_eq_some_iff.1 ho).1
      omega
    rw [Nat.add_right_comm]
    refine ⟨fun hr => ?_, fun i hi => ?_⟩
    · have := (hdeps j0 hj0n).2 hj0
      rw [hr] at this
      cases this
    · have hin : i < n := by
        rcases Nat.lt_or_ge i n with h1 | h1
        · exact h1
        · exact absurd hi (tail_waits hs hc (by simpa using hn) inv (n - i0) i0 rfl hi0 (by rw [app_get hL hi0]; exact getD_in (by omega) hu0) i h1)
      have hih := (hdeps i hin).1 hi
      obtain ⟨hiu, oi, hoi, hdi⟩ := mem_ready.1 hih
      refine wpOp_mono (fun a' w' h' => ?_) (wpOp_head hin hg (h.2 i hih))
      have hset : (L ++ Array.replicate (l.length - n) false).setIfInBounds i true = L.setIfInBounds i true ++ Array.replicate (l.length - n) false := by
        rw [Array.setIfInBounds_append_left (by omega)]
      rw [hset]
      refine ih (L.setIfInBounds i true) a' w' (by simpa using hL) (fun j oj hj ho hl e he hb => ?_) ?_ h'
      · by_cases hij : i = j
        · subst hij
          rw [head_at hin] at hoi
          obtain rfl : oj = oi := Option.some.inj (ho.symm.trans hoi)
          exact getD_set_true (hdi e he hb)
        · rw [getD_set_ne false hij] at hl
          exact getD_set_true (hcl j oj hj ho hl e he hb)
      · have hiL : i < L.toList.length := by simp; omega
        have hib : L.toList[i] = false := by
          have : i < L.size := by omega
          simpa [this] using hiu
        rw [Array.toList_setIfInBounds, List.count_set hiL, hcnt, hib]
        simp

theorem any_of_tail {w : World} {a0 : Act} (n : Nat) (hok : tailOk l n = true) (Φ : Nat → Option (Value → World → Prop))
    (hst : ∀ k φ, Φ k = some φ → ∀ v w w', φ v w → Below w.heap.size w w' → φ v w') (h : ∀ vals, wpSW (l.take n).toArray Φ w (tailQ P l.toArray Q (l.drop n)) vals P (l.take n) 0 a0 []) : wpAny P .any l.toArray Q l.toArray.size (Array.replicate l.toArray.size false) a0 { w with drawn := w.drawn + 1 } := by
  have hok' := hok
  unfold tailOk at hok'
  simp only [Bool.and_eq_true, decide_eq_true_eq] at hok'
  obtain ⟨⟨⟨⟨⟨hreg, hn⟩, _⟩, _⟩, _⟩, _⟩ := hok'
  have F := rform_of_ok hreg
  have hsz : (l.take n).toArray.size = n := by simp; omega
  have H : ∀ vals, ∃ cs, SeqV P (l.take n).toArray Φ w (tailQ P l.toArray Q (l.drop n)) a0 vals cs := fun vals => seqV_of_walk (by simpa using h vals)
  obtain ⟨cs, S⟩ := H (fun _ => undef)
  have hrep : ∀ j, (Array.replicate n false).getD j false = false := fun j => by
    simp only [Array.getD_eq_getD_getElem?, Array.getElem?_replicate]
    split <;> rfl
  have hA := any_of_seq F hst H (l.take n).toArray.size (List.range (l.take n).toArray.size) (Array.replicate n false) a0 { w with drawn := w.drawn + 1 } (fun _ => undef) cs (by simp) List.nodup_range (by simp; omega) (fun j hj => by rw [hrep j]; simpa using hj) (fun j k hj => by rw [hrep j] at hj; cases hj) ⟨rfl, rfl, rfl, Nat.le_refl _, fun _ _ => rfl⟩ S
    (fun j φ hj => by rw [hrep j] at hj; cases hj) ⟨rfl, rfl, fun j d hj => (by rw [hrep j] at hj; cases hj), fun s _ => rfl⟩
  rw [hsz] at hA
  have := any_tail hok n (Array.replicate n false) a0 _ (by simp) (fun j oj _ _ hl => by rw [hrep j] at hl; cases hl) (by simp) hA
  have e1 : n + (l.length - n) = l.toArray.size := by simp; omega
  have e2 : Array.replicate n false ++ Array.replicate (l.length - n) false = Array.replicate l.toArray.size false := by
    apply Array.ext'
    simp
    omega
  rw [e1, e2] at this
  exact this

/-- THE LAW. -/
theorem wp_region_tail {id : Nat} {w : World} {a0 : Act} (n : Nat) (hm : P.follows .mixedOrders = true) (hok : tailOk l n = true) (Φ : Nat → Option (Value → World → Prop))
    (hst : ∀ k φ, Φ k = some φ → ∀ v w w', φ v w → Below w.heap.size w w' → φ v w') (h : ∀ vals, wpSW (l.take n).toArray Φ w (tailQ P l.toArray Q (l.drop n)) vals P (l.take n) 0 a0 []) : (Code.region id l.toArray true).wp P Q a0 w :=
  wp_region_any hm (any_of_tail n hok Φ hst h)
end
end Go.Proofs.Ytcogmohepcifiaa
namespace Go.Proofs.Ytcogmohepcifiaa
open Go.ChangeShapes Go.WideShapes Go.ChangeAt Go.RowKit

def packOk (s : Snp) (es : List Ent) (n : Snp) : Bool := !decide (n.i < s.i + 1) && fitsP s es n.i n.t
theorem term_in' {s : Snp} {es : List Ent} {i : Int} (h : (termP s es i).2 = true) : s.i ≤ i ∧ i ≤ lastP s es := by
  unfold termP at h
  split at h
  · cases h
  · omega
def RetPack (w : World) (b : Nat) (s : Snp) (lv : Value) (es : List Ent) (n : Snp) (e : Ending) (w' : World) : Prop :=
  ∃ lv', e = .returned (.bool (packOk s es n)) ∧ Keeps [b] w w' ∧ (lv' = lv ∨ Since w lv') ∧
    if packOk s es n = true then LogS w' b n lv' (es.drop (n.i - s.i).toNat) else LogS w' b s lv' es

theorem LogS.setS {w w1 : World} {b : Nat} {s n : Snp} {lv : Value} {es : List Ent} (h : LogS w b s lv es) (hw : w1 = (((w.setCell ⟨b, 0, none⟩ (.int .i64 n.i)).setCell ⟨b, 1, none⟩ (.int .i64 n.t)).setCell ⟨b, 2, none⟩ (.string n.c)).setCell ⟨b, 3, none⟩ (.string n.d)) :
    LogS w1 b n lv es ∧ Keeps [b] w w1 := by
  subst hw
  have hk : Keeps [b] w ((((w.setCell ⟨b, 0, none⟩ (.int .i64 n.i)).setCell ⟨b, 1, none⟩ (.int .i64 n.t)).setCell ⟨b, 2, none⟩ (.string n.c)).setCell ⟨b, 3, none⟩ (.string n.d)) :=
    ((((Keeps.refl [b] w).setCell (.inl (by simp)) _).setCell (.inl (by simp)) _).setCell (.inl (by simp)) _).setCell (.inl (by simp)) _
  refine ⟨⟨Nat.lt_of_lt_of_le h.lt hk.size, ?_, ?_, ?_, ?_, ?_, fun j => ?_, ?_, h.ne⟩, hk⟩
  · rw [World.cell?_setCell_other (h := by simp), World.cell?_setCell_other (h := by simp), World.cell?_setCell_other (h := by simp)]
    exact World.cell?_setCell_same _ _ _ h.c0
  · rw [World.cell?_setCell_other (h := by simp), World.cell?_setCell_other (h := by simp)]
    exact World.cell?_setCell_same _ _ _ (show World.cell? _ _ = some (.int .i64 s.t) from by rw [World.cell?_setCell_other (h := by simp)]; exact h.c1)
  · rw [World.cell?_setCell_other (h := by simp)]
    exact World.cell?_setCell_same _ _ _ (show World.cell? _ _ = some (.string s.c) from by rw [World.cell?_setCell_other (h := by simp), World.cell?_setCell_other (h := by simp)]; exact h.c2)
  · exact World.cell?_setCell_same _ _ _ (show World.cell? _ _ = some (.string s.d) from by rw [World.cell?_setCell_other (h := by simp), World.cell?_setCell_other (h := by simp), World.cell?_setCell_other (h := by simp)]; exact h.c3)
  · rw [World.cell?_setCell_other (h := by simp), World.cell?_setCell_other (h := by simp), World.cell?_setCell_other (h := by simp), World.cell?_setCell_other (h := by simp)]
    exact h.c4
  · rw [World.frozen?_setCell, World.frozen?_setCell, World.frozen?_setCell, World.frozen?_setCell]; exact h.fr j
  · obtain ⟨a, cap, hv, g1, g2, g3⟩ := h.r
    refine ⟨a, cap, hv, g1, g2, fun k hk' => ?_⟩
    obtain ⟨bb, off, ha, hlt', hc⟩ := g3 k hk'
    have hne := h.ne bb off _ _ (by rw [hv, ha])
    refine ⟨bb, off, ha, Nat.lt_of_lt_of_le hlt' hk.size, fun j u hu => ?_⟩
    rw [hk.cell (p := ⟨bb, off + k * 4 + j, none⟩) hlt' (by simpa using hne)]
    exact hc j u hu

end Go.Proofs.Ytcogmohepcifiaa
namespace Go.Proofs.Ytcogmohepcifiaa
open Go.ChangeShapes Go.WideShapes Go.ChangeAt Go.RowKit

theorem info_i64 : (Try.prog.info? 3).map (fun i => (i.zero, i.size, i.bytes)) = some (some (.int .i64 0), 1, 8) := by kernel_rfl

/-- A row of integers of its own. -/
def RowI (w : World) (v : Value) (l : List Int) : Prop := Row w 3 v (l.map (Value.int .i64))
theorem RowI.ri {w : World} {v : Value} {l : List Int} (h : RowI w v l) : RI w v l := Row.reads h
theorem RowI.keeps {w w' : World} {v : Value} {l : List Int} {F : List Nat} (h : RowI w v l) (hk : Keeps F w w') (hF : ∀ g, v.ownBlock = some g → g ∉ F) : RowI w' v l := Row.keeps h hk hF
theorem RowI.nil (w : World) : RowI w (.slice none 0 0) [] := Row.nil w _
theorem ints_oneCell (l : List Int) : ∀ u ∈ l.map (Value.int .i64), u.oneCell' = true := by
  intro u hu
  obtain ⟨_, _, rfl⟩ := List.mem_map.1 hu
  rfl

/-- What a call yields: a new row of integers. -/
def RetRow (w : World) (l : List Int) (e : Ending) (w' : World) : Prop :=
  ∃ v, e = .returned v ∧ RowI w' v l ∧ Below w.heap.size w w' ∧ ∀ k, v.ownBlock = some k → w.heap.size ≤ k

theorem Row.empty (w : World) (e : TypeId) : Row (w.alloc (.cells #[] e)) e (.slice (some ⟨w.heap.size, 0, none⟩) 0 0) [] := by
  refine ⟨rfl, .inr ⟨w.heap.size, 0, #[], rfl, Nat.zero_le _, ?_, Nat.le_refl _, by decide, rfl, rfl⟩⟩
  exact heap_alloc_new w _

end Go.Proofs.Ytcogmohepcifiaa
namespace Go.Proofs.Ytcogmohepcifiaa
open Go.ChangeShapes Go.WideShapes Go.ChangeAt Go.RowKit

/-- Servers, as they are written. -/
def decC (l : List UInt8) : List Int := l.map fun c => (c.toNat : Int) - 48
theorem decC_snoc (s : ByteArray) (k : Nat) (h : k < s.size) : decC (s.data.toList.take (k + 1)) = decC (s.data.toList.take k) ++ [((s[k]).toNat : Int) - 48] := by
  have : s.data.toList.take (k + 1) = s.data.toList.take k ++ [s[k]] := by
    rw [List.take_succ_eq_append_getElem (by rw [size_data]; exact h)]; rfl
  rw [this]
  simp [decC]
def confD (s : ByteArray) : List Int × Bool := if mayC (decC s.data.toList) = true then (decC s.data.toList, true) else ([], false)
def RetConf (w : World) (s : ByteArray) (e : Ending) (w' : World) : Prop :=
  ∃ v, e = .returned (.tuple #[v, .bool (confD s).2]) ∧ RI w' v (confD s).1 ∧ Below w.heap.size w w'

set_option maxHeartbeats 1000000 in
theorem conf_decode (s : ByteArray) (w : World) (hs : s.size ≤ 1000000000) :
    Calls Try.prog 43 #[.string s] w fun e w' => RetConf w s e w' := by
  go_enter Try.func43, Try.ntmps43
  go_wp2_with fail
  go_loopw [4, 8] (fun v i wr => ∃ k : Nat, k ≤ s.size ∧ i = .int .i64 k ∧ RowI wr v (decC (s.data.toList.take k)) ∧ (∀ g, v.ownBlock = some g → w.heap.size ≤ g) ∧ Below w.heap.size w wr) (fun _ i _ => s.size - (intOf i).toNat)
  case atStart => exact ⟨0, by omega, rfl, RowI.nil _, (fun g h => by cases h), Below.refl _ _⟩
  case round =>
    obtain ⟨k, hk, rfl, hr, hg, hbel⟩ := hrel
    have hll : (decC (s.data.toList.take k)).length ≤ 1000000000 := by
      unfold decC
      rw [List.length_map, List.length_take]
      omega
    by_cases hlt : k < s.size
    · have HU := Lib.hid (decC_snoc s k hlt)
      have hc8 := s[k].toNat_lt
      have HG := Lib.hid hg
      have hb := fun x => (Below.refl wr.heap.size wr).alloc (Nat.le_refl _) (.cells #[Value.int .i64 x] 3)
      have hown : ∀ x, Row (wr.alloc (.cells #[Value.int .i64 x] 3)) 3 _ ((decC (s.data.toList.take k)).map (Value.int .i64)) := fun x => RowI.keeps hr (Keeps.of_below (F := []) (hb x)) (by simp)
      have hsrc := fun x : Int => Reads.fresh wr ([x].map (Value.int .i64)) 3 (0, 0) #[.int .i64 x] 1 rfl rfl (by simp)
      have HB := Lib.hid hb
      have HOWN := Lib.hid hown
      have HSRC := Lib.hid hsrc
      clear hr hg hb hown hsrc
      generalize decC (s.data.toList.take k) = Y at *
      go_wp2_with (at_builtin; refine wpList_append_row 58 3 (.int .i64 0) 8 Try.underlying58 info_i64 rfl rfl _ _ rfl (HOWN.out (((s[k]).toNat : Int) - 48)) (HSRC.out (((s[k]).toNat : Int) - 48)) (ints_oneCell [((s[k]).toNat : Int) - 48]) rfl rfl (by simp [maxLen]; omega) (by simp; omega) ?_)
      intro v2 w2 ho hg2 hk2
      have hbz : Below w.heap.size w w2 := (hbel.alloc hbel.size _).grown hg2 (by have := hbel.size; simp; omega) HG.out
      have hoo : RowI w2 v2 (Y ++ [((s[k]).toNat : Int) - 48]) := by unfold RowI; rw [List.map_append]; exact ho
      have hgz : ∀ g, v2.ownBlock = some g → w.heap.size ≤ g := fun g h => (hk2 g h).elim (HG.out g) (fun h => by have := hbel.size; omega)
      clear ho hg2 hk2
      go_wp2_with fail
      go_roundw
      case rel => exact ⟨k + 1, by omega, by go_num, by rw [HU.out]; exact hoo, hgz, hbz⟩
      case measure => simp [intOf]; omega
    · obtain rfl : k = s.size := by omega
      have hri := hr.ri
      rw [List.take_of_length_le (by rw [size_data]; omega)] at hri hr hll
      obtain ⟨a4, n4, c4, rfl⟩ := Row.slice hr
      have HC : Hid (confD s = if mayC (decC s.data.toList) = true then (decC s.data.toList, true) else ([], false)) := Lib.hid rfl
      clear hr hg
      generalize decC s.data.toList = Y at *
      go_wp2_with fail
      refine (conf_may _ Y _ hri).mono ?_
      rintro e w' ⟨rfl, rfl⟩
      cases hm : mayC Y with
      | true =>
        have H1 : Hid (confD s = (Y, true)) := Lib.hid (by rw [HC.out, if_pos hm])
        clear hm HC
        go_wp2_with fail
        go_ret2
        exact ⟨_, by rw [H1.out]; rfl, by rw [H1.out]; exact hri, hbel⟩
      | false =>
        have H1 : Hid (confD s = ([], false)) := Lib.hid (by rw [HC.out, if_neg (by rw [hm]; decide)])
        clear hm HC
        go_wp2_with fail
        go_ret2
        exact ⟨_, by rw [H1.out]; rfl, by rw [H1.out]; exact (RowI.nil _).ri, hbel⟩
end Go.Proofs.Ytcogmohepcifiaa
