/-
  No claim by itself: a snapshot's bytes cut off, or with a byte changed, are not told. No condition.
-/
import Derived.Test.YtankebgpkhcgnaaWalPlainS
import Derived.Test.YtankebgpkhcgnaaCrcPlain
namespace Go.Proofs.Ytankebgpkhcgnaa
open Go.ChangeShapes Go.WideShapes Go.ChangeAt Go.RowKit

theorem putN_pre {a b : Int} {X Y : List UInt8} (ha0 : 0 ≤ a) (ha1 : a ≤ 9223372036854775807) (hb0 : 0 ≤ b) (hb1 : b ≤ 9223372036854775807) (h : putN a ++ X = putN b ++ Y) : a = b ∧ X = Y := by
  have h1 := getN_putN a X (by omega) ha1
  rw [h, getN_putN b Y (by omega) hb1] at h1
  simp only [Prod.mk.injEq] at h1
  obtain ⟨rfl, -, -⟩ := h1
  exact ⟨rfl, List.append_cancel_left h⟩
theorem putT_pre {a b X Y : List UInt8} (ha : a.length ≤ 1048576) (hb : b.length ≤ 1048576) (h : putT a ++ X = putT b ++ Y) : a = b ∧ X = Y := by
  unfold putT at h
  rw [List.append_assoc, List.append_assoc] at h
  obtain ⟨h1, h2⟩ := putN_pre (by omega) (by omega) (by omega) (by omega) h
  exact List.append_inj h2 (by omega)

/-- A snapshot's head, and which may be. -/
def head4 (i t : Int) (c : List UInt8) (z : Int) : List UInt8 := putN i ++ putN t ++ putT c ++ putN z
structure May4 (i t : Int) (c : List UInt8) (z : Int) : Prop where
  i0 : 0 ≤ i
  i1 : i ≤ 1099511627776
  t0 : 0 ≤ t
  t1 : t ≤ 1099511627776
  c1 : c.length ≤ 50
  z0 : 0 ≤ z
  z1 : z ≤ 200000
theorem head4_pre {i t z i' t' z' : Int} {c c' X Y : List UInt8} (h : May4 i t c z) (h' : May4 i' t' c' z') (e : head4 i t c z ++ X = head4 i' t' c' z' ++ Y) : head4 i t c z = head4 i' t' c' z' ∧ X = Y := by
  obtain ⟨i0, i1, t0, t1, c1, z0, z1⟩ := h
  obtain ⟨i0', i1', t0', t1', c1', z0', z1'⟩ := h'
  unfold head4 at e ⊢
  simp only [List.append_assoc] at e
  obtain ⟨q1, e1⟩ := putN_pre i0 (by omega) i0' (by omega) e
  obtain ⟨q2, e2⟩ := putN_pre t0 (by omega) t0' (by omega) e1
  obtain ⟨q3, e3⟩ := putT_pre (by omega) (by omega) e2
  obtain ⟨q4, e4⟩ := putN_pre z0 (by omega) z0' (by omega) e3
  exact ⟨by rw [q1, q2, q3, q4], e4⟩
theorem putN_six {n : Int} (h0 : 0 ≤ n) (h1 : n ≤ 1099511627776) : (putN n).length ≤ 6 := by
  have := putN_mono (m := n) (n := 1099511627776) (by unfold zig; rw [if_neg (by omega), if_neg (by omega)]; omega)
  rwa [show (putN 1099511627776).length = 6 from by decide] at this
theorem putN_three {n : Int} (h0 : 0 ≤ n) (h1 : n ≤ 200000) : (putN n).length ≤ 3 := by
  have := putN_mono (m := n) (n := 200000) (by unfold zig; rw [if_neg (by omega), if_neg (by omega)]; omega)
  rwa [show (putN 200000).length = 3 from by decide] at this
theorem putN_one {n : Int} (h0 : 0 ≤ n) (h1 : n ≤ 63) : (putN n).length = 1 := by
  have := putN_mono (m := n) (n := 63) (by unfold zig; rw [if_neg (by omega), if_neg (by omega)]; omega)
  rw [show (putN 63).length = 1 from by decide] at this
  have := (putN_len n).1
  omega
theorem putN_two {n : Nat} (h0 : 64 ≤ n) (h1 : n ≤ 66) : ∃ b, putN (n : Int) = [b, 1] := by
  obtain rfl | rfl | rfl : n = 64 ∨ n = 65 ∨ n = 66 := by omega
  · exact ⟨_, rfl⟩
  · exact ⟨_, rfl⟩
  · exact ⟨_, rfl⟩
theorem head4_len {i t z : Int} {c : List UInt8} (h : May4 i t c z) : (head4 i t c z).length = (putN i).length + (putN t).length + 1 + c.length + (putN z).length ∧ (head4 i t c z).length ≤ 66 := by
  obtain ⟨i0, i1, t0, t1, c1, z0, z1⟩ := h
  have a1 := putN_six i0 i1
  have a2 := putN_six t0 t1
  have a3 := putN_three z0 z1
  have a4 := putN_one (n := (c.length : Int)) (by omega) (by omega)
  unfold head4 putT
  simp only [List.length_append]
  omega

/-- A number's bytes but the first are a number's bytes. -/
theorem putN_tail {n : Int} (h0 : 0 ≤ n) (h1 : n ≤ 1099511627776) (h2 : (putN n).length ≠ 1) : ∃ m : Int, -9223372036854775808 ≤ m ∧ m ≤ 9223372036854775807 ∧ putN n = (putN n).take 1 ++ putN m := by
  have hz : zig n ≤ 2199023255552 := by unfold zig; rw [if_neg (by omega)]; omega
  refine ⟨zag (zig n / 128), (zag_bd (by omega)).1, (zag_bd (by omega)).2, ?_⟩
  have e1 : zig (zag (zig n / 128)) = zig n / 128 := zig_zag _
  have key : ∀ (f g u : Nat), u < 128 ^ f → u < 128 ^ g → leb f u = leb g u := by
    intro f
    induction f with
    | zero =>
      intro g u h _
      obtain rfl : u = 0 := by simpa using h
      cases g <;> rfl
    | succ f ih =>
      intro g u hf hg
      cases g with
      | zero =>
        obtain rfl : u = 0 := by simpa using hg
        rfl
      | succ g =>
        rw [leb, leb]
        by_cases hu : u < 128
        · rw [if_pos hu, if_pos hu]
        · rw [if_neg hu, if_neg hu, ih g (u / 128) (by rw [Nat.pow_succ] at hf; omega) (by rw [Nat.pow_succ] at hg; omega)]
  have e2 : putN n = leb 9 (zig n) := rfl
  have e3 : putN (zag (zig n / 128)) = leb 9 (zig n / 128) := by
    unfold putN
    rw [e1]
  rw [e3]
  rw [e2, leb] at h2 ⊢
  by_cases hu : zig n < 128
  · rw [if_pos hu] at h2; exact absurd rfl h2
  · rw [if_neg hu]
    simp only [List.take_succ_cons, List.take_zero, List.cons_append, List.nil_append]
    rw [key 8 9 (zig n / 128) (by have : (128 : Nat) ^ 8 = 72057594037927936 := by decide
                                  omega) (by have : (128 : Nat) ^ 9 = 9223372036854775808 := by decide
                                             omega)]

/-- Two heads, one a byte behind the other: then the second is long. -/
theorem head4_shift {i t z i' t' z' : Int} {c c' X Y : List UInt8} {x : UInt8} (h : May4 i t c z) (h' : May4 i' t' c' z') (e : head4 i t c z ++ X = x :: (head4 i' t' c' z' ++ Y)) (hl : 64 ≤ (head4 i' t' c' z').length) : 64 ≤ (head4 i t c z).length := by
  have l1 := (head4_len h).1
  have l2 := (head4_len h').1
  obtain ⟨i0, i1, t0, t1, c1, z0, z1⟩ := h
  obtain ⟨i0', i1', t0', t1', c1', z0', z1'⟩ := h'
  have a1 := putN_six i0' i1'
  have a2 := putN_six t0' t1'
  have a3 := putN_three z0' z1'
  rw [l1]
  by_cases hi : (putN i).length = 1
  · exfalso
    obtain ⟨y, hy⟩ : ∃ y, putN i = [y] := List.length_eq_one_iff.1 hi
    unfold head4 at e
    rw [hy] at e
    simp only [List.append_assoc, List.cons_append, List.nil_append] at e
    obtain ⟨-, e1⟩ := putN_pre t0 (by omega) i0' (by omega) (List.cons.inj e).2
    unfold putT at e1
    simp only [List.append_assoc] at e1
    obtain ⟨h1, -⟩ := putN_pre (by omega) (by omega) t0' (by omega) e1
    have := putN_one t0' (by omega)
    omega
  · obtain ⟨m, m0, m1, hm⟩ := putN_tail i0 i1 hi
    have ht : ((putN i).take 1).length = 1 := by rw [List.length_take]; have := (putN_len i).1; omega
    obtain ⟨y, hy⟩ : ∃ y, (putN i).take 1 = [y] := List.length_eq_one_iff.1 ht
    rw [hy] at hm
    have hml : (putN i).length = 1 + (putN m).length := by rw [hm]; simp; omega
    unfold head4 at e
    rw [hm] at e
    simp only [List.append_assoc, List.cons_append, List.nil_append] at e
    replace e := (List.cons.inj e).2
    have h1 := getN_putN m (putN t ++ (putT c ++ (putN z ++ X))) m0 m1
    rw [e, getN_putN i' _ (by omega) (by omega)] at h1
    simp only [Prod.mk.injEq] at h1
    obtain ⟨q0, -, -⟩ := h1
    rw [← q0] at e
    have e0 := List.append_cancel_left e
    obtain ⟨q1, e1⟩ := putN_pre t0 (by omega) t0' (by omega) e0
    obtain ⟨q2, e2⟩ := putT_pre (by omega) (by omega) e1
    obtain ⟨q3, e3⟩ := putN_pre z0 (by omega) z0' (by omega) e2
    rw [hml, q1, q2, q3, ← q0]
    omega

/-- What is read as a head is one. -/
theorem snapP_ok {b : List UInt8} (h : rdD (snapP b).2.2 = true) : ∃ (i t : Int) (c : List UInt8) (z : Int), snapP b = (⟨i, t, ⟨c.toArray⟩, .empty⟩, z, [], false) ∧ b = head4 i t c z := by
  unfold snapP at h ⊢
  dsimp only at h ⊢
  obtain ⟨i, hi⟩ : ∃ i, i = rdN (b, false) := ⟨_, rfl⟩
  rw [← hi] at h ⊢
  obtain ⟨t, ht⟩ : ∃ t, t = rdN i.2 := ⟨_, rfl⟩
  rw [← ht] at h ⊢
  obtain ⟨c, hc⟩ : ∃ c, c = rdT t.2 := ⟨_, rfl⟩
  rw [← hc] at h ⊢
  obtain ⟨z, hz⟩ : ∃ z, z = rdN c.2 := ⟨_, rfl⟩
  rw [← hz] at h ⊢
  obtain ⟨z, zl, zb⟩ := z
  obtain ⟨c, cl, cb⟩ := c
  obtain ⟨t, tl, tb⟩ := t
  obtain ⟨i, il, ib⟩ := i
  unfold rdD at h
  simp only [Bool.and_eq_true, Bool.not_eq_true', decide_eq_true_eq] at h
  obtain ⟨rfl, hzl⟩ := h
  obtain rfl : zl = [] := List.eq_nil_of_length_eq_zero hzl
  dsimp only at *
  obtain ⟨rfl, rfl, -⟩ := rdN_ok hz.symm
  obtain ⟨rfl, rfl, -⟩ := rdT_ok hc.symm
  obtain ⟨rfl, rfl, -⟩ := rdN_ok ht.symm
  obtain ⟨-, rfl, -⟩ := rdN_ok hi.symm
  exact ⟨i, t, c, z, rfl, by simp [head4]⟩

theorem fourN_inj {a b : Nat} (ha : a < 4294967296) (hb : b < 4294967296) (h : fourN a = fourN b) : a = b := by
  unfold fourN at h
  simp only [List.cons.injEq, and_true] at h
  obtain ⟨h1, h2, h3, h4⟩ := h
  have g : ∀ x y : Nat, UInt8.ofNat x = UInt8.ofNat y → x % 256 = y % 256 := fun x y h => by
    have := congrArg UInt8.toNat h
    simpa using this
  have := g _ _ h1
  have := g _ _ h2
  have := g _ _ h3
  have := g _ _ h4
  omega
/-- Two frames of the same length, which differ at one place: no. -/
theorem seal_one {k k' : Int} {b b' : List UInt8} (h0 : 1 ≤ k) (h1 : k ≤ 255) (h2 : b.length ≤ 4000) (hl : b'.length = b.length) (hk : k' = k) {i : Nat} {x : UInt8} (hi : i < (sealP k b).length) (hx : (sealP k b)[i] ≠ x) : (sealP k b).set i x ≠ sealP k' b' := by
  subst hk
  intro e
  have hlh : (headP k' b.length).length = 1 + (putN b.length).length := by simp [headP]; omega
  have s1 := sealP_ok h0 h1 h2
  have s2 := sealP_ok (b := b') h0 h1 (by omega)
  rw [hl] at s2
  generalize headP k' b.length = H at *
  have e1 : ∀ j (hj : j < (sealP k' b).length) , j ≠ i → (sealP k' b)[j]? = (sealP k' b')[j]? := fun j hj hji => by
    rw [← e, List.getElem?_set_ne (Ne.symm hji)]
  have e2 : (sealP k' b')[i]? = some x := by rw [← e, List.getElem?_set_self hi]
  have e3 : (sealP k' b)[i]? ≠ (sealP k' b')[i]? := by
    rw [e2, List.getElem?_eq_getElem hi]
    simpa using hx
  have hf := fourN_len (crcSum (H ++ b))
  have hf' := fourN_len (crcSum (H ++ b'))
  have hlen : (sealP k' b).length = H.length + 4 + b.length := by rw [s1]; simp only [List.length_append]; omega
  by_cases c1 : i < H.length
  · apply e3
    rw [s1, s2, List.append_assoc, List.append_assoc, List.getElem?_append_left c1, List.getElem?_append_left c1]
  · have hb : ∀ j, H.length + 4 + j ≠ i → j < b.length → b[j]? = b'[j]? := fun j hj hjl => by
      have := e1 (H.length + 4 + j) (by omega) hj
      rw [s1, s2, List.getElem?_append_right (by simp only [List.length_append]; omega), List.getElem?_append_right (by simp only [List.length_append]; omega)] at this
      simp only [List.length_append, hf, hf', Nat.add_sub_cancel_left] at this
      exact this
    by_cases c2 : i < H.length + 4
    · have hbb : b = b' := by
        apply List.ext_getElem? 
        intro j
        by_cases hj : j < b.length
        · exact hb j (by omega) hj
        · rw [List.getElem?_eq_none (by omega), List.getElem?_eq_none (by omega)]
      subst hbb
      exact e3 rfl
    · -- the body
      have hq : i - (H.length + 4) < b.length := by omega
      generalize hj0 : i - (H.length + 4) = q at *
      have hbq : b[q]? ≠ b'[q]? := fun h => by
        apply e3
        rw [s1, s2, List.getElem?_append_right (by simp only [List.length_append]; omega), List.getElem?_append_right (by simp only [List.length_append]; omega)]
        simp only [List.length_append, hf, hf']
        rw [hj0]
        exact h
      have hfour : fourN (crcSum (H ++ b)) = fourN (crcSum (H ++ b')) := by
        apply List.ext_getElem?
        intro j
        by_cases hj : j < 4
        · have := e1 (H.length + j) (by omega) (by omega)
          have hg : ∀ F B : List UInt8, F.length = 4 → (H ++ F ++ B)[H.length + j]? = F[j]? := fun F B hF => by
            rw [List.append_assoc, List.getElem?_append_right (by omega), Nat.add_sub_cancel_left, List.getElem?_append_left (by omega)]
          rw [s1, s2, hg _ _ hf, hg _ _ hf'] at this
          exact this
        · rw [List.getElem?_eq_none (by omega), List.getElem?_eq_none (by omega)]
      have hcs := fourN_inj (crcSum_lt _) (crcSum_lt _) hfour
      have b1 : b = b.take q ++ [b[q]] ++ b.drop (q + 1) := by
        rw [List.append_assoc, List.singleton_append, ← List.drop_eq_getElem_cons hq, List.take_append_drop]
      have hq' : q < b'.length := by omega
      have b2 : b' = b.take q ++ [b'[q]] ++ b.drop (q + 1) := by
        have t1 : b.take q = b'.take q := by
          apply List.ext_getElem?
          intro j
          by_cases hj : j < q
          · rw [List.getElem?_take_of_lt hj, List.getElem?_take_of_lt hj]
            exact hb j (by omega) (by omega)
          · rw [List.getElem?_eq_none (by rw [List.length_take]; omega), List.getElem?_eq_none (by rw [List.length_take]; omega)]
        have t2 : b.drop (q + 1) = b'.drop (q + 1) := by
          apply List.ext_getElem?
          intro j
          rw [List.getElem?_drop, List.getElem?_drop]
          by_cases hj : q + 1 + j < b.length
          · exact hb _ (by omega) hj
          · rw [List.getElem?_eq_none (by omega), List.getElem?_eq_none (by omega)]
        rw [t1, t2, List.append_assoc, List.singleton_append, ← List.drop_eq_getElem_cons hq', List.take_append_drop]
      have hne : [b[q]] ≠ [b'[q]] := fun h => hbq (by
        rw [List.getElem?_eq_getElem hq, List.getElem?_eq_getElem hq']
        simpa using h)
      apply crcSum_burst (H ++ b.take q) [b[q]] [b'[q]] (b.drop (q + 1)) rfl (by simp) hne
      rw [List.append_assoc, List.append_assoc, ← List.append_assoc (b.take q), ← b1]
      rw [List.append_assoc, List.append_assoc, ← List.append_assoc (b.take q), ← b2]
      exact hcs
end Go.Proofs.Ytankebgpkhcgnaa
