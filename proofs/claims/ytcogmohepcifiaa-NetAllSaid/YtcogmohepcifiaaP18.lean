/-
  No claim by itself: how the program reads a message out of its text. No condition.
-/
import Derived.Test.YtcogmohepcifiaaP16
import Derived.Test.YtcogmohepcifiaaP17
namespace Go.Proofs.Ytcogmohepcifiaa
open Go.ChangeShapes Go.WideShapes Go.ChangeAt Go.RowKit

theorem rdN_bd (s : List UInt8 × Bool) : -9223372036854775808 ≤ (rdN s).1 ∧ (rdN s).1 ≤ 9223372036854775807 := by
  unfold rdN
  dsimp only
  rcases getN_any s.1 with (h | h) | ⟨x, k, h, h1, h2, -⟩ <;> rw [h]
  · decide
  · decide
  · exact ⟨h1, h2⟩
theorem rdN_len (s : List UInt8 × Bool) : (rdN s).2.1.length ≤ s.1.length := by
  unfold rdN
  dsimp only
  split
  · exact Nat.le_refl _
  · rw [List.length_drop]; omega
theorem coll_le : ∀ (f : Nat) (l : List UInt8) (n : Nat), (collF f l n).2.2 = 0 → (collF f l n).2.1 ≤ l.length := by
  intro f
  induction f with
  | zero => intro l n h; simp [collF] at h
  | succ f ih =>
    intro l n h
    rw [collF] at h ⊢
    by_cases h0 : n = 0
    · rw [if_pos h0]; exact Nat.zero_le _
    rw [if_neg h0] at h ⊢
    by_cases h1 : (openP l).2.2.2 ≠ 0
    · rw [if_pos h1]; exact Nat.zero_le _
    rw [if_neg h1] at h ⊢
    by_cases h2 : (openP l).1 ≠ 4 ∨ (openP l).2.1.length ≠ min n 3000
    · rw [if_pos h2]; exact Nat.zero_le _
    rw [if_neg h2] at h ⊢
    by_cases h3 : (collF f (l.drop (openP l).2.2.1) (n - min n 3000)).2.2 ≠ 0
    · rw [if_pos h3]; exact Nat.zero_le _
    rw [if_neg h3] at h ⊢
    have i1 := ih (l.drop (openP l).2.2.1) (n - min n 3000) (Decidable.not_not.1 h3)
    have i2 := (openP_ok (Decidable.not_not.1 h1)).2.1
    rw [List.length_drop] at i1
    dsimp only
    omega
theorem getS_le {l : List UInt8} (h0 : (getS l).2.2 = 0) : (getS l).2.1 ≤ l.length := by
  have h := h0
  unfold getS at h ⊢
  by_cases h1 : (openP l).2.2.2 ≠ 0
  · rw [if_pos h1]; exact Nat.zero_le _
  rw [if_neg h1] at h ⊢
  split
  · rename_i h2
    rw [if_pos h2] at h
    split
    · exact Nat.zero_le _
    · rename_i h3
      have i1 := coll_le _ _ _ (Decidable.not_not.1 h3)
      have i2 := (openP_ok (Decidable.not_not.1 h1)).2.1
      rw [List.length_drop] at i1
      dsimp only
      unfold collP
      omega
  · exact Nat.zero_le _

theorem m_num' {w : World} {b : Nat} {v : Value} {s s' : List UInt8 × Bool} {x : Int} (h : RdS w b v s) (hr : rdN s = (x, s')) :
    Calls Try.prog 55 #[.pointer (some ⟨b, 0, none⟩)] w fun e w' => RetRd w b (.int .i64 x) s' e w' := by
  have := m_num h
  rw [hr] at this
  exact this

/-- Half way: the result's block, the reader's, the message's. -/
structure MsgSt (w0 w : World) (N b X : Nat) (rv : Value) (s : List UInt8 × Bool) (v : Value) (m : Msg) : Prop where
  k : Keeps [b] w0 w
  bN : b < N
  n : w0.heap.size ≤ N
  nx : N < X
  z : MsgS w N (.slice none 0 0) ⟨0, 0, 0, 0, 0, 0, 0, false, [], ⟨0, 0, ⟨#[]⟩, ⟨#[]⟩⟩⟩
  rd : RdS w b rv s
  x : MsgS w X v m
theorem MsgSt.call {w0 w w' : World} {N b X : Nat} {rv rv' v : Value} {s s' : List UInt8 × Bool} {m : Msg} (h : MsgSt w0 w N b X rv s v m) (hr : RdS w' b rv' s') (hk : Keeps [b] w w') : MsgSt w0 w' N b X rv' s' v m := by
  have h1 := h.bN
  have h2 := h.nx
  exact ⟨h.k.trans hk (fun x hx => .inl hx), h.bN, h.n, h.nx, h.z.keeps hk (by simp; omega), hr, h.x.keeps hk (by simp; omega)⟩
theorem MsgSt.put {w0 w : World} {N b X : Nat} {rv v v' : Value} {s : List UInt8 × Bool} {m m' : Msg} (h : MsgSt w0 w N b X rv s v m) {j : Nat} {u : Value} (hx : MsgS (w.setCell ⟨X, j, none⟩ u) X v' m') : MsgSt w0 (w.setCell ⟨X, j, none⟩ u) N b X rv s v' m' := by
  have h1 := h.bN
  have h2 := h.nx
  have h3 := h.n
  have hk : Keeps [X] w (w.setCell ⟨X, j, none⟩ u) := (Keeps.refl [X] w).setCell (.inl (by simp)) _
  exact ⟨h.k.trans hk (fun x hx => by simp at hx; omega), h.bN, h.n, h.nx, h.z.keeps hk (by simp; omega), h.rd.keeps hk (by simp; omega), hx⟩
theorem MsgSt.keeps {w0 w w' : World} {N b X : Nat} {rv v : Value} {s : List UInt8 × Bool} {m : Msg} {F : List Nat} (h : MsgSt w0 w N b X rv s v m) (hk : Keeps F w w') (hF : ∀ x ∈ F, X < x) : MsgSt w0 w' N b X rv s v m := by
  have h1 := h.bN
  have h2 := h.nx
  have h3 := h.n
  refine ⟨h.k.trans hk (fun x hx => by have := hF x hx; omega), h.bN, h.n, h.nx, h.z.keeps hk (fun hx => by have := hF _ hx; omega), h.rd.keeps hk (fun x hx => by have := hF _ hx; omega), h.x.keeps hk (fun hx => by have := hF _ hx; omega)⟩

theorem EntO.keeps {w w' : World} {base : Nat} {v : Value} {es : List Ent} {F : List Nat} (h : EntO w base v es) (hk : Keeps F w w') (hF : ∀ x ∈ F, x < base) : EntO w' base v es := by
  refine ⟨h.1, ?_⟩
  rcases h.2 with h2 | ⟨g, cap, cur, hv, hg, hh, r⟩
  · exact .inl h2
  · refine .inr ⟨g, cap, cur, hv, hg, ?_, r⟩
    rw [hk.block g (Array.getElem?_eq_some_iff.1 hh).1 (fun hx => by have := hF g hx; omega)]
    exact hh
theorem entsF_go {f : Nat} {i : Int} {es : List Ent} {s : List UInt8 × Bool} (h : 0 < i ∧ s.2 = false ∧ es.length ≤ 8) : entsF (f + 1) i es s = entsF f (i - 1) (es ++ [(decR s.1).1.e]) (tookP s (decR s.1).2.1 (decR s.1).2.2) := by
  rw [entsF, if_pos h]
  unfold tookP
  rw [h.2.1]
  by_cases he : (decR s.1).2.2 = 0 <;> simp [he]
theorem entsF_stop {f : Nat} {i : Int} {es : List Ent} {s : List UInt8 × Bool} (h : ¬ (0 < i ∧ s.2 = false ∧ es.length ≤ 8)) : entsF f i es s = (es, s) := by
  cases f with
  | zero => rfl
  | succ f => rw [entsF, if_neg h]
theorem took_len (s : List UInt8 × Bool) (n e : Nat) : (tookP s n e).1.length ≤ s.1.length := by
  unfold tookP
  dsimp only
  split
  · exact Nat.le_refl _
  · rw [List.length_drop]; omega
theorem snapF_go {s : List UInt8 × Bool} (h : s.2 = false) : snapF 5 s = ((getS s.1).1, tookP s (getS s.1).2.1 (getS s.1).2.2) := by
  unfold snapF tookP
  rw [if_pos ⟨rfl, h⟩, h]
  by_cases he : (getS s.1).2.2 = 0 <;> simp [he]

def RetMsg (w : World) (b : Nat) (B : List UInt8) (e : Ending) (w' : World) : Prop :=
  ∃ v rv, e = .returned (msgAgg v (msgP B).1) ∧ EntO w' w.heap.size v (msgP B).1.es ∧ RdS w' b rv (msgP B).2 ∧ Keeps [b] w w'

set_option maxRecDepth 100000 in
set_option maxHeartbeats 4000000 in
theorem m_message {w : World} {b : Nat} {v : Value} {B : List UInt8} (h : RdS w b v (B, false)) (hl : B.length ≤ 1000000000) :
    Calls Try.prog 38 #[.pointer (some ⟨b, 0, none⟩)] w fun e w' => RetMsg w b B e w' := by
  obtain ⟨x1, s1, h1⟩ : ∃ x s, rdN (B, false) = (x, s) := ⟨_, _, rfl⟩
  obtain ⟨x2, s2, h2⟩ : ∃ x s, rdN s1 = (x, s) := ⟨_, _, rfl⟩
  obtain ⟨x3, s3, h3⟩ : ∃ x s, rdN s2 = (x, s) := ⟨_, _, rfl⟩
  obtain ⟨x4, s4, h4⟩ : ∃ x s, rdN s3 = (x, s) := ⟨_, _, rfl⟩
  obtain ⟨x5, s5, h5⟩ : ∃ x s, rdN s4 = (x, s) := ⟨_, _, rfl⟩
  obtain ⟨x6, s6, h6⟩ : ∃ x s, rdN s5 = (x, s) := ⟨_, _, rfl⟩
  obtain ⟨x7, s7, h7⟩ : ∃ x s, rdN s6 = (x, s) := ⟨_, _, rfl⟩
  obtain ⟨x8, s8, h8⟩ : ∃ x s, rdN s7 = (x, s) := ⟨_, _, rfl⟩
  obtain ⟨x9, s9, h9⟩ : ∃ x s, rdN s8 = (x, s) := ⟨_, _, rfl⟩
  have hP : msgP B = (⟨x1, x2, x3, x4, x5, x6, x7, x8 == 1, (entsF 10 x9 [] s9).1, (snapF x1 (entsF 10 x9 [] s9).2).1⟩, (snapF x1 (entsF 10 x9 [] s9).2).2) := by
    unfold msgP
    simp only [h1, h2, h3, h4, h5, h6, h7, h8, h9]
  have hbd := rdN_bd s8
  rw [h9] at hbd
  have hlen : s9.1.length ≤ 1000000000 := by
    have l1 := rdN_len (B, false)
    have l2 := rdN_len s1
    have l3 := rdN_len s2
    have l4 := rdN_len s3
    have l5 := rdN_len s4
    have l6 := rdN_len s5
    have l7 := rdN_len s6
    have l8 := rdN_len s7
    have l9 := rdN_len s8
    rw [h1] at l1; rw [h2] at l2; rw [h3] at l3; rw [h4] at l4; rw [h5] at l5; rw [h6] at l6; rw [h7] at l7; rw [h8] at l8; rw [h9] at l9
    dsimp only at *
    omega
  have HP := Lib.hid hP
  have H1 := Lib.hid h1
  have H2 := Lib.hid h2
  have H3 := Lib.hid h3
  have H4 := Lib.hid h4
  have H5 := Lib.hid h5
  have H6 := Lib.hid h6
  have H7 := Lib.hid h7
  have H8 := Lib.hid h8
  have H9 := Lib.hid h9
  clear hP h1 h2 h3 h4 h5 h6 h7 h8 h9
  unfold RetMsg
  have hz := msgS_box w (.slice none 0 0) ⟨0, 0, 0, 0, 0, 0, 0, false, [], ⟨0, 0, ⟨#[]⟩, ⟨#[]⟩⟩⟩ 30
  have hk0 : Keeps [b] w (w.alloc (.cells #[.int .i64 0, .int .i64 0, .int .i64 0, .int .i64 0, .int .i64 0, .int .i64 0, .int .i64 0, .bool false, .slice none 0 0, .int .i64 0, .int .i64 0, .string ⟨#[]⟩, .string ⟨#[]⟩] 30)) := (Keeps.refl [b] w).alloc _
  have hb := h.lt
  have hrd := h.keeps (F := []) (Keeps.of_below ((Below.refl w.heap.size w).alloc (Nat.le_refl _) (.cells #[.int .i64 0, .int .i64 0, .int .i64 0, .int .i64 0, .int .i64 0, .int .i64 0, .int .i64 0, .bool false, .slice none 0 0, .int .i64 0, .int .i64 0, .string ⟨#[]⟩, .string ⟨#[]⟩] 30))) (by simp)
  clear h
  dsimp only at hz
  go_enter Try.func38, Try.ntmps38
  go_wp2_with fail
  generalize w.alloc _ = w1 at *
  refine (m_num' hrd H1.out).mono ?_
  rintro e w2 ⟨rfl, ⟨v2, hr2⟩, hk2⟩
  have hz := hz.keeps hk2 (by simp; omega)
  have hk := hk0.trans hk2 (fun x hx => .inl hx)
  clear hk0 hk2 hrd
  go_wp2_with fail
  refine (m_num' hr2 H2.out).mono ?_
  rintro e w3 ⟨rfl, ⟨v3, hr3⟩, hk3⟩
  have hz := hz.keeps hk3 (by simp; omega)
  have hk := hk.trans hk3 (fun x hx => .inl hx)
  clear hk3 hr2
  go_wp2_with fail
  refine (m_num' hr3 H3.out).mono ?_
  rintro e w4 ⟨rfl, ⟨v4, hr4⟩, hk4⟩
  have hz := hz.keeps hk4 (by simp; omega)
  have hk := hk.trans hk4 (fun x hx => .inl hx)
  clear hk4 hr3
  have hX := msgS_box w4 (.slice none 0 0) ⟨x1, x2, x3, 0, 0, 0, 0, false, [], ⟨0, 0, ⟨#[]⟩, ⟨#[]⟩⟩⟩ 30
  have hba := (Below.refl w4.heap.size w4).alloc (Nat.le_refl _) (.cells #[.int .i64 x1, .int .i64 x2, .int .i64 x3, .int .i64 0, .int .i64 0, .int .i64 0, .int .i64 0, .bool false, .slice none 0 0, .int .i64 0, .int .i64 0, .string ⟨#[]⟩, .string ⟨#[]⟩] 30)
  have hr5 := hr4.keeps (F := []) (Keeps.of_below hba) (by simp)
  have hz5 := hz.below hba
  have hk5 := hk.alloc (.cells #[.int .i64 x1, .int .i64 x2, .int .i64 x3, .int .i64 0, .int .i64 0, .int .i64 0, .int .i64 0, .bool false, .slice none 0 0, .int .i64 0, .int .i64 0, .string ⟨#[]⟩, .string ⟨#[]⟩] 30)
  dsimp only at hX
  have hNX := hz.lt
  clear hba hz hk hr4
  go_wp2_with fail
  have hS : MsgSt w _ w.heap.size b w4.heap.size v4 s3 _ _ := ⟨hk5, hb, Nat.le_refl _, hNX, hz5, hr5, hX⟩
  clear hk5 hz5 hr5 hX
  generalize w4.alloc _ = w5 at *
  generalize w4.heap.size = X at *
  refine (m_num' hS.rd H4.out).mono ?_
  rintro e w6 ⟨rfl, ⟨v6, hr6⟩, hk6⟩
  have hS := hS.call hr6 hk6
  have c3 := hS.x.c3
  have fr := hS.x.fr
  dsimp only at c3
  clear hr6 hk6
  go_wp2_with fail
  have hS := hS.put (hS.x.setT x4)
  dsimp only at hS
  clear c3 fr
  refine (m_num' hS.rd H5.out).mono ?_
  rintro e w7 ⟨rfl, ⟨v7, hr7⟩, hk7⟩
  have hS := hS.call hr7 hk7
  have c4 := hS.x.c4
  have fr := hS.x.fr
  dsimp only at c4
  clear hr7 hk7
  go_wp2_with fail
  have hS := hS.put (hS.x.setI x5)
  dsimp only at hS
  clear c4 fr
  refine (m_num' hS.rd H6.out).mono ?_
  rintro e w8 ⟨rfl, ⟨v8, hr8⟩, hk8⟩
  have hS := hS.call hr8 hk8
  have c5 := hS.x.c5
  have fr := hS.x.fr
  dsimp only at c5
  clear hr8 hk8
  go_wp2_with fail
  have hS := hS.put (hS.x.setL x6)
  dsimp only at hS
  clear c5 fr
  refine (m_num' hS.rd H7.out).mono ?_
  rintro e w9 ⟨rfl, ⟨v9, hr9⟩, hk9⟩
  have hS := hS.call hr9 hk9
  have c6 := hS.x.c6
  have fr := hS.x.fr
  dsimp only at c6
  clear hr9 hk9
  go_wp2_with fail
  have hS := hS.put (hS.x.setC x7)
  dsimp only at hS
  clear c6 fr
  refine (m_num' hS.rd H8.out).mono ?_
  rintro e w10 ⟨rfl, ⟨v10, hr10⟩, hk10⟩
  have hS := hS.call hr10 hk10
  have c7 := hS.x.c7
  have fr := hS.x.fr
  dsimp only at c7
  clear hr10 hk10
  go_wp2_with fail
  have hS := hS.put (hS.x.setY (x8 == 1))
  dsimp only at hS
  clear c7 fr
  refine (m_num' hS.rd H9.out).mono ?_
  rintro e w11 ⟨rfl, ⟨v11, hr11⟩, hk11⟩
  have hS := hS.call hr11 hk11
  clear hr11 hk11
  go_wp2_with fail
  have hXw := hS.x.lt
  go_loopw [4, 5, 6, 7] (fun n _ _ _ wr => ∃ (f : Nat) (i : Int) (es : List Ent) (s : List UInt8 × Bool) (ev rv : Value), n = .int .i64 i ∧ -9223372036854775808 ≤ i ∧ i ≤ 9223372036854775807 ∧ es.length + f = 10 ∧ 1 ≤ f ∧ s.1.length ≤ 1000000000 ∧
    MsgSt w wr w.heap.size b X rv s ev ⟨x1, x2, x3, x4, x5, x6, x7, x8 == 1, es, ⟨0, 0, ⟨#[]⟩, ⟨#[]⟩⟩⟩ ∧ EntO wr (X + 1) ev es ∧ Hid (entsF 10 x9 [] s9 = entsF f i es s)) (fun n _ _ _ _ => (intOf n).toNat)
  case atStart => exact ⟨10, x9, [], s9, _, _, rfl, hbd.1, hbd.2, rfl, by omega, hlen, hS, EntO.nil _ _, Lib.hid rfl⟩
  case round =>
    clear hS hXw hlen hbd
    obtain ⟨f, i, es, s, ev, rv, rfl, hi0, hi1, hef, hf, hsl, hS, hO, hE⟩ := hrel
    have c1 := hS.rd.c1
    have c8 := hS.x.c8
    try dsimp only at c8
    obtain ⟨ae, ce, rfl⟩ := hO.r.slice
    by_cases hgo : 0 < i ∧ s.2 = false ∧ es.length ≤ 8
    · obtain ⟨g1, g2, g3⟩ := hgo
      obtain ⟨f', rfl⟩ : ∃ f', f = f' + 1 := ⟨f - 1, by omega⟩
      have hE2 := hE.out.trans (entsF_go ⟨g1, g2, g3⟩)
      have hDl : (decR s.1).2.2 = 0 → (decR s.1).2.1 ≤ s.1.length := fun h => (decR_ok h).2.2.2.2
      have hTl := took_len s (decR s.1).2.1 (decR s.1).2.2
      obtain ⟨rr, k, err, hd⟩ : ∃ r k e, decR s.1 = (r, k, e) := ⟨_, _, _, rfl⟩
      rw [hd] at hE2 hDl hTl
      dsimp only at hE2 hDl hTl
      rw [g2] at c1
      have hrB := hS.rd.r
      have c0 := hS.rd.c0
      obtain ⟨ar, cr, rfl⟩ : ∃ a c, rv = .slice a s.1.length c := by obtain ⟨a, c, hv, -⟩ := hrB; exact ⟨a, c, hv⟩
      have HE2 := Lib.hid hE2
      have HD := Lib.hid hd
      have g3' : decide ((es.length : Int) ≤ 8) = true := decide_eq_true (by omega)
      clear hE hE2 hd
      go_wp2_with fail
      refine (wal_decode _ s.1 _ hrB hsl).mono ?_
      rw [HD.out]
      rintro e wA ⟨rfl, hbA⟩
      unfold decV recAgg
      dsimp only
      have hSA := hS.keeps (F := []) (Keeps.of_below hbA) (by simp)
      have hOA := hO.below hbA
      have hbB := (Below.refl wA.heap.size wA).alloc (Nat.le_refl _) (.cells #[.bool rr.hd, .int .i64 rr.t, .int .i64 rr.v, .int .i64 rr.e.i, .int .i64 rr.e.t, .int .i64 rr.e.k, .string rr.e.d] 89)
      have hSB := hSA.keeps (F := []) (Keeps.of_below hbB) (by simp)
      have hOB := hOA.below hbB
      have hRB := recS_box wA rr 89
      have hXA := hSA.x.lt
      have hNX := hS.nx
      have hbN := hS.bN
      clear hS hO hSA hOA hbA hbB c0 c1 c8 hrB
      go_wp2_with fail
      refine (m_took hSB.rd k err hDl).mono ?_
      rintro e wC ⟨rfl, ⟨rvC, hrC⟩, hkC⟩
      have hSC := hSB.call hrC hkC
      have hOC := hOB.keeps hkC (by simp; omega)
      have hRC := hRB.keeps hkC (by simp; omega)
      have c8 := hSC.x.c8
      have r3 := hRC.c3
      have r4 := hRC.c4
      have r5 := hRC.c5
      have r6 := hRC.c6
      try dsimp only at c8
      clear hSB hOB hRB hrC hkC hRC
      have hbD := (Below.refl wC.heap.size wC).alloc (Nat.le_refl _) (.cells #[.int .i64 rr.e.i, .int .i64 rr.e.t, .int .i64 rr.e.k, .string rr.e.d] 35)
      have hSD := hSC.keeps (F := []) (Keeps.of_below hbD) (by simp)
      have hOD := hOC.below hbD
      have hFr := EntR.fresh wC [rr.e] 35 (0, 0) #[.int .i64 rr.e.i, .int .i64 rr.e.t, .int .i64 rr.e.k, .string rr.e.d] 1 rfl rfl (by simp)
      have hXD := hSD.x.lt
      clear hSC hOC hbD
      go_wp2_with (at_builtin; refine wpList_append_ents 26 (X + 1) _ Try.underlying26 info_ent rfl rfl _ _ rfl hOD hFr rfl rfl (by simp; omega) hXD ?_)
      intro vE wE hoE hgE hkE
      obtain ⟨aE, cE, hvE⟩ := hoE.r.slice
      rw [List.length_append, List.length_singleton] at hvE
      subst hvE
      have hSE := hSD.keeps (Keeps.of_grown hgE) (fun x hx => by have := (World.ownsRow.lt hOD x (by simpa using hx)).1; omega)
      have d8 := hSE.x.c8
      have fr := hSE.x.fr
      try dsimp only at d8
      clear hSD hOD hFr hgE hkE c8 r3 r4 r5 r6
      go_wp2_with fail
      go_roundw
      case rel => exact ⟨f', i - 1, es ++ [rr.e], _, _, rvC, by go_num, by omega, by omega, by rw [List.length_append]; simp; omega, by omega, by omega, hSE.put (hSE.x.setV _ (es ++ [rr.e])), hoE.keeps (F := [X]) ((Keeps.refl [X] wE).setCell (.inl (by simp)) _) (by simp), HE2⟩
      case measure => simp [intOf]; omega
    · have hE2 := hE.out.trans (entsF_stop hgo)
      have HP2 : Hid (msgP B = (⟨x1, x2, x3, x4, x5, x6, x7, x8 == 1, es, (snapF x1 s).1⟩, (snapF x1 s).2)) := Lib.hid (by rw [HP.out, hE2])
      clear HP hE hE2
      have HS := Lib.hid hS
      have z0 := hS.z.c0
      have z1 := hS.z.c1
      have z2 := hS.z.c2
      have z3 := hS.z.c3
      have z4 := hS.z.c4
      have z5 := hS.z.c5
      have z6 := hS.z.c6
      have z7 := hS.z.c7
      have z8 := hS.z.c8
      have z9 := hS.z.c9
      have z10 := hS.z.c10
      have z11 := hS.z.c11
      have z12 := hS.z.c12
      have zf := hS.z.fr
      have y0 := hS.x.c0
      have y1 := hS.x.c1
      have y2 := hS.x.c2
      have y3 := hS.x.c3
      have y4 := hS.x.c4
      have y5 := hS.x.c5
      have y6 := hS.x.c6
      have y7 := hS.x.c7
      have y9 := hS.x.c9
      have y10 := hS.x.c10
      have y11 := hS.x.c11
      have y12 := hS.x.c12
      dsimp only at z0 z1 z2 z3 z4 z5 z6 z7 z9 z10 z11 z12 y0 y1 y2 y3 y4 y5 y6 y7 y9 y10 y11 y12
      have hNX := hS.nx
      have hbN := hS.bN
      by_cases hsn : x1 = 5 ∧ s.2 = false
      · obtain ⟨rfl, hs2⟩ := hsn
        have hP3 : msgP B = (⟨5, x2, x3, x4, x5, x6, x7, x8 == 1, es, (getS s.1).1⟩, tookP s (getS s.1).2.1 (getS s.1).2.2) := by
          rw [HP2.out, snapF_go hs2]
        have hGl : (getS s.1).2.2 = 0 → (getS s.1).2.1 ≤ s.1.length := getS_le
        obtain ⟨⟨gi, gt, gc, gd⟩, k, err, hg⟩ : ∃ r k e, getS s.1 = (r, k, e) := ⟨_, _, _, rfl⟩
        rw [hg] at hP3 hGl
        dsimp only at hP3 hGl
        have HP3 := Lib.hid hP3
        have HG := Lib.hid hg
        have hrB := hS.rd.r
        have c0 := hS.rd.c0
        obtain ⟨ar, cr, rfl⟩ : ∃ a c, rv = .slice a s.1.length c := by obtain ⟨a, c, hv, -⟩ := hrB; exact ⟨a, c, hv⟩
        have hwhy : decide (0 < i) = false ∨ (decide (0 < i) = true ∧ decide ((es.length : Int) ≤ 8) = false) := by
          by_cases q1 : 0 < i
          · exact .inr ⟨decide_eq_true q1, decide_eq_false (fun h => hgo ⟨q1, hs2, by omega⟩)⟩
          · exact .inl (decide_eq_false q1)
        rw [hs2] at c1
        clear hgo hs2 HP2 hg hP3 hS z0 z1 z2 z3 z4 z5 z6 z7 z8 z9 z10 z11 z12 y1 y2 y3 y4 y5 y6 y7 y9 y10 y11 y12 zf
        rcases hwhy with hw1 | ⟨hw1, hw2⟩
        all_goals
          go_wp2_with fail
          refine (wal_getSnap _ s.1 _ hrB hsl).mono ?_
          rw [HG.out]
          rintro e wA ⟨rfl, hbA⟩
          unfold getSV snpAgg
          dsimp only
          have hSA := HS.out.keeps (F := []) (Keeps.of_below hbA) (by simp)
          have hOA := hO.below hbA
          have hbB := (Below.refl wA.heap.size wA).alloc (Nat.le_refl _) (.cells #[.int .i64 gi, .int .i64 gt, .string gc, .string gd] 28)
          have hSB := hSA.keeps (F := []) (Keeps.of_below hbB) (by simp)
          have hOB := hOA.below hbB
          have hRB := snapS_box wA ⟨gi, gt, gc, gd⟩ 28
          have hXA := hSA.x.lt
          dsimp only at hRB
          clear hSA hOA hbA hbB hO hrB HS c0 c1 c8 y0
          go_wp2_with fail
          refine (m_took hSB.rd k err hGl).mono ?_
          rintro e wC ⟨rfl, ⟨rvC, hrC⟩, hkC⟩
          have hSC := hSB.call hrC hkC
          have hOC := hOB.keeps hkC (by simp; omega)
          have hRC := hRB.keeps hkC (by simp; omega)
          have r0 := hRC.c0
          have r1 := hRC.c1
          have r2 := hRC.c2
          have r3 := hRC.c3
          dsimp only at r0 r1 r2 r3
          have y9 := hSC.x.c9
          have y10 := hSC.x.c10
          have y11 := hSC.x.c11
          have y12 := hSC.x.c12
          have yf := hSC.x.fr
          dsimp only at y9 y10 y11 y12
          clear hSB hOB hRB hrC hkC hRC
          go_upto_region 17 with fail
          have hS1 := hSC.put (hSC.x.setSI gi)
          have hS2 := hS1.put (hS1.x.setST gt)
          have hS3 := hS2.put (hS2.x.setSC gc)
          have hS4 := hS3.put (hS3.x.setSD gd)
          dsimp only at hS4
          have hO4 := hOC.keeps (F := [X]) (((((Keeps.refl [X] wC).setCell (p := ⟨X, 9, none⟩) (.inl (by simp)) (.int .i64 gi)).setCell (p := ⟨X, 10, none⟩) (.inl (by simp)) (.int .i64 gt)).setCell (p := ⟨X, 11, none⟩) (.inl (by simp)) (.string gc)).setCell (p := ⟨X, 12, none⟩) (.inl (by simp)) (.string gd)) (by simp)
          clear hS1 hS2 hS3 hSC hOC y9 y10 y11 y12 yf r0 r1 r2 r3
          generalize (((wC.setCell _ _).setCell _ _).setCell _ _).setCell _ _ = wD at *
          have z0 := hS4.z.c0
          have z1 := hS4.z.c1
          have z2 := hS4.z.c2
          have z3 := hS4.z.c3
          have z4 := hS4.z.c4
          have z5 := hS4.z.c5
          have z6 := hS4.z.c6
          have z7 := hS4.z.c7
          have z8 := hS4.z.c8
          have z9 := hS4.z.c9
          have z10 := hS4.z.c10
          have z11 := hS4.z.c11
          have z12 := hS4.z.c12
          have zf := hS4.z.fr
          have y0 := hS4.x.c0
          have y1 := hS4.x.c1
          have y2 := hS4.x.c2
          have y3 := hS4.x.c3
          have y4 := hS4.x.c4
          have y5 := hS4.x.c5
          have y6 := hS4.x.c6
          have y7 := hS4.x.c7
          have y8 := hS4.x.c8
          have y9 := hS4.x.c9
          have y10 := hS4.x.c10
          have y11 := hS4.x.c11
          have y12 := hS4.x.c12
          dsimp only at z0 z1 z2 z3 z4 z5 z6 z7 z9 z10 z11 z12 y0 y1 y2 y3 y4 y5 y6 y7 y9 y10 y11 y12
          have hz0 := hS4.z.setAll (v' := .slice ae es.length ce) (m' := ⟨5, x2, x3, x4, x5, x6, x7, x8 == 1, es, ⟨gi, gt, gc, gd⟩⟩)
          have hkz := keeps_msgTo wD w.heap.size (.slice ae es.length ce) ⟨5, x2, x3, x4, x5, x6, x7, x8 == 1, es, ⟨gi, gt, gc, gd⟩⟩
          have hret : ∃ v rv', EntO (msgTo wD w.heap.size (.slice ae es.length ce) ⟨5, x2, x3, x4, x5, x6, x7, x8 == 1, es, ⟨gi, gt, gc, gd⟩⟩) w.heap.size v es ∧ v = .slice ae es.length ce ∧ RdS (msgTo wD w.heap.size (.slice ae es.length ce) ⟨5, x2, x3, x4, x5, x6, x7, x8 == 1, es, ⟨gi, gt, gc, gd⟩⟩) b rv' (tookP s k err) ∧ Keeps [b] w (msgTo wD w.heap.size (.slice ae es.length ce) ⟨5, x2, x3, x4, x5, x6, x7, x8 == 1, es, ⟨gi, gt, gc, gd⟩⟩) :=
            ⟨_, _, (hO4.keeps hkz (by simp; omega)).rebase (by omega), rfl, hS4.rd.keeps hkz (by simp; omega), hS4.k.trans hkz (by simp)⟩
          have HR := Lib.hid hret
          have HZ := Lib.hid hz0
          clear hz0 hkz hret hO4 hS4
          go_wp2_with fail
          obtain ⟨ev, rv', hEv, rfl, hRv, hKv⟩ := HR.out
          refine bodyPost_ret (results_cell1 rfl _ _ _ _ _ rfl (load_msg HZ.out)) rfl ?_
          rw [HP3.out]
          exact ⟨_, rv', rfl, hEv, hRv, hKv⟩
      · have HP3 : Hid (msgP B = (⟨x1, x2, x3, x4, x5, x6, x7, x8 == 1, es, ⟨0, 0, ⟨#[]⟩, ⟨#[]⟩⟩⟩, s)) := Lib.hid (by
          rw [HP2.out]
          unfold snapF
          rw [if_neg hsn]
          rfl)
        clear HP2 hS
        have hz0 := HS.out.z.setAll (v' := .slice ae es.length ce) (m' := ⟨x1, x2, x3, x4, x5, x6, x7, x8 == 1, es, ⟨0, 0, ⟨#[]⟩, ⟨#[]⟩⟩⟩)
        have hkz := keeps_msgTo wr w.heap.size (.slice ae es.length ce) ⟨x1, x2, x3, x4, x5, x6, x7, x8 == 1, es, ⟨0, 0, ⟨#[]⟩, ⟨#[]⟩⟩⟩
        have hret : ∃ v rv', EntO (msgTo wr w.heap.size (.slice ae es.length ce) ⟨x1, x2, x3, x4, x5, x6, x7, x8 == 1, es, ⟨0, 0, ⟨#[]⟩, ⟨#[]⟩⟩⟩) w.heap.size v es ∧ v = .slice ae es.length ce ∧ RdS (msgTo wr w.heap.size (.slice ae es.length ce) ⟨x1, x2, x3, x4, x5, x6, x7, x8 == 1, es, ⟨0, 0, ⟨#[]⟩, ⟨#[]⟩⟩⟩) b rv' s ∧ Keeps [b] w (msgTo wr w.heap.size (.slice ae es.length ce) ⟨x1, x2, x3, x4, x5, x6, x7, x8 == 1, es, ⟨0, 0, ⟨#[]⟩, ⟨#[]⟩⟩⟩) :=
          ⟨_, _, (hO.keeps hkz (by simp; omega)).rebase (by omega), rfl, HS.out.rd.keeps hkz (by simp; omega), HS.out.k.trans hkz (by simp)⟩
        have HR := Lib.hid hret
        have HZ := Lib.hid hz0
        clear hz0 hkz hret hO
        have hwhy : (decide (0 < i) = false ∨ (decide (0 < i) = true ∧ s.2 = true) ∨ (decide (0 < i) = true ∧ s.2 = false ∧ decide ((es.length : Int) ≤ 8) = false)) ∧ (x1 ≠ 5 ∨ x1 = 5 ∧ s.2 = true) := by
          refine ⟨?_, ?_⟩
          · by_cases q1 : 0 < i
            · by_cases q2 : s.2 = true
              · exact .inr (.inl ⟨decide_eq_true q1, q2⟩)
              · have q2 : s.2 = false := by simpa using q2
                exact .inr (.inr ⟨decide_eq_true q1, q2, decide_eq_false (fun h => hgo ⟨q1, q2, by omega⟩)⟩)
            · exact .inl (decide_eq_false q1)
          · by_cases q1 : x1 = 5
            · exact .inr ⟨q1, by cases hq : s.2 with | true => rfl | false => exact absurd ⟨q1, hq⟩ hsn⟩
            · exact .inl q1
        clear hgo hsn
        obtain ⟨hw1, hw2⟩ := hwhy
        rcases hw1 with hw1 | ⟨hw1, hw3⟩ | ⟨hw1, hw3, hw4⟩
        all_goals rcases hw2 with hw2 | ⟨hw2, hw5⟩
        all_goals
          first
            | (exfalso; rw [hw3] at hw5; exact absurd hw5 (by decide))
            | (try rw [hw3] at c1
               try rw [hw5] at c1
               try (have hw6 : (x1 == 5) = false := beq_eq_false_iff_ne.2 hw2)
               try subst hw2
               go_wp2_with fail
               obtain ⟨ev, rv', hEv, rfl, hRv, hKv⟩ := HR.out
               refine bodyPost_ret (results_cell1 rfl _ _ _ _ _ rfl (load_msg HZ.out)) rfl ?_
               rw [HP3.out]
               exact ⟨_, rv', rfl, hEv, hRv, hKv⟩)
end Go.Proofs.Ytcogmohepcifiaa
