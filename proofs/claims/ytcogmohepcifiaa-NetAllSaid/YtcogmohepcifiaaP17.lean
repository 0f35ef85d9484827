/-
  No claim by itself: how the program reads a snapshot. No condition.
-/
import Derived.Test.YtcogmohepcifiaaP11
import Derived.Test.YtcogmohepcifiaaP15
namespace Go.Proofs.Ytcogmohepcifiaa
open Go.ChangeShapes Go.WideShapes Go.ChangeAt Go.RowKit

theorem SnapS.setI {w : World} {b : Nat} {r : Snp} (h : SnapS w b r) (x : Int) : SnapS (w.setCell ⟨b, 0, none⟩ (.int .i64 x)) b { r with i := x } :=
  ⟨by rw [setCell_size]; exact h.lt, World.cell?_setCell_same _ _ _ h.c0, (World.cell?_setCell_other _ _ _ _ (by simp)).trans h.c1, (World.cell?_setCell_other _ _ _ _ (by simp)).trans h.c2, (World.cell?_setCell_other _ _ _ _ (by simp)).trans h.c3, fun j => by rw [World.frozen?_setCell]; exact h.fr j⟩
theorem SnapS.setT {w : World} {b : Nat} {r : Snp} (h : SnapS w b r) (x : Int) : SnapS (w.setCell ⟨b, 1, none⟩ (.int .i64 x)) b { r with t := x } :=
  ⟨by rw [setCell_size]; exact h.lt, (World.cell?_setCell_other _ _ _ _ (by simp)).trans h.c0, World.cell?_setCell_same _ _ _ h.c1, (World.cell?_setCell_other _ _ _ _ (by simp)).trans h.c2, (World.cell?_setCell_other _ _ _ _ (by simp)).trans h.c3, fun j => by rw [World.frozen?_setCell]; exact h.fr j⟩
theorem SnapS.setC {w : World} {b : Nat} {r : Snp} (h : SnapS w b r) (x : ByteArray) : SnapS (w.setCell ⟨b, 2, none⟩ (.string x)) b { r with c := x } :=
  ⟨by rw [setCell_size]; exact h.lt, (World.cell?_setCell_other _ _ _ _ (by simp)).trans h.c0, (World.cell?_setCell_other _ _ _ _ (by simp)).trans h.c1, World.cell?_setCell_same _ _ _ h.c2, (World.cell?_setCell_other _ _ _ _ (by simp)).trans h.c3, fun j => by rw [World.frozen?_setCell]; exact h.fr j⟩
theorem SnapS.setD {w : World} {b : Nat} {r : Snp} (h : SnapS w b r) (x : ByteArray) : SnapS (w.setCell ⟨b, 3, none⟩ (.string x)) b { r with d := x } :=
  ⟨by rw [setCell_size]; exact h.lt, (World.cell?_setCell_other _ _ _ _ (by simp)).trans h.c0, (World.cell?_setCell_other _ _ _ _ (by simp)).trans h.c1, (World.cell?_setCell_other _ _ _ _ (by simp)).trans h.c2, World.cell?_setCell_same _ _ _ h.c3, fun j => by rw [World.frozen?_setCell]; exact h.fr j⟩
theorem load_snap {w : World} {b : Nat} {r : Snp} (h : SnapS w b r) : (loadVar 28 ⟨b, 0, none⟩).run Try.prog w = .ok (snpAgg r) w := by
  have c0 := h.c0
  have c1 := h.c1
  have c2 := h.c2
  have c3 := h.c3
  unfold snpAgg loadVar
  go_simp
/-- Half way: what was there is as it was; the result's block, the reader's, the snapshot's. -/
structure GetSt (w0 w : World) (N R : Nat) (v : Value) (s : List UInt8 × Bool) : Prop where
  b : Below w0.heap.size w0 w
  n : w0.heap.size ≤ N
  nr : N < R
  z : SnapS w N ⟨0, 0, .empty, .empty⟩
  rd : RdS w R v s
theorem GetSt.call {w0 w w' : World} {N R : Nat} {v v' : Value} {s s' : List UInt8 × Bool} (h : GetSt w0 w N R v s) (hr : RdS w' R v' s') (hk : Keeps [R] w w') : GetSt w0 w' N R v' s' := by
  have h1 := h.n
  have h2 := h.nr
  exact ⟨h.b.trans (hk.below (fun x hx => by simp at hx; omega) h.b.size), h.n, h.nr, h.z.keeps hk (by simp; omega), hr⟩
theorem GetSt.put {w0 w : World} {N R X : Nat} {v : Value} {s : List UInt8 × Bool} (h : GetSt w0 w N R v s) (hX : R < X) {j : Nat} {u : Value} : GetSt w0 (w.setCell ⟨X, j, none⟩ u) N R v s := by
  have h1 := h.n
  have h2 := h.nr
  have hk : Keeps [X] w (w.setCell ⟨X, j, none⟩ u) := (Keeps.refl [X] w).setCell (.inl (by simp)) _
  exact ⟨h.b.setCell (by show w0.heap.size ≤ X; omega) _, h.n, h.nr, h.z.keeps hk (by simp; omega), h.rd.keeps hk (by simp; omega)⟩
theorem GetSt.alloc {w0 w : World} {N R : Nat} {v : Value} {s : List UInt8 × Bool} (h : GetSt w0 w N R v s) (o : Obj) : GetSt w0 (w.alloc o) N R v s :=
  ⟨h.b.alloc h.b.size _, h.n, h.nr, h.z.below ((Below.refl _ _).alloc (Nat.le_refl _) o), h.rd.keeps (F := []) (Keeps.of_below ((Below.refl _ _).alloc (Nat.le_refl _) o)) (by simp)⟩

theorem GetSt.keeps {w0 w w' : World} {N R : Nat} {v : Value} {s : List UInt8 × Bool} {F : List Nat} (h : GetSt w0 w N R v s) (hk : Keeps F w w') (hF : ∀ x ∈ F, R < x) : GetSt w0 w' N R v s := by
  have h1 := h.n
  have h2 := h.nr
  exact ⟨h.b.trans (hk.below (fun x hx => by have := hF x hx; omega) h.b.size), h.n, h.nr, h.z.keeps hk (fun hx => by have := hF N hx; omega), h.rd.keeps hk hF⟩
theorem GetSt.below {w0 w w' : World} {N R : Nat} {v : Value} {s : List UInt8 × Bool} (h : GetSt w0 w N R v s) (hb : Below w.heap.size w w') : GetSt w0 w' N R v s := h.keeps (F := []) (Keeps.of_below hb) (by simp)

/-- The results of GetSnap. -/
def getSV (r : Snp × Nat × Nat) : Value := .tuple #[snpAgg r.1, .int .i64 (r.2.1 : Int), .int .i64 (r.2.2 : Int)]

set_option maxRecDepth 100000 in
set_option maxHeartbeats 8000000 in
theorem wal_getSnap (v : Value) (l : List UInt8) (w : World) (h : Bytes w v l) (hl : l.length ≤ 1000000000) :
    Calls Try.prog 58 #[v] w fun e w' => e = .returned (getSV (getS l)) ∧ Below w.heap.size w w' := by
  have hb0 := (Below.refl w.heap.size w).alloc (Nat.le_refl _) (.cells #[.int .i64 0, .int .i64 0, .string .empty, .string .empty] 28)
  have hc0 := snapS_box w ⟨0, 0, .empty, .empty⟩ 28
  have hB := h.below hb0 rfl
  have HI := Lib.hid h
  obtain ⟨a0, cap0, rfl, hcap0, hcm0, -⟩ := h
  dsimp only at hc0
  go_enter Try.func58, Try.ntmps58
  go_wp2_with fail
  refine (frame_open _ l _ hB hl).mono ?_
  have hok := openP_ok (l := l)
  obtain ⟨k, body, n, err, ho⟩ : ∃ k body n err, openP l = (k, body, n, err) := ⟨_, _, _, _, rfl⟩
  obtain ⟨d0, d1, d2⟩ := getS_open ho
  rw [ho] at hok ⊢
  rintro e w1 ⟨bv, rfl, hbv, hb1⟩
  dsimp only at hbv hok ⊢
  have hbw := hb0.trans (hb1.mono hb0.size)
  have hR0 := hc0.below hb1
  have hB1 := hB.below hb1 rfl
  clear hb0 hb1 hc0 hB
  by_cases he : err = 0
  · subst he
    have hbv2 := hbv
    obtain ⟨ab, cb, rfl, -⟩ := hbv2
    have hRd0 := rdS_box hbv 110
    have hbA := hbw.alloc hbw.size (.cells #[.slice ab body.length cb, .bool false] 110)
    have hZ1 := hR0.below ((Below.refl _ _).alloc (Nat.le_refl _) (.cells #[.slice ab body.length cb, .bool false] 110))
    have hE0 : (⟨#[]⟩ : ByteArray) = .empty := rfl
    have hlt1 := hbw.size
    have D1 := Lib.hid (d1 rfl)
    have D2 := Lib.hid (d2 rfl)
    go_upto_region 5 with fail
    have hS : GetSt w _ w.heap.size w1.heap.size _ _ := ⟨hbA, Nat.le_refl _, hR0.lt, hZ1, hRd0⟩
    clear hbA hR0 hZ1 hRd0 hbv hB1 d0 d1 d2 hbw
    replace hok := hok rfl
    generalize hWW : (w1.alloc (.cells #[.slice ab body.length cb, .bool false] 110)) = w5 at *
    clear hWW
    generalize hRR : w1.heap.size = R at *
    generalize hNN : w.heap.size = N at *
    go_wp2_with fail
    refine (rd_num hS.rd).mono ?_
    rintro e w6 ⟨rfl, ⟨v6, hr6⟩, hk6⟩
    replace hS := hS.call hr6 hk6
    have hS' := hS
    clear hr6 hk6
    have hXb := snapS_box w6 ⟨(rdN (body, false)).1, 0, .empty, .empty⟩ 28
    replace hS := hS.alloc (.cells #[.int .i64 (rdN (body, false)).1, .int .i64 0, .string .empty, .string .empty] 28)
    have hRX : R < w6.heap.size := hS'.rd.lt
    dsimp only at hXb
    go_upto_region 6 with fail
    generalize w6.heap.size = X at *
    generalize hWW : (w6.alloc (.cells #[.int .i64 (rdN (body, false)).1, .int .i64 0, .string .empty, .string .empty] 28)) = w7 at *
    clear hWW
    go_wp2_with fail
    refine (rd_num hS.rd).mono ?_
    rintro e w8 ⟨rfl, ⟨v8, hr8⟩, hk8⟩
    replace hS := hS.call hr8 hk8
    replace hXb := hXb.keeps hk8 (by simp; omega)
    clear hr8 hk8
    have c1 := hXb.c1
    have fr := hXb.fr
    dsimp only at c1
    go_wp2_with fail
    replace hS := hS.put hRX (j := 1) (u := .int .i64 (rdN (rdN (body, false)).2).1)
    replace hXb := hXb.setT (rdN (rdN (body, false)).2).1
    clear c1 fr
    refine (rd_text hS.rd).mono ?_
    rintro e w9 ⟨rfl, ⟨v9, hr9⟩, hk9⟩
    replace hS := hS.call hr9 hk9
    replace hXb := hXb.keeps hk9 (by simp; omega)
    clear hr9 hk9
    have c1 := hXb.c2
    have fr := hXb.fr
    dsimp only at c1
    go_wp2_with fail
    replace hS := hS.put hRX (j := 2) (u := .string ⟨(rdT (rdN (rdN (body, false)).2).2).1.toArray⟩)
    replace hXb := hXb.setC ⟨(rdT (rdN (rdN (body, false)).2).2).1.toArray⟩
    clear c1 fr
    refine (rd_num hS.rd).mono ?_
    rintro e w10 ⟨rfl, ⟨v10, hr10⟩, hk10⟩
    replace hS := hS.call hr10 hk10
    replace hXb := hXb.keeps hk10 (by simp; omega)
    clear hr10 hk10
    replace hXb : SnapS w10 X (snapP body).1 := hXb
    replace hS : GetSt w w10 N R v10 (snapP body).2.2 := hS
    rw [show (rdN (rdT (rdN (rdN (body, false)).2).2).2).1 = (snapP body).2.1 from rfl]
    obtain ⟨⟨⟨si, st, sc, sd⟩, left, s8⟩, hP⟩ : ∃ P, P = snapP body := ⟨_, rfl⟩
    rw [← hP] at hS hXb D1 D2 ⊢
    dsimp only at hS hXb D1 D2 ⊢
    have hsd : sd = .empty := congrArg (fun p : Snp × Int × List UInt8 × Bool => p.1.d) hP
    subst hsd
    clear hP
    by_cases hk3 : k = 3
    · subst hk3
      go_upto_region 9 with fail
      clear hS'
      go_wp2_with fail
      refine (rd_done hS.rd).mono ?_
      rintro e w11 ⟨rfl, rfl⟩
      cases hd : rdD s8 with
      | false =>
        have z0 := hS.z.c0
        have z1 := hS.z.c1
        have z2 := hS.z.c2
        have z3 := hS.z.c3
        have zf := hS.z.fr
        dsimp only at z0 z1 z2 z3
        have HS := Lib.hid hS
        have hnb := hS.n
        have HF : Hid (getS l = (zeroS, 0, 3)) := Lib.hid (D2.out (fun h => by rw [hd] at h; exact absurd h.2.1 (by decide)))
        clear hS hXb
        go_wp2_with fail
        have hz := ((((HS.out.z.setI 0).setT 0).setC ⟨#[]⟩).setD ⟨#[]⟩)
        refine bodyPost_ret (results_cell3 rfl _ _ _ _ _ rfl (load_snap hz)) rfl ?_
        rw [HF.out]
        subst hNN
        exact ⟨rfl, ((((HS.out.b.setCell hnb _).setCell hnb _).setCell hnb _).setCell hnb _)⟩
      | true =>
        have x0 := hXb.c0
        have x1 := hXb.c1
        have x2 := hXb.c2
        have x3 := hXb.c3
        dsimp only at x0 x1 x2 x3
        go_wp2_with fail
        refine (wal_snapMay ⟨si, st, sc, .empty⟩ _).mono ?_
        rintro e w12 ⟨rfl, hb12⟩
        replace hS := hS.below hb12
        replace hXb := hXb.below hb12
        clear hb12 x0 x1 x2 x3
        cases hm : mayS ⟨si, st, sc, .empty⟩ with
        | false =>
          have z0 := hS.z.c0
          have z1 := hS.z.c1
          have z2 := hS.z.c2
          have z3 := hS.z.c3
          have zf := hS.z.fr
          dsimp only at z0 z1 z2 z3
          have HS := Lib.hid hS
          have hnb := hS.n
          have HF : Hid (getS l = (zeroS, 0, 3)) := Lib.hid (D2.out (fun h => by rw [hm] at h; exact absurd h.2.2.1 (by decide)))
          clear hS hXb
          go_wp2_with fail
          have hz := ((((HS.out.z.setI 0).setT 0).setC ⟨#[]⟩).setD ⟨#[]⟩)
          refine bodyPost_ret (results_cell3 rfl _ _ _ _ _ rfl (load_snap hz)) rfl ?_
          rw [HF.out]
          subst hNN
          exact ⟨rfl, ((((HS.out.b.setCell hnb _).setCell hnb _).setCell hnb _).setCell hnb _)⟩
        | true =>
          go_wp2_with fail
          refine (wal_in 0 200000 _ [left] _ (RI.fresh1 _ _ _ _ (by simp))).mono ?_
          rintro e w13 ⟨rfl, rfl⟩
          replace hS := hS.alloc (.cells #[.int .i64 left] 2)
          replace hXb := hXb.below ((Below.refl _ _).alloc (Nat.le_refl _) (.cells #[.int .i64 left] 2))
          rcases inN_dec (lo := 0) (hi := 200000) _ (inN1 (x := left)) with ⟨hp, hi⟩ | ⟨hp, hi⟩
          · have HF : Hid (getS l = finS ⟨si, st, sc, .empty⟩ n [] (collP (l.drop n) left.toNat)) := Lib.hid (D1.out ⟨by trivial, hd, hm, hi⟩)
            rw [hi]
            clear D1 D2 hd hm hi
            obtain ⟨m, rfl⟩ := Int.eq_ofNat_of_zero_le hp.1
            rw [Int.toNat_natCast] at HF
            have hXB := hXb.lt
            generalize hWW : w12.alloc (.cells #[.int .i64 (m : Int)] 2) = w14 at *
            clear hWW
            go_wp2_with fail
            go_loopw [7, 11, 12] (fun p q al wr => ∃ (k' m' : Nat) (acc : List UInt8), p = .int .i64 k' ∧ q = .int .i64 m' ∧ OwnB wr w14.heap.size 5 al acc ∧ k' ≤ l.length ∧ acc.length + m' ≤ 200000 ∧ GetSt w wr N R v10 s8 ∧ SnapS wr X ⟨si, st, sc, .empty⟩ ∧ w14.heap.size ≤ wr.heap.size ∧ Hid (getS l = finS ⟨si, st, sc, .empty⟩ k' acc (collP (l.drop k') m'))) (fun _ q _ _ => (intOf q).toNat)
            case atStart => exact ⟨n, m, [], rfl, rfl, OwnB.nil _ _ _, by omega, by simp; omega, hS, hXb, Nat.le_refl _, HF⟩
            case round =>
              clear hS hXb HF hp ho hok hE0 hlt1 hRR
              obtain ⟨k', m', acc, rfl, rfl, hacc, hk', hlen, hS, hXb, hw14, HF⟩ := hrel
              by_cases hm0 : m' = 0
              · subst hm0
                have hconv := conv_str hacc.bytes
                have HF2 : Hid (getS l = (⟨si, st, sc, ⟨acc.toArray⟩⟩, k', 0)) := Lib.hid (by
                  rw [HF.out, coll_zero]
                  unfold finS
                  rw [if_neg (by simp)]
                  simp)
                have x0 := hXb.c0
                have x1 := hXb.c1
                have x2 := hXb.c2
                have x3 := hXb.c3
                have xf := hXb.fr
                have z0 := hS.z.c0
                have z1 := hS.z.c1
                have z2 := hS.z.c2
                have z3 := hS.z.c3
                have zf := hS.z.fr
                dsimp only at x0 x1 x2 x3 z0 z1 z2 z3
                have hXd := hXb.setD ⟨acc.toArray⟩
                have hSd := hS.put hRX (j := 3) (u := .string ⟨acc.toArray⟩)
                have hnb := hS.n
                have hnx : N ≠ X := by have := hS.nr; omega
                have HS := Lib.hid hSd
                clear HF hXd hSd hS hXb
                go_wp2_with fail
                have hz := ((((HS.out.z.setI si).setT st).setC sc).setD ⟨acc.toArray⟩)
                refine bodyPost_ret (results_cell3 rfl _ _ _ _ _ rfl (load_snap hz)) rfl ?_
                rw [HF2.out]
                subst hNN
                exact ⟨rfl, ((((HS.out.b.setCell hnb _).setCell hnb _).setCell hnb _).setCell hnb _)⟩
              · by_cases hkl : k' = l.length
                · subst hkl
                  have HF : Hid (getS l = (zeroS, 0, 2)) := Lib.hid (by
                    rw [HF.out, List.drop_length, coll_err hm0 (by decide)]
                    rfl)
                  have hnil : Bytes wr (.slice a0 0 (cap0 - l.length)) [] := Bytes.nil _ _ _ (by omega)
                  have hnil2 : Bytes wr (.slice (a0.map fun x => x.add l.length) 0 (cap0 - l.length)) [] := Bytes.nil _ _ _ (by omega)
                  have hok0 : openP [] = (0, [], 0, 2) := rfl
                  by_cases hck : cap0 = l.length
                  · have hnil3 : Bytes wr (.slice a0 0 0) [] := Bytes.nil _ _ _ (by omega)
                    subst hck
                    go_upto_region 13 with fail
                    go_wp2_with fail
                    refine (frame_open _ [] wr hnil3 (by simp)).mono ?_
                    rw [hok0]
                    rintro e w20 ⟨bv, rfl, hbv, hb20⟩
                    dsimp only at hbv ⊢
                    replace hS := hS.below hb20
                    replace hXb := hXb.below hb20
                    clear hb20 hacc hbv
                    have z0 := hS.z.c0
                    have z1 := hS.z.c1
                    have z2 := hS.z.c2
                    have z3 := hS.z.c3
                    have zf := hS.z.fr
                    dsimp only at z0 z1 z2 z3
                    have HS := Lib.hid hS
                    have hnb := hS.n
                    skip
                    clear hS hXb
                    go_wp2_with fail
                    have hz := ((((HS.out.z.setI 0).setT 0).setC ⟨#[]⟩).setD ⟨#[]⟩)
                    refine bodyPost_ret (results_cell3 rfl _ _ _ _ _ rfl (load_snap hz)) rfl ?_
                    rw [HF.out]
                    subst hNN
                    exact ⟨rfl, ((((HS.out.b.setCell hnb _).setCell hnb _).setCell hnb _).setCell hnb _)⟩
                  · go_upto_region 13 with fail
                    go_wp2_with fail
                    refine (frame_open _ [] wr hnil2 (by simp)).mono ?_
                    rw [hok0]
                    rintro e w20 ⟨bv, rfl, hbv, hb20⟩
                    dsimp only at hbv ⊢
                    replace hS := hS.below hb20
                    replace hXb := hXb.below hb20
                    clear hb20 hacc hbv
                    have z0 := hS.z.c0
                    have z1 := hS.z.c1
                    have z2 := hS.z.c2
                    have z3 := hS.z.c3
                    have zf := hS.z.fr
                    dsimp only at z0 z1 z2 z3
                    have HS := Lib.hid hS
                    have hnb := hS.n
                    skip
                    clear hS hXb
                    go_wp2_with fail
                    have hz := ((((HS.out.z.setI 0).setT 0).setC ⟨#[]⟩).setD ⟨#[]⟩)
                    refine bodyPost_ret (results_cell3 rfl _ _ _ _ _ rfl (load_snap hz)) rfl ?_
                    rw [HF.out]
                    subst hNN
                    exact ⟨rfl, ((((HS.out.b.setCell hnb _).setCell hnb _).setCell hnb _).setCell hnb _)⟩
                · have hsub := (HI.out.below hS.b rfl).sub k' (l.length - k') (by omega)
                  rw [List.take_of_length_le (by rw [List.length_drop]; omega), if_neg (by omega)] at hsub
                  have hE : (openP (l.drop k')).2.2.2 ≠ 0 → getS l = (zeroS, 0, (openP (l.drop k')).2.2.2) := fun h => by
                    rw [HF.out, coll_err hm0 h]
                    unfold finS
                    rw [if_pos h]
                  have hBd : (openP (l.drop k')).2.2.2 = 0 → ((openP (l.drop k')).1 ≠ 4 ∨ (openP (l.drop k')).2.1.length ≠ min m' 3000) → getS l = (zeroS, 0, 3) := fun h h2 => by
                    rw [HF.out, coll_bad hm0 h h2]
                    rfl
                  have hOk : (openP (l.drop k')).2.2.2 = 0 → (openP (l.drop k')).1 = 4 → (openP (l.drop k')).2.1.length = min m' 3000 → k' + (openP (l.drop k')).2.2.1 ≤ l.length ∧ getS l = finS ⟨si, st, sc, .empty⟩ (k' + (openP (l.drop k')).2.2.1) (acc ++ (openP (l.drop k')).2.1) (collP (l.drop (k' + (openP (l.drop k')).2.2.1)) (m' - min m' 3000)) := fun h h2 h3 => by
                    have hk := (openP_ok h).2.1
                    rw [List.length_drop] at hk
                    rw [HF.out, finS_step hm0 h h2 h3, List.drop_drop]
                    exact ⟨by omega, rfl⟩
                  have hlen2 : (l.drop k').length ≤ 1000000000 := by rw [List.length_drop]; omega
                  obtain ⟨qm, hqm⟩ : ∃ qm, qm = min m' 3000 := ⟨_, rfl⟩
                  rw [← hqm] at hBd hOk
                  have hmin : (if 3000 < (m' : Int) then 3000 else (m' : Int)) = (qm : Int) := by split <;> omega
                  have hq1 : 1 ≤ qm := by omega
                  have hq2 : qm ≤ m' := by omega
                  have hop := openP_ok (l := l.drop k')
                  generalize hr : openP (l.drop k') = r at *
                  obtain ⟨ok, ob, on, oe⟩ := r
                  dsimp only at hE hBd hOk hop
                  have HE := Lib.hid hE
                  have HBd := Lib.hid hBd
                  have HOk := Lib.hid hOk
                  have HR := Lib.hid hr
                  have HOP := Lib.hid hop
                  clear hE hBd hOk hr HF hqm hop
                  go_wp2_with fail
                  refine (frame_open _ _ wr hsub hlen2).mono ?_
                  rw [HR.out]
                  rintro e w20 ⟨bv, rfl, hbv, hb20⟩
                  dsimp only at hbv ⊢
                  clear hsub HR
                  replace hS := hS.below hb20
                  replace hXb := hXb.below hb20
                  replace hacc := hacc.below hb20
                  have hw20 := Nat.le_trans hw14 hb20.size
                  obtain ⟨ab2, cb2, rfl, -⟩ := id hbv
                  clear hb20
                  by_cases hoe : oe = 0
                  · subst hoe
                    by_cases hk4 : ok = 4
                    · subst hk4
                      by_cases hlq : ob.length = qm
                      · obtain ⟨o1, HF1⟩ := HOk.out rfl rfl hlq
                        have HF := Lib.hid HF1
                        have hlq' : ((ob.length : Int) != (qm : Int)) = false := by simp [hlq]
                        have HLQ := Lib.hid hlq
                        clear HE HBd HOk HF1 hlq
                        have hsum : acc.length + ob.length ≤ 200000 := by rw [HLQ.out]; omega
                        have hwr := hw20
                        go_wp2_with (at_builtin; refine wpList_append_bytes 46 w14.heap.size 5 Try.underlying46 info_u8 rfl _ _ rfl hacc hbv rfl rfl (by omega) hw20 ?_)
                        intro v7 w7 ho7 hg7 hk7
                        have hkp := Keeps.of_grown hg7
                        have hF : ∀ x ∈ (Value.ownBlock _).toList, w14.heap.size ≤ x := fun x hx => (hacc.lt x (by simpa using hx)).1
                        replace hS := hS.keeps hkp (fun x hx => by have := hF x hx; omega)
                        replace hXb := hXb.keeps hkp (fun hx => by have := hF X hx; omega)
                        have hw7 := Nat.le_trans hw20 hg7.size
                        clear hg7 hk7 hkp hF hacc hbv
                        go_wp2_with fail
                        go_roundw
                        case rel => exact ⟨k' + on, m' - qm, acc ++ ob, by go_num, by rw [HLQ.out]; go_num, ho7, o1, by rw [List.length_append, HLQ.out]; omega, hS, hXb, hw7, HF⟩
                        case measure => rw [HLQ.out]; simp [intOf]; omega
                      · have hlq' : ((ob.length : Int) != (qm : Int)) = true := bne_iff_ne.2 (by omega)
                        have HF := Lib.hid (HBd.out rfl (.inr hlq))
                        clear HE HBd HOk hacc hbv
                        have z0 := hS.z.c0
                        have z1 := hS.z.c1
                        have z2 := hS.z.c2
                        have z3 := hS.z.c3
                        have zf := hS.z.fr
                        dsimp only at z0 z1 z2 z3
                        have HS := Lib.hid hS
                        have hnb := hS.n
                        skip
                        clear hS hXb
                        go_wp2_with fail
                        have hz := ((((HS.out.z.setI 0).setT 0).setC ⟨#[]⟩).setD ⟨#[]⟩)
                        refine bodyPost_ret (results_cell3 rfl _ _ _ _ _ rfl (load_snap hz)) rfl ?_
                        rw [HF.out]
                        subst hNN
                        exact ⟨rfl, ((((HS.out.b.setCell hnb _).setCell hnb _).setCell hnb _).setCell hnb _)⟩
                    · have tk4 : (ok != 4) = true := bne_iff_ne.2 hk4
                      have HF := Lib.hid (HBd.out rfl (.inl hk4))
                      clear HE HBd HOk hacc hbv
                      have z0 := hS.z.c0
                      have z1 := hS.z.c1
                      have z2 := hS.z.c2
                      have z3 := hS.z.c3
                      have zf := hS.z.fr
                      dsimp only at z0 z1 z2 z3
                      have HS := Lib.hid hS
                      have hnb := hS.n
                      skip
                      clear hS hXb
                      go_wp2_with fail
                      have hz := ((((HS.out.z.setI 0).setT 0).setC ⟨#[]⟩).setD ⟨#[]⟩)
                      refine bodyPost_ret (results_cell3 rfl _ _ _ _ _ rfl (load_snap hz)) rfl ?_
                      rw [HF.out]
                      subst hNN
                      exact ⟨rfl, ((((HS.out.b.setCell hnb _).setCell hnb _).setCell hnb _).setCell hnb _)⟩
                  · have te : ((oe : Int) != 0) = true := bne_iff_ne.2 (by omega)
                    have HF := Lib.hid (HE.out hoe)
                    clear HE HBd HOk hacc hbv
                    have z0 := hS.z.c0
                    have z1 := hS.z.c1
                    have z2 := hS.z.c2
                    have z3 := hS.z.c3
                    have zf := hS.z.fr
                    dsimp only at z0 z1 z2 z3
                    have HS := Lib.hid hS
                    have hnb := hS.n
                    skip
                    clear hS hXb
                    go_wp2_with fail
                    have hz := ((((HS.out.z.setI 0).setT 0).setC ⟨#[]⟩).setD ⟨#[]⟩)
                    refine bodyPost_ret (results_cell3 rfl _ _ _ _ _ rfl (load_snap hz)) rfl ?_
                    rw [HF.out]
                    subst hNN
                    exact ⟨rfl, ((((HS.out.b.setCell hnb _).setCell hnb _).setCell hnb _).setCell hnb _)⟩
          · rw [hi]
            have z0 := hS.z.c0
            have z1 := hS.z.c1
            have z2 := hS.z.c2
            have z3 := hS.z.c3
            have zf := hS.z.fr
            dsimp only at z0 z1 z2 z3
            have HS := Lib.hid hS
            have hnb := hS.n
            have HF : Hid (getS l = (zeroS, 0, 3)) := Lib.hid (D2.out (fun h => by rw [hi] at h; exact absurd h.2.2.2 (by decide)))
            clear hS hXb
            go_wp2_with fail
            have hz := ((((HS.out.z.setI 0).setT 0).setC ⟨#[]⟩).setD ⟨#[]⟩)
            refine bodyPost_ret (results_cell3 rfl _ _ _ _ _ rfl (load_snap hz)) rfl ?_
            rw [HF.out]
            subst hNN
            exact ⟨rfl, ((((HS.out.b.setCell hnb _).setCell hnb _).setCell hnb _).setCell hnb _)⟩
    · have tk : (k != 3) = true := bne_iff_ne.2 hk3
      have z0 := hS.z.c0
      have z1 := hS.z.c1
      have z2 := hS.z.c2
      have z3 := hS.z.c3
      have zf := hS.z.fr
      dsimp only at z0 z1 z2 z3
      have HS := Lib.hid hS
      have hnb := hS.n
      have HF : Hid (getS l = (zeroS, 0, 3)) := Lib.hid (D2.out (fun h => hk3 h.1))
      clear hS hXb
      go_wp2_with fail
      have hz := ((((HS.out.z.setI 0).setT 0).setC ⟨#[]⟩).setD ⟨#[]⟩)
      refine bodyPost_ret (results_cell3 rfl _ _ _ _ _ rfl (load_snap hz)) rfl ?_
      rw [HF.out]
      subst hNN
      exact ⟨rfl, ((((HS.out.b.setCell hnb _).setCell hnb _).setCell hnb _).setCell hnb _)⟩
  · have te : ((err : Int) != 0) = true := bne_iff_ne.2 (by omega)
    have HH := Lib.hid (d0 he)
    have fr0 := hR0.fr
    have z0 := hR0.c0
    have z1 := hR0.c1
    have z2 := hR0.c2
    have z3 := hR0.c3
    clear d0 d1 d2 hok he
    go_wp2_with fail
    have hz := ((((hR0.setI 0).setT 0).setC ⟨#[]⟩).setD ⟨#[]⟩)
    refine bodyPost_ret (results_cell3 rfl _ _ _ _ _ rfl (load_snap hz)) rfl ?_
    rw [HH.out]
    exact ⟨rfl, ((((hbw.setCell (Nat.le_refl _) _).setCell (Nat.le_refl _) _).setCell (Nat.le_refl _) _).setCell (Nat.le_refl _) _)⟩
end Go.Proofs.Ytcogmohepcifiaa
