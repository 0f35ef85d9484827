/-
  No claim by itself: how the program reads a record. No condition.
-/
import Derived.Test.YtcogmohepcifiaaP14
namespace Go.Proofs.Ytcogmohepcifiaa
open Go.ChangeShapes Go.WideShapes Go.ChangeAt Go.RowKit

theorem RecS.keeps {w w' : World} {b : Nat} {r : Rec} {F : List Nat} (h : RecS w b r) (hk : Keeps F w w') (hF : b ∉ F) : RecS w' b r :=
  ⟨Nat.lt_of_lt_of_le h.lt hk.size, (hk.cell (p := ⟨b, 0, none⟩) h.lt hF).trans h.c0, (hk.cell (p := ⟨b, 1, none⟩) h.lt hF).trans h.c1, (hk.cell (p := ⟨b, 2, none⟩) h.lt hF).trans h.c2, (hk.cell (p := ⟨b, 3, none⟩) h.lt hF).trans h.c3,
    (hk.cell (p := ⟨b, 4, none⟩) h.lt hF).trans h.c4, (hk.cell (p := ⟨b, 5, none⟩) h.lt hF).trans h.c5, (hk.cell (p := ⟨b, 6, none⟩) h.lt hF).trans h.c6, fun j => (hk.frozen (p := ⟨b, j, none⟩) h.lt hF).trans (h.fr j)⟩
theorem setCell_size (w : World) (p : Addr) (u : Value) : (w.setCell p u).heap.size = w.heap.size := by simp [World.setCell]
theorem RecS.setH {w : World} {b : Nat} {r : Rec} (h : RecS w b r) (x : Bool) : RecS (w.setCell ⟨b, 0, none⟩ (.bool x)) b { r with hd := x } :=
  ⟨by rw [setCell_size]; exact h.lt, World.cell?_setCell_same _ _ _ h.c0, (World.cell?_setCell_other _ _ _ _ (by simp)).trans h.c1, (World.cell?_setCell_other _ _ _ _ (by simp)).trans h.c2, (World.cell?_setCell_other _ _ _ _ (by simp)).trans h.c3, (World.cell?_setCell_other _ _ _ _ (by simp)).trans h.c4, (World.cell?_setCell_other _ _ _ _ (by simp)).trans h.c5, (World.cell?_setCell_other _ _ _ _ (by simp)).trans h.c6, fun j => by rw [World.frozen?_setCell]; exact h.fr j⟩
theorem RecS.setT {w : World} {b : Nat} {r : Rec} (h : RecS w b r) (x : Int) : RecS (w.setCell ⟨b, 1, none⟩ (.int .i64 x)) b { r with t := x } :=
  ⟨by rw [setCell_size]; exact h.lt, (World.cell?_setCell_other _ _ _ _ (by simp)).trans h.c0, World.cell?_setCell_same _ _ _ h.c1, (World.cell?_setCell_other _ _ _ _ (by simp)).trans h.c2, (World.cell?_setCell_other _ _ _ _ (by simp)).trans h.c3, (World.cell?_setCell_other _ _ _ _ (by simp)).trans h.c4, (World.cell?_setCell_other _ _ _ _ (by simp)).trans h.c5, (World.cell?_setCell_other _ _ _ _ (by simp)).trans h.c6, fun j => by rw [World.frozen?_setCell]; exact h.fr j⟩
theorem RecS.setV {w : World} {b : Nat} {r : Rec} (h : RecS w b r) (x : Int) : RecS (w.setCell ⟨b, 2, none⟩ (.int .i64 x)) b { r with v := x } :=
  ⟨by rw [setCell_size]; exact h.lt, (World.cell?_setCell_other _ _ _ _ (by simp)).trans h.c0, (World.cell?_setCell_other _ _ _ _ (by simp)).trans h.c1, World.cell?_setCell_same _ _ _ h.c2, (World.cell?_setCell_other _ _ _ _ (by simp)).trans h.c3, (World.cell?_setCell_other _ _ _ _ (by simp)).trans h.c4, (World.cell?_setCell_other _ _ _ _ (by simp)).trans h.c5, (World.cell?_setCell_other _ _ _ _ (by simp)).trans h.c6, fun j => by rw [World.frozen?_setCell]; exact h.fr j⟩
theorem RecS.setI {w : World} {b : Nat} {r : Rec} (h : RecS w b r) (x : Int) : RecS (w.setCell ⟨b, 3, none⟩ (.int .i64 x)) b { r with e := { r.e with i := x } } :=
  ⟨by rw [setCell_size]; exact h.lt, (World.cell?_setCell_other _ _ _ _ (by simp)).trans h.c0, (World.cell?_setCell_other _ _ _ _ (by simp)).trans h.c1, (World.cell?_setCell_other _ _ _ _ (by simp)).trans h.c2, World.cell?_setCell_same _ _ _ h.c3, (World.cell?_setCell_other _ _ _ _ (by simp)).trans h.c4, (World.cell?_setCell_other _ _ _ _ (by simp)).trans h.c5, (World.cell?_setCell_other _ _ _ _ (by simp)).trans h.c6, fun j => by rw [World.frozen?_setCell]; exact h.fr j⟩
theorem RecS.setTT {w : World} {b : Nat} {r : Rec} (h : RecS w b r) (x : Int) : RecS (w.setCell ⟨b, 4, none⟩ (.int .i64 x)) b { r with e := { r.e with t := x } } :=
  ⟨by rw [setCell_size]; exact h.lt, (World.cell?_setCell_other _ _ _ _ (by simp)).trans h.c0, (World.cell?_setCell_other _ _ _ _ (by simp)).trans h.c1, (World.cell?_setCell_other _ _ _ _ (by simp)).trans h.c2, (World.cell?_setCell_other _ _ _ _ (by simp)).trans h.c3, World.cell?_setCell_same _ _ _ h.c4, (World.cell?_setCell_other _ _ _ _ (by simp)).trans h.c5, (World.cell?_setCell_other _ _ _ _ (by simp)).trans h.c6, fun j => by rw [World.frozen?_setCell]; exact h.fr j⟩
theorem RecS.setK {w : World} {b : Nat} {r : Rec} (h : RecS w b r) (x : Int) : RecS (w.setCell ⟨b, 5, none⟩ (.int .i64 x)) b { r with e := { r.e with k := x } } :=
  ⟨by rw [setCell_size]; exact h.lt, (World.cell?_setCell_other _ _ _ _ (by simp)).trans h.c0, (World.cell?_setCell_other _ _ _ _ (by simp)).trans h.c1, (World.cell?_setCell_other _ _ _ _ (by simp)).trans h.c2, (World.cell?_setCell_other _ _ _ _ (by simp)).trans h.c3, (World.cell?_setCell_other _ _ _ _ (by simp)).trans h.c4, World.cell?_setCell_same _ _ _ h.c5, (World.cell?_setCell_other _ _ _ _ (by simp)).trans h.c6, fun j => by rw [World.frozen?_setCell]; exact h.fr j⟩
theorem RecS.setD {w : World} {b : Nat} {r : Rec} (h : RecS w b r) (x : ByteArray) : RecS (w.setCell ⟨b, 6, none⟩ (.string x)) b { r with e := { r.e with d := x } } :=
  ⟨by rw [setCell_size]; exact h.lt, (World.cell?_setCell_other _ _ _ _ (by simp)).trans h.c0, (World.cell?_setCell_other _ _ _ _ (by simp)).trans h.c1, (World.cell?_setCell_other _ _ _ _ (by simp)).trans h.c2, (World.cell?_setCell_other _ _ _ _ (by simp)).trans h.c3, (World.cell?_setCell_other _ _ _ _ (by simp)).trans h.c4, (World.cell?_setCell_other _ _ _ _ (by simp)).trans h.c5, World.cell?_setCell_same _ _ _ h.c6, fun j => by rw [World.frozen?_setCell]; exact h.fr j⟩

theorem results_cell3 {fn : Func} {p u x : Tmp} {ty : TypeId} (h : fn.results = #[.cell p ty, .tmp u, .tmp x]) (tmps : Array Value) (P : Program) (w : World) (a : Addr) (v : Value)
    (hp : tmps.getD p undef = .pointer (some a)) (hl : (loadVar ty a).run P w = .ok v w) : (results fn tmps).run P w = .ok (.tuple #[v, tmps.getD u undef, tmps.getD x undef]) w := by
  simp only [results, h]
  simp only [Array.getD_eq_getD_getElem?] at hp
  simp [Result.andThen, hp, asAddr, hl]
theorem load_rec {w : World} {b : Nat} {r : Rec} (h : RecS w b r) : (loadVar 89 ⟨b, 0, none⟩).run Try.prog w = .ok (recAgg r) w := by
  have c0 := h.c0
  have c1 := h.c1
  have c2 := h.c2
  have c3 := h.c3
  have c4 := h.c4
  have c5 := h.c5
  have c6 := h.c6
  unfold recAgg loadVar
  go_simp

theorem bytes_block {w : World} {v : Value} {l : List UInt8} (h : Bytes w v l) (hl : l ≠ []) : ∀ ad n c, v = .slice (some ad) n c → ad.block < w.heap.size := by
  intro ad n c hv
  obtain ⟨a, cap, hv2, h1, h2, h3⟩ := h
  obtain ⟨b, off, ha, hc⟩ := h3 hl
  rw [hv2] at hv
  simp only [Value.slice.injEq] at hv
  obtain ⟨hv, -, -⟩ := hv
  rw [ha] at hv
  cases hv
  have hcj := hc 0 (by cases l with | nil => exact absurd rfl hl | cons _ _ => simp)
  rcases Nat.lt_or_ge b w.heap.size with h | h
  · exact h
  · exfalso
    unfold World.cell? at hcj
    rw [Array.getElem?_eq_none h] at hcj
    simp at hcj
theorem rdS_box {w : World} {v : Value} {l : List UInt8} (h : Bytes w v l) (T : TypeId) : RdS (w.alloc (.cells #[v, .bool false] T)) w.heap.size v (l, false) :=
  ⟨by simp, World.cell?_alloc_new _ _ _ _, World.cell?_alloc_new _ _ _ _, fun j => World.frozen?_alloc_new _ _ _ _, h.alloc _, bytes_block h⟩

/-- Half way: what was there is as it was; the result's block, the reader's, the record's. -/
structure DecSt (w0 w : World) (N R X : Nat) (v : Value) (s : List UInt8 × Bool) (r : Rec) : Prop where
  b : Below w0.heap.size w0 w
  n : w0.heap.size ≤ N
  nr : N < R
  rx : R < X
  z : RecS w N ⟨false, 0, 0, ⟨0, 0, 0, .empty⟩⟩
  rd : RdS w R v s
  x : RecS w X r
theorem DecSt.call {w0 w w' : World} {N R X : Nat} {v v' : Value} {s s' : List UInt8 × Bool} {r : Rec} (h : DecSt w0 w N R X v s r) (hr : RdS w' R v' s') (hk : Keeps [R] w w') : DecSt w0 w' N R X v' s' r := by
  have h1 := h.n
  have h2 := h.nr
  have h3 := h.rx
  exact ⟨h.b.trans (hk.below (fun x hx => by simp at hx; omega) h.b.size), h.n, h.nr, h.rx, h.z.keeps hk (by simp; omega), hr, h.x.keeps hk (by simp; omega)⟩
theorem DecSt.put {w0 w : World} {N R X : Nat} {v : Value} {s : List UInt8 × Bool} {r r' : Rec} (h : DecSt w0 w N R X v s r) {j : Nat} {u : Value} (hx : RecS (w.setCell ⟨X, j, none⟩ u) X r') : DecSt w0 (w.setCell ⟨X, j, none⟩ u) N R X v s r' := by
  have h1 := h.n
  have h2 := h.nr
  have h3 := h.rx
  have hk : Keeps [X] w (w.setCell ⟨X, j, none⟩ u) := (Keeps.refl [X] w).setCell (.inl (by simp)) _
  exact ⟨h.b.setCell (by show w0.heap.size ≤ X; omega) _, h.n, h.nr, h.rx, h.z.keeps hk (by simp; omega), h.rd.keeps hk (by simp; omega), hx⟩

/-- The results of Decode. -/
def decV (r : Rec × Nat × Nat) : Value := .tuple #[recAgg r.1, .int .i64 (r.2.1 : Int), .int .i64 (r.2.2 : Int)]

set_option maxRecDepth 100000 in
set_option maxHeartbeats 2000000 in
theorem wal_decode (v : Value) (l : List UInt8) (w : World) (h : Bytes w v l) (hl : l.length ≤ 1000000000) :
    Calls Try.prog 56 #[v] w fun e w' => e = .returned (decV (decR l)) ∧ Below w.heap.size w w' := by
  have hb0 := (Below.refl w.heap.size w).alloc (Nat.le_refl _) (.cells #[.bool false, .int .i64 0, .int .i64 0, .int .i64 0, .int .i64 0, .int .i64 0, .string ⟨#[]⟩] 89)
  have hc0 := recS_box w zeroR 89
  have hB := h.below hb0 rfl
  unfold zeroR zeroE at hc0
  dsimp only at hc0
  clear h
  have hD : ∀ k body n err, openP l = (k, body, n, err) → (err ≠ 0 → decR l = (zeroR, 0, err)) ∧ (err = 0 → k = 1 → decR l = finP (hardP body) n) ∧ (err = 0 → k = 2 → decR l = finP (entP body) n) ∧ (err = 0 → k ≠ 1 → k ≠ 2 → decR l = (zeroR, 0, 3)) := by
    intro k body n err ho
    unfold decR
    rw [ho]
    refine ⟨fun h => by rw [if_pos h], fun h h1 => by rw [if_neg (by simpa using h), if_pos h1], fun h h2 => by rw [if_neg (by simpa using h), if_neg (by simp only; omega), if_pos h2], fun h h1 h2 => by rw [if_neg (by simpa using h), if_neg h1, if_neg h2]⟩
  have HD := Lib.hid hD
  clear hD
  go_enter Try.func56, Try.ntmps56
  go_wp2_with fail
  refine (frame_open _ l _ hB hl).mono ?_
  have hok := openP_ok (l := l)
  obtain ⟨k, body, n, err, ho⟩ : ∃ k body n err, openP l = (k, body, n, err) := ⟨_, _, _, _, rfl⟩
  obtain ⟨d0, d1, d2, d3⟩ := HD.out k body n err ho
  rw [ho] at hok ⊢
  rintro e w1 ⟨bv, rfl, hbv, hb1⟩
  dsimp only at hbv hok ⊢
  have hbw := hb0.trans (hb1.mono hb0.size)
  have hR0 := hc0.below hb1
  have fr0 := hR0.fr
  have z0 := hR0.c0
  have z1 := hR0.c1
  have z2 := hR0.c2
  have z3 := hR0.c3
  have z4 := hR0.c4
  have z5 := hR0.c5
  have z6 := hR0.c6
  dsimp only at z0 z1 z2 z3 z4 z5 z6
  clear hb0 hb1 hc0 hB HD
  by_cases he : err = 0
  · subst he
    have hbv2 := hbv
    obtain ⟨ab, cb, rfl, -⟩ := hbv2
    have hRd0 := rdS_box hbv 110
    have hbA := hbw.alloc hbw.size (.cells #[.slice ab body.length cb, .bool false] 110)
    have hbw0 := hbw.size
    by_cases hk1 : k = 1
    · subst hk1
      have HH := Lib.hid (d1 rfl rfl)
      have hX0 := recS_box (w1.alloc (.cells #[.slice ab body.length cb, .bool false] 110)) ⟨true, 0, 0, zeroE⟩ 89
      have hbX := hbA.alloc hbA.size (.cells #[.bool true, .int .i64 0, .int .i64 0, .int .i64 0, .int .i64 0, .int .i64 0, .string .empty] 89)
      have hRd1 := hRd0.keeps (F := []) (Keeps.of_below ((Below.refl _ _).alloc (Nat.le_refl _) (.cells #[.bool true, .int .i64 0, .int .i64 0, .int .i64 0, .int .i64 0, .int .i64 0, .string .empty] 89))) (by simp)
      have hZ1 := (hR0.below ((Below.refl _ _).alloc (Nat.le_refl _) (.cells #[.slice ab body.length cb, .bool false] 110))).below ((Below.refl _ _).alloc (Nat.le_refl _) (.cells #[.bool true, .int .i64 0, .int .i64 0, .int .i64 0, .int .i64 0, .int .i64 0, .string .empty] 89))
      rw [show (w1.alloc (.cells #[.slice ab body.length cb, .bool false] 110)).heap.size = w1.heap.size + 1 from by simp] at hX0
      unfold zeroE at hX0
      have hE0 : (⟨#[]⟩ : ByteArray) = .empty := rfl
      clear d0 d1 d2 d3 hRd0 hbA
      go_upto_region 8 with fail
      have hS : DecSt w _ w.heap.size w1.heap.size (w1.heap.size + 1) _ _ _ := ⟨hbX, Nat.le_refl _, hR0.lt, Nat.lt_succ_self _, hZ1, hRd1, hX0⟩
      clear hbX hR0 hZ1 hRd1 hX0 fr0 z0 z1 z2 z3 z4 z5 z6 hbv
      generalize ((w1.alloc _).alloc _) = w5 at *
      generalize hRR : w1.heap.size = R at *
      generalize hNN : w.heap.size = N at *
      go_wp2_with fail
      refine (rd_num hS.rd).mono ?_
      rintro e w6 ⟨rfl, ⟨v6, hr6⟩, hk6⟩
      have hS := hS.call hr6 hk6
      have c1 := hS.x.c1
      have fr := hS.x.fr
      dsimp only at c1
      go_wp2_with fail
      have hS := hS.put (hS.x.setT (rdN (body, false)).1)
      clear c1 fr hr6 hk6
      refine (rd_num hS.rd).mono ?_
      rintro e w7 ⟨rfl, ⟨v7, hr7⟩, hk7⟩
      have hS := hS.call hr7 hk7
      have c2 := hS.x.c2
      have fr := hS.x.fr
      dsimp only at c2
      go_upto_region 15 with fail
      have hS : DecSt w _ N R (R + 1) v7 (hardP body).2 (hardP body).1 := hS.put (hS.x.setV _)
      clear c2 fr hr7 hk7
      obtain ⟨⟨⟨rh, rt, rv, ⟨ri, rt', rk, rd⟩⟩, s8⟩, hP⟩ : ∃ P, P = hardP body := ⟨_, rfl⟩
      rw [← hP] at hS HH
      dsimp only at hS HH
      have hNx := hS.nr
      go_wp2_with fail
      refine (rd_done hS.rd).mono ?_
      rintro e w8 ⟨rfl, rfl⟩
      have z0 := hS.z.c0
      have z1 := hS.z.c1
      have z2 := hS.z.c2
      have z3 := hS.z.c3
      have z4 := hS.z.c4
      have z5 := hS.z.c5
      have z6 := hS.z.c6
      have zf := hS.z.fr
      have y0 := hS.x.c0
      have y1 := hS.x.c1
      have y2 := hS.x.c2
      have y3 := hS.x.c3
      have y4 := hS.x.c4
      have y5 := hS.x.c5
      have y6 := hS.x.c6
      dsimp only at z0 z1 z2 z3 z4 z5 z6 y0 y1 y2 y3 y4 y5 y6
      have HS := Lib.hid hS
      have hnb := hS.n
      clear hS
      cases hd : rdD s8 with
      | false =>
        have HF : Hid (decR l = (zeroR, 0, 3)) := Lib.hid (by rw [HH.out]; unfold finP; rw [hd]; rfl)
        clear HH hd
        go_wp2_with fail
        have hz := (((((((HS.out.z.setH false).setT 0).setV 0).setI 0).setTT 0).setK 0).setD ⟨#[]⟩)
        refine bodyPost_ret (results_cell3 rfl _ _ _ _ _ rfl (load_rec hz)) rfl ?_
        rw [HF.out]
        exact ⟨rfl, (((((((HS.out.b.setCell hnb _).setCell hnb _).setCell hnb _).setCell hnb _).setCell hnb _).setCell hnb _).setCell hnb _)⟩
      | true =>
        go_wp2_with fail
        refine (wal_may ⟨rh, rt, rv, ⟨ri, rt', rk, rd⟩⟩ _).mono ?_
        rintro e w9 ⟨rfl, hb9⟩
        have hz9 := HS.out.z.below hb9
        have hb := HS.out.b.trans (hb9.mono HS.out.b.size)
        have hx9 := HS.out.x.below hb9
        clear z0 z1 z2 z3 z4 z5 z6 zf y0 y1 y2 y3 y4 y5 y6 HS hb9
        have z0 := hz9.c0
        have z1 := hz9.c1
        have z2 := hz9.c2
        have z3 := hz9.c3
        have z4 := hz9.c4
        have z5 := hz9.c5
        have z6 := hz9.c6
        have zf := hz9.fr
        have y0 := hx9.c0
        have y1 := hx9.c1
        have y2 := hx9.c2
        have y3 := hx9.c3
        have y4 := hx9.c4
        have y5 := hx9.c5
        have y6 := hx9.c6
        dsimp only at z0 z1 z2 z3 z4 z5 z6 y0 y1 y2 y3 y4 y5 y6
        cases hm : mayR ⟨rh, rt, rv, ⟨ri, rt', rk, rd⟩⟩ with
        | false =>
          have HF : Hid (decR l = (zeroR, 0, 3)) := Lib.hid (by rw [HH.out]; unfold finP; rw [hd, hm]; rfl)
          clear HH hd hm
          go_wp2_with fail
          have hz := (((((((hz9.setH false).setT 0).setV 0).setI 0).setTT 0).setK 0).setD ⟨#[]⟩)
          refine bodyPost_ret (results_cell3 rfl _ _ _ _ _ rfl (load_rec hz)) rfl ?_
          rw [HF.out]
          exact ⟨rfl, (((((((hb.setCell hnb _).setCell hnb _).setCell hnb _).setCell hnb _).setCell hnb _).setCell hnb _).setCell hnb _)⟩
        | true =>
          have HF : Hid (decR l = (⟨rh, rt, rv, ⟨ri, rt', rk, rd⟩⟩, n, 0)) := Lib.hid (by rw [HH.out]; unfold finP; rw [hd, hm]; rfl)
          clear HH hd hm
          go_wp2_with fail
          have hz := (((((((hz9.setH rh).setT rt).setV rv).setI ri).setTT rt').setK rk).setD rd)
          refine bodyPost_ret (results_cell3 rfl _ _ _ _ _ rfl (load_rec hz)) rfl ?_
          rw [HF.out]
          exact ⟨rfl, (((((((hb.setCell hnb _).setCell hnb _).setCell hnb _).setCell hnb _).setCell hnb _).setCell hnb _).setCell hnb _)⟩
    · by_cases hk2 : k = 2
      · subst hk2
        have HH := Lib.hid (d2 rfl rfl)
        have hX0 := recS_box (w1.alloc (.cells #[.slice ab body.length cb, .bool false] 110)) ⟨false, 0, 0, zeroE⟩ 89
        have hbX := hbA.alloc hbA.size (.cells #[.bool false, .int .i64 0, .int .i64 0, .int .i64 0, .int .i64 0, .int .i64 0, .string .empty] 89)
        have hRd1 := hRd0.keeps (F := []) (Keeps.of_below ((Below.refl _ _).alloc (Nat.le_refl _) (.cells #[.bool false, .int .i64 0, .int .i64 0, .int .i64 0, .int .i64 0, .int .i64 0, .string .empty] 89))) (by simp)
        have hZ1 := (hR0.below ((Below.refl _ _).alloc (Nat.le_refl _) (.cells #[.slice ab body.length cb, .bool false] 110))).below ((Below.refl _ _).alloc (Nat.le_refl _) (.cells #[.bool false, .int .i64 0, .int .i64 0, .int .i64 0, .int .i64 0, .int .i64 0, .string .empty] 89))
        rw [show (w1.alloc (.cells #[.slice ab body.length cb, .bool false] 110)).heap.size = w1.heap.size + 1 from by simp] at hX0
        unfold zeroE at hX0
        have hE0 : (⟨#[]⟩ : ByteArray) = .empty := rfl
        clear d0 d1 d2 d3 hRd0 hbA
        go_upto_region 11 with fail
        have hS : DecSt w _ w.heap.size w1.heap.size (w1.heap.size + 1) _ _ _ := ⟨hbX, Nat.le_refl _, hR0.lt, Nat.lt_succ_self _, hZ1, hRd1, hX0⟩
        clear hbX hR0 hZ1 hRd1 hX0 fr0 z0 z1 z2 z3 z4 z5 z6 hbv
        generalize ((w1.alloc _).alloc _) = w5 at *
        generalize hRR : w1.heap.size = R at *
        generalize hNN : w.heap.size = N at *
        go_wp2_with fail
        refine (rd_num hS.rd).mono ?_
        rintro e w6 ⟨rfl, ⟨v6, hr6⟩, hk6⟩
        have hS := hS.call hr6 hk6
        clear hr6 hk6
        have c1 := hS.x.c3
        have fr := hS.x.fr
        dsimp only at c1
        go_wp2_with fail
        have hS := hS.put (hS.x.setI (rdN (body, false)).1)
        clear c1 fr
        refine (rd_num hS.rd).mono ?_
        rintro e w7 ⟨rfl, ⟨v7, hr7⟩, hk7⟩
        have hS := hS.call hr7 hk7
        clear hr7 hk7
        have c1 := hS.x.c4
        have fr := hS.x.fr
        dsimp only at c1
        go_wp2_with fail
        have hS := hS.put (hS.x.setTT (rdN (rdN (body, false)).2).1)
        clear c1 fr
        refine (rd_num hS.rd).mono ?_
        rintro e w8 ⟨rfl, ⟨v8, hr8⟩, hk8⟩
        have hS := hS.call hr8 hk8
        clear hr8 hk8
        have c1 := hS.x.c5
        have fr := hS.x.fr
        dsimp only at c1
        go_wp2_with fail
        have hS := hS.put (hS.x.setK (rdN (rdN (rdN (body, false)).2).2).1)
        clear c1 fr
        refine (rd_text hS.rd).mono ?_
        rintro e w9 ⟨rfl, ⟨v9, hr9⟩, hk9⟩
        have hS := hS.call hr9 hk9
        clear hr9 hk9
        have c1 := hS.x.c6
        have fr := hS.x.fr
        dsimp only at c1
        go_upto_region 15 with fail
        have hS : DecSt w _ N R (R + 1) v9 (entP body).2 (entP body).1 := hS.put (hS.x.setD _)
        clear c1 fr
        obtain ⟨⟨⟨rh, rt, rv, ⟨ri, rt', rk, rd⟩⟩, s8⟩, hP⟩ : ∃ P, P = entP body := ⟨_, rfl⟩
        rw [← hP] at hS HH
        dsimp only at hS HH
        have hNx := hS.nr
        go_wp2_with fail
        refine (rd_done hS.rd).mono ?_
        rintro e w8 ⟨rfl, rfl⟩
        have z0 := hS.z.c0
        have z1 := hS.z.c1
        have z2 := hS.z.c2
        have z3 := hS.z.c3
        have z4 := hS.z.c4
        have z5 := hS.z.c5
        have z6 := hS.z.c6
        have zf := hS.z.fr
        have y0 := hS.x.c0
        have y1 := hS.x.c1
        have y2 := hS.x.c2
        have y3 := hS.x.c3
        have y4 := hS.x.c4
        have y5 := hS.x.c5
        have y6 := hS.x.c6
        dsimp only at z0 z1 z2 z3 z4 z5 z6 y0 y1 y2 y3 y4 y5 y6
        have HS := Lib.hid hS
        have hnb := hS.n
        clear hS
        cases hd : rdD s8 with
        | false =>
          have HF : Hid (decR l = (zeroR, 0, 3)) := Lib.hid (by rw [HH.out]; unfold finP; rw [hd]; rfl)
          clear HH hd
          go_wp2_with fail
          have hz := (((((((HS.out.z.setH false).setT 0).setV 0).setI 0).setTT 0).setK 0).setD ⟨#[]⟩)
          refine bodyPost_ret (results_cell3 rfl _ _ _ _ _ rfl (load_rec hz)) rfl ?_
          rw [HF.out]
          exact ⟨rfl, (((((((HS.out.b.setCell hnb _).setCell hnb _).setCell hnb _).setCell hnb _).setCell hnb _).setCell hnb _).setCell hnb _)⟩
        | true =>
          go_wp2_with fail
          refine (wal_may ⟨rh, rt, rv, ⟨ri, rt', rk, rd⟩⟩ _).mono ?_
          rintro e w9 ⟨rfl, hb9⟩
          have hz9 := HS.out.z.below hb9
          have hb := HS.out.b.trans (hb9.mono HS.out.b.size)
          have hx9 := HS.out.x.below hb9
          clear z0 z1 z2 z3 z4 z5 z6 zf y0 y1 y2 y3 y4 y5 y6 HS hb9
          have z0 := hz9.c0
          have z1 := hz9.c1
          have z2 := hz9.c2
          have z3 := hz9.c3
          have z4 := hz9.c4
          have z5 := hz9.c5
          have z6 := hz9.c6
          have zf := hz9.fr
          have y0 := hx9.c0
          have y1 := hx9.c1
          have y2 := hx9.c2
          have y3 := hx9.c3
          have y4 := hx9.c4
          have y5 := hx9.c5
          have y6 := hx9.c6
          dsimp only at z0 z1 z2 z3 z4 z5 z6 y0 y1 y2 y3 y4 y5 y6
          cases hm : mayR ⟨rh, rt, rv, ⟨ri, rt', rk, rd⟩⟩ with
          | false =>
            have HF : Hid (decR l = (zeroR, 0, 3)) := Lib.hid (by rw [HH.out]; unfold finP; rw [hd, hm]; rfl)
            clear HH hd hm
            go_wp2_with fail
            have hz := (((((((hz9.setH false).setT 0).setV 0).setI 0).setTT 0).setK 0).setD ⟨#[]⟩)
            refine bodyPost_ret (results_cell3 rfl _ _ _ _ _ rfl (load_rec hz)) rfl ?_
            rw [HF.out]
            exact ⟨rfl, (((((((hb.setCell hnb _).setCell hnb _).setCell hnb _).setCell hnb _).setCell hnb _).setCell hnb _).setCell hnb _)⟩
          | true =>
            have HF : Hid (decR l = (⟨rh, rt, rv, ⟨ri, rt', rk, rd⟩⟩, n, 0)) := Lib.hid (by rw [HH.out]; unfold finP; rw [hd, hm]; rfl)
            clear HH hd hm
            go_wp2_with fail
            have hz := (((((((hz9.setH rh).setT rt).setV rv).setI ri).setTT rt').setK rk).setD rd)
            refine bodyPost_ret (results_cell3 rfl _ _ _ _ _ rfl (load_rec hz)) rfl ?_
            rw [HF.out]
            exact ⟨rfl, (((((((hb.setCell hnb _).setCell hnb _).setCell hnb _).setCell hnb _).setCell hnb _).setCell hnb _).setCell hnb _)⟩
      · have tk1 : (k == 1) = false := beq_eq_false_iff_ne.2 hk1
        have tk2 : (k == 2) = false := beq_eq_false_iff_ne.2 hk2
        have tk3 : (k != 1) = true := bne_iff_ne.2 hk1
        have tk4 : (k != 2) = true := bne_iff_ne.2 hk2
        have HH := Lib.hid (d3 rfl hk1 hk2)
        have hX0 := recS_box (w1.alloc (.cells #[.slice ab body.length cb, .bool false] 110)) ⟨false, 0, 0, zeroE⟩ 89
        have hbX := hbA.alloc hbA.size (.cells #[.bool false, .int .i64 0, .int .i64 0, .int .i64 0, .int .i64 0, .int .i64 0, .string .empty] 89)
        have hRd1 := hRd0.keeps (F := []) (Keeps.of_below ((Below.refl _ _).alloc (Nat.le_refl _) (.cells #[.bool false, .int .i64 0, .int .i64 0, .int .i64 0, .int .i64 0, .int .i64 0, .string .empty] 89))) (by simp)
        have hZ1 := (hR0.below ((Below.refl _ _).alloc (Nat.le_refl _) (.cells #[.slice ab body.length cb, .bool false] 110))).below ((Below.refl _ _).alloc (Nat.le_refl _) (.cells #[.bool false, .int .i64 0, .int .i64 0, .int .i64 0, .int .i64 0, .int .i64 0, .string .empty] 89))
        rw [show (w1.alloc (.cells #[.slice ab body.length cb, .bool false] 110)).heap.size = w1.heap.size + 1 from by simp] at hX0
        unfold zeroE at hX0
        have hE0 : (⟨#[]⟩ : ByteArray) = .empty := rfl
        clear d0 d1 d2 d3 hRd0 hbA
        go_upto_region 15 with fail
        have hS : DecSt w _ w.heap.size w1.heap.size (w1.heap.size + 1) _ _ _ := ⟨hbX, Nat.le_refl _, hR0.lt, Nat.lt_succ_self _, hZ1, hRd1, hX0⟩
        clear hbX hR0 hZ1 hRd1 hX0 fr0 z0 z1 z2 z3 z4 z5 z6 hbv
        generalize ((w1.alloc _).alloc _) = w5 at *
        generalize hRR : w1.heap.size = R at *
        generalize hNN : w.heap.size = N at *
        have z0 := hS.z.c0
        have z1 := hS.z.c1
        have z2 := hS.z.c2
        have z3 := hS.z.c3
        have z4 := hS.z.c4
        have z5 := hS.z.c5
        have z6 := hS.z.c6
        have zf := hS.z.fr
        dsimp only at z0 z1 z2 z3 z4 z5 z6
        have HS := Lib.hid hS
        have hnb := hS.n
        clear hS
        go_wp2_with fail
        have hz := (((((((HS.out.z.setH false).setT 0).setV 0).setI 0).setTT 0).setK 0).setD ⟨#[]⟩)
        refine bodyPost_ret (results_cell3 rfl _ _ _ _ _ rfl (load_rec hz)) rfl ?_
        rw [HH.out]
        subst hNN
        exact ⟨rfl, (((((((HS.out.b.setCell hnb _).setCell hnb _).setCell hnb _).setCell hnb _).setCell hnb _).setCell hnb _).setCell hnb _)⟩
  · have te : ((err : Int) != 0) = true := bne_iff_ne.2 (by omega)
    have HH := Lib.hid (d0 he)
    clear d0 d1 d2 d3 hok he
    go_wp2_with fail
    have hz := (((((((hR0.setH false).setT 0).setV 0).setI 0).setTT 0).setK 0).setD ⟨#[]⟩)
    refine bodyPost_ret (results_cell3 rfl _ _ _ _ _ rfl (load_rec hz)) rfl ?_
    rw [HH.out]
    exact ⟨rfl, (((((((hbw.setCell (Nat.le_refl _) _).setCell (Nat.le_refl _) _).setCell (Nat.le_refl _) _).setCell (Nat.le_refl _) _).setCell (Nat.le_refl _) _).setCell (Nat.le_refl _) _).setCell (Nat.le_refl _) _)⟩
end Go.Proofs.Ytcogmohepcifiaa
