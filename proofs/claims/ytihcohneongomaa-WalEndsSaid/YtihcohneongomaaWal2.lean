/-
  No claim by itself: how the program writes a record. No condition.
-/
import Derived.Test.YtihcohneongomaaWal
import Derived.Test.YtihcohneongomaaRegionC
namespace Go.Proofs.Ytihcohneongomaa
open Go.ChangeShapes Go.WideShapes Go.ChangeAt Go.RowKit

/-- A record's cells in a block of their own. -/
structure RecS (w : World) (b : Nat) (r : Rec) : Prop where
  lt : b < w.heap.size
  c0 : w.cell? ⟨b, 0, none⟩ = some (.bool r.hd)
  c1 : w.cell? ⟨b, 1, none⟩ = some (.int .i64 r.t)
  c2 : w.cell? ⟨b, 2, none⟩ = some (.int .i64 r.v)
  c3 : w.cell? ⟨b, 3, none⟩ = some (.int .i64 r.e.i)
  c4 : w.cell? ⟨b, 4, none⟩ = some (.int .i64 r.e.t)
  c5 : w.cell? ⟨b, 5, none⟩ = some (.int .i64 r.e.k)
  c6 : w.cell? ⟨b, 6, none⟩ = some (.string r.e.d)
  fr : ∀ j, w.frozen? ⟨b, j, none⟩ = false
theorem RecS.below {w w' : World} {b : Nat} {r : Rec} (h : RecS w b r) (hb : Below w.heap.size w w') : RecS w' b r :=
  ⟨Nat.lt_of_lt_of_le h.lt hb.size, (hb.cell (p := ⟨b, 0, none⟩) h.lt).trans h.c0, (hb.cell (p := ⟨b, 1, none⟩) h.lt).trans h.c1, (hb.cell (p := ⟨b, 2, none⟩) h.lt).trans h.c2, (hb.cell (p := ⟨b, 3, none⟩) h.lt).trans h.c3,
    (hb.cell (p := ⟨b, 4, none⟩) h.lt).trans h.c4, (hb.cell (p := ⟨b, 5, none⟩) h.lt).trans h.c5, (hb.cell (p := ⟨b, 6, none⟩) h.lt).trans h.c6, fun j => (hb.frozen (p := ⟨b, j, none⟩) h.lt).trans (h.fr j)⟩
theorem recS_box (w : World) (r : Rec) (T : TypeId) : RecS (w.alloc (.cells #[.bool r.hd, .int .i64 r.t, .int .i64 r.v, .int .i64 r.e.i, .int .i64 r.e.t, .int .i64 r.e.k, .string r.e.d] T)) w.heap.size r :=
  ⟨by simp, World.cell?_alloc_new _ _ _ _, World.cell?_alloc_new _ _ _ _, World.cell?_alloc_new _ _ _ _, World.cell?_alloc_new _ _ _ _, World.cell?_alloc_new _ _ _ _, World.cell?_alloc_new _ _ _ _, World.cell?_alloc_new _ _ _ _, fun j => World.frozen?_alloc_new _ _ _ _⟩

/-- The row that a call yields, told of later too. -/
def BytesAt (N : Nat) (l : List UInt8) (v : Value) (w : World) : Prop := OwnB w N 5 v l

set_option maxRecDepth 100000 in
set_option maxHeartbeats 2000000 in
theorem wal_encode (r : Rec) (w : World) : Calls Try.prog 62 #[recAgg r] w fun e w' => RetNew w (encR r) e w' := by
  by_cases hm : mayR r = true
  case neg =>
    have hm : mayR r = false := by simpa using hm
    have hE : encR r = [] := by unfold encR; rw [hm]; rfl
    have HE := Lib.hid hE
    have HM := Lib.hid hm
    have hb := (Below.refl w.heap.size w).alloc (Nat.le_refl _) (.cells #[.bool r.hd, .int .i64 r.t, .int .i64 r.v, .int .i64 r.e.i, .int .i64 r.e.t, .int .i64 r.e.k, .string r.e.d] 66)
    have hc := recS_box w r 66
    clear hm hE
    unfold recAgg
    have c0 := hc.c0
    have c1 := hc.c1
    have c2 := hc.c2
    have c3 := hc.c3
    have c4 := hc.c4
    have c5 := hc.c5
    have c6 := hc.c6
    go_enter Try.func62, Try.ntmps62
    go_wp2_with fail
    refine (wal_may r _).mono ?_
    rintro e w1 ⟨rfl, hb1⟩
    rw [HM.out]
    have hbw := hb.trans (hb1.mono hb.size)
    clear hb hb1 hc c0 c1 c2 c3 c4 c5 c6
    go_wp2_with fail
    go_ret
    exact ⟨_, rfl, by rw [HE.out]; exact OwnB.nil _ _ _, hbw⟩
  case pos =>
    have hE : encR r = sealP (if r.hd then 1 else 2) (bodyR r) := by unfold encR; rw [if_pos hm]
    have hbody := mayR_body hm
    have HM := Lib.hid hm
    have hb := (Below.refl w.heap.size w).alloc (Nat.le_refl _) (.cells #[.bool r.hd, .int .i64 r.t, .int .i64 r.v, .int .i64 r.e.i, .int .i64 r.e.t, .int .i64 r.e.k, .string r.e.d] 66)
    have hc := recS_box w r 66
    by_cases hh : r.hd = true
    · obtain ⟨k0, k1, k2, k3, -⟩ := (mayR_hd hh).1 hm
      have hB : bodyR r = putN r.t ++ putN r.v := by unfold bodyR; rw [if_pos hh]
      rw [if_pos hh, hB] at hE
      have HE := Lib.hid hE
      clear hm hE hB hbody
      obtain ⟨hd, t, v, ⟨i, t', k, d⟩⟩ := r
      obtain rfl : hd = true := hh
      unfold recAgg
      dsimp only at *
      have c0 := hc.c0
      have c1 := hc.c1
      have c2 := hc.c2
      have c3 := hc.c3
      have c4 := hc.c4
      have c5 := hc.c5
      have c6 := hc.c6
      go_enter Try.func62, Try.ntmps62
      go_wp2_with fail
      refine (wal_may ⟨true, t, v, ⟨i, t', k, d⟩⟩ _).mono ?_
      rintro e w1 ⟨rfl, hb1⟩
      rw [HM.out]
      have hbw := hb.trans (hb1.mono hb.size)
      have hc1 := hc.below hb1
      clear hb hb1 hc c0 c1 c2 c3 c4 c5 c6
      have c0 := hc1.c0
      have c1 := hc1.c1
      have c2 := hc1.c2
      dsimp only at c0 c1 c2
      have hblt := hc1.lt
      go_upto_region 4 with fail
      go_cut [2] (fun x wx => OwnB wx w.heap.size 5 x (sealP 1 (putN t ++ putN v)) ∧ Below w.heap.size w wx)
      case first =>
        have hN := hbw.size
        generalize hNN : w.heap.size = N at *
        have hp1 := putN_len t
        have hp2 := putN_len v
        refine wp_region_ch (by rfl) (by kernel_rfl) (fun k => match k with | 3 => some (BytesAt w1.heap.size (putN t)) | 7 => some (BytesAt w1.heap.size (putN t ++ putN v)) | 8 => some (BytesAt w1.heap.size (sealP 1 (putN t ++ putN v))) | _ => none) ⟨[3, 7, 8], [7], [(3, 7)]⟩ (PlanOk.of [3, 7, 8] (by kernel_rfl) (fun k φ hk => ?_) (fun k φ hk v w1 w2 h1 h2 => ?_)) (fun vals => ?_)
        · split at hk
          all_goals first | (cases hk; done) | simp
        · split at hk
          all_goals first | (cases hk; exact OwnB.below h1 h2) | cases hk
        iterate 2 ((with_reducible refine sc_pure ?_ (fun K hK => ?_)); (· rfl); go_simp; with_reducible refine hK _ ?_; clear hK K)
        refine sc_at (.int .i64 t) rfl rfl (fun wz hz' hH => ?_) (fun K hK => ?_)
        · have g := (hz'.cell (p := ⟨N, 1, none⟩) hblt).trans c1
          go_simp
        go_simp; refine hK _ ?_; clear hK K
        refine sc_call _ rfl rfl rfl (fun wz hz' hH => ?_) (fun K hK => ?_)
        · go_simp
          go_at_call 68
          refine (num_put _ [] t w1.heap.size _ (by omega) (by omega) (by simp) hz'.size (OwnB.nil _ _ _)).mono ?_
          rintro e w2 ⟨v2, rfl, ho, hg, -⟩
          exact ⟨v2, rfl, ho, below_of_grown hg⟩
        go_simp; refine hK _ ?_; clear hK K
        iterate 2 ((with_reducible refine sc_pure ?_ (fun K hK => ?_)); (· rfl); go_simp; with_reducible refine hK _ ?_; clear hK K)
        refine sc_at (.int .i64 v) rfl rfl (fun wz hz' hH => ?_) (fun K hK => ?_)
        · have g := (hz'.cell (p := ⟨N, 2, none⟩) hblt).trans c2
          go_simp
        go_simp; refine hK _ ?_; clear hK K
        refine sc_grow _ rfl rfl rfl (fun wz hz' hH => ?_) (fun K hK => ?_)
        · have e3 := hH _ (List.Mem.head _) rfl
          unfold BytesAt at e3
          go_simp
          go_at_call 68
          refine (num_put _ (putN t) v w1.heap.size _ (by omega) (by omega) (by omega) hz'.size e3).mono ?_
          rintro e w2 ⟨v2, rfl, ho, hg, -⟩
          refine ⟨v2, rfl, ho, (Below.refl _ _).grown hg hz'.size (fun k hk => (e3.lt k hk).1), fun hd => by cases hd⟩
        go_simp; refine hK _ ?_; clear hK K
        refine sc_call _ rfl rfl rfl (fun wz hz' hH => ?_) (fun K hK => ?_)
        · have e7 := hH _ (List.Mem.head _) rfl
          unfold BytesAt at e7
          go_simp
          go_at_call 69
          refine (frame_seal 1 _ (putN t ++ putN v) _ (by omega) (by omega) e7.bytes).mono ?_
          rintro e w2 ⟨v2, rfl, ho, hb2⟩
          exact ⟨v2, rfl, ho.rebase hz'.size, hb2⟩
        go_simp; refine hK _ ?_; clear hK K
        ((with_reducible refine sc_pure ?_ (fun K hK => ?_)); (· rfl); go_simp; with_reducible refine hK _ ?_; clear hK K)
        refine sc_done (fun wz hz hH => ?_)
        have e8 := hH _ (List.Mem.head _) rfl
        unfold BytesAt at e8
        go_wp2_with fail
        go_meet
        exact ⟨e8.rebase hN, hbw.trans (hz.mono hN)⟩
      case rest =>
        obtain ⟨ho, hbz⟩ := hcut
        go_wp2_with fail
        go_ret
        exact ⟨_, rfl, by rw [HE.out]; exact ho, hbz⟩
    · have hh : r.hd = false := by simpa using hh
      obtain ⟨-, -, k0, k1, k2, k3, k4, k5, k6⟩ := (mayR_en hh).1 hm
      have hB : bodyR r = putN r.e.i ++ putN r.e.t ++ putN r.e.k ++ putT r.e.d.data.toList := by unfold bodyR; rw [if_neg (by rw [hh]; decide)]
      rw [if_neg (by rw [hh]; decide), hB] at hE
      have HE := Lib.hid hE
      clear hm hE hB hbody
      obtain ⟨hd, t, v, ⟨i, t', k, d⟩⟩ := r
      obtain rfl : hd = false := hh
      unfold recAgg
      dsimp only at *
      have c0 := hc.c0
      have c1 := hc.c1
      have c2 := hc.c2
      have c3 := hc.c3
      have c4 := hc.c4
      have c5 := hc.c5
      have c6 := hc.c6
      go_enter Try.func62, Try.ntmps62
      go_wp2_with fail
      refine (wal_may ⟨false, t, v, ⟨i, t', k, d⟩⟩ _).mono ?_
      rintro e w1 ⟨rfl, hb1⟩
      rw [HM.out]
      have hbw := hb.trans (hb1.mono hb.size)
      have hc1 := hc.below hb1
      clear hb hb1 hc c0 c1 c2 c3 c4 c5 c6
      have c0 := hc1.c0
      dsimp only at c0
      have hblt := hc1.lt
      have hp1 := putN_len i
      have hp2 := putN_len t'
      have hp3 := putN_len k
      go_upto_region 5 with fail
      go_cut [3] (fun x wx => OwnB wx w1.heap.size 5 x (putN i ++ putN t' ++ putN k) ∧ Below w1.heap.size w1 wx)
      case first =>
        have c3 := hc1.c3
        have c4 := hc1.c4
        have c5 := hc1.c5
        dsimp only at c3 c4 c5
        generalize hNN : w.heap.size = N at *
        refine wp_region_ch (by rfl) (by kernel_rfl) (fun k' => match k' with | 3 => some (BytesAt w1.heap.size (putN i)) | 7 => some (BytesAt w1.heap.size (putN i ++ putN t')) | 11 => some (BytesAt w1.heap.size (putN i ++ putN t' ++ putN k)) | _ => none) ⟨[3, 7, 11], [7, 11], [(3, 7), (7, 11)]⟩ (PlanOk.of [3, 7, 11] (by kernel_rfl) (fun k φ hk => ?_) (fun k φ hk v w1 w2 h1 h2 => ?_)) (fun vals => ?_)
        · split at hk
          all_goals first | (cases hk; done) | simp
        · split at hk
          all_goals first | (cases hk; exact OwnB.below h1 h2) | cases hk
        iterate 2 ((with_reducible refine sc_pure ?_ (fun K hK => ?_)); (· rfl); go_simp; with_reducible refine hK _ ?_; clear hK K)
        refine sc_at (.int .i64 i) rfl rfl (fun wz hz' hH => ?_) (fun K hK => ?_)
        · have g := (hz'.cell (p := ⟨N, 3, none⟩) hblt).trans c3
          go_simp
        go_simp; refine hK _ ?_; clear hK K
        refine sc_call _ rfl rfl rfl (fun wz hz' hH => ?_) (fun K hK => ?_)
        · go_simp
          go_at_call 68
          refine (num_put _ [] i w1.heap.size _ (by omega) (by omega) (by simp) hz'.size (OwnB.nil _ _ _)).mono ?_
          rintro e w2 ⟨v2, rfl, ho, hg, -⟩
          exact ⟨v2, rfl, ho, below_of_grown hg⟩
        go_simp; refine hK _ ?_; clear hK K
        iterate 2 ((with_reducible refine sc_pure ?_ (fun K hK => ?_)); (· rfl); go_simp; with_reducible refine hK _ ?_; clear hK K)
        refine sc_at (.int .i64 t') rfl rfl (fun wz hz' hH => ?_) (fun K hK => ?_)
        · have g := (hz'.cell (p := ⟨N, 4, none⟩) hblt).trans c4
          go_simp
        go_simp; refine hK _ ?_; clear hK K
        refine sc_grow _ rfl rfl rfl (fun wz hz' hH => ?_) (fun K hK => ?_)
        · have e3 := hH _ (List.Mem.head _) rfl
          unfold BytesAt at e3
          go_simp
          go_at_call 68
          refine (num_put _ (putN i) t' w1.heap.size _ (by omega) (by omega) (by omega) hz'.size e3).mono ?_
          rintro e w2 ⟨v2, rfl, ho, hg, -⟩
          exact ⟨v2, rfl, ho, (Below.refl _ _).grown hg hz'.size (fun k hk => (e3.lt k hk).1), fun hd => by cases hd⟩
        go_simp; refine hK _ ?_; clear hK K
        iterate 2 ((with_reducible refine sc_pure ?_ (fun K hK => ?_)); (· rfl); go_simp; with_reducible refine hK _ ?_; clear hK K)
        refine sc_at (.int .i64 k) rfl rfl (fun wz hz' hH => ?_) (fun K hK => ?_)
        · have g := (hz'.cell (p := ⟨N, 5, none⟩) hblt).trans c5
          go_simp
        go_simp; refine hK _ ?_; clear hK K
        refine sc_grow _ rfl rfl rfl (fun wz hz' hH => ?_) (fun K hK => ?_)
        · have e3 := hH _ (List.Mem.head _) rfl
          unfold BytesAt at e3
          go_simp
          go_at_call 68
          refine (num_put _ (putN i ++ putN t') k w1.heap.size _ (by omega) (by omega) (by rw [List.length_append]; omega) hz'.size e3).mono ?_
          rintro e w2 ⟨v2, rfl, ho, hg, -⟩
          exact ⟨v2, rfl, by unfold BytesAt; rw [← List.append_assoc]; exact ho, (Below.refl _ _).grown hg hz'.size (fun k hk => (e3.lt k hk).1), fun hd => (by cases hd), fun hd => (by cases hd)⟩
        go_simp; refine hK _ ?_; clear hK K
        ((with_reducible refine sc_pure ?_ (fun K hK => ?_)); (· rfl); go_simp; with_reducible refine hK _ ?_; clear hK K)
        refine sc_done (fun wz hz hH => ?_)
        have e8 := hH _ (List.Mem.head _) rfl
        unfold BytesAt at e8
        go_wp2_with fail
        go_meet
        exact ⟨e8, hz⟩
      case rest =>
        obtain ⟨ho, hbz⟩ := hcut
        have hc2 := hc1.below hbz
        have c6 := hc2.c6
        dsimp only at c6
        have hbzz := hbz.size
        clear hc1 hc2 c0
        have hl1 : (putN i ++ putN t' ++ putN k).length ≤ 30 := by rw [List.length_append, List.length_append]; omega
        obtain ⟨A, hA⟩ : ∃ A, A = putN i ++ putN t' ++ putN k := ⟨_, rfl⟩
        rw [← hA] at ho hl1 HE
        go_wp2_with fail
        refine (num_putText _ A d w1.heap.size _ (by omega) hbzz ho).mono ?_
        rintro e w3 ⟨v3, rfl, ho3, hg3, -⟩
        have hb3 : Below w1.heap.size w1 w3 := hbz.grown hg3 hbzz (fun k hk => (ho.lt k hk).1)
        go_wp2_with fail
        refine (frame_seal 2 _ _ _ (by omega) (by omega) ho3.bytes).mono ?_
        rintro e w4 ⟨v4, rfl, ho4, hb4⟩
        have hb5 := hbw.trans ((hb3.trans (hb4.mono hb3.size)).mono hbw.size)
        go_wp2_with fail
        go_ret
        exact ⟨_, rfl, by rw [HE.out]; exact ho4.rebase (Nat.le_trans hbw.size hb3.size), hb5⟩
end Go.Proofs.Ytihcohneongomaa
