/-
  No claim by itself: how the document writes a record. No condition.
-/
import Derived.Test.YtankebgpkhcgnaaWalR
import Derived.Test.YtankebgpkhcgnaaWal4
namespace Go.Proofs.Ytankebgpkhcgnaa
open Go.ChangeShapes Go.WideShapes Go.ChangeAt Go.RowKit

set_option maxRecDepth 100000 in
set_option maxHeartbeats 2000000 in
theorem ref_encode (r : Rec) (w : World) : Calls Try.prog 36 #[recAgg r] w fun e w' => RetNew w (encR r) e w' := by
  by_cases hm : mayR r = true
  case neg =>
    have hm : mayR r = false := by simpa using hm
    have hE : encR r = [] := by unfold encR; rw [hm]; rfl
    have HE := Lib.hid hE
    have HM := Lib.hid hm
    have hb := (Below.refl w.heap.size w).alloc (Nat.le_refl _) (.cells #[.bool r.hd, .int .i64 r.t, .int .i64 r.v, .int .i64 r.e.i, .int .i64 r.e.t, .int .i64 r.e.k, .string r.e.d] 52)
    have hc := recS_box w r 52
    clear hm hE
    unfold recAgg
    have c0 := hc.c0
    have c1 := hc.c1
    have c2 := hc.c2
    have c3 := hc.c3
    have c4 := hc.c4
    have c5 := hc.c5
    have c6 := hc.c6
    go_enter Try.func36, Try.ntmps36
    go_wp2_with fail
    refine (ref_may r _).mono ?_
    rintro e w1 ⟨rfl, hb1⟩
    rw [HM.out]
    have hbw := hb.trans (hb1.mono hb.size)
    clear hb hb1 hc c0 c1 c2 c3 c4 c5 c6
    go_wp2_with fail
    go_ret
    exact ⟨_, rfl, by rw [HE.out]; exact OwnB.nil _ _ _, hbw⟩
  case pos =>
    have hE : encR r = sealP (if r.hd then 1 else 2) (bodyR r) := by unfold encR; rw [if_pos hm]
    have hbody := mayR_body hm
    have HM := Lib.hid hm
    have hb := (Below.refl w.heap.size w).alloc (Nat.le_refl _) (.cells #[.bool r.hd, .int .i64 r.t, .int .i64 r.v, .int .i64 r.e.i, .int .i64 r.e.t, .int .i64 r.e.k, .string r.e.d] 52)
    have hc := recS_box w r 52
    by_cases hh : r.hd = true
    · obtain ⟨k0, k1, k2, k3, -⟩ := (mayR_hd hh).1 hm
      have hB : bodyR r = putN r.t ++ putN r.v := by unfold bodyR; rw [if_pos hh]
      rw [if_pos hh, hB] at hE
      have HE := Lib.hid hE
      clear hm hE hB hbody
      obtain ⟨hd, t, v, ⟨i, t', k, d⟩⟩ := r
      obtain rfl : hd = true := hh
      unfold recAgg
      dsimp only at *
      have c0 := hc.c0
      have c1 := hc.c1
      have c2 := hc.c2
      have c3 := hc.c3
      have c4 := hc.c4
      have c5 := hc.c5
      have c6 := hc.c6
      go_enter Try.func36, Try.ntmps36
      go_wp2_with fail
      refine (ref_may ⟨true, t, v, ⟨i, t', k, d⟩⟩ _).mono ?_
      rintro e w1 ⟨rfl, hb1⟩
      rw [HM.out]
      have hbw := hb.trans (hb1.mono hb.size)
      have hc1 := hc.below hb1
      clear hb hb1 hc c0 c1 c2 c3 c4 c5 c6
      have c0 := hc1.c0
      have c1 := hc1.c1
      have c2 := hc1.c2
      dsimp only at c0 c1 c2
      have hblt := hc1.lt
      go_upto_region 4 with fail
      go_cut [2] (fun x wx => OwnB wx w.heap.size 5 x (sealP 1 (putN t ++ putN v)) ∧ Below w.heap.size w wx)
      case first =>
        have hN := hbw.size
        generalize hNN : w.heap.size = N at *
        have hp1 := putN_len t
        have hp2 := putN_len v
        refine wp_region_ch (by rfl) (by kernel_rfl) (fun k => match k with | 3 => some (BytesAt w1.heap.size (putN t)) | 7 => some (BytesAt w1.heap.size (putN v)) | 8 => some (BytesAt w1.heap.size (putN t ++ putN v)) | 9 => some (BytesAt w1.heap.size (sealP 1 (putN t ++ putN v))) | _ => none) ⟨[3, 8, 9], [8], [(3, 8), (7, 8)]⟩ (PlanOk.of [3, 7, 8, 9] (by kernel_rfl) (fun k φ hk => ?_) (fun k φ hk v w1 w2 h1 h2 => ?_)) (fun vals => ?_)
        · split at hk
          all_goals first | (cases hk; done) | simp
        · split at hk
          all_goals first | (cases hk; exact OwnB.below h1 h2) | cases hk
        iterate 2 ((with_reducible refine sc_pure ?_ (fun K hK => ?_)); (· rfl); go_simp; with_reducible refine hK _ ?_; clear hK K)
        refine sc_at (.int .i64 t) rfl rfl (fun wz hz' hH => ?_) (fun K hK => ?_)
        · have g := (hz'.cell (p := ⟨N, 1, none⟩) hblt).trans c1
          go_simp
        go_simp; refine hK _ ?_; clear hK K
        refine sc_call _ rfl rfl rfl (fun wz hz' hH => ?_) (fun K hK => ?_)
        · go_simp
          go_at_call 57
          refine (ref_put t _ (by omega) (by omega)).mono ?_
          rintro e w2 ⟨v2, rfl, ho, hg, -⟩
          exact ⟨v2, rfl, ho.rebase hz'.size, below_of_grown hg⟩
        go_simp; refine hK _ ?_; clear hK K
        iterate 2 ((with_reducible refine sc_pure ?_ (fun K hK => ?_)); (· rfl); go_simp; with_reducible refine hK _ ?_; clear hK K)
        refine sc_at (.int .i64 v) rfl rfl (fun wz hz' hH => ?_) (fun K hK => ?_)
        · have g := (hz'.cell (p := ⟨N, 2, none⟩) hblt).trans c2
          go_simp
        go_simp; refine hK _ ?_; clear hK K
        refine sc_call _ rfl rfl rfl (fun wz hz' hH => ?_) (fun K hK => ?_)
        · go_simp
          go_at_call 57
          refine (ref_put v _ (by omega) (by omega)).mono ?_
          rintro e w2 ⟨v2, rfl, ho, hg, -⟩
          exact ⟨v2, rfl, ho.rebase hz'.size, below_of_grown hg⟩
        go_simp; refine hK _ ?_; clear hK K
        refine sc_grow _ rfl rfl rfl (fun wz hz' hH => ?_) (fun K hK => ?_)
        · have e7 := hH _ (List.Mem.head _) rfl
          have e3 := hH _ (List.Mem.tail _ (List.Mem.head _)) rfl
          unfold BytesAt at e3 e7
          dsimp only at e3 e7
          obtain ⟨v', w', hr, ho, hg, hn⟩ := run_append_bytes (P := Try.prog) 30 30 w1.heap.size 5 Try.underlying30 info_u8 e3 e7.bytes (by omega) hz'.size
          refine yields_append rfl rfl rfl hr ⟨ho, (Below.refl _ _).grown hg hz'.size (fun k hk => (World.ownsRow.lt e3 k hk).1), fun p hp hd => ?_⟩
          rcases List.mem_cons.1 hp with rfl | hp
          · cases hd
          · obtain rfl := List.mem_singleton.1 hp
            cases hd
        go_simp; refine hK _ ?_; clear hK K
        refine sc_call _ rfl rfl rfl (fun wz hz' hH => ?_) (fun K hK => ?_)
        · have e8 := hH _ (List.Mem.head _) rfl
          unfold BytesAt at e8
          go_simp
          go_at_call 25
          refine (ref_seal 1 _ (putN t ++ putN v) _ (by omega) (by omega) e8.bytes).mono ?_
          rintro e w2 ⟨v2, rfl, ho, hb2⟩
          exact ⟨v2, rfl, ho.rebase hz'.size, hb2⟩
        go_simp; refine hK _ ?_; clear hK K
        ((with_reducible refine sc_pure ?_ (fun K hK => ?_)); (· rfl); go_simp; with_reducible refine hK _ ?_; clear hK K)
        refine sc_done (fun wz hz hH => ?_)
        have e8 := hH _ (List.Mem.head _) rfl
        unfold BytesAt at e8
        go_wp2_with fail
        go_meet
        exact ⟨e8.rebase hN, hbw.trans (hz.mono hN)⟩
      case rest =>
        obtain ⟨ho, hbz⟩ := hcut
        go_wp2_with fail
        go_ret
        exact ⟨_, rfl, by rw [HE.out]; exact ho, hbz⟩
    · have hh : r.hd = false := by simpa using hh
      obtain ⟨-, -, k0, k1, k2, k3, k4, k5, k6⟩ := (mayR_en hh).1 hm
      have hB : bodyR r = putN r.e.i ++ putN r.e.t ++ putN r.e.k ++ putT r.e.d.data.toList := by unfold bodyR; rw [if_neg (by rw [hh]; decide)]
      rw [if_neg (by rw [hh]; decide), hB] at hE
      have HE := Lib.hid hE
      clear hm hE hB hbody
      obtain ⟨hd, t, v, ⟨i, t', k, d⟩⟩ := r
      obtain rfl : hd = false := hh
      unfold recAgg
      dsimp only at *
      have c0 := hc.c0
      have c1 := hc.c1
      have c2 := hc.c2
      have c3 := hc.c3
      have c4 := hc.c4
      have c5 := hc.c5
      have c6 := hc.c6
      go_enter Try.func36, Try.ntmps36
      go_wp2_with fail
      refine (ref_may ⟨false, t, v, ⟨i, t', k, d⟩⟩ _).mono ?_
      rintro e w1 ⟨rfl, hb1⟩
      rw [HM.out]
      have hbw := hb.trans (hb1.mono hb.size)
      have hc1 := hc.below hb1
      clear hb hb1 hc c0 c1 c2 c3 c4 c5 c6
      have c0 := hc1.c0
      dsimp only at c0
      have hblt := hc1.lt
      have hp1 := putN_len i
      have hp2 := putN_len t'
      have hp3 := putN_len k
      clear c0
      have c3 := hc1.c3
      dsimp only at c3
      have c0 := hc1.c0
      dsimp only at c0
      generalize hNN : w.heap.size = N at *
      go_wp2_with fail
      refine (ref_put i _ (by omega) (by omega)).mono ?_
      rintro e w2 ⟨v2, rfl, ho2, hg2, -⟩
      have hb2 := below_of_grown hg2
      have hc2 := hc1.below hb2
      clear hg2 hc1 c0 c3
      have c4 := hc2.c4
      dsimp only at c4
      go_wp2_with fail
      refine (ref_put t' _ (by omega) (by omega)).mono ?_
      rintro e w3 ⟨v3, rfl, ho3, hg3, -⟩
      have hb3 := below_of_grown hg3
      have hbx3 := hb2.trans (hb3.mono hb2.size)
      have hc3 := hc2.below hb3
      replace ho2 := OwnB.below ho2 hb3
      clear hb3 hg3 hc2 c4 hb2
      go_wp2_with (at_builtin; refine wpList_append_bytes 30 w1.heap.size 5 Try.underlying30 info_u8 rfl _ _ rfl ho2 ho3.bytes rfl rfl (by omega) hbx3.size ?_)
      intro v4 w4 ho4 hg4 hk4
      have hbx4 : Below w1.heap.size w1 w4 := hbx3.grown hg4 hbx3.size (fun k hk => (ho2.lt k hk).1)
      have hc4 := hc3.keeps (Keeps.of_grown hg4) (fun hx => by have := (ho2.lt N (by simpa using hx)).1; omega)
      have hl4 : (putN i ++ putN t').length ≤ 20 := by rw [List.length_append]; omega
      obtain ⟨A4, hA4⟩ : ∃ A4, A4 = putN i ++ putN t' := ⟨_, rfl⟩
      rw [← hA4] at ho4 hl4 HE
      clear hA4
      clear hg4 hk4 hc3 ho2 ho3 hbx3
      have c5 := hc4.c5
      dsimp only at c5
      go_wp2_with fail
      refine (ref_put k _ (by omega) (by omega)).mono ?_
      rintro e w5 ⟨v5, rfl, ho5, hg5, -⟩
      have hb5 := below_of_grown hg5
      have hbx5 := hbx4.trans (hb5.mono hbx4.size)
      have hc5 := hc4.below hb5
      replace ho4 := OwnB.below ho4 hb5
      clear hb5 hg5 hc4 c5 hbx4
      go_wp2_with (at_builtin; refine wpList_append_bytes 30 w1.heap.size 5 Try.underlying30 info_u8 rfl _ _ rfl ho4 ho5.bytes rfl rfl (by omega) hbx5.size ?_)
      intro v6 w6 ho6 hg6 hk6
      have hbx6 : Below w1.heap.size w1 w6 := hbx5.grown hg6 hbx5.size (fun k hk => (ho4.lt k hk).1)
      have hc6 := hc5.keeps (Keeps.of_grown hg6) (fun hx => by have := (ho4.lt N (by simpa using hx)).1; omega)
      have hl6 : (A4 ++ putN k).length ≤ 30 := by rw [List.length_append]; omega
      obtain ⟨A6, hA6⟩ : ∃ A6, A6 = A4 ++ putN k := ⟨_, rfl⟩
      rw [← hA6] at ho6 hl6 HE
      clear hA6
      clear hg6 hk6 hc5 ho4 ho5 hbx5
      have c6 := hc6.c6
      dsimp only at c6
      have hds : d.data.toList.length = d.size := size_data d
      have hpl : (putT d.data.toList).length ≤ 2600 := by
        unfold putT
        have := (putN_len (d.data.toList.length : Nat)).2
        rw [List.length_append]
        omega
      go_wp2_with fail
      refine (ref_putText d _ (by omega)).mono ?_
      rintro e w7 ⟨v7, rfl, ho7, hg7, -⟩
      have hb7 := below_of_grown hg7
      have hbx7 := hbx6.trans (hb7.mono hbx6.size)
      replace ho6 := OwnB.below ho6 hb7
      clear hb7 hg7 hc6 c6 hbx6
      go_wp2_with (at_builtin; refine wpList_append_bytes 30 w1.heap.size 5 Try.underlying30 info_u8 rfl _ _ rfl ho6 ho7.bytes rfl rfl (by omega) hbx7.size ?_)
      intro v8 w8 ho8 hg8 hk8
      have hbx8 : Below w1.heap.size w1 w8 := hbx7.grown hg8 hbx7.size (fun k hk => (ho6.lt k hk).1)
      clear hg8 hk8 ho6 ho7 hbx7
      go_wp2_with fail
      refine (ref_seal 2 _ _ _ (by omega) (by omega) ho8.bytes).mono ?_
      rintro e w9 ⟨v9, rfl, ho9, hb9⟩
      have hb10 := hbw.trans ((hbx8.trans (hb9.mono hbx8.size)).mono (Nat.le_of_lt hblt))
      go_wp2_with fail
      go_ret
      subst hNN
      exact ⟨_, rfl, by rw [HE.out]; exact ho9.rebase (Nat.le_trans (Nat.le_of_lt hblt) hbx8.size), hb10⟩
end Go.Proofs.Ytankebgpkhcgnaa
