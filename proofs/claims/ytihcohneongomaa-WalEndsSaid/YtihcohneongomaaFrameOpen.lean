/-
  No claim by itself: frames: Open and what the document says of it. No condition.
-/
import Derived.Test.YtihcohneongomaaFrame
import Derived.IntWalk
namespace Go.Proofs.Ytihcohneongomaa
open Go.ChangeShapes Go.WideShapes Go.ChangeAt Go.RowKit

/-- What Open tells: kind, body, how many bytes, the error. -/
def RetOpen (w : World) (r : Int × List UInt8 × Nat × Nat) (e : Ending) (w' : World) : Prop :=
  ∃ v, e = .returned (.tuple #[.int .i64 r.1, v, .int .i64 (r.2.2.1 : Nat), .int .i64 (r.2.2.2 : Nat)]) ∧ Bytes w' v r.2.1 ∧ Below w.heap.size w w'

/-- The same, the body in a row of its own. -/
def RetOpenO (w : World) (r : Int × List UInt8 × Nat × Nat) (e : Ending) (w' : World) : Prop :=
  ∃ v, e = .returned (.tuple #[.int .i64 r.1, v, .int .i64 (r.2.2.1 : Nat), .int .i64 (r.2.2.2 : Nat)]) ∧ OwnB w' w.heap.size 5 v r.2.1 ∧ Below w.heap.size w w'

theorem results_tmp4 {fn : Func} {t u v x : Tmp} (h : fn.results = #[.tmp t, .tmp u, .tmp v, .tmp x]) (tmps : Array Value) (P : Program) (w : World) :
    (results fn tmps).run P w = .ok (.tuple #[tmps.getD t undef, tmps.getD u undef, tmps.getD v undef, tmps.getD x undef]) w := by
  simp [results, h]

theorem open_nil : openP [] = (0, [], 0, 2) := rfl
theorem open_zero (t : List UInt8) : openP (0 :: t) = (0, [], 0, 3) := rfl
theorem open_more {c : UInt8} {t : List UInt8} {x : Int} {k : Nat} (hc : c ≠ 0) (hg : getN t = (x, k, 2)) (h : t.length ≤ 1) : openP (c :: t) = (0, [], 0, 2) := by
  unfold openP
  simp only [hg]
  rw [if_neg hc, if_pos ⟨by trivial, h⟩]
theorem open_more2 {c : UInt8} {t : List UInt8} {x : Int} {k : Nat} (hc : c ≠ 0) (hg : getN t = (x, k, 2)) (h : ¬ t.length ≤ 1) : openP (c :: t) = (0, [], 0, 3) := by
  unfold openP
  simp only [hg]
  rw [if_neg hc, if_neg (fun h' => h h'.2), if_pos (.inl (by decide))]
theorem open_form {c : UInt8} {t : List UInt8} {x : Int} {k : Nat} (hc : c ≠ 0) (hg : getN t = (x, k, 1)) : openP (c :: t) = (0, [], 0, 3) := by
  unfold openP
  simp only [hg]
  rw [if_neg hc, if_neg (by omega), if_pos (.inl (by decide))]
theorem open_big {c : UInt8} {t : List UInt8} {x : Int} {k : Nat} (hc : c ≠ 0) (hg : getN t = (x, k, 0)) (h : x < 0 ∨ 4000 < x) : openP (c :: t) = (0, [], 0, 3) := by
  unfold openP
  simp only [hg]
  rw [if_neg hc, if_neg (by omega), if_pos (.inr h)]
theorem open_short {c : UInt8} {t : List UInt8} {x : Int} {k : Nat} (hc : c ≠ 0) (hg : getN t = (x, k, 0)) (h0 : 0 ≤ x) (h1 : x ≤ 4000) (h : t.length < k + 4 + x.toNat) : openP (c :: t) = (0, [], 0, 2) := by
  unfold openP
  simp only [hg]
  rw [if_neg hc, if_neg (by omega), if_neg (by omega), if_pos h]
theorem open_full {c : UInt8} {t : List UInt8} {x : Int} {k : Nat} (hc : c ≠ 0) (hg : getN t = (x, k, 0)) (h0 : 0 ≤ x) (h1 : x ≤ 4000) (h : ¬ t.length < k + 4 + x.toNat) : openP (c :: t) =
    if fourN (crcSum (c :: t.take k ++ (t.drop (k + 4)).take x.toNat)) = (t.drop k).take 4 then ((c.toNat : Int), (t.drop (k + 4)).take x.toNat, 1 + k + 4 + x.toNat, 0) else (0, [], 0, 3) := by
  unfold openP
  simp only [hg]
  rw [if_neg hc, if_neg (by omega), if_neg (by omega), if_neg h]

set_option maxHeartbeats 4000000 in
theorem frame_openO (v : Value) (l : List UInt8) (w : World) (h : Bytes w v l) (hl : l.length ≤ 1000000000) :
    Calls Try.prog 70 #[v] w fun e w' => RetOpenO w (openP l) e w' := by
  have hb := h
  obtain ⟨a, cap, rfl, hcap, hcm, hc⟩ := h
  cases l with
  | nil =>
    have hS := Lib.hid open_nil
    clear hc
    go_enter Try.func70, Try.ntmps70
    go_wp2_with fail
    ((try simp only [Exit.inBlock, Exit.then]); refine bodyPost_ret (results_tmp4 rfl _ _ _) rfl ?_)
    rw [hS.out]
    exact ⟨_, rfl, OwnB.nil _ _ _, Below.refl _ _⟩
  | cons c t =>
    obtain ⟨b, off, rfl, hcell⟩ := hc (by simp)
    have hc0 := hcell 0 (by simp)
    rw [Nat.add_zero, List.getElem_cons_zero] at hc0
    have HCELL := Lib.hid hcell
    clear hc hcell
    rw [List.length_cons] at *
    by_cases hz : c = 0
    · subst hz
      have hS := Lib.hid (open_zero t)
      go_enter Try.func70, Try.ntmps70
      go_wp2_with fail
      ((try simp only [Exit.inBlock, Exit.then]); refine bodyPost_ret (results_tmp4 rfl _ _ _) rfl ?_)
      rw [hS.out]
      exact ⟨_, rfl, OwnB.nil _ _ _, Below.refl _ _⟩
    · have hzz := Lib.hid hz
      have hct : ((c.toNat : Int) == 0) = false := by
        have : c.toNat ≠ 0 := fun h => hz (by rw [← ofNat_toNat' c, h]; rfl)
        simp
        omega
      clear hz
      by_cases hc1 : cap = 1
      · subst hc1
        have ht : t = [] := List.eq_nil_of_length_eq_zero (by omega)
        subst ht
        have hS := Lib.hid (open_more (t := []) hzz.out (x := 0) (k := 0) rfl (by simp))
        go_enter Try.func70, Try.ntmps70
        go_wp2_with fail
        refine (num_get _ [] _ (Bytes.nil _ _ _ (by omega))).mono ?_
        rintro e w' ⟨rfl, rfl⟩
        rw [show getN [] = (0, 0, 2) from rfl]
        unfold getV
        go_wp2_with fail
        ((try simp only [Exit.inBlock, Exit.then]); refine bodyPost_ret (results_tmp4 rfl _ _ _) rfl ?_)
        rw [hS.out]
        exact ⟨_, rfl, OwnB.nil _ _ _, Below.refl _ _⟩
      · have hsub : Bytes w (.slice (some ⟨b, off + 1, none⟩) t.length (cap - 1)) t := by
          have := Bytes.part HCELL.out 1 t.length (cap - 1) (by simp; omega) (by omega) (by omega)
          rwa [List.drop_succ_cons, List.drop_zero, List.take_of_length_le (Nat.le_refl _)] at this
        rcases getN_any t with (hg | hg) | ⟨x, k, hg, hx0, hx1, hk0, hk1, hk2⟩
        · have hS := Lib.hid (open_form hzz.out hg)
          have HG := Lib.hid hg
          clear hg
          go_enter Try.func70, Try.ntmps70
          go_wp2_with fail
          refine (num_get _ t _ hsub).mono ?_
          rintro e w' ⟨rfl, rfl⟩
          rw [HG.out]
          unfold getV
          go_wp2_with fail
          ((try simp only [Exit.inBlock, Exit.then]); refine bodyPost_ret (results_tmp4 rfl _ _ _) rfl ?_)
          rw [hS.out]
          exact ⟨_, rfl, OwnB.nil _ _ _, Below.refl _ _⟩
        · by_cases h1 : t.length ≤ 1
          · have hS := Lib.hid (open_more hzz.out hg h1)
            have HG := Lib.hid hg
            clear hg
            have h1' : decide ((t.length : Int) + 1 ≤ 2) = true := decide_eq_true (by omega)
            go_enter Try.func70, Try.ntmps70
            go_wp2_with fail
            refine (num_get _ t _ hsub).mono ?_
            rintro e w' ⟨rfl, rfl⟩
            rw [HG.out]
            unfold getV
            go_wp2_with fail
            ((try simp only [Exit.inBlock, Exit.then]); refine bodyPost_ret (results_tmp4 rfl _ _ _) rfl ?_)
            rw [hS.out]
            exact ⟨_, rfl, OwnB.nil _ _ _, Below.refl _ _⟩
          · have hS := Lib.hid (open_more2 hzz.out hg h1)
            have HG := Lib.hid hg
            clear hg
            have h1' : decide ((t.length : Int) + 1 ≤ 2) = false := decide_eq_false (by omega)
            go_enter Try.func70, Try.ntmps70
            go_wp2_with fail
            refine (num_get _ t _ hsub).mono ?_
            rintro e w' ⟨rfl, rfl⟩
            rw [HG.out]
            unfold getV
            go_wp2_with fail
            ((try simp only [Exit.inBlock, Exit.then]); refine bodyPost_ret (results_tmp4 rfl _ _ _) rfl ?_)
            rw [hS.out]
            exact ⟨_, rfl, OwnB.nil _ _ _, Below.refl _ _⟩
        · by_cases hb0 : x < 0
          · have hS := Lib.hid (open_big hzz.out hg (.inl hb0))
            have HG := Lib.hid hg
            clear hg
            go_enter Try.func70, Try.ntmps70
            go_wp2_with fail
            refine (num_get _ t _ hsub).mono ?_
            rintro e w' ⟨rfl, rfl⟩
            rw [HG.out]
            unfold getV
            go_wp2_with fail
            ((try simp only [Exit.inBlock, Exit.then]); refine bodyPost_ret (results_tmp4 rfl _ _ _) rfl ?_)
            rw [hS.out]
            exact ⟨_, rfl, OwnB.nil _ _ _, Below.refl _ _⟩
          · by_cases hb1 : 4000 < x
            · have hS := Lib.hid (open_big hzz.out hg (.inr hb1))
              have HG := Lib.hid hg
              clear hg
              go_enter Try.func70, Try.ntmps70
              go_wp2_with fail
              refine (num_get _ t _ hsub).mono ?_
              rintro e w' ⟨rfl, rfl⟩
              rw [HG.out]
              unfold getV
              go_wp2_with fail
              ((try simp only [Exit.inBlock, Exit.then]); refine bodyPost_ret (results_tmp4 rfl _ _ _) rfl ?_)
              rw [hS.out]
              exact ⟨_, rfl, OwnB.nil _ _ _, Below.refl _ _⟩
            · obtain ⟨n, rfl⟩ := Int.eq_ofNat_of_zero_le (show 0 ≤ x by omega)
              by_cases hsh : t.length < k + 4 + n
              · have hS := Lib.hid (open_short hzz.out hg (by omega) (by omega) (by simpa using hsh))
                have HG := Lib.hid hg
                clear hg
                go_enter Try.func70, Try.ntmps70
                go_wp2_with fail
                refine (num_get _ t _ hsub).mono ?_
                rintro e w' ⟨rfl, rfl⟩
                rw [HG.out]
                unfold getV
                go_wp2_with fail
                ((try simp only [Exit.inBlock, Exit.then]); refine bodyPost_ret (results_tmp4 rfl _ _ _) rfl ?_)
                rw [hS.out]
                exact ⟨_, rfl, OwnB.nil _ _ _, Below.refl _ _⟩
              · have hS := open_full hzz.out hg (by omega) (by omega) (by simpa using hsh)
                rw [Int.toNat_natCast] at hS
                have HS := Lib.hid hS
                have HG := Lib.hid hg
                clear hg hS
                have hdr : (c :: t).drop (1 + k + 4) = t.drop (k + 4) := by rw [show 1 + k + 4 = (k + 4) + 1 by omega, List.drop_succ_cons]
                have hdr2 : (c :: t).drop (1 + k) = t.drop k := by rw [show 1 + k = k + 1 by omega, List.drop_succ_cons]
                have htk : (c :: t).take (1 + k) = c :: t.take k := by rw [show 1 + k = k + 1 by omega, List.take_succ_cons]
                have hbody := Bytes.part HCELL.out (1 + k + 4) n (cap - (1 + k + 4)) (by rw [List.length_cons]; omega) (by omega) (by omega)
                have hfour := Bytes.part HCELL.out (1 + k) 4 (cap - (1 + k)) (by rw [List.length_cons]; omega) (by omega) (by omega)
                have hhead := hb.take (1 + k) (by rw [List.length_cons]; omega)
                rw [hdr] at hbody
                rw [hdr2] at hfour
                rw [htk] at hhead
                clear hdr hdr2 htk
                have hlast : n = 0 → Bytes w (.slice (some ⟨b, off, none⟩) 0 0) ((t.drop (k + 4)).take n) := fun h => by rw [h, List.take_zero]; exact Bytes.nil _ _ _ (by omega)
                have HLAST := Lib.hid hlast
                clear hlast
                go_enter Try.func70, Try.ntmps70
                go_wp2_with fail
                refine (num_get _ t _ hsub).mono ?_
                rintro e w' ⟨rfl, rfl⟩
                rw [HG.out]
                unfold getV
                clear hsub
                go_upto_region 14 with fail
                rename World => w
                go_cut [11] (fun s wx => Bytes w s ((t.drop (k + 4)).take n) ∧ wx = w)
                case first =>
                  have hnn : 1 + k + 4 + n - (1 + k + 4) = n := by omega
                  by_cases hcx : cap = 1 + k + 4
                  · have hn0 : n = 0 := by omega
                    have hB := HLAST.out hn0
                    subst hn0 hcx
                    clear hnn
                    go_wp2_with fail
                    go_meet
                    exact ⟨by simpa using hB, rfl⟩
                  · have HNN := Lib.hid hnn
                    clear hnn
                    go_wp2_with fail
                    go_meet
                    exact ⟨by rw [HNN.out]; exact hbody, rfl⟩
                case rest =>
                  obtain ⟨hB, rfl⟩ := hcut
                  rename World => w
                  clear hbody HLAST
                  have hbl : ((t.drop (k + 4)).take n).length ≤ 4000 := by rw [List.length_take]; omega
                  generalize hbod : (t.drop (k + 4)).take n = body at *
                  generalize hhd : c :: t.take k = hd at *
                  generalize hfo : (t.drop k).take 4 = fo at *
                  clear hbod hfo
                  have hSb := crcSum_lt (hd ++ body)
                  go_upto_region 15 with fail
                  have q1 : (0 : Int) ≤ 1 + (k : Int) ∧ (1 + (k : Int)) ≤ (cap : Int) := by omega
                  have q2 : (1 + (k : Int)).toNat = 1 + k := by omega
                  have q3 : IntKind.i64.wrap (1 + (k : Int) + 4) = 1 + (k : Int) + 4 := IntWalk.i64_in _ (by omega)
                  have q4 : (1 + (k : Int) + 4).toNat = 1 + k + 4 := by omega
                  have q5 : (0 : Int) ≤ 1 + (k : Int) := by omega
                  have q6 : (1 + (k : Int)) ≤ 1 + (k : Int) + 4 := by omega
                  have q7 : (1 + (k : Int) + 4) ≤ (cap : Int) := by omega
                  have q8 : 1 + k + 4 - (1 + k) = 4 := by omega
                  go_cut [76] (fun s wx => s = .bool (!decide (fourN (crcSum (hd ++ body)) = fo)) ∧ Below w.heap.size w wx)
                  case first =>
                    refine wp_region_sw (by rfl) (by kernel_rfl) (fun k => match k with | 3 => some (fun v _ => v = .int .u32 (crcSum hd : Nat)) | 5 => some (fun v _ => v = .int .u32 (crcSum (hd ++ body) : Nat)) | 6 => some (fun v w => Bytes w v (fourN (crcSum (hd ++ body)))) | _ => none) ?_ (fun vals => ?_)
                    · intro k φ hk v w1 w2 h1 h2
                      match k, hk with
                      | 3, hk => obtain rfl := Option.some.inj hk; exact h1
                      | 5, hk => obtain rfl := Option.some.inj hk; exact h1
                      | 6, hk => obtain rfl := Option.some.inj hk; exact h1.below h2 rfl
                    iterate 3 (refine sw_pure (by rfl) (fun K hK => ?_); go_simp; refine hK _ ?_; clear hK K)
                    refine sw_call _ rfl rfl (fun wz hz hH => ?_) (fun K hK => ?_)
                    · go_simp
                      go_at_call 89
                      refine (crc_sum _ hd _ (hhead.below hz rfl)).mono ?_
                      rintro e w' ⟨rfl, rfl⟩
                      exact ⟨_, rfl, rfl, Below.refl _ _⟩
                    go_simp; refine hK _ ?_; clear hK K
                    (refine sw_pure (by rfl) (fun K hK => ?_); go_simp; refine hK _ ?_; clear hK K)
                    refine sw_call _ rfl rfl (fun wz hz hH => ?_) (fun K hK => ?_)
                    · have h3 := hH _ (List.Mem.head _) rfl
                      dsimp only at h3
                      go_simp
                      go_at_call 88
                      refine (crc_more _ body _ _ (crcSum_lt _) (hB.below hz rfl)).mono ?_
                      rintro e w' ⟨rfl, rfl⟩
                      exact ⟨_, rfl, by rw [crcSum_append], Below.refl _ _⟩
                    go_simp; refine hK _ ?_; clear hK K
                    refine sw_call _ rfl rfl (fun wz hz hH => ?_) (fun K hK => ?_)
                    · have h5 := hH _ (List.Mem.head _) rfl
                      dsimp only at h5
                      go_simp
                      go_at_call 90
                      refine (num_four _ _ (crcSum_lt _)).mono ?_
                      rintro e w' ⟨v, rfl, hv, hbl⟩
                      exact ⟨v, rfl, hv, hbl⟩
                    go_simp; refine hK _ ?_; clear hK K
                    refine sw_at (.string ⟨(fourN (crcSum (hd ++ body))).toArray⟩) rfl rfl (fun wz hz hH => ?_) (fun K hK => ?_)
                    · go_simp
                      rw [conv_str (hH _ (List.Mem.head _) rfl)]
                      exact ⟨rfl, rfl⟩
                    go_simp; refine hK _ ?_; clear hK K
                    iterate 4 (refine sw_pure (by rfl) (fun K hK => ?_); go_simp; refine hK _ ?_; clear hK K)
                    refine sw_at (.slice (some ⟨b, off + (1 + k), none⟩) 4 (cap - (1 + k))) rfl rfl (fun wz hz hH => ?_) (fun K hK => ?_)
                    · go_simp
                      omega
                    go_simp; refine hK _ ?_; clear hK K
                    refine sw_at (.string ⟨fo.toArray⟩) rfl rfl (fun wz hz hH => ?_) (fun K hK => ?_)
                    · go_simp
                      rw [conv_str (hfour.below hz rfl)]
                      exact ⟨rfl, rfl⟩
                    go_simp; refine hK _ ?_; clear hK K
                    refine sw_at (.bool (!decide (fourN (crcSum (hd ++ body)) = fo))) rfl rfl (fun wz hz hH => ?_) (fun K hK => ?_)
                    · go_simp
                      rw [Bool.eq_iff_iff, beq_iff_eq, decide_eq_true_iff]
                    go_simp; refine hK _ ?_; clear hK K
                    refine sw_done (fun wz hz hH => ?_)
                    go_wp2_with fail
                    go_meet
                    exact ⟨rfl, hz⟩
                  case rest =>
                    obtain ⟨rfl, hbz⟩ := hcut
                    by_cases hE : fourN (crcSum (hd ++ body)) = fo
                    · rw [if_pos hE] at HS
                      have hE2 : decide (fourN (crcSum (hd ++ body)) = fo) = true := decide_eq_true hE
                      rw [hE2]
                      clear hE hE2
                      go_upto_region 17 with fail
                      refine wp_region_sw (by rfl) (by kernel_rfl) (fun k => match k with | 5 => some (fun v wv => OwnB wv w.heap.size 5 v body) | _ => none) ?_ (fun vals => ?_)
                      · intro k φ hk v w1 w2 h1 h2
                        match k, hk with
                        | 5, hk => obtain rfl := Option.some.inj hk; exact OwnB.below h1 h2
                      iterate 2 (refine sw_pure (by rfl) (fun K hK => ?_); go_simp; refine hK _ ?_; clear hK K)
                      refine sw_at (.int .u8 (c.toNat : Int)) rfl rfl (fun wz hz hH => ?_) (fun K hK => ?_)
                      · have hlt := World.block_lt_of_cell? w _ hc0
                        have h2 := ((hbz.trans (hz.mono hbz.size)).cell (p := ⟨b, off, none⟩) hlt).trans hc0
                        go_simp
                      go_simp; refine hK _ ?_; clear hK K
                      iterate 2 (refine sw_pure (by rfl) (fun K hK => ?_); go_simp; refine hK _ ?_; clear hK K)
                      refine sw_call _ rfl rfl (fun wz hz hH => ?_) (fun K hK => ?_)
                      · obtain ⟨v', w', hr, ho, hg, hn⟩ := run_append_bytes (P := Try.prog) 62 62 wz.heap.size 5 Try.underlying62 info_u8 (OwnB.nil wz wz.heap.size 5) ((hB.below hbz rfl).below hz rfl) (by simp; omega) (Nat.le_refl _)
                        exact yields_append rfl rfl rfl hr ⟨ho.rebase (Nat.le_trans hbz.size hz.size), below_of_grown hg⟩
                      go_simp; refine hK _ ?_; clear hK K
                      iterate 5 (refine sw_pure (by rfl) (fun K hK => ?_); go_simp; refine hK _ ?_; clear hK K)
                      refine sw_done (fun wz hz hH => ?_)
                      have hbv := hH _ (List.Mem.head _)
                      dsimp only at hbv
                      go_wp2_with fail
                      ((try simp only [Exit.inBlock, Exit.then]); refine bodyPost_ret (results_tmp4 rfl _ _ _) rfl ?_)
                      rw [HS.out]
                      refine ⟨vals 5, ?_, hbv, hbz.trans (hz.mono hbz.size)⟩
                      show Ending.returned (.tuple #[.int .i64 (IntKind.i64.wrap (c.toNat : Int)), vals 5, .int .i64 (1 + (k : Int) + 4 + (n : Int)), .int .i64 0]) = _
                      rw [IntWalk.i64_in _ (by have := c.toNat_lt; omega)]
                      have hcast : ((1 + k + 4 + n : Nat) : Int) = 1 + (k : Int) + 4 + (n : Int) := by omega
                      dsimp only
                      rw [hcast]
                      rfl
                    · rw [if_neg hE] at HS
                      have hE2 : decide (fourN (crcSum (hd ++ body)) = fo) = false := decide_eq_false hE
                      rw [hE2]
                      clear hE hE2
                      go_wp2_with fail
                      ((try simp only [Exit.inBlock, Exit.then]); refine bodyPost_ret (results_tmp4 rfl _ _ _) rfl ?_)
                      rw [HS.out]
                      exact ⟨_, rfl, OwnB.nil _ _ _, hbz⟩

theorem frame_open (v : Value) (l : List UInt8) (w : World) (h : Bytes w v l) (hl : l.length ≤ 1000000000) :
    Calls Try.prog 70 #[v] w fun e w' => RetOpen w (openP l) e w' :=
  (frame_openO v l w h hl).mono fun _ _ ⟨v', he, ho, hb⟩ => ⟨v', he, ho.bytes, hb⟩
end Go.Proofs.Ytihcohneongomaa
