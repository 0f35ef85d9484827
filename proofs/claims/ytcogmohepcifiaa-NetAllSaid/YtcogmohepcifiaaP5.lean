/-
  No claim by itself: frames: Open and what the document says of it. | who belongs: slices.Index, slices.Contains, conf.Has, conf.May, and what the document says of them. | what records and snapshots may be, told by the program. | snapshots as bytes: a head and parts; how they are read. | a snapshot's bytes cut off, or with a byte changed, are not told. No condition.
-/
import Derived.Test.YtcogmohepcifiaaP4
import Derived.IntWalk
import Derived.Test.YtcogmohepcifiaaRows
import Derived.Test.YtcogmohepcifiaaP2
import Derived.WalkKit
import Derived.Deep.QuietTactic
import Derived.WalkSmall
import Derived.Test.YtcogmohepcifiaaP3
import Derived.Test.YtcogmohepcifiaaP1
namespace Go.Proofs.Ytcogmohepcifiaa
open Go.ChangeShapes Go.WideShapes Go.ChangeAt Go.RowKit

/-- What Open tells: kind, body, how many bytes, the error. -/
def RetOpen (w : World) (r : Int × List UInt8 × Nat × Nat) (e : Ending) (w' : World) : Prop :=
  ∃ v, e = .returned (.tuple #[.int .i64 r.1, v, .int .i64 (r.2.2.1 : Nat), .int .i64 (r.2.2.2 : Nat)]) ∧ Bytes w' v r.2.1 ∧ Below w.heap.size w w'

/-- The same, the body in a row of its own. -/
def RetOpenO (w : World) (r : Int × List UInt8 × Nat × Nat) (e : Ending) (w' : World) : Prop :=
  ∃ v, e = .returned (.tuple #[.int .i64 r.1, v, .int .i64 (r.2.2.1 : Nat), .int .i64 (r.2.2.2 : Nat)]) ∧ OwnB w' w.heap.size 5 v r.2.1 ∧ Below w.heap.size w w'

theorem results_tmp4 {fn : Func} {t u v x : Tmp} (h : fn.results = #[.tmp t, .tmp u, .tmp v, .tmp x]) (tmps : Array Value) (P : Program) (w : World) :
    (results fn tmps).run P w = .ok (.tuple #[tmps.getD t undef, tmps.getD u undef, tmps.getD v undef, tmps.getD x undef]) w := by
  simp [results, h]

theorem open_nil : openP [] = (0, [], 0, 2) := rfl
theorem open_zero (t : List UInt8) : openP (0 :: t) = (0, [], 0, 3) := rfl
theorem open_more {c : UInt8} {t : List UInt8} {x : Int} {k : Nat} (hc : c ≠ 0) (hg : getN t = (x, k, 2)) (h : t.length ≤ 1) : openP (c :: t) = (0, [], 0, 2) := by
  unfold openP
  simp only [hg]
  rw [if_neg hc, if_pos ⟨by trivial, h⟩]
theorem open_more2 {c : UInt8} {t : List UInt8} {x : Int} {k : Nat} (hc : c ≠ 0) (hg : getN t = (x, k, 2)) (h : ¬ t.length ≤ 1) : openP (c :: t) = (0, [], 0, 3) := by
  unfold openP
  simp only [hg]
  rw [if_neg hc, if_neg (fun h' => h h'.2), if_pos (.inl (by decide))]
theorem open_form {c : UInt8} {t : List UInt8} {x : Int} {k : Nat} (hc : c ≠ 0) (hg : getN t = (x, k, 1)) : openP (c :: t) = (0, [], 0, 3) := by
  unfold openP
  simp only [hg]
  rw [if_neg hc, if_neg (by omega), if_pos (.inl (by decide))]
theorem open_big {c : UInt8} {t : List UInt8} {x : Int} {k : Nat} (hc : c ≠ 0) (hg : getN t = (x, k, 0)) (h : x < 0 ∨ 4000 < x) : openP (c :: t) = (0, [], 0, 3) := by
  unfold openP
  simp only [hg]
  rw [if_neg hc, if_neg (by omega), if_pos (.inr h)]
theorem open_short {c : UInt8} {t : List UInt8} {x : Int} {k : Nat} (hc : c ≠ 0) (hg : getN t = (x, k, 0)) (h0 : 0 ≤ x) (h1 : x ≤ 4000) (h : t.length < k + 4 + x.toNat) : openP (c :: t) = (0, [], 0, 2) := by
  unfold openP
  simp only [hg]
  rw [if_neg hc, if_neg (by omega), if_neg (by omega), if_pos h]
theorem open_full {c : UInt8} {t : List UInt8} {x : Int} {k : Nat} (hc : c ≠ 0) (hg : getN t = (x, k, 0)) (h0 : 0 ≤ x) (h1 : x ≤ 4000) (h : ¬ t.length < k + 4 + x.toNat) : openP (c :: t) =
    if fourN (crcSum (c :: t.take k ++ (t.drop (k + 4)).take x.toNat)) = (t.drop k).take 4 then ((c.toNat : Int), (t.drop (k + 4)).take x.toNat, 1 + k + 4 + x.toNat, 0) else (0, [], 0, 3) := by
  unfold openP
  simp only [hg]
  rw [if_neg hc, if_neg (by omega), if_neg (by omega), if_neg h]

set_option maxHeartbeats 4000000 in
theorem frame_openO (v : Value) (l : List UInt8) (w : World) (h : Bytes w v l) (hl : l.length ≤ 1000000000) :
    Calls Try.prog 54 #[v] w fun e w' => RetOpenO w (openP l) e w' := by
  have hb := h
  obtain ⟨a, cap, rfl, hcap, hcm, hc⟩ := h
  cases l with
  | nil =>
    have hS := Lib.hid open_nil
    clear hc
    go_enter Try.func54, Try.ntmps54
    go_wp2_with fail
    ((try simp only [Exit.inBlock, Exit.then]); refine bodyPost_ret (results_tmp4 rfl _ _ _) rfl ?_)
    rw [hS.out]
    exact ⟨_, rfl, OwnB.nil _ _ _, Below.refl _ _⟩
  | cons c t =>
    obtain ⟨b, off, rfl, hcell⟩ := hc (by simp)
    have hc0 := hcell 0 (by simp)
    rw [Nat.add_zero, List.getElem_cons_zero] at hc0
    have HCELL := Lib.hid hcell
    clear hc hcell
    rw [List.length_cons] at *
    by_cases hz : c = 0
    · subst hz
      have hS := Lib.hid (open_zero t)
      go_enter Try.func54, Try.ntmps54
      go_wp2_with fail
      ((try simp only [Exit.inBlock, Exit.then]); refine bodyPost_ret (results_tmp4 rfl _ _ _) rfl ?_)
      rw [hS.out]
      exact ⟨_, rfl, OwnB.nil _ _ _, Below.refl _ _⟩
    · have hzz := Lib.hid hz
      have hct : ((c.toNat : Int) == 0) = false := by
        have : c.toNat ≠ 0 := fun h => hz (by rw [← ofNat_toNat' c, h]; rfl)
        simp
        omega
      clear hz
      by_cases hc1 : cap = 1
      · subst hc1
        have ht : t = [] := List.eq_nil_of_length_eq_zero (by omega)
        subst ht
        have hS := Lib.hid (open_more (t := []) hzz.out (x := 0) (k := 0) rfl (by simp))
        go_enter Try.func54, Try.ntmps54
        go_wp2_with fail
        refine (num_get _ [] _ (Bytes.nil _ _ _ (by omega))).mono ?_
        rintro e w' ⟨rfl, rfl⟩
        rw [show getN [] = (0, 0, 2) from rfl]
        unfold getV
        go_wp2_with fail
        ((try simp only [Exit.inBlock, Exit.then]); refine bodyPost_ret (results_tmp4 rfl _ _ _) rfl ?_)
        rw [hS.out]
        exact ⟨_, rfl, OwnB.nil _ _ _, Below.refl _ _⟩
      · have hsub : Bytes w (.slice (some ⟨b, off + 1, none⟩) t.length (cap - 1)) t := by
          have := Bytes.part HCELL.out 1 t.length (cap - 1) (by simp; omega) (by omega) (by omega)
          rwa [List.drop_succ_cons, List.drop_zero, List.take_of_length_le (Nat.le_refl _)] at this
        rcases getN_any t with (hg | hg) | ⟨x, k, hg, hx0, hx1, hk0, hk1, hk2⟩
        · have hS := Lib.hid (open_form hzz.out hg)
          have HG := Lib.hid hg
          clear hg
          go_enter Try.func54, Try.ntmps54
          go_wp2_with fail
          refine (num_get _ t _ hsub).mono ?_
          rintro e w' ⟨rfl, rfl⟩
          rw [HG.out]
          unfold getV
          go_wp2_with fail
          ((try simp only [Exit.inBlock, Exit.then]); refine bodyPost_ret (results_tmp4 rfl _ _ _) rfl ?_)
          rw [hS.out]
          exact ⟨_, rfl, OwnB.nil _ _ _, Below.refl _ _⟩
        · by_cases h1 : t.length ≤ 1
          · have hS := Lib.hid (open_more hzz.out hg h1)
            have HG := Lib.hid hg
            clear hg
            have h1' : decide ((t.length : Int) + 1 ≤ 2) = true := decide_eq_true (by omega)
            go_enter Try.func54, Try.ntmps54
            go_wp2_with fail
            refine (num_get _ t _ hsub).mono ?_
            rintro e w' ⟨rfl, rfl⟩
            rw [HG.out]
            unfold getV
            go_wp2_with fail
            ((try simp only [Exit.inBlock, Exit.then]); refine bodyPost_ret (results_tmp4 rfl _ _ _) rfl ?_)
            rw [hS.out]
            exact ⟨_, rfl, OwnB.nil _ _ _, Below.refl _ _⟩
          · have hS := Lib.hid (open_more2 hzz.out hg h1)
            have HG := Lib.hid hg
            clear hg
            have h1' : decide ((t.length : Int) + 1 ≤ 2) = false := decide_eq_false (by omega)
            go_enter Try.func54, Try.ntmps54
            go_wp2_with fail
            refine (num_get _ t _ hsub).mono ?_
            rintro e w' ⟨rfl, rfl⟩
            rw [HG.out]
            unfold getV
            go_wp2_with fail
            ((try simp only [Exit.inBlock, Exit.then]); refine bodyPost_ret (results_tmp4 rfl _ _ _) rfl ?_)
            rw [hS.out]
            exact ⟨_, rfl, OwnB.nil _ _ _, Below.refl _ _⟩
        · by_cases hb0 : x < 0
          · have hS := Lib.hid (open_big hzz.out hg (.inl hb0))
            have HG := Lib.hid hg
            clear hg
            go_enter Try.func54, Try.ntmps54
            go_wp2_with fail
            refine (num_get _ t _ hsub).mono ?_
            rintro e w' ⟨rfl, rfl⟩
            rw [HG.out]
            unfold getV
            go_wp2_with fail
            ((try simp only [Exit.inBlock, Exit.then]); refine bodyPost_ret (results_tmp4 rfl _ _ _) rfl ?_)
            rw [hS.out]
            exact ⟨_, rfl, OwnB.nil _ _ _, Below.refl _ _⟩
          · by_cases hb1 : 4000 < x
            · have hS := Lib.hid (open_big hzz.out hg (.inr hb1))
              have HG := Lib.hid hg
              clear hg
              go_enter Try.func54, Try.ntmps54
              go_wp2_with fail
              refine (num_get _ t _ hsub).mono ?_
              rintro e w' ⟨rfl, rfl⟩
              rw [HG.out]
              unfold getV
              go_wp2_with fail
              ((try simp only [Exit.inBlock, Exit.then]); refine bodyPost_ret (results_tmp4 rfl _ _ _) rfl ?_)
              rw [hS.out]
              exact ⟨_, rfl, OwnB.nil _ _ _, Below.refl _ _⟩
            · obtain ⟨n, rfl⟩ := Int.eq_ofNat_of_zero_le (show 0 ≤ x by omega)
              by_cases hsh : t.length < k + 4 + n
              · have hS := Lib.hid (open_short hzz.out hg (by omega) (by omega) (by simpa using hsh))
                have HG := Lib.hid hg
                clear hg
                go_enter Try.func54, Try.ntmps54
                go_wp2_with fail
                refine (num_get _ t _ hsub).mono ?_
                rintro e w' ⟨rfl, rfl⟩
                rw [HG.out]
                unfold getV
                go_wp2_with fail
                ((try simp only [Exit.inBlock, Exit.then]); refine bodyPost_ret (results_tmp4 rfl _ _ _) rfl ?_)
                rw [hS.out]
                exact ⟨_, rfl, OwnB.nil _ _ _, Below.refl _ _⟩
              · have hS := open_full hzz.out hg (by omega) (by omega) (by simpa using hsh)
                rw [Int.toNat_natCast] at hS
                have HS := Lib.hid hS
                have HG := Lib.hid hg
                clear hg hS
                have hdr : (c :: t).drop (1 + k + 4) = t.drop (k + 4) := by rw [show 1 + k + 4 = (k + 4) + 1 by omega, List.drop_succ_cons]
                have hdr2 : (c :: t).drop (1 + k) = t.drop k := by rw [show 1 + k = k + 1 by omega, List.drop_succ_cons]
                have htk : (c :: t).take (1 + k) = c :: t.take k := by rw [show 1 + k = k + 1 by omega, List.take_succ_cons]
                have hbody := Bytes.part HCELL.out (1 + k + 4) n (cap - (1 + k + 4)) (by rw [List.length_cons]; omega) (by omega) (by omega)
                have hfour := Bytes.part HCELL.out (1 + k) 4 (cap - (1 + k)) (by rw [List.length_cons]; omega) (by omega) (by omega)
                have hhead := hb.take (1 + k) (by rw [List.length_cons]; omega)
                rw [hdr] at hbody
                rw [hdr2] at hfour
                rw [htk] at hhead
                clear hdr hdr2 htk
                have hlast : n = 0 → Bytes w (.slice (some ⟨b, off, none⟩) 0 0) ((t.drop (k + 4)).take n) := fun h => by rw [h, List.take_zero]; exact Bytes.nil _ _ _ (by omega)
                have HLAST := Lib.hid hlast
                clear hlast
                go_enter Try.func54, Try.ntmps54
                go_wp2_with fail
                refine (num_get _ t _ hsub).mono ?_
                rintro e w' ⟨rfl, rfl⟩
                rw [HG.out]
                unfold getV
                clear hsub
                go_upto_region 14 with fail
                rename World => w
                go_cut [11] (fun s wx => Bytes w s ((t.drop (k + 4)).take n) ∧ wx = w)
                case first =>
                  have hnn : 1 + k + 4 + n - (1 + k + 4) = n := by omega
                  by_cases hcx : cap = 1 + k + 4
                  · have hn0 : n = 0 := by omega
                    have hB := HLAST.out hn0
                    subst hn0 hcx
                    clear hnn
                    go_wp2_with fail
                    go_meet
                    exact ⟨by simpa using hB, rfl⟩
                  · have HNN := Lib.hid hnn
                    clear hnn
                    go_wp2_with fail
                    go_meet
                    exact ⟨by rw [HNN.out]; exact hbody, rfl⟩
                case rest =>
                  obtain ⟨hB, rfl⟩ := hcut
                  rename World => w
                  clear hbody HLAST
                  have hbl : ((t.drop (k + 4)).take n).length ≤ 4000 := by rw [List.length_take]; omega
                  generalize hbod : (t.drop (k + 4)).take n = body at *
                  generalize hhd : c :: t.take k = hd at *
                  generalize hfo : (t.drop k).take 4 = fo at *
                  clear hbod hfo
                  have hSb := crcSum_lt (hd ++ body)
                  go_upto_region 15 with fail
                  have q1 : (0 : Int) ≤ 1 + (k : Int) ∧ (1 + (k : Int)) ≤ (cap : Int) := by omega
                  have q2 : (1 + (k : Int)).toNat = 1 + k := by omega
                  have q3 : IntKind.i64.wrap (1 + (k : Int) + 4) = 1 + (k : Int) + 4 := IntWalk.i64_in _ (by omega)
                  have q4 : (1 + (k : Int) + 4).toNat = 1 + k + 4 := by omega
                  have q5 : (0 : Int) ≤ 1 + (k : Int) := by omega
                  have q6 : (1 + (k : Int)) ≤ 1 + (k : Int) + 4 := by omega
                  have q7 : (1 + (k : Int) + 4) ≤ (cap : Int) := by omega
                  have q8 : 1 + k + 4 - (1 + k) = 4 := by omega
                  go_cut [76] (fun s wx => s = .bool (!decide (fourN (crcSum (hd ++ body)) = fo)) ∧ Below w.heap.size w wx)
                  case first =>
                    refine wp_region_sw (by rfl) (by kernel_rfl) (fun k => match k with | 3 => some (fun v _ => v = .int .u32 (crcSum hd : Nat)) | 5 => some (fun v _ => v = .int .u32 (crcSum (hd ++ body) : Nat)) | 6 => some (fun v w => Bytes w v (fourN (crcSum (hd ++ body)))) | _ => none) ?_ (fun vals => ?_)
                    · intro k φ hk v w1 w2 h1 h2
                      match k, hk with
                      | 3, hk => obtain rfl := Option.some.inj hk; exact h1
                      | 5, hk => obtain rfl := Option.some.inj hk; exact h1
                      | 6, hk => obtain rfl := Option.some.inj hk; exact h1.below h2 rfl
                    iterate 3 (refine sw_pure (by rfl) (fun K hK => ?_); go_simp; refine hK _ ?_; clear hK K)
                    refine sw_call _ rfl rfl (fun wz hz hH => ?_) (fun K hK => ?_)
                    · go_simp
                      go_at_call 52
                      refine (crc_sum _ hd _ (hhead.below hz rfl)).mono ?_
                      rintro e w' ⟨rfl, rfl⟩
                      exact ⟨_, rfl, rfl, Below.refl _ _⟩
                    go_simp; refine hK _ ?_; clear hK K
                    (refine sw_pure (by rfl) (fun K hK => ?_); go_simp; refine hK _ ?_; clear hK K)
                    refine sw_call _ rfl rfl (fun wz hz hH => ?_) (fun K hK => ?_)
                    · have h3 := hH _ (List.Mem.head _) rfl
                      dsimp only at h3
                      go_simp
                      go_at_call 51
                      refine (crc_more _ body _ _ (crcSum_lt _) (hB.below hz rfl)).mono ?_
                      rintro e w' ⟨rfl, rfl⟩
                      exact ⟨_, rfl, by rw [crcSum_append], Below.refl _ _⟩
                    go_simp; refine hK _ ?_; clear hK K
                    refine sw_call _ rfl rfl (fun wz hz hH => ?_) (fun K hK => ?_)
                    · have h5 := hH _ (List.Mem.head _) rfl
                      dsimp only at h5
                      go_simp
                      go_at_call 53
                      refine (num_four _ _ (crcSum_lt _)).mono ?_
                      rintro e w' ⟨v, rfl, hv, hbl⟩
                      exact ⟨v, rfl, hv, hbl⟩
                    go_simp; refine hK _ ?_; clear hK K
                    refine sw_at (.string ⟨(fourN (crcSum (hd ++ body))).toArray⟩) rfl rfl (fun wz hz hH => ?_) (fun K hK => ?_)
                    · go_simp
                      rw [conv_str (hH _ (List.Mem.head _) rfl)]
                      exact ⟨rfl, rfl⟩
                    go_simp; refine hK _ ?_; clear hK K
                    iterate 4 (refine sw_pure (by rfl) (fun K hK => ?_); go_simp; refine hK _ ?_; clear hK K)
                    refine sw_at (.slice (some ⟨b, off + (1 + k), none⟩) 4 (cap - (1 + k))) rfl rfl (fun wz hz hH => ?_) (fun K hK => ?_)
                    · go_simp
                      omega
                    go_simp; refine hK _ ?_; clear hK K
                    refine sw_at (.string ⟨fo.toArray⟩) rfl rfl (fun wz hz hH => ?_) (fun K hK => ?_)
                    · go_simp
                      rw [conv_str (hfour.below hz rfl)]
                      exact ⟨rfl, rfl⟩
                    go_simp; refine hK _ ?_; clear hK K
                    refine sw_at (.bool (!decide (fourN (crcSum (hd ++ body)) = fo))) rfl rfl (fun wz hz hH => ?_) (fun K hK => ?_)
                    · go_simp
                      rw [Bool.eq_iff_iff, beq_iff_eq, decide_eq_true_iff]
                    go_simp; refine hK _ ?_; clear hK K
                    refine sw_done (fun wz hz hH => ?_)
                    go_wp2_with fail
                    go_meet
                    exact ⟨rfl, hz⟩
                  case rest =>
                    obtain ⟨rfl, hbz⟩ := hcut
                    by_cases hE : fourN (crcSum (hd ++ body)) = fo
                    · rw [if_pos hE] at HS
                      have hE2 : decide (fourN (crcSum (hd ++ body)) = fo) = true := decide_eq_true hE
                      rw [hE2]
                      clear hE hE2
                      go_upto_region 17 with fail
                      refine wp_region_sw (by rfl) (by kernel_rfl) (fun k => match k with | 5 => some (fun v wv => OwnB wv w.heap.size 5 v body) | _ => none) ?_ (fun vals => ?_)
                      · intro k φ hk v w1 w2 h1 h2
                        match k, hk with
                        | 5, hk => obtain rfl := Option.some.inj hk; exact OwnB.below h1 h2
                      iterate 2 (refine sw_pure (by rfl) (fun K hK => ?_); go_simp; refine hK _ ?_; clear hK K)
                      refine sw_at (.int .u8 (c.toNat : Int)) rfl rfl (fun wz hz hH => ?_) (fun K hK => ?_)
                      · have hlt := World.block_lt_of_cell? w _ hc0
                        have h2 := ((hbz.trans (hz.mono hbz.size)).cell (p := ⟨b, off, none⟩) hlt).trans hc0
                        go_simp
                      go_simp; refine hK _ ?_; clear hK K
                      iterate 2 (refine sw_pure (by rfl) (fun K hK => ?_); go_simp; refine hK _ ?_; clear hK K)
                      refine sw_call _ rfl rfl (fun wz hz hH => ?_) (fun K hK => ?_)
                      · obtain ⟨v', w', hr, ho, hg, hn⟩ := run_append_bytes (P := Try.prog) 46 46 wz.heap.size 5 Try.underlying46 info_u8 (OwnB.nil wz wz.heap.size 5) ((hB.below hbz rfl).below hz rfl) (by simp; omega) (Nat.le_refl _)
                        exact yields_append rfl rfl rfl hr ⟨ho.rebase (Nat.le_trans hbz.size hz.size), below_of_grown hg⟩
                      go_simp; refine hK _ ?_; clear hK K
                      iterate 5 (refine sw_pure (by rfl) (fun K hK => ?_); go_simp; refine hK _ ?_; clear hK K)
                      refine sw_done (fun wz hz hH => ?_)
                      have hbv := hH _ (List.Mem.head _)
                      dsimp only at hbv
                      go_wp2_with fail
                      ((try simp only [Exit.inBlock, Exit.then]); refine bodyPost_ret (results_tmp4 rfl _ _ _) rfl ?_)
                      rw [HS.out]
                      refine ⟨vals 5, ?_, hbv, hbz.trans (hz.mono hbz.size)⟩
                      show Ending.returned (.tuple #[.int .i64 (IntKind.i64.wrap (c.toNat : Int)), vals 5, .int .i64 (1 + (k : Int) + 4 + (n : Int)), .int .i64 0]) = _
                      rw [IntWalk.i64_in _ (by have := c.toNat_lt; omega)]
                      have hcast : ((1 + k + 4 + n : Nat) : Int) = 1 + (k : Int) + 4 + (n : Int) := by omega
                      dsimp only
                      rw [hcast]
                      rfl
                    · rw [if_neg hE] at HS
                      have hE2 : decide (fourN (crcSum (hd ++ body)) = fo) = false := decide_eq_false hE
                      rw [hE2]
                      clear hE hE2
                      go_wp2_with fail
                      ((try simp only [Exit.inBlock, Exit.then]); refine bodyPost_ret (results_tmp4 rfl _ _ _) rfl ?_)
                      rw [HS.out]
                      exact ⟨_, rfl, OwnB.nil _ _ _, hbz⟩

theorem frame_open (v : Value) (l : List UInt8) (w : World) (h : Bytes w v l) (hl : l.length ≤ 1000000000) :
    Calls Try.prog 54 #[v] w fun e w' => RetOpen w (openP l) e w' :=
  (frame_openO v l w h hl).mono fun _ _ ⟨v', he, ho, hb⟩ => ⟨v', he, ho.bytes, hb⟩
end Go.Proofs.Ytcogmohepcifiaa
namespace Go.Proofs.Ytcogmohepcifiaa
open Go.ChangeShapes Go.WideShapes Go.ChangeAt Go.RowKit

/-- A slice value that reads as int64 (or int). -/
def RI (w : World) (v : Value) (l : List Int) : Prop := Reads w v (l.map (Value.int .i64))

theorem RI.drewN {w : World} {v : Value} {l : List Int} (n : Nat) (h : RI w v l) : RI (w.drewN n) v l := Reads.below h (below_drewN (Below.refl _ _) n) rfl

theorem RI.open_ {w : World} {v : Value} {l : List Int} (h : RI w v l) : ∃ a cap, v = .slice a l.length cap ∧ l.length ≤ cap ∧ cap ≤ 9223372036854775807 ∧
    Hid (∀ k (h : k < l.length), ∃ b off, a = some ⟨b, off, none⟩ ∧ b < w.heap.size ∧ w.cell? ⟨b, off + k, none⟩ = some (.int .i64 l[k])) := by
  obtain ⟨a, cap, hv, h1, h2, hc⟩ := h
  rw [List.length_map] at hv h1
  refine ⟨a, cap, hv, h1, h2, Lib.hid fun k hk => ?_⟩
  obtain ⟨b, off, rfl, hcell⟩ := hc (by intro e; rw [List.map_eq_nil_iff] at e; subst e; simp at hk)
  have := hcell k (by rw [List.length_map]; exact hk)
  rw [List.getElem_map] at this
  exact ⟨b, off, rfl, World.block_lt_of_cell? w _ this, this⟩

theorem mem_take_succ {l : List Int} {k : Nat} {x : Int} (hk : k < l.length) (h : x ∉ l.take k) (hx : x ≠ l[k]) : x ∉ l.take (k + 1) := by
  have : l.take (k + 1) = l.take k ++ [l[k]] := by simp
  rw [this, List.mem_append, List.mem_singleton]
  rintro (h1 | h1)
  · exact h h1
  · exact hx h1

theorem ret_dec {p q : Prop} [Decidable p] [Decidable q] (h : p ↔ q) : Ending.returned (.bool (decide p)) = Ending.returned (.bool (decide q)) := by
  rw [decide_eq_decide.2 h]

def okAt (l : List Int) (i : Nat) : Bool := decide (1 ≤ l.getD i 0) && decide (l.getD i 0 ≤ 7) && (i == 0 || decide (l.getD (i - 1) 0 < l.getD i 0))
def mayC (l : List Int) : Bool := (List.range l.length).all (okAt l) && decide (0 < l.length)

theorem mayC_no {l : List Int} {k : Nat} (hk : k < l.length) (h : okAt l k = false) : mayC l = false := by
  unfold mayC
  rw [Bool.and_eq_false_iff]
  left
  rw [List.all_eq_false]
  exact ⟨k, List.mem_range.2 hk, by simp [h]⟩
theorem mayC_all {l : List Int} (h : ∀ j, j < l.length → okAt l j = true) : mayC l = decide (0 < l.length) := by
  unfold mayC
  rw [List.all_eq_true.2 (fun j hj => h j (List.mem_range.1 hj)), Bool.true_and]

theorem conf_may (v : Value) (l : List Int) (w : World) (h : RI w v l) :
    Calls Try.prog 60 #[v] w fun e w' => e = .returned (.bool (mayC l)) ∧ w' = w := by
  obtain ⟨a, cap, rfl, hcap, hcm, hc⟩ := h.open_
  go_enter Try.func60, Try.ntmps60
  go_wp2_with fail
  go_loop [7] (fun i => ∃ k : Nat, k ≤ l.length ∧ i = .int .i64 k ∧ Hid (∀ j, j < k → okAt l j = true)) (fun i => l.length - (intOf i).toNat)
  case atStart => exact ⟨0, by omega, rfl, Lib.hid (by intro j hj; omega)⟩
  case round =>
    obtain ⟨k, hk, rfl, hx⟩ := hrel
    by_cases hlt : k < l.length
    · obtain ⟨b, off, rfl, hbl, hcj⟩ := hc.out k hlt
      have hd : Hid (l.getD k 0 = l[k]) := Lib.hid (by simp [List.getD, hlt])
      have hno := fun h => mayC_no hlt h
      have hso : Hid (okAt l k = true → ∀ j, j < k + 1 → okAt l j = true) := Lib.hid fun h j hj => by
        rcases Nat.lt_succ_iff_lt_or_eq.1 hj with h1 | h1
        · exact hx.out j h1
        · rw [h1]; exact h
      by_cases hk0 : k = 0
      · subst hk0
        have hok : Hid (okAt l 0 = (decide (1 ≤ l[0]) && decide (l[0] ≤ 7))) := Lib.hid (by unfold okAt; rw [hd.out]; simp)
        clear hx hd
        rw [Nat.add_zero] at hcj
        generalize l[0]'hlt = x at hcj hok
        by_cases h1 : x < 1
        · have hm := Lib.hid (hno (by rw [hok.out]; simp; omega))
          clear hno
          go_wp2_with fail
          go_ret
          exact ⟨by rw [hm.out]; rfl, rfl⟩
        · by_cases h2 : 7 < x
          · have hm := Lib.hid (hno (by rw [hok.out]; simp; omega))
            clear hno
            go_wp2_with fail
            go_ret
            exact ⟨by rw [hm.out]; rfl, rfl⟩
          · have hs := Lib.hid (hso.out (by rw [hok.out]; simp; omega))
            clear hno hso
            go_wp2_with fail
            go_round
            case rel => exact ⟨1, by omega, by go_num, hs⟩
            case measure => simp [intOf]; omega
      · obtain ⟨b', off', hbo, _, hcj'⟩ := hc.out (k - 1) (by omega)
        simp only [Option.some.injEq, Addr.mk.injEq] at hbo
        obtain ⟨rfl, rfl, -⟩ := hbo
        have hd' : Hid (l.getD (k - 1) 0 = l[k - 1]'(by omega)) := Lib.hid (by simp [List.getD, show k - 1 < l.length by omega])
        have hok : Hid (okAt l k = (decide (1 ≤ l[k]) && decide (l[k] ≤ 7) && decide (l[k - 1]'(by omega) < l[k]))) := Lib.hid (by unfold okAt; rw [hd.out, hd'.out, show (k == 0) = false from beq_eq_false_iff_ne.2 hk0, Bool.false_or])
        clear hx hd hd'
        generalize l[k]'hlt = x at hcj hok
        generalize l[k - 1]'(by omega) = y at hcj' hok
        obtain ⟨m, rfl⟩ : ∃ m, k = m + 1 := ⟨k - 1, by omega⟩
        rw [show m + 1 - 1 = m from rfl] at hcj'
        by_cases h1 : x < 1
        · have hm := Lib.hid (hno (by rw [hok.out]; simp; omega))
          clear hno
          go_wp2_with fail
          go_ret
          exact ⟨by rw [hm.out]; rfl, rfl⟩
        · by_cases h2 : 7 < x
          · have hm := Lib.hid (hno (by rw [hok.out]; simp; omega))
            clear hno
            go_wp2_with fail
            go_ret
            exact ⟨by rw [hm.out]; rfl, rfl⟩
          · by_cases h3 : x ≤ y
            · have hm := Lib.hid (hno (by rw [hok.out]; simp; omega))
              clear hno
              go_wp2_with fail
              go_ret
              exact ⟨by rw [hm.out]; rfl, rfl⟩
            · have hs := Lib.hid (hso.out (by rw [hok.out]; simp; omega))
              clear hno hso
              go_wp2_with fail
              go_round
              case rel => exact ⟨m + 1 + 1, by omega, by go_num, hs⟩
              case measure => simp [intOf]; omega
    · have hkl : k = l.length := by omega
      subst hkl
      have hm := Lib.hid (mayC_all hx.out)
      go_wp2_with fail
      go_ret
      exact ⟨by rw [hm.out]; first | rfl | simp, rfl⟩

/-- How many of them say yes. -/
def cnt (yes : List Int) (l : List Int) : Nat := l.countP fun x => decide (x ∈ yes)
theorem cnt_le (yes l : List Int) : cnt yes l ≤ l.length := List.countP_le_length
theorem cnt_snoc (yes l : List Int) (k : Nat) (h : k < l.length) : cnt yes (l.take (k + 1)) = cnt yes (l.take k) + if l[k] ∈ yes then 1 else 0 := by
  have : l.take (k + 1) = l.take k ++ [l[k]] := by simp
  rw [this]
  unfold cnt
  rw [List.countP_append, List.countP_singleton]
  simp only [decide_eq_true_eq]
def majC (l yes : List Int) : Bool := mayC l && decide (2 * cnt yes l > l.length)

end Go.Proofs.Ytcogmohepcifiaa
namespace Go.Proofs.Ytcogmohepcifiaa
open Go.ChangeShapes Go.WideShapes Go.ChangeAt Go.RowKit

theorem inN_no {lo hi : Int} {l : List Int} {k : Nat} (h : k < l.length) (hn : ¬ (lo ≤ l[k] ∧ l[k] ≤ hi)) : inN lo hi l = false := by
  unfold inN
  rw [List.all_eq_false]
  exact ⟨l[k], List.getElem_mem h, by simpa using hn⟩
theorem inN_yes {lo hi : Int} {l : List Int} (h : ∀ k (h : k < l.length), lo ≤ l[k] ∧ l[k] ≤ hi) : inN lo hi l = true := by
  unfold inN
  rw [List.all_eq_true]
  intro x hx
  obtain ⟨k, hk, rfl⟩ := List.mem_iff_getElem.1 hx
  simpa using h k hk

set_option maxHeartbeats 1000000 in
theorem wal_in (lo hi : Int) (v : Value) (l : List Int) (w : World) (h : RI w v l) :
    Calls Try.prog 67 #[.int .i64 lo, .int .i64 hi, v] w fun e w' => e = .returned (.bool (inN lo hi l)) ∧ w' = w := by
  obtain ⟨a, cap, rfl, hcap, hcm, hc⟩ := h.open_
  clear h
  go_enter Try.func67, Try.ntmps67
  go_wp2_with fail
  go_loop [8, 11] (fun _ i => ∃ k : Nat, k ≤ l.length ∧ i = .int .i64 k ∧ Hid (∀ j (h : j < l.length), j < k → lo ≤ l[j] ∧ l[j] ≤ hi)) (fun _ i => l.length - (intOf i).toNat)
  case atStart => exact ⟨0, by omega, rfl, Lib.hid (by intro j _ hj; omega)⟩
  case round =>
    obtain ⟨k, hk, rfl, hx⟩ := hrel
    by_cases hlt : k < l.length
    · obtain ⟨b, off, rfl, hbl, hcj⟩ := hc.out k hlt
      by_cases h1 : l[k] < lo
      · have H := Lib.hid (inN_no hlt (lo := lo) (hi := hi) (by omega))
        go_wp2_with fail
        go_ret
        rw [H.out]; exact ⟨rfl, rfl⟩
      · by_cases h2 : hi < l[k]
        · have H := Lib.hid (inN_no hlt (lo := lo) (hi := hi) (by omega))
          go_wp2_with fail
          go_ret
          rw [H.out]; exact ⟨rfl, rfl⟩
        · go_wp2_with fail
          go_roundw
          case rel => exact ⟨k + 1, by omega, by go_num, Lib.hid fun j h hj => by
            by_cases e : j = k
            · subst e; omega
            · exact hx.out j h (by omega)⟩
          case measure => simp [intOf]; omega
    · have H := Lib.hid (inN_yes (lo := lo) (hi := hi) (fun j h => hx.out j h (by omega)))
      go_wp2_with fail
      go_ret
      rw [H.out]; exact ⟨rfl, rfl⟩
def recAgg (r : Rec) : Value := .agg #[.bool r.hd, .int .i64 r.t, .int .i64 r.v, .int .i64 r.e.i, .int .i64 r.e.t, .int .i64 r.e.k, .string r.e.d]

theorem mayR_hd {r : Rec} (h : r.hd = true) : mayR r = true ↔ 0 ≤ r.t ∧ r.t ≤ 1099511627776 ∧ 0 ≤ r.v ∧ r.v ≤ 7 ∧ r.e.i = 0 ∧ r.e.t = 0 ∧ r.e.k = 0 ∧ r.e.d.size = 0 := by
  unfold mayR
  rw [if_pos h]
  simp only [Bool.and_eq_true, decide_eq_true_eq, beq_iff_eq, and_assoc]
theorem mayR_en {r : Rec} (h : r.hd = false) : mayR r = true ↔ r.t = 0 ∧ r.v = 0 ∧ 1 ≤ r.e.i ∧ r.e.i ≤ 1099511627776 ∧ 1 ≤ r.e.t ∧ r.e.t ≤ 1099511627776 ∧ 1 ≤ r.e.k ∧ r.e.k ≤ 3 ∧ r.e.d.size ≤ 2500 := by
  unfold mayR
  rw [if_neg (by simp [h])]
  simp only [Bool.and_eq_true, decide_eq_true_eq, beq_iff_eq, and_assoc]
theorem inN1 {lo hi x : Int} : inN lo hi [x] = true ↔ lo ≤ x ∧ x ≤ hi := by simp [inN]
theorem inN2 {lo hi x y : Int} : inN lo hi [x, y] = true ↔ (lo ≤ x ∧ x ≤ hi) ∧ lo ≤ y ∧ y ≤ hi := by simp [inN]
/-- May a snapshot be? -/
def mayS (s : Snp) : Bool := inN 0 1099511627776 [s.i, s.t] && decide (s.c.size ≤ 50) && decide (s.d.size ≤ 200000)
theorem RI.fresh1 (w : World) (T : TypeId) (x : Int) (b : Nat) (hb : w.heap.size = b) : RI (w.alloc (.cells #[.int .i64 x] T)) (.slice (some ⟨b, 0, none⟩) 1 1) [x] := by
  subst hb
  exact Reads.fresh w _ T (0, 0) _ _ rfl rfl (by simp)
theorem RI.fresh2 (w : World) (T : TypeId) (x y : Int) (b : Nat) (hb : w.heap.size = b) : RI (w.alloc (.cells #[.int .i64 x, .int .i64 y] T)) (.slice (some ⟨b, 0, none⟩) 2 2) [x, y] := by
  subst hb
  exact Reads.fresh w _ T (0, 0) _ _ rfl rfl (by simp)

theorem nil_iff (d : ByteArray) : d.toList = [] ↔ d.size = 0 := by
  rw [ByteArray.toList_eq, ← size_data, List.length_eq_zero_iff]
theorem mayS_iff {s : Snp} : mayS s = true ↔ 0 ≤ s.i ∧ s.i ≤ 1099511627776 ∧ 0 ≤ s.t ∧ s.t ≤ 1099511627776 ∧ s.c.size ≤ 50 ∧ s.d.size ≤ 200000 := by
  unfold mayS
  simp only [Bool.and_eq_true, decide_eq_true_eq, inN2, and_assoc]
theorem dec_cases (p : Prop) [Decidable p] : (p ∧ decide p = true) ∨ (¬ p ∧ decide p = false) := by
  by_cases h : p
  · exact .inl ⟨h, decide_eq_true h⟩
  · exact .inr ⟨h, decide_eq_false h⟩
theorem inN_dec {lo hi : Int} {l : List Int} (p : Prop) (h : inN lo hi l = true ↔ p) : (p ∧ inN lo hi l = true) ∨ (¬ p ∧ inN lo hi l = false) := by
  by_cases hp : p
  · exact .inl ⟨hp, h.2 hp⟩
  · exact .inr ⟨hp, Bool.eq_false_iff.2 fun e => hp (h.1 e)⟩

set_option maxRecDepth 100000 in
set_option maxHeartbeats 1000000 in
theorem wal_snapMay (s : Snp) (w : World) : Calls Try.prog 61 #[snpAgg s] w fun e w' => e = .returned (.bool (mayS s)) ∧ Below w.heap.size w w' := by
  have hb : ∀ a b, Below w.heap.size w ((w.alloc a).alloc b) := fun a b => ((Below.refl w.heap.size w).alloc (Nat.le_refl _) _).alloc (by simp) _
  have HB := Lib.hid hb
  have HM := Lib.hid (mayS_iff (s := s))
  clear hb
  unfold snpAgg
  go_enter Try.func61, Try.ntmps61
  go_wp2_with fail
  refine (wal_in 0 1099511627776 _ [s.i, s.t] _ (RI.fresh2 _ _ _ _ _ (by simp))).mono ?_
  rintro e w' ⟨rfl, rfl⟩
  rcases inN_dec (lo := 0) (hi := 1099511627776) _ (inN2 (x := s.i) (y := s.t)) with ⟨hp, hi⟩ | ⟨hp, hi⟩ <;> rw [hi] <;> clear hi
  all_goals rcases dec_cases ((s.d.size : Int) ≤ 200000) with ⟨hd, td⟩ | ⟨hd, td⟩
  all_goals
    have HP := Lib.hid hp
    clear hp
    go_wp2_with fail
    all_goals
      go_ret
      refine ⟨?_, HB.out _ _⟩
      first
        | (have hm : mayS s = true := HM.out.2 (by have := HP.out; (try simp only [nil_iff] at *) <;> omega)
           rw [hm]; rfl)
        | (have hm : mayS s = false := Bool.eq_false_iff.2 fun h => by
             have := HM.out.1 h
             have := HP.out; (try simp only [nil_iff] at *) <;> omega
           rw [hm]; rfl)
set_option maxRecDepth 100000 in
set_option maxHeartbeats 1000000 in
theorem wal_may (r : Rec) (w : World) : Calls Try.prog 59 #[recAgg r] w fun e w' => e = .returned (.bool (mayR r)) ∧ Below w.heap.size w w' := by
  have hb : ∀ a b, Below w.heap.size w ((w.alloc a).alloc b) := fun a b => ((Below.refl w.heap.size w).alloc (Nat.le_refl _) _).alloc (by simp) _
  have HB := Lib.hid hb
  clear hb
  have HB0 := Lib.hid (show ∀ a, Below w.heap.size w (w.alloc a) from fun a => (Below.refl w.heap.size w).alloc (Nat.le_refl _) _)
  unfold recAgg
  by_cases hh : r.hd = true
  · have HM := Lib.hid (mayR_hd hh)
    rw [hh]
    go_enter Try.func59, Try.ntmps59
    go_wp2_with fail
    refine (wal_in 0 1099511627776 _ [r.t] _ (RI.fresh1 _ _ _ _ (by simp))).mono ?_
    rintro e w' ⟨rfl, rfl⟩
    rcases inN_dec (lo := 0) (hi := 1099511627776) _ (inN1 (x := r.t)) with ⟨hp, hi⟩ | ⟨hp, hi⟩ <;> rw [hi] <;> clear hi
    all_goals
      have HP := Lib.hid hp
      clear hp
      go_wp2_with fail
    all_goals
      go_ret
      refine ⟨?_, HB.out _ _⟩
      first
        | (have hm : mayR r = true := HM.out.2 (by have := HP.out; (try simp only [nil_iff] at *) <;> omega)
           rw [hm]; rfl)
        | (have hm : mayR r = false := Bool.eq_false_iff.2 fun h => by
             have := HM.out.1 h
             have := HP.out; (try simp only [nil_iff] at *) <;> omega
           rw [hm]; rfl)
  · simp only [Bool.not_eq_true] at hh
    have HM := Lib.hid (mayR_en hh)
    rw [hh]
    by_cases hz : r.t = 0 ∧ r.v = 0
    · obtain ⟨z1, z2⟩ := hz
      go_enter Try.func59, Try.ntmps59
      go_wp2_with fail
      refine (wal_in 1 1099511627776 _ [r.e.i, r.e.t] _ (RI.fresh2 _ _ _ _ _ (by simp))).mono ?_
      rintro e w' ⟨rfl, rfl⟩
      rcases inN_dec (lo := 1) (hi := 1099511627776) _ (inN2 (x := r.e.i) (y := r.e.t)) with ⟨hp, hi⟩ | ⟨hp, hi⟩ <;> rw [hi] <;> clear hi
      all_goals rcases dec_cases ((r.e.d.size : Int) ≤ 2500) with ⟨hd, td⟩ | ⟨hd, td⟩
      all_goals
        have HP := Lib.hid hp
        clear hp
        go_wp2_with fail
      all_goals
        go_ret
        refine ⟨?_, HB.out _ _⟩
        first
          | (have hm : mayR r = true := HM.out.2 (by have := HP.out; (try simp only [nil_iff] at *) <;> omega)
             rw [hm]; rfl)
          | (have hm : mayR r = false := Bool.eq_false_iff.2 fun h => by
               have := HM.out.1 h
               have := HP.out; (try simp only [nil_iff] at *) <;> omega
             rw [hm]; rfl)
    · go_enter Try.func59, Try.ntmps59
      by_cases z1 : r.t = 0
      · have z2 : ¬ r.v = 0 := fun h => hz ⟨z1, h⟩
        clear hz
        go_wp2_with fail
        go_ret
        have hm : mayR r = false := Bool.eq_false_iff.2 fun h => by have := HM.out.1 h; omega
        rw [hm]
        exact ⟨rfl, HB0.out _⟩
      · clear hz
        go_wp2_with fail
        go_ret
        have hm : mayR r = false := Bool.eq_false_iff.2 fun h => by have := HM.out.1 h; omega
        rw [hm]
        exact ⟨rfl, HB0.out _⟩
end Go.Proofs.Ytcogmohepcifiaa
namespace Go.Proofs.Ytcogmohepcifiaa
open Go.ChangeShapes Go.WideShapes Go.ChangeAt Go.RowKit

def zeroS : Snp := ⟨0, 0, .empty, .empty⟩
def headS (s : Snp) : List UInt8 := putN s.i ++ putN s.t ++ putT s.c.data.toList ++ putN (s.d.size : Nat)
/-- The parts of a text. -/
def partsF : Nat → List UInt8 → List UInt8
  | 0, _ => []
  | f + 1, d => if d.length = 0 then [] else sealP 4 (d.take 3000) ++ partsF f (d.drop 3000)
theorem partsF_stable : ∀ (f g : Nat) (d : List UInt8), d.length < f → d.length < g → partsF f d = partsF g d := by
  intro f
  induction f with
  | zero => intro g l h; omega
  | succ f ih =>
    intro g d hf hg
    cases g with
    | zero => omega
    | succ g =>
      rw [partsF, partsF]
      by_cases h0 : d.length = 0
      · rw [if_pos h0, if_pos h0]
      · rw [if_neg h0, if_neg h0, ih g (d.drop 3000) (by rw [List.length_drop]; omega) (by rw [List.length_drop]; omega)]
def partsP (d : List UInt8) : List UInt8 := partsF (d.length + 1) d
theorem partsP_nil : partsP [] = [] := rfl
theorem partsP_cons {d : List UInt8} (h : d.length ≠ 0) : partsP d = sealP 4 (d.take 3000) ++ partsP (d.drop 3000) := by
  unfold partsP
  rw [partsF, if_neg h, partsF_stable d.length ((d.drop 3000).length + 1) (d.drop 3000) (by rw [List.length_drop]; omega) (Nat.lt_succ_self _)]
/-- A snapshot's bytes; none, if it may not be. -/
def putS (s : Snp) : List UInt8 := if mayS s then sealP 3 (headS s) ++ partsP s.d.data.toList else []

/-- What the head says: the snapshot but for its data, how long these are, what is left. -/
def snapP (b : List UInt8) : Snp × Int × List UInt8 × Bool :=
  let x := rdN (b, false)
  let y := rdN x.2
  let c := rdT y.2
  let n := rdN c.2
  (⟨x.1, y.1, ⟨c.1.toArray⟩, .empty⟩, n.1, n.2)
/-- The data, part by part: what, how many bytes these took, the error. -/
def collF : Nat → List UInt8 → Nat → List UInt8 × Nat × Nat
  | 0, _, _ => ([], 0, 3)
  | f + 1, l, left =>
    if left = 0 then ([], 0, 0)
    else if (openP l).2.2.2 ≠ 0 then ([], 0, (openP l).2.2.2)
    else if (openP l).1 ≠ 4 ∨ (openP l).2.1.length ≠ min left 3000 then ([], 0, 3)
    else if (collF f (l.drop (openP l).2.2.1) (left - min left 3000)).2.2 ≠ 0 then ([], 0, (collF f (l.drop (openP l).2.2.1) (left - min left 3000)).2.2)
    else ((openP l).2.1 ++ (collF f (l.drop (openP l).2.2.1) (left - min left 3000)).1, (openP l).2.2.1 + (collF f (l.drop (openP l).2.2.1) (left - min left 3000)).2.1, 0)
theorem collF_stable : ∀ (f g : Nat) (l : List UInt8) (n : Nat), n < f → n < g → collF f l n = collF g l n := by
  intro f
  induction f with
  | zero => intro g l n h; omega
  | succ f ih =>
    intro g l n hf hg
    cases g with
    | zero => omega
    | succ g =>
      rw [collF, collF]
      by_cases h0 : n = 0
      · rw [if_pos h0, if_pos h0]
      · rw [if_neg h0, if_neg h0]
        rw [ih g (l.drop (openP l).2.2.1) (n - min n 3000) (by omega) (by omega)]
def collP (l : List UInt8) (n : Nat) : List UInt8 × Nat × Nat := collF (n + 1) l n
def getS (l : List UInt8) : Snp × Nat × Nat :=
  if (openP l).2.2.2 ≠ 0 then (zeroS, 0, (openP l).2.2.2)
  else if (openP l).1 = 3 ∧ rdD (snapP (openP l).2.1).2.2 = true ∧ mayS (snapP (openP l).2.1).1 = true ∧ inN 0 200000 [(snapP (openP l).2.1).2.1] = true then
    if (collP (l.drop (openP l).2.2.1) (snapP (openP l).2.1).2.1.toNat).2.2 ≠ 0 then (zeroS, 0, (collP (l.drop (openP l).2.2.1) (snapP (openP l).2.1).2.1.toNat).2.2)
    else ({ (snapP (openP l).2.1).1 with d := ⟨(collP (l.drop (openP l).2.2.1) (snapP (openP l).2.1).2.1.toNat).1.toArray⟩ }, (openP l).2.2.1 + (collP (l.drop (openP l).2.2.1) (snapP (openP l).2.1).2.1.toNat).2.1, 0)
  else (zeroS, 0, 3)

theorem headS_len {s : Snp} (h : mayS s = true) : (headS s).length ≤ 90 := by
  obtain ⟨h1, h2, h3, h4, h5, h6⟩ := mayS_iff.1 h
  have hp := fun n => (putN_len n).2
  have a1 := hp s.i
  have a2 := hp s.t
  have a3 := hp (s.d.size : Nat)
  have a4 := hp (s.c.data.toList.length : Nat)
  have a5 : s.c.data.toList.length = s.c.size := size_data _
  unfold headS putT
  simp only [List.length_append]
  omega
theorem snapP_head {s : Snp} (h : mayS s = true) : snapP (headS s) = (⟨s.i, s.t, s.c, .empty⟩, (s.d.size : Int), [], false) := by
  obtain ⟨h1, h2, h3, h4, h5, h6⟩ := mayS_iff.1 h
  have a5 : s.c.data.toList.length = s.c.size := size_data _
  have h7 := rdN_put (s.d.size : Nat) [] (by omega) (by omega)
  rw [List.append_nil] at h7
  unfold snapP headS
  rw [List.append_assoc, List.append_assoc, rdN_put s.i _ (by omega) (by omega)]
  simp only [rdN_put s.t _ (by omega) (by omega), rdT_put s.c.data.toList _ (by omega : s.c.data.toList.length ≤ 1048576), h7, ba_data]

theorem coll_parts : ∀ (f : Nat) (d rest : List UInt8), d.length < f → collP (partsP d ++ rest) d.length = (d, (partsP d).length, 0) := by
  intro f
  induction f with
  | zero => intro d rest h; omega
  | succ f ih =>
    intro d rest hf
    by_cases h0 : d.length = 0
    · have : d = [] := List.eq_nil_of_length_eq_zero h0
      subst this
      rfl
    · have ht : (d.take 3000).length = min d.length 3000 := by rw [List.length_take]; omega
      have hd : (d.drop 3000).length = d.length - min d.length 3000 := by rw [List.length_drop]; omega
      have hi := ih (d.drop 3000) rest (by omega)
      unfold collP at hi
      rw [hd] at hi
      unfold collP
      rw [partsP_cons h0, List.append_assoc, collF, if_neg h0, open_seal _ (by omega) (by omega) (by omega)]
      simp only [ne_eq, not_true_eq_false, if_false, false_or]
      rw [if_neg (by omega)]
      rw [List.drop_left, collF_stable d.length (d.length - min d.length 3000 + 1) _ _ (by omega) (Nat.lt_succ_self _), hi]
      simp only [not_true_eq_false, if_false, List.take_append_drop, List.length_append]
/-- A snapshot's bytes are read. -/
theorem getS_put {s : Snp} (rest : List UInt8) (h : mayS s = true) : getS (putS s ++ rest) = (s, (putS s).length, 0) := by
  have hl := headS_len h
  have hp := snapP_head h
  obtain ⟨h1, h2, h3, h4, h5, h6⟩ := mayS_iff.1 h
  have hd : s.d.data.toList.length = s.d.size := size_data _
  unfold putS
  rw [if_pos h]
  unfold getS
  rw [List.append_assoc, open_seal _ (by omega) (by omega) (by omega)]
  simp only [ne_eq, not_true_eq_false, if_false, true_and]
  have hm : mayS ⟨s.i, s.t, s.c, .empty⟩ = true := mayS_iff.2 ⟨h1, h2, h3, h4, h5, by simp⟩
  rw [hp]
  simp only [rdD, hm, true_and]
  rw [if_pos ⟨by simp, inN1.2 ⟨by omega, by omega⟩⟩, Int.toNat_natCast, List.drop_left, ← hd, coll_parts _ _ rest (Nat.lt_succ_self _)]
  simp only [not_true_eq_false, if_false, ba_data, List.length_append]

/-- What comes of a snapshot's parts. -/
def finS (s : Snp) (k : Nat) (acc : List UInt8) (t : List UInt8 × Nat × Nat) : Snp × Nat × Nat :=
  if t.2.2 ≠ 0 then (zeroS, 0, t.2.2) else ({ s with d := ⟨(acc ++ t.1).toArray⟩ }, k + t.2.1, 0)
theorem getS_open {l : List UInt8} {k : Int} {body : List UInt8} {n err : Nat} (h : openP l = (k, body, n, err)) :
    (err ≠ 0 → getS l = (zeroS, 0, err)) ∧
    (err = 0 → (k = 3 ∧ rdD (snapP body).2.2 = true ∧ mayS (snapP body).1 = true ∧ inN 0 200000 [(snapP body).2.1] = true) → getS l = finS (snapP body).1 n [] (collP (l.drop n) (snapP body).2.1.toNat)) ∧
    (err = 0 → ¬ (k = 3 ∧ rdD (snapP body).2.2 = true ∧ mayS (snapP body).1 = true ∧ inN 0 200000 [(snapP body).2.1] = true) → getS l = (zeroS, 0, 3)) := by
  unfold getS
  rw [h]
  refine ⟨fun h => by rw [if_pos h], fun h h1 => by rw [if_neg (by simpa using h), if_pos h1]; rfl, fun h h1 => by rw [if_neg (by simpa using h), if_neg h1]⟩
theorem coll_zero (l : List UInt8) : collP l 0 = ([], 0, 0) := rfl
theorem coll_err {l : List UInt8} {n : Nat} (hn : n ≠ 0) (h : (openP l).2.2.2 ≠ 0) : collP l n = ([], 0, (openP l).2.2.2) := by
  unfold collP
  rw [collF, if_neg hn, if_pos h]
theorem coll_bad {l : List UInt8} {n : Nat} (hn : n ≠ 0) (h : (openP l).2.2.2 = 0) (h2 : (openP l).1 ≠ 4 ∨ (openP l).2.1.length ≠ min n 3000) : collP l n = ([], 0, 3) := by
  unfold collP
  rw [collF, if_neg hn, if_neg (by simpa using h), if_pos h2]
theorem finS_step {s : Snp} {k : Nat} {acc l : List UInt8} {n : Nat} (hn : n ≠ 0) (h : (openP l).2.2.2 = 0) (h2 : (openP l).1 = 4) (h3 : (openP l).2.1.length = min n 3000) :
    finS s k acc (collP l n) = finS s (k + (openP l).2.2.1) (acc ++ (openP l).2.1) (collP (l.drop (openP l).2.2.1) (n - min n 3000)) := by
  unfold collP
  rw [collF, if_neg hn, if_neg (by simpa using h), if_neg (by simp [h2, h3]), collF_stable n (n - min n 3000 + 1) _ _ (by omega) (Nat.lt_succ_self _)]
  generalize collF (n - min n 3000 + 1) (l.drop (openP l).2.2.1) (n - min n 3000) = t
  unfold finS
  by_cases ht : t.2.2 ≠ 0
  · rw [if_pos ht, if_pos ht]
    simp only [ht, ne_eq, not_false_eq_true, if_true]
  · rw [if_neg ht, if_neg ht]
    simp [Nat.add_assoc]
end Go.Proofs.Ytcogmohepcifiaa
namespace Go.Proofs.Ytcogmohepcifiaa
open Go.ChangeShapes Go.WideShapes Go.ChangeAt Go.RowKit

theorem putN_pre {a b : Int} {X Y : List UInt8} (ha0 : 0 ≤ a) (ha1 : a ≤ 9223372036854775807) (hb0 : 0 ≤ b) (hb1 : b ≤ 9223372036854775807) (h : putN a ++ X = putN b ++ Y) : a = b ∧ X = Y := by
  have h1 := getN_putN a X (by omega) ha1
  rw [h, getN_putN b Y (by omega) hb1] at h1
  simp only [Prod.mk.injEq] at h1
  obtain ⟨rfl, -, -⟩ := h1
  exact ⟨rfl, List.append_cancel_left h⟩
theorem putT_pre {a b X Y : List UInt8} (ha : a.length ≤ 1048576) (hb : b.length ≤ 1048576) (h : putT a ++ X = putT b ++ Y) : a = b ∧ X = Y := by
  unfold putT at h
  rw [List.append_assoc, List.append_assoc] at h
  obtain ⟨h1, h2⟩ := putN_pre (by omega) (by omega) (by omega) (by omega) h
  exact List.append_inj h2 (by omega)

/-- A snapshot's head, and which may be. -/
def head4 (i t : Int) (c : List UInt8) (z : Int) : List UInt8 := putN i ++ putN t ++ putT c ++ putN z
structure May4 (i t : Int) (c : List UInt8) (z : Int) : Prop where
  i0 : 0 ≤ i
  i1 : i ≤ 1099511627776
  t0 : 0 ≤ t
  t1 : t ≤ 1099511627776
  c1 : c.length ≤ 50
  z0 : 0 ≤ z
  z1 : z ≤ 200000
theorem head4_pre {i t z i' t' z' : Int} {c c' X Y : List UInt8} (h : May4 i t c z) (h' : May4 i' t' c' z') (e : head4 i t c z ++ X = head4 i' t' c' z' ++ Y) : head4 i t c z = head4 i' t' c' z' ∧ X = Y := by
  obtain ⟨i0, i1, t0, t1, c1, z0, z1⟩ := h
  obtain ⟨i0', i1', t0', t1', c1', z0', z1'⟩ := h'
  unfold head4 at e ⊢
  simp only [List.append_assoc] at e
  obtain ⟨q1, e1⟩ := putN_pre i0 (by omega) i0' (by omega) e
  obtain ⟨q2, e2⟩ := putN_pre t0 (by omega) t0' (by omega) e1
  obtain ⟨q3, e3⟩ := putT_pre (by omega) (by omega) e2
  obtain ⟨q4, e4⟩ := putN_pre z0 (by omega) z0' (by omega) e3
  exact ⟨by rw [q1, q2, q3, q4], e4⟩
theorem putN_six {n : Int} (h0 : 0 ≤ n) (h1 : n ≤ 1099511627776) : (putN n).length ≤ 6 := by
  have := putN_mono (m := n) (n := 1099511627776) (by unfold zig; rw [if_neg (by omega), if_neg (by omega)]; omega)
  rwa [show (putN 1099511627776).length = 6 from by decide] at this
theorem putN_three {n : Int} (h0 : 0 ≤ n) (h1 : n ≤ 200000) : (putN n).length ≤ 3 := by
  have := putN_mono (m := n) (n := 200000) (by unfold zig; rw [if_neg (by omega), if_neg (by omega)]; omega)
  rwa [show (putN 200000).length = 3 from by decide] at this
theorem putN_one {n : Int} (h0 : 0 ≤ n) (h1 : n ≤ 63) : (putN n).length = 1 := by
  have := putN_mono (m := n) (n := 63) (by unfold zig; rw [if_neg (by omega), if_neg (by omega)]; omega)
  rw [show (putN 63).length = 1 from by decide] at this
  have := (putN_len n).1
  omega
theorem putN_two {n : Nat} (h0 : 64 ≤ n) (h1 : n ≤ 66) : ∃ b, putN (n : Int) = [b, 1] := by
  obtain rfl | rfl | rfl : n = 64 ∨ n = 65 ∨ n = 66 := by omega
  · exact ⟨_, rfl⟩
  · exact ⟨_, rfl⟩
  · exact ⟨_, rfl⟩
theorem head4_len {i t z : Int} {c : List UInt8} (h : May4 i t c z) : (head4 i t c z).length = (putN i).length + (putN t).length + 1 + c.length + (putN z).length ∧ (head4 i t c z).length ≤ 66 := by
  obtain ⟨i0, i1, t0, t1, c1, z0, z1⟩ := h
  have a1 := putN_six i0 i1
  have a2 := putN_six t0 t1
  have a3 := putN_three z0 z1
  have a4 := putN_one (n := (c.length : Int)) (by omega) (by omega)
  unfold head4 putT
  simp only [List.length_append]
  omega

/-- A number's bytes but the first are a number's bytes. -/
theorem putN_tail {n : Int} (h0 : 0 ≤ n) (h1 : n ≤ 1099511627776) (h2 : (putN n).length ≠ 1) : ∃ m : Int, -9223372036854775808 ≤ m ∧ m ≤ 9223372036854775807 ∧ putN n = (putN n).take 1 ++ putN m := by
  have hz : zig n ≤ 2199023255552 := by unfold zig; rw [if_neg (by omega)]; omega
  refine ⟨zag (zig n / 128), (zag_bd (by omega)).1, (zag_bd (by omega)).2, ?_⟩
  have e1 : zig (zag (zig n / 128)) = zig n / 128 := zig_zag _
  have key : ∀ (f g u : Nat), u < 128 ^ f → u < 128 ^ g → leb f u = leb g u := by
    intro f
    induction f with
    | zero =>
      intro g u h _
      obtain rfl : u = 0 := by simpa using h
      cases g <;> rfl
    | succ f ih =>
      intro g u hf hg
      cases g with
      | zero =>
        obtain rfl : u = 0 := by simpa using hg
        rfl
      | succ g =>
        rw [leb, leb]
        by_cases hu : u < 128
        · rw [if_pos hu, if_pos hu]
        · rw [if_neg hu, if_neg hu, ih g (u / 128) (by rw [Nat.pow_succ] at hf; omega) (by rw [Nat.pow_succ] at hg; omega)]
  have e2 : putN n = leb 9 (zig n) := rfl
  have e3 : putN (zag (zig n / 128)) = leb 9 (zig n / 128) := by
    unfold putN
    rw [e1]
  rw [e3]
  rw [e2, leb] at h2 ⊢
  by_cases hu : zig n < 128
  · rw [if_pos hu] at h2; exact absurd rfl h2
  · rw [if_neg hu]
    simp only [List.take_succ_cons, List.take_zero, List.cons_append, List.nil_append]
    rw [key 8 9 (zig n / 128) (by have : (128 : Nat) ^ 8 = 72057594037927936 := by decide
                                  omega) (by have : (128 : Nat) ^ 9 = 9223372036854775808 := by decide
                                             omega)]

/-- Two heads, one a byte behind the other: then the second is long. -/
theorem head4_shift {i t z i' t' z' : Int} {c c' X Y : List UInt8} {x : UInt8} (h : May4 i t c z) (h' : May4 i' t' c' z') (e : head4 i t c z ++ X = x :: (head4 i' t' c' z' ++ Y)) (hl : 64 ≤ (head4 i' t' c' z').length) : 64 ≤ (head4 i t c z).length := by
  have l1 := (head4_len h).1
  have l2 := (head4_len h').1
  obtain ⟨i0, i1, t0, t1, c1, z0, z1⟩ := h
  obtain ⟨i0', i1', t0', t1', c1', z0', z1'⟩ := h'
  have a1 := putN_six i0' i1'
  have a2 := putN_six t0' t1'
  have a3 := putN_three z0' z1'
  rw [l1]
  by_cases hi : (putN i).length = 1
  · exfalso
    obtain ⟨y, hy⟩ : ∃ y, putN i = [y] := List.length_eq_one_iff.1 hi
    unfold head4 at e
    rw [hy] at e
    simp only [List.append_assoc, List.cons_append, List.nil_append] at e
    obtain ⟨-, e1⟩ := putN_pre t0 (by omega) i0' (by omega) (List.cons.inj e).2
    unfold putT at e1
    simp only [List.append_assoc] at e1
    obtain ⟨h1, -⟩ := putN_pre (by omega) (by omega) t0' (by omega) e1
    have := putN_one t0' (by omega)
    omega
  · obtain ⟨m, m0, m1, hm⟩ := putN_tail i0 i1 hi
    have ht : ((putN i).take 1).length = 1 := by rw [List.length_take]; have := (putN_len i).1; omega
    obtain ⟨y, hy⟩ : ∃ y, (putN i).take 1 = [y] := List.length_eq_one_iff.1 ht
    rw [hy] at hm
    have hml : (putN i).length = 1 + (putN m).length := by rw [hm]; simp; omega
    unfold head4 at e
    rw [hm] at e
    simp only [List.append_assoc, List.cons_append, List.nil_append] at e
    replace e := (List.cons.inj e).2
    have h1 := getN_putN m (putN t ++ (putT c ++ (putN z ++ X))) m0 m1
    rw [e, getN_putN i' _ (by omega) (by omega)] at h1
    simp only [Prod.mk.injEq] at h1
    obtain ⟨q0, -, -⟩ := h1
    rw [← q0] at e
    have e0 := List.append_cancel_left e
    obtain ⟨q1, e1⟩ := putN_pre t0 (by omega) t0' (by omega) e0
    obtain ⟨q2, e2⟩ := putT_pre (by omega) (by omega) e1
    obtain ⟨q3, e3⟩ := putN_pre z0 (by omega) z0' (by omega) e2
    rw [hml, q1, q2, q3, ← q0]
    omega

/-- What is read as a head is one. -/
theorem snapP_ok {b : List UInt8} (h : rdD (snapP b).2.2 = true) : ∃ (i t : Int) (c : List UInt8) (z : Int), snapP b = (⟨i, t, ⟨c.toArray⟩, .empty⟩, z, [], false) ∧ b = head4 i t c z := by
  unfold snapP at h ⊢
  dsimp only at h ⊢
  obtain ⟨i, hi⟩ : ∃ i, i = rdN (b, false) := ⟨_, rfl⟩
  rw [← hi] at h ⊢
  obtain ⟨t, ht⟩ : ∃ t, t = rdN i.2 := ⟨_, rfl⟩
  rw [← ht] at h ⊢
  obtain ⟨c, hc⟩ : ∃ c, c = rdT t.2 := ⟨_, rfl⟩
  rw [← hc] at h ⊢
  obtain ⟨z, hz⟩ : ∃ z, z = rdN c.2 := ⟨_, rfl⟩
  rw [← hz] at h ⊢
  obtain ⟨z, zl, zb⟩ := z
  obtain ⟨c, cl, cb⟩ := c
  obtain ⟨t, tl, tb⟩ := t
  obtain ⟨i, il, ib⟩ := i
  unfold rdD at h
  simp only [Bool.and_eq_true, Bool.not_eq_true', decide_eq_true_eq] at h
  obtain ⟨rfl, hzl⟩ := h
  obtain rfl : zl = [] := List.eq_nil_of_length_eq_zero hzl
  dsimp only at *
  obtain ⟨rfl, rfl, -⟩ := rdN_ok hz.symm
  obtain ⟨rfl, rfl, -⟩ := rdT_ok hc.symm
  obtain ⟨rfl, rfl, -⟩ := rdN_ok ht.symm
  obtain ⟨-, rfl, -⟩ := rdN_ok hi.symm
  exact ⟨i, t, c, z, rfl, by simp [head4]⟩

theorem fourN_inj {a b : Nat} (ha : a < 4294967296) (hb : b < 4294967296) (h : fourN a = fourN b) : a = b := by
  unfold fourN at h
  simp only [List.cons.injEq, and_true] at h
  obtain ⟨h1, h2, h3, h4⟩ := h
  have g : ∀ x y : Nat, UInt8.ofNat x = UInt8.ofNat y → x % 256 = y % 256 := fun x y h => by
    have := congrArg UInt8.toNat h
    simpa using this
  have := g _ _ h1
  have := g _ _ h2
  have := g _ _ h3
  have := g _ _ h4
  omega
/-- Two frames of the same length, which differ at one place: no. -/
theorem seal_one {k k' : Int} {b b' : List UInt8} (h0 : 1 ≤ k) (h1 : k ≤ 255) (h2 : b.length ≤ 4000) (hl : b'.length = b.length) (hk : k' = k) {i : Nat} {x : UInt8} (hi : i < (sealP k b).length) (hx : (sealP k b)[i] ≠ x) : (sealP k b).set i x ≠ sealP k' b' := by
  subst hk
  intro e
  have hlh : (headP k' b.length).length = 1 + (putN b.length).length := by simp [headP]; omega
  have s1 := sealP_ok h0 h1 h2
  have s2 := sealP_ok (b := b') h0 h1 (by omega)
  rw [hl] at s2
  generalize headP k' b.length = H at *
  have e1 : ∀ j (hj : j < (sealP k' b).length) , j ≠ i → (sealP k' b)[j]? = (sealP k' b')[j]? := fun j hj hji => by
    rw [← e, List.getElem?_set_ne (Ne.symm hji)]
  have e2 : (sealP k' b')[i]? = some x := by rw [← e, List.getElem?_set_self hi]
  have e3 : (sealP k' b)[i]? ≠ (sealP k' b')[i]? := by
    rw [e2, List.getElem?_eq_getElem hi]
    simpa using hx
  have hf := fourN_len (crcSum (H ++ b))
  have hf' := fourN_len (crcSum (H ++ b'))
  have hlen : (sealP k' b).length = H.length + 4 + b.length := by rw [s1]; simp only [List.length_append]; omega
  by_cases c1 : i < H.length
  · apply e3
    rw [s1, s2, List.append_assoc, List.append_assoc, List.getElem?_append_left c1, List.getElem?_append_left c1]
  · have hb : ∀ j, H.length + 4 + j ≠ i → j < b.length → b[j]? = b'[j]? := fun j hj hjl => by
      have := e1 (H.length + 4 + j) (by omega) hj
      rw [s1, s2, List.getElem?_append_right (by simp only [List.length_append]; omega), List.getElem?_append_right (by simp only [List.length_append]; omega)] at this
      simp only [List.length_append, hf, hf', Nat.add_sub_cancel_left] at this
      exact this
    by_cases c2 : i < H.length + 4
    · have hbb : b = b' := by
        apply List.ext_getElem? 
        intro j
        by_cases hj : j < b.length
        · exact hb j (by omega) hj
        · rw [List.getElem?_eq_none (by omega), List.getElem?_eq_none (by omega)]
      subst hbb
      exact e3 rfl
    · -- the body
      have hq : i - (H.length + 4) < b.length := by omega
      generalize hj0 : i - (H.length + 4) = q at *
      have hbq : b[q]? ≠ b'[q]? := fun h => by
        apply e3
        rw [s1, s2, List.getElem?_append_right (by simp only [List.length_append]; omega), List.getElem?_append_right (by simp only [List.length_append]; omega)]
        simp only [List.length_append, hf, hf']
        rw [hj0]
        exact h
      have hfour : fourN (crcSum (H ++ b)) = fourN (crcSum (H ++ b')) := by
        apply List.ext_getElem?
        intro j
        by_cases hj : j < 4
        · have := e1 (H.length + j) (by omega) (by omega)
          have hg : ∀ F B : List UInt8, F.length = 4 → (H ++ F ++ B)[H.length + j]? = F[j]? := fun F B hF => by
            rw [List.append_assoc, List.getElem?_append_right (by omega), Nat.add_sub_cancel_left, List.getElem?_append_left (by omega)]
          rw [s1, s2, hg _ _ hf, hg _ _ hf'] at this
          exact this
        · rw [List.getElem?_eq_none (by omega), List.getElem?_eq_none (by omega)]
      have hcs := fourN_inj (crcSum_lt _) (crcSum_lt _) hfour
      have b1 : b = b.take q ++ [b[q]] ++ b.drop (q + 1) := by
        rw [List.append_assoc, List.singleton_append, ← List.drop_eq_getElem_cons hq, List.take_append_drop]
      have hq' : q < b'.length := by omega
      have b2 : b' = b.take q ++ [b'[q]] ++ b.drop (q + 1) := by
        have t1 : b.take q = b'.take q := by
          apply List.ext_getElem?
          intro j
          by_cases hj : j < q
          · rw [List.getElem?_take_of_lt hj, List.getElem?_take_of_lt hj]
            exact hb j (by omega) (by omega)
          · rw [List.getElem?_eq_none (by rw [List.length_take]; omega), List.getElem?_eq_none (by rw [List.length_take]; omega)]
        have t2 : b.drop (q + 1) = b'.drop (q + 1) := by
          apply List.ext_getElem?
          intro j
          rw [List.getElem?_drop, List.getElem?_drop]
          by_cases hj : q + 1 + j < b.length
          · exact hb _ (by omega) hj
          · rw [List.getElem?_eq_none (by omega), List.getElem?_eq_none (by omega)]
        rw [t1, t2, List.append_assoc, List.singleton_append, ← List.drop_eq_getElem_cons hq', List.take_append_drop]
      have hne : [b[q]] ≠ [b'[q]] := fun h => hbq (by
        rw [List.getElem?_eq_getElem hq, List.getElem?_eq_getElem hq']
        simpa using h)
      apply crcSum_burst (H ++ b.take q) [b[q]] [b'[q]] (b.drop (q + 1)) rfl (by simp) hne
      rw [List.append_assoc, List.append_assoc, ← List.append_assoc (b.take q), ← b1]
      rw [List.append_assoc, List.append_assoc, ← List.append_assoc (b.take q), ← b2]
      exact hcs
end Go.Proofs.Ytcogmohepcifiaa
