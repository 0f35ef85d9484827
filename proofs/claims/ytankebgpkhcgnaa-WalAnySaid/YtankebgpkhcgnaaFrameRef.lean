/-
  No claim by itself: frames: what the document says of Open. No condition.
-/
import Derived.Test.YtankebgpkhcgnaaFrameOpen
namespace Go.Proofs.Ytankebgpkhcgnaa
open Go.ChangeShapes Go.WideShapes Go.ChangeAt Go.RowKit

set_option maxRecDepth 100000 in
set_option maxHeartbeats 4000000 in
theorem ref_open (v : Value) (l : List UInt8) (w : World) (h : Bytes w v l) (hl : l.length ≤ 1000000000) :
    Calls Try.prog 29 #[v] w fun e w' => RetOpen w (openP l) e w' := by
  have hb := h
  obtain ⟨a, cap, rfl, hcap, hcm, hc⟩ := h
  cases l with
  | nil =>
    have hS := Lib.hid open_nil
    clear hc
    go_enter Try.func29, Try.ntmps29
    go_wp2_with fail
    ((try simp only [Exit.inBlock, Exit.then]); refine bodyPost_ret (results_tmp4 rfl _ _ _) rfl ?_)
    rw [hS.out]
    exact ⟨_, rfl, Bytes.nil _ none 0 (by omega), Below.refl _ _⟩
  | cons c t =>
    obtain ⟨b, off, rfl, hcell⟩ := hc (by simp)
    have hc0 := hcell 0 (by simp)
    rw [Nat.add_zero, List.getElem_cons_zero] at hc0
    have HCELL := Lib.hid hcell
    clear hc hcell
    rw [List.length_cons] at *
    by_cases hz : c = 0
    · subst hz
      have hS := Lib.hid (open_zero t)
      go_enter Try.func29, Try.ntmps29
      go_wp2_with fail
      ((try simp only [Exit.inBlock, Exit.then]); refine bodyPost_ret (results_tmp4 rfl _ _ _) rfl ?_)
      rw [hS.out]
      exact ⟨_, rfl, Bytes.nil _ none 0 (by omega), Below.refl _ _⟩
    · have hzz := Lib.hid hz
      have hct : ((c.toNat : Int) == 0) = false := by
        have : c.toNat ≠ 0 := fun h => hz (by rw [← ofNat_toNat' c, h]; rfl)
        simp
        omega
      clear hz
      by_cases hc1 : cap = 1
      · subst hc1
        have ht : t = [] := List.eq_nil_of_length_eq_zero (by omega)
        subst ht
        have hS := Lib.hid (open_more (t := []) hzz.out (x := 0) (k := 0) rfl (by simp))
        go_enter Try.func29, Try.ntmps29
        go_wp2_with fail
        refine (ref_get _ [] _ (Bytes.nil _ _ _ (by omega))).mono ?_
        rintro e w' ⟨rfl, rfl⟩
        rw [show getN [] = (0, 0, 2) from rfl]
        unfold getV
        go_wp2_with fail
        ((try simp only [Exit.inBlock, Exit.then]); refine bodyPost_ret (results_tmp4 rfl _ _ _) rfl ?_)
        rw [hS.out]
        exact ⟨_, rfl, Bytes.nil _ none 0 (by omega), Below.refl _ _⟩
      · have hsub : Bytes w (.slice (some ⟨b, off + 1, none⟩) t.length (cap - 1)) t := by
          have := Bytes.part HCELL.out 1 t.length (cap - 1) (by simp; omega) (by omega) (by omega)
          rwa [List.drop_succ_cons, List.drop_zero, List.take_of_length_le (Nat.le_refl _)] at this
        rcases getN_any t with (hg | hg) | ⟨x, k, hg, hx0, hx1, hk0, hk1, hk2⟩
        · have hS := Lib.hid (open_form hzz.out hg)
          have HG := Lib.hid hg
          clear hg
          go_enter Try.func29, Try.ntmps29
          go_wp2_with fail
          refine (ref_get _ t _ hsub).mono ?_
          rintro e w' ⟨rfl, rfl⟩
          rw [HG.out]
          unfold getV
          go_wp2_with fail
          ((try simp only [Exit.inBlock, Exit.then]); refine bodyPost_ret (results_tmp4 rfl _ _ _) rfl ?_)
          rw [hS.out]
          exact ⟨_, rfl, Bytes.nil _ none 0 (by omega), Below.refl _ _⟩
        · by_cases h1 : t.length ≤ 1
          · have hS := Lib.hid (open_more hzz.out hg h1)
            have HG := Lib.hid hg
            clear hg
            have h1' : decide (2 < (t.length : Int) + 1) = false := decide_eq_false (by omega)
            go_enter Try.func29, Try.ntmps29
            go_wp2_with fail
            refine (ref_get _ t _ hsub).mono ?_
            rintro e w' ⟨rfl, rfl⟩
            rw [HG.out]
            unfold getV
            go_wp2_with fail
            ((try simp only [Exit.inBlock, Exit.then]); refine bodyPost_ret (results_tmp4 rfl _ _ _) rfl ?_)
            rw [hS.out]
            exact ⟨_, rfl, Bytes.nil _ none 0 (by omega), Below.refl _ _⟩
          · have hS := Lib.hid (open_more2 hzz.out hg h1)
            have HG := Lib.hid hg
            clear hg
            have h1' : decide (2 < (t.length : Int) + 1) = true := decide_eq_true (by omega)
            go_enter Try.func29, Try.ntmps29
            go_wp2_with fail
            refine (ref_get _ t _ hsub).mono ?_
            rintro e w' ⟨rfl, rfl⟩
            rw [HG.out]
            unfold getV
            go_wp2_with fail
            ((try simp only [Exit.inBlock, Exit.then]); refine bodyPost_ret (results_tmp4 rfl _ _ _) rfl ?_)
            rw [hS.out]
            exact ⟨_, rfl, Bytes.nil _ none 0 (by omega), Below.refl _ _⟩
        · by_cases hb0 : x < 0
          · have hS := Lib.hid (open_big hzz.out hg (.inl hb0))
            have HG := Lib.hid hg
            clear hg
            go_enter Try.func29, Try.ntmps29
            go_wp2_with fail
            refine (ref_get _ t _ hsub).mono ?_
            rintro e w' ⟨rfl, rfl⟩
            rw [HG.out]
            unfold getV
            go_wp2_with fail
            ((try simp only [Exit.inBlock, Exit.then]); refine bodyPost_ret (results_tmp4 rfl _ _ _) rfl ?_)
            rw [hS.out]
            exact ⟨_, rfl, Bytes.nil _ none 0 (by omega), Below.refl _ _⟩
          · by_cases hb1 : 4000 < x
            · have hS := Lib.hid (open_big hzz.out hg (.inr hb1))
              have HG := Lib.hid hg
              clear hg
              go_enter Try.func29, Try.ntmps29
              go_wp2_with fail
              refine (ref_get _ t _ hsub).mono ?_
              rintro e w' ⟨rfl, rfl⟩
              rw [HG.out]
              unfold getV
              go_wp2_with fail
              ((try simp only [Exit.inBlock, Exit.then]); refine bodyPost_ret (results_tmp4 rfl _ _ _) rfl ?_)
              rw [hS.out]
              exact ⟨_, rfl, Bytes.nil _ none 0 (by omega), Below.refl _ _⟩
            · obtain ⟨n, rfl⟩ := Int.eq_ofNat_of_zero_le (show 0 ≤ x by omega)
              by_cases hsh : t.length < k + 4 + n
              · have hS := Lib.hid (open_short hzz.out hg (by omega) (by omega) (by simpa using hsh))
                have HG := Lib.hid hg
                clear hg
                go_enter Try.func29, Try.ntmps29
                go_wp2_with fail
                refine (ref_get _ t _ hsub).mono ?_
                rintro e w' ⟨rfl, rfl⟩
                rw [HG.out]
                unfold getV
                go_wp2_with fail
                ((try simp only [Exit.inBlock, Exit.then]); refine bodyPost_ret (results_tmp4 rfl _ _ _) rfl ?_)
                rw [hS.out]
                exact ⟨_, rfl, Bytes.nil _ none 0 (by omega), Below.refl _ _⟩
              · have hS := open_full hzz.out hg (by omega) (by omega) (by simpa using hsh)
                rw [Int.toNat_natCast] at hS
                have hR := open_ref hzz.out hg (by omega) (by omega) (by rw [Int.toNat_natCast]; omega)
                rw [Int.toNat_natCast] at hR
                have HR := Lib.hid hR
                have HS := Lib.hid hS
                have HG := Lib.hid hg
                clear hg hS hR
                have hdr : (c :: t).drop (1 + k + 4) = t.drop (k + 4) := by rw [show 1 + k + 4 = (k + 4) + 1 by omega, List.drop_succ_cons]
                have hbody := Bytes.part HCELL.out (1 + k + 4) n (cap - (1 + k + 4)) (by rw [List.length_cons]; omega) (by omega) (by omega)
                have hpre := hb.take (1 + k + 4 + n) (by rw [List.length_cons]; omega)
                rw [hdr] at hbody
                clear hdr
                have hlast : n = 0 → Bytes w (.slice (some ⟨b, off, none⟩) 0 0) ((t.drop (k + 4)).take n) := fun h => by rw [h, List.take_zero]; exact Bytes.nil _ _ _ (by omega)
                have HLAST := Lib.hid hlast
                clear hlast
                go_enter Try.func29, Try.ntmps29
                go_wp2_with fail
                refine (ref_get _ t _ hsub).mono ?_
                rintro e w' ⟨rfl, rfl⟩
                rw [HG.out]
                unfold getV
                clear hsub
                go_upto_region 15 with fail
                rename World => w
                go_cut [10] (fun s wx => Bytes w s ((t.drop (k + 4)).take n) ∧ wx = w)
                case first =>
                  have q3 : IntKind.i64.wrap (1 + (k : Int) + 4 + (n : Int)) = 1 + (k : Int) + 4 + (n : Int) := IntWalk.i64_in _ (by omega)
                  have q5 : (0 : Int) ≤ 1 + (k : Int) + 4 := by omega
                  have q6 : 1 + (k : Int) + 4 ≤ 1 + (k : Int) + 4 + (n : Int) := by omega
                  have q7 : 1 + (k : Int) + 4 + (n : Int) ≤ (cap : Int) := by omega
                  have q8 : (1 + (k : Int) + 4).toNat = 1 + k + 4 := by omega
                  have q9 : (1 + (k : Int) + 4 + (n : Int)).toNat = 1 + k + 4 + n := by omega
                  clear hpre hb HR HS HG
                  have hnn : 1 + k + 4 + n - (1 + k + 4) = n := by omega
                  by_cases hcx : cap = 1 + k + 4
                  · have hn0 : n = 0 := by omega
                    have hB := HLAST.out hn0
                    subst hn0 hcx
                    clear hnn
                    go_wp2_with fail
                    go_meet
                    exact ⟨by simpa using hB, rfl⟩
                  · have HNN := Lib.hid hnn
                    clear hnn
                    go_wp2_with fail
                    go_meet
                    exact ⟨hbody, rfl⟩
                case rest =>
                  obtain ⟨hB, rfl⟩ := hcut
                  rename World => w
                  clear hbody HLAST
                  have hbl : ((t.drop (k + 4)).take n).length ≤ 4000 := by rw [List.length_take]; omega
                  generalize hbod : (t.drop (k + 4)).take n = body at *
                  generalize hpr : (c :: t).take (1 + k + 4 + n) = pre at *
                  clear hbod hpr
                  have q1 : (0 : Int) ≤ 1 + (k : Int) + 4 + (n : Int) ∧ (1 + (k : Int) + 4 + (n : Int)) ≤ (cap : Int) := by omega
                  have q2 : (1 + (k : Int) + 4 + (n : Int)).toNat = 1 + k + 4 + n := by omega
                  have q3 : IntKind.i64.wrap (1 + (k : Int) + 4 + (n : Int)) = 1 + (k : Int) + 4 + (n : Int) := IntWalk.i64_in _ (by omega)
                  have q4 : IntKind.i64.wrap (c.toNat : Int) = (c.toNat : Int) := IntWalk.i64_in _ (by have := c.toNat_lt; omega)
                  have hc8 := c.toNat_lt
                  go_upto_region 16 with fail
                  go_cut [73] (fun s wx => s = .bool (!decide (sealP (c.toNat : Int) body = pre)) ∧ Below w.heap.size w wx)
                  case first =>
                    have hlt := World.block_lt_of_cell? w _ hc0
                    refine wp_region_sw (by rfl) (by kernel_rfl) (fun k => match k with | 5 => some (fun v w => Bytes w v (sealP (c.toNat : Int) body)) | _ => none) ?_ (fun vals => ?_)
                    · intro k φ hk v w1 w2 h1 h2
                      match k, hk with
                      | 5, hk => obtain rfl := Option.some.inj hk; exact h1.below h2 rfl
                    iterate 2 (refine sw_pure (by rfl) (fun K hK => ?_); go_simp; refine hK _ ?_; clear hK K)
                    refine sw_at (.int .u8 (c.toNat : Int)) rfl rfl (fun wz hz hH => ?_) (fun K hK => ?_)
                    · have h2 := (hz.cell (p := ⟨b, off, none⟩) hlt).trans hc0
                      go_simp
                    go_simp; refine hK _ ?_; clear hK K
                    iterate 2 (refine sw_pure (by rfl) (fun K hK => ?_); go_simp; refine hK _ ?_; clear hK K)
                    refine sw_call _ rfl rfl (fun wz hz hH => ?_) (fun K hK => ?_)
                    · go_simp
                      go_at_call 25
                      refine (ref_seal _ _ body _ (by omega) (by omega) (hB.below hz rfl)).mono ?_
                      rintro e w' ⟨v, rfl, hv, hbl⟩
                      exact ⟨v, rfl, hv.bytes, hbl⟩
                    go_simp; refine hK _ ?_; clear hK K
                    refine sw_at (.string ⟨(sealP (c.toNat : Int) body).toArray⟩) rfl rfl (fun wz hz hH => ?_) (fun K hK => ?_)
                    · go_simp
                      rw [conv_str (hH _ (List.Mem.head _) rfl)]
                      exact ⟨rfl, rfl⟩
                    go_simp; refine hK _ ?_; clear hK K
                    iterate 5 (refine sw_pure (by rfl) (fun K hK => ?_); go_simp; refine hK _ ?_; clear hK K)
                    refine sw_at (.string ⟨pre.toArray⟩) rfl rfl (fun wz hz hH => ?_) (fun K hK => ?_)
                    · go_simp
                      rw [conv_str (hpre.below hz rfl)]
                      exact ⟨rfl, rfl⟩
                    go_simp; refine hK _ ?_; clear hK K
                    refine sw_at (.bool (!decide (sealP (c.toNat : Int) body = pre))) rfl rfl (fun wz hz hH => ?_) (fun K hK => ?_)
                    · go_simp
                      rw [Bool.eq_iff_iff, beq_iff_eq, decide_eq_true_iff]
                    go_simp; refine hK _ ?_; clear hK K
                    refine sw_done (fun wz hz hH => ?_)
                    go_wp2_with fail
                    go_meet
                    exact ⟨rfl, hz⟩
                  case rest =>
                    obtain ⟨rfl, hbz⟩ := hcut
                    by_cases hE : sealP (c.toNat : Int) body = pre
                    · have hS2 := Lib.hid (HS.out.trans (if_pos (HR.out.1 hE)))
                      have hE2 : decide (sealP (c.toNat : Int) body = pre) = true := decide_eq_true hE
                      rw [hE2]
                      clear hE hE2 HS HR
                      have hlt := World.block_lt_of_cell? w _ hc0
                      rw [← hbz.cell (p := ⟨b, off, none⟩) hlt] at hc0
                      go_wp2_with fail
                      ((try simp only [Exit.inBlock, Exit.then]); refine bodyPost_ret (results_tmp4 rfl _ _ _) rfl ?_)
                      rw [hS2.out]
                      refine ⟨_, ?_, hB.below hbz rfl, hbz⟩
                      show Ending.returned (.tuple #[.int .i64 (c.toNat : Int), _, .int .i64 (1 + (k : Int) + 4 + (n : Int)), .int .i64 0]) = _
                      have hcast : ((1 + k + 4 + n : Nat) : Int) = 1 + (k : Int) + 4 + (n : Int) := by omega
                      dsimp only
                      rw [hcast]
                      rfl
                    · have hS2 := Lib.hid (HS.out.trans (if_neg (fun h => hE (HR.out.2 h))))
                      have hE2 : decide (sealP (c.toNat : Int) body = pre) = false := decide_eq_false hE
                      rw [hE2]
                      clear hE hE2 HS HR
                      go_wp2_with fail
                      ((try simp only [Exit.inBlock, Exit.then]); refine bodyPost_ret (results_tmp4 rfl _ _ _) rfl ?_)
                      rw [hS2.out]
                      exact ⟨_, rfl, Bytes.nil _ none 0 (by omega), hbz⟩
end Go.Proofs.Ytankebgpkhcgnaa
