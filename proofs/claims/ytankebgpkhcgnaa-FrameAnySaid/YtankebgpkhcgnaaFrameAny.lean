/-
  Any bytes begin with a frame, with the beginning of one, or with none, as the document says: of any bytes, and of any frame, cut off and changed anywhere. No condition.
-/
import Derived.Test.YtankebgpkhcgnaaFrameB
import Derived.Test.YtankebgpkhcgnaaFrameRef
import Derived.Test.YtankebgpkhcgnaaOpen
import Derived.Test.YtankebgpkhcgnaaZeros
namespace Go.Proofs.Ytankebgpkhcgnaa
open Go.ChangeShapes Go.WideShapes Go.ChangeAt Go.RowKit

theorem sealP_le (k : Int) (b : List UInt8) : (sealP k b).length ≤ 4016 := by
  by_cases h : k < 1 ∨ 255 < k ∨ 4000 < b.length
  · rw [sealP_no h]; simp
  · rw [sealP_len (by omega) (by omega) (by omega)]
    have := putN_len b.length
    omega

theorem OwnB.take {w : World} {base e n cap : Nat} {a : Option Addr} {l : List UInt8} (h : OwnB w base e (.slice a n cap) l) (k : Nat) (hk : k ≤ l.length) : OwnB w base e (.slice a k cap) (l.take k) := by
  obtain ⟨h1, h2⟩ := h
  have hlen : (l.take k).length = k := by rw [List.length_take]; omega
  refine ⟨by rw [List.length_map, Nat.mul_one], ?_⟩
  rcases h2 with ⟨h3, h4⟩ | ⟨g, cap', cur, h3, hb, hg, hnc, hcm, hcs, htake⟩
  · simp only [Value.slice.injEq] at h3
    obtain ⟨rfl, rfl, rfl⟩ := h3
    obtain rfl : k = 0 := by omega
    exact .inl ⟨rfl, by simp⟩
  · simp only [Value.slice.injEq] at h3
    obtain ⟨rfl, rfl, rfl⟩ := h3
    refine .inr ⟨g, _, cur, by rw [hlen], hb, hg, by omega, hcm, hcs, ?_⟩
    rw [hlen, Nat.mul_one, List.map_take, ← htake, Nat.mul_one, List.take_take, Nat.min_eq_left hk]

set_option maxRecDepth 100000 in
theorem frame_tells (v : Value) (l : List UInt8) (w : World) (h : Bytes w v l) (hl : l.length ≤ 1000000000) :
    Calls Try.prog 27 #[v] w fun e w' => e = .returned (.bool true) ∧ Below w.heap.size w w' := by
  go_enter Try.func27, Try.ntmps27
  go_wp2_with fail
  refine (frame_openO _ l _ h hl).mono ?_
  rintro e w1 ⟨v1, rfl, ho1, hb1⟩
  have h1 := h.below hb1 rfl
  have hx1 := ho1.bytes
  clear h ho1
  go_wp2_with fail
  refine (ref_open _ l _ h1 hl).mono ?_
  rintro e w2 ⟨v2, rfl, hx2, hb2⟩
  have hb3 := hb1.trans (hb2.mono hb1.size)
  have hc1 := conv_str (hx1.below hb2 rfl)
  have hc2 := conv_str hx2
  generalize openP l = r at *
  obtain ⟨rk, rb, rn, re⟩ := r
  dsimp only at hc1 hc2 ⊢
  clear h1 hx1 hx2 hb2 hb1
  go_wp2_with fail
  go_ret
  exact ⟨rfl, hb3⟩

set_option maxRecDepth 100000 in
set_option maxHeartbeats 4000000 in
theorem frameAny_walk (v0 : Value) (l0 : List UInt8) (v1 : Value) (l1 : List UInt8) (k cut at_ x : Int) (w : World) (h0 : Bytes w v0 l0) (h1 : Bytes w v1 l1) (wk : (Lit.int .i64 k).wf = true) (wc : (Lit.int .i64 cut).wf = true) (wa : (Lit.int .i64 at_).wf = true) (wx : (Lit.int .u8 x).wf = true) :
    Calls Try.prog 6 #[v0, v1, .int .i64 k, .int .i64 cut, .int .i64 at_, .int .u8 x] w fun e w' => e = .returned (.bool true) ∧ Below w.heap.size w w' := by
  have wk := wf_i64 wk
  have wc := wf_i64 wc
  have wa := wf_i64 wa
  have wx := wf_u8 wx
  obtain ⟨cx, hcx⟩ : ∃ c : UInt8, x = (c.toNat : Int) := ⟨UInt8.ofNat x.toNat, by simp only [UInt8.toNat_ofNat']; omega⟩
  subst hcx
  clear wx
  go_enter Try.func6, Try.ntmps6
  go_wp2_with fail
  refine (frame_begun _).mono ?_
  rintro e w1 ⟨rfl, hb1⟩
  have h0 := h0.below hb1 rfl
  have h1 := h1.below hb1 rfl
  go_wp2_with fail
  refine (short_fun _ l1 60 _ (by decide) h1).mono ?_
  rintro e w2 ⟨v2, rfl, hF, rfl⟩
  have hR := hF _ h1
  clear hF h1
  have hlr : (l1.take 60).length ≤ 60 := List.length_take_le _ _
  generalize l1.take 60 = r at *
  go_wp2_with fail
  refine (short_any _ l0 200 _ (by decide) h0).mono ?_
  rintro e w3 ⟨v3, rfl, hB, rfl⟩
  generalize l0.take 200 = b at *
  clear h0
  rename World => w3
  go_wp2_with fail
  refine (ref_seal k _ b _ wk.1 wk.2 hB).mono ?_
  rintro e w4 ⟨v4, rfl, ho4, hb4⟩
  have hle := sealP_le k b
  generalize sealP k b = L at *
  clear hB
  go_upto_region 6 with fail
  rename World => w4
  obtain ⟨a4, c4, rfl⟩ := ho4.len
  have hcap4 : L.length ≤ c4 := by
    obtain ⟨_, _, hv, hle, _⟩ := ho4.bytes
    simp only [Value.slice.injEq] at hv
    omega
  have HO4 := Lib.hid ho4
  clear ho4
  go_cut [31] (fun s wx => s = .bool (decide (0 < cut ∧ cut ≤ L.length)) ∧ wx = w4)
  case first =>
    by_cases m0 : 0 < cut
    · have t0 : decide (0 < cut) = true := decide_eq_true m0
      by_cases m1 : cut ≤ L.length
      · have t1 : decide (cut ≤ (L.length : Int)) = true := decide_eq_true m1
        have t2 : decide (0 < cut ∧ cut ≤ (L.length : Int)) = true := decide_eq_true ⟨m0, m1⟩
        go_wp2_with fail
        go_meet
        exact ⟨by rw [t2], rfl⟩
      · have t1 : decide (cut ≤ (L.length : Int)) = false := decide_eq_false m1
        have t2 : decide (0 < cut ∧ cut ≤ (L.length : Int)) = false := decide_eq_false fun h => m1 h.2
        go_wp2_with fail
        go_meet
        exact ⟨by rw [t2], rfl⟩
    · have t0 : decide (0 < cut) = false := decide_eq_false m0
      have t2 : decide (0 < cut ∧ cut ≤ (L.length : Int)) = false := decide_eq_false fun h => m0 h.1
      go_wp2_with fail
      go_meet
      exact ⟨by rw [t2], rfl⟩
  case rest =>
    obtain ⟨rfl, rfl⟩ := hcut
    rename World => w5
    have HM : Hid (decide (0 < cut ∧ cut ≤ L.length) = true → 0 < cut ∧ cut ≤ L.length) := Lib.hid (fun h => by simpa using h)
    generalize decide (0 < cut ∧ cut ≤ L.length) = c at *
    go_upto_if 31 with fail
    go_cut [14] (fun s wx => ∃ M : List UInt8, OwnB w5 w3.heap.size 5 s M ∧ M.length ≤ 4016 ∧ wx = w5)
    case first =>
      cases c
      · go_wp2_with fail
        go_meet
        exact ⟨L, HO4.out, hle, rfl⟩
      · obtain ⟨m0, m1⟩ := HM.out rfl
        obtain ⟨m, rfl⟩ := Int.eq_ofNat_of_zero_le (show 0 ≤ cut by omega)
        have s1 : IntKind.i64.wrap ((L.length : Int) - m) = (L.length : Int) - m := IntWalk.i64_in _ (by omega)
        have s2 : ((L.length : Int) - m).toNat = L.length - m := by omega
        have s3 : (0 : Int) ≤ (L.length : Int) - m := by omega
        have s4 : (L.length : Int) - m ≤ (c4 : Int) := by omega
        go_wp2_with fail
        go_meet
        exact ⟨_, HO4.out.take (L.length - m) (by omega), by rw [List.length_take]; omega, rfl⟩
    case rest =>
      obtain ⟨M, hM, hMl, rfl⟩ := hcut
      clear HO4 HM hle hcap4
      rename World => w6
      go_upto_region 8 with fail
      obtain ⟨a6, c6, hs6⟩ := hM.len
      rename Value => s6
      rw [hs6] at hM ⊢
      clear hs6
      have HOM := Lib.hid hM
      clear hM
      go_cut [44] (fun s wx => s = .bool (decide (0 < M.length ∧ 0 ≤ at_)) ∧ wx = w6)
      case first =>
        by_cases m0 : M.length = 0
        · have t0 : decide ((0 : Int) < (M.length : Int)) = false := decide_eq_false (by omega)
          have t2 : decide (0 < M.length ∧ 0 ≤ at_) = false := decide_eq_false fun h => by omega
          go_wp2_with fail
          go_meet
          exact ⟨by rw [t2], rfl⟩
        · have t0 : decide ((0 : Int) < (M.length : Int)) = true := decide_eq_true (by omega)
          by_cases m1 : 0 ≤ at_
          · have t1 : decide (0 ≤ at_) = true := decide_eq_true m1
            have t2 : decide (0 < M.length ∧ 0 ≤ at_) = true := decide_eq_true ⟨by omega, m1⟩
            go_wp2_with fail
            go_meet
            exact ⟨by rw [t2], rfl⟩
          · have t1 : decide (0 ≤ at_) = false := decide_eq_false m1
            have t2 : decide (0 < M.length ∧ 0 ≤ at_) = false := decide_eq_false fun h => m1 h.2
            go_wp2_with fail
            go_meet
            exact ⟨by rw [t2], rfl⟩
      case rest =>
        obtain ⟨rfl, rfl⟩ := hcut
        rename World => w7
        have HM : Hid (decide (0 < M.length ∧ 0 ≤ at_) = true → 0 < M.length ∧ 0 ≤ at_) := Lib.hid (fun h => by simpa using h)
        generalize decide (0 < M.length ∧ 0 ≤ at_) = c at *
        go_upto_if 44 with fail
        go_cut [14] (fun s wx => ∃ M : List UInt8, Bytes wx s M ∧ M.length ≤ 4016 ∧ Below w3.heap.size w3 wx)
        case first =>
          cases c
          · have hM := HOM.out.bytes
            go_wp2_with fail
            go_meet
            exact ⟨M, hM, hMl, hb4⟩
          · obtain ⟨m0, m1⟩ := HM.out rfl
            obtain ⟨m, rfl⟩ := Int.eq_ofNat_of_zero_le (show 0 ≤ at_ by omega)
            obtain ⟨g, c, hv, hg0, hg1, hgc⟩ := HOM.out.shape (by intro h; rw [h] at m0; simp at m0)
            simp only [Value.slice.injEq, true_and] at hv
            obtain ⟨rfl, rfl⟩ := hv
            have hlt : m % M.length < M.length := Nat.mod_lt _ m0
            have hcell := HOM.out.cellAt (m % M.length) hlt
            have hfro := HOM.out.frozenAt (m % M.length)
            have HST := Lib.hid (HOM.out.stored (m % M.length) (M[m % M.length] ^^^ cx))
            go_wp2_with fail
            have hv : byteV (M[m % M.length] ^^^ cx) = .int .u8 (bits .xor .u8 ((M[m % M.length]).toNat : Int) (cx.toNat : Int)) := by
              unfold byteV
              rw [u8_xor_nat _ _ (M[m % M.length]).toNat_lt cx.toNat_lt, UInt8.toNat_xor]
            have hst := HST.out
            rw [hv] at hst
            go_meet
            exact ⟨_, hst.1.bytes, by rw [List.length_set]; exact hMl, hb4.grown hst.2 hb4.size (fun k hk => by cases hk; exact hg0)⟩
        case rest =>
          obtain ⟨N, hN, hNl, hbN⟩ := hcut
          have hR8 := hR.below hbN rfl
          have hbN2 := hb1.trans (hbN.mono hb1.size)
          clear HOM HM hR hbN
          go_wp2_with fail
          refine (frame_tells _ r _ hR8 (by omega)).mono ?_
          rintro e w9 ⟨rfl, hb9⟩
          have hN9 := hN.below hb9 rfl
          have hbz := hbN2.trans (hb9.mono hbN2.size)
          clear hN hR8 hb9 hbN2
          go_wp2_with fail
          refine (frame_tells _ N _ hN9 (by omega)).mono ?_
          rintro e w10 ⟨rfl, hb10⟩
          have hby := hbz.trans (hb10.mono hbz.size)
          clear hN9 hb10 hbz
          go_wp2_with fail
          go_ret
          exact ⟨rfl, hby⟩
/-! ### From the row to the walk -/
namespace frameAnyF
set_option linter.unusedVariables false
theorem own : ownKnob Try.prog.godebug = none := by kernel_rfl
theorem laidOut : laidOutB Try.prog = true := by kernel_rfl
set_option maxRecDepth 100000 in
theorem lifted (os : Os) (started : os.Started) (H : Type) (enc : TypeId × Value → H) :
    ReturnsInHanded {} Try.checked os 6 .any (Rows.frameAnySpec.pre6 enc Try.prog Try.f6 Rows.frameAnyRow.domain false) (Rows.frameAnySpec.post enc Try.prog Try.f6 false true false false) := by
  refine returnsInHanded_of_change (C := Try.checked) own started (by kernel_rfl) Try.func6
    (ChangeSpec.witness6 (enc := enc) (C := Try.checked) false ⟨#[], #[.slice none 0 0, .slice none 0 0, .int .i64 0, .int .i64 0, .int .i64 0, .int .u8 0], []⟩ 8 (by kernel_rfl) (by kernel_rfl) (by kernel_rfl) (by kernel_rfl)) ?_
  intro W base args ds gs before hval0 hW hcnd _
  have hval : ∀ (j : Nat) t v, Try.f6.params[j]? = some t → args[j]? = some v → Value.okWide Try.prog W .any base t v := hval0
  have hW' := hW
  obtain ⟨p, q, hA0, hV, rfl, hfz, hnd⟩ := hW
  have hA : DataW.TrodAll enc Try.prog W 0 (fun _ => true) true Try.f6.params.toList args.toList ds p := hA0
  rw [Try.params6] at hA hval
  obtain ⟨v0, vs0, d0, ds0, p0, q0, hargs, rfl, rfl, h0, r0⟩ := trodAll_cons hA
  obtain ⟨v1, vs1, d1, ds1, p1, q1, rfl, rfl, rfl, h1, r1⟩ := trodAll_cons r0
  obtain ⟨v2, vs2, d2, ds2, p2, q2, rfl, rfl, rfl, h2, r2⟩ := trodAll_cons r1
  obtain ⟨v3, vs3, d3, ds3, p3, q3, rfl, rfl, rfl, h3, r3⟩ := trodAll_cons r2
  obtain ⟨v4, vs4, d4, ds4, p4, q4, rfl, rfl, rfl, h4, r4⟩ := trodAll_cons r3
  obtain ⟨v5, vs5, d5, ds5, p5, q5, rfl, rfl, rfl, h5, r5⟩ := trodAll_cons r4
  obtain ⟨rfl, rfl, rfl⟩ := trodAll_nil r5
  obtain rfl : args = #[v0, v1, v2, v3, v4, v5] := by cases args; simp_all
  obtain ⟨rfl, rfl⟩ := trodVars_none hV
  have k0 := h0
  have lt0 : ∀ x ∈ p0, x.block < W.heap.size := by obtain ⟨m, hm⟩ := k0; exact DataW.trod_lt m _ _ _ hm
  obtain ⟨l0, w0⟩ := open_bytes Try.underlying30 Try.underlying5 (by kernel_rfl) (hval 0 30 v0 rfl rfl) h0
  have k1 := h1
  have lt1 : ∀ x ∈ p1, x.block < W.heap.size := by obtain ⟨m, hm⟩ := k1; exact DataW.trod_lt m _ _ _ hm
  obtain ⟨l1, w1⟩ := open_bytes Try.underlying30 Try.underlying5 (by kernel_rfl) (hval 1 30 v1 rfl rfl) h1
  have k2 := h2
  have lt2 : ∀ x ∈ p2, x.block < W.heap.size := by obtain ⟨m, hm⟩ := k2; exact DataW.trod_lt m _ _ _ hm
  obtain ⟨a2, rfl, hd2, hp2, w2⟩ := open_int Try.underlying3 (hval 2 3 v2 rfl rfl) h2
  have k3 := h3
  have lt3 : ∀ x ∈ p3, x.block < W.heap.size := by obtain ⟨m, hm⟩ := k3; exact DataW.trod_lt m _ _ _ hm
  obtain ⟨a3, rfl, hd3, hp3, w3⟩ := open_int Try.underlying3 (hval 3 3 v3 rfl rfl) h3
  have k4 := h4
  have lt4 : ∀ x ∈ p4, x.block < W.heap.size := by obtain ⟨m, hm⟩ := k4; exact DataW.trod_lt m _ _ _ hm
  obtain ⟨a4, rfl, hd4, hp4, w4⟩ := open_int Try.underlying3 (hval 4 3 v4 rfl rfl) h4
  have k5 := h5
  have lt5 : ∀ x ∈ p5, x.block < W.heap.size := by obtain ⟨m, hm⟩ := k5; exact DataW.trod_lt m _ _ _ hm
  obtain ⟨a5, rfl, hd5, hp5, w5⟩ := open_int Try.underlying5 (hval 5 5 v5 rfl rfl) h5
  clear hA0 hval0
  refine (frameAny_walk v0 l0 v1 l1 a2 a3 a4 a5 W w0 w1 w2 w3 w4 w5).mono fun e W' ⟨he, bel⟩ => ?_
  subst he
  exact ⟨_, rfl, _, _, _, [], _, [], hW', trodAll_mk1 (shut_bool Try.underlying4 _), (trodAll_cons_mk (Below.trod laidOut (by kernel_rfl) (of_decide_eq_true (by kernel_rfl)) k0 bel lt0) (trodAll_cons_mk (Below.trod laidOut (by kernel_rfl) (of_decide_eq_true (by kernel_rfl)) k1 bel lt1) (trodAll_cons_mk (Below.trod laidOut (by kernel_rfl) (of_decide_eq_true (by kernel_rfl)) k2 bel lt2) (trodAll_cons_mk (Below.trod laidOut (by kernel_rfl) (of_decide_eq_true (by kernel_rfl)) k3 bel lt3) (trodAll_cons_mk (Below.trod laidOut (by kernel_rfl) (of_decide_eq_true (by kernel_rfl)) k4 bel lt4) (trodAll_cons_mk (Below.trod laidOut (by kernel_rfl) (of_decide_eq_true (by kernel_rfl)) k5 bel lt5) trodAll_mk0)))))), rfl, bel.frame _, fun h => by cases h⟩
theorem over : Rows.frameAnyRow.holds Try.pinned (OpenSpec.ofChange Rows.frameAnySpec) :=
  OpenClaim.holds_of_wide 6 Try.f6 rfl rfl rfl rfl rfl rfl rfl ⟨rfl, rfl, rfl, rfl, rfl⟩ rfl rfl rfl rfl rfl (by kernel_rfl) Try.func6 (by kernel_rfl)
    (of_decide_eq_true (by kernel_rfl)) (by unfold Func.isWrapper; first | (rw [if_pos (by decide +kernel)]; kernel_rfl) | (rw [if_neg (by decide +kernel)]; exact ⟨rfl, rfl⟩))
    (fun os started H enc _ => lifted os started H enc)
end frameAnyF
theorem frameAny_holds : Rows.FrameAnySaid := frameAnyF.over
#print axioms frameAny_holds
end Go.Proofs.Ytankebgpkhcgnaa
