/-
  What may be sealed is told again, whatever stands behind; what may not is not: of any kind, body, rest. No condition.
-/
import Derived.Test.YtankebgpkhcgnaaFrameB
import Derived.Test.YtankebgpkhcgnaaOpen
import Derived.Test.YtankebgpkhcgnaaZeros
namespace Go.Proofs.Ytankebgpkhcgnaa
open Go.ChangeShapes Go.WideShapes Go.ChangeAt Go.RowKit

theorem sealP_le (k : Int) (b : List UInt8) : (sealP k b).length ≤ 4016 := by
  by_cases h : k < 1 ∨ 255 < k ∨ 4000 < b.length
  · rw [sealP_no h]; simp
  · rw [sealP_len (by omega) (by omega) (by omega)]
    have := putN_len b.length
    omega

set_option maxRecDepth 100000 in
set_option maxHeartbeats 4000000 in
theorem frameBack_walk (k : Int) (v : Value) (l : List UInt8) (vr : Value) (lr : List UInt8) (more : Int) (w : World) (wk : (Lit.int .i64 k).wf = true) (hb : Bytes w v l) (hr : Bytes w vr lr) (wm : (Lit.int .i64 more).wf = true) :
    Calls Try.prog 5 #[.int .i64 k, v, vr, .int .i64 more] w fun e w' => e = .returned (.bool true) ∧ Below w.heap.size w w' := by
  have wk := wf_i64 wk
  have wm := wf_i64 wm
  go_enter Try.func5, Try.ntmps5
  go_wp2_with fail
  refine (frame_begun _).mono ?_
  rintro e w1 ⟨rfl, hb1⟩
  have hB := hb.below hb1 rfl
  have hR := hr.below hb1 rfl
  clear hb hr
  go_wp2_with fail
  refine (short_any _ l 100 _ (by decide) hB).mono ?_
  rintro e w2 ⟨v2, rfl, hB2, rfl⟩
  clear hB
  have hl : (l.take 100).length ≤ 100 := List.length_take_le _ _
  generalize l.take 100 = b at *
  go_wp2_with (at_builtin; refine wpList_append_bytes 30 w2.heap.size 5 Try.underlying30 info_u8 rfl _ _ rfl (OwnB.nil _ _ _) hB2 rfl rfl (by simp; omega) (Nat.le_refl _) ?_)
  intro v3 w3 ho3 hg3 hk3
  have hb3 : Below w2.heap.size w2 w3 := below_of_grown hg3
  have hR3 := hR.below hb3 rfl
  clear hg3 hk3 hB2
  go_wp2_with fail
  refine (short_fun _ lr 20 _ (by decide) hR3).mono ?_
  rintro e w4 ⟨v4, rfl, hF, rfl⟩
  have hR2 := hF _ hR
  have hR4 := hF _ hR3
  clear hF hR
  have hlr : (lr.take 20).length ≤ 20 := List.length_take_le _ _
  generalize lr.take 20 = r at *
  clear hR3
  rename World => w4
  go_upto_region 5 with fail
  go_cut [28] (fun s wx => s = .bool (decide (0 < more ∧ more < 4200)) ∧ wx = w4)
  case first =>
    by_cases m0 : 0 < more
    · have t0 : decide (0 < more) = true := decide_eq_true m0
      by_cases m1 : more < 4200
      · have t1 : decide (more < 4200) = true := decide_eq_true m1
        have t2 : decide (0 < more ∧ more < 4200) = true := decide_eq_true ⟨m0, m1⟩
        go_wp2_with fail
        go_meet
        exact ⟨by rw [t2], rfl⟩
      · have t1 : decide (more < 4200) = false := decide_eq_false m1
        have t2 : decide (0 < more ∧ more < 4200) = false := decide_eq_false fun h => m1 h.2
        go_wp2_with fail
        go_meet
        exact ⟨by rw [t2], rfl⟩
    · have t0 : decide (0 < more) = false := decide_eq_false m0
      have t2 : decide (0 < more ∧ more < 4200) = false := decide_eq_false fun h => m0 h.1
      go_wp2_with fail
      go_meet
      exact ⟨by rw [t2], rfl⟩
  case rest =>
    obtain ⟨rfl, rfl⟩ := hcut
    rename World => w4
    have hB3 := ho3.bytes
    have HM : Hid (decide (0 < more ∧ more < 4200) = true → 0 < more ∧ more < 4200) := Lib.hid (fun h => by simpa using h)
    generalize decide (0 < more ∧ more < 4200) = c at *
    go_upto_if 28 with fail
    go_cut [1] (fun s wx => ∃ B : List UInt8, Bytes wx s B ∧ B.length ≤ 4400 ∧ Below w.heap.size w wx ∧ Bytes wx v4 r)
    case first =>
      cases c
      · go_wp2_with fail
        go_meet
        exact ⟨b, hB3, by omega, hb1.trans (hb3.mono hb1.size), hR4⟩
      · obtain ⟨m0, m1⟩ := HM.out rfl
        obtain ⟨m, rfl⟩ := Int.eq_ofNat_of_zero_le (show 0 ≤ more by omega)
        have hsz := hb3.size
        have hlt := fun k hk => (ho3.lt k hk).1
        go_wp2_with (at_builtin; refine wpList_append_zeros 30 3 w2.heap.size 5 .i64 Try.underlying30 Try.underlying3 info_u8 rfl _ _ rfl ho3 m .i64 rfl rfl (by omega) (by omega) hsz ?_)
        intro v5 w5 ho5 hg5 hk5
        have hb5 : Below w2.heap.size w2 w5 := hb3.grown hg5 hsz hlt
        have hB5 := ho5.bytes
        have hR5 := hR2.below hb5 rfl
        clear ho5 hg5 hk5
        go_wp2_with fail
        go_meet
        exact ⟨_, hB5, by rw [List.length_append, List.length_replicate]; omega, hb1.trans (hb5.mono hb1.size), hR5⟩
    case rest =>
      obtain ⟨B, hB, hBl, hbel, hR⟩ := hcut
      clear hR2 hR4 hB3 hb3 ho3 HM
      rename World => w5
      go_wp2_with fail
      refine (frame_seal k _ B _ wk.1 wk.2 hB).mono ?_
      rintro e w6 ⟨v6, rfl, ho6, hb6⟩
      have hB6 := hB.below hb6 rfl
      have hR6 := hR.below hb6 rfl
      have hbel6 := hbel.trans (hb6.mono hbel.size)
      have hS6 := ho6.bytes
      have hle := sealP_le k B
      have hnil := Lib.hid (sealP_nil (k := k) (b := B))
      have hopen := Lib.hid (fun h0 h1 h2 => open_seal (k := k) (b := B) r h0 h1 h2)
      clear hb6 ho6 hB hR hbel
      obtain ⟨L, hL⟩ : ∃ L, L = sealP k B := ⟨_, rfl⟩
      rw [← hL] at hS6 hle hnil hopen
      have HL := Lib.hid hL
      clear hL
      go_upto_region 8 with fail
      rename World => w6
      go_cut [41] (fun s wx => s = .bool false ∧ Below w6.heap.size w6 wx)
      case first =>
        refine wp_region_sw (by rfl) (by kernel_rfl) (fun k => match k with | 4 => some (fun v w => Bytes w v L) | _ => none) ?_ (fun vals => ?_)
        · intro k φ hk v w1 w2 h1 h2
          match k, hk with
          | 4, hk => obtain rfl := Option.some.inj hk; exact h1.below h2 rfl
        iterate 1 (refine sw_pure (by rfl) (fun K hK => ?_); go_simp; refine hK _ ?_; clear hK K)
        refine sw_at (.string ⟨L.toArray⟩) rfl rfl (fun wz hz hH => ?_) (fun K hK => ?_)
        · go_simp
          rw [conv_str (hS6.below hz rfl)]
          exact ⟨rfl, rfl⟩
        go_simp; refine hK _ ?_; clear hK K
        iterate 2 (refine sw_pure (by rfl) (fun K hK => ?_); go_simp; refine hK _ ?_; clear hK K)
        refine sw_call _ rfl rfl (fun wz hz hH => ?_) (fun K hK => ?_)
        · go_simp
          go_at_call 25
          refine (ref_seal _ _ B _ wk.1 wk.2 (hB6.below hz rfl)).mono ?_
          rintro e w' ⟨v, rfl, hv, hbl⟩
          rw [← HL.out] at hv
          exact ⟨v, rfl, hv.bytes, hbl⟩
        go_simp; refine hK _ ?_; clear hK K
        refine sw_at (.string ⟨L.toArray⟩) rfl rfl (fun wz hz hH => ?_) (fun K hK => ?_)
        · go_simp
          rw [conv_str (hH _ (List.Mem.head _) rfl)]
          exact ⟨rfl, rfl⟩
        go_simp; refine hK _ ?_; clear hK K
        refine sw_at (.bool false) rfl rfl (fun wz hz hH => ?_) (fun K hK => ?_)
        · go_simp
        go_simp; refine hK _ ?_; clear hK K
        refine sw_done (fun wz hz hH => ?_)
        go_wp2_with fail
        go_meet
        exact ⟨rfl, hz⟩
      case rest =>
        obtain ⟨rfl, hb7⟩ := hcut
        rename World => w7
        have hB7 := hB6.below hb7 rfl
        have hR7 := hR6.below hb7 rfl
        have hS7 := hS6.below hb7 rfl
        have hbel7 := hbel6.trans (hb7.mono hbel6.size)
        clear hB6 hR6 hS6 hbel6 hb7
        clear HL
        have hB8 := hB7
        have hS8 := hS7
        obtain ⟨a6, c6, rfl, h61, h62, -⟩ := hS7
        obtain ⟨a1, c1, rfl, h11, h12, -⟩ := hB7
        by_cases h0 : L = []
        · subst h0
          have HN := Lib.hid (hnil.out.1 rfl)
          clear hnil hopen
          by_cases t0 : k < 1
          · go_wp2_with fail
            go_ret
            exact ⟨rfl, hbel7⟩
          · by_cases t1 : 255 < k
            · go_wp2_with fail
              go_ret
              exact ⟨rfl, hbel7⟩
            · have t2 : decide ((4000 : Int) < (B.length : Int)) = true := decide_eq_true (by have := HN.out; omega)
              go_wp2_with fail
              go_ret
              exact ⟨rfl, hbel7⟩
        · have hg : ¬ (k < 1 ∨ 255 < k ∨ 4000 < B.length) := fun h => h0 (hnil.out.2 h)
          have HO := Lib.hid (hopen.out (by omega) (by omega) (by omega))
          have hl1 : L.length ≠ 0 := fun h => h0 (List.eq_nil_of_length_eq_zero h)
          have t0 : ((L.length : Int) == 0) = false := by rw [beq_eq_false_iff_ne]; omega
          clear h0 hnil hopen hg
          go_wp2_with (at_builtin; refine wpList_append_bytes 30 w7.heap.size 5 Try.underlying30 info_u8 rfl _ _ rfl (OwnB.nil _ _ _) hS8 rfl rfl (by simp; omega) (Nat.le_refl _) ?_)
          intro v8 w8 ho8 hg8 hk8
          have hb8 : Below w7.heap.size w7 w8 := below_of_grown hg8
          have hR8 := hR7.below hb8 rfl
          clear hg8 hk8
          go_wp2_with (at_builtin; refine wpList_append_bytes 30 w7.heap.size 5 Try.underlying30 info_u8 rfl _ _ rfl ho8 hR8 rfl rfl (by first | omega | (simp; omega)) hb8.size ?_)
          intro v9 w9 ho9 hg9 hk9
          have hb9 : Below w7.heap.size w7 w9 := hb8.grown hg9 hb8.size (fun k hk => (ho8.lt k hk).1)
          have hS9 := ho9.bytes
          clear hg9 hk9 hb8 ho8 hR8 ho9
          go_wp2_with fail
          refine (frame_openO _ (L ++ r) _ hS9 (by rw [List.length_append]; omega)).mono ?_
          rw [HO.out]
          rintro e w10 ⟨v10, rfl, ho10, hb10⟩
          have hb11 := hb9.trans (hb10.mono hb9.size)
          have hx1 := conv_str ho10.bytes
          have hx2 := conv_str (hB8.below hb11 rfl)
          have hbz := hbel7.trans (hb11.mono hbel7.size)
          clear ho10 hb10 hb11 hb9 hS9 hS8 hR7 hB8 hbel7
          dsimp only at hx1 hx2 ⊢
          go_wp2_with fail
          go_ret
          exact ⟨rfl, hbz⟩
/-! ### From the row to the walk -/
namespace frameBackF
set_option linter.unusedVariables false
theorem own : ownKnob Try.prog.godebug = none := by kernel_rfl
theorem laidOut : laidOutB Try.prog = true := by kernel_rfl
set_option maxRecDepth 100000 in
theorem lifted (os : Os) (started : os.Started) (H : Type) (enc : TypeId × Value → H) :
    ReturnsInHanded {} Try.checked os 5 .any (Rows.frameBackSpec.pre6 enc Try.prog Try.f5 Rows.frameBackRow.domain false) (Rows.frameBackSpec.post enc Try.prog Try.f5 false true false false) := by
  refine returnsInHanded_of_change (C := Try.checked) own started (by kernel_rfl) Try.func5
    (ChangeSpec.witness6 (enc := enc) (C := Try.checked) false ⟨#[], #[.int .i64 0, .slice none 0 0, .slice none 0 0, .int .i64 0], []⟩ 8 (by kernel_rfl) (by kernel_rfl) (by kernel_rfl) (by kernel_rfl)) ?_
  intro W base args ds gs before hval0 hW hcnd _
  have hval : ∀ (j : Nat) t v, Try.f5.params[j]? = some t → args[j]? = some v → Value.okWide Try.prog W .any base t v := hval0
  have hW' := hW
  obtain ⟨p, q, hA0, hV, rfl, hfz, hnd⟩ := hW
  have hA : DataW.TrodAll enc Try.prog W 0 (fun _ => true) true Try.f5.params.toList args.toList ds p := hA0
  rw [Try.params5] at hA hval
  obtain ⟨v0, vs0, d0, ds0, p0, q0, hargs, rfl, rfl, h0, r0⟩ := trodAll_cons hA
  obtain ⟨v1, vs1, d1, ds1, p1, q1, rfl, rfl, rfl, h1, r1⟩ := trodAll_cons r0
  obtain ⟨v2, vs2, d2, ds2, p2, q2, rfl, rfl, rfl, h2, r2⟩ := trodAll_cons r1
  obtain ⟨v3, vs3, d3, ds3, p3, q3, rfl, rfl, rfl, h3, r3⟩ := trodAll_cons r2
  obtain ⟨rfl, rfl, rfl⟩ := trodAll_nil r3
  obtain rfl : args = #[v0, v1, v2, v3] := by cases args; simp_all
  obtain ⟨rfl, rfl⟩ := trodVars_none hV
  have k0 := h0
  have lt0 : ∀ x ∈ p0, x.block < W.heap.size := by obtain ⟨m, hm⟩ := k0; exact DataW.trod_lt m _ _ _ hm
  obtain ⟨a0, rfl, hd0, hp0, w0⟩ := open_int Try.underlying3 (hval 0 3 v0 rfl rfl) h0
  have k1 := h1
  have lt1 : ∀ x ∈ p1, x.block < W.heap.size := by obtain ⟨m, hm⟩ := k1; exact DataW.trod_lt m _ _ _ hm
  obtain ⟨l1, w1⟩ := open_bytes Try.underlying30 Try.underlying5 (by kernel_rfl) (hval 1 30 v1 rfl rfl) h1
  have k2 := h2
  have lt2 : ∀ x ∈ p2, x.block < W.heap.size := by obtain ⟨m, hm⟩ := k2; exact DataW.trod_lt m _ _ _ hm
  obtain ⟨l2, w2⟩ := open_bytes Try.underlying30 Try.underlying5 (by kernel_rfl) (hval 2 30 v2 rfl rfl) h2
  have k3 := h3
  have lt3 : ∀ x ∈ p3, x.block < W.heap.size := by obtain ⟨m, hm⟩ := k3; exact DataW.trod_lt m _ _ _ hm
  obtain ⟨a3, rfl, hd3, hp3, w3⟩ := open_int Try.underlying3 (hval 3 3 v3 rfl rfl) h3
  clear hA0 hval0
  refine (frameBack_walk a0 v1 l1 v2 l2 a3 W w0 w1 w2 w3).mono fun e W' ⟨he, bel⟩ => ?_
  subst he
  exact ⟨_, rfl, _, _, _, [], _, [], hW', trodAll_mk1 (shut_bool Try.underlying4 _), (trodAll_cons_mk (Below.trod laidOut (by kernel_rfl) (of_decide_eq_true (by kernel_rfl)) k0 bel lt0) (trodAll_cons_mk (Below.trod laidOut (by kernel_rfl) (of_decide_eq_true (by kernel_rfl)) k1 bel lt1) (trodAll_cons_mk (Below.trod laidOut (by kernel_rfl) (of_decide_eq_true (by kernel_rfl)) k2 bel lt2) (trodAll_cons_mk (Below.trod laidOut (by kernel_rfl) (of_decide_eq_true (by kernel_rfl)) k3 bel lt3) trodAll_mk0)))), rfl, bel.frame _, fun h => by cases h⟩
theorem over : Rows.frameBackRow.holds Try.pinned (OpenSpec.ofChange Rows.frameBackSpec) :=
  OpenClaim.holds_of_wide 5 Try.f5 rfl rfl rfl rfl rfl rfl rfl ⟨rfl, rfl, rfl, rfl, rfl⟩ rfl rfl rfl rfl rfl (by kernel_rfl) Try.func5 (by kernel_rfl)
    (of_decide_eq_true (by kernel_rfl)) (by unfold Func.isWrapper; first | (rw [if_pos (by decide +kernel)]; kernel_rfl) | (rw [if_neg (by decide +kernel)]; exact ⟨rfl, rfl⟩))
    (fun os started H enc _ => lifted os started H enc)
end frameBackF
theorem frameBack_holds : Rows.FrameBackSaid := frameBackF.over
#print axioms frameBack_holds
end Go.Proofs.Ytankebgpkhcgnaa
