/-
  Frames within a frame are not told, as long as it is whole: of any number of them. No condition.
-/
import Derived.Test.YtankebgpkhcgnaaFrameB
import Derived.Test.YtankebgpkhcgnaaFrameP2
import Derived.Test.YtankebgpkhcgnaaOpen
namespace Go.Proofs.Ytankebgpkhcgnaa
open Go.ChangeShapes Go.WideShapes Go.ChangeAt Go.RowKit

theorem FoundO.shape {w : World} {base : Nat} {v : Value} {rs : List (Int × Value × List UInt8)} (h : FoundO w base v rs) (hr : rs ≠ []) : ∃ g cap, v = .slice (some ⟨g, 0, none⟩) rs.length cap ∧ base ≤ g ∧ g < w.heap.size ∧ rs.length ≤ cap :=
  ownsRow_shape h.1 (fun e => hr (List.eq_nil_of_length_eq_zero e))

theorem found_get (rs : List (Int × Value × List UInt8)) (i : Nat) (hi : i < rs.length) : (rs.flatMap foundCells)[i * 2]? = some (.int .i64 rs[i].1) ∧ (rs.flatMap foundCells)[i * 2 + 1]? = some rs[i].2.1 := by
  induction rs generalizing i with
  | nil => simp at hi
  | cons r rs ih =>
    cases i with
    | zero => simp [foundCells]
    | succ i =>
      have := ih i (by simpa using hi)
      simp only [List.flatMap_cons, List.getElem_cons_succ]
      rw [show (i + 1) * 2 = (i * 2) + 2 by omega, show (i * 2) + 2 + 1 = (i * 2 + 1) + 2 by omega]
      simpa [foundCells] using this

theorem FoundO.cellAt {w : World} {base g n cap : Nat} {rs : List (Int × Value × List UInt8)} (h : FoundO w base (.slice (some ⟨g, 0, none⟩) n cap) rs) (i : Nat) (hi : i < rs.length) :
    w.cell? ⟨g, i * 2, none⟩ = some (.int .i64 rs[i].1) ∧ w.cell? ⟨g, i * 2 + 1, none⟩ = some rs[i].2.1 := by
  have hc := h.1.cells (g := g) rfl
  obtain ⟨h1, h2⟩ := found_get rs i hi
  have e1 := hc _ _ h1
  have e2 := hc _ _ h2
  rw [Addr.add_lit, Nat.zero_add] at e1 e2
  exact ⟨e1, e2⟩

set_option maxRecDepth 100000 in
set_option maxHeartbeats 4000000 in
theorem frameInside_walk (n : Int) (w : World) (wn : (Lit.int .i64 n).wf = true) :
    Calls Try.prog 9 #[.int .i64 n] w fun e w' => e = .returned (.bool true) ∧ Below w.heap.size w w' := by
  have wn := wf_i64 wn
  go_enter Try.func9, Try.ntmps9
  go_wp2_with fail
  refine (frame_begun _).mono ?_
  rintro e w1 ⟨rfl, hb1⟩
  by_cases m0 : n < 1
  · have t0 : decide (n < 1) = true := decide_eq_true m0
    go_wp2_with fail
    go_ret
    exact ⟨rfl, hb1⟩
  · have t0 : decide (n < 1) = false := decide_eq_false m0
    by_cases m1 : 50 < n
    · have t1 : decide (50 < n) = true := decide_eq_true m1
      go_wp2_with fail
      go_ret
      exact ⟨rfl, hb1⟩
    · have t1 : decide (50 < n) = false := decide_eq_false m1
      obtain ⟨N, rfl⟩ := Int.eq_ofNat_of_zero_le (show 0 ≤ n by omega)
      go_wp2_with fail
      go_loopw [4, 5] (fun s i wr => ∃ k : Nat, k ≤ N ∧ i = .int .i64 k ∧ OwnB wr w1.heap.size 5 s (sealed (insF k)) ∧ Below w1.heap.size w1 wr) (fun _ i _ => N - (intOf i).toNat)
      case atStart => exact ⟨0, by omega, rfl, OwnB.nil _ _ _, Below.refl _ _⟩
      case round =>
        obtain ⟨k, hk, rfl, ho, hbel⟩ := hrel
        have hsz := insF_size k (by omega)
        by_cases hlt : k < N
        · have HS := Lib.hid (show sealed (insF (k + 1)) = sealed (insF k) ++ sealP (1 + (k : Int)) [UInt8.ofNat k] from by rw [insF_succ, sealed_snoc])
          have hle := sealP_le (1 + (k : Int)) [UInt8.ofNat k]
          have hB := Bytes.fresh wr [UInt8.ofNat k] 5 (0, 0) #[.int .u8 (k : Int)] 1 rfl (by simp [byteV]; omega) (by simp)
          have hba := (Below.refl wr.heap.size wr).alloc (Nat.le_refl _) (.cells #[.int .u8 (k : Int)] 5)
          have q1 : (k : Int) % 256 = k := by omega
          go_wp2_with fail
          refine (frame_seal (1 + (k : Int)) _ [UInt8.ofNat k] _ (by omega) (by omega) hB).mono ?_
          rintro e w2 ⟨v2, rfl, ho2, hb2⟩
          have hb2 := hba.trans (hb2.mono hba.size)
          have hB2 := ho2.bytes
          have ho3 := ho.below hb2
          clear hB hba ho2 ho
          generalize sealP (1 + (k : Int)) [UInt8.ofNat k] = X at *
          generalize sealed (insF k) = Y at *
          have hb3 := hbel.trans (hb2.mono hbel.size)
          clear hb2 hbel
          go_wp2_with (at_builtin; refine wpList_append_bytes 30 w1.heap.size 5 Try.underlying30 info_u8 rfl _ _ rfl ho3 hB2 rfl rfl (by omega) hb3.size ?_)
          intro v4 w4 ho4 hg4 hk4
          have hb4 : Below w1.heap.size w1 w4 := hb3.grown hg4 hb3.size (fun k hk => (ho3.lt k hk).1)
          clear ho3 hg4 hk4 hb3 hB2
          go_wp2_with fail
          go_roundw
          case rel => exact ⟨k + 1, by omega, by go_num, by rw [HS.out]; exact ho4, hb4⟩
          case measure => simp [intOf]; omega
        · obtain rfl : k = N := by omega
          have hA1 := Lib.hid (insF_all k (by omega))
          have hA2 := Lib.hid (insF_in k (by omega))
          have hil := Lib.hid (insF_len k)
          have hle := sealP_le 9 (sealed (insF k))
          have hB := ho.bytes
          obtain ⟨a4, c4, he⟩ := ho.len
          rename Value => s4
          rw [he] at hB ⊢
          clear he ho
          obtain ⟨Y, hY⟩ : ∃ Y, Y = sealed (insF k) := ⟨_, rfl⟩
          rw [← hY] at hB hsz hA1 hA2 hle ⊢
          have HY := Lib.hid hY
          have hY3 : Y.length ≤ 350 := by omega
          clear hY hlt hk hsz
          go_wp2_with fail
          refine (frame_all _ Y _ hB (by omega)).mono ?_
          rintro e w2 ⟨v2, rs, rfl, hF2, ht2, hb2⟩
          rw [hA1.out] at ht2 ⊢
          have hrl : rs.length = k := by have := congrArg List.length ht2; rw [hil.out] at this; simpa [told] using this
          obtain ⟨a2, c2, rfl⟩ := hF2.slice
          rw [hrl]
          have hB2 := hB.below hb2 rfl
          have hb3 := hbel.trans (hb2.mono hbel.size)
          clear hB hF2 ht2 hA1 hrl hb2 hbel
          go_wp2_with fail
          refine (frame_seal 9 _ Y _ (by omega) (by omega) hB2).mono ?_
          rintro e w3 ⟨v3, rfl, ho3, hb4⟩
          have hB3 := hB2.below hb4 rfl
          have hb5 := hb3.trans (hb4.mono hb3.size)
          have hX := ho3.bytes
          obtain ⟨X, hX0⟩ : ∃ X, X = sealP 9 Y := ⟨_, rfl⟩
          rw [← hX0] at hX hA2 hle
          have HX := Lib.hid hX0
          clear hX0 hB2 hb4 ho3 hb3
          go_wp2_with fail
          refine (frame_all _ X _ hX (by omega)).mono ?_
          rintro e w4 ⟨v4, rs4, rfl, hF4, ht4, hb6⟩
          rw [hA2.out] at ht4 ⊢
          obtain ⟨r4, rfl⟩ : ∃ r, rs4 = [r] := by
            cases rs4 with
            | nil => simp [told] at ht4
            | cons r t => cases t with
              | nil => exact ⟨r, rfl⟩
              | cons _ _ => simp [told] at ht4
          have hr4 : r4.1 = 9 ∧ r4.2.2 = Y := by simpa [told] using ht4
          obtain ⟨g, c, rfl, hg0, hg1, hgc⟩ := hF4.shape (by simp)
          have hcell := hF4.cellAt 0 (by simp)
          have hbody := (hF4.2 r4 (by simp)).1.bytes
          rw [List.getElem_cons_zero, hr4.1] at hcell
          rw [hr4.2] at hbody
          obtain ⟨hcA, hcB⟩ := hcell
          rw [Nat.zero_mul] at hcA
          rw [Nat.zero_mul, Nat.zero_add] at hcB
          generalize r4.2.1 = bv at *
          have hB4 := hB3.below hb6 rfl
          have hb7 := hb5.trans (hb6.mono hb5.size)
          clear ht4 hr4 hF4 hX hA2 hB3 hb6 hb5 hil hg0
          rw [List.length_singleton] at hgc ⊢
          dsimp only
          obtain ⟨ab, nb, cb, hbv⟩ : ∃ a n c, bv = .slice a n c := by
            obtain ⟨a, c, h, _⟩ := hbody
            exact ⟨a, _, c, h⟩
          subst hbv
          go_upto_region 13 with fail
          rename World => w4
          go_cut [2] (fun s wx => s = .bool true ∧ Below w4.heap.size w4 wx)
          case first =>
            refine wp_region_sw (by rfl) (by kernel_rfl) (fun k => match k with | 35 => some (fun v w => ∃ a c, v = .slice a X.length c) | _ => none) ?_ (fun vals => ?_)
            · intro k φ hk v w1 w2 h1 h2
              match k, hk with
              | 35, hk => obtain rfl := Option.some.inj hk; exact h1
            iterate 19 (refine sw_pure (by rfl) (fun K hK => ?_); go_simp; refine hK _ ?_; clear hK K)
            refine sw_at (.int .i64 9) rfl rfl (fun wz hz hH => ?_) (fun K hK => ?_)
            · have h2 := (hz.cell (p := ⟨g, 0, none⟩) hg1).trans hcA
              go_simp
            go_simp; refine hK _ ?_; clear hK K
            iterate 6 (refine sw_pure (by rfl) (fun K hK => ?_); go_simp; refine hK _ ?_; clear hK K)
            refine sw_at (.slice ab nb cb) rfl rfl (fun wz hz hH => ?_) (fun K hK => ?_)
            · have h2 := (hz.cell (p := ⟨g, 1, none⟩) hg1).trans hcB
              go_simp
            go_simp; refine hK _ ?_; clear hK K
            refine sw_at (.string ⟨Y.toArray⟩) rfl rfl (fun wz hz hH => ?_) (fun K hK => ?_)
            · go_simp
              rw [conv_str (hbody.below hz rfl)]
              exact ⟨rfl, rfl⟩
            go_simp; refine hK _ ?_; clear hK K
            (refine sw_pure (by rfl) (fun K hK => ?_); go_simp; refine hK _ ?_; clear hK K)
            refine sw_at (.string ⟨Y.toArray⟩) rfl rfl (fun wz hz hH => ?_) (fun K hK => ?_)
            · go_simp
              rw [conv_str (hB4.below hz rfl)]
              exact ⟨rfl, rfl⟩
            go_simp; refine hK _ ?_; clear hK K
            iterate 5 (refine sw_pure (by rfl) (fun K hK => ?_); go_simp; refine hK _ ?_; clear hK K)
            refine sw_call _ rfl rfl (fun wz hz hH => ?_) (fun K hK => ?_)
            · go_simp
              go_at_call 24
              refine (frame_seal 9 _ Y _ (by omega) (by omega) (hB4.below hz rfl)).mono ?_
              rintro e w' ⟨v, rfl, hv, hbl⟩
              rw [← HX.out] at hv
              obtain ⟨a, c, he⟩ := hv.len
              exact ⟨v, rfl, ⟨a, c, he⟩, hbl⟩
            go_simp; refine hK _ ?_; clear hK K
            refine sw_at (.int .i64 X.length) rfl rfl (fun wz hz hH => ?_) (fun K hK => ?_)
            · obtain ⟨a, c, he⟩ := hH _ (List.Mem.head _) rfl
              rw [he]
              go_simp
            go_simp; refine hK _ ?_; clear hK K
            iterate 3 (refine sw_pure (by rfl) (fun K hK => ?_); go_simp; refine hK _ ?_; clear hK K)
            refine sw_done (fun wz hz hH => ?_)
            go_wp2_with fail
            go_meet
            exact ⟨rfl, hz⟩
          case rest =>
            obtain ⟨rfl, hz⟩ := hcut
            have hbz := hb1.trans ((hb7.trans (hz.mono hb7.size)).mono hb1.size)
            clear hB4 hbody hcA hcB hz hb7 HY HX
            go_wp2_with fail
            go_ret
            exact ⟨rfl, hbz⟩
/-! ### From the row to the walk -/
namespace frameInsideF
set_option linter.unusedVariables false
theorem own : ownKnob Try.prog.godebug = none := by kernel_rfl
theorem laidOut : laidOutB Try.prog = true := by kernel_rfl
set_option maxRecDepth 100000 in
theorem lifted (os : Os) (started : os.Started) (H : Type) (enc : TypeId × Value → H) :
    ReturnsInHanded {} Try.checked os 9 .any (Rows.frameInsideSpec.pre6 enc Try.prog Try.f9 Rows.frameInsideRow.domain false) (Rows.frameInsideSpec.post enc Try.prog Try.f9 false true false false) := by
  refine returnsInHanded_of_change (C := Try.checked) own started (by kernel_rfl) Try.func9
    (ChangeSpec.witness6 (enc := enc) (C := Try.checked) false ⟨#[], #[.int .i64 0], []⟩ 8 (by kernel_rfl) (by kernel_rfl) (by kernel_rfl) (by kernel_rfl)) ?_
  intro W base args ds gs before hval0 hW hcnd _
  have hval : ∀ (j : Nat) t v, Try.f9.params[j]? = some t → args[j]? = some v → Value.okWide Try.prog W .any base t v := hval0
  have hW' := hW
  obtain ⟨p, q, hA0, hV, rfl, hfz, hnd⟩ := hW
  have hA : DataW.TrodAll enc Try.prog W 0 (fun _ => true) true Try.f9.params.toList args.toList ds p := hA0
  rw [Try.params9] at hA hval
  obtain ⟨v0, vs0, d0, ds0, p0, q0, hargs, rfl, rfl, h0, r0⟩ := trodAll_cons hA
  obtain ⟨rfl, rfl, rfl⟩ := trodAll_nil r0
  obtain rfl : args = #[v0] := by cases args; simp_all
  obtain ⟨rfl, rfl⟩ := trodVars_none hV
  have k0 := h0
  have lt0 : ∀ x ∈ p0, x.block < W.heap.size := by obtain ⟨m, hm⟩ := k0; exact DataW.trod_lt m _ _ _ hm
  obtain ⟨a0, rfl, hd0, hp0, w0⟩ := open_int Try.underlying3 (hval 0 3 v0 rfl rfl) h0
  clear hA0 hval0
  refine (frameInside_walk a0 W w0).mono fun e W' ⟨he, bel⟩ => ?_
  subst he
  exact ⟨_, rfl, _, _, _, [], _, [], hW', trodAll_mk1 (shut_bool Try.underlying4 _), (trodAll_cons_mk (Below.trod laidOut (by kernel_rfl) (of_decide_eq_true (by kernel_rfl)) k0 bel lt0) trodAll_mk0), rfl, bel.frame _, fun h => by cases h⟩
theorem over : Rows.frameInsideRow.holds Try.pinned (OpenSpec.ofChange Rows.frameInsideSpec) :=
  OpenClaim.holds_of_wide 9 Try.f9 rfl rfl rfl rfl rfl rfl rfl ⟨rfl, rfl, rfl, rfl, rfl⟩ rfl rfl rfl rfl rfl (by kernel_rfl) Try.func9 (by kernel_rfl)
    (of_decide_eq_true (by kernel_rfl)) (by unfold Func.isWrapper; first | (rw [if_pos (by decide +kernel)]; kernel_rfl) | (rw [if_neg (by decide +kernel)]; exact ⟨rfl, rfl⟩))
    (fun os started H enc _ => lifted os started H enc)
end frameInsideF
theorem frameInside_holds : Rows.FrameInsideSaid := frameInsideF.over
#print axioms frameInside_holds
end Go.Proofs.Ytankebgpkhcgnaa
