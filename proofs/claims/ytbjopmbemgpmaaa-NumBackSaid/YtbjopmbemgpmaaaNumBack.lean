/-
  Any number and text go to their bytes and back, whatever stands behind. No condition.
-/
import Derived.Test.YtbjopmbemgpmaaaNumB
import Derived.Test.YtbjopmbemgpmaaaCrc
import Derived.Test.YtbjopmbemgpmaaaOpen
import Derived.Test.YtbjopmbemgpmaaaRegion
import Derived.WalkLawsBesides
import Derived.Deep.DeepCutAuto
import Derived.Deep.Cut
namespace Go.Proofs.Ytbjopmbemgpmaaa
open Go.ChangeShapes Go.WideShapes Go.ChangeAt Go.RowKit

theorem str_app (a b : List UInt8) : (⟨a.toArray⟩ ++ ⟨b.toArray⟩ : ByteArray) = ⟨(a ++ b).toArray⟩ := by
  apply ByteArray.ext
  simp

set_option maxRecDepth 100000 in
set_option maxHeartbeats 4000000 in
theorem numBack_walk (v0 : Value) (l0 : List UInt8) (v1 : Value) (l1 : List UInt8) (n : Int) (s : ByteArray) (u : Int) (w : World) (w0 : Bytes w v0 l0) (w1 : Bytes w v1 l1) (wn : (Lit.int .i64 n).wf = true) (ws : s.size ≤ maxLen) (wu : (Lit.int .u32 u).wf = true) :
    Calls Try.prog 8 #[v0, v1, .int .i64 n, .string s, .int .u32 u] w fun e w' => e = .returned (.bool true) ∧ Below w.heap.size w w' := by
  have wn := wf_i64 wn
  have wu := wf_u32 wu
  unfold maxLen at ws
  go_enter Try.func8, Try.ntmps8
  go_wp2_with fail
  refine (num_begun _).mono ?_
  rintro e wa ⟨rfl, hb⟩
  have w0 := w0.below hb rfl
  have w1 := w1.below hb rfl
  go_wp2_with fail
  refine (short_any _ _ 20 _ (by omega) w0).mono ?_
  rintro e wb ⟨v0', rfl, hv0, rfl⟩
  go_wp2_with fail
  refine (short_any _ _ 20 _ (by omega) w1).mono ?_
  rintro e wc ⟨v1', rfl, hv1, rfl⟩
  have hA : (l0.take 20).length ≤ 20 := by simp; omega
  have hB : (l1.take 20).length ≤ 20 := by simp; omega
  generalize l0.take 20 = A at *
  generalize l1.take 20 = B at *
  clear w0 w1
  go_wp2_with fail
  refine (cut_any _ 100 _ (by omega) (by omega)).mono ?_
  rintro e wc' ⟨rfl, rfl⟩
  have hS : (s.data.toList.take 100).length ≤ 100 := by simp; omega
  obtain ⟨S, hSS⟩ : ∃ S : ByteArray, S = ⟨(s.data.toList.take 100).toArray⟩ := ⟨_, rfl⟩
  have hS : S.size ≤ 100 := by rw [hSS, size_of_list]; exact hS
  rw [← hSS]
  clear hSS
  go_wp2_with (at_builtin; refine wpList_append_bytes 24 wc'.heap.size 5 Try.underlying24 info8 rfl _ _ rfl (OwnB.nil _ _ _) hv0 rfl rfl (by simp; omega) (Nat.le_refl _) ?_)
  intro v3 w3 ho3 hg3 _
  have hb3 := below_of_grown hg3
  clear hg3
  go_wp2_with fail
  refine (num_put v3 A n wc'.heap.size w3 wn.1 wn.2 (by omega) hb3.size ho3).mono ?_
  rintro e w4 ⟨v4, rfl, ho4, hg4, hk4⟩
  have hb4 : Below wc'.heap.size wc' w4 := hb3.grown hg4 hb3.size (fun k hk => (ho3.lt k hk).1)
  clear hk4 hg4 hb3 ho3
  have hv0 := hv0.below hb4 rfl
  have hv1 := hv1.below hb4 rfl
  have hres : Below w.heap.size w w4 := hb.trans (hb4.mono hb.size)
  clear hb hb4
  have hP := putN_len n
  have hv4 := ho4.bytes
  clear ho4
  go_upto_region 6 with fail
  go_cut [42] (fun x wx => x = .bool false ∧ Below w4.heap.size w4 wx)
  case first =>
    have hcat : ¬ 9223372036854775807 < A.length + (putN n).length := by omega
    refine wp_region_sw (by rfl) (by kernel_rfl) (fun k => match k with | 5 => some (fun v w => Bytes w v (putN n)) | _ => none) ?_ (fun vals => ?_)
    · intro k φ hk v w1 w2 h1 h2
      match k, hk with
      | 5, hk => obtain rfl := Option.some.inj hk; exact h1.below h2 rfl
    (refine sw_pure (by rfl) (fun K hK => ?_); go_simp; refine hK _ ?_; clear hK K)
    refine sw_at (.string ⟨(A ++ putN n).toArray⟩) rfl rfl (fun wz hz hH => ?_) (fun K hK => ?_)
    · go_simp
      rw [conv_str (hv4.below hz rfl)]
      exact ⟨rfl, rfl⟩
    go_simp; refine hK _ ?_; clear hK K
    (refine sw_pure (by rfl) (fun K hK => ?_); go_simp; refine hK _ ?_; clear hK K)
    refine sw_at (.string ⟨A.toArray⟩) rfl rfl (fun wz hz hH => ?_) (fun K hK => ?_)
    · go_simp
      rw [conv_str (hv0.below hz rfl)]
      exact ⟨rfl, rfl⟩
    go_simp; refine hK _ ?_; clear hK K
    (refine sw_pure (by rfl) (fun K hK => ?_); go_simp; refine hK _ ?_; clear hK K)
    refine sw_call _ rfl rfl (fun wz hz hH => ?_) (fun K hK => ?_)
    · go_simp
      go_at_call 23
      refine (ref_put n _ wn.1 wn.2).mono ?_
      rintro e w5 ⟨v5, rfl, ho5, hg5, hk5⟩
      exact ⟨v5, rfl, ho5.bytes, below_of_grown hg5⟩
    go_simp; refine hK _ ?_; clear hK K
    refine sw_at (.string ⟨(putN n).toArray⟩) rfl rfl (fun wz hz hH => ?_) (fun K hK => ?_)
    · go_simp
      rw [conv_str (hH _ (List.Mem.head _) rfl)]
      exact ⟨rfl, rfl⟩
    go_simp; refine hK _ ?_; clear hK K
    (refine sw_pure (by rfl) (fun K hK => ?_); go_simp; refine hK _ ?_; clear hK K)
    refine sw_at (.bool false) rfl rfl (fun wz hz hH => ?_) (fun K hK => ?_)
    · go_simp
      simp [str_app]
    go_simp; refine hK _ ?_; clear hK K
    refine sw_done (fun wz hz hH => ?_)
    go_wp2_with fail
    go_meet
    exact ⟨rfl, hz⟩
  case rest =>
    obtain ⟨rfl, hb5⟩ := hcut
    have hv0 := hv0.below hb5 rfl
    have hv1 := hv1.below hb5 rfl
    have hv4 := hv4.below hb5 rfl
    have hres := hres.trans (hb5.mono hres.size)
    clear hb5
    have ⟨a4, c4, hva, hc4, hc4m, _⟩ := hv4
    subst hva
    have hln : (A ++ putN n).length = A.length + (putN n).length := List.length_append
    have hb1 := hv4.sub A.length (putN n).length (by omega)
    rw [List.drop_left, List.take_of_length_le (Nat.le_refl _), if_neg (by omega)] at hb1
    have ⟨a0, c0, h0a, h0c, h0m, _⟩ := hv0
    subst h0a
    have hv0c := hv0
    go_wp2_with (at_builtin; refine wpList_append_bytes 24 wc.heap.size 5 Try.underlying24 info8 rfl _ _ rfl (OwnB.nil _ _ _) hb1 rfl rfl (by simp; omega) (Nat.le_refl _) ?_)
    intro v5 w5 ho5 hg5 _
    have hb5 := below_of_grown hg5
    clear hg5
    have hv1c := hv1
    have hv1 := hv1.below hb5 rfl
    go_wp2_with (at_builtin; refine wpList_append_bytes 24 wc.heap.size 5 Try.underlying24 info8 rfl _ _ rfl ho5 hv1 rfl rfl (by omega) hb5.size ?_)
    intro v6 w6 ho6 hg6 hk6
    have hb6 : Below wc.heap.size wc w6 := hb5.grown hg6 hb5.size (fun k hk => (ho5.lt k hk).1)
    have hv0 := hv0.below hb6 rfl
    have hv1 := hv1c.below hb6 rfl
    clear hk6 hg6 hb5
    go_wp2_with fail
    refine (num_get _ _ _ ho6.bytes).mono ?_
    rintro e w7 ⟨rfl, rfl⟩
    rw [getN_putN n B wn.1 wn.2]
    unfold getV
    go_wp2_with (at_builtin; refine wpList_append_bytes 24 wc.heap.size 5 Try.underlying24 info8 rfl _ _ rfl (OwnB.nil _ _ _) hv0 rfl rfl (by simp; omega) hb6.size ?_)
    intro v8 w8 ho8 hg8 _
    have hb8 : Below wc.heap.size wc w8 := hb6.grown hg8 hb6.size (fun k hk => by cases hk)
    clear hg8
    have hPT : (putT S.data.toList).length ≤ 110 := by
      have := (putN_len (S.data.toList.length : Int)).2
      rw [size_data] at this
      unfold putT
      rw [List.length_append, size_data]
      omega
    go_wp2_with fail
    refine (num_putText v8 A S wc.heap.size w8 (by omega) hb8.size ho8).mono ?_
    rintro e w9 ⟨v9, rfl, ho9, hg9, hk9⟩
    have hb9 : Below wc.heap.size wc w9 := hb8.grown hg9 hb8.size (fun k hk => (ho8.lt k hk).1)
    clear hk9 hg9 hb8 ho8
    have hv0 := hv0c.below hb9 rfl
    have hv1 := hv1c.below hb9 rfl
    have hv9 := ho9.bytes
    have ⟨a9, c9, hva9, hc9, hc9m, _⟩ := hv9
    subst hva9
    have hln9 : (A ++ putT S.data.toList).length = A.length + (putT S.data.toList).length := List.length_append
    have hPT1 : 1 ≤ (putT S.data.toList).length := by
      have := (putN_len (S.data.toList.length : Int)).1
      unfold putT
      rw [List.length_append]
      omega
    have hb1 := hv9.sub A.length (putT S.data.toList).length (by omega)
    rw [List.drop_left, List.take_of_length_le (Nat.le_refl _), if_neg (by omega)] at hb1
    go_wp2_with (at_builtin; refine wpList_append_bytes 24 w9.heap.size 5 Try.underlying24 info8 rfl _ _ rfl (OwnB.nil _ _ _) hb1 rfl rfl (by simp; omega) (Nat.le_refl _) ?_)
    intro v10 w10 ho10 hg10 _
    have hb10 : Below w9.heap.size w9 w10 := below_of_grown hg10
    clear hg10
    have hv1 := hv1.below hb10 rfl
    go_wp2_with (at_builtin; refine wpList_append_bytes 24 w9.heap.size 5 Try.underlying24 info8 rfl _ _ rfl ho10 hv1 rfl rfl (by omega) hb10.size ?_)
    intro v11 w11 ho11 hg11 hk11
    have hb11 : Below w9.heap.size w9 w11 := hb10.grown hg11 hb10.size (fun k hk => (ho10.lt k hk).1)
    clear hk11 hg11 hb10 
    go_wp2_with fail
    refine (num_getText _ _ _ ho11.bytes).mono ?_
    rintro e w12 ⟨rfl, rfl⟩
    rw [getT_putT S.data.toList B (by rw [size_data]; omega)]
    unfold getTV
    obtain ⟨u, rfl⟩ : ∃ m : Nat, u = m := ⟨u.toNat, by omega⟩
    have HARR : #[Value.int .u8 ((u : Int) / 16777216), Value.int .u8 ((u : Int) / 65536 % 256), Value.int .u8 ((u : Int) / 256 % 256), Value.int .u8 ((u : Int) % 256)] = ((fourN u).map byteV).toArray := by
      simp [byteV, fourN]
      omega
    have hcf := conv_str (Bytes.fresh w12 (fourN u) 5 (0, 0) _ 4 rfl HARR (by simp [fourN]))
    clear HARR
    generalize hW : w12.alloc (.cells #[Value.int .u8 ((u : Int) / 16777216), Value.int .u8 ((u : Int) / 65536 % 256), Value.int .u8 ((u : Int) / 256 % 256), Value.int .u8 ((u : Int) % 256)] 5) = wf at *
    have hbf : Below w9.heap.size w9 wf := by subst hW; exact hb11.alloc hb11.size _
    have hv9 := hv9.below hbf rfl
    have hv0 := hv0.below hbf rfl
    have hres := hres.trans ((hb9.trans (hbf.mono hb9.size)).mono hres.size)
    go_wp2_with fail
    have hsub : ∀ x y : Nat, x ≤ 1000 → y ≤ 1000 → IntKind.i64.wrap ((x : Int) + y - x) = y := by
      intro x y h1 h2
      rw [show (x : Int) + y - x = y by omega]
      simp [IntKind.wrap, IntKind.bits]
      omega
    have hsub1 := hsub A.length (putN n).length (by omega) (by omega)
    have hsub2 := hsub A.length (putT S.data.toList).length (by omega) (by omega)
    clear hsub
    have hcat : ¬ 9223372036854775807 < A.length + (putT S.data.toList).length := by omega
    refine wp_region_sw (by rfl) (by kernel_rfl) (fun k => match k with | 22 => some (fun v w => Bytes w v (putT S.data.toList)) | 47 => some (fun v w => Bytes w v (fourN u)) | _ => none) ?_ (fun vals => ?_)
    · intro k φ hk v w1 w2 h1 h2
      match k, hk with
      | 22, hk => obtain rfl := Option.some.inj hk; exact h1.below h2 rfl
      | 47, hk => obtain rfl := Option.some.inj hk; exact h1.below h2 rfl
    iterate 18 (refine sw_pure (by rfl) (fun K hK => ?_); go_simp; refine hK _ ?_; clear hK K)
    refine sw_at (.string ⟨(A ++ putT S.data.toList).toArray⟩) rfl rfl (fun wz hz hH => ?_) (fun K hK => ?_)
    · go_simp
      rw [conv_str (hln9 ▸ hv9.below hz rfl)]
      exact ⟨rfl, rfl⟩
    go_simp; refine hK _ ?_; clear hK K
    (refine sw_pure (by rfl) (fun K hK => ?_); go_simp; refine hK _ ?_; clear hK K)
    refine sw_at (.string ⟨A.toArray⟩) rfl rfl (fun wz hz hH => ?_) (fun K hK => ?_)
    · go_simp
      rw [conv_str (hv0.below hz rfl)]
      exact ⟨rfl, rfl⟩
    go_simp; refine hK _ ?_; clear hK K
    (refine sw_pure (by rfl) (fun K hK => ?_); go_simp; refine hK _ ?_; clear hK K)
    refine sw_call _ rfl rfl (fun wz hz hH => ?_) (fun K hK => ?_)
    · go_simp
      go_at_call 27
      refine (ref_putText S _ (by omega)).mono ?_
      rintro e w5 ⟨v5, rfl, ho5, hg5, hk5⟩
      exact ⟨v5, rfl, ho5.bytes, below_of_grown hg5⟩
    go_simp; refine hK _ ?_; clear hK K
    refine sw_at (.string ⟨(putT S.data.toList).toArray⟩) rfl rfl (fun wz hz hH => ?_) (fun K hK => ?_)
    · go_simp
      rw [conv_str (hH _ (List.Mem.head _) rfl)]
      exact ⟨rfl, rfl⟩
    go_simp; refine hK _ ?_; clear hK K
    (refine sw_pure (by rfl) (fun K hK => ?_); go_simp; refine hK _ ?_; clear hK K)
    refine sw_at (.bool true) rfl rfl (fun wz hz hH => ?_) (fun K hK => ?_)
    · go_simp
      simp [str_app]
    go_simp; refine hK _ ?_; clear hK K
    iterate 21 (refine sw_pure (by rfl) (fun K hK => ?_); go_simp; refine hK _ ?_; clear hK K)
    refine sw_call _ rfl rfl (fun wz hz hH => ?_) (fun K hK => ?_)
    · go_simp
      go_at_call 28
      refine (num_four u _ (by omega)).mono ?_
      rintro e w5 ⟨v5, rfl, ho5, hg5⟩
      exact ⟨v5, rfl, ho5, hg5⟩
    go_simp; refine hK _ ?_; clear hK K
    refine sw_at (.string ⟨(fourN u).toArray⟩) rfl rfl (fun wz hz hH => ?_) (fun K hK => ?_)
    · go_simp
      rw [conv_str (hH _ (List.Mem.head _) rfl)]
      exact ⟨rfl, rfl⟩
    go_simp; refine hK _ ?_; clear hK K
    iterate 4 (refine sw_pure (by rfl) (fun K hK => ?_); go_simp; refine hK _ ?_; clear hK K)
    refine sw_done (fun wz hz hH => ?_)
    go_wp2_with fail
    go_ret
    exact ⟨rfl, hres.trans (hz.mono hres.size)⟩
/-! ### From the row to the walk -/
namespace numBackF
set_option linter.unusedVariables false
theorem own : ownKnob Try.prog.godebug = none := by kernel_rfl
theorem laidOut : laidOutB Try.prog = true := by kernel_rfl
set_option maxRecDepth 100000 in
theorem lifted (os : Os) (started : os.Started) (H : Type) (enc : TypeId × Value → H) :
    ReturnsInHanded {} Try.checked os 8 .any (Rows.numBackSpec.pre6 enc Try.prog Try.f8 Rows.numBackRow.domain false) (Rows.numBackSpec.post enc Try.prog Try.f8 false true false false) := by
  refine returnsInHanded_of_change (C := Try.checked) own started (by kernel_rfl) Try.func8
    (ChangeSpec.witness6 (enc := enc) (C := Try.checked) false ⟨#[], #[.slice none 0 0, .slice none 0 0, .int .i64 0, .string .empty, .int .u32 0], []⟩ 8 (by kernel_rfl) (by kernel_rfl) (by kernel_rfl) (by kernel_rfl)) ?_
  intro W base args ds gs before hval0 hW hcnd _
  have hval : ∀ (j : Nat) t v, Try.f8.params[j]? = some t → args[j]? = some v → Value.okWide Try.prog W .any base t v := hval0
  have hW' := hW
  obtain ⟨p, q, hA0, hV, rfl, hfz, hnd⟩ := hW
  have hA : DataW.TrodAll enc Try.prog W 0 (fun _ => true) true Try.f8.params.toList args.toList ds p := hA0
  rw [Try.params8] at hA hval
  obtain ⟨v0, vs0, d0, ds0, p0, q0, hargs, rfl, rfl, h0, r0⟩ := trodAll_cons hA
  obtain ⟨v1, vs1, d1, ds1, p1, q1, rfl, rfl, rfl, h1, r1⟩ := trodAll_cons r0
  obtain ⟨v2, vs2, d2, ds2, p2, q2, rfl, rfl, rfl, h2, r2⟩ := trodAll_cons r1
  obtain ⟨v3, vs3, d3, ds3, p3, q3, rfl, rfl, rfl, h3, r3⟩ := trodAll_cons r2
  obtain ⟨v4, vs4, d4, ds4, p4, q4, rfl, rfl, rfl, h4, r4⟩ := trodAll_cons r3
  obtain ⟨rfl, rfl, rfl⟩ := trodAll_nil r4
  obtain rfl : args = #[v0, v1, v2, v3, v4] := by cases args; simp_all
  obtain ⟨rfl, rfl⟩ := trodVars_none hV
  have k0 := h0
  have lt0 : ∀ x ∈ p0, x.block < W.heap.size := by obtain ⟨m, hm⟩ := k0; exact DataW.trod_lt m _ _ _ hm
  obtain ⟨l0, w0⟩ := open_bytes Try.underlying24 Try.underlying5 (by kernel_rfl) (hval 0 24 v0 rfl rfl) h0
  have k1 := h1
  have lt1 : ∀ x ∈ p1, x.block < W.heap.size := by obtain ⟨m, hm⟩ := k1; exact DataW.trod_lt m _ _ _ hm
  obtain ⟨l1, w1⟩ := open_bytes Try.underlying24 Try.underlying5 (by kernel_rfl) (hval 1 24 v1 rfl rfl) h1
  have k2 := h2
  have lt2 : ∀ x ∈ p2, x.block < W.heap.size := by obtain ⟨m, hm⟩ := k2; exact DataW.trod_lt m _ _ _ hm
  obtain ⟨a2, rfl, hd2, hp2, w2⟩ := open_int Try.underlying2 (hval 2 2 v2 rfl rfl) h2
  have k3 := h3
  have lt3 : ∀ x ∈ p3, x.block < W.heap.size := by obtain ⟨m, hm⟩ := k3; exact DataW.trod_lt m _ _ _ hm
  obtain ⟨a3, rfl, hd3, hp3, w3⟩ := Go.ChangeMaps.open_string Try.underlying9 (hval 3 9 v3 rfl rfl) h3
  have k4 := h4
  have lt4 : ∀ x ∈ p4, x.block < W.heap.size := by obtain ⟨m, hm⟩ := k4; exact DataW.trod_lt m _ _ _ hm
  obtain ⟨a4, rfl, hd4, hp4, w4⟩ := open_int Try.underlying26 (hval 4 26 v4 rfl rfl) h4
  clear hA0 hval0
  refine (numBack_walk v0 l0 v1 l1 a2 a3 a4 W w0 w1 w2 w3 w4).mono fun e W' ⟨he, bel⟩ => ?_
  subst he
  exact ⟨_, rfl, _, _, _, [], _, [], hW', trodAll_mk1 (shut_bool Try.underlying4 _), (trodAll_cons_mk (Below.trod laidOut (by kernel_rfl) (of_decide_eq_true (by kernel_rfl)) k0 bel lt0) (trodAll_cons_mk (Below.trod laidOut (by kernel_rfl) (of_decide_eq_true (by kernel_rfl)) k1 bel lt1) (trodAll_cons_mk (Below.trod laidOut (by kernel_rfl) (of_decide_eq_true (by kernel_rfl)) k2 bel lt2) (trodAll_cons_mk (Below.trod laidOut (by kernel_rfl) (of_decide_eq_true (by kernel_rfl)) k3 bel lt3) (trodAll_cons_mk (Below.trod laidOut (by kernel_rfl) (of_decide_eq_true (by kernel_rfl)) k4 bel lt4) trodAll_mk0))))), rfl, bel.frame _, fun h => by cases h⟩
theorem over : Rows.numBackRow.holds Try.pinned (OpenSpec.ofChange Rows.numBackSpec) :=
  OpenClaim.holds_of_wide 8 Try.f8 rfl rfl rfl rfl rfl rfl rfl ⟨rfl, rfl, rfl, rfl, rfl⟩ rfl rfl rfl rfl rfl (by kernel_rfl) Try.func8 (by kernel_rfl)
    (of_decide_eq_true (by kernel_rfl)) (by unfold Func.isWrapper; first | (rw [if_pos (by decide +kernel)]; kernel_rfl) | (rw [if_neg (by decide +kernel)]; exact ⟨rfl, rfl⟩))
    (fun os started H enc _ => lifted os started H enc)
end numBackF
theorem numBack_holds : Rows.NumBackSaid := numBackF.over
#print axioms numBack_holds
end Go.Proofs.Ytbjopmbemgpmaaa
