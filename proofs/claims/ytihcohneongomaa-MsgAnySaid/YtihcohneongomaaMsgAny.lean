/-
  Any bytes are a message's, just its, or nobody's: any bytes. No condition.
-/
import Derived.Test.YtihcohneongomaaP22
import Derived.Test.YtihcohneongomaaP14
import Derived.Test.YtihcohneongomaaP4
namespace Go.Proofs.Ytihcohneongomaa
open Go.ChangeShapes Go.WideShapes Go.ChangeAt Go.RowKit

theorem MsgS.run {w : World} {b : Nat} {v : Value} {m : Msg} (h : MsgS w b v m) : (loadVar 76 ⟨b, 0, none⟩).run Try.prog w = .ok (msgAgg v m) w := load_msg h

set_option maxRecDepth 100000 in
set_option maxHeartbeats 4000000 in
theorem msgAny_walk (v0 : Value) (l0 : List UInt8) (w : World) (h0 : Bytes w v0 l0) :
    Calls Try.prog 12 #[v0] w fun e w' => e = .returned (.bool true) ∧ Below w.heap.size w w' := by
  go_enter Try.func12, Try.ntmps12
  go_wp2_with fail
  refine (msg_begun _).mono ?_
  rintro e w1 ⟨rfl, hb1⟩
  replace h0 := h0.below hb1 rfl
  go_wp2_with fail
  refine (short_any _ l0 200 _ (by decide) h0).mono ?_
  rintro e w2 ⟨v2, rfl, hB, rfl⟩
  have hl : (l0.take 200).length ≤ 200 := List.length_take_le _ _
  generalize l0.take 200 = B at *
  rename World => w2
  clear h0
  go_wp2_with fail
  refine (msg_decode _ B _ hB (by omega)).mono ?_
  rintro e w3 ⟨hb3, hd⟩
  replace hB := hB.below hb3 rfl
  have hbw := hb1.trans (hb3.mono hb1.size)
  clear hb1 hb3
  rcases hd with ⟨mv, m, rfl, hE, hm, he⟩ | ⟨rfl, -⟩
  case inr =>
    have hb4 := hbw.alloc hbw.size (.cells #[.int .i64 0, .int .i64 0, .int .i64 0, .int .i64 0, .int .i64 0, .int .i64 0, .int .i64 0, .bool false, .slice none 0 0, .int .i64 0, .int .i64 0, .string ⟨#[]⟩, .string ⟨#[]⟩] 76)
    unfold msgAgg zM
    dsimp only
    go_wp2_with fail
    go_ret
    exact ⟨rfl, hb4⟩
  obtain ⟨am, cm, rfl⟩ := hE.slice
  have hln := (kindM_iff.1 (mayM_parts hm).2.2.1).1.1
  have hsc : m.s.c.size ≤ 1000000000 := by
    by_cases hk : m.k = 5
    · have := (mayM_parts hm).2.2.2
      unfold tailM at this
      rw [if_pos hk, Bool.and_eq_true] at this
      have := (mayS_iff.1 this.2).2.2.2.2.1
      omega
    · have := (mayM_parts hm).2.2.2
      unfold tailM at this
      rw [if_neg hk] at this
      rw [zeroSnp_eq this]
      show (0 : Nat) ≤ 1000000000
      omega
  have HREF := Lib.hid (fun (u : World) (x : Value) (hx : EntR u x m.es) => ref_mayMsg x m u hx (by omega) hsc)
  have HENC := Lib.hid (fun (u : World) (x : Value) (hx : EntR u x m.es) => msg_encode x m u hx (by omega) hsc)
  have HM := Lib.hid hm
  have HE := Lib.hid he
  have HAG : Hid (∀ v, msgAgg v m = .agg #[.int .i64 m.k, .int .i64 m.f, .int .i64 m.o, .int .i64 m.t, .int .i64 m.i, .int .i64 m.l, .int .i64 m.c, .bool m.y, v, .int .i64 m.s.i, .int .i64 m.s.t, .string m.s.c, .string m.s.d]) := Lib.hid (fun _ => rfl)
  have hX := msgS_box w3 (.slice am m.es.length cm) m 76
  have hba := (Below.refl w3.heap.size w3).alloc (Nat.le_refl _) (.cells #[.int .i64 m.k, .int .i64 m.f, .int .i64 m.o, .int .i64 m.t, .int .i64 m.i, .int .i64 m.l, .int .i64 m.c, .bool m.y, .slice am m.es.length cm, .int .i64 m.s.i, .int .i64 m.s.t, .string m.s.c, .string m.s.d] 76)
  replace hB := hB.below hba rfl
  have hE4 := hE.below hba
  have hb4 := hbw.trans (hba.mono hbw.size)
  rw [HAG.out]
  clear hm he hE hba hbw hsc
  go_upto_region 8 with fail
  generalize w3.alloc _ = w4 at *
  generalize w3.heap.size = X at *
  go_cut [2] (fun x wx => x = .bool true ∧ Below w4.heap.size w4 wx)
  case first =>
    refine wp_region_sw (by rfl) (by kernel_rfl) (fun k' => match k' with | 1 => some (fun v' _ => v' = .bool true) | 4 => some (fun v' w' => Bytes w' v' B) | _ => none) ?_ (fun vals => ?_)
    · intro k' φ hk v' w1 w2 h1 h2
      match k', hk with
      | 1, hk => obtain rfl := Option.some.inj hk; exact h1
      | 4, hk => obtain rfl := Option.some.inj hk; exact Bytes.below h1 h2 rfl
    refine sw_at (msgAgg (.slice am m.es.length cm) m) rfl rfl (fun wz hz' hH => ?_) (fun K hK => ?_)
    · have hq := hX.below hz'
      have y0 := hq.c0
      have y1 := hq.c1
      have y2 := hq.c2
      have y3 := hq.c3
      have y4 := hq.c4
      have y5 := hq.c5
      have y6 := hq.c6
      have y7 := hq.c7
      have y8 := hq.c8
      have y9 := hq.c9
      have y10 := hq.c10
      have y11 := hq.c11
      have y12 := hq.c12
      unfold msgAgg
      go_simp
    go_simp; refine hK _ ?_; clear hK K
    refine sw_call _ rfl rfl (fun wz hz' hH => ?_) (fun K hK => ?_)
    · go_simp
      go_at_call 48
      refine (HREF.out _ _ (hE4.below hz')).mono ?_
      rintro e w12 ⟨rfl, hb12⟩
      exact ⟨_, rfl, by rw [HM.out], hb12⟩
    go_simp; refine hK _ ?_; clear hK K
    refine sw_at (.bool true) rfl rfl (fun wz hz' hH => ?_) (fun K hK => ?_)
    · have e1 := hH _ (List.Mem.head _) rfl
      dsimp only at e1
      rw [show (0 + 1 : Nat) = 1 from rfl] at e1
      rw [e1]
      go_simp
    go_simp; refine hK _ ?_; clear hK K
    refine sw_at (msgAgg (.slice am m.es.length cm) m) rfl rfl (fun wz hz' hH => ?_) (fun K hK => ?_)
    · have hq := hX.below hz'
      have y0 := hq.c0
      have y1 := hq.c1
      have y2 := hq.c2
      have y3 := hq.c3
      have y4 := hq.c4
      have y5 := hq.c5
      have y6 := hq.c6
      have y7 := hq.c7
      have y8 := hq.c8
      have y9 := hq.c9
      have y10 := hq.c10
      have y11 := hq.c11
      have y12 := hq.c12
      unfold msgAgg
      go_simp
    go_simp; refine hK _ ?_; clear hK K
    refine sw_call _ rfl rfl (fun wz hz' hH => ?_) (fun K hK => ?_)
    · go_simp
      go_at_call 47
      refine (HENC.out _ _ (hE4.below hz')).mono ?_
      rintro e w12 ⟨v12, rfl, ho12, hb12, -⟩
      exact ⟨_, rfl, by rw [← HE.out]; exact ho12.bytes, hb12⟩
    go_simp; refine hK _ ?_; clear hK K
    refine sw_at (.string ⟨B.toArray⟩) rfl rfl (fun wz hz' hH => ?_) (fun K hK => ?_)
    · have e4 := hH _ (List.Mem.head _) rfl
      go_simp
      rw [conv_str e4]
      exact ⟨rfl, rfl⟩
    go_simp; refine hK _ ?_; clear hK K
    ((with_reducible refine sw_pure ?_ (fun K hK => ?_)); (· rfl); go_simp; with_reducible refine hK _ ?_; clear hK K)
    refine sw_at (.string ⟨B.toArray⟩) rfl rfl (fun wz hz' hH => ?_) (fun K hK => ?_)
    · go_simp
      rw [conv_str (hB.below hz' rfl)]
      exact ⟨rfl, rfl⟩
    go_simp; refine hK _ ?_; clear hK K
    iterate 3 ((with_reducible refine sw_pure ?_ (fun K hK => ?_)); (· rfl); go_simp; with_reducible refine hK _ ?_; clear hK K)
    refine sw_done (fun wz hz hH => ?_)
    go_wp2_with fail
    go_meet
    exact ⟨rfl, hz⟩
  case rest =>
    obtain ⟨rfl, hbz⟩ := hcut
    have hb5 := hb4.trans (hbz.mono hb4.size)
    go_wp2_with fail
    go_ret
    exact ⟨rfl, hb5⟩
/-! ### From the row to the walk -/
namespace msgAnyF
set_option linter.unusedVariables false
theorem own : ownKnob Try.prog.godebug = none := by kernel_rfl
theorem laidOut : laidOutB Try.prog = true := by kernel_rfl
set_option maxRecDepth 100000 in
theorem lifted (os : Os) (started : os.Started) (H : Type) (enc : TypeId × Value → H) :
    ReturnsInHanded {} Try.checked os 12 .any (Rows.msgAnySpec.pre6 enc Try.prog Try.f12 Rows.msgAnyRow.domain false) (Rows.msgAnySpec.post enc Try.prog Try.f12 false true false false) := by
  refine returnsInHanded_of_change (C := Try.checked) own started (by kernel_rfl) Try.func12
    (ChangeSpec.witness6 (enc := enc) (C := Try.checked) false ⟨#[], #[.slice none 0 0], []⟩ 8 (by kernel_rfl) (by kernel_rfl) (by kernel_rfl) (by kernel_rfl)) ?_
  intro W base args ds gs before hval0 hW hcnd _
  have hval : ∀ (j : Nat) t v, Try.f12.params[j]? = some t → args[j]? = some v → Value.okWide Try.prog W .any base t v := hval0
  have hW' := hW
  obtain ⟨p, q, hA0, hV, rfl, hfz, hnd⟩ := hW
  have hA : DataW.TrodAll enc Try.prog W 0 (fun _ => true) true Try.f12.params.toList args.toList ds p := hA0
  rw [Try.params12] at hA hval
  obtain ⟨v0, vs0, d0, ds0, p0, q0, hargs, rfl, rfl, h0, r0⟩ := trodAll_cons hA
  obtain ⟨rfl, rfl, rfl⟩ := trodAll_nil r0
  obtain rfl : args = #[v0] := by cases args; simp_all
  obtain ⟨rfl, rfl⟩ := trodVars_none hV
  have k0 := h0
  have lt0 : ∀ x ∈ p0, x.block < W.heap.size := by obtain ⟨m, hm⟩ := k0; exact DataW.trod_lt m _ _ _ hm
  obtain ⟨l0, w0⟩ := open_bytes Try.underlying62 Try.underlying5 (by kernel_rfl) (hval 0 62 v0 rfl rfl) h0
  clear hA0 hval0
  refine (msgAny_walk v0 l0 W w0).mono fun e W' ⟨he, bel⟩ => ?_
  subst he
  exact ⟨_, rfl, _, _, _, [], _, [], hW', trodAll_mk1 (shut_bool Try.underlying4 _), (trodAll_cons_mk (Below.trod laidOut (by kernel_rfl) (of_decide_eq_true (by kernel_rfl)) k0 bel lt0) trodAll_mk0), rfl, bel.frame _, fun h => by cases h⟩
theorem over : Rows.msgAnyRow.holds Try.pinned (OpenSpec.ofChange Rows.msgAnySpec) :=
  OpenClaim.holds_of_wide 12 Try.f12 rfl rfl rfl rfl rfl rfl rfl ⟨rfl, rfl, rfl, rfl, rfl⟩ rfl rfl rfl rfl rfl (by kernel_rfl) Try.func12 (by kernel_rfl)
    (of_decide_eq_true (by kernel_rfl)) (by unfold Func.isWrapper; first | (rw [if_pos (by decide +kernel)]; kernel_rfl) | (rw [if_neg (by decide +kernel)]; exact ⟨rfl, rfl⟩))
    (fun os started H enc _ => lifted os started H enc)
end msgAnyF
theorem msgAny_holds : Rows.MsgAnySaid := msgAnyF.over
#print axioms msgAny_holds
end Go.Proofs.Ytihcohneongomaa
