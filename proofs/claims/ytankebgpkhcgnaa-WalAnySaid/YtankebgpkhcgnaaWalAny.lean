/-
  Any bytes begin with a record, or not: the program and the document tell the same: any bytes. No condition.
-/
import Derived.Test.YtankebgpkhcgnaaWalL
namespace Go.Proofs.Ytankebgpkhcgnaa
open Go.ChangeShapes Go.WideShapes Go.ChangeAt Go.RowKit

set_option maxRecDepth 100000 in
set_option maxHeartbeats 4000000 in
theorem walAny_walk (v0 : Value) (l0 : List UInt8) (w : World) (h0 : Bytes w v0 l0) :
    Calls Try.prog 12 #[v0] w fun e w' => e = .returned (.bool true) ∧ Below w.heap.size w w' := by
  go_enter Try.func12, Try.ntmps12
  go_wp2_with fail
  refine (wal_begun _).mono ?_
  rintro e w1 ⟨rfl, hb1⟩
  replace h0 := h0.below hb1 rfl
  go_wp2_with fail
  refine (short_any _ l0 100 _ (by decide) h0).mono ?_
  rintro e w2 ⟨v2, rfl, hB, rfl⟩
  have hl : (l0.take 100).length ≤ 100 := List.length_take_le _ _
  generalize l0.take 100 = b at *
  rename World => w2
  have hb1z := hb1.size
  clear h0
  go_wp2_with fail
  refine (wal_decode _ b _ hB (by omega)).mono ?_
  rintro e w3 ⟨rfl, hb3⟩
  replace hB := hB.below hb3 rfl
  replace hb1 := hb1.trans (hb3.mono hb1z)
  clear hb3
  have hRD := fun (w : World) (v : Value) (h : Bytes w v b) => ref_decode v b w h (by omega)
  obtain ⟨⟨⟨rh, rt, rv, ⟨ri, rt', rk, rd⟩⟩, n, e⟩, hD⟩ : ∃ D, D = decR b := ⟨_, rfl⟩
  rw [← hD] at hRD ⊢
  have HRD := Lib.hid hRD
  clear hRD hD
  unfold decV recAgg
  dsimp only
  have hX1 := recS_box w3 ⟨rh, rt, rv, ⟨ri, rt', rk, rd⟩⟩ 55
  have hbx := (Below.refl w3.heap.size w3).alloc (Nat.le_refl _) (.cells #[.bool rh, .int .i64 rt, .int .i64 rv, .int .i64 ri, .int .i64 rt', .int .i64 rk, .string rd] 55)
  replace hB := hB.below hbx rfl
  have hb1w := hb1.size
  replace hb1 := hb1.trans (hbx.mono hb1.size)
  dsimp only at hX1
  clear hbx
  go_upto_region 6 with fail
  generalize hXX : w3.heap.size = X at *
  generalize hWW : w3.alloc _ = w4 at *
  clear hWW
  go_wp2_with fail
  refine (HRD.out _ _ hB).mono ?_
  rintro e' w5 ⟨rfl, hb5⟩
  replace hX1 := hX1.below hb5
  have hb1z2 := hb1.size
  replace hb1 := hb1.trans (hb5.mono hb1z2)
  clear hb5 hB
  unfold decV recAgg
  dsimp only
  have hX2 := recS_box w5 ⟨rh, rt, rv, ⟨ri, rt', rk, rd⟩⟩ 52
  have hby := (Below.refl w5.heap.size w5).alloc (Nat.le_refl _) (.cells #[.bool rh, .int .i64 rt, .int .i64 rv, .int .i64 ri, .int .i64 rt', .int .i64 rk, .string rd] 52)
  replace hX1 := hX1.below hby
  have hb1z3 := hb1.size
  replace hb1 := hb1.trans (hby.mono hb1z3)
  dsimp only at hX2
  clear hby
  go_upto_region 7 with fail
  go_cut [2] (fun x wx => x = .bool true ∧ Below w.heap.size w wx)
  case first =>
    generalize hYY : w5.heap.size = Y at *
    generalize hWW : w5.alloc _ = w6 at *
    clear hWW
    refine wp_region_sw (by rfl) (by kernel_rfl) (fun k' => match k' with | 1 => some (fun v' _ => v' = recAgg ⟨rh, rt, rv, ⟨ri, rt', rk, rd⟩⟩) | 3 => some (fun v' _ => v' = .bool true) | _ => none) ?_ (fun vals => ?_)
    · intro k' φ hk v' w1 w2 h1 h2
      match k', hk with
      | 1, hk => obtain rfl := Option.some.inj hk; exact h1
      | 3, hk => obtain rfl := Option.some.inj hk; exact h1
    refine sw_at (recAgg ⟨rh, rt, rv, ⟨ri, rt', rk, rd⟩⟩) rfl rfl (fun wz hz' hH => ?_) (fun K hK => ?_)
    · have hq := hX1.below hz'
      have y0 := hq.c0
      have y1 := hq.c1
      have y2 := hq.c2
      have y3 := hq.c3
      have y4 := hq.c4
      have y5 := hq.c5
      have y6 := hq.c6
      unfold recAgg
      go_simp
    go_simp; refine hK _ ?_; clear hK K
    refine sw_call _ rfl rfl (fun wz hz' hH => ?_) (fun K hK => ?_)
    · go_simp
      go_at_call 39
      refine (law_back _ _).mono ?_
      rintro e w12 ⟨rfl, hb12⟩
      exact ⟨_, rfl, rfl, hb12⟩
    go_simp; refine hK _ ?_; clear hK K
    refine sw_at (recAgg ⟨rh, rt, rv, ⟨ri, rt', rk, rd⟩⟩) rfl rfl (fun wz hz' hH => ?_) (fun K hK => ?_)
    · have hq := hX2.below hz'
      have y0 := hq.c0
      have y1 := hq.c1
      have y2 := hq.c2
      have y3 := hq.c3
      have y4 := hq.c4
      have y5 := hq.c5
      have y6 := hq.c6
      unfold recAgg
      go_simp
    go_simp; refine hK _ ?_; clear hK K
    refine sw_call _ rfl rfl (fun wz hz' hH => ?_) (fun K hK => ?_)
    · have e10 := hH _ (List.Mem.head _) rfl
      dsimp only at e10
      rw [show (0 + 1 : Nat) = 1 from rfl] at e10
      rw [e10]
      go_simp
      go_at_call 38
      refine (ref_eqRec _ _).mono ?_
      rintro e w12 ⟨rfl, hb12⟩
      exact ⟨_, rfl, rfl, hb12⟩
    go_simp; refine hK _ ?_; clear hK K
    refine sw_at (.bool true) rfl rfl (fun wz hz' hH => ?_) (fun K hK => ?_)
    · have e3 := hH _ (List.Mem.head _) rfl
      dsimp only at e3
      rw [show (0 + 1 + 1 + 1 : Nat) = 3 from rfl] at e3
      rw [e3]
      go_simp
    go_simp; refine hK _ ?_; clear hK K
    iterate 10 ((with_reducible refine sw_pure ?_ (fun K hK => ?_)); (· rfl); go_simp; with_reducible refine hK _ ?_; clear hK K)
    refine sw_done (fun wz hz hH => ?_)
    go_wp2_with fail
    go_meet
    exact ⟨rfl, hb1.trans (hz.mono hb1.size)⟩
  case rest =>
    obtain ⟨rfl, hbz⟩ := hcut
    go_wp2_with fail
    go_ret
    exact ⟨rfl, hbz⟩
/-! ### From the row to the walk -/
namespace walAnyF
set_option linter.unusedVariables false
theorem own : ownKnob Try.prog.godebug = none := by kernel_rfl
theorem laidOut : laidOutB Try.prog = true := by kernel_rfl
set_option maxRecDepth 100000 in
theorem lifted (os : Os) (started : os.Started) (H : Type) (enc : TypeId × Value → H) :
    ReturnsInHanded {} Try.checked os 12 .any (Rows.walAnySpec.pre6 enc Try.prog Try.f12 Rows.walAnyRow.domain false) (Rows.walAnySpec.post enc Try.prog Try.f12 false true false false) := by
  refine returnsInHanded_of_change (C := Try.checked) own started (by kernel_rfl) Try.func12
    (ChangeSpec.witness6 (enc := enc) (C := Try.checked) false ⟨#[], #[.slice none 0 0], []⟩ 8 (by kernel_rfl) (by kernel_rfl) (by kernel_rfl) (by kernel_rfl)) ?_
  intro W base args ds gs before hval0 hW hcnd _
  have hval : ∀ (j : Nat) t v, Try.f12.params[j]? = some t → args[j]? = some v → Value.okWide Try.prog W .any base t v := hval0
  have hW' := hW
  obtain ⟨p, q, hA0, hV, rfl, hfz, hnd⟩ := hW
  have hA : DataW.TrodAll enc Try.prog W 0 (fun _ => true) true Try.f12.params.toList args.toList ds p := hA0
  rw [Try.params12] at hA hval
  obtain ⟨v0, vs0, d0, ds0, p0, q0, hargs, rfl, rfl, h0, r0⟩ := trodAll_cons hA
  obtain ⟨rfl, rfl, rfl⟩ := trodAll_nil r0
  obtain rfl : args = #[v0] := by cases args; simp_all
  obtain ⟨rfl, rfl⟩ := trodVars_none hV
  have k0 := h0
  have lt0 : ∀ x ∈ p0, x.block < W.heap.size := by obtain ⟨m, hm⟩ := k0; exact DataW.trod_lt m _ _ _ hm
  obtain ⟨l0, w0⟩ := open_bytes Try.underlying30 Try.underlying5 (by kernel_rfl) (hval 0 30 v0 rfl rfl) h0
  clear hA0 hval0
  refine (walAny_walk v0 l0 W w0).mono fun e W' ⟨he, bel⟩ => ?_
  subst he
  exact ⟨_, rfl, _, _, _, [], _, [], hW', trodAll_mk1 (shut_bool Try.underlying4 _), (trodAll_cons_mk (Below.trod laidOut (by kernel_rfl) (of_decide_eq_true (by kernel_rfl)) k0 bel lt0) trodAll_mk0), rfl, bel.frame _, fun h => by cases h⟩
theorem over : Rows.walAnyRow.holds Try.pinned (OpenSpec.ofChange Rows.walAnySpec) :=
  OpenClaim.holds_of_wide 12 Try.f12 rfl rfl rfl rfl rfl rfl rfl ⟨rfl, rfl, rfl, rfl, rfl⟩ rfl rfl rfl rfl rfl (by kernel_rfl) Try.func12 (by kernel_rfl)
    (of_decide_eq_true (by kernel_rfl)) (by unfold Func.isWrapper; first | (rw [if_pos (by decide +kernel)]; kernel_rfl) | (rw [if_neg (by decide +kernel)]; exact ⟨rfl, rfl⟩))
    (fun os started H enc _ => lifted os started H enc)
end walAnyF
theorem walAny_holds : Rows.WalAnySaid := walAnyF.over
#print axioms walAny_holds
end Go.Proofs.Ytankebgpkhcgnaa
