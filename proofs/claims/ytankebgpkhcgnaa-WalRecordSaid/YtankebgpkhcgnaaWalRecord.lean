/-
  Records go to bytes and back; what may not be does not: any record, any length of its data. No condition.
-/
import Derived.Test.YtankebgpkhcgnaaWalL
import Derived.Test.YtankebgpkhcgnaaOpenRec
namespace Go.Proofs.Ytankebgpkhcgnaa
open Go.ChangeShapes Go.WideShapes Go.ChangeAt Go.RowKit

/-- 'make([]byte, n)'. -/
theorem make_bytes (w : World) (n : Nat) (hn : n ≤ 1000000000) : ∃ w', (Instr.makeSlice 30 (.int .i64 (n : Int)) (.int .i64 (n : Int))).run Try.prog w = .ok (.slice (some ⟨w.heap.size, 0, none⟩) n n) w' ∧
    OwnB w' w.heap.size 5 (.slice (some ⟨w.heap.size, 0, none⟩) n n) (List.replicate n 0) ∧ Below w.heap.size w w' := by
  obtain ⟨i, hi, hz0, hz1, hz2⟩ := info_parts info_u8
  obtain ⟨w', h1, h2, h3⟩ := run_make_full (P := Try.prog) w w.heap.size 30 5 i _ 1 Try.underlying30 hi hz0 hz1 .i64 .i64 n (by rw [hz2]; omega) (by unfold maxLen; omega) (Nat.le_refl _)
  refine ⟨w', h1, ?_, below_of_grown h3⟩
  unfold OwnB
  rw [List.length_replicate, List.map_replicate]
  rw [Nat.mul_one, show (Value.int .u8 0).cells = #[.int .u8 0] from rfl, toList_madeCells_one] at h2
  exact h2

def walRecord_wit0 : Value := recAgg zeroR
set_option maxRecDepth 100000 in
theorem walRecord_open0 {H : Type} {enc : TypeId × Value → H} {W : World} {base base' : Nat} {r : Reach} {v : Value} {d : DataW H} {ps : List MemPlace}
    (hv : Value.okWide Try.prog W r base' 52 v) (h : DataW.Trod enc Try.prog W base (fun _ => true) true 52 v d ps) : ∃ r : Rec, v = recAgg r ∧ r.wf := open_rec hv h

theorem encR_len (r : Rec) : (encR r).length ≤ 4016 := by
  unfold encR
  split
  · exact sealP_le _ _
  · simp

set_option maxRecDepth 100000 in
set_option maxHeartbeats 4000000 in
theorem walRecord_walk (v0 : Value) (r : Rec) (more : Int) (w : World) (w0 : v0 = recAgg r ∧ r.wf) (w1 : (Lit.int .i64 more).wf = true) :
    Calls Try.prog 10 #[v0, .int .i64 more] w fun e w' => e = .returned (.bool true) ∧ Below w.heap.size w w' := by
  obtain ⟨rfl, -, -, -, -, -, hd⟩ := w0
  unfold maxLen at hd
  have wm := wf_i64 w1
  have hx := recS_box w r 52
  have hb := (Below.refl w.heap.size w).alloc (Nat.le_refl _) (.cells #[.bool r.hd, .int .i64 r.t, .int .i64 r.v, .int .i64 r.e.i, .int .i64 r.e.t, .int .i64 r.e.k, .string r.e.d] 52)
  obtain ⟨hd', t, v, ⟨i, t', k, d⟩⟩ := r
  unfold recAgg
  dsimp only at *
  go_enter Try.func10, Try.ntmps10
  go_wp2_with fail
  refine (wal_begun _).mono ?_
  rintro e w1 ⟨rfl, hb1⟩
  have hbw := hb.trans (hb1.mono hb.size)
  have hx1 := hx.below hb1
  clear hb hb1 hx
  have y0 := hx1.c0
  have y1 := hx1.c1
  have y2 := hx1.c2
  have y3 := hx1.c3
  have y4 := hx1.c4
  have y5 := hx1.c5
  have y6 := hx1.c6
  dsimp only at y0 y1 y2 y3 y4 y5 y6
  have hbws := hbw.size
  go_wp2_with fail
  refine (law_cut ⟨hd', t, v, ⟨i, t', k, d⟩⟩ _ hd).mono ?_
  rintro e w2 ⟨rfl, hb2⟩
  have hbw2 := hbw.trans (hb2.mono hbws)
  have hx2 := hx1.below hb2
  clear hbw hb2 hx1 y0 y1 y2 y3 y4 y5 y6
  have z0 := hx2.c0
  have z1 := hx2.c1
  have z2 := hx2.c2
  have z3 := hx2.c3
  have z4 := hx2.c4
  have z5 := hx2.c5
  have z6 := hx2.c6
  have zf := hx2.fr
  dsimp only at z0 z1 z2 z3 z4 z5 z6
  unfold recAgg cutR
  dsimp only
  go_upto_region 5 with fail
  have hx3 := hx2.setAll ⟨hd', t, v, ⟨i, t', k, ⟨(d.data.toList.take 300).toArray⟩⟩⟩
  have hbw3 := below_set7 hbw2 (b := w.heap.size) (Nat.le_refl _) (.bool hd') (.int .i64 t) (.int .i64 v) (.int .i64 i) (.int .i64 t') (.int .i64 k) (.string ⟨(d.data.toList.take 300).toArray⟩)
  dsimp only at hx3
  have hds : (⟨(d.data.toList.take 300).toArray⟩ : ByteArray).size ≤ 2600 := by
    rw [← size_data]
    simp
    omega
  generalize hD0 : (⟨(d.data.toList.take 300).toArray⟩ : ByteArray) = D at *
  generalize hWW : World.setCell _ _ _ = w3 at *
  clear hWW z0 z1 z2 z3 z4 z5 z6 zf hx2 hbw2 hD0 hd
  have h3 : (0 < more ∧ more < 2600) ∨ (0 < more ∧ ¬ more < 2600) ∨ ¬ 0 < more := by omega
  rcases h3 with ⟨hm, hn⟩ | ⟨hm, hn⟩ | hm
  case' inl =>
    have tm : decide (0 < more) = true := decide_eq_true hm
    have tn : decide (more < 2600) = true := decide_eq_true hn
    obtain ⟨M, rfl⟩ := Int.eq_ofNat_of_zero_le (show 0 ≤ more by omega)
    obtain ⟨w4, hmk, hO, hb4⟩ := make_bytes w3 M (by omega)
    have hconv := conv_str hO.bytes
    have hx4 := (hx3.below hb4).setD ⟨(List.replicate M 0).toArray⟩
    have hbw4 := (hbw3.trans (hb4.mono hbw3.size)).setCell (p := ⟨w.heap.size, 6, none⟩) (Nat.le_refl _) (.string ⟨(List.replicate M 0).toArray⟩)
    have q6 := (hx3.below hb4).c6
    have qf := (hx3.below hb4).fr
    dsimp only at hx4 q6
    generalize (⟨(List.replicate M 0).toArray⟩ : ByteArray) = D' at *
    clear hds hO hb4 hx3 hbw3
    go_upto_region 7 with fail
    generalize hWW : World.setCell _ _ _ = w5 at *
    clear hWW hmk hconv q6 qf
  case' inr.inl =>
    have tm : decide (0 < more) = true := decide_eq_true hm
    have tn : decide (more < 2600) = false := decide_eq_false hn
    have hx4 := hx3
    have hbw4 := hbw3
    obtain ⟨D', hD'⟩ : ∃ D', D' = D := ⟨_, rfl⟩
    rw [← hD'] at hx4
    clear hx3 hbw3 hds hD'
    go_upto_region 7 with fail
  case' inr.inr =>
    have tm : decide (0 < more) = false := decide_eq_false hm
    have hx4 := hx3
    have hbw4 := hbw3
    obtain ⟨D', hD'⟩ : ∃ D', D' = D := ⟨_, rfl⟩
    rw [← hD'] at hx4
    clear hx3 hbw3 hds hD'
    go_upto_region 7 with fail
  all_goals
    have y0 := hx4.c0
    have y1 := hx4.c1
    have y2 := hx4.c2
    have y3 := hx4.c3
    have y4 := hx4.c4
    have y5 := hx4.c5
    have y6 := hx4.c6
    dsimp only at y0 y1 y2 y3 y4 y5 y6
    have hbws := hbw4.size
    go_wp2_with fail
    refine (law_of ⟨hd', t, v, ⟨i, t', k, D'⟩⟩ _).mono ?_
    rintro e w5 ⟨rfl, hb5⟩
    have hx5 := hx4.below hb5
    have hbw5 := hbw4.trans (hb5.mono hbws)
    clear hb5 hbw4 hx4 y0 y1 y2 y3 y4 y5 y6
    go_wp2_with fail
    refine (wal_encode ⟨hd', t, v, ⟨i, t', k, D'⟩⟩ _).mono ?_
    rintro e w6 ⟨v6, rfl, ho6, hb6⟩
    have hx6 := hx5.below hb6
    have hbw6 := hbw5.trans (hb6.mono hbw5.size)
    clear hb6 hbw5 hx5
    have y0 := hx6.c0
    have y1 := hx6.c1
    have y2 := hx6.c2
    have y3 := hx6.c3
    have y4 := hx6.c4
    have y5 := hx6.c5
    have y6 := hx6.c6
    dsimp only at y0 y1 y2 y3 y4 y5 y6
    go_wp2_with fail
    refine (ref_may ⟨hd', t, v, ⟨i, t', k, D'⟩⟩ _).mono ?_
    rintro e w7 ⟨rfl, hb7⟩
    have hx7 := hx6.below hb7
    have ho7 := ho6.below hb7
    have hbw7 := hbw6.trans (hb7.mono hbw6.size)
    clear hb7 hbw6 hx6 ho6 y0 y1 y2 y3 y4 y5 y6
    have hlen := encR_len ⟨hd', t, v, ⟨i, t', k, D'⟩⟩
    have hdec := decR_enc (r := ⟨hd', t, v, ⟨i, t', k, D'⟩⟩) []
    rw [List.append_nil] at hdec
    have hno : mayR ⟨hd', t, v, ⟨i, t', k, D'⟩⟩ = false → encR ⟨hd', t, v, ⟨i, t', k, D'⟩⟩ = [] := fun h => by unfold encR; rw [h]; rfl
    obtain ⟨E, hE⟩ : ∃ E, E = encR ⟨hd', t, v, ⟨i, t', k, D'⟩⟩ := ⟨_, rfl⟩
    rw [← hE] at ho7 hlen hdec hno
    have HE := Lib.hid hE
    clear hE
    obtain ⟨b, hbm⟩ : ∃ b, b = mayR ⟨hd', t, v, ⟨i, t', k, D'⟩⟩ := ⟨_, rfl⟩
    rw [← hbm] at hdec hno ⊢
    have HB := Lib.hid hbm
    clear hbm
    go_upto_region 9 with fail
    go_cut [44] (fun x wx => x = .bool false ∧ Below w7.heap.size w7 wx)
    case' first =>
      refine wp_region_sw (by rfl) (by kernel_rfl) (fun k' => match k' with | 1 => some (fun v' _ => v' = recAgg ⟨hd', t, v, ⟨i, t', k, D'⟩⟩) | 2 => some (fun v' _ => v' = .bool b) | 9 => some (fun v' w' => Bytes w' v' E) | _ => none) ?_ (fun vals => ?_)
      · intro k' φ hk v' w1 w2 h1 h2
        match k', hk with
        | 1, hk => obtain rfl := Option.some.inj hk; exact h1
        | 2, hk => obtain rfl := Option.some.inj hk; exact h1
        | 9, hk => obtain rfl := Option.some.inj hk; exact Bytes.below h1 h2 rfl
      refine sw_at (recAgg ⟨hd', t, v, ⟨i, t', k, D'⟩⟩) rfl rfl (fun wz hz' hH => ?_) (fun K hK => ?_)
      · have hq := hx7.below hz'
        have y0 := hq.c0
        have y1 := hq.c1
        have y2 := hq.c2
        have y3 := hq.c3
        have y4 := hq.c4
        have y5 := hq.c5
        have y6 := hq.c6
        unfold recAgg
        go_simp
      go_simp; refine hK _ ?_; clear hK K
      refine sw_call _ rfl rfl (fun wz hz' hH => ?_) (fun K hK => ?_)
      · go_simp
        go_at_call 33
        refine (law_of _ _).mono ?_
        rintro e w9 ⟨rfl, hb9⟩
        exact ⟨_, rfl, rfl, hb9⟩
      go_simp; refine hK _ ?_; clear hK K
      refine sw_call _ rfl rfl (fun wz hz' hH => ?_) (fun K hK => ?_)
      · have e1 := hH _ (List.Mem.head _) rfl
        dsimp only at e1
        rw [show (0 + 1 : Nat) = 1 from rfl] at e1
        rw [e1]
        go_simp
        go_at_call 35
        refine (wal_may _ _).mono ?_
        rintro e w9 ⟨rfl, hb9⟩
        exact ⟨_, rfl, by rw [← HB.out], hb9⟩
      go_simp; refine hK _ ?_; clear hK K
      ((with_reducible refine sw_pure ?_ (fun K hK => ?_)); (· rfl); go_simp; with_reducible refine hK _ ?_; clear hK K)
      refine sw_at (.bool false) rfl rfl (fun wz hz' hH => ?_) (fun K hK => ?_)
      · have e2 := hH _ (List.Mem.head _) rfl
        dsimp only at e2
        rw [show (0 + 1 + 1 : Nat) = 2 from rfl] at e2
        rw [e2]
        cases b <;> go_simp
      go_simp; refine hK _ ?_; clear hK K
      iterate 2 ((with_reducible refine sw_pure ?_ (fun K hK => ?_)); (· rfl); go_simp; with_reducible refine hK _ ?_; clear hK K)
      refine sw_at (.string ⟨E.toArray⟩) rfl rfl (fun wz hz' hH => ?_) (fun K hK => ?_)
      · have hcv := conv_str (ho7.below hz').bytes
        go_simp
      go_simp; refine hK _ ?_; clear hK K
      refine sw_at (recAgg ⟨hd', t, v, ⟨i, t', k, D'⟩⟩) rfl rfl (fun wz hz' hH => ?_) (fun K hK => ?_)
      · have hq := hx7.below hz'
        have y0 := hq.c0
        have y1 := hq.c1
        have y2 := hq.c2
        have y3 := hq.c3
        have y4 := hq.c4
        have y5 := hq.c5
        have y6 := hq.c6
        unfold recAgg
        go_simp
      go_simp; refine hK _ ?_; clear hK K
      refine sw_call _ rfl rfl (fun wz hz' hH => ?_) (fun K hK => ?_)
      · go_simp
        go_at_call 36
        refine (ref_encode _ _).mono ?_
        rintro e w9 ⟨v9, rfl, ho9, hb9⟩
        rw [← HE.out] at ho9
        exact ⟨v9, rfl, ho9.bytes, hb9⟩
      go_simp; refine hK _ ?_; clear hK K
      refine sw_at (.string ⟨E.toArray⟩) rfl rfl (fun wz hz' hH => ?_) (fun K hK => ?_)
      · have e9 := hH _ (List.Mem.head _) rfl
        have hcv := conv_str e9
        dsimp only at hcv
        go_simp
      go_simp; refine hK _ ?_; clear hK K
      refine sw_at (.bool false) rfl rfl (fun wz hz' hH => ?_) (fun K hK => ?_)
      · go_simp
      go_simp; refine hK _ ?_; clear hK K
      ((with_reducible refine sw_pure ?_ (fun K hK => ?_)); (· rfl); go_simp; with_reducible refine hK _ ?_; clear hK K)
      refine sw_done (fun wz hz hH => ?_)
      go_wp2_with fail
      go_meet
      exact ⟨rfl, hz⟩
    case' rest =>
      obtain ⟨rfl, hbz⟩ := hcut
      rename World => wx
      have hx8 := hx7.below hbz
      have ho8 := ho7.below hbz
      have hbw8 := hbw7.trans (hbz.mono hbw7.size)
      clear hx7 ho7 hbw7 hbz
      have HNO := Lib.hid hno
      have HDEC := Lib.hid hdec
      clear hno hdec
      cases b with
      | false =>
        rw [HNO.out rfl] at ho8
        obtain ⟨a8, c8, rfl⟩ := ho8.len
        go_wp2_with fail
        go_ret
        exact ⟨rfl, hbw8⟩
      | true =>
        have hdec := HDEC.out rfl
        have HD := Lib.hid hdec
        clear hdec
        obtain ⟨a8, c8, rfl⟩ := ho8.len
        go_wp2_with fail
        refine (wal_decode _ E _ ho8.bytes (by omega)).mono ?_
        rw [HD.out]
        rintro e w9 ⟨rfl, hb9⟩
        have hx9 := hx8.below hb9
        have hbw9 := hbw8.trans (hb9.mono hbw8.size)
        clear hb9 hbw8 hx8 ho8
        unfold decV recAgg
        dsimp only
        have hX0 := recS_box w9 ⟨hd', t, v, ⟨i, t', k, D'⟩⟩ 55
        have hx10 := hx9.below ((Below.refl _ _).alloc (Nat.le_refl _) (.cells #[.bool hd', .int .i64 t, .int .i64 v, .int .i64 i, .int .i64 t', .int .i64 k, .string D'] 55))
        have hbw10 := hbw9.alloc hbw9.size (.cells #[.bool hd', .int .i64 t, .int .i64 v, .int .i64 i, .int .i64 t', .int .i64 k, .string D'] 55)
        dsimp only at hX0
        go_upto_region 14 with fail
        go_cut [4] (fun x wx => x = .bool true ∧ Below w.heap.size w wx)
        case' first =>
          generalize hX : w9.heap.size = X at *
          generalize hWW : w9.alloc _ = w10 at *
          clear hWW hx9 hbw9
          refine wp_region_sw (by rfl) (by kernel_rfl) (fun k' => match k' with | 10 => some (fun v' _ => v' = recAgg ⟨hd', t, v, ⟨i, t', k, D'⟩⟩) | 12 => some (fun v' _ => v' = .bool true) | _ => none) ?_ (fun vals => ?_)
          · intro k' φ hk v' w1 w2 h1 h2
            match k', hk with
            | 10, hk => obtain rfl := Option.some.inj hk; exact h1
            | 12, hk => obtain rfl := Option.some.inj hk; exact h1
          iterate 9 ((with_reducible refine sw_pure ?_ (fun K hK => ?_)); (· rfl); go_simp; with_reducible refine hK _ ?_; clear hK K)
          refine sw_at (recAgg ⟨hd', t, v, ⟨i, t', k, D'⟩⟩) rfl rfl (fun wz hz' hH => ?_) (fun K hK => ?_)
          · have hq := hX0.below hz'
            have y0 := hq.c0
            have y1 := hq.c1
            have y2 := hq.c2
            have y3 := hq.c3
            have y4 := hq.c4
            have y5 := hq.c5
            have y6 := hq.c6
            unfold recAgg
            go_simp
          go_simp; refine hK _ ?_; clear hK K
          refine sw_call _ rfl rfl (fun wz hz' hH => ?_) (fun K hK => ?_)
          · go_simp
            go_at_call 39
            refine (law_back _ _).mono ?_
            rintro e w12 ⟨rfl, hb12⟩
            exact ⟨_, rfl, rfl, hb12⟩
          go_simp; refine hK _ ?_; clear hK K
          refine sw_at (recAgg ⟨hd', t, v, ⟨i, t', k, D'⟩⟩) rfl rfl (fun wz hz' hH => ?_) (fun K hK => ?_)
          · have hq := hx10.below hz'
            have y0 := hq.c0
            have y1 := hq.c1
            have y2 := hq.c2
            have y3 := hq.c3
            have y4 := hq.c4
            have y5 := hq.c5
            have y6 := hq.c6
            unfold recAgg
            go_simp
          go_simp; refine hK _ ?_; clear hK K
          refine sw_call _ rfl rfl (fun wz hz' hH => ?_) (fun K hK => ?_)
          · have e10 := hH _ (List.Mem.head _) rfl
            dsimp only at e10
            rw [show (0 + 1 + 1 + 1 + 1 + 1 + 1 + 1 + 1 + 1 + 1 : Nat) = 10 from rfl] at e10
            rw [e10]
            go_simp
            go_at_call 38
            refine (ref_eqRec _ _).mono ?_
            rintro e w12 ⟨rfl, hb12⟩
            exact ⟨_, rfl, rfl, hb12⟩
          go_simp; refine hK _ ?_; clear hK K
          refine sw_at (.bool true) rfl rfl (fun wz hz' hH => ?_) (fun K hK => ?_)
          · have e12 := hH _ (List.Mem.head _) rfl
            dsimp only at e12
            rw [show (0 + 1 + 1 + 1 + 1 + 1 + 1 + 1 + 1 + 1 + 1 + 1 + 1 : Nat) = 12 from rfl] at e12
            rw [e12]
            go_simp
          go_simp; refine hK _ ?_; clear hK K
          ((with_reducible refine sw_pure ?_ (fun K hK => ?_)); (· rfl); go_simp; with_reducible refine hK _ ?_; clear hK K)
          refine sw_done (fun wz hz hH => ?_)
          go_wp2_with fail
          go_meet
          exact ⟨rfl, hbw10.trans (hz.mono hbw10.size)⟩
        case' rest =>
          obtain ⟨rfl, hbz⟩ := hcut
          go_wp2_with fail
          go_ret
          exact ⟨rfl, hbz⟩
/-! ### From the row to the walk -/
namespace walRecordF
set_option linter.unusedVariables false
theorem own : ownKnob Try.prog.godebug = none := by kernel_rfl
theorem laidOut : laidOutB Try.prog = true := by kernel_rfl
set_option maxRecDepth 100000 in
theorem lifted (os : Os) (started : os.Started) (H : Type) (enc : TypeId × Value → H) :
    ReturnsInHanded {} Try.checked os 10 .any (Rows.walRecordSpec.pre6 enc Try.prog Try.f10 Rows.walRecordRow.domain false) (Rows.walRecordSpec.post enc Try.prog Try.f10 false true false false) := by
  refine returnsInHanded_of_change (C := Try.checked) own started (by kernel_rfl) Try.func10
    (ChangeSpec.witness6 (enc := enc) (C := Try.checked) false ⟨#[], #[walRecord_wit0, .int .i64 0], []⟩ 8 (by kernel_rfl) (by kernel_rfl) (by kernel_rfl) (by kernel_rfl)) ?_
  intro W base args ds gs before hval0 hW hcnd _
  have hval : ∀ (j : Nat) t v, Try.f10.params[j]? = some t → args[j]? = some v → Value.okWide Try.prog W .any base t v := hval0
  have hW' := hW
  obtain ⟨p, q, hA0, hV, rfl, hfz, hnd⟩ := hW
  have hA : DataW.TrodAll enc Try.prog W 0 (fun _ => true) true Try.f10.params.toList args.toList ds p := hA0
  rw [Try.params10] at hA hval
  obtain ⟨v0, vs0, d0, ds0, p0, q0, hargs, rfl, rfl, h0, r0⟩ := trodAll_cons hA
  obtain ⟨v1, vs1, d1, ds1, p1, q1, rfl, rfl, rfl, h1, r1⟩ := trodAll_cons r0
  obtain ⟨rfl, rfl, rfl⟩ := trodAll_nil r1
  obtain rfl : args = #[v0, v1] := by cases args; simp_all
  obtain ⟨rfl, rfl⟩ := trodVars_none hV
  have k0 := h0
  have lt0 : ∀ x ∈ p0, x.block < W.heap.size := by obtain ⟨m, hm⟩ := k0; exact DataW.trod_lt m _ _ _ hm
  obtain ⟨x0, w0⟩ := walRecord_open0 (hval 0 52 v0 rfl rfl) h0
  have k1 := h1
  have lt1 : ∀ x ∈ p1, x.block < W.heap.size := by obtain ⟨m, hm⟩ := k1; exact DataW.trod_lt m _ _ _ hm
  obtain ⟨a1, rfl, hd1, hp1, w1⟩ := open_int Try.underlying3 (hval 1 3 v1 rfl rfl) h1
  clear hA0 hval0
  refine (walRecord_walk v0 x0 a1 W w0 w1).mono fun e W' ⟨he, bel⟩ => ?_
  subst he
  exact ⟨_, rfl, _, _, _, [], _, [], hW', trodAll_mk1 (shut_bool Try.underlying4 _), (trodAll_cons_mk (Below.trod laidOut (by kernel_rfl) (of_decide_eq_true (by kernel_rfl)) k0 bel lt0) (trodAll_cons_mk (Below.trod laidOut (by kernel_rfl) (of_decide_eq_true (by kernel_rfl)) k1 bel lt1) trodAll_mk0)), rfl, bel.frame _, fun h => by cases h⟩
theorem over : Rows.walRecordRow.holds Try.pinned (OpenSpec.ofChange Rows.walRecordSpec) :=
  OpenClaim.holds_of_wide 10 Try.f10 rfl rfl rfl rfl rfl rfl rfl ⟨rfl, rfl, rfl, rfl, rfl⟩ rfl rfl rfl rfl rfl (by kernel_rfl) Try.func10 (by kernel_rfl)
    (of_decide_eq_true (by kernel_rfl)) (by unfold Func.isWrapper; first | (rw [if_pos (by decide +kernel)]; kernel_rfl) | (rw [if_neg (by decide +kernel)]; exact ⟨rfl, rfl⟩))
    (fun os started H enc _ => lifted os started H enc)
end walRecordF
theorem walRecord_holds : Rows.WalRecordSaid := walRecordF.over
#print axioms walRecord_holds
end Go.Proofs.Ytankebgpkhcgnaa
