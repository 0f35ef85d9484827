/-
  Snapshots go to bytes and back, whatever stands behind; cut off, or with a byte changed, they are not told: any snapshot, any of these. No condition.
-/
import Derived.Test.YtankebgpkhcgnaaWalRS
import Derived.Test.YtankebgpkhcgnaaWalG
import Derived.Test.YtankebgpkhcgnaaWalB
import Derived.Test.YtankebgpkhcgnaaWalPlainY
import Derived.Test.YtankebgpkhcgnaaOpenEnt
import Derived.Test.YtankebgpkhcgnaaEqEnt
import Derived.Test.YtankebgpkhcgnaaRegionT
namespace Go.Proofs.Ytankebgpkhcgnaa
open Go.ChangeShapes Go.WideShapes Go.ChangeAt Go.RowKit

/-- 'make([]byte, n)'. -/
theorem make_bytes (w : World) (n : Nat) (hn : n ≤ 1000000000) : ∃ w', (Instr.makeSlice 30 (.int .i64 (n : Int)) (.int .i64 (n : Int))).run Try.prog w = .ok (.slice (some ⟨w.heap.size, 0, none⟩) n n) w' ∧
    OwnB w' w.heap.size 5 (.slice (some ⟨w.heap.size, 0, none⟩) n n) (List.replicate n 0) ∧ Below w.heap.size w w' := by
  obtain ⟨i, hi, hz0, hz1, hz2⟩ := info_parts info_u8
  obtain ⟨w', h1, h2, h3⟩ := run_make_full (P := Try.prog) w w.heap.size 30 5 i _ 1 Try.underlying30 hi hz0 hz1 .i64 .i64 n (by rw [hz2]; omega) (by unfold maxLen; omega) (Nat.le_refl _)
  refine ⟨w', h1, ?_, below_of_grown h3⟩
  unfold OwnB
  rw [List.length_replicate, List.map_replicate]
  rw [Nat.mul_one, show (Value.int .u8 0).cells = #[.int .u8 0] from rfl, toList_madeCells_one] at h2
  exact h2

theorem putS_len {s : Snp} : (putS s).length ≤ 4000000 := by
  unfold putS
  by_cases h : mayS s = true
  · rw [if_pos h, List.length_append]
    obtain ⟨-, -, -, -, -, h6⟩ := mayS_iff.1 h
    have h1 := sealP_le 3 (headS s)
    have h2 := parts_len (s.d.data.toList.length + 1) s.d.data.toList (Nat.lt_succ_self _)
    have h3 : s.d.data.toList.length = s.d.size := size_data _
    omega
  · rw [if_neg h]
    simp
theorem putS_pos {s : Snp} (h : mayS s = true) : 5 ≤ (putS s).length := by
  have hl := headS_len h
  unfold putS
  rw [if_pos h, List.length_append, sealP_len (by omega) (by omega) (by omega)]
  have := (putN_len ((headS s).length : Nat)).1
  omega

def walSnap_wit0 : Value := snpAgg zeroS
set_option maxRecDepth 100000 in
theorem walSnap_open0 {H : Type} {enc : TypeId × Value → H} {W : World} {base base' : Nat} {r : Reach} {v : Value} {d : DataW H} {ps : List MemPlace}
    (hv : Value.okWide Try.prog W r base' 75 v) (h : DataW.Trod enc Try.prog W base (fun _ => true) true 75 v d ps) : ∃ s : Snp, v = snpAgg s ∧ s.wf := open_snap hv h

theorem own_take {w : World} {base e n cap : Nat} {a : Option Addr} {l : List UInt8} (h : OwnB w base e (.slice a n cap) l) (k : Nat) (hk : k ≤ l.length) : OwnB w base e (.slice a k cap) (l.take k) := by
  obtain ⟨h1, h2⟩ := h
  have hlen : (l.take k).length = k := by rw [List.length_take]; omega
  refine ⟨by rw [List.length_map, Nat.mul_one], ?_⟩
  rcases h2 with ⟨h3, h4⟩ | ⟨g, cap', cur, h3, hb, hg, hnc, hcm, hcs, htake⟩
  · simp only [Value.slice.injEq] at h3
    obtain ⟨rfl, rfl, rfl⟩ := h3
    obtain rfl : k = 0 := by omega
    exact .inl ⟨rfl, by simp⟩
  · simp only [Value.slice.injEq] at h3
    obtain ⟨rfl, rfl, rfl⟩ := h3
    refine .inr ⟨g, _, cur, by rw [hlen], hb, hg, by omega, hcm, hcs, ?_⟩
    rw [hlen, Nat.mul_one, List.map_take, ← htake, Nat.mul_one, List.take_take, Nat.min_eq_left hk]

set_option maxRecDepth 100000 in
set_option maxHeartbeats 8000000 in
theorem walSnap_walk (v0 : Value) (s : Snp) (size cut at_ x : Int) (v5 : Value) (l5 : List UInt8) (w : World) (w0 : v0 = snpAgg s ∧ s.wf) (ws : (Lit.int .i64 size).wf = true) (wc : (Lit.int .i64 cut).wf = true) (wa : (Lit.int .i64 at_).wf = true) (wx : (Lit.int .u8 x).wf = true) (h5 : Bytes w v5 l5) :
    Calls Try.prog 13 #[v0, .int .i64 size, .int .i64 cut, .int .i64 at_, .int .u8 x, v5] w fun e w' => e = .returned (.bool true) ∧ Below w.heap.size w w' := by
  have ws := wf_i64 ws
  have wc := wf_i64 wc
  have wa := wf_i64 wa
  have wx := wf_u8 wx
  obtain ⟨cx, hcx⟩ : ∃ c : UInt8, x = (c.toNat : Int) := ⟨UInt8.ofNat x.toNat, by simp only [UInt8.toNat_ofNat']; omega⟩
  subst hcx
  clear wx
  obtain ⟨rfl, -, -, hwc, hwd⟩ := w0
  unfold maxLen at hwc hwd
  have hx := snapS_box w s 75
  have hb := (Below.refl w.heap.size w).alloc (Nat.le_refl _) (.cells #[.int .i64 s.i, .int .i64 s.t, .string s.c, .string s.d] 75)
  obtain ⟨i, t, c, d⟩ := s
  unfold snpAgg
  dsimp only at *
  go_enter Try.func13, Try.ntmps13
  go_wp2_with fail
  refine (wal_begun _).mono ?_
  rintro e w1 ⟨rfl, hb1⟩
  replace hb := hb.trans (hb1.mono hb.size)
  replace hx := hx.below hb1
  clear hb1
  have hN1 := hb.size
  have hlt := hx.lt
  generalize hNN : w.heap.size = N at *
  have HNN := Lib.hid hNN
  have HN1 := Lib.hid hN1
  clear hNN hN1
  go_upto_region 4 with fail
  go_cut [] (fun wx => SnapS wx N ⟨i, t, ⟨(c.data.toList.take 60).toArray⟩, ⟨(d.data.toList.take 200).toArray⟩⟩ ∧ Below N w wx)
  case first =>
    have c2 := hx.c2
    have c3 := hx.c3
    dsimp only at c2 c3
    refine wp_region_tail 7 (by rfl) (by kernel_rfl) (fun k => match k with | 2 => some (fun v _ => v = .string ⟨(c.data.toList.take 60).toArray⟩) | 5 => some (fun v _ => v = .string ⟨(d.data.toList.take 200).toArray⟩) | _ => none) ?_ (fun vals => ?_)
    · intro k φ hk v w1 w2 h1 h2
      match k, hk with
      | 2, hk => obtain rfl := Option.some.inj hk; exact h1
      | 5, hk => obtain rfl := Option.some.inj hk; exact h1
    dsimp only [List.take, List.drop]
    iterate 1 ((with_reducible refine sw_pure ?_ (fun K hK => ?_)); (· rfl); go_simp; with_reducible refine hK _ ?_; clear hK K)
    refine sw_at (.string c) rfl rfl (fun wz hz' hH => ?_) (fun K hK => ?_)
    · have h2 := (hz'.cell (p := ⟨N, 2, none⟩) hlt).trans c2
      go_simp
    go_simp; refine hK _ ?_; clear hK K
    refine sw_call _ rfl rfl (fun wz hz' hH => ?_) (fun K hK => ?_)
    · go_simp
      go_at_call 43
      refine (cut_any c 60 _ (by decide) hwc).mono ?_
      rintro e w' ⟨rfl, rfl⟩
      exact ⟨_, rfl, rfl, Below.refl _ _⟩
    go_simp; refine hK _ ?_; clear hK K
    iterate 1 ((with_reducible refine sw_pure ?_ (fun K hK => ?_)); (· rfl); go_simp; with_reducible refine hK _ ?_; clear hK K)
    refine sw_at (.string d) rfl rfl (fun wz hz' hH => ?_) (fun K hK => ?_)
    · have h2 := (hz'.cell (p := ⟨N, 3, none⟩) hlt).trans c3
      go_simp
    go_simp; refine hK _ ?_; clear hK K
    refine sw_call _ rfl rfl (fun wz hz' hH => ?_) (fun K hK => ?_)
    · go_simp
      go_at_call 43
      refine (cut_any d 200 _ (by decide) hwd).mono ?_
      rintro e w' ⟨rfl, rfl⟩
      exact ⟨_, rfl, rfl, Below.refl _ _⟩
    go_simp; refine hK _ ?_; clear hK K
    iterate 1 ((with_reducible refine sw_pure ?_ (fun K hK => ?_)); (· rfl); go_simp; with_reducible refine hK _ ?_; clear hK K)
    refine sw_done (fun wz hz' hH => ?_)
    have e5 := hH _ (List.Mem.head _)
    have e2 := hH _ (List.Mem.tail _ (List.Mem.head _))
    dsimp only at e5 e2
    have hx' := hx.below hz'
    have g2 := hx'.c2
    have g3 := hx'.c3
    have gf := hx'.fr
    dsimp only at g2 g3
    rw [e5, e2]
    unfold tailQ
    have hz2 := Lib.hid hz'
    clear hH e5 e2 c2 c3
    go_wp2_with fail
    go_meet
    exact ⟨(hx'.setC _).setD _, ((hb.trans (hz2.out.mono HN1.out)).setCell (Nat.le_refl _) _).setCell (Nat.le_refl _) _⟩
  case rest =>
    obtain ⟨hS, hbw⟩ := hcut
    rename World => w2
    clear hx hb
    have hC : (⟨(c.data.toList.take 60).toArray⟩ : ByteArray).size ≤ 60 := by rw [← size_data]; simp; omega
    have hD : (⟨(d.data.toList.take 200).toArray⟩ : ByteArray).size ≤ 10000 := by rw [← size_data]; simp; omega
    generalize (⟨(c.data.toList.take 60).toArray⟩ : ByteArray) = C at *
    generalize (⟨(d.data.toList.take 200).toArray⟩ : ByteArray) = D at *
    clear hwc hwd hlt
    go_upto_region 5 with fail
    go_cut [35] (fun s wx => s = .bool (decide (0 < size ∧ size < 10000)) ∧ wx = w2)
    case first =>
      by_cases m0 : 0 < size
      · have t0 : decide (0 < size) = true := decide_eq_true m0
        by_cases m1 : size < 10000
        · have t1 : decide (size < 10000) = true := decide_eq_true m1
          have t2 : decide (0 < size ∧ size < 10000) = true := decide_eq_true ⟨m0, m1⟩
          go_wp2_with fail
          go_meet
          exact ⟨by rw [t2], rfl⟩
        · have t1 : decide (size < 10000) = false := decide_eq_false m1
          have t2 : decide (0 < size ∧ size < 10000) = false := decide_eq_false fun h => m1 h.2
          go_wp2_with fail
          go_meet
          exact ⟨by rw [t2], rfl⟩
      · have t0 : decide (0 < size) = false := decide_eq_false m0
        have t2 : decide (0 < size ∧ size < 10000) = false := decide_eq_false fun h => m0 h.1
        go_wp2_with fail
        go_meet
        exact ⟨by rw [t2], rfl⟩
    case rest =>
      obtain ⟨rfl, rfl⟩ := hcut
      rename World => w3
      have HM : Hid (decide (0 < size ∧ size < 10000) = true → 0 < size ∧ size < 10000) := Lib.hid (fun h => by simpa using h)
      generalize decide (0 < size ∧ size < 10000) = b0 at *
      go_upto_if 35 with fail
      go_cut [] (fun wx => ∃ D', D'.size ≤ 10000 ∧ SnapS wx N ⟨i, t, C, D'⟩ ∧ Below N w wx)
      case first =>
        cases b0
        · go_wp2_with fail
          go_meet
          exact ⟨D, hD, hS, hbw⟩
        · obtain ⟨m0, m1⟩ := HM.out rfl
          obtain ⟨m, rfl⟩ := Int.eq_ofNat_of_zero_le (show 0 ≤ size by omega)
          obtain ⟨w4, hmk, hO, hb4⟩ := make_bytes w3 m (by omega)
          have hconv := conv_str hO.bytes
          have hS4 := hS.below hb4
          have g3 := hS4.c3
          have gf := hS4.fr
          have hbw4 := hbw.trans (hb4.mono (Nat.le_of_lt hS.lt))
          dsimp only at g3
          go_wp2_with fail
          go_meet
          exact ⟨_, by rw [← size_data]; simp; omega, hS4.setD _, hbw4.setCell (Nat.le_refl _) _⟩
      case rest =>
        obtain ⟨D', hD', hS4, hbw4⟩ := hcut
        rename World => w4
        clear HM hS hbw hD
        have c0 := hS4.c0
        have c1 := hS4.c1
        have c2 := hS4.c2
        have c3 := hS4.c3
        dsimp only at c0 c1 c2 c3
        go_wp2_with fail
        refine (wal_putSnap ⟨i, t, C, D'⟩ _).mono ?_
        rintro e w5 ⟨v5', rfl, ho5, hb5⟩
        have hS5 := hS4.below hb5
        have hN4 : N ≤ w4.heap.size := Nat.le_of_lt hS4.lt
        have hbw5 := hbw4.trans (hb5.mono hN4)
        have hEl := putS_len (s := ⟨i, t, C, D'⟩)
        have hyes : mayS ⟨i, t, C, D'⟩ = true → 5 ≤ (putS ⟨i, t, C, D'⟩).length ∧ (∀ r, getS (putS ⟨i, t, C, D'⟩ ++ r) = (⟨i, t, C, D'⟩, (putS ⟨i, t, C, D'⟩).length, 0)) ∧ (∀ m, m < (putS ⟨i, t, C, D'⟩).length → getS ((putS ⟨i, t, C, D'⟩).take m) = (zeroS, 0, 2)) ∧ (∀ (k : Nat) (x : UInt8) (hk : k < (putS ⟨i, t, C, D'⟩).length), (putS ⟨i, t, C, D'⟩)[k] ≠ x → (getS ((putS ⟨i, t, C, D'⟩).set k x)).2.2 ≠ 0) := fun h =>
          ⟨putS_pos h, fun r => getS_put r h, fun m hm => getS_cut h m hm, fun k x hk hx => getS_set h k x hk hx⟩
        have hno : mayS ⟨i, t, C, D'⟩ = false → putS ⟨i, t, C, D'⟩ = [] := fun h => by unfold putS; rw [h]; rfl
        have HR := Lib.hid (fun w => ref_putSnap ⟨i, t, C, D'⟩ w)
        generalize putS ⟨i, t, C, D'⟩ = E at *
        have HY := Lib.hid hyes
        have HO := Lib.hid hno
        clear hyes hno hS4 hbw4 hb5 c0 c1 c2 c3
        have hN5 := hS5.lt
        obtain ⟨a5, k5, rfl⟩ := ho5.len
        have hB5 := ho5.bytes
        have HO5 := Lib.hid ho5
        clear ho5
        go_upto_region 8 with fail
        go_cut [47] (fun s wx => s = .bool false ∧ Below w5.heap.size w5 wx)
        case first =>
          have c0 := hS5.c0
          have c1 := hS5.c1
          have c2 := hS5.c2
          have c3 := hS5.c3
          dsimp only at c0 c1 c2 c3
          refine wp_region_sw (by rfl) (by kernel_rfl) (fun k' => match k' with | 3 => some (fun v' wz => Bytes wz v' E) | _ => none) ?_ (fun vals => ?_)
          · intro k' φ hk v' w1 w2 h1 h2
            match k', hk with
            | 3, hk => obtain rfl := Option.some.inj hk; exact Bytes.below h1 h2 rfl
          iterate 1 ((with_reducible refine sw_pure ?_ (fun K hK => ?_)); (· rfl); go_simp; with_reducible refine hK _ ?_; clear hK K)
          refine sw_at (.string ⟨E.toArray⟩) rfl rfl (fun wz hz' hH => ?_) (fun K hK => ?_)
          · have hcv := conv_str (hB5.below hz' rfl)
            go_simp
          go_simp; refine hK _ ?_; clear hK K
          refine sw_at (snpAgg ⟨i, t, C, D'⟩) rfl rfl (fun wz hz' hH => ?_) (fun K hK => ?_)
          · have y0 := (hz'.cell (p := ⟨N, 0, none⟩) hN5).trans c0
            have y1 := (hz'.cell (p := ⟨N, 1, none⟩) hN5).trans c1
            have y2 := (hz'.cell (p := ⟨N, 2, none⟩) hN5).trans c2
            have y3 := (hz'.cell (p := ⟨N, 3, none⟩) hN5).trans c3
            unfold snpAgg
            go_simp
          go_simp; refine hK _ ?_; clear hK K
          refine sw_call _ rfl rfl (fun wz hz' hH => ?_) (fun K hK => ?_)
          · go_simp
            go_at_call 45
            refine (HR.out _).mono ?_
            rintro e w12 ⟨v12, rfl, ho12, hb12⟩
            exact ⟨_, rfl, ho12.bytes, hb12⟩
          go_simp; refine hK _ ?_; clear hK K
          refine sw_at (.string ⟨E.toArray⟩) rfl rfl (fun wz hz' hH => ?_) (fun K hK => ?_)
          · have e3 := hH _ (List.Mem.head _) rfl
            dsimp only at e3
            have hcv := conv_str e3
            go_simp
          go_simp; refine hK _ ?_; clear hK K
          refine sw_at (.bool false) rfl rfl (fun wz hz' hH => ?_) (fun K hK => ?_)
          · go_simp
          go_simp; refine hK _ ?_; clear hK K
          refine sw_done (fun wz hz hH => ?_)
          go_wp2_with fail
          go_meet
          exact ⟨rfl, hz⟩
        case rest =>
          obtain ⟨rfl, hz6⟩ := hcut
          rename World => w6
          have hS6 := hS5.below hz6
          have hbw6 := hbw5.trans (hz6.mono (Nat.le_of_lt hN5))
          have hB6 := hB5.below hz6 rfl
          have HO6 := Lib.hid (HO5.out.below hz6)
          clear hz6 hS5 hbw5 hB5 HO5 HR
          have c0 := hS6.c0
          have c1 := hS6.c1
          have c2 := hS6.c2
          have c3 := hS6.c3
          dsimp only at c0 c1 c2 c3
          by_cases hm : mayS ⟨i, t, C, D'⟩ = true
          case neg =>
            have hm : mayS ⟨i, t, C, D'⟩ = false := by simpa using hm
            have HM := Lib.hid hm
            have hE := HO.out hm
            subst hE
            clear hm HY HO HO6
            go_wp2_with fail
            refine (ref_maySnap ⟨i, t, C, D'⟩ _).mono ?_
            rintro e w7 ⟨rfl, hb7⟩
            rw [HM.out]
            have hbw7 := hbw6.trans (hb7.mono (Nat.le_of_lt hS6.lt))
            go_wp2_with fail
            go_ret
            exact ⟨rfl, by rw [HNN.out]; exact hbw7⟩
          case pos =>
            obtain ⟨hE5, hY1, hY2, hY3⟩ := HY.out hm
            have HY1 := Lib.hid hY1
            have HY2 := Lib.hid hY2
            have HY3 := Lib.hid hY3
            have tE : ((E.length : Int) == 0) = false := beq_eq_false_iff_ne.2 (by omega)
            clear hm HY HO hY1 hY2 hY3
            have hN6 := hS6.lt
            have h5' := h5.below (by rw [HNN.out]; exact hbw6) rfl
            clear c0 c1 c2 c3
            go_wp2_with (at_builtin; refine wpList_append_bytes 30 w6.heap.size 5 Try.underlying30 info_u8 rfl _ _ rfl (OwnB.nil _ _ _) hB6 rfl rfl (by simp; omega) (Nat.le_refl _) ?_)
            intro v7 w7 ho7 hg7 hk7
            have hb7 := (Below.refl w6.heap.size w6).grown hg7 (Nat.le_refl _) (fun k hk => by cases hk)
            clear hg7 hk7
            go_wp2_with fail
            refine (short_any _ l5 20 _ (by decide) (h5'.below hb7 rfl)).mono ?_
            rintro e w8 ⟨v8, rfl, hr8, rfl⟩
            have hrl : (l5.take 20).length ≤ 20 := List.length_take_le _ _
            generalize l5.take 20 = r at *
            rename World => w8
            have hb7z := hb7.size
            go_wp2_with (at_builtin; refine wpList_append_bytes 30 w6.heap.size 5 Try.underlying30 info_u8 rfl _ _ rfl ho7 hr8 rfl rfl (by omega) hb7z ?_)
            intro v9 w9 ho9 hg9 hk9
            have hb9 := hb7.grown hg9 hb7z (fun k hk => (ho7.lt k hk).1)
            clear hg9 hk9 hb7 ho7 hr8 hb7z
            go_wp2_with fail
            refine (wal_getSnap _ (E ++ r) _ ho9.bytes (by rw [List.length_append]; omega)).mono ?_
            rw [HY1.out]
            rintro e w10 ⟨rfl, hb10⟩
            replace hb10 := hb9.trans (hb10.mono hb9.size)
            unfold getSV snpAgg
            dsimp only
            have hb11 := hb10.alloc hb10.size (.cells #[.int .i64 i, .int .i64 t, .string C, .string D'] 75)
            have hS11 := hS6.below hb11
            have c0 := hS11.c0
            have c1 := hS11.c1
            have c2 := hS11.c2
            have c3 := hS11.c3
            dsimp only at c0 c1 c2 c3
            clear hb9 ho9
            go_wp2_with fail
            refine (eq_snap ⟨i, t, C, D'⟩ _).mono ?_
            rintro e w12 ⟨rfl, hb12⟩
            replace hb12 := hb11.trans (hb12.mono hb11.size)
            have hB12 := hB6.below hb12 rfl
            have HO12 := Lib.hid (HO6.out.below hb12)
            clear hb11 hS11 c0 c1 c2 c3 hb10
            go_upto_region 15 with fail
            have hcap : E.length ≤ k5 := by
              obtain ⟨_, _, hv, hle, _⟩ := hB12
              simp only [Value.slice.injEq] at hv
              omega
            replace hbw6 := hbw6.trans (hb12.mono (Nat.le_of_lt hN6))
            have HN12 := Lib.hid (Nat.le_trans (Nat.le_of_lt hN6) hb12.size)
            clear hb12 hB6 HO6 HY1 hN5 hN6 hN4 hS6 h5' hC hD' tE
            go_cut [85] (fun s wx => s = .bool (decide (0 < cut ∧ cut ≤ E.length)) ∧ wx = w12)
            case first =>
              by_cases m0 : 0 < cut
              · have t0 : decide (0 < cut) = true := decide_eq_true m0
                by_cases m1 : cut ≤ E.length
                · have t1 : decide (cut ≤ (E.length : Int)) = true := decide_eq_true m1
                  have t2 : decide (0 < cut ∧ cut ≤ (E.length : Int)) = true := decide_eq_true ⟨m0, m1⟩
                  go_wp2_with fail
                  go_meet
                  exact ⟨by rw [t2], rfl⟩
                · have t1 : decide (cut ≤ (E.length : Int)) = false := decide_eq_false m1
                  have t2 : decide (0 < cut ∧ cut ≤ (E.length : Int)) = false := decide_eq_false fun h => m1 h.2
                  go_wp2_with fail
                  go_meet
                  exact ⟨by rw [t2], rfl⟩
              · have t0 : decide (0 < cut) = false := decide_eq_false m0
                have t2 : decide (0 < cut ∧ cut ≤ (E.length : Int)) = false := decide_eq_false fun h => m0 h.1
                go_wp2_with fail
                go_meet
                exact ⟨by rw [t2], rfl⟩
            case rest =>
            obtain ⟨rfl, rfl⟩ := hcut
            rename World => w12
            have HM : Hid (decide (0 < cut ∧ cut ≤ E.length) = true → 0 < cut ∧ cut ≤ E.length) := Lib.hid (fun h => by simpa using h)
            generalize decide (0 < cut ∧ cut ≤ E.length) = b1 at *
            go_upto_if 85 with fail
            go_cut [16, 17] (fun _ _ wx => Below w12.heap.size w12 wx)
            case first =>
              cases b1
              · go_wp2_with fail
                go_meet
                exact Below.refl _ _
              · obtain ⟨m0, m1⟩ := HM.out rfl
                obtain ⟨m, rfl⟩ := Int.eq_ofNat_of_zero_le (show 0 ≤ cut by omega)
                have s1 : IntKind.i64.wrap ((E.length : Int) - m) = (E.length : Int) - m := IntWalk.i64_in _ (by omega)
                have s2 : ((E.length : Int) - m).toNat = E.length - m := by omega
                have s3 : (0 : Int) ≤ (E.length : Int) - m := by omega
                have s4 : (E.length : Int) - m ≤ (k5 : Int) := by omega
                have hBt := (own_take HO12.out (E.length - m) (by omega)).bytes
                have hgt := HY2.out (E.length - m) (by omega)
                have HGT := Lib.hid hgt
                clear hgt
                go_wp2_with fail
                refine (wal_getSnap _ (E.take (E.length - m)) _ hBt (by rw [List.length_take]; omega)).mono ?_
                rw [HGT.out]
                rintro e w14 ⟨rfl, hb14⟩
                unfold getSV snpAgg zeroS
                dsimp only
                go_wp2_with fail
                go_meet
                exact hb14
            case rest =>
            have hz := hcut
            rename World => w13
            clear HM HY2 HO12
            have hB13 := hB12.below hz rfl
            replace hbw6 := hbw6.trans (hz.mono HN12.out)
            clear hz hB12
            go_upto_region 19 with fail
            have HN13 := Lib.hid (Nat.le_trans HN12.out (Below.size hcut))
            clear hcut
            go_cut [108] (fun s wx => s = .bool (decide (at_ < 0 ∨ cx.toNat = 0)) ∧ wx = w13)
            case first =>
              by_cases m0 : at_ < 0
              · have t0 : decide (at_ < 0) = true := decide_eq_true m0
                have t2 : decide (at_ < 0 ∨ cx.toNat = 0) = true := decide_eq_true (.inl m0)
                go_wp2_with fail
                go_meet
                exact ⟨by rw [t2], rfl⟩
              · have t0 : decide (at_ < 0) = false := decide_eq_false m0
                by_cases m1 : cx.toNat = 0
                · have t1 : ((cx.toNat : Int) == 0) = true := by rw [m1]; rfl
                  have t2 : decide (at_ < 0 ∨ cx.toNat = 0) = true := decide_eq_true (.inr m1)
                  clear m1
                  go_wp2_with fail
                  go_meet
                  exact ⟨by rw [t2], rfl⟩
                · have t1 : ((cx.toNat : Int) == 0) = false := beq_eq_false_iff_ne.2 (by omega)
                  have t2 : decide (at_ < 0 ∨ cx.toNat = 0) = false := decide_eq_false (by omega)
                  go_wp2_with fail
                  go_meet
                  exact ⟨by rw [t2], rfl⟩
            case rest =>
            obtain ⟨rfl, rfl⟩ := hcut
            rename World => w13
            have HM : Hid (decide (at_ < 0 ∨ cx.toNat = 0) = false → 0 ≤ at_ ∧ cx.toNat ≠ 0) := Lib.hid (fun h => by have := of_decide_eq_false h; omega)
            generalize decide (at_ < 0 ∨ cx.toNat = 0) = b2 at *
            go_upto_if 108 with fail
            cases b2
            case true =>
              go_wp2_with fail
              go_ret
              exact ⟨rfl, by rw [HNN.out]; exact hbw6⟩
            case false =>
              obtain ⟨m0, m1⟩ := HM.out rfl
              obtain ⟨m, rfl⟩ := Int.eq_ofNat_of_zero_le (show 0 ≤ at_ by omega)
              clear HM
              go_wp2_with (at_builtin; refine wpList_append_bytes 30 w13.heap.size 5 Try.underlying30 info_u8 rfl _ _ rfl (OwnB.nil _ _ _) hB13 rfl rfl (by simp; omega) (Nat.le_refl _) ?_)
              intro v14 w14 ho14 hg14 hk14
              have hb14 := (Below.refl w13.heap.size w13).grown hg14 (Nat.le_refl _) (fun k hk => by cases hk)
              clear hg14 hk14 hB13
              obtain ⟨g, c14, rfl, hg0, hg1, hgc⟩ := OwnB.shape ho14 (by intro h; rw [h] at hE5; simp at hE5)
              have hlt : m % E.length < E.length := Nat.mod_lt _ (by omega)
              have hcell := OwnB.cellAt ho14 (m % E.length) hlt
              have hfro := OwnB.frozenAt ho14 (m % E.length)
              have HST := Lib.hid (OwnB.stored ho14 (m % E.length) (E[m % E.length] ^^^ cx))
              have hne : E[m % E.length] ≠ E[m % E.length] ^^^ cx := fun h => m1 (by
                have h2 := congrArg UInt8.toNat h
                rw [UInt8.toNat_xor] at h2
                have h3 : cx.toNat = (E[m % E.length]).toNat ^^^ ((E[m % E.length]).toNat ^^^ cx.toNat) := by rw [← Nat.xor_assoc, Nat.xor_self, Nat.zero_xor]
                rw [← h2, Nat.xor_self] at h3
                exact h3)
              have HBAD := Lib.hid (HY3.out (m % E.length) _ hlt hne)
              clear hne HY3
              go_upto_region 23 with fail
              have hv : byteV (E[m % E.length] ^^^ cx) = .int .u8 (bits .xor .u8 ((E[m % E.length]).toNat : Int) (cx.toNat : Int)) := by
                unfold byteV
                rw [u8_xor_nat _ _ (E[m % E.length]).toNat_lt cx.toNat_lt, UInt8.toNat_xor]
              have hst := HST.out
              rw [hv] at hst
              obtain ⟨hst1, hst2⟩ := hst
              have hb15 := hb14.grown hst2 hb14.size (fun k hk => by cases hk; exact hg0)
              have hnz := getS_no HBAD.out
              have hbd := HBAD.out
              have hll : (E.set (m % E.length) (E[m % E.length] ^^^ cx)).length ≤ 4000000 := by rw [List.length_set]; exact hEl
              generalize E.set (m % E.length) (E[m % E.length] ^^^ cx) = X at *
              generalize w14.setCell _ _ = w15 at *
              have HG := Lib.hid (show ∀ G, G = getS X → G.2.1 = 0 ∧ G.2.2 ≠ 0 from fun G hG => by rw [hG]; exact ⟨hnz, hbd⟩)
              clear hnz hbd hb14 ho14 hcell hfro HST HBAD hv hst2
              go_wp2_with fail
              refine (wal_getSnap _ X _ hst1.bytes (by omega)).mono ?_
              rintro e w16 ⟨rfl, hb16⟩
              obtain ⟨G, hG⟩ : ∃ G, G = getS X := ⟨_, rfl⟩
              obtain ⟨g1, g2⟩ := HG.out G hG
              rw [← hG]
              obtain ⟨S', n', e'⟩ := G
              dsimp only at g1 g2
              subst g1
              clear hG HG
              unfold getSV
              dsimp only
              have t9 : ((e' : Int) != 0) = true := bne_iff_ne.2 (by omega)
              replace hb16 := hb15.trans (hb16.mono hb15.size)
              go_wp2_with fail
              go_ret
              exact ⟨rfl, by rw [HNN.out]; exact hbw6.trans (hb16.mono HN13.out)⟩
/-! ### From the row to the walk -/
namespace walSnapF
set_option linter.unusedVariables false
theorem own : ownKnob Try.prog.godebug = none := by kernel_rfl
theorem laidOut : laidOutB Try.prog = true := by kernel_rfl
set_option maxRecDepth 100000 in
theorem lifted (os : Os) (started : os.Started) (H : Type) (enc : TypeId × Value → H) :
    ReturnsInHanded {} Try.checked os 13 .any (Rows.walSnapSpec.pre6 enc Try.prog Try.f13 Rows.walSnapRow.domain false) (Rows.walSnapSpec.post enc Try.prog Try.f13 false true false false) := by
  refine returnsInHanded_of_change (C := Try.checked) own started (by kernel_rfl) Try.func13
    (ChangeSpec.witness6 (enc := enc) (C := Try.checked) false ⟨#[], #[walSnap_wit0, .int .i64 0, .int .i64 0, .int .i64 0, .int .u8 0, .slice none 0 0], []⟩ 8 (by kernel_rfl) (by kernel_rfl) (by kernel_rfl) (by kernel_rfl)) ?_
  intro W base args ds gs before hval0 hW hcnd _
  have hval : ∀ (j : Nat) t v, Try.f13.params[j]? = some t → args[j]? = some v → Value.okWide Try.prog W .any base t v := hval0
  have hW' := hW
  obtain ⟨p, q, hA0, hV, rfl, hfz, hnd⟩ := hW
  have hA : DataW.TrodAll enc Try.prog W 0 (fun _ => true) true Try.f13.params.toList args.toList ds p := hA0
  rw [Try.params13] at hA hval
  obtain ⟨v0, vs0, d0, ds0, p0, q0, hargs, rfl, rfl, h0, r0⟩ := trodAll_cons hA
  obtain ⟨v1, vs1, d1, ds1, p1, q1, rfl, rfl, rfl, h1, r1⟩ := trodAll_cons r0
  obtain ⟨v2, vs2, d2, ds2, p2, q2, rfl, rfl, rfl, h2, r2⟩ := trodAll_cons r1
  obtain ⟨v3, vs3, d3, ds3, p3, q3, rfl, rfl, rfl, h3, r3⟩ := trodAll_cons r2
  obtain ⟨v4, vs4, d4, ds4, p4, q4, rfl, rfl, rfl, h4, r4⟩ := trodAll_cons r3
  obtain ⟨v5, vs5, d5, ds5, p5, q5, rfl, rfl, rfl, h5, r5⟩ := trodAll_cons r4
  obtain ⟨rfl, rfl, rfl⟩ := trodAll_nil r5
  obtain rfl : args = #[v0, v1, v2, v3, v4, v5] := by cases args; simp_all
  obtain ⟨rfl, rfl⟩ := trodVars_none hV
  have k0 := h0
  have lt0 : ∀ x ∈ p0, x.block < W.heap.size := by obtain ⟨m, hm⟩ := k0; exact DataW.trod_lt m _ _ _ hm
  obtain ⟨x0, w0⟩ := walSnap_open0 (hval 0 75 v0 rfl rfl) h0
  have k1 := h1
  have lt1 : ∀ x ∈ p1, x.block < W.heap.size := by obtain ⟨m, hm⟩ := k1; exact DataW.trod_lt m _ _ _ hm
  obtain ⟨a1, rfl, hd1, hp1, w1⟩ := open_int Try.underlying3 (hval 1 3 v1 rfl rfl) h1
  have k2 := h2
  have lt2 : ∀ x ∈ p2, x.block < W.heap.size := by obtain ⟨m, hm⟩ := k2; exact DataW.trod_lt m _ _ _ hm
  obtain ⟨a2, rfl, hd2, hp2, w2⟩ := open_int Try.underlying3 (hval 2 3 v2 rfl rfl) h2
  have k3 := h3
  have lt3 : ∀ x ∈ p3, x.block < W.heap.size := by obtain ⟨m, hm⟩ := k3; exact DataW.trod_lt m _ _ _ hm
  obtain ⟨a3, rfl, hd3, hp3, w3⟩ := open_int Try.underlying3 (hval 3 3 v3 rfl rfl) h3
  have k4 := h4
  have lt4 : ∀ x ∈ p4, x.block < W.heap.size := by obtain ⟨m, hm⟩ := k4; exact DataW.trod_lt m _ _ _ hm
  obtain ⟨a4, rfl, hd4, hp4, w4⟩ := open_int Try.underlying5 (hval 4 5 v4 rfl rfl) h4
  have k5 := h5
  have lt5 : ∀ x ∈ p5, x.block < W.heap.size := by obtain ⟨m, hm⟩ := k5; exact DataW.trod_lt m _ _ _ hm
  obtain ⟨l5, w5⟩ := open_bytes Try.underlying30 Try.underlying5 (by kernel_rfl) (hval 5 30 v5 rfl rfl) h5
  clear hA0 hval0
  refine (walSnap_walk v0 x0 a1 a2 a3 a4 v5 l5 W w0 w1 w2 w3 w4 w5).mono fun e W' ⟨he, bel⟩ => ?_
  subst he
  exact ⟨_, rfl, _, _, _, [], _, [], hW', trodAll_mk1 (shut_bool Try.underlying4 _), (trodAll_cons_mk (Below.trod laidOut (by kernel_rfl) (of_decide_eq_true (by kernel_rfl)) k0 bel lt0) (trodAll_cons_mk (Below.trod laidOut (by kernel_rfl) (of_decide_eq_true (by kernel_rfl)) k1 bel lt1) (trodAll_cons_mk (Below.trod laidOut (by kernel_rfl) (of_decide_eq_true (by kernel_rfl)) k2 bel lt2) (trodAll_cons_mk (Below.trod laidOut (by kernel_rfl) (of_decide_eq_true (by kernel_rfl)) k3 bel lt3) (trodAll_cons_mk (Below.trod laidOut (by kernel_rfl) (of_decide_eq_true (by kernel_rfl)) k4 bel lt4) (trodAll_cons_mk (Below.trod laidOut (by kernel_rfl) (of_decide_eq_true (by kernel_rfl)) k5 bel lt5) trodAll_mk0)))))), rfl, bel.frame _, fun h => by cases h⟩
theorem over : Rows.walSnapRow.holds Try.pinned (OpenSpec.ofChange Rows.walSnapSpec) :=
  OpenClaim.holds_of_wide 13 Try.f13 rfl rfl rfl rfl rfl rfl rfl ⟨rfl, rfl, rfl, rfl, rfl⟩ rfl rfl rfl rfl rfl (by kernel_rfl) Try.func13 (by kernel_rfl)
    (of_decide_eq_true (by kernel_rfl)) (by unfold Func.isWrapper; first | (rw [if_pos (by decide +kernel)]; kernel_rfl) | (rw [if_neg (by decide +kernel)]; exact ⟨rfl, rfl⟩))
    (fun os started H enc _ => lifted os started H enc)
end walSnapF
theorem walSnap_holds : Rows.WalSnapSaid := walSnapF.over
#print axioms walSnap_holds
end Go.Proofs.Ytankebgpkhcgnaa
