/-
  A snapshot of any size goes through: of any size up to 200,000 bytes, with any byte changed. No condition.
-/
import Derived.Test.YtihcohneongomaaP24
namespace Go.Proofs.Ytihcohneongomaa
open Go.ChangeShapes Go.WideShapes Go.ChangeAt Go.RowKit

def bigM (D : ByteArray) : Msg := ⟨5, 1, 2, 3, 0, 0, 0, false, [], ⟨5, 2, ⟨#[49, 50]⟩, D⟩⟩
theorem bigM_may {D : ByteArray} (h : D.size ≤ 200000) : mayM (bigM D) = true := by
  have h1 : headM (bigM D) = true := headM_iff.2 (by unfold bigM; dsimp only; omega)
  have h2 : kindM (bigM D) = true := kindM_iff.2 (by unfold bigM; simp)
  have h3 : (confD ⟨#[49, 50]⟩).2 = true := by decide +kernel
  have h4 : mayS ⟨5, 2, ⟨#[49, 50]⟩, D⟩ = true := mayS_iff.2 ⟨by simp, by simp, by simp, by simp, by show (2 : Nat) ≤ 50; decide, h⟩
  have h5 : tailM (bigM D) = true := by
    unfold tailM bigM
    rw [if_pos rfl, h3, h4]
    rfl
  unfold mayM
  rw [h1, h2, h5]
  rfl
theorem bigM_agg (v : Value) (D : ByteArray) : msgAgg v (bigM D) = .agg #[.int .i64 5, .int .i64 1, .int .i64 2, .int .i64 3, .int .i64 0, .int .i64 0, .int .i64 0, .bool false, v, .int .i64 5, .int .i64 2, .string ⟨#[49, 50]⟩, .string D] := rfl

set_option maxRecDepth 100000 in
set_option maxHeartbeats 8000000 in
theorem msgBig_walk (n at_ x : Int) (w : World) (wn : (Lit.int .i64 n).wf = true) (wa : (Lit.int .i64 at_).wf = true) (wx : (Lit.int .u8 x).wf = true) :
    Calls Try.prog 14 #[.int .i64 n, .int .i64 at_, .int .u8 x] w fun e w' => e = .returned (.bool true) ∧ Below w.heap.size w w' := by
  have wn := wf_i64 wn
  have wa := wf_i64 wa
  have wx := wf_u8 wx
  obtain ⟨cx, hcx⟩ : ∃ c : UInt8, x = (c.toNat : Int) := ⟨UInt8.ofNat x.toNat, by simp only [UInt8.toNat_ofNat']; omega⟩
  subst hcx
  clear wx
  go_enter Try.func14, Try.ntmps14
  go_wp2_with fail
  refine (msg_begun _).mono ?_
  rintro e w1 ⟨rfl, hb1⟩
  by_cases m0 : n < 0
  case pos =>
    have t0 : decide (n < 0) = true := decide_eq_true m0
    go_wp2_with fail
    go_ret
    exact ⟨rfl, hb1⟩
  have t0 : decide (n < 0) = false := decide_eq_false m0
  by_cases m1 : 200000 < n
  case pos =>
    have t1 : decide (200000 < n) = true := decide_eq_true m1
    go_wp2_with fail
    go_ret
    exact ⟨rfl, hb1⟩
  have t1 : decide (200000 < n) = false := decide_eq_false m1
  by_cases m2 : at_ < 0
  case pos =>
    have t2 : decide (at_ < 0) = true := decide_eq_true m2
    go_wp2_with fail
    go_ret
    exact ⟨rfl, hb1⟩
  have t2 : decide (at_ < 0) = false := decide_eq_false m2
  obtain ⟨N, rfl⟩ := Int.eq_ofNat_of_zero_le (show 0 ≤ n by omega)
  obtain ⟨m, rfl⟩ := Int.eq_ofNat_of_zero_le (show 0 ≤ at_ by omega)
  obtain ⟨w2, hmk, hO, hb2⟩ := make_bytes w1 N (by omega)
  have hbw := hb1.trans (hb2.mono hb1.size)
  go_wp2_with fail
  have hB1 := hb1.size
  generalize w1.heap.size = g at *
  go_loopw [9] (fun i wr => ∃ (k : Nat) (L : List UInt8), i = .int .i64 k ∧ L.length = N ∧ k ≤ N + 101 ∧ OwnB wr g 5 (.slice (some ⟨g, 0, none⟩) N N) L ∧ Below w.heap.size w wr) (fun i _ => N + 101 - (intOf i).toNat)
  case atStart => exact ⟨0, _, rfl, List.length_replicate, by omega, hO, hbw⟩
  case round =>
    clear hO hbw hb2 hmk
    obtain ⟨k, L, rfl, hL, hk, hO, hbel⟩ := hrel
    by_cases hlt : k < N
    · have hcell := OwnB.cellAt hO k (by omega)
      have hfr := OwnB.frozenAt hO k
      have hst := OwnB.stored hO k (UInt8.ofNat k)
      have hbv : byteV (UInt8.ofNat k) = .int .u8 ((k : Int) % 256) := by
        unfold byteV
        congr 1
      rw [hbv] at hst
      have HST := Lib.hid hst
      clear hst
      go_wp2_with fail
      go_roundw
      case rel => exact ⟨k + 101, _, by go_num, by rw [List.length_set]; exact hL, by omega, HST.out.1, hbel.setCell hB1 _⟩
      case measure => simp [intOf]; omega
    · have hconv := conv_str hO.bytes
      have hsz : (⟨L.toArray⟩ : ByteArray).size = N := by rw [← size_data]; simpa using hL
      generalize (⟨L.toArray⟩ : ByteArray) = D at *
      have hm := bigM_may (D := D) (by omega)
      have hS := msgS_box wr (.slice none 0 0) (bigM D) 76
      have hb4 := hbel.alloc hbel.size (.cells #[.int .i64 5, .int .i64 1, .int .i64 2, .int .i64 3, .int .i64 0, .int .i64 0, .int .i64 0, .bool false, .slice none 0 0, .int .i64 5, .int .i64 2, .string ⟨#[49, 50]⟩, .string D] 76)
      unfold bigM at hS
      dsimp only at hS
      have hEl := encM_len (bigM D)
      have HNA := Lib.hid (fun (u : World) => msg_encode (.slice none 0 0) (bigM D) u (EntR.nil _ _ _ (by omega)) (by unfold bigM; simp) (by unfold bigM; show (2 : Nat) ≤ 1000000000; omega))
      have hE6 := encM_pos hm
      have HOK := Lib.hid (fun (u : World) (e : Ending) (u' : World) (h : RetDec u (encM (bigM D)) e u') => dec_ok h hm)
      have HSET := Lib.hid (fun (u : World) (e : Ending) (u' : World) (i : Nat) (x : UInt8) (hi : i < (encM (bigM D)).length) (hx : (encM (bigM D))[i] ≠ x) (h : RetDec u ((encM (bigM D)).set i x) e u') => dec_no h (enc_set_no hm hi hx))
      have HEQ := Lib.hid (fun (u : World) (x : Value) (hx : EntR u x []) => eq_msgG (.slice none 0 0) x (bigM D) (bigM D) u (EntR.nil _ _ _ (by omega)) hx (by unfold bigM; simp) (by unfold bigM; simp))
      clear hm hO
      go_upto_region 12 with fail
      clear hconv
      generalize wr.alloc _ = w4 at *
      generalize hXX : wr.heap.size = X at *
      have c0 := hS.c0
      have c1 := hS.c1
      have c2 := hS.c2
      have c3 := hS.c3
      have c4 := hS.c4
      have c5 := hS.c5
      have c6 := hS.c6
      have c7 := hS.c7
      have c8 := hS.c8
      have c9 := hS.c9
      have c10 := hS.c10
      have c11 := hS.c11
      have c12 := hS.c12
      go_wp2_with fail
      refine (HNA.out _).mono ?_
      rintro e w5 ⟨v5, rfl, ho5, hb5, -⟩
      replace hS := hS.below hb5
      have hbs4 := hb4.size
      replace hb4 := hb4.trans (hb5.mono hb4.size)
      replace ho5 := ho5.rebase hbs4
      clear hb5 c0 c1 c2 c3 c4 c5 c6 c7 c8 c9 c10 c11 c12 HNA
      generalize encM (bigM D) = E at *
      obtain ⟨a5, k5, rfl⟩ := ho5.len
      have tE : ((E.length : Int) == 0) = false := beq_eq_false_iff_ne.2 (by omega)
      go_wp2_with fail
      refine (msg_decode _ E _ ho5.bytes (by omega)).mono ?_
      rintro e w7 hd
      obtain ⟨yv, rfl, hyE, hb7⟩ := HOK.out _ _ _ hd
      replace hS := hS.below hb7
      replace ho5 := OwnB.below ho5 hb7
      replace hb4 := hb4.trans (hb7.mono hb4.size)
      clear hb7 hd HOK
      replace hyE : EntR w7 yv [] := hyE
      obtain ⟨ya, yc, rfl⟩ := hyE.slice
      have hY := msgS_box w7 (.slice ya ([] : List Ent).length yc) (bigM D) 76
      have hb8 := (Below.refl w7.heap.size w7).alloc (Nat.le_refl _) (.cells #[.int .i64 5, .int .i64 1, .int .i64 2, .int .i64 3, .int .i64 0, .int .i64 0, .int .i64 0, .bool false, .slice ya ([] : List Ent).length yc, .int .i64 5, .int .i64 2, .string ⟨#[49, 50]⟩, .string D] 76)
      unfold bigM at hY
      dsimp only at hY
      replace hS := hS.below hb8
      replace hyE := hyE.below hb8
      replace ho5 := OwnB.below ho5 hb8
      replace hb4 := hb4.trans (hb8.mono hb4.size)
      clear hb8
      rw [bigM_agg]
      go_upto_region 14 with fail
      generalize w7.alloc _ = w8 at *
      generalize w7.heap.size = Y at *
      have c0 := hS.c0
      have c1 := hS.c1
      have c2 := hS.c2
      have c3 := hS.c3
      have c4 := hS.c4
      have c5 := hS.c5
      have c6 := hS.c6
      have c7 := hS.c7
      have c8 := hS.c8
      have c9 := hS.c9
      have c10 := hS.c10
      have c11 := hS.c11
      have c12 := hS.c12
      have d0 := hY.c0
      have d1 := hY.c1
      have d2 := hY.c2
      have d3 := hY.c3
      have d4 := hY.c4
      have d5 := hY.c5
      have d6 := hY.c6
      have d7 := hY.c7
      have d8 := hY.c8
      have d9 := hY.c9
      have d10 := hY.c10
      have d11 := hY.c11
      have d12 := hY.c12
      go_wp2_with fail
      refine (HEQ.out _ _ hyE).mono ?_
      rintro e w9 ⟨rfl, hb9⟩
      rw [eqM_iff.2 rfl]
      replace ho5 := OwnB.below ho5 hb9
      replace hb4 := hb4.trans (hb9.mono hb4.size)
      clear hb9 hS hyE HEQ hY c0 c1 c2 c3 c4 c5 c6 c7 c8 c9 c10 c11 c12 d0 d1 d2 d3 d4 d5 d6 d7 d8 d9 d10 d11 d12
      have hB := ho5.bytes
      by_cases mx : cx.toNat = 0
      case pos =>
        have tx : ((cx.toNat : Int) == 0) = true := by rw [mx]; rfl
        clear mx
        go_wp2_with fail
        go_ret
        exact ⟨rfl, hb4⟩
      have tx : ((cx.toNat : Int) == 0) = false := beq_eq_false_iff_ne.2 (by omega)
      go_wp2_with (at_builtin; refine wpList_append_bytes 62 w9.heap.size 5 Try.underlying62 info_u8 rfl _ _ rfl (OwnB.nil _ _ _) hB rfl rfl (by simp; omega) (Nat.le_refl _) ?_)
      intro v14 w14 ho14 hg14 hk14
      have hb14 := (Below.refl w9.heap.size w9).grown hg14 (Nat.le_refl _) (fun k hk => by cases hk)
      clear hg14 hk14 hB ho5
      obtain ⟨gg, c14, rfl, hg0, hg1, hgc⟩ := OwnB.shape ho14 (by intro h; rw [h] at hE6; simp at hE6)
      have hlt : m % E.length < E.length := Nat.mod_lt _ (by omega)
      have hcell := OwnB.cellAt ho14 (m % E.length) hlt
      have hfro := OwnB.frozenAt ho14 (m % E.length)
      have HST := Lib.hid (OwnB.stored ho14 (m % E.length) (E[m % E.length] ^^^ cx))
      have hne : E[m % E.length] ≠ E[m % E.length] ^^^ cx := xor_ne mx
      have HBAD := Lib.hid (fun u e u' h => HSET.out u e u' (m % E.length) _ hlt hne h)
      clear hne HSET
      go_upto_region 20 with fail
      have hv : byteV (E[m % E.length] ^^^ cx) = .int .u8 (bits .xor .u8 ((E[m % E.length]).toNat : Int) (cx.toNat : Int)) := by
        unfold byteV
        rw [u8_xor_nat _ _ (E[m % E.length]).toNat_lt cx.toNat_lt, UInt8.toNat_xor]
      have hst := HST.out
      rw [hv] at hst
      obtain ⟨hst1, hst2⟩ := hst
      have hb15 := hb14.grown hst2 hb14.size (fun k hk => by cases hk; exact hg0)
      have hll : (E.set (m % E.length) (E[m % E.length] ^^^ cx)).length ≤ 300000 := by rw [List.length_set]; exact hEl
      generalize E.set (m % E.length) (E[m % E.length] ^^^ cx) = Z at *
      generalize w14.setCell _ _ = w15 at *
      clear hb14 ho14 hcell hfro HST hv hst2
      go_wp2_with fail
      refine (msg_decode _ Z _ hst1.bytes (by omega)).mono ?_
      rintro e w16 hd
      obtain ⟨rfl, hb16⟩ := HBAD.out _ _ _ hd
      have hbz := hb4.trans ((hb15.trans (hb16.mono hb15.size)).mono hb4.size)
      clear hd HBAD hb15 hb16
      unfold msgAgg zM
      dsimp only
      go_wp2_with fail
      go_ret
      exact ⟨rfl, hbz⟩
/-! ### From the row to the walk -/
namespace msgBigF
set_option linter.unusedVariables false
theorem own : ownKnob Try.prog.godebug = none := by kernel_rfl
theorem laidOut : laidOutB Try.prog = true := by kernel_rfl
set_option maxRecDepth 100000 in
theorem lifted (os : Os) (started : os.Started) (H : Type) (enc : TypeId × Value → H) :
    ReturnsInHanded {} Try.checked os 14 .any (Rows.msgBigSpec.pre6 enc Try.prog Try.f14 Rows.msgBigRow.domain false) (Rows.msgBigSpec.post enc Try.prog Try.f14 false true false false) := by
  refine returnsInHanded_of_change (C := Try.checked) own started (by kernel_rfl) Try.func14
    (ChangeSpec.witness6 (enc := enc) (C := Try.checked) false ⟨#[], #[.int .i64 0, .int .i64 0, .int .u8 0], []⟩ 8 (by kernel_rfl) (by kernel_rfl) (by kernel_rfl) (by kernel_rfl)) ?_
  intro W base args ds gs before hval0 hW hcnd _
  have hval : ∀ (j : Nat) t v, Try.f14.params[j]? = some t → args[j]? = some v → Value.okWide Try.prog W .any base t v := hval0
  have hW' := hW
  obtain ⟨p, q, hA0, hV, rfl, hfz, hnd⟩ := hW
  have hA : DataW.TrodAll enc Try.prog W 0 (fun _ => true) true Try.f14.params.toList args.toList ds p := hA0
  rw [Try.params14] at hA hval
  obtain ⟨v0, vs0, d0, ds0, p0, q0, hargs, rfl, rfl, h0, r0⟩ := trodAll_cons hA
  obtain ⟨v1, vs1, d1, ds1, p1, q1, rfl, rfl, rfl, h1, r1⟩ := trodAll_cons r0
  obtain ⟨v2, vs2, d2, ds2, p2, q2, rfl, rfl, rfl, h2, r2⟩ := trodAll_cons r1
  obtain ⟨rfl, rfl, rfl⟩ := trodAll_nil r2
  obtain rfl : args = #[v0, v1, v2] := by cases args; simp_all
  obtain ⟨rfl, rfl⟩ := trodVars_none hV
  have k0 := h0
  have lt0 : ∀ x ∈ p0, x.block < W.heap.size := by obtain ⟨m, hm⟩ := k0; exact DataW.trod_lt m _ _ _ hm
  obtain ⟨a0, rfl, hd0, hp0, w0⟩ := open_int Try.underlying3 (hval 0 3 v0 rfl rfl) h0
  have k1 := h1
  have lt1 : ∀ x ∈ p1, x.block < W.heap.size := by obtain ⟨m, hm⟩ := k1; exact DataW.trod_lt m _ _ _ hm
  obtain ⟨a1, rfl, hd1, hp1, w1⟩ := open_int Try.underlying3 (hval 1 3 v1 rfl rfl) h1
  have k2 := h2
  have lt2 : ∀ x ∈ p2, x.block < W.heap.size := by obtain ⟨m, hm⟩ := k2; exact DataW.trod_lt m _ _ _ hm
  obtain ⟨a2, rfl, hd2, hp2, w2⟩ := open_int Try.underlying5 (hval 2 5 v2 rfl rfl) h2
  clear hA0 hval0
  refine (msgBig_walk a0 a1 a2 W w0 w1 w2).mono fun e W' ⟨he, bel⟩ => ?_
  subst he
  exact ⟨_, rfl, _, _, _, [], _, [], hW', trodAll_mk1 (shut_bool Try.underlying4 _), (trodAll_cons_mk (Below.trod laidOut (by kernel_rfl) (of_decide_eq_true (by kernel_rfl)) k0 bel lt0) (trodAll_cons_mk (Below.trod laidOut (by kernel_rfl) (of_decide_eq_true (by kernel_rfl)) k1 bel lt1) (trodAll_cons_mk (Below.trod laidOut (by kernel_rfl) (of_decide_eq_true (by kernel_rfl)) k2 bel lt2) trodAll_mk0))), rfl, bel.frame _, fun h => by cases h⟩
theorem over : Rows.msgBigRow.holds Try.pinned (OpenSpec.ofChange Rows.msgBigSpec) :=
  OpenClaim.holds_of_wide 14 Try.f14 rfl rfl rfl rfl rfl rfl rfl ⟨rfl, rfl, rfl, rfl, rfl⟩ rfl rfl rfl rfl rfl (by kernel_rfl) Try.func14 (by kernel_rfl)
    (of_decide_eq_true (by kernel_rfl)) (by unfold Func.isWrapper; first | (rw [if_pos (by decide +kernel)]; kernel_rfl) | (rw [if_neg (by decide +kernel)]; exact ⟨rfl, rfl⟩))
    (fun os started H enc _ => lifted os started H enc)
end msgBigF
theorem msgBig_holds : Rows.MsgBigSaid := msgBigF.over
#print axioms msgBig_holds
end Go.Proofs.Ytihcohneongomaa
