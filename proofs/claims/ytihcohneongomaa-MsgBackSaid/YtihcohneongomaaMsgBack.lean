/-
  Messages that may be go to bytes and back; others do not; bytes that were changed or cut off are told: any message, any size, place, cut and byte. No condition.
-/
import Derived.Test.YtihcohneongomaaP24
import Derived.Test.YtihcohneongomaaP7
namespace Go.Proofs.Ytihcohneongomaa
open Go.ChangeShapes Go.WideShapes Go.ChangeAt Go.RowKit

def msgBack_wit0 : Value := .agg #[.int .i64 0, .int .i64 0, .int .i64 0, .int .i64 0, .int .i64 0, .int .i64 0, .int .i64 0, .bool false, .slice none 0 0, .int .i64 0, .int .i64 0, .string .empty, .string .empty]
set_option maxRecDepth 100000 in
theorem msgBack_open0 {H : Type} {enc : TypeId × Value → H} {W : World} {base base' : Nat} {r : Reach} {v : Value} {d : DataW H} {ps : List MemPlace}
    (hv : Value.okWide Try.prog W r base' 76 v) (h : DataW.Trod enc Try.prog W base (fun _ => true) true 76 v d ps) : ∃ m : Msg, ∃ ev : Value, v = msgAgg ev m ∧ EntR W ev m.es ∧ m.wf := open_msg hv h

set_option maxRecDepth 100000 in
set_option maxHeartbeats 8000000 in
theorem msgBack_walk (v0 : Value) (a : Msg) (size at_ cut x : Int) (w : World) (h0 : ∃ ev : Value, v0 = msgAgg ev a ∧ EntR w ev a.es ∧ a.wf) (ws : (Lit.int .i64 size).wf = true) (wa : (Lit.int .i64 at_).wf = true) (wc : (Lit.int .i64 cut).wf = true) (wx : (Lit.int .u8 x).wf = true) :
    Calls Try.prog 11 #[v0, .int .i64 size, .int .i64 at_, .int .i64 cut, .int .u8 x] w fun e w' => e = .returned (.bool true) ∧ Below w.heap.size w w' := by
  have ws := wf_i64 ws
  have wc := wf_i64 wc
  have wa := wf_i64 wa
  have wx := wf_u8 wx
  obtain ⟨cx, hcx⟩ : ∃ c : UInt8, x = (c.toNat : Int) := ⟨UInt8.ofNat x.toNat, by simp only [UInt8.toNat_ofNat']; omega⟩
  subst hcx
  clear wx
  obtain ⟨ea, rfl, hEa, hwa⟩ := h0
  obtain ⟨aa, ca, rfl⟩ := hEa.slice
  have hla := hEa.len
  have HCA := Lib.hid (fun (u : World) (x : Value) (hx : EntR u x a.es) => law_cut' x a u hx hla hwa)
  have HAG : Hid (∀ v (m : Msg), msgAgg v m = .agg #[.int .i64 m.k, .int .i64 m.f, .int .i64 m.o, .int .i64 m.t, .int .i64 m.i, .int .i64 m.l, .int .i64 m.c, .bool m.y, v, .int .i64 m.s.i, .int .i64 m.s.t, .string m.s.c, .string m.s.d]) := Lib.hid (fun _ _ => rfl)
  have hA := msgS_box w (.slice aa a.es.length ca) a 76
  have hb := (Below.refl w.heap.size w).alloc (Nat.le_refl _) (.cells #[.int .i64 a.k, .int .i64 a.f, .int .i64 a.o, .int .i64 a.t, .int .i64 a.i, .int .i64 a.l, .int .i64 a.c, .bool a.y, .slice aa a.es.length ca, .int .i64 a.s.i, .int .i64 a.s.t, .string a.s.c, .string a.s.d] 76)
  replace hEa := hEa.below hb
  clear hwa
  rw [HAG.out]
  go_enter Try.func11, Try.ntmps11
  go_wp2_with fail
  generalize w.alloc _ = w0 at *
  refine (msg_begun _).mono ?_
  rintro e w1 ⟨rfl, hb1⟩
  replace hA := hA.below hb1
  replace hEa := hEa.below hb1
  replace hb := hb.trans (hb1.mono hb.size)
  clear hb1
  have c0 := hA.c0
  have c1 := hA.c1
  have c2 := hA.c2
  have c3 := hA.c3
  have c4 := hA.c4
  have c5 := hA.c5
  have c6 := hA.c6
  have c7 := hA.c7
  have c8 := hA.c8
  have c9 := hA.c9
  have c10 := hA.c10
  have c11 := hA.c11
  have c12 := hA.c12
  go_wp2_with fail
  refine (HCA.out _ _ hEa).mono ?_
  rintro e w2 ⟨xa, rfl, ho, hb2⟩
  have hcs := cutM_small a
  generalize cutM a = CA at *
  obtain ⟨xaa, xac, rfl⟩ := ho.r.slice
  have hlt0 := hA.lt
  replace hA := hA.below hb2
  have hNw1 := hb.size
  replace hb := hb.trans (hb2.mono hb.size)
  have hlt1 := hA.lt
  replace ho := ho.rebase (base' := w.heap.size + 1) (by omega)
  clear hb2 hEa HCA c0 c1 c2 c3 c4 c5 c6 c7 c8 c9 c10 c11 c12
  have c0 := hA.c0
  have c1 := hA.c1
  have c2 := hA.c2
  have c3 := hA.c3
  have c4 := hA.c4
  have c5 := hA.c5
  have c6 := hA.c6
  have c7 := hA.c7
  have c8 := hA.c8
  have c9 := hA.c9
  have c10 := hA.c10
  have c11 := hA.c11
  have c12 := hA.c12
  have cf := hA.fr
  have HQ := Lib.hid (hA.setAll (v' := .slice xaa CA.es.length xac) (m' := CA))
  have hk := keeps_msgTo w2 w.heap.size (.slice xaa CA.es.length xac) CA
  have HO := Lib.hid (ho.keeps hk (by simp))
  have HB := Lib.hid (hb.trans (hk.below (B := w.heap.size) (by simp) hb.size))
  rw [HAG.out]
  clear hA hk ho hb
  go_upto_region 5 with fail
  unfold msgTo at HQ HO HB
  generalize ((((((((((((World.setCell w2 _ _).setCell _ _).setCell _ _).setCell _ _).setCell _ _).setCell _ _).setCell _ _).setCell _ _).setCell _ _).setCell _ _).setCell _ _).setCell _ _).setCell _ _ = w3 at *
  have hS := HQ.out
  have hE := HO.out
  have hbw := HB.out
  clear HQ HO HB c0 c1 c2 c3 c4 c5 c6 c7 c8 c9 c10 c11 c12 cf
  have hkc := hS.c0
  go_cut [31] (fun s wx => s = .bool (decide (CA.k = 5 ∧ 0 < size ∧ size < 9000)) ∧ wx = w3)
  case first =>
    by_cases m2 : CA.k = 5
    · have t3 : (CA.k == 5) = true := by rw [m2]; rfl
      by_cases m0 : 0 < size
      · have t0 : decide (0 < size) = true := decide_eq_true m0
        by_cases m1 : size < 9000
        · have t1 : decide (size < 9000) = true := decide_eq_true m1
          have t2 : decide (CA.k = 5 ∧ 0 < size ∧ size < 9000) = true := decide_eq_true ⟨m2, m0, m1⟩
          clear m2
          go_wp2_with fail
          go_meet
          exact ⟨by rw [t2], rfl⟩
        · have t1 : decide (size < 9000) = false := decide_eq_false m1
          have t2 : decide (CA.k = 5 ∧ 0 < size ∧ size < 9000) = false := decide_eq_false fun h => m1 h.2.2
          clear m2
          go_wp2_with fail
          go_meet
          exact ⟨by rw [t2], rfl⟩
      · have t0 : decide (0 < size) = false := decide_eq_false m0
        have t2 : decide (CA.k = 5 ∧ 0 < size ∧ size < 9000) = false := decide_eq_false fun h => m0 h.2.1
        clear m2
        go_wp2_with fail
        go_meet
        exact ⟨by rw [t2], rfl⟩
    · have t3 : (CA.k == 5) = false := beq_eq_false_iff_ne.2 m2
      have t2 : decide (CA.k = 5 ∧ 0 < size ∧ size < 9000) = false := decide_eq_false fun h => m2 h.1
      clear m2
      go_wp2_with fail
      go_meet
      exact ⟨by rw [t2], rfl⟩
  case rest =>
  obtain ⟨rfl, rfl⟩ := hcut
  rename World => w3
  have HM : Hid (decide (CA.k = 5 ∧ 0 < size ∧ size < 9000) = true → 0 < size ∧ size < 9000) := Lib.hid (fun h => (of_decide_eq_true h).2)
  generalize decide (CA.k = 5 ∧ 0 < size ∧ size < 9000) = b0 at *
  clear hkc
  go_upto_if 31 with fail
  go_cut [] (fun wx => ∃ M xa, MsgS wx w.heap.size xa M ∧ EntO wx (w.heap.size + 1) xa M.es ∧ M.es.length ≤ 10 ∧ M.s.c.size ≤ 60 ∧ Below w.heap.size w wx)
  case first =>
    cases b0
    · go_wp2_with fail
      go_meet
      exact ⟨CA, _, hS, hE, hcs.1, hcs.2, hbw⟩
    · obtain ⟨m0, m1⟩ := HM.out rfl
      obtain ⟨m, rfl⟩ := Int.eq_ofNat_of_zero_le (show 0 ≤ size by omega)
      obtain ⟨w4, hmk, hO, hb4⟩ := make_bytes w3 m (by omega)
      have hconv := conv_str hO.bytes
      have hS4 := hS.below hb4
      have hE4 := hE.below hb4
      have g12 := hS4.c12
      have gf := hS4.fr
      have hbw4 := hbw.trans (hb4.mono (Nat.le_of_lt hS.lt))
      have hN3 := hS.lt
      clear hS hE
      go_wp2_with fail
      go_meet
      have hk4 := fun u => (Keeps.refl [w.heap.size] w4).setCell (p := ⟨w.heap.size, 12, none⟩) (.inl (by simp)) u
      exact ⟨{ CA with s := { CA.s with d := _ } }, _, hS4.setSD _, hE4.keeps (hk4 _) (by simp), hcs.1, hcs.2, hbw4.trans ((hk4 _).below (B := w.heap.size) (by simp) hbw4.size)⟩
  case rest =>
  obtain ⟨M, xa, hS4, hE4, hml, hmc, hbw4⟩ := hcut
  rename World => w4
  clear HM hS hE hbw hcs
  obtain ⟨xea, xec, rfl⟩ := hE4.r.slice
  have HNA := Lib.hid (fun (u : World) (x : Value) (hx : EntR u x M.es) => msg_encode x M u hx (by omega) (by omega))
  have HMA := Lib.hid (fun (u : World) (x : Value) (hx : EntR u x M.es) => ref_mayMsg x M u hx (by omega) (by omega))
  have HEQ := Lib.hid (fun (u : World) (x y : Value) (hx : EntR u x M.es) (hy : EntR u y M.es) => eq_msgG x y M M u hx hy (by omega) (by omega))
  have hEl := encM_len M
  have c0 := hS4.c0
  have c1 := hS4.c1
  have c2 := hS4.c2
  have c3 := hS4.c3
  have c4 := hS4.c4
  have c5 := hS4.c5
  have c6 := hS4.c6
  have c7 := hS4.c7
  have c8 := hS4.c8
  have c9 := hS4.c9
  have c10 := hS4.c10
  have c11 := hS4.c11
  have c12 := hS4.c12
  go_wp2_with fail
  refine (HNA.out _ _ hE4.r).mono ?_
  rintro e w5 ⟨v5, rfl, ho5, hb5, hnil⟩
  replace hS4 := hS4.below hb5
  replace hE4 := hE4.below hb5
  replace ho5 := ho5.rebase hbw4.size
  replace hbw4 := hbw4.trans (hb5.mono hbw4.size)
  clear hb5 c0 c1 c2 c3 c4 c5 c6 c7 c8 c9 c10 c11 c12
  have c0 := hS4.c0
  have c1 := hS4.c1
  have c2 := hS4.c2
  have c3 := hS4.c3
  have c4 := hS4.c4
  have c5 := hS4.c5
  have c6 := hS4.c6
  have c7 := hS4.c7
  have c8 := hS4.c8
  have c9 := hS4.c9
  have c10 := hS4.c10
  have c11 := hS4.c11
  have c12 := hS4.c12
  go_wp2_with fail
  refine (HMA.out _ _ hE4.r).mono ?_
  rintro e w6 ⟨rfl, hb6⟩
  replace hS4 := hS4.below hb6
  replace hE4 := hE4.below hb6
  replace ho5 := OwnB.below ho5 hb6
  replace hbw4 := hbw4.trans (hb6.mono hbw4.size)
  clear hb6 c0 c1 c2 c3 c4 c5 c6 c7 c8 c9 c10 c11 c12
  cases hm : mayM M with
  | false =>
    obtain rfl := hnil hm
    clear hm
    go_wp2_with fail
    go_ret
    exact ⟨rfl, hbw4⟩
  | true =>
  have hE6 := encM_pos hm
  have HOK := Lib.hid (fun (u : World) (e : Ending) (u' : World) (h : RetDec u (encM M) e u') => dec_ok h hm)
  have HCUT := Lib.hid (fun (u : World) (e : Ending) (u' : World) (n : Nat) (hn : n < (encM M).length) (h : RetDec u ((encM M).take n) e u') => dec_no h (enc_cut_no hm hn))
  have HSET := Lib.hid (fun (u : World) (e : Ending) (u' : World) (i : Nat) (x : UInt8) (hi : i < (encM M).length) (hx : (encM M)[i] ≠ x) (h : RetDec u ((encM M).set i x) e u') => dec_no h (enc_set_no hm hi hx))
  clear hnil hm HNA HMA
  generalize encM M = E at *
  obtain ⟨a5, k5, rfl⟩ := ho5.len
  have tE : ((E.length : Int) == 0) = false := beq_eq_false_iff_ne.2 (by omega)
  go_wp2_with fail
  refine (msg_decode _ E _ ho5.bytes (by omega)).mono ?_
  rintro e w7 hd
  obtain ⟨yv, rfl, hyE, hb7⟩ := HOK.out _ _ _ hd
  replace hS4 := hS4.below hb7
  replace hE4 := hE4.below hb7
  replace ho5 := OwnB.below ho5 hb7
  replace hbw4 := hbw4.trans (hb7.mono hbw4.size)
  clear hb7 hd HOK
  obtain ⟨ya, yc, rfl⟩ := hyE.slice
  have hY := msgS_box w7 (.slice ya M.es.length yc) M 76
  have hb8 := (Below.refl w7.heap.size w7).alloc (Nat.le_refl _) (.cells #[.int .i64 M.k, .int .i64 M.f, .int .i64 M.o, .int .i64 M.t, .int .i64 M.i, .int .i64 M.l, .int .i64 M.c, .bool M.y, .slice ya M.es.length yc, .int .i64 M.s.i, .int .i64 M.s.t, .string M.s.c, .string M.s.d] 76)
  replace hS4 := hS4.below hb8
  replace hE4 := hE4.below hb8
  replace hyE := hyE.below hb8
  replace ho5 := OwnB.below ho5 hb8
  have hbs7 := hbw4.size
  replace hbw4 := hbw4.trans (hb8.mono hbw4.size)
  clear hb8
  rw [HAG.out]
  go_upto_region 11 with fail
  generalize w7.alloc _ = w8 at *
  generalize w7.heap.size = Y at *
  have c0 := hS4.c0
  have c1 := hS4.c1
  have c2 := hS4.c2
  have c3 := hS4.c3
  have c4 := hS4.c4
  have c5 := hS4.c5
  have c6 := hS4.c6
  have c7 := hS4.c7
  have c8 := hS4.c8
  have c9 := hS4.c9
  have c10 := hS4.c10
  have c11 := hS4.c11
  have c12 := hS4.c12
  have d0 := hY.c0
  have d1 := hY.c1
  have d2 := hY.c2
  have d3 := hY.c3
  have d4 := hY.c4
  have d5 := hY.c5
  have d6 := hY.c6
  have d7 := hY.c7
  have d8 := hY.c8
  have d9 := hY.c9
  have d10 := hY.c10
  have d11 := hY.c11
  have d12 := hY.c12
  go_wp2_with fail
  refine (HEQ.out _ _ _ hE4.r hyE).mono ?_
  rintro e w9 ⟨rfl, hb9⟩
  rw [eqM_iff.2 rfl]
  replace hY := hY.below hb9
  replace ho5 := OwnB.below ho5 hb9
  replace hbw4 := hbw4.trans (hb9.mono hbw4.size)
  clear hb9 hS4 hE4 hyE HEQ c0 c1 c2 c3 c4 c5 c6 c7 c8 c9 c10 c11 c12 d0 d1 d2 d3 d4 d5 d6 d7 d8 d9 d10 d11 d12
  have hB := ho5.bytes
  have hcap : E.length ≤ k5 := by
    obtain ⟨_, _, hv, hle, _⟩ := hB
    simp only [Value.slice.injEq] at hv
    omega
  clear ho5
  have HY := Lib.hid hY
  clear hY
  go_upto_region 13 with fail
  go_cut [70] (fun s wx => s = .bool (decide (0 < cut ∧ cut ≤ E.length)) ∧ wx = w9)
  case first =>
    by_cases m0 : 0 < cut
    · have t0 : decide (0 < cut) = true := decide_eq_true m0
      by_cases m1 : cut ≤ E.length
      · have t1 : decide (cut ≤ (E.length : Int)) = true := decide_eq_true m1
        have t2 : decide (0 < cut ∧ cut ≤ (E.length : Int)) = true := decide_eq_true ⟨m0, m1⟩
        go_wp2_with fail
        go_meet
        exact ⟨by rw [t2], rfl⟩
      · have t1 : decide (cut ≤ (E.length : Int)) = false := decide_eq_false m1
        have t2 : decide (0 < cut ∧ cut ≤ (E.length : Int)) = false := decide_eq_false fun h => m1 h.2
        go_wp2_with fail
        go_meet
        exact ⟨by rw [t2], rfl⟩
    · have t0 : decide (0 < cut) = false := decide_eq_false m0
      have t2 : decide (0 < cut ∧ cut ≤ (E.length : Int)) = false := decide_eq_false fun h => m0 h.1
      go_wp2_with fail
      go_meet
      exact ⟨by rw [t2], rfl⟩
  case rest =>
  obtain ⟨rfl, rfl⟩ := hcut
  rename World => w9
  have HM : Hid (decide (0 < cut ∧ cut ≤ E.length) = true → 0 < cut ∧ cut ≤ E.length) := Lib.hid (fun h => by simpa using h)
  generalize decide (0 < cut ∧ cut ≤ E.length) = b1 at *
  go_upto_if 70 with fail
  go_cut [14] (fun _ wx => Below w9.heap.size w9 wx)
  case first =>
    cases b1
    · go_wp2_with fail
      go_meet
      exact Below.refl _ _
    · obtain ⟨m0, m1⟩ := HM.out rfl
      obtain ⟨m, rfl⟩ := Int.eq_ofNat_of_zero_le (show 0 ≤ cut by omega)
      have s1 : IntKind.i64.wrap ((E.length : Int) - m) = (E.length : Int) - m := IntWalk.i64_in _ (by omega)
      have s2 : ((E.length : Int) - m).toNat = E.length - m := by omega
      have s3 : (0 : Int) ≤ (E.length : Int) - m := by omega
      have s4 : (E.length : Int) - m ≤ (k5 : Int) := by omega
      have hBt := hB.take (E.length - m) (by omega)
      go_wp2_with fail
      refine (msg_decode _ (E.take (E.length - m)) _ hBt (by rw [List.length_take]; omega)).mono ?_
      rintro e w14 hd
      obtain ⟨rfl, hb14⟩ := HCUT.out _ _ _ (E.length - m) (by omega) hd
      unfold msgAgg zM
      dsimp only
      go_wp2_with fail
      go_meet
      exact hb14
  case rest =>
  have hz := hcut
  rename World => w10
  clear HM HCUT
  replace hB := hB.below hz rfl
  have HY2 := Lib.hid (HY.out.below hz)
  replace hbw4 := hbw4.trans (hz.mono hbw4.size)
  clear hz HY hcut
  go_upto_region 17 with fail
  go_cut [88] (fun s wx => s = .bool (decide (at_ < 0 ∨ cx.toNat = 0)) ∧ wx = w10)
  case first =>
    by_cases m0 : at_ < 0
    · have t0 : decide (at_ < 0) = true := decide_eq_true m0
      have t2 : decide (at_ < 0 ∨ cx.toNat = 0) = true := decide_eq_true (.inl m0)
      go_wp2_with fail
      go_meet
      exact ⟨by rw [t2], rfl⟩
    · have t0 : decide (at_ < 0) = false := decide_eq_false m0
      by_cases m1 : cx.toNat = 0
      · have t1 : ((cx.toNat : Int) == 0) = true := by rw [m1]; rfl
        have t2 : decide (at_ < 0 ∨ cx.toNat = 0) = true := decide_eq_true (.inr m1)
        clear m1
        go_wp2_with fail
        go_meet
        exact ⟨by rw [t2], rfl⟩
      · have t1 : ((cx.toNat : Int) == 0) = false := beq_eq_false_iff_ne.2 (by omega)
        have t2 : decide (at_ < 0 ∨ cx.toNat = 0) = false := decide_eq_false (by omega)
        go_wp2_with fail
        go_meet
        exact ⟨by rw [t2], rfl⟩
  case rest =>
  obtain ⟨rfl, rfl⟩ := hcut
  rename World => w10
  have HM : Hid (decide (at_ < 0 ∨ cx.toNat = 0) = false → 0 ≤ at_ ∧ cx.toNat ≠ 0) := Lib.hid (fun h => by have := of_decide_eq_false h; omega)
  generalize decide (at_ < 0 ∨ cx.toNat = 0) = b2 at *
  go_upto_if 88 with fail
  cases b2
  case true =>
    go_wp2_with fail
    go_ret
    exact ⟨rfl, hbw4⟩
  case false =>
    obtain ⟨m0, m1⟩ := HM.out rfl
    obtain ⟨m, rfl⟩ := Int.eq_ofNat_of_zero_le (show 0 ≤ at_ by omega)
    clear HM
    go_wp2_with (at_builtin; refine wpList_append_bytes 62 w10.heap.size 5 Try.underlying62 info_u8 rfl _ _ rfl (OwnB.nil _ _ _) hB rfl rfl (by simp; omega) (Nat.le_refl _) ?_)
    intro v14 w14 ho14 hg14 hk14
    have hb14 := (Below.refl w10.heap.size w10).grown hg14 (Nat.le_refl _) (fun k hk => by cases hk)
    have hYlt := HY2.out.lt
    have HY3 := Lib.hid (HY2.out.below hb14)
    clear hg14 hk14 hB HY2
    obtain ⟨g, c14, rfl, hg0, hg1, hgc⟩ := OwnB.shape ho14 (by intro h; rw [h] at hE6; simp at hE6)
    have hlt : m % E.length < E.length := Nat.mod_lt _ (by omega)
    have hcell := OwnB.cellAt ho14 (m % E.length) hlt
    have hfro := OwnB.frozenAt ho14 (m % E.length)
    have HST := Lib.hid (OwnB.stored ho14 (m % E.length) (E[m % E.length] ^^^ cx))
    have hne : E[m % E.length] ≠ E[m % E.length] ^^^ cx := xor_ne m1
    have HBAD := Lib.hid (fun u e u' h => HSET.out u e u' (m % E.length) _ hlt hne h)
    clear hne HSET
    go_upto_region 21 with fail
    have hv : byteV (E[m % E.length] ^^^ cx) = .int .u8 (bits .xor .u8 ((E[m % E.length]).toNat : Int) (cx.toNat : Int)) := by
      unfold byteV
      rw [u8_xor_nat _ _ (E[m % E.length]).toNat_lt cx.toNat_lt, UInt8.toNat_xor]
    have hst := HST.out
    rw [hv] at hst
    obtain ⟨hst1, hst2⟩ := hst
    have hb15 := hb14.grown hst2 hb14.size (fun k hk => by cases hk; exact hg0)
    have hYk := HY3.out.keeps (Keeps.of_grown hst2) (by simp only [Option.toList, List.mem_singleton]; omega)
    have hll : (E.set (m % E.length) (E[m % E.length] ^^^ cx)).length ≤ 300000 := by rw [List.length_set]; exact hEl
    generalize E.set (m % E.length) (E[m % E.length] ^^^ cx) = X at *
    generalize w14.setCell _ _ = w15 at *
    clear hb14 ho14 hcell hfro HST hv hst2 HY3
    go_wp2_with fail
    refine (msg_decode _ X _ hst1.bytes (by omega)).mono ?_
    rintro e w16 hd
    obtain ⟨rfl, hb16⟩ := HBAD.out _ _ _ hd
    replace hYk := hYk.below hb16
    have hbz := hbw4.trans ((hb15.trans (hb16.mono hb15.size)).mono hbw4.size)
    clear hd HBAD hb15 hb16
    unfold msgAgg zM
    dsimp only
    have c0 := hYk.c0
    have c1 := hYk.c1
    have c2 := hYk.c2
    have c3 := hYk.c3
    have c4 := hYk.c4
    have c5 := hYk.c5
    have c6 := hYk.c6
    have c7 := hYk.c7
    have c8 := hYk.c8
    have c9 := hYk.c9
    have c10 := hYk.c10
    have c11 := hYk.c11
    have c12 := hYk.c12
    have cf := hYk.fr
    have hkk := keeps_msgTo w16 Y (.slice none 0 0) zM
    have hfin := hbz.trans (hkk.below (B := w.heap.size) (by simp only [List.mem_singleton]; omega) hbz.size)
    have HFIN := Lib.hid hfin
    clear hkk hfin
    go_wp2_with fail
    go_ret
    exact ⟨rfl, HFIN.out⟩
/-! ### From the row to the walk -/
namespace msgBackF
set_option linter.unusedVariables false
theorem own : ownKnob Try.prog.godebug = none := by kernel_rfl
theorem laidOut : laidOutB Try.prog = true := by kernel_rfl
set_option maxRecDepth 100000 in
theorem lifted (os : Os) (started : os.Started) (H : Type) (enc : TypeId × Value → H) :
    ReturnsInHanded {} Try.checked os 11 .any (Rows.msgBackSpec.pre6 enc Try.prog Try.f11 Rows.msgBackRow.domain false) (Rows.msgBackSpec.post enc Try.prog Try.f11 false true false false) := by
  refine returnsInHanded_of_change (C := Try.checked) own started (by kernel_rfl) Try.func11
    (ChangeSpec.witness6 (enc := enc) (C := Try.checked) false ⟨#[], #[msgBack_wit0, .int .i64 0, .int .i64 0, .int .i64 0, .int .u8 0], []⟩ 8 (by kernel_rfl) (by kernel_rfl) (by kernel_rfl) (by kernel_rfl)) ?_
  intro W base args ds gs before hval0 hW hcnd _
  have hval : ∀ (j : Nat) t v, Try.f11.params[j]? = some t → args[j]? = some v → Value.okWide Try.prog W .any base t v := hval0
  have hW' := hW
  obtain ⟨p, q, hA0, hV, rfl, hfz, hnd⟩ := hW
  have hA : DataW.TrodAll enc Try.prog W 0 (fun _ => true) true Try.f11.params.toList args.toList ds p := hA0
  rw [Try.params11] at hA hval
  obtain ⟨v0, vs0, d0, ds0, p0, q0, hargs, rfl, rfl, h0, r0⟩ := trodAll_cons hA
  obtain ⟨v1, vs1, d1, ds1, p1, q1, rfl, rfl, rfl, h1, r1⟩ := trodAll_cons r0
  obtain ⟨v2, vs2, d2, ds2, p2, q2, rfl, rfl, rfl, h2, r2⟩ := trodAll_cons r1
  obtain ⟨v3, vs3, d3, ds3, p3, q3, rfl, rfl, rfl, h3, r3⟩ := trodAll_cons r2
  obtain ⟨v4, vs4, d4, ds4, p4, q4, rfl, rfl, rfl, h4, r4⟩ := trodAll_cons r3
  obtain ⟨rfl, rfl, rfl⟩ := trodAll_nil r4
  obtain rfl : args = #[v0, v1, v2, v3, v4] := by cases args; simp_all
  obtain ⟨rfl, rfl⟩ := trodVars_none hV
  have k0 := h0
  have lt0 : ∀ x ∈ p0, x.block < W.heap.size := by obtain ⟨m, hm⟩ := k0; exact DataW.trod_lt m _ _ _ hm
  obtain ⟨x0, w0⟩ := msgBack_open0 (hval 0 76 v0 rfl rfl) h0
  have k1 := h1
  have lt1 : ∀ x ∈ p1, x.block < W.heap.size := by obtain ⟨m, hm⟩ := k1; exact DataW.trod_lt m _ _ _ hm
  obtain ⟨a1, rfl, hd1, hp1, w1⟩ := open_int Try.underlying3 (hval 1 3 v1 rfl rfl) h1
  have k2 := h2
  have lt2 : ∀ x ∈ p2, x.block < W.heap.size := by obtain ⟨m, hm⟩ := k2; exact DataW.trod_lt m _ _ _ hm
  obtain ⟨a2, rfl, hd2, hp2, w2⟩ := open_int Try.underlying3 (hval 2 3 v2 rfl rfl) h2
  have k3 := h3
  have lt3 : ∀ x ∈ p3, x.block < W.heap.size := by obtain ⟨m, hm⟩ := k3; exact DataW.trod_lt m _ _ _ hm
  obtain ⟨a3, rfl, hd3, hp3, w3⟩ := open_int Try.underlying3 (hval 3 3 v3 rfl rfl) h3
  have k4 := h4
  have lt4 : ∀ x ∈ p4, x.block < W.heap.size := by obtain ⟨m, hm⟩ := k4; exact DataW.trod_lt m _ _ _ hm
  obtain ⟨a4, rfl, hd4, hp4, w4⟩ := open_int Try.underlying5 (hval 4 5 v4 rfl rfl) h4
  clear hA0 hval0
  refine (msgBack_walk v0 x0 a1 a2 a3 a4 W w0 w1 w2 w3 w4).mono fun e W' ⟨he, bel⟩ => ?_
  subst he
  exact ⟨_, rfl, _, _, _, [], _, [], hW', trodAll_mk1 (shut_bool Try.underlying4 _), (trodAll_cons_mk (Below.trod laidOut (by kernel_rfl) (of_decide_eq_true (by kernel_rfl)) k0 bel lt0) (trodAll_cons_mk (Below.trod laidOut (by kernel_rfl) (of_decide_eq_true (by kernel_rfl)) k1 bel lt1) (trodAll_cons_mk (Below.trod laidOut (by kernel_rfl) (of_decide_eq_true (by kernel_rfl)) k2 bel lt2) (trodAll_cons_mk (Below.trod laidOut (by kernel_rfl) (of_decide_eq_true (by kernel_rfl)) k3 bel lt3) (trodAll_cons_mk (Below.trod laidOut (by kernel_rfl) (of_decide_eq_true (by kernel_rfl)) k4 bel lt4) trodAll_mk0))))), rfl, bel.frame _, fun h => by cases h⟩
theorem over : Rows.msgBackRow.holds Try.pinned (OpenSpec.ofChange Rows.msgBackSpec) :=
  OpenClaim.holds_of_wide 11 Try.f11 rfl rfl rfl rfl rfl rfl rfl ⟨rfl, rfl, rfl, rfl, rfl⟩ rfl rfl rfl rfl rfl (by kernel_rfl) Try.func11 (by kernel_rfl)
    (of_decide_eq_true (by kernel_rfl)) (by unfold Func.isWrapper; first | (rw [if_pos (by decide +kernel)]; kernel_rfl) | (rw [if_neg (by decide +kernel)]; exact ⟨rfl, rfl⟩))
    (fun os started H enc _ => lifted os started H enc)
end msgBackF
theorem msgBack_holds : Rows.MsgBackSaid := msgBackF.over
#print axioms msgBack_holds
end Go.Proofs.Ytihcohneongomaa
