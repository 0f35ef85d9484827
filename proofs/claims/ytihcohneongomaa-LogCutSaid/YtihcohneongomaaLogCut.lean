/-
  Another entry at a place takes all behind it away: of any number of entries and any place. No condition.
-/
import Derived.Test.YtihcohneongomaaLogB
namespace Go.Proofs.Ytihcohneongomaa
open Go.ChangeShapes Go.WideShapes Go.ChangeAt Go.RowKit

def entK (i t : Int) : Ent := ⟨i, t, 1, .empty⟩
def cutL (n : Nat) : List Ent := (List.range n).map fun (i : Nat) => entK ((i : Int) + 1) 1
theorem cutL_succ (n : Nat) : cutL (n + 1) = cutL n ++ [entK ((n : Int) + 1) 1] := by simp [cutL, List.range_succ]
theorem cutL_len (n : Nat) : (cutL n).length = n := by simp [cutL]
def cutOk (n a : Nat) : Bool :=
  newOk (snpA 0 0) (cutL n) && ((putP (snpA 0 0) (cutL n) [entK a 2]).1.1 == (a : Int)) && (putP (snpA 0 0) (cutL n) [entK a 2]).1.2 &&
  (lastP (snpA 0 0) (putP (snpA 0 0) (cutL n) [entK a 2]).2 == (a : Int)) && ((termP (snpA 0 0) (putP (snpA 0 0) (cutL n) [entK a 2]).2 a).1 == 2) &&
  newerP (snpA 0 0) (putP (snpA 0 0) (cutL n) [entK a 2]).2 a 2 && !newerP (snpA 0 0) (putP (snpA 0 0) (cutL n) [entK a 2]).2 n 1 && decide ((putP (snpA 0 0) (cutL n) [entK a 2]).2.length ≤ 200)
theorem cut_all : ((List.range 50).all fun n => (List.range (n + 1)).all fun a => cutOk (n + 1) (a + 1)) = true := by decide +kernel
theorem cut_ok (n a : Nat) (h1 : 1 ≤ n) (h2 : n ≤ 50) (h3 : 1 ≤ a) (h4 : a ≤ n) : cutOk n a = true := by
  have h := cut_all
  rw [List.all_eq_true] at h
  have h := h (n - 1) (List.mem_range.2 (by omega))
  rw [List.all_eq_true] at h
  have h := h (a - 1) (List.mem_range.2 (by omega))
  rwa [show n - 1 + 1 = n by omega, show a - 1 + 1 = a by omega] at h

set_option maxRecDepth 100000 in
set_option maxHeartbeats 4000000 in
theorem logCut_walk (n a : Int) (w : World) (wn : (Lit.int .i64 n).wf = true) (wa : (Lit.int .i64 a).wf = true) :
    Calls Try.prog 4 #[.int .i64 n, .int .i64 a] w fun e w' => e = .returned (.bool true) ∧ Below w.heap.size w w' := by
  have wn := wf_i64 wn
  have wa := wf_i64 wa
  go_enter Try.func4, Try.ntmps4
  go_wp2_with fail
  refine (log_begun _).mono ?_
  rintro e w1 ⟨rfl, hb1⟩
  by_cases m0 : n < 1
  · have t0 : decide (n < 1) = true := decide_eq_true m0
    go_wp2_with fail
    go_ret
    exact ⟨rfl, hb1⟩
  · have t0 : decide (n < 1) = false := decide_eq_false m0
    by_cases m1 : 50 < n
    · have t1 : decide (50 < n) = true := decide_eq_true m1
      go_wp2_with fail
      go_ret
      exact ⟨rfl, hb1⟩
    · have t1 : decide (50 < n) = false := decide_eq_false m1
      by_cases m2 : a < 1
      · have t2 : decide (a < 1) = true := decide_eq_true m2
        go_wp2_with fail
        go_ret
        exact ⟨rfl, hb1⟩
      · have t2 : decide (a < 1) = false := decide_eq_false m2
        by_cases m3 : n < a
        · have t3 : decide (n < a) = true := decide_eq_true m3
          go_wp2_with fail
          go_ret
          exact ⟨rfl, hb1⟩
        · have t3 : decide (n < a) = false := decide_eq_false m3
          obtain ⟨N, rfl⟩ := Int.eq_ofNat_of_zero_le (show 0 ≤ n by omega)
          obtain ⟨A, rfl⟩ := Int.eq_ofNat_of_zero_le (show 0 ≤ a by omega)
          have t3' : ¬ N < A := by omega
          have hOK := cut_ok N A (by omega) (by omega) (by omega) (by omega)
          unfold cutOk at hOK
          simp only [Bool.and_eq_true, beq_iff_eq, decide_eq_true_eq, Bool.not_eq_true'] at hOK
          obtain ⟨⟨⟨⟨⟨⟨⟨k1, k2⟩, k3⟩, k4⟩, k5⟩, k6⟩, k7⟩, k8⟩ := hOK
          have K1 := Lib.hid k1
          have K2 := Lib.hid k2
          have K3 := Lib.hid k3
          have K4 := Lib.hid k4
          have K5 := Lib.hid k5
          have K6 := Lib.hid k6
          have K7 := Lib.hid k7
          have K8 := Lib.hid k8
          clear k1 k2 k3 k4 k5 k6 k7 k8
          go_wp2_with fail
          go_loopw [6, 7] (fun s i wr => ∃ k : Nat, k ≤ N ∧ i = .int .i64 ((k : Int) + 1) ∧ EntO wr w1.heap.size s (cutL k) ∧ Below w1.heap.size w1 wr) (fun _ i _ => N + 1 - (intOf i).toNat)
          case atStart => exact ⟨0, by omega, rfl, EntO.nil _ _, Below.refl _ _⟩
          case round =>
            obtain ⟨k, hk, rfl, ho, hbel⟩ := hrel
            by_cases hlt : k < N
            · have hb := (Below.refl wr.heap.size wr).alloc (Nat.le_refl _) (.cells #[Value.int .i64 ((k : Int) + 1), .int .i64 1, .int .i64 1, .string .empty] 37)
              have hE := EntR.fresh wr [entK ((k : Int) + 1) 1] 37 (0, 0) #[Value.int .i64 ((k : Int) + 1), .int .i64 1, .int .i64 1, .string .empty] 1 rfl rfl (by simp)
              have ho2 := ho.below hb
              have hll := Lib.hid (cutL_len k)
              have HU := Lib.hid (cutL_succ k)
              have hbz := hbel.trans (hb.mono hbel.size)
              clear ho hb hbel
              go_wp2_with (at_builtin; refine wpList_append_ents 24 w1.heap.size _ Try.underlying24 info_ent rfl rfl _ _ rfl ho2 hE rfl rfl (by rw [hll.out]; simp; omega) hbz.size ?_)
              intro v2 w2 ho3 hg3 hk3
              have hb3 : Below w1.heap.size w1 w2 := hbz.grown hg3 hbz.size (fun k hk => (World.ownsRow.lt ho2 k hk).1)
              clear ho2 hE hg3 hk3 hbz
              go_wp2_with fail
              go_roundw
              case rel => exact ⟨k + 1, by omega, by go_num, by rw [HU.out]; exact ho3, hb3⟩
              case measure => simp [intOf]; omega
            · obtain rfl : k = N := by omega
              have hr := ho.r
              obtain ⟨a6, c6, he⟩ := hr.slice
              rename Value => s6
              rw [he] at hr ⊢
              have hll := Lib.hid (cutL_len k)
              have hbw := hb1.trans (hbel.mono hb1.size)
              have hbwz := hbw.size
              clear he ho hbel hlt hk
              obtain ⟨C, hC⟩ : ∃ C, C = cutL k := ⟨_, rfl⟩
              rw [← hC] at hr hll K1 K2 K3 K4 K5 K6 K7 K8 ⊢
              have HC := Lib.hid hC
              clear hC
              obtain ⟨D, hD⟩ : ∃ D, D = (putP (snpA 0 0) C [entK A 2]).2 := ⟨_, rfl⟩
              rw [← hD] at K4 K5 K6 K7 K8
              have HD := Lib.hid hD
              clear hD
              have HB1 : Hid (LogB (snpA 0 0) C) := Lib.hid ⟨by decide, by decide, by rw [hll.out]; omega⟩
              have HB2 : Hid (LogB (snpA 0 0) D) := Lib.hid ⟨by decide, by decide, K8.out⟩
              go_wp2_with fail
              refine (log_new (snpA 0 0) _ C _ hr (by rw [hll.out]; omega)).mono ?_
              intro e w2 hn
              unfold RetNewL at hn
              rw [if_pos K1.out] at hn
              obtain ⟨b, lv, rfl, hS, hb2, hbb, hsi⟩ := hn
              have hbv := hbw.trans (hb2.mono hbwz)
              have hbb := Nat.le_trans hbwz hbb
              have hbvz := hbv.size
              clear hsi hb2 hr
              have hE1 := EntR.fresh w2 [entK A 2] 37 (0, 0) #[Value.int .i64 (A : Int), .int .i64 2, .int .i64 1, .string .empty] 1 rfl rfl (by simp)
              have hb3 := (Below.refl w2.heap.size w2).alloc (Nat.le_refl _) (.cells #[Value.int .i64 (A : Int), .int .i64 2, .int .i64 1, .string .empty] 37)
              have hS1 := hS.below hb3
              have hb3z := hb3.size
              unfold logPtr
              go_wp2_with fail
              refine (log_put (s := snpA 0 0) (es := C) (fs := [entK A 2]) hS1 HB1.out hE1 (by simp) (by intro e he; simp only [List.mem_cons, List.not_mem_nil, or_false] at he; subst he; exact ⟨by simp only [entK]; omega, by simp only [entK]; omega⟩)).mono ?_
              rintro e w3 ⟨lv2, rfl, hS2, hk2, -⟩
              rw [← HD.out] at hS2
              rw [K2.out, K3.out]
              have hbx : Below w.heap.size w w3 := (hbv.trans (hb3.mono hbvz)).trans ((hk2.below (B := w.heap.size) (fun x hx => by simp only [List.mem_singleton] at hx; omega) (by omega)))
              have hbxz := hbx.size
              clear hS1 hS hk2 hb3 hbv hE1
              go_wp2_with fail
              refine (log_term A hS2 HB2.out).mono ?_
              rintro e w4 ⟨rfl, hb4⟩
              rw [K5.out]
              have hS3 := hS2.below hb4
              have hby := hbx.trans (hb4.mono hbxz)
              generalize (termP (snpA 0 0) D A).2 = tb at *
              clear hS2 hb4 hbx
              go_wp2_with fail
              refine (log_last hS3 HB2.out).mono ?_
              rintro e w5 ⟨rfl, n5, rfl⟩
              rw [K4.out]
              have hS4 := hS3.below (below_drewN' n5)
              have hbz := below_drewN hby n5
              have hbzz := hbz.size
              clear hS3 hby
              generalize World.drewN _ n5 = w5 at *
              go_wp2_with fail
              refine (log_newer A 2 hS4 HB2.out).mono ?_
              rintro e w6 ⟨rfl, hb6⟩
              rw [K6.out]
              have hS5 := hS4.below hb6
              have hbu := hbz.trans (hb6.mono hbzz)
              have hbuz := hbu.size
              clear hS4 hb6 hbz
              go_wp2_with fail
              refine (log_newer k 1 hS5 HB2.out).mono ?_
              rintro e w7 ⟨rfl, hb7⟩
              rw [K7.out]
              have hbt := hbu.trans (hb7.mono hbuz)
              clear hS5 hb7 hbu
              go_wp2_with fail
              go_ret
              exact ⟨rfl, hbt⟩
/-! ### From the row to the walk -/
namespace logCutF
set_option linter.unusedVariables false
theorem own : ownKnob Try.prog.godebug = none := by kernel_rfl
theorem laidOut : laidOutB Try.prog = true := by kernel_rfl
set_option maxRecDepth 100000 in
theorem lifted (os : Os) (started : os.Started) (H : Type) (enc : TypeId × Value → H) :
    ReturnsInHanded {} Try.checked os 4 .any (Rows.logCutSpec.pre6 enc Try.prog Try.f4 Rows.logCutRow.domain false) (Rows.logCutSpec.post enc Try.prog Try.f4 false true false false) := by
  refine returnsInHanded_of_change (C := Try.checked) own started (by kernel_rfl) Try.func4
    (ChangeSpec.witness6 (enc := enc) (C := Try.checked) false ⟨#[], #[.int .i64 0, .int .i64 0], []⟩ 8 (by kernel_rfl) (by kernel_rfl) (by kernel_rfl) (by kernel_rfl)) ?_
  intro W base args ds gs before hval0 hW hcnd _
  have hval : ∀ (j : Nat) t v, Try.f4.params[j]? = some t → args[j]? = some v → Value.okWide Try.prog W .any base t v := hval0
  have hW' := hW
  obtain ⟨p, q, hA0, hV, rfl, hfz, hnd⟩ := hW
  have hA : DataW.TrodAll enc Try.prog W 0 (fun _ => true) true Try.f4.params.toList args.toList ds p := hA0
  rw [Try.params4] at hA hval
  obtain ⟨v0, vs0, d0, ds0, p0, q0, hargs, rfl, rfl, h0, r0⟩ := trodAll_cons hA
  obtain ⟨v1, vs1, d1, ds1, p1, q1, rfl, rfl, rfl, h1, r1⟩ := trodAll_cons r0
  obtain ⟨rfl, rfl, rfl⟩ := trodAll_nil r1
  obtain rfl : args = #[v0, v1] := by cases args; simp_all
  obtain ⟨rfl, rfl⟩ := trodVars_none hV
  have k0 := h0
  have lt0 : ∀ x ∈ p0, x.block < W.heap.size := by obtain ⟨m, hm⟩ := k0; exact DataW.trod_lt m _ _ _ hm
  obtain ⟨a0, rfl, hd0, hp0, w0⟩ := open_int Try.underlying3 (hval 0 3 v0 rfl rfl) h0
  have k1 := h1
  have lt1 : ∀ x ∈ p1, x.block < W.heap.size := by obtain ⟨m, hm⟩ := k1; exact DataW.trod_lt m _ _ _ hm
  obtain ⟨a1, rfl, hd1, hp1, w1⟩ := open_int Try.underlying3 (hval 1 3 v1 rfl rfl) h1
  clear hA0 hval0
  refine (logCut_walk a0 a1 W w0 w1).mono fun e W' ⟨he, bel⟩ => ?_
  subst he
  exact ⟨_, rfl, _, _, _, [], _, [], hW', trodAll_mk1 (shut_bool Try.underlying4 _), (trodAll_cons_mk (Below.trod laidOut (by kernel_rfl) (of_decide_eq_true (by kernel_rfl)) k0 bel lt0) (trodAll_cons_mk (Below.trod laidOut (by kernel_rfl) (of_decide_eq_true (by kernel_rfl)) k1 bel lt1) trodAll_mk0)), rfl, bel.frame _, fun h => by cases h⟩
theorem over : Rows.logCutRow.holds Try.pinned (OpenSpec.ofChange Rows.logCutSpec) :=
  OpenClaim.holds_of_wide 4 Try.f4 rfl rfl rfl rfl rfl rfl rfl ⟨rfl, rfl, rfl, rfl, rfl⟩ rfl rfl rfl rfl rfl (by kernel_rfl) Try.func4 (by kernel_rfl)
    (of_decide_eq_true (by kernel_rfl)) (by unfold Func.isWrapper; first | (rw [if_pos (by decide +kernel)]; kernel_rfl) | (rw [if_neg (by decide +kernel)]; exact ⟨rfl, rfl⟩))
    (fun os started H enc _ => lifted os started H enc)
end logCutF
theorem logCut_holds : Rows.LogCutSaid := logCutF.over
#print axioms logCut_holds
end Go.Proofs.Ytihcohneongomaa
