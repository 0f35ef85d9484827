/-
  Four hundred may be on their way: any number. No condition.
-/
import Derived.Test.YtcogmohepcifiaaNet2
namespace Go.Proofs.Ytcogmohepcifiaa
open Go.ChangeShapes Go.WideShapes Go.ChangeAt Go.RowKit

def ackM (i : Int) : Msg := ⟨4, 1, 2, 1, i, 0, 0, false, [], ⟨0, 0, ⟨#[]⟩, ⟨#[]⟩⟩⟩
theorem ackM_may {i : Int} (h0 : 0 ≤ i) (h1 : i ≤ 1099511627776) : mayM (ackM i) = true := by
  have a1 : headM (ackM i) = true := headM_iff.2 (by unfold ackM; dsimp only; omega)
  have a2 : kindM (ackM i) = true := kindM_iff.2 (by unfold ackM; simp)
  have a3 : tailM (ackM i) = true := by
    unfold tailM ackM
    rw [if_neg (show ¬ ((4 : Int) = 5) by decide)]
    show zeroSnpB ⟨0, 0, ⟨#[]⟩, ⟨#[]⟩⟩ = true
    decide +kernel
  unfold mayM
  rw [a1, a2, a3]
  rfl

set_option maxRecDepth 100000 in
set_option maxHeartbeats 4000000 in
theorem netFull_walk (k : Int) (w : World) (wk : (Lit.int .i64 k).wf = true) :
    Calls Try.prog 3 #[.int .i64 k] w fun e w' => e = .returned (.bool true) ∧ Below w.heap.size w w' := by
  have wk := wf_i64 wk
  go_enter Try.func3, Try.ntmps3
  go_wp2_with fail
  refine (msg_begun _).mono ?_
  rintro e w1 ⟨rfl, hb1⟩
  by_cases m0 : k < 0
  case pos =>
    have t0 : decide (k < 0) = true := decide_eq_true m0
    go_wp2_with fail
    go_ret
    exact ⟨rfl, hb1⟩
  have t0 : decide (k < 0) = false := decide_eq_false m0
  by_cases m1 : 450 < k
  case pos =>
    have t1 : decide (450 < k) = true := decide_eq_true m1
    go_wp2_with fail
    go_ret
    exact ⟨rfl, hb1⟩
  have t1 : decide (450 < k) = false := decide_eq_false m1
  obtain ⟨K, rfl⟩ := Int.eq_ofNat_of_zero_le (show 0 ≤ k by omega)
  go_wp2_with fail
  refine (net_new _).mono ?_
  rintro e w2 ⟨rfl, hN, hb2⟩
  have hbw := hb1.trans (hb2.mono hb1.size)
  have hww := hb1.size
  clear hb1 hb2
  generalize w1.heap.size = b at *
  go_wp2_with fail
  go_loopw [5] (fun i wr => ∃ (j : Nat) (lv : Value) (ms : List VMsg), i = .int .i64 j ∧ j ≤ K ∧ NetS wr b lv ms ∧ ms.length = min j 400 ∧ Below w.heap.size w wr) (fun i _ => K - (intOf i).toNat)
  case atStart => exact ⟨0, _, [], rfl, by omega, hN, by simp, hbw⟩
  case round =>
    clear hN hbw
    obtain ⟨j, lv, ms, rfl, hj, hN, hms, hbel⟩ := hrel
    by_cases hlt : j < K
    · go_wp2_with fail
      refine (net_send hN (.slice none 0 0) (ackM j) (EntR.nil _ _ _ (by omega)) (by unfold ackM; simp) (by unfold ackM; show (0 : Nat) ≤ 1000000000; omega) (by omega) (by intro g off n c hv; cases hv)).mono ?_
      rintro e w3 ⟨rfl, lv', ms', hN', hv, hk, -⟩
      have hlr : ∀ g, lv.ownBlock = some g → w.heap.size ≤ g := fun g hg => by
        have := (World.ownsRow.lt hN.m.row g hg).1
        omega
      have hb3 := hbel.trans (hk.below (B := w.heap.size) (fun x hx => by
        rcases List.mem_cons.1 hx with rfl | hx
        · exact hww
        · exact hlr x (by simpa using hx)) hbel.size)
      have hS : sendB ms (ackM j) = decide ((j : Int) < 400) := by
        unfold sendB
        rw [ackM_may (by omega) (by omega), Bool.true_and]
        by_cases h : j < 400
        · rw [decide_eq_true (by omega), decide_eq_true (by omega)]
        · rw [decide_eq_false (by omega), decide_eq_false (by omega)]
      have hl' : ms'.length = min (j + 1) 400 := by
        have h1 : (vms ms').length = ms'.length := by unfold vms; rw [List.length_map]
        have h2 : (vms ms).length = ms.length := by unfold vms; rw [List.length_map]
        rw [← h1, hv, hS]
        unfold sentM
        by_cases h : (j : Int) < 400
        · rw [decide_eq_true h, if_pos rfl, List.length_append, h2, List.length_singleton]; omega
        · rw [decide_eq_false h, if_neg (by decide), h2]; omega
      rw [hS]
      have hbe : ∀ x : Bool, (x != x) = false := fun x => by cases x <;> rfl
      clear hk hv hS hN hlr
      go_wp2_with fail
      go_roundw
      case rel => exact ⟨j + 1, lv', ms', by go_num, by omega, hN', hl', hb3⟩
      case measure => simp [intOf]; omega
    · obtain rfl : j = K := by omega
      go_wp2_with fail
      refine (net_len hN).mono ?_
      rintro e w3 ⟨rfl, rfl⟩
      have hmin : (if 400 < ((j : Nat) : Int) then 400 else ((j : Nat) : Int)) = ((ms.length : Nat) : Int) := by rw [hms]; split <;> omega
      go_wp2_with fail
      go_ret
      exact ⟨rfl, hbel⟩
/-! ### From the row to the walk -/
namespace netFullF
set_option linter.unusedVariables false
theorem own : ownKnob Try.prog.godebug = none := by kernel_rfl
theorem laidOut : laidOutB Try.prog = true := by kernel_rfl
set_option maxRecDepth 100000 in
theorem lifted (os : Os) (started : os.Started) (H : Type) (enc : TypeId × Value → H) :
    ReturnsInHanded {} Try.checked os 3 .any (Rows.netFullSpec.pre6 enc Try.prog Try.f3 Rows.netFullRow.domain false) (Rows.netFullSpec.post enc Try.prog Try.f3 false true false false) := by
  refine returnsInHanded_of_change (C := Try.checked) own started (by kernel_rfl) Try.func3
    (ChangeSpec.witness6 (enc := enc) (C := Try.checked) false ⟨#[], #[.int .i64 0], []⟩ 8 (by kernel_rfl) (by kernel_rfl) (by kernel_rfl) (by kernel_rfl)) ?_
  intro W base args ds gs before hval0 hW hcnd _
  have hval : ∀ (j : Nat) t v, Try.f3.params[j]? = some t → args[j]? = some v → Value.okWide Try.prog W .any base t v := hval0
  have hW' := hW
  obtain ⟨p, q, hA0, hV, rfl, hfz, hnd⟩ := hW
  have hA : DataW.TrodAll enc Try.prog W 0 (fun _ => true) true Try.f3.params.toList args.toList ds p := hA0
  rw [Try.params3] at hA hval
  obtain ⟨v0, vs0, d0, ds0, p0, q0, hargs, rfl, rfl, h0, r0⟩ := trodAll_cons hA
  obtain ⟨rfl, rfl, rfl⟩ := trodAll_nil r0
  obtain rfl : args = #[v0] := by cases args; simp_all
  obtain ⟨rfl, rfl⟩ := trodVars_none hV
  have k0 := h0
  have lt0 : ∀ x ∈ p0, x.block < W.heap.size := by obtain ⟨m, hm⟩ := k0; exact DataW.trod_lt m _ _ _ hm
  obtain ⟨a0, rfl, hd0, hp0, w0⟩ := open_int Try.underlying3 (hval 0 3 v0 rfl rfl) h0
  clear hA0 hval0
  refine (netFull_walk a0 W w0).mono fun e W' ⟨he, bel⟩ => ?_
  subst he
  exact ⟨_, rfl, _, _, _, [], _, [], hW', trodAll_mk1 (shut_bool Try.underlying4 _), (trodAll_cons_mk (Below.trod laidOut (by kernel_rfl) (of_decide_eq_true (by kernel_rfl)) k0 bel lt0) trodAll_mk0), rfl, bel.frame _, fun h => by cases h⟩
theorem over : Rows.netFullRow.holds Try.pinned (OpenSpec.ofChange Rows.netFullSpec) :=
  OpenClaim.holds_of_wide 3 Try.f3 rfl rfl rfl rfl rfl rfl rfl ⟨rfl, rfl, rfl, rfl, rfl⟩ rfl rfl rfl rfl rfl (by kernel_rfl) Try.func3 (by kernel_rfl)
    (of_decide_eq_true (by kernel_rfl)) (by unfold Func.isWrapper; first | (rw [if_pos (by decide +kernel)]; kernel_rfl) | (rw [if_neg (by decide +kernel)]; exact ⟨rfl, rfl⟩))
    (fun os started H enc _ => lifted os started H enc)
end netFullF
theorem netFull_holds : Rows.NetFullSaid := netFullF.over
#print axioms netFull_holds
end Go.Proofs.Ytcogmohepcifiaa
