/-
  A snapshot of any size up to 200,000 bytes goes to bytes and back: of any size. No condition.
-/
import Derived.Test.YtihcohneongomaaWalB
import Derived.Test.YtihcohneongomaaEqEnt
namespace Go.Proofs.Ytihcohneongomaa
open Go.ChangeShapes Go.WideShapes Go.ChangeAt Go.RowKit

/-- 'make([]byte, n)'. -/
theorem make_bytes (w : World) (n : Nat) (hn : n ≤ 1000000000) : ∃ w', (Instr.makeSlice 62 (.int .i64 (n : Int)) (.int .i64 (n : Int))).run Try.prog w = .ok (.slice (some ⟨w.heap.size, 0, none⟩) n n) w' ∧
    OwnB w' w.heap.size 5 (.slice (some ⟨w.heap.size, 0, none⟩) n n) (List.replicate n 0) ∧ Below w.heap.size w w' := by
  obtain ⟨i, hi, hz0, hz1, hz2⟩ := info_parts info_u8
  obtain ⟨w', h1, h2, h3⟩ := run_make_full (P := Try.prog) w w.heap.size 62 5 i _ 1 Try.underlying62 hi hz0 hz1 .i64 .i64 n (by rw [hz2]; omega) (by unfold maxLen; omega) (Nat.le_refl _)
  refine ⟨w', h1, ?_, below_of_grown h3⟩
  unfold OwnB
  rw [List.length_replicate, List.map_replicate]
  rw [Nat.mul_one, show (Value.int .u8 0).cells = #[.int .u8 0] from rfl, toList_madeCells_one] at h2
  exact h2

theorem putS_len {s : Snp} : (putS s).length ≤ 4000000 := by
  unfold putS
  by_cases h : mayS s = true
  · rw [if_pos h, List.length_append]
    obtain ⟨-, -, -, -, -, h6⟩ := mayS_iff.1 h
    have h1 := sealP_le 3 (headS s)
    have h2 := parts_len (s.d.data.toList.length + 1) s.d.data.toList (Nat.lt_succ_self _)
    have h3 : s.d.data.toList.length = s.d.size := size_data _
    omega
  · rw [if_neg h]
    simp

set_option maxRecDepth 100000 in
set_option maxHeartbeats 2000000 in
theorem walBig_walk (n : Int) (w : World) (wn : (Lit.int .i64 n).wf = true) :
    Calls Try.prog 10 #[.int .i64 n] w fun e w' => e = .returned (.bool true) ∧ Below w.heap.size w w' := by
  have wn := wf_i64 wn
  go_enter Try.func10, Try.ntmps10
  go_wp2_with fail
  refine (wal_begun _).mono ?_
  rintro e w1 ⟨rfl, hb1⟩
  by_cases m0 : n < 0
  · have t0 : decide (n < 0) = true := decide_eq_true m0
    go_wp2_with fail
    go_ret
    exact ⟨rfl, hb1⟩
  · have t0 : decide (n < 0) = false := decide_eq_false m0
    by_cases m1 : 201000 < n
    · have t1 : decide (201000 < n) = true := decide_eq_true m1
      go_wp2_with fail
      go_ret
      exact ⟨rfl, hb1⟩
    · have t1 : decide (201000 < n) = false := decide_eq_false m1
      obtain ⟨N, rfl⟩ := Int.eq_ofNat_of_zero_le (show 0 ≤ n by omega)
      obtain ⟨w2, hmk, hO, hb2⟩ := make_bytes w1 N (by omega)
      have hbw := hb1.trans (hb2.mono hb1.size)
      go_wp2_with fail
      have hB1 := hb1.size
      generalize w1.heap.size = g at *
      go_loopw [5] (fun i wr => ∃ (k : Nat) (L : List UInt8), i = .int .i64 k ∧ L.length = N ∧ k ≤ N + 97 ∧ OwnB wr g 5 (.slice (some ⟨g, 0, none⟩) N N) L ∧ Below w.heap.size w wr) (fun i _ => N + 97 - (intOf i).toNat)
      case atStart => exact ⟨0, _, rfl, List.length_replicate, by omega, hO, hbw⟩
      case round =>
        clear hO hbw hb2 hmk
        obtain ⟨k, L, rfl, hL, hk, hO, hbel⟩ := hrel
        by_cases hlt : k < N
        · have hcell := OwnB.cellAt hO k (by omega)
          have hfr := OwnB.frozenAt hO k
          have hst := OwnB.stored hO k (UInt8.ofNat k)
          have hbv : byteV (UInt8.ofNat k) = .int .u8 ((k : Int) % 256) := by
            unfold byteV
            congr 1
          rw [hbv] at hst
          have HST := Lib.hid hst
          clear hst
          go_wp2_with fail
          go_roundw
          case rel => exact ⟨k + 97, _, by go_num, by rw [List.length_set]; exact hL, by omega, HST.out.1, hbel.setCell hB1 _⟩
          case measure => simp [intOf]; omega
        · have hconv := conv_str hO.bytes
          have hbox := hbel.alloc hbel.size (.cells #[.int .i64 3, .int .i64 2, .string ⟨#[49]⟩, .string ⟨L.toArray⟩] 23)
          have hS0 := snapS_box wr ⟨3, 2, ⟨#[49]⟩, ⟨L.toArray⟩⟩ 23
          have c0 := hS0.c0
          have c1 := hS0.c1
          have c2 := hS0.c2
          have c3 := hS0.c3
          dsimp only at c0 c1 c2 c3
          have hsz : (⟨L.toArray⟩ : ByteArray).size = N := by rw [← size_data]; simpa using hL
          clear hO
          go_wp2_with fail
          refine (wal_putSnap ⟨3, 2, ⟨#[49]⟩, ⟨L.toArray⟩⟩ _).mono ?_
          rintro e w5 ⟨v5, rfl, ho5, hb5⟩
          have hbw5 := hbox.trans (hb5.mono hbox.size)
          have hS5 := hS0.below hb5
          clear hbox hb5 hS0 c0 c1 c2 c3 hconv
          by_cases hbig : 200000 < (N : Int)
          · have t2 : decide (200000 < (N : Int)) = true := decide_eq_true hbig
            have hput : putS ⟨3, 2, ⟨#[49]⟩, ⟨L.toArray⟩⟩ = [] := by
              unfold putS
              rw [if_neg]
              intro h
              have := (mayS_iff.1 h).2.2.2.2.2
              simp only [hsz] at this
              omega
            rw [hput] at ho5
            obtain ⟨a5, c5, rfl⟩ := ho5.len
            go_wp2_with fail
            go_ret
            exact ⟨rfl, hbw5⟩
          · have t2 : decide (200000 < (N : Int)) = false := decide_eq_false hbig
            have hmay : mayS ⟨3, 2, ⟨#[49]⟩, ⟨L.toArray⟩⟩ = true := mayS_iff.2 ⟨by simp, by simp, by simp, by simp, by show (1 : Nat) ≤ 50; decide, by simp only [hsz]; omega⟩
            have hget := getS_put [] hmay
            rw [List.append_nil] at hget
            have hpl := putS_len (s := ⟨3, 2, ⟨#[49]⟩, ⟨L.toArray⟩⟩)
            generalize putS ⟨3, 2, ⟨#[49]⟩, ⟨L.toArray⟩⟩ = E at *
            obtain ⟨a5, c5, rfl⟩ := ho5.len
            have HG := Lib.hid hget
            clear hget hmay
            go_wp2_with fail
            refine (wal_getSnap _ E _ ho5.bytes (by omega)).mono ?_
            rw [HG.out]
            rintro e w6 ⟨rfl, hb6⟩
            unfold getSV snpAgg
            dsimp only
            have hS6 := hS5.below hb6
            have hbw6 := hbw5.trans (hb6.mono hbw5.size)
            have hS7 := hS6.below ((Below.refl _ _).alloc (Nat.le_refl _) (.cells #[.int .i64 3, .int .i64 2, .string ⟨#[49]⟩, .string ⟨L.toArray⟩] 23))
            have c0 := hS7.c0
            have c1 := hS7.c1
            have c2 := hS7.c2
            have c3 := hS7.c3
            dsimp only at c0 c1 c2 c3
            clear hb6 hbw5 hS5 hS6 HG ho5
            go_wp2_with fail
            refine (eq_snap ⟨3, 2, ⟨#[49]⟩, ⟨L.toArray⟩⟩ _).mono ?_
            rintro e w7 ⟨rfl, hb7⟩
            have hbw7 := (hbw6.alloc hbw6.size (.cells #[.int .i64 3, .int .i64 2, .string ⟨#[49]⟩, .string ⟨L.toArray⟩] 23)).trans (hb7.mono (hbw6.alloc hbw6.size _).size)
            go_wp2_with fail
            go_ret
            exact ⟨rfl, hbw7⟩
/-! ### From the row to the walk -/
namespace walBigF
set_option linter.unusedVariables false
theorem own : ownKnob Try.prog.godebug = none := by kernel_rfl
theorem laidOut : laidOutB Try.prog = true := by kernel_rfl
set_option maxRecDepth 100000 in
theorem lifted (os : Os) (started : os.Started) (H : Type) (enc : TypeId × Value → H) :
    ReturnsInHanded {} Try.checked os 10 .any (Rows.walBigSpec.pre6 enc Try.prog Try.f10 Rows.walBigRow.domain false) (Rows.walBigSpec.post enc Try.prog Try.f10 false true false false) := by
  refine returnsInHanded_of_change (C := Try.checked) own started (by kernel_rfl) Try.func10
    (ChangeSpec.witness6 (enc := enc) (C := Try.checked) false ⟨#[], #[.int .i64 0], []⟩ 8 (by kernel_rfl) (by kernel_rfl) (by kernel_rfl) (by kernel_rfl)) ?_
  intro W base args ds gs before hval0 hW hcnd _
  have hval : ∀ (j : Nat) t v, Try.f10.params[j]? = some t → args[j]? = some v → Value.okWide Try.prog W .any base t v := hval0
  have hW' := hW
  obtain ⟨p, q, hA0, hV, rfl, hfz, hnd⟩ := hW
  have hA : DataW.TrodAll enc Try.prog W 0 (fun _ => true) true Try.f10.params.toList args.toList ds p := hA0
  rw [Try.params10] at hA hval
  obtain ⟨v0, vs0, d0, ds0, p0, q0, hargs, rfl, rfl, h0, r0⟩ := trodAll_cons hA
  obtain ⟨rfl, rfl, rfl⟩ := trodAll_nil r0
  obtain rfl : args = #[v0] := by cases args; simp_all
  obtain ⟨rfl, rfl⟩ := trodVars_none hV
  have k0 := h0
  have lt0 : ∀ x ∈ p0, x.block < W.heap.size := by obtain ⟨m, hm⟩ := k0; exact DataW.trod_lt m _ _ _ hm
  obtain ⟨a0, rfl, hd0, hp0, w0⟩ := open_int Try.underlying3 (hval 0 3 v0 rfl rfl) h0
  clear hA0 hval0
  refine (walBig_walk a0 W w0).mono fun e W' ⟨he, bel⟩ => ?_
  subst he
  exact ⟨_, rfl, _, _, _, [], _, [], hW', trodAll_mk1 (shut_bool Try.underlying4 _), (trodAll_cons_mk (Below.trod laidOut (by kernel_rfl) (of_decide_eq_true (by kernel_rfl)) k0 bel lt0) trodAll_mk0), rfl, bel.frame _, fun h => by cases h⟩
theorem over : Rows.walBigRow.holds Try.pinned (OpenSpec.ofChange Rows.walBigSpec) :=
  OpenClaim.holds_of_wide 10 Try.f10 rfl rfl rfl rfl rfl rfl rfl ⟨rfl, rfl, rfl, rfl, rfl⟩ rfl rfl rfl rfl rfl (by kernel_rfl) Try.func10 (by kernel_rfl)
    (of_decide_eq_true (by kernel_rfl)) (by unfold Func.isWrapper; first | (rw [if_pos (by decide +kernel)]; kernel_rfl) | (rw [if_neg (by decide +kernel)]; exact ⟨rfl, rfl⟩))
    (fun os started H enc _ => lifted os started H enc)
end walBigF
theorem walBig_holds : Rows.WalBigSaid := walBigF.over
#print axioms walBig_holds
end Go.Proofs.Ytihcohneongomaa
