/-
  Numbers of so many bytes, the last one any: num.Get tells of them what the document's Get tells; of any count and any two bytes. No condition.
-/
import Derived.Test.YtbjopmbemgpmaaaNumB
import Derived.Test.YtbjopmbemgpmaaaOpen
namespace Go.Proofs.Ytbjopmbemgpmaaa
open Go.ChangeShapes Go.WideShapes Go.ChangeAt Go.RowKit

theorem byte_of (x : Int) (h0 : 0 ≤ x) (h1 : x ≤ 255) : ∃ c : UInt8, Value.int .u8 x = byteV c :=
  ⟨UInt8.ofNat x.toNat, by simp only [byteV, UInt8.toNat_ofNat']; congr 1; omega⟩
theorem byte_or (x : Int) (h0 : 0 ≤ x) (h1 : x ≤ 255) : ∃ c : UInt8, Value.int .u8 (bits .or .u8 x 128) = byteV c := by
  obtain ⟨y, rfl⟩ := Int.eq_ofNat_of_zero_le h0
  rw [show (128 : Int) = ((128 : Nat) : Int) by rfl, u8_or_nat _ _ (by omega) (by omega)]
  have : y ||| 128 < 2 ^ 8 := Nat.or_lt_two_pow (by omega) (by omega)
  exact byte_of _ (by omega) (by omega)

set_option maxRecDepth 100000 in
theorem numLong_walk (n last fill : Int) (w : World) (wn : (Lit.int .i64 n).wf = true) (wl : (Lit.int .u8 last).wf = true) (wf : (Lit.int .u8 fill).wf = true) :
    Calls Try.prog 10 #[.int .i64 n, .int .u8 last, .int .u8 fill] w fun e w' => e = .returned (.bool true) ∧ Below w.heap.size w w' := by
  have wn := wf_i64 wn
  have wl := wf_u8 wl
  have wf := wf_u8 wf
  obtain ⟨c1, hc1⟩ := byte_or fill wf.1 wf.2
  obtain ⟨c2, hc2⟩ := byte_of last wl.1 wl.2
  have HC1 : Hid (#[Value.int .u8 (bits .or .u8 fill 128)] = ([c1].map byteV).toArray) := Lib.hid (by rw [hc1]; rfl)
  have HC2 : Hid (#[Value.int .u8 last] = ([c2].map byteV).toArray) := Lib.hid (by rw [hc2]; rfl)
  clear hc1 hc2
  go_enter Try.func10, Try.ntmps10
  go_wp2_with fail
  refine (num_begun _).mono ?_
  rintro e w1 ⟨rfl, hb⟩
  by_cases h0 : n < 0
  · go_wp2_with fail
    go_ret
    exact ⟨rfl, hb⟩
  · by_cases h1 : 14 < n
    · go_wp2_with fail
      go_ret
      exact ⟨rfl, hb⟩
    · obtain ⟨m, rfl⟩ := Int.eq_ofNat_of_zero_le (show 0 ≤ n by omega)
      have hm : m ≤ 14 := by omega
      go_wp2_with fail
      go_loopw [8, 9] (fun s i wr => ∃ (k : Nat) (L : List UInt8), k ≤ m ∧ i = .int .i64 k ∧ L.length = k ∧ OwnB wr w1.heap.size 5 s L ∧ Below w1.heap.size w1 wr) (fun _ i _ => m - (intOf i).toNat)
      case atStart => exact ⟨0, [], by omega, rfl, rfl, OwnB.nil _ _ _, Below.refl _ _⟩
      case round =>
        obtain ⟨k, L, hk, rfl, hL, hown, hbel⟩ := hrel
        have HL := Lib.hid hL
        have hL14 : L.length ≤ 14 := by omega
        clear hL
        have hsz := hbel.size
        by_cases hlt : k < m
        · go_wp2_with (at_builtin; refine wpList_append_bytes 24 w1.heap.size 5 Try.underlying24 info8 rfl _ _ rfl (hown.alloc _) (Bytes.fresh wr [c1] _ (0, 0) _ 1 rfl HC1.out (by simp)) rfl rfl (by simp; omega) (by simp; omega) ?_)
          intro v2 w2 ho2 hg2 hk2
          have hb2 : Below w1.heap.size w1 w2 := (hbel.alloc hsz _).grown hg2 (by simp; omega) (fun x hx => (hown.lt x hx).1)
          clear hk2 hg2 hown
          go_wp2_with fail
          go_roundw
          case rel => exact ⟨k + 1, L ++ [c1], by omega, by go_num, by simp [HL.out], ho2, hb2⟩
          case measure => simp [intOf]; omega
        · go_wp2_with (at_builtin; refine wpList_append_bytes 24 w1.heap.size 5 Try.underlying24 info8 rfl _ _ rfl (hown.alloc _) (Bytes.fresh wr [c2] _ (0, 0) _ 1 rfl HC2.out (by simp)) rfl rfl (by simp; omega) (by simp; omega) ?_)
          intro v2 w2 ho2 hg2 hk2
          have hb2 : Below w1.heap.size w1 w2 := (hbel.alloc hsz _).grown hg2 (by simp; omega) (fun x hx => (hown.lt x hx).1)
          clear hk2 hg2 hown
          go_wp2_with fail
          refine (num_get _ _ _ ho2.bytes).mono ?_
          rintro e w3 ⟨rfl, rfl⟩
          unfold getV
          go_wp2_with fail
          refine (ref_get _ _ _ ho2.bytes).mono ?_
          rintro e w3 ⟨rfl, rfl⟩
          unfold getV
          go_wp2_with fail
          go_ret
          exact ⟨rfl, hb.trans (hb2.mono hb.size)⟩
/-! ### From the row to the walk -/
namespace numLongF
set_option linter.unusedVariables false
theorem own : ownKnob Try.prog.godebug = none := by kernel_rfl
theorem laidOut : laidOutB Try.prog = true := by kernel_rfl
set_option maxRecDepth 100000 in
theorem lifted (os : Os) (started : os.Started) (H : Type) (enc : TypeId × Value → H) :
    ReturnsInHanded {} Try.checked os 10 .any (Rows.numLongSpec.pre6 enc Try.prog Try.f10 Rows.numLongRow.domain false) (Rows.numLongSpec.post enc Try.prog Try.f10 false true false false) := by
  refine returnsInHanded_of_change (C := Try.checked) own started (by kernel_rfl) Try.func10
    (ChangeSpec.witness6 (enc := enc) (C := Try.checked) false ⟨#[], #[.int .i64 0, .int .u8 0, .int .u8 0], []⟩ 8 (by kernel_rfl) (by kernel_rfl) (by kernel_rfl) (by kernel_rfl)) ?_
  intro W base args ds gs before hval0 hW hcnd _
  have hval : ∀ (j : Nat) t v, Try.f10.params[j]? = some t → args[j]? = some v → Value.okWide Try.prog W .any base t v := hval0
  have hW' := hW
  obtain ⟨p, q, hA0, hV, rfl, hfz, hnd⟩ := hW
  have hA : DataW.TrodAll enc Try.prog W 0 (fun _ => true) true Try.f10.params.toList args.toList ds p := hA0
  rw [Try.params10] at hA hval
  obtain ⟨v0, vs0, d0, ds0, p0, q0, hargs, rfl, rfl, h0, r0⟩ := trodAll_cons hA
  obtain ⟨v1, vs1, d1, ds1, p1, q1, rfl, rfl, rfl, h1, r1⟩ := trodAll_cons r0
  obtain ⟨v2, vs2, d2, ds2, p2, q2, rfl, rfl, rfl, h2, r2⟩ := trodAll_cons r1
  obtain ⟨rfl, rfl, rfl⟩ := trodAll_nil r2
  obtain rfl : args = #[v0, v1, v2] := by cases args; simp_all
  obtain ⟨rfl, rfl⟩ := trodVars_none hV
  have k0 := h0
  have lt0 : ∀ x ∈ p0, x.block < W.heap.size := by obtain ⟨m, hm⟩ := k0; exact DataW.trod_lt m _ _ _ hm
  obtain ⟨a0, rfl, hd0, hp0, w0⟩ := open_int Try.underlying3 (hval 0 3 v0 rfl rfl) h0
  have k1 := h1
  have lt1 : ∀ x ∈ p1, x.block < W.heap.size := by obtain ⟨m, hm⟩ := k1; exact DataW.trod_lt m _ _ _ hm
  obtain ⟨a1, rfl, hd1, hp1, w1⟩ := open_int Try.underlying5 (hval 1 5 v1 rfl rfl) h1
  have k2 := h2
  have lt2 : ∀ x ∈ p2, x.block < W.heap.size := by obtain ⟨m, hm⟩ := k2; exact DataW.trod_lt m _ _ _ hm
  obtain ⟨a2, rfl, hd2, hp2, w2⟩ := open_int Try.underlying5 (hval 2 5 v2 rfl rfl) h2
  clear hA0 hval0
  refine (numLong_walk a0 a1 a2 W w0 w1 w2).mono fun e W' ⟨he, bel⟩ => ?_
  subst he
  exact ⟨_, rfl, _, _, _, [], _, [], hW', trodAll_mk1 (shut_bool Try.underlying4 _), (trodAll_cons_mk (Below.trod laidOut (by kernel_rfl) (of_decide_eq_true (by kernel_rfl)) k0 bel lt0) (trodAll_cons_mk (Below.trod laidOut (by kernel_rfl) (of_decide_eq_true (by kernel_rfl)) k1 bel lt1) (trodAll_cons_mk (Below.trod laidOut (by kernel_rfl) (of_decide_eq_true (by kernel_rfl)) k2 bel lt2) trodAll_mk0))), rfl, bel.frame _, fun h => by cases h⟩
theorem over : Rows.numLongRow.holds Try.pinned (OpenSpec.ofChange Rows.numLongSpec) :=
  OpenClaim.holds_of_wide 10 Try.f10 rfl rfl rfl rfl rfl rfl rfl ⟨rfl, rfl, rfl, rfl, rfl⟩ rfl rfl rfl rfl rfl (by kernel_rfl) Try.func10 (by kernel_rfl)
    (of_decide_eq_true (by kernel_rfl)) (by unfold Func.isWrapper; first | (rw [if_pos (by decide +kernel)]; kernel_rfl) | (rw [if_neg (by decide +kernel)]; exact ⟨rfl, rfl⟩))
    (fun os started H enc _ => lifted os started H enc)
end numLongF
theorem numLong_holds : Rows.NumLongSaid := numLongF.over
#print axioms numLong_holds
end Go.Proofs.Ytbjopmbemgpmaaa
