/-
  A number or a text that is cut off anywhere is not all there: num.Get and num.GetText tell so; of any number, text and place. No condition.
-/
import Derived.Test.YtbjopmbemgpmaaaNumB
import Derived.Test.YtbjopmbemgpmaaaOpen
import Derived.Deep.DeepCutAuto
import Derived.Deep.Cut
namespace Go.Proofs.Ytbjopmbemgpmaaa
open Go.ChangeShapes Go.WideShapes Go.ChangeAt Go.RowKit

set_option maxRecDepth 100000 in
theorem numCut_walk (n : Int) (s : ByteArray) (cut : Int) (w : World) (wn : (Lit.int .i64 n).wf = true) (ws : s.size ≤ maxLen) (wc : (Lit.int .i64 cut).wf = true) :
    Calls Try.prog 12 #[.int .i64 n, .string s, .int .i64 cut] w fun e w' => e = .returned (.bool true) ∧ Below w.heap.size w w' := by
  have wn := wf_i64 wn
  have wc := wf_i64 wc
  unfold maxLen at ws
  go_enter Try.func12, Try.ntmps12
  go_wp2_with fail
  refine (num_begun _).mono ?_
  rintro e w1 ⟨rfl, hb⟩
  go_upto_if 21 with fail
  go_cut [1] (fun s1 wx => ∃ S : ByteArray, s1 = .string S ∧ S.size ≤ 100 ∧ wx = w1)
  case first =>
    by_cases h : 100 < s.size
    · go_wp2_with fail
      go_meet
      exact ⟨_, rfl, by rw [extract0, size_of_list]; simp; omega, rfl⟩
    · go_wp2_with fail
      go_meet
      exact ⟨_, rfl, by omega, rfl⟩
  case rest =>
    obtain ⟨S, rfl, hS, rfl⟩ := hcut
    go_wp2_with fail
    refine (num_put (.slice none 0 0) [] n wc.heap.size wc (by omega) (by omega) (by decide) (Nat.le_refl _) (OwnB.nil _ _ _)).mono ?_
    rintro e w2 ⟨v2, rfl, ho2, hg2, hk2⟩
    have hb2 := below_of_grown hg2
    clear hk2 hg2
    rw [List.nil_append] at ho2
    go_wp2_with fail
    refine (num_putText (.slice none 0 0) [] S w2.heap.size w2 (by simp; omega) (Nat.le_refl _) (OwnB.nil _ _ _)).mono ?_
    rintro e w3 ⟨v3, rfl, ho3, hg3, hk3⟩
    have hb3 := below_of_grown hg3
    clear hk3 hg3
    rw [List.nil_append] at ho3
    have hP := putN_len n
    have hT := putN_len S.size
    have hTl : (putT S.data.toList).length ≤ 200 := by
      unfold putT
      rw [List.length_append, size_data]
      omega
    have ho2 := ho2.below hb3
    have hb3 : Below w.heap.size w w3 := (hb.trans (hb2.mono hb.size)).trans (hb3.mono (by have := hb.size; have := hb2.size; omega))
    obtain ⟨a2, c2, rfl⟩ := ho2.len
    obtain ⟨a3, c3, rfl⟩ := ho3.len
    have hcp2 : (putN n).length ≤ c2 := by
      obtain ⟨_, _, hv, hle, _⟩ := ho2.bytes
      simp only [Value.slice.injEq] at hv
      omega
    have hcp3 : (putT S.data.toList).length ≤ c3 := by
      obtain ⟨_, _, hv, hle, _⟩ := ho3.bytes
      simp only [Value.slice.injEq] at hv
      omega
    by_cases h1 : cut < 1
    · go_wp2_with fail
      go_ret
      exact ⟨rfl, hb3⟩
    · by_cases h2 : cut ≤ ((putN n).length : Int)
      · have HT : Hid (getN ((putN n).take ((putN n).length - cut.toNat)) = (0, 0, 2)) := Lib.hid (getN_cut _ _ (by omega) (by omega) (by omega))
        have hB := ho2.bytes.take ((putN n).length - cut.toNat) (by omega)
        have he : ((putN n).length : Int) - cut = (((putN n).length - cut.toNat : Nat) : Int) := by omega
        have hle : (putN n).length - cut.toNat ≤ (putN n).length := by omega
        generalize (putN n).length - cut.toNat = p at *
        generalize putN n = N at *
        go_wp2_with fail
        refine (num_get _ _ _ hB).mono ?_
        rintro e w6 ⟨rfl, rfl⟩
        rw [HT.out]
        unfold getV
        clear hB he hle HT
        by_cases h3 : cut ≤ ((putT S.data.toList).length : Int)
        · have HT2 : Hid (getT ((putT S.data.toList).take ((putT S.data.toList).length - cut.toNat)) = ([], 0, 2)) := Lib.hid (getT_cut _ _ (by rw [size_data]; omega) (by omega))
          have hB2 := ho3.bytes.take ((putT S.data.toList).length - cut.toNat) (by omega)
          have he2 : ((putT S.data.toList).length : Int) - cut = (((putT S.data.toList).length - cut.toNat : Nat) : Int) := by omega
          have hle2 : (putT S.data.toList).length - cut.toNat ≤ (putT S.data.toList).length := by omega
          generalize (putT S.data.toList).length - cut.toNat = q at *
          generalize putT S.data.toList = T at *
          go_wp2_with fail
          refine (num_getText _ _ _ hB2).mono ?_
          rintro e w6 ⟨rfl, rfl⟩
          rw [HT2.out]
          unfold getTV
          go_wp2_with fail
          go_ret
          exact ⟨rfl, hb3⟩
        · go_wp2_with fail
          go_ret
          exact ⟨rfl, hb3⟩
      · generalize putN n = N at *
        by_cases h3 : cut ≤ ((putT S.data.toList).length : Int)
        · have HT2 : Hid (getT ((putT S.data.toList).take ((putT S.data.toList).length - cut.toNat)) = ([], 0, 2)) := Lib.hid (getT_cut _ _ (by rw [size_data]; omega) (by omega))
          have hB2 := ho3.bytes.take ((putT S.data.toList).length - cut.toNat) (by omega)
          have he2 : ((putT S.data.toList).length : Int) - cut = (((putT S.data.toList).length - cut.toNat : Nat) : Int) := by omega
          have hle2 : (putT S.data.toList).length - cut.toNat ≤ (putT S.data.toList).length := by omega
          generalize (putT S.data.toList).length - cut.toNat = q at *
          generalize putT S.data.toList = T at *
          go_wp2_with fail
          refine (num_getText _ _ _ hB2).mono ?_
          rintro e w6 ⟨rfl, rfl⟩
          rw [HT2.out]
          unfold getTV
          go_wp2_with fail
          go_ret
          exact ⟨rfl, hb3⟩
        · go_wp2_with fail
          go_ret
          exact ⟨rfl, hb3⟩
/-! ### From the row to the walk -/
namespace numCutF
set_option linter.unusedVariables false
theorem own : ownKnob Try.prog.godebug = none := by kernel_rfl
theorem laidOut : laidOutB Try.prog = true := by kernel_rfl
set_option maxRecDepth 100000 in
theorem lifted (os : Os) (started : os.Started) (H : Type) (enc : TypeId × Value → H) :
    ReturnsInHanded {} Try.checked os 12 .any (Rows.numCutSpec.pre6 enc Try.prog Try.f12 Rows.numCutRow.domain false) (Rows.numCutSpec.post enc Try.prog Try.f12 false true false false) := by
  refine returnsInHanded_of_change (C := Try.checked) own started (by kernel_rfl) Try.func12
    (ChangeSpec.witness6 (enc := enc) (C := Try.checked) false ⟨#[], #[.int .i64 0, .string .empty, .int .i64 0], []⟩ 8 (by kernel_rfl) (by kernel_rfl) (by kernel_rfl) (by kernel_rfl)) ?_
  intro W base args ds gs before hval0 hW hcnd _
  have hval : ∀ (j : Nat) t v, Try.f12.params[j]? = some t → args[j]? = some v → Value.okWide Try.prog W .any base t v := hval0
  have hW' := hW
  obtain ⟨p, q, hA0, hV, rfl, hfz, hnd⟩ := hW
  have hA : DataW.TrodAll enc Try.prog W 0 (fun _ => true) true Try.f12.params.toList args.toList ds p := hA0
  rw [Try.params12] at hA hval
  obtain ⟨v0, vs0, d0, ds0, p0, q0, hargs, rfl, rfl, h0, r0⟩ := trodAll_cons hA
  obtain ⟨v1, vs1, d1, ds1, p1, q1, rfl, rfl, rfl, h1, r1⟩ := trodAll_cons r0
  obtain ⟨v2, vs2, d2, ds2, p2, q2, rfl, rfl, rfl, h2, r2⟩ := trodAll_cons r1
  obtain ⟨rfl, rfl, rfl⟩ := trodAll_nil r2
  obtain rfl : args = #[v0, v1, v2] := by cases args; simp_all
  obtain ⟨rfl, rfl⟩ := trodVars_none hV
  have k0 := h0
  have lt0 : ∀ x ∈ p0, x.block < W.heap.size := by obtain ⟨m, hm⟩ := k0; exact DataW.trod_lt m _ _ _ hm
  obtain ⟨a0, rfl, hd0, hp0, w0⟩ := open_int Try.underlying2 (hval 0 2 v0 rfl rfl) h0
  have k1 := h1
  have lt1 : ∀ x ∈ p1, x.block < W.heap.size := by obtain ⟨m, hm⟩ := k1; exact DataW.trod_lt m _ _ _ hm
  obtain ⟨a1, rfl, hd1, hp1, w1⟩ := Go.ChangeMaps.open_string Try.underlying9 (hval 1 9 v1 rfl rfl) h1
  have k2 := h2
  have lt2 : ∀ x ∈ p2, x.block < W.heap.size := by obtain ⟨m, hm⟩ := k2; exact DataW.trod_lt m _ _ _ hm
  obtain ⟨a2, rfl, hd2, hp2, w2⟩ := open_int Try.underlying3 (hval 2 3 v2 rfl rfl) h2
  clear hA0 hval0
  refine (numCut_walk a0 a1 a2 W w0 w1 w2).mono fun e W' ⟨he, bel⟩ => ?_
  subst he
  exact ⟨_, rfl, _, _, _, [], _, [], hW', trodAll_mk1 (shut_bool Try.underlying4 _), (trodAll_cons_mk (Below.trod laidOut (by kernel_rfl) (of_decide_eq_true (by kernel_rfl)) k0 bel lt0) (trodAll_cons_mk (Below.trod laidOut (by kernel_rfl) (of_decide_eq_true (by kernel_rfl)) k1 bel lt1) (trodAll_cons_mk (Below.trod laidOut (by kernel_rfl) (of_decide_eq_true (by kernel_rfl)) k2 bel lt2) trodAll_mk0))), rfl, bel.frame _, fun h => by cases h⟩
theorem over : Rows.numCutRow.holds Try.pinned (OpenSpec.ofChange Rows.numCutSpec) :=
  OpenClaim.holds_of_wide 12 Try.f12 rfl rfl rfl rfl rfl rfl rfl ⟨rfl, rfl, rfl, rfl, rfl⟩ rfl rfl rfl rfl rfl (by kernel_rfl) Try.func12 (by kernel_rfl)
    (of_decide_eq_true (by kernel_rfl)) (by unfold Func.isWrapper; first | (rw [if_pos (by decide +kernel)]; kernel_rfl) | (rw [if_neg (by decide +kernel)]; exact ⟨rfl, rfl⟩))
    (fun os started H enc _ => lifted os started H enc)
end numCutF
theorem numCut_holds : Rows.NumCutSaid := numCutF.over
#print axioms numCut_holds
end Go.Proofs.Ytbjopmbemgpmaaa
