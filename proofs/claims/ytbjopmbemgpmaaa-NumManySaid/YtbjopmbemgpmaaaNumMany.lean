/-
  Many numbers behind one another go to their bytes and back, one behind the other, and nothing is left; of any slice. No condition.
-/
import Derived.Test.YtbjopmbemgpmaaaNumB
import Derived.Test.YtbjopmbemgpmaaaOpen
import Derived.Deep.DeepCutAuto
import Derived.Deep.Cut
import Derived.Deep.QuietTactic
import Derived.WalkSmall
namespace Go.Proofs.Ytbjopmbemgpmaaa
open Go.ChangeShapes Go.WideShapes Go.ChangeAt Go.RowKit

def encN (L : List Int) : List UInt8 := L.flatMap putN
theorem encN_len (L : List Int) : (encN L).length ≤ 10 * L.length := by
  induction L with
  | nil => simp [encN]
  | cons x L ih =>
    have := (putN_len x).2
    simp only [encN, List.flatMap_cons, List.length_append, List.length_cons] at ih ⊢
    omega
theorem encN_snoc (L : List Int) (k : Nat) (h : k < L.length) : encN (L.take k) ++ putN L[k] = encN (L.take (k + 1)) := by
  have : L.take (k + 1) = L.take k ++ [L[k]] := by simp
  rw [this]
  simp only [encN, List.flatMap_append, List.flatMap_cons, List.flatMap_nil, List.append_nil]
theorem encN_drop (L : List Int) (k : Nat) (h : k < L.length) : encN (L.drop k) = putN L[k] ++ encN (L.drop (k + 1)) := by
  have : L.drop k = L[k] :: L.drop (k + 1) := List.drop_eq_getElem_cons h
  rw [this]
  simp only [encN, List.flatMap_cons]

set_option maxRecDepth 100000 in
set_option maxHeartbeats 4000000 in
theorem numMany_walk (v0 : Value) (l0 : List Int) (w : World) (w0 : Ints .i64 w v0 l0) :
    Calls Try.prog 11 #[v0] w fun e w' => e = .returned (.bool true) ∧ Below w.heap.size w w' := by
  obtain ⟨hr0, hw0⟩ := w0
  have hw0 := Lib.hid hw0
  go_enter Try.func11, Try.ntmps11
  go_wp2_with fail
  refine (num_begun _).mono ?_
  rintro e w2 ⟨rfl, hb⟩
  have hr0 := hr0.below hb rfl
  obtain ⟨a, cap, rfl, hcap, hcm, hc⟩ := hr0
  go_upto_if 15 with fail
  go_cut [0] (fun s wx => ∃ L : List Int, Reads w2 s (L.map (Value.int .i64)) ∧ L.length ≤ 40 ∧ Hid (∀ n ∈ L, (Lit.int .i64 n).wf = true) ∧ wx = w2)
  case first =>
    have hR : Reads w2 (.slice a l0.length cap) (l0.map (Value.int .i64)) := ⟨a, cap, by rw [List.length_map], hcap, hcm, hc⟩
    rw [List.length_map] at hcap
    go_wp2
    · go_meet
      exact ⟨l0.take 40, by rw [List.map_take]; exact hR.take 40 (by rw [List.length_map]; omega), by simp; omega, Lib.hid fun n hn => hw0.out n (List.mem_of_mem_take hn), rfl⟩
    · go_meet
      exact ⟨l0, hR, by omega, hw0, rfl⟩
  case rest =>
    obtain ⟨L, hL, hl, hw, rfl⟩ := hcut
    clear hc hcap hcm hw0 hr0
    have hLb := hL
    obtain ⟨a, cap, rfl, hcap, hcm, hc⟩ := hL
    rw [List.length_map] at hcap hLb
    have hcl : Hid (∀ k (h : k < L.length), ∃ b off, a = some ⟨b, off, none⟩ ∧ b < wc.heap.size ∧ wc.cell? ⟨b, off + k, none⟩ = some (.int .i64 L[k])) := Lib.hid (by
      intro k h
      obtain ⟨b, off, rfl, hcell⟩ := hc (by intro e; rw [List.map_eq_nil_iff] at e; subst e; simp at h)
      have := hcell k (by rw [List.length_map]; exact h)
      rw [List.getElem_map] at this
      exact ⟨b, off, rfl, World.block_lt_of_cell? wc _ this, this⟩)
    clear hc hLb
    rw [List.length_map]
    go_wp2_with fail
    go_loopw [4, 5] (fun s i wr => ∃ k : Nat, k ≤ L.length ∧ i = .int .i64 k ∧ OwnB wr wc.heap.size 5 s (encN (L.take k)) ∧ Below wc.heap.size wc wr) (fun _ i _ => L.length - (intOf i).toNat)
    case atStart => exact ⟨0, by omega, rfl, OwnB.nil _ _ _, Below.refl _ _⟩
    case round =>
      obtain ⟨k, hk, rfl, hown, hbel⟩ := hrel
      by_cases hlt : k < L.length
      · obtain ⟨b, off, rfl, hbl, hcj⟩ := hcl.out k hlt
        rw [← hbel.cell (p := ⟨b, off + k, none⟩) hbl] at hcj
        have hx := wf_i64 (hw.out _ (List.getElem_mem hlt))
        have hlen := encN_len (L.take k)
        rw [List.length_take] at hlen
        have hsn := Lib.hid (encN_snoc L k hlt)
        generalize encN (L.take k) = E at hown hsn hlen
        generalize L[k]'hlt = x at hcj hx hsn
        go_wp2_with fail
        refine (num_put _ E x wc.heap.size wr hx.1 hx.2 (by omega) hbel.size hown).mono ?_
        rintro e w3 ⟨v3, rfl, ho3, hg3, hk3⟩
        have hb3 : Below wc.heap.size wc w3 := hbel.grown hg3 hbel.size (fun k hk => (hown.lt k hk).1)
        clear hk3 hg3 hown hbel
        rw [hsn.out] at ho3
        go_wp2_with fail
        go_roundw
        case rel => exact ⟨k + 1, by omega, by go_num, ho3, hb3⟩
        case measure => simp [intOf]; omega
      · have hkl : k = L.length := by omega
        subst hkl
        rw [List.take_length] at hown
        have hbt := hown.bytes
        clear hown
        rename World => w4
        go_wp2_with fail
        go_loopw [4, 6] (fun s i wr => ∃ k : Nat, k ≤ L.length ∧ i = .int .i64 k ∧ Bytes wr s (encN (L.drop k)) ∧ Below wc.heap.size wc wr) (fun _ i _ => L.length - (intOf i).toNat)
        case atStart => exact ⟨0, by omega, rfl, hbt, hbel⟩
        case round =>
          obtain ⟨k, hk, rfl, hbk, hbel⟩ := hrel
          by_cases hlt : k < L.length
          · obtain ⟨b, off, rfl, hbl, hcj⟩ := hcl.out k hlt
            rw [← hbel.cell (p := ⟨b, off + k, none⟩) hbl] at hcj
            have hx := wf_i64 (hw.out _ (List.getElem_mem hlt))
            have hlen := encN_len (L.drop (k + 1))
            rw [List.length_drop] at hlen
            rw [encN_drop L k hlt] at hbk
            have hgen : Hid (∀ R, Hid (R = encN (L.drop (k + 1))) → R = encN (L.drop (k + 1))) := Lib.hid fun R h => h.out
            obtain ⟨R, hR⟩ : ∃ R, R = encN (L.drop (k + 1)) := ⟨_, rfl⟩
            have hRH := Lib.hid hR
            rw [← hR] at hbk hlen
            clear hR hgen
            generalize L[k]'hlt = x at hcj hx hbk
            go_wp2_with fail
            refine (num_get _ _ _ hbk).mono ?_
            rintro e w5 ⟨rfl, rfl⟩
            rw [getN_putN x R hx.1 hx.2]
            have hP := putN_len x
            have ⟨ab, cb, hvb, hcb, hcbm, _⟩ := hbk
            subst hvb
            have hsub := hbk.sub (putN x).length R.length (by rw [List.length_append]; omega)
            rw [List.drop_left, List.take_of_length_le (Nat.le_refl _)] at hsub
            unfold getV
            go_wp2_with fail
            refine ⟨⟨k + 1, by omega, by go_num, ?_, hbel⟩, by simp [intOf]; omega⟩
            rw [← hRH.out]
            exact hsub
          · have hkl : k = L.length := by omega
            subst hkl
            rw [List.drop_length] at hbk
            obtain ⟨ab, cb, rfl, -, -, -⟩ := hbk
            go_wp2_with fail
            go_ret
            exact ⟨rfl, hb.trans (hbel.mono hb.size)⟩
/-! ### From the row to the walk -/
namespace numManyF
set_option linter.unusedVariables false
theorem own : ownKnob Try.prog.godebug = none := by kernel_rfl
theorem laidOut : laidOutB Try.prog = true := by kernel_rfl
set_option maxRecDepth 100000 in
theorem lifted (os : Os) (started : os.Started) (H : Type) (enc : TypeId × Value → H) :
    ReturnsInHanded {} Try.checked os 11 .any (Rows.numManySpec.pre6 enc Try.prog Try.f11 Rows.numManyRow.domain false) (Rows.numManySpec.post enc Try.prog Try.f11 false true false false) := by
  refine returnsInHanded_of_change (C := Try.checked) own started (by kernel_rfl) Try.func11
    (ChangeSpec.witness6 (enc := enc) (C := Try.checked) false ⟨#[], #[.slice none 0 0], []⟩ 8 (by kernel_rfl) (by kernel_rfl) (by kernel_rfl) (by kernel_rfl)) ?_
  intro W base args ds gs before hval0 hW hcnd _
  have hval : ∀ (j : Nat) t v, Try.f11.params[j]? = some t → args[j]? = some v → Value.okWide Try.prog W .any base t v := hval0
  have hW' := hW
  obtain ⟨p, q, hA0, hV, rfl, hfz, hnd⟩ := hW
  have hA : DataW.TrodAll enc Try.prog W 0 (fun _ => true) true Try.f11.params.toList args.toList ds p := hA0
  rw [Try.params11] at hA hval
  obtain ⟨v0, vs0, d0, ds0, p0, q0, hargs, rfl, rfl, h0, r0⟩ := trodAll_cons hA
  obtain ⟨rfl, rfl, rfl⟩ := trodAll_nil r0
  obtain rfl : args = #[v0] := by cases args; simp_all
  obtain ⟨rfl, rfl⟩ := trodVars_none hV
  have k0 := h0
  have lt0 : ∀ x ∈ p0, x.block < W.heap.size := by obtain ⟨m, hm⟩ := k0; exact DataW.trod_lt m _ _ _ hm
  obtain ⟨l0, w0⟩ := open_intsR (k := .i64) Try.underlying48 Try.underlying2 (by kernel_rfl) (hval 0 48 v0 rfl rfl) h0
  clear hA0 hval0
  refine (numMany_walk v0 l0 W w0).mono fun e W' ⟨he, bel⟩ => ?_
  subst he
  exact ⟨_, rfl, _, _, _, [], _, [], hW', trodAll_mk1 (shut_bool Try.underlying4 _), (trodAll_cons_mk (Below.trod laidOut (by kernel_rfl) (of_decide_eq_true (by kernel_rfl)) k0 bel lt0) trodAll_mk0), rfl, bel.frame _, fun h => by cases h⟩
theorem over : Rows.numManyRow.holds Try.pinned (OpenSpec.ofChange Rows.numManySpec) :=
  OpenClaim.holds_of_wide 11 Try.f11 rfl rfl rfl rfl rfl rfl rfl ⟨rfl, rfl, rfl, rfl, rfl⟩ rfl rfl rfl rfl rfl (by kernel_rfl) Try.func11 (by kernel_rfl)
    (of_decide_eq_true (by kernel_rfl)) (by unfold Func.isWrapper; first | (rw [if_pos (by decide +kernel)]; kernel_rfl) | (rw [if_neg (by decide +kernel)]; exact ⟨rfl, rfl⟩))
    (fun os started H enc _ => lifted os started H enc)
end numManyF
theorem numMany_holds : Rows.NumManySaid := numManyF.over
#print axioms numMany_holds
end Go.Proofs.Ytbjopmbemgpmaaa
