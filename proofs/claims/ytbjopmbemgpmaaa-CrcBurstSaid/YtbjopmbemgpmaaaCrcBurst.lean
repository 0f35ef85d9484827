/-
  Up to four bytes behind one another that were changed change the sum: crc.Sum of the text and of the changed one differ; of any slices and any place. No condition.
-/
import Derived.Test.YtbjopmbemgpmaaaCrc
import Derived.Test.YtbjopmbemgpmaaaOpen
import Derived.RegionTactic
import Derived.BigRegion
import Derived.ChangeAlike
import Derived.Deep.DeepCutAuto
import Derived.Deep.Cut
import Derived.WalkSmall
namespace Go.Proofs.Ytbjopmbemgpmaaa
open Go.ChangeShapes Go.WideShapes Go.ChangeAt Go.RowKit

/-- Is some byte not nought? -/
def someB (l : List UInt8) : Bool := l.any (· != 0)

theorem someB_snoc (l : List UInt8) (k : Nat) (h : k < l.length) : someB (l.take (k + 1)) = (someB (l.take k) || l[k] != 0) := by
  unfold someB
  rw [List.take_succ_eq_append_getElem h, List.any_append]
  simp

/-- The text with the first k of the bytes x laid over it from 'p' on. -/
def overX (l x : List UInt8) (p k : Nat) : List UInt8 := l.mapIdx fun i c => if p ≤ i ∧ i < p + k then c ^^^ x.getD (i - p) 0 else c

theorem overX_len (l x : List UInt8) (p k : Nat) : (overX l x p k).length = l.length := by simp [overX]
theorem overX_at (l x : List UInt8) (p k i : Nat) (h : i < (overX l x p k).length) : (overX l x p k)[i] = if p ≤ i ∧ i < p + k then l[i]'(by rw [overX_len] at h; exact h) ^^^ x.getD (i - p) 0 else l[i]'(by rw [overX_len] at h; exact h) := by simp [overX]
theorem overX_zero (l x : List UInt8) (p : Nat) : overX l x p 0 = l := by
  apply List.ext_getElem (overX_len ..)
  intro i h1 h2
  rw [overX_at, if_neg (by omega)]
theorem overX_get (l x : List UInt8) (p k : Nat) (h : p + k < (overX l x p k).length) : (overX l x p k)[p + k] = l[p + k]'(by rw [overX_len] at h; exact h) := by
  rw [overX_at, if_neg (by omega)]
theorem overX_step (l x : List UInt8) (p k : Nat) (hp : p + x.length ≤ l.length) (hk : k < x.length) : (overX l x p k).set (p + k) (l[p + k] ^^^ x[k]) = overX l x p (k + 1) := by
  apply List.ext_getElem
  · rw [List.length_set, overX_len, overX_len]
  · intro i h1 h2
    rw [List.getElem_set, overX_at l x p (k + 1)]
    by_cases hk' : p + k = i
    · subst hk'
      rw [if_pos rfl, if_pos (by omega)]
      simp [List.getD, hk]
    · rw [if_neg hk', overX_at]
      by_cases c : p ≤ i ∧ i < p + k
      · rw [if_pos c, if_pos (by omega)]
      · rw [if_neg c, if_neg (by omega)]

theorem overX_burst (l x : List UInt8) (p : Nat) (hp : p + x.length ≤ l.length) (h4 : x.length ≤ 4) (hs : someB x = true) : crcSum l ≠ crcSum (overX l x p x.length) := by
  have parts : ∀ m : List UInt8, m = m.take p ++ (m.drop p).take x.length ++ m.drop (p + x.length) := fun m => by
    rw [List.append_assoc, ← List.drop_drop, List.take_append_drop, List.take_append_drop]
  have e1 : (overX l x p x.length).take p = l.take p := by
    apply List.ext_getElem
    · simp [overX_len]
    · intro i h1 h2
      simp at h1
      rw [List.getElem_take, List.getElem_take, overX_at, if_neg (by omega)]
  have e2 : (overX l x p x.length).drop (p + x.length) = l.drop (p + x.length) := by
    apply List.ext_getElem
    · simp [overX_len]
    · intro i h1 h2
      rw [List.getElem_drop, List.getElem_drop, overX_at, if_neg (by omega)]
  have h := crcSum_burst (l.take p) ((l.drop p).take x.length) (((overX l x p x.length).drop p).take x.length) (l.drop (p + x.length)) (by simp [overX_len]) (by simp; omega) (by
    intro hh
    unfold someB at hs
    rw [List.any_eq_true] at hs
    obtain ⟨c, hc, hc0⟩ := hs
    obtain ⟨i, hi, rfl⟩ := List.mem_iff_getElem.1 hc
    have hh2 : ((l.drop p).take x.length)[i]'(by simp; omega) = (((overX l x p x.length).drop p).take x.length)[i]'(by simp [overX_len]; omega) := by
      simp only [← hh]
    rw [List.getElem_take, List.getElem_take, List.getElem_drop, List.getElem_drop, overX_at, if_pos (by omega)] at hh2
    have h3 : l[p + i] ^^^ l[p + i] = l[p + i] ^^^ (l[p + i] ^^^ x.getD (p + i - p) 0) := by rw [← hh2]
    rw [← UInt8.xor_assoc, UInt8.xor_self, UInt8.zero_xor] at h3
    simp [List.getD, hi] at h3
    simp [← h3] at hc0)
  rw [← e1, ← e2, ← parts, e1, e2, ← parts] at h
  exact h

theorem crcBurst_walk (v0 : Value) (l0 : List UInt8) (p : Int) (v2 : Value) (l2 : List UInt8) (w : World) (w0 : Bytes w v0 l0) (hp : (Lit.int .i64 p).wf = true) (w2 : Bytes w v2 l2) :
    Calls Try.prog 5 #[v0, .int .i64 p, v2] w fun e w' => e = .returned (.bool true) ∧ Below w.heap.size w w' := by
  have hp := wf_i64 hp
  go_enter Try.func5, Try.ntmps5
  go_wp2_with fail
  refine (crc_begun _).mono ?_
  rintro e wa ⟨rfl, hb⟩
  have w0 := w0.below hb rfl
  have w2 := w2.below hb rfl
  go_wp2_with fail
  refine (short_any _ _ 200 _ (by omega) w0).mono ?_
  rintro e w' ⟨v0', rfl, hv0, rfl⟩
  go_wp2_with fail
  refine (short_any _ _ 4 _ (by omega) w2).mono ?_
  rintro e w'' ⟨v2', rfl, hv2, rfl⟩
  clear w0 w2
  have hA : (l0.take 200).length ≤ 200 := by simp; omega
  have hB : (l2.take 4).length ≤ 4 := by simp; omega
  generalize l0.take 200 = A at *
  generalize l2.take 4 = X at *
  have hv2b := hv2
  obtain ⟨a, cap, rfl, hcap, hcm, hc⟩ := hv2
  have hA0 := hv0
  obtain ⟨a0, c0, rfl, hcap0, hcm0, hc0⟩ := hv0
  go_wp2_with fail
  go_loopw [8, 9] (fun s i wr => ∃ k : Nat, k ≤ X.length ∧ i = .int .i64 k ∧ s = .bool (someB (X.take k)) ∧ Below w''.heap.size w'' wr) (fun _ i _ => X.length - (intOf i).toNat)
  case atStart => exact ⟨0, Nat.zero_le _, rfl, by rfl, Below.refl _ _⟩
  case round =>
    obtain ⟨k, hk, rfl, rfl, hbel⟩ := hrel
    by_cases hlt : k < X.length
    · obtain ⟨b, off, rfl, hcell⟩ := hc (by intro h; simp [h] at hlt)
      have hck := hcell k hlt
      rw [← hbel.cell (World.block_lt_of_cell? _ _ hck)] at hck
      have hs := Lib.hid (someB_snoc X k hlt)
      have hx0 : (X[k] != 0) = !((X[k].toNat : Int) == 0) := by
        rw [Bool.eq_iff_iff]
        simp [← UInt8.toNat_inj]
      have hx0 := Lib.hid hx0
      clear hcell
      generalize X[k] = c at *
      clear hc hc0
      generalize someB (X.take k) = sb at *
      cases sb with
      | true =>
        go_wp2_with fail
        go_roundw
        case rel => exact ⟨k + 1, by omega, by go_num, by rw [hs.out]; rfl, by first | exact below_drewN hbel _ | exact hbel⟩
        case measure => simp [intOf]; omega
      | false =>
        go_wp2_with fail
        go_roundw
        case rel => exact ⟨k + 1, by omega, by go_num, by rw [hs.out, hx0.out]; rfl, by first | exact below_drewN hbel _ | exact hbel⟩
        case measure => simp [intOf]; omega
    · have hke : k = X.length := by omega
      subst hke
      rw [List.take_length]
      by_cases hp0 : p < 0
      · go_wp2_with fail
        go_ret
        exact ⟨rfl, hb.trans (hbel.mono hb.size)⟩
      · by_cases hp1 : (A.length : Int) - X.length < p
        · go_wp2_with fail
          go_ret
          exact ⟨rfl, hb.trans (hbel.mono hb.size)⟩
        · cases hsb : someB X with
          | false =>
            go_wp2_with fail
            go_ret
            exact ⟨rfl, hb.trans (hbel.mono hb.size)⟩
          | true =>
            obtain ⟨q, rfl⟩ := Int.eq_ofNat_of_zero_le (show 0 ≤ p by omega)
            have hq : q + X.length ≤ A.length := by omega
            have HB := Lib.hid (overX_burst A X q hq hB hsb)
            have hsb := Lib.hid hsb
            obtain ⟨wo, rfl⟩ : ∃ wo : World, wo = wr := ⟨_, rfl⟩
            go_wp2_with (at_builtin; refine wpList_append_bytes 24 wo.heap.size 5 Try.underlying24 info_u8 rfl _ _ rfl (OwnB.nil _ _ _) (hA0.below hbel rfl) rfl rfl (by simp; omega) (Nat.le_refl _) ?_)
            intro v3 w3 ho3 hg3 _
            have hb3 := below_of_grown hg3
            have hb3 : Below w''.heap.size w'' w3 := hbel.trans (hb3.mono hbel.size)
            have hX : X ≠ [] := by
              intro e
              have := hsb.out
              rw [e] at this
              exact Bool.noConfusion this
            have hA' : A ≠ [] := by
              intro e
              have : X.length ≠ 0 := by intro h; exact hX (List.eq_nil_of_length_eq_zero h)
              have h0 : A.length = 0 := by rw [e]; rfl
              omega
            obtain ⟨g, cp, rfl, hg, hgl, hcp⟩ := ho3.shape hA'
            obtain ⟨b, off, rfl, hcell⟩ := hc hX
            have hcell := Lib.hid hcell
            have hX := Lib.hid hX
            clear hc hc0 hg3
            go_wp2_with fail
            go_loopw [11] (fun i w5 => ∃ k : Nat, k ≤ X.length ∧ i = .int .i64 k ∧ OwnB w5 wo.heap.size 5 (.slice (some ⟨g, 0, none⟩) A.length cp) (overX A X q k) ∧ Below w''.heap.size w'' w5) (fun i _ => X.length - (intOf i).toNat)
            case atStart => exact ⟨0, Nat.zero_le _, rfl, by rw [overX_zero]; exact ho3, hb3⟩
            case round =>
              obtain ⟨k, hk, rfl, hown, hbw⟩ := hrel
              by_cases hlt : k < X.length
              · have e0 := hcell.out k hlt
                rw [← hbw.cell (World.block_lt_of_cell? _ _ e0)] at e0
                have eg := hown.cellAt (q + k) (by rw [overX_len]; omega)
                rw [overX_get] at eg
                have ef := hown.frozenAt (q + k)
                have x0 := (A[q + k]'(by omega)).toNat_lt
                have x1 := (X[k]'(by omega)).toNat_lt
                have HS := Lib.hid (overX_step A X q k hq hlt)
                generalize A[q + k]'(by omega) = y0 at *
                generalize X[k] = y1 at *
                have hown := Lib.hid hown
                go_wp2_with fail
                go_region
                go_wp2
                go_roundw
                case rel =>
                  have hst := OwnB.stored hown.out (q + k) (y0 ^^^ y1)
                  rw [HS.out] at hst
                  have hv : byteV (y0 ^^^ y1) = .int .u8 (bits .xor .u8 (y0.toNat : Int) (y1.toNat : Int)) := by
                    unfold byteV
                    rw [u8_xor_nat _ _ x0 x1, UInt8.toNat_xor]
                  rw [hv] at hst
                  exact ⟨k + 1, by omega, by go_num, hst.1.drew, (hbw.setCell (by have := hbel.size; show _ ≤ g; omega) _).drew⟩
                case measure => simp [intOf]; omega
              · have hke : k = X.length := by omega
                subst hke
                have hres : Below w.heap.size w wr := hb.trans (hbw.mono hb.size)
                have B0 := hA0.below hbw rfl
                have B1 := hown.bytes
                clear hown
                generalize overX A X q X.length = Y at *
                go_wp2_with fail
                refine (crc_sum _ _ _ B0).mono ?_
                rintro e w6 ⟨rfl, rfl⟩
                go_wp2_with fail
                refine (crc_sum _ _ _ B1).mono ?_
                rintro e w6 ⟨rfl, rfl⟩
                go_wp2_with fail
                go_ret
                have hx : ((crcSum A : Int) != (crcSum Y : Int)) = true := by
                  rw [bne_iff_ne]
                  intro h
                  exact HB.out (by omega)
                exact ⟨congrArg (fun b => Ending.returned (Value.bool b)) hx, hres⟩
/-! ### From the row to the walk -/
namespace crcBurstF
set_option linter.unusedVariables false
theorem own : ownKnob Try.prog.godebug = none := by kernel_rfl
theorem laidOut : laidOutB Try.prog = true := by kernel_rfl
set_option maxRecDepth 100000 in
theorem lifted (os : Os) (started : os.Started) (H : Type) (enc : TypeId × Value → H) :
    ReturnsInHanded {} Try.checked os 5 .any (Rows.crcBurstSpec.pre6 enc Try.prog Try.f5 Rows.crcBurstRow.domain false) (Rows.crcBurstSpec.post enc Try.prog Try.f5 false true false false) := by
  refine returnsInHanded_of_change (C := Try.checked) own started (by kernel_rfl) Try.func5
    (ChangeSpec.witness6 (enc := enc) (C := Try.checked) false ⟨#[], #[.slice none 0 0, .int .i64 0, .slice none 0 0], []⟩ 8 (by kernel_rfl) (by kernel_rfl) (by kernel_rfl) (by kernel_rfl)) ?_
  intro W base args ds gs before hval0 hW hcnd _
  have hval : ∀ (j : Nat) t v, Try.f5.params[j]? = some t → args[j]? = some v → Value.okWide Try.prog W .any base t v := hval0
  have hW' := hW
  obtain ⟨p, q, hA0, hV, rfl, hfz, hnd⟩ := hW
  have hA : DataW.TrodAll enc Try.prog W 0 (fun _ => true) true Try.f5.params.toList args.toList ds p := hA0
  rw [Try.params5] at hA hval
  obtain ⟨v0, vs0, d0, ds0, p0, q0, hargs, rfl, rfl, h0, r0⟩ := trodAll_cons hA
  obtain ⟨v1, vs1, d1, ds1, p1, q1, rfl, rfl, rfl, h1, r1⟩ := trodAll_cons r0
  obtain ⟨v2, vs2, d2, ds2, p2, q2, rfl, rfl, rfl, h2, r2⟩ := trodAll_cons r1
  obtain ⟨rfl, rfl, rfl⟩ := trodAll_nil r2
  obtain rfl : args = #[v0, v1, v2] := by cases args; simp_all
  obtain ⟨rfl, rfl⟩ := trodVars_none hV
  have k0 := h0
  have lt0 : ∀ x ∈ p0, x.block < W.heap.size := by obtain ⟨m, hm⟩ := k0; exact DataW.trod_lt m _ _ _ hm
  obtain ⟨l0, w0⟩ := open_bytes Try.underlying24 Try.underlying5 (by kernel_rfl) (hval 0 24 v0 rfl rfl) h0
  have k1 := h1
  have lt1 : ∀ x ∈ p1, x.block < W.heap.size := by obtain ⟨m, hm⟩ := k1; exact DataW.trod_lt m _ _ _ hm
  obtain ⟨a1, rfl, hd1, hp1, w1⟩ := open_int Try.underlying3 (hval 1 3 v1 rfl rfl) h1
  have k2 := h2
  have lt2 : ∀ x ∈ p2, x.block < W.heap.size := by obtain ⟨m, hm⟩ := k2; exact DataW.trod_lt m _ _ _ hm
  obtain ⟨l2, w2⟩ := open_bytes Try.underlying24 Try.underlying5 (by kernel_rfl) (hval 2 24 v2 rfl rfl) h2
  clear hA0 hval0
  refine (crcBurst_walk v0 l0 a1 v2 l2 W w0 w1 w2).mono fun e W' ⟨he, bel⟩ => ?_
  subst he
  exact ⟨_, rfl, _, _, _, [], _, [], hW', trodAll_mk1 (shut_bool Try.underlying4 _), (trodAll_cons_mk (Below.trod laidOut (by kernel_rfl) (of_decide_eq_true (by kernel_rfl)) k0 bel lt0) (trodAll_cons_mk (Below.trod laidOut (by kernel_rfl) (of_decide_eq_true (by kernel_rfl)) k1 bel lt1) (trodAll_cons_mk (Below.trod laidOut (by kernel_rfl) (of_decide_eq_true (by kernel_rfl)) k2 bel lt2) trodAll_mk0))), rfl, bel.frame _, fun h => by cases h⟩
theorem over : Rows.crcBurstRow.holds Try.pinned (OpenSpec.ofChange Rows.crcBurstSpec) :=
  OpenClaim.holds_of_wide 5 Try.f5 rfl rfl rfl rfl rfl rfl rfl ⟨rfl, rfl, rfl, rfl, rfl⟩ rfl rfl rfl rfl rfl (by kernel_rfl) Try.func5 (by kernel_rfl)
    (of_decide_eq_true (by kernel_rfl)) (by unfold Func.isWrapper; first | (rw [if_pos (by decide +kernel)]; kernel_rfl) | (rw [if_neg (by decide +kernel)]; exact ⟨rfl, rfl⟩))
    (fun os started H enc _ => lifted os started H enc)
end crcBurstF
theorem crcBurst_holds : Rows.CrcBurstSaid := crcBurstF.over
#print axioms crcBurst_holds
end Go.Proofs.Ytbjopmbemgpmaaa
