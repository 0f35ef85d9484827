/-
  What a log tells is a copy: of any snapshot and entries. No condition.
-/
import Derived.Test.YtihcohneongomaaLogKit
namespace Go.Proofs.Ytihcohneongomaa
open Go.ChangeShapes Go.WideShapes Go.ChangeAt Go.RowKit

def logOwn_wit0 : Value := snpAgg (snpA 0 0)
def logOwn_wit1 : Value := .slice none 0 0
set_option maxRecDepth 100000 in
theorem logOwn_open0 {H : Type} {enc : TypeId × Value → H} {W : World} {base base' : Nat} {r : Reach} {v : Value} {d : DataW H} {ps : List MemPlace}
    (hv : Value.okWide Try.prog W r base' 23 v) (h : DataW.Trod enc Try.prog W base (fun _ => true) true 23 v d ps) : ∃ s : Snp, v = snpAgg s ∧ s.wf := open_snap hv h
set_option maxRecDepth 100000 in
theorem logOwn_open1 {H : Type} {enc : TypeId × Value → H} {W : World} {base base' : Nat} {r : Reach} {v : Value} {d : DataW H} {ps : List MemPlace}
    (hv : Value.okWide Try.prog W r base' 24 v) (h : DataW.Trod enc Try.prog W base (fun _ => true) true 24 v d ps) : ∃ es : List Ent, EntR W v es ∧ ∀ e ∈ es, e.wf := open_ents hv h

set_option maxRecDepth 100000 in
set_option maxHeartbeats 1000000 in
theorem logOwn_walk (v0 : Value) (s0 : Snp) (v1 : Value) (l0 : List Ent) (w : World) (h0 : v0 = snpAgg s0 ∧ s0.wf) (h1 : EntR w v1 l0 ∧ ∀ e ∈ l0, e.wf) :
    Calls Try.prog 5 #[v0, v1] w fun e w' => e = .returned (.bool true) ∧ Below w.heap.size w w' := by
  obtain ⟨rfl, hs0⟩ := h0
  obtain ⟨hE, hwf⟩ := h1
  have HW := Lib.hid hwf
  have hB0 := snapS_box w s0 23
  have hb0 := (Below.refl w.heap.size w).alloc (Nat.le_refl _) (.cells #[.int .i64 s0.i, .int .i64 s0.t, .string s0.c, .string s0.d] 23)
  have hE0 := hE.below hb0
  obtain ⟨-, -, hc0, hd0⟩ := hs0
  unfold maxLen at hc0 hd0
  clear hE hwf
  unfold snpAgg
  go_enter Try.func5, Try.ntmps5
  go_wp2_with fail
  refine (log_begun _).mono ?_
  rintro e w1 ⟨rfl, hb1⟩
  have hB1 := hB0.below hb1
  have hE1 := hE0.below hb1
  have hbw := hb0.trans (hb1.mono hb0.size)
  clear hb1 hb0 hB0 hE0
  generalize hN : w.heap.size = N at *
  have c0 := hB1.c0
  have c1 := hB1.c1
  have c2 := hB1.c2
  have c3 := hB1.c3
  go_wp2_with fail
  refine (law_snap s0 _ hc0 hd0).mono ?_
  rintro e w2 ⟨rfl, hb2⟩
  have hB2 := hB1.below hb2
  have hE2 := hE1.below hb2
  have hbw2 := hbw.trans (hb2.mono (by have := hbw.size; omega))
  clear hb2 hB1 hE1 c0 c1 c2 c3 hbw
  have hcs : (cutSnap s0).c.size ≤ 60 ∧ (cutSnap s0).d.size ≤ 100 := ⟨takeB_size _ _, takeB_size _ _⟩
  generalize cutSnap s0 = sn at *
  obtain ⟨ni, nt, nc, nd⟩ := sn
  unfold snpAgg
  dsimp only at hcs ⊢
  go_wp2_with fail
  have hlen : l0.length ≤ 9223372036854775807 := by obtain ⟨a1, cap, h1, h2, h3, -⟩ := hE2; exact Nat.le_trans h2 h3
  refine (law_entries v1 l0 12 _ hE2 hlen (by decide) (fun e he => by have := (HW.out e he).2; unfold maxLen at this; omega)).mono ?_
  rintro e w3 ⟨v3, rfl, ho3, hb3⟩
  have hB3 := hB2.below hb3
  have hbw3 := hbw2.trans (hb3.mono (by have := hbw2.size; omega))
  have hN3 : N < w2.heap.size := hB2.lt
  clear hb3 hB2 hE2 hbw2
  have c0 := hB3.c0
  have c1 := hB3.c1
  have c2 := hB3.c2
  have c3 := hB3.c3
  have fr := hB3.fr
  go_upto_region 5 with fail
  have hset := hB3.set (n := ⟨ni, nt, nc, nd⟩)
  dsimp only at hset
  have hLn : (cutEnts l0 12).length ≤ 12 := cutEnts_len _ _
  have hlo := cutEnts_lo l0 12 HW.out
  have hr4 := EntR.keeps ho3.r hset.2 (fun g off n c hg hm => by
    have := ho3.since (w0 := w2) (Nat.le_refl _) g off n c hg
    simp only [List.mem_singleton] at hm
    omega)
  have hv3 := ho3.lt
  have hz34 := hset.2.size
  have hS4 := hset.1
  have hbw4 := hbw3.trans (hset.2.below (B := N) (by simp) (by have := hbw3.size; omega))
  clear ho3 hset hbw3 hB3 c0 c1 c2 c3 fr HW hN3 hlen
  generalize (((w3.setCell ⟨N, 0, none⟩ (.int .i64 ni)).setCell ⟨N, 1, none⟩ (.int .i64 nt)).setCell ⟨N, 2, none⟩ (.string nc)).setCell ⟨N, 3, none⟩ (.string nd) = w4 at *
  generalize cutEnts l0 12 = L at *
  obtain ⟨a3, cap3, rfl⟩ := hr4.slice
  have hbw4z : N ≤ w4.heap.size := by have := hbw4.size; omega
  go_wp2_with (at_builtin; refine wpList_append_ents 24 w4.heap.size _ Try.underlying24 info_ent rfl rfl _ _ rfl (EntO.nil w4 w4.heap.size) hr4 rfl rfl (by simp; omega) (Nat.le_refl _) ?_)
  intro vo w5 ho5 hg5 hz5
  have hb5 := (Below.refl w4.heap.size w4).grown hg5 (Nat.le_refl _) (fun k hk => by cases hk)
  obtain ⟨ao, co, F, rfl, hF, hK5⟩ := ho5.kinds'
  have hro := ho5.r
  have hS5 := hS4.below hb5
  have c0 := hS5.c0
  have c1 := hS5.c1
  have c2 := hS5.c2
  have c3 := hS5.c3
  clear hg5 hz5 ho5 hS4
  go_wp2_with fail
  refine (log_new ⟨ni, nt, nc, nd⟩ _ L _ hro (by omega)).mono ?_
  intro e w6 hn
  unfold RetNewL at hn
  have hbw5 := hbw4.trans (hb5.mono hbw4z)
  have hz45 := hb5.size
  by_cases hok : newOk ⟨ni, nt, nc, nd⟩ L = true
  · rw [if_pos hok] at hn
    obtain ⟨b, lv, rfl, hSL, hb6, hbb, hsi⟩ := hn
    have hG := Lib.hid (Good.of_new hok)
    have hK6 : ∀ k, k < L.length → ∃ g, F = [g] ∧ ao = some ⟨g, 0, none⟩ ∧ Kinds w6 g L.length := fun k hk => by
      obtain ⟨g, h1, h2, h3⟩ := hK5 k hk
      exact ⟨g, h1, h2, h3.keeps (F := []) (Keeps.of_below hb6) (by simp)⟩
    have hbw6 := hbw5.trans (hb6.mono (by omega))
    have hb46 := hb5.trans (hb6.mono hb5.size)
    have hz46 := hb46.size
    have hz56 := hb6.size
    clear hok hb6 hS5 hbw5 hro hK5 c0 c1 c2 c3 hbw4 hb5
    unfold logPtr
    go_wp2_with fail
    go_loopw [8] (fun i wr => ∃ k : Nat, k ≤ L.length ∧ i = .int .i64 k ∧ (∀ k, k < L.length → ∃ g, F = [g] ∧ ao = some ⟨g, 0, none⟩ ∧ Kinds wr g L.length) ∧ Keeps F w6 wr) (fun i _ => L.length - (intOf i).toNat)
    case atStart => exact ⟨0, by omega, rfl, hK6, Keeps.refl _ _⟩
    case round =>
      obtain ⟨k, hk, rfl, hKr, hkp⟩ := hrel
      by_cases hlt : k < L.length
      · obtain ⟨g, rfl, rfl, hKK⟩ := hKr k hlt
        obtain ⟨u, hu⟩ := hKK.c k hlt
        have fr := hKK.fr
        have hset := hKK.set k (.int .i64 (-3))
        go_wp2_with fail
        go_roundw
        case rel => exact ⟨k + 1, by omega, by go_num, fun j hj => ⟨g, rfl, rfl, by simpa using hset⟩, by simpa using hkp.setCell (p := ⟨g, k * 4 + 2, none⟩) (.inl (by simp)) (.int .i64 (-3))⟩
        case measure => simp [intOf]; omega
      · obtain rfl : k = L.length := by omega
        have hS7 := hSL.keeps hkp (fun hm => by have := (hF b hm).2; omega) (fun g off n c hg hm => by have := (hF g hm).2; have := hsi g off n c hg; omega)
        have hb7 : Below w4.heap.size w6 wr := hkp.below (fun x hx => (hF x hx).1) hz46
        have hb47 := hb46.trans hb7
        have hbw7 := hbw6.trans (hb7.mono hbw4z)
        have hr7 : EntR wr (.slice a3 L.length cap3) L := hr4.below hb47
        have hz47 := hb47.size
        have hga := hG.out.getAll 20 (by omega)
        dsimp only at hga
        clear hSL hkp hb7 hKr hK6 hb46 hbw6 hr4 hb47 hF hsi
        go_wp2_with fail
        refine (log_first hS7 hG.out.b).mono ?_
        rintro e w7 ⟨rfl, rfl⟩
        dsimp only
        go_wp2_with fail
        refine (log_get (ni + 1) 20 hS7 hG.out.b).mono ?_
        intro e w8 hg
        rw [hga] at hg
        obtain ⟨vx, rfl, ho8, hb8⟩ := hg
        obtain ⟨ax, cx, F2, rfl, hF2, hK8⟩ := ho8.kinds'
        go_wp2_with fail
        go_loopw [10] (fun i wr => ∃ k : Nat, k ≤ L.length ∧ i = .int .i64 k ∧ (∀ k, k < L.length → ∃ g, F2 = [g] ∧ ax = some ⟨g, 0, none⟩ ∧ Kinds wr g L.length) ∧ Keeps F2 w8 wr) (fun i _ => L.length - (intOf i).toNat)
        case atStart => exact ⟨0, by omega, rfl, hK8, Keeps.refl _ _⟩
        case round =>
          obtain ⟨k, hk, rfl, hKr, hkp⟩ := hrel
          by_cases hlt : k < L.length
          · obtain ⟨g, rfl, rfl, hKK⟩ := hKr k hlt
            obtain ⟨u, hu⟩ := hKK.c k hlt
            have fr := hKK.fr
            have hset := hKK.set k (.int .i64 (-4))
            go_wp2_with fail
            go_roundw
            case rel => exact ⟨k + 1, by omega, by go_num, fun j hj => ⟨g, rfl, rfl, by simpa using hset⟩, by simpa using hkp.setCell (p := ⟨g, k * 4 + 2, none⟩) (.inl (by simp)) (.int .i64 (-4))⟩
            case measure => simp [intOf]; omega
          · obtain rfl : k = L.length := by omega
            have hb9 := hb8.trans (hkp.below (fun x hx => (hF2 x hx).1) hb8.size)
            have hS9 := hS7.below hb9
            have hr9 := hr7.below hb9
            have hbw9 := hbw7.trans (hb9.mono (by have := hbw7.size; omega))
            have hz9 := hbw9.size
            clear hS7 hr7 hbw7 hb9 hkp hKr hK8 hF2 hb8 ho8
            go_wp2_with fail
            refine (log_first hS9 hG.out.b).mono ?_
            rintro e w9 ⟨rfl, rfl⟩
            dsimp only
            go_wp2_with fail
            refine (log_get (ni + 1) 20 hS9 hG.out.b).mono ?_
            intro e w10 hg
            rw [hga] at hg
            obtain ⟨vy, rfl, ho10, hb10⟩ := hg
            have hr10 := hr9.below hb10
            have hbw10 := hbw9.trans (hb10.mono (by omega))
            have hz10 := hbw10.size
            clear hb10 hbw9 hS9 hr9
            go_wp2_with fail
            refine (eq_entries _ _ L _ ho10.r hr10 (by omega)).mono ?_
            rintro e w11 ⟨rfl, hb11⟩
            have hbw11 := hbw10.trans (hb11.mono (by omega))
            go_wp2_with fail
            go_ret
            exact ⟨rfl, by first | (rw [hN]; exact hbw11) | exact hbw11⟩
  · rw [if_neg hok] at hn
    obtain ⟨rfl, hb6⟩ := hn
    have hbw6 := hbw5.trans (hb6.mono (by omega))
    go_wp2_with fail
    go_ret
    exact ⟨rfl, by rw [hN]; exact hbw6⟩
/-! ### From the row to the walk -/
namespace logOwnF
set_option linter.unusedVariables false
theorem own : ownKnob Try.prog.godebug = none := by kernel_rfl
theorem laidOut : laidOutB Try.prog = true := by kernel_rfl
set_option maxRecDepth 100000 in
theorem lifted (os : Os) (started : os.Started) (H : Type) (enc : TypeId × Value → H) :
    ReturnsInHanded {} Try.checked os 5 .any (Rows.logOwnSpec.pre6 enc Try.prog Try.f5 Rows.logOwnRow.domain false) (Rows.logOwnSpec.post enc Try.prog Try.f5 false true false false) := by
  refine returnsInHanded_of_change (C := Try.checked) own started (by kernel_rfl) Try.func5
    (ChangeSpec.witness6 (enc := enc) (C := Try.checked) false ⟨#[], #[logOwn_wit0, logOwn_wit1], []⟩ 8 (by kernel_rfl) (by kernel_rfl) (by kernel_rfl) (by kernel_rfl)) ?_
  intro W base args ds gs before hval0 hW hcnd _
  have hval : ∀ (j : Nat) t v, Try.f5.params[j]? = some t → args[j]? = some v → Value.okWide Try.prog W .any base t v := hval0
  have hW' := hW
  obtain ⟨p, q, hA0, hV, rfl, hfz, hnd⟩ := hW
  have hA : DataW.TrodAll enc Try.prog W 0 (fun _ => true) true Try.f5.params.toList args.toList ds p := hA0
  rw [Try.params5] at hA hval
  obtain ⟨v0, vs0, d0, ds0, p0, q0, hargs, rfl, rfl, h0, r0⟩ := trodAll_cons hA
  obtain ⟨v1, vs1, d1, ds1, p1, q1, rfl, rfl, rfl, h1, r1⟩ := trodAll_cons r0
  obtain ⟨rfl, rfl, rfl⟩ := trodAll_nil r1
  obtain rfl : args = #[v0, v1] := by cases args; simp_all
  obtain ⟨rfl, rfl⟩ := trodVars_none hV
  have k0 := h0
  have lt0 : ∀ x ∈ p0, x.block < W.heap.size := by obtain ⟨m, hm⟩ := k0; exact DataW.trod_lt m _ _ _ hm
  obtain ⟨x0, w0⟩ := logOwn_open0 (hval 0 23 v0 rfl rfl) h0
  have k1 := h1
  have lt1 : ∀ x ∈ p1, x.block < W.heap.size := by obtain ⟨m, hm⟩ := k1; exact DataW.trod_lt m _ _ _ hm
  obtain ⟨x1, w1⟩ := logOwn_open1 (hval 1 24 v1 rfl rfl) h1
  clear hA0 hval0
  refine (logOwn_walk v0 x0 v1 x1 W w0 w1).mono fun e W' ⟨he, bel⟩ => ?_
  subst he
  exact ⟨_, rfl, _, _, _, [], _, [], hW', trodAll_mk1 (shut_bool Try.underlying4 _), (trodAll_cons_mk (Below.trod laidOut (by kernel_rfl) (of_decide_eq_true (by kernel_rfl)) k0 bel lt0) (trodAll_cons_mk (Below.trod laidOut (by kernel_rfl) (of_decide_eq_true (by kernel_rfl)) k1 bel lt1) trodAll_mk0)), rfl, bel.frame _, fun h => by cases h⟩
theorem over : Rows.logOwnRow.holds Try.pinned (OpenSpec.ofChange Rows.logOwnSpec) :=
  OpenClaim.holds_of_wide 5 Try.f5 rfl rfl rfl rfl rfl rfl rfl ⟨rfl, rfl, rfl, rfl, rfl⟩ rfl rfl rfl rfl rfl (by kernel_rfl) Try.func5 (by kernel_rfl)
    (of_decide_eq_true (by kernel_rfl)) (by unfold Func.isWrapper; first | (rw [if_pos (by decide +kernel)]; kernel_rfl) | (rw [if_neg (by decide +kernel)]; exact ⟨rfl, rfl⟩))
    (fun os started H enc _ => lifted os started H enc)
end logOwnF
theorem logOwn_holds : Rows.LogOwnSaid := logOwnF.over
#print axioms logOwn_holds
end Go.Proofs.Ytihcohneongomaa
