/-
  Records of which the last one is torn anywhere: all others are told, and that the tail is torn: any records, any cut. No condition.
-/
import Derived.Test.YtankebgpkhcgnaaWalL
import Derived.Test.YtankebgpkhcgnaaOpenRec
import Derived.Test.YtankebgpkhcgnaaWalPlain2
namespace Go.Proofs.Ytankebgpkhcgnaa
open Go.ChangeShapes Go.WideShapes Go.ChangeAt Go.RowKit

def walTorn_wit0 : Value := .slice none 0 0
set_option maxRecDepth 100000 in
theorem walTorn_open0 {H : Type} {enc : TypeId × Value → H} {W : World} {base base' : Nat} {r : Reach} {v : Value} {d : DataW H} {ps : List MemPlace}
    (hv : Value.okWide Try.prog W r base' 65 v) (h : DataW.Trod enc Try.prog W base (fun _ => true) true 65 v d ps) : ∃ rs : List Rec, Recs 7 recCells W v rs ∧ ∀ x ∈ rs, x.wf := open_recordsR hv h

/-- One record's cells. -/
theorem Recs.rec {w : World} {a : Option Addr} {n cap : Nat} {rs : List Rec} (h : Recs 7 recCells w (.slice a n cap) rs) (k : Nat) (hk : k < rs.length) : ∃ b off, a = some ⟨b, off, none⟩ ∧ b < w.heap.size ∧
    w.cell? ⟨b, off + k * 7, none⟩ = some (.bool rs[k].hd) ∧ w.cell? ⟨b, off + k * 7 + 1, none⟩ = some (.int .i64 rs[k].t) ∧ w.cell? ⟨b, off + k * 7 + 2, none⟩ = some (.int .i64 rs[k].v) ∧ w.cell? ⟨b, off + k * 7 + 3, none⟩ = some (.int .i64 rs[k].e.i) ∧
    w.cell? ⟨b, off + k * 7 + 4, none⟩ = some (.int .i64 rs[k].e.t) ∧ w.cell? ⟨b, off + k * 7 + 5, none⟩ = some (.int .i64 rs[k].e.k) ∧ w.cell? ⟨b, off + k * 7 + 6, none⟩ = some (.string rs[k].e.d) := by
  obtain ⟨a', cap', hv, h1, h2, h3⟩ := h
  simp only [Value.slice.injEq] at hv
  obtain ⟨rfl, rfl, rfl⟩ := hv
  obtain ⟨b, off, ha, hb, hc⟩ := h3 k hk
  exact ⟨b, off, ha, hb, hc 0 _ rfl, hc 1 _ rfl, hc 2 _ rfl, hc 3 _ rfl, hc 4 _ rfl, hc 5 _ rfl, hc 6 _ rfl⟩

theorem RecO.slice {T : TypeId} {w : World} {base : Nat} {v : Value} {rs : List Rec} (h : RecO T w base v rs) : ∃ a cap, v = .slice a rs.length cap := by
  rcases h.2 with ⟨rfl, hx⟩ | ⟨g, cap, cur, rfl, _⟩
  · exact ⟨none, 0, by rw [hx]⟩
  · exact ⟨_, cap, rfl⟩

set_option maxRecDepth 100000 in
set_option maxHeartbeats 4000000 in
theorem walTorn_walk (v0 : Value) (l : List Rec) (cut : Int) (w : World) (w0 : Recs 7 recCells w v0 l ∧ ∀ x ∈ l, x.wf) (w1 : (Lit.int .i64 cut).wf = true) :
    Calls Try.prog 14 #[v0, .int .i64 cut] w fun e w' => e = .returned (.bool true) ∧ Below w.heap.size w w' := by
  have wc := wf_i64 w1
  obtain ⟨hR, hwf⟩ := w0
  have HW := Lib.hid hwf
  clear hwf
  obtain ⟨a0, cap0, rfl, hcap0, hcm0, -⟩ := id hR
  go_enter Try.func14, Try.ntmps14
  go_wp2_with fail
  refine (wal_begun _).mono ?_
  rintro e w1 ⟨rfl, hb1⟩
  have hR1 := hR.keeps hb1
  have hb1z := hb1.size
  clear hR
  go_wp2_with fail
  go_loopw [6, 7, 8, 9] (fun b n last i wr => ∃ (k : Nat) (rs : List Rec), k ≤ l.length ∧ k ≤ 8 ∧ i = .int .i64 k ∧ n = .int .i64 rs.length ∧ rs.length ≤ k ∧ Hid (∀ r ∈ rs, mayR r = true) ∧ last = .int .i64 ((encs rs.dropLast).length : Nat) ∧ OwnB wr w1.heap.size 5 b (encs rs) ∧ Below w1.heap.size w1 wr) (fun _ _ _ i _ => l.length - (intOf i).toNat)
  case atStart => exact ⟨0, [], Nat.zero_le _, by omega, rfl, rfl, Nat.zero_le _, Lib.hid (by simp), rfl, OwnB.nil _ _ _, Below.refl _ _⟩
  case round =>
    obtain ⟨k, rs, hk, hk8, rfl, rfl, hrk, hmay, rfl, hO, hbel⟩ := hrel
    have hel := encs_len rs
    by_cases hgo : k < l.length ∧ k < 8
    · obtain ⟨hlt, h8⟩ := hgo
      obtain ⟨b0, o0, rfl, hb0, c0, c1, c2, c3, c4, c5, c6⟩ := (hR1.keeps hbel).rec k hlt
      have hdw := (HW.out l[k] (List.getElem_mem hlt)).2.2.2.2.2
      unfold maxLen at hdw
      generalize l[k] = r at *
      obtain ⟨hd', t, v, ⟨i, t', k0, d⟩⟩ := r
      dsimp only at *
      go_wp2_with fail
      refine (law_cut ⟨hd', t, v, ⟨i, t', k0, d⟩⟩ _ hdw).mono ?_
      rintro e w2 ⟨rfl, hb2⟩
      have hO2 := hO.below hb2
      have hbel2 := hbel.trans (hb2.mono hbel.size)
      clear c0 c1 c2 c3 c4 c5 c6 hb2 hO hbel
      generalize cutR ⟨hd', t, v, ⟨i, t', k0, d⟩⟩ = r at *
      go_wp2_with fail
      refine (ref_encode r _).mono ?_
      rintro e w3 ⟨v3, rfl, ho3, hb3⟩
      have hO3 := hO2.below hb3
      have hbel3 := hbel2.trans (hb3.mono hbel2.size)
      clear hb3 hO2 hbel2
      have hle := encR_le r
      obtain ⟨a3, cap3, rfl⟩ := ho3.len
      obtain ⟨a6, cap6, he6⟩ := hO3.len
      rename Value => v6
      subst he6
      by_cases hm : mayR r = true
      · have hp := encR_pos hm
        have ht : (((encR r).length : Int) == 0) = false := beq_eq_false_iff_ne.2 (by omega)
        have hnew : ∀ x ∈ rs ++ [r], mayR x = true := fun x hx => by
          rcases List.mem_append.1 hx with hx | hx
          · exact hmay.out x hx
          · rw [List.mem_singleton.1 hx]; exact hm
        have HN := Lib.hid hnew
        clear hnew hmay hm
        go_wp2_with (at_builtin; refine wpList_append_bytes 30 w1.heap.size 5 Try.underlying30 info_u8 rfl _ _ rfl hO3 ho3.bytes rfl rfl (by omega) hbel3.size ?_)
        intro v7 w7 ho7 hg7 hk7
        have hbel7 := hbel3.grown hg7 hbel3.size (fun k hk => (hO3.lt k hk).1)
        clear hg7 hk7 hO3 ho3 hbel3
        go_wp2_with fail
        go_roundw
        case rel => exact ⟨k + 1, rs ++ [r], by omega, by omega, by go_num, by simp, by simp; omega, HN, by rw [List.dropLast_concat], by rw [encs_snoc]; exact ho7, hbel7⟩
        case measure => simp [intOf]; omega
      · have hm : mayR r = false := by simpa using hm
        have hnil := encR_nil hm
        have ht : (((encR r).length : Int) == 0) = true := by rw [hnil]; rfl
        clear hnil hm
        go_wp2_with fail
        go_roundw
        case rel => exact ⟨k + 1, rs, by omega, by omega, by go_num, rfl, by omega, hmay, rfl, hO3, hbel3⟩
        case measure => simp [intOf]; omega
    · have hex : (¬ k < l.length) ∨ (k < l.length ∧ ¬ k < 8) := by omega
      have hbw := hb1.trans (hbel.mono hb1z)
      obtain ⟨a6, cap6, he6⟩ := hO.len
      rename Value => v6
      subst he6
      have hcap6 : (encs rs).length ≤ cap6 := by
        obtain ⟨ax, cx, hv, h1, -⟩ := hO.bytes
        simp only [Value.slice.injEq] at hv
        rw [hv.2.2]
        exact h1
      have hF : rs ≠ [] → ∃ rs' r, rs = rs' ++ [r] ∧ (∀ x ∈ rs', mayR x = true) ∧ mayR r = true := fun hne => by
        refine ⟨rs.dropLast, rs.getLast hne, (List.dropLast_concat_getLast hne).symm, fun x hx => hmay.out x (List.dropLast_subset _ hx), hmay.out _ (List.getLast_mem hne)⟩
      have HF := Lib.hid hF
      clear hF hmay
      rcases hex with he | ⟨he1, he⟩
      all_goals
        by_cases hz : rs = []
        · subst hz
          go_wp2_with fail
          go_ret
          exact ⟨rfl, hbw⟩
        · obtain ⟨rs', r, rfl, hm', hm⟩ := HF.out hz
          have hz2 : (((rs' ++ [r]).length : Int) == 0) = false := beq_eq_false_iff_ne.2 (by simp; omega)
          rcases dec_cases (cut < 1) with ⟨hc, tc⟩ | ⟨hc, tc⟩
          · go_wp2_with fail
            go_ret
            exact ⟨rfl, hbw⟩
          · obtain ⟨C, rfl⟩ := Int.eq_ofNat_of_zero_le (show 0 ≤ cut by omega)
            have hlen : (encs (rs' ++ [r])).length = (encs rs').length + (encR r).length := by rw [encs_snoc, List.length_append]
            rw [List.dropLast_concat]
            by_cases hcut : C < (encR r).length
            · have ht : (encs (rs' ++ [r])).take ((encs (rs' ++ [r])).length - C) = encs rs' ++ (encR r).take ((encR r).length - C) := by
                rw [hlen, encs_snoc, List.take_append, List.take_of_length_le (by omega)]
                congr 2
                omega
              have hsub := hO.bytes.take ((encs (rs' ++ [r])).length - C) (by omega)
              rw [ht] at hsub
              have hst := scan_torn rs' r hm' hm ((encR r).length - C) (by omega) (by omega)
              have hle := encR_le r
              have hel' := encs_len rs'
              have hrl : (rs' ++ [r]).length = rs'.length + 1 := by simp
              rw [hrl] at hel hrk hz2 ⊢
              have HST := Lib.hid hst
              have hbl : (encs rs' ++ List.take ((encR r).length - C) (encR r)).length ≤ 1000000 := by
                rw [List.length_append, List.length_take]
                omega
              generalize (encs (rs' ++ [r])).length = T at *
              generalize encs rs' ++ List.take ((encR r).length - C) (encR r) = G at *
              generalize (encs rs').length = Lp at *
              generalize (encR r).length = Lr at *
              have zt : ((rs'.length : Int) + 1 == 0) = false := beq_eq_false_iff_ne.2 (by omega)
              have hw1 : wrap64 ((T : Int) - (Lp : Int)) = (Lr : Int) := by unfold wrap64; omega
              have hdl : decide ((Lr : Int) ≤ (C : Int)) = false := decide_eq_false (by omega)
              have hTC : wrap64 ((T : Int) - (C : Int)) = ((T - C : Nat) : Int) := by unfold wrap64; omega
              have hTC2 : T - C ≤ T := by omega
              have hTC3 : T ≤ cap6 + C := by omega
              have HL := Lib.hid hlen
              clear ht hst hm' hm hz HF hel hel' hle hO hrl hlen
              go_wp2_with fail
              refine (wal_scan _ _ _ hsub hbl).mono ?_
              rintro e w9 ⟨v9, rfl, hro, hb9⟩
              rw [HST.out] at hro ⊢
              have hbw9 := hbw.trans (hb9.mono hbw.size)
              obtain ⟨a9, cap9, rfl⟩ := RecO.slice hro
              clear hro hb9 hsub
              go_wp2_with fail
              go_ret
              exact ⟨rfl, hbw9⟩
            · have hrl : (rs' ++ [r]).length = rs'.length + 1 := by simp
              rw [hrl] at hel hrk hz2 ⊢
              generalize (encs (rs' ++ [r])).length = T at *
              generalize (encs rs').length = Lp at *
              generalize (encR r).length = Lr at *
              have zt : ((rs'.length : Int) + 1 == 0) = false := beq_eq_false_iff_ne.2 (by omega)
              have hw1 : wrap64 ((T : Int) - (Lp : Int)) = (Lr : Int) := by unfold wrap64; omega
              have hdl : decide ((Lr : Int) ≤ (C : Int)) = true := decide_eq_true (by omega)
              clear hlen
              go_wp2_with fail
              go_ret
              exact ⟨rfl, hbw⟩
/-! ### From the row to the walk -/
namespace walTornF
set_option linter.unusedVariables false
theorem own : ownKnob Try.prog.godebug = none := by kernel_rfl
theorem laidOut : laidOutB Try.prog = true := by kernel_rfl
set_option maxRecDepth 100000 in
theorem lifted (os : Os) (started : os.Started) (H : Type) (enc : TypeId × Value → H) :
    ReturnsInHanded {} Try.checked os 14 .any (Rows.walTornSpec.pre6 enc Try.prog Try.f14 Rows.walTornRow.domain false) (Rows.walTornSpec.post enc Try.prog Try.f14 false true false false) := by
  refine returnsInHanded_of_change (C := Try.checked) own started (by kernel_rfl) Try.func14
    (ChangeSpec.witness6 (enc := enc) (C := Try.checked) false ⟨#[], #[walTorn_wit0, .int .i64 0], []⟩ 8 (by kernel_rfl) (by kernel_rfl) (by kernel_rfl) (by kernel_rfl)) ?_
  intro W base args ds gs before hval0 hW hcnd _
  have hval : ∀ (j : Nat) t v, Try.f14.params[j]? = some t → args[j]? = some v → Value.okWide Try.prog W .any base t v := hval0
  have hW' := hW
  obtain ⟨p, q, hA0, hV, rfl, hfz, hnd⟩ := hW
  have hA : DataW.TrodAll enc Try.prog W 0 (fun _ => true) true Try.f14.params.toList args.toList ds p := hA0
  rw [Try.params14] at hA hval
  obtain ⟨v0, vs0, d0, ds0, p0, q0, hargs, rfl, rfl, h0, r0⟩ := trodAll_cons hA
  obtain ⟨v1, vs1, d1, ds1, p1, q1, rfl, rfl, rfl, h1, r1⟩ := trodAll_cons r0
  obtain ⟨rfl, rfl, rfl⟩ := trodAll_nil r1
  obtain rfl : args = #[v0, v1] := by cases args; simp_all
  obtain ⟨rfl, rfl⟩ := trodVars_none hV
  have k0 := h0
  have lt0 : ∀ x ∈ p0, x.block < W.heap.size := by obtain ⟨m, hm⟩ := k0; exact DataW.trod_lt m _ _ _ hm
  obtain ⟨x0, w0⟩ := walTorn_open0 (hval 0 65 v0 rfl rfl) h0
  have k1 := h1
  have lt1 : ∀ x ∈ p1, x.block < W.heap.size := by obtain ⟨m, hm⟩ := k1; exact DataW.trod_lt m _ _ _ hm
  obtain ⟨a1, rfl, hd1, hp1, w1⟩ := open_int Try.underlying3 (hval 1 3 v1 rfl rfl) h1
  clear hA0 hval0
  refine (walTorn_walk v0 x0 a1 W w0 w1).mono fun e W' ⟨he, bel⟩ => ?_
  subst he
  exact ⟨_, rfl, _, _, _, [], _, [], hW', trodAll_mk1 (shut_bool Try.underlying4 _), (trodAll_cons_mk (Below.trod laidOut (by kernel_rfl) (of_decide_eq_true (by kernel_rfl)) k0 bel lt0) (trodAll_cons_mk (Below.trod laidOut (by kernel_rfl) (of_decide_eq_true (by kernel_rfl)) k1 bel lt1) trodAll_mk0)), rfl, bel.frame _, fun h => by cases h⟩
theorem over : Rows.walTornRow.holds Try.pinned (OpenSpec.ofChange Rows.walTornSpec) :=
  OpenClaim.holds_of_wide 14 Try.f14 rfl rfl rfl rfl rfl rfl rfl ⟨rfl, rfl, rfl, rfl, rfl⟩ rfl rfl rfl rfl rfl (by kernel_rfl) Try.func14 (by kernel_rfl)
    (of_decide_eq_true (by kernel_rfl)) (by unfold Func.isWrapper; first | (rw [if_pos (by decide +kernel)]; kernel_rfl) | (rw [if_neg (by decide +kernel)]; exact ⟨rfl, rfl⟩))
    (fun os started H enc _ => lifted os started H enc)
end walTornF
theorem walTorn_holds : Rows.WalTornSaid := walTornF.over
#print axioms walTorn_holds
end Go.Proofs.Ytankebgpkhcgnaa
