/-
  No claim by itself: May of messages, as the document tells it. No condition.
-/
import Derived.Test.YtcogmohepcifiaaP9
import Derived.Test.YtcogmohepcifiaaP12
namespace Go.Proofs.Ytcogmohepcifiaa
open Go.ChangeShapes Go.WideShapes Go.ChangeAt Go.RowKit

theorem ref_id (x : Int) (w : World) : Calls Try.prog 24 #[.int .i64 x] w fun e w' => e = .returned (.bool (serverB x)) ∧ w' = w := by
  have H0 : Hid (serverB x = decide (1 ≤ x ∧ x ≤ 7)) := Lib.hid rfl
  go_enter Try.func24, Try.ntmps24
  by_cases h1 : 1 ≤ x
  · by_cases h2 : x ≤ 7
    · have t2 := decide_eq_true h2
      go_wp2_with fail
      go_ret
      exact ⟨by rw [H0.out, decide_eq_true (⟨h1, h2⟩ : 1 ≤ x ∧ x ≤ 7)]; first | rfl | (rw [t2]; rfl), rfl⟩
    · have t2 := decide_eq_false h2
      go_wp2_with fail
      go_ret
      exact ⟨by rw [H0.out, decide_eq_false (by omega : ¬ (1 ≤ x ∧ x ≤ 7))]; first | rfl | (rw [t2]; rfl), rfl⟩
  · go_wp2_with fail
    go_ret
    exact ⟨by rw [H0.out, decide_eq_false (by omega : ¬ (1 ≤ x ∧ x ≤ 7))]; rfl, rfl⟩
def numB (x : Int) : Bool := decide (0 ≤ x ∧ x ≤ 1099511627776)
theorem ref_num (x : Int) (w : World) : Calls Try.prog 25 #[.int .i64 x] w fun e w' => e = .returned (.bool (numB x)) ∧ w' = w := by
  have H0 : Hid (numB x = decide (0 ≤ x ∧ x ≤ 1099511627776)) := Lib.hid rfl
  go_enter Try.func25, Try.ntmps25
  by_cases h1 : 0 ≤ x
  · by_cases h2 : x ≤ 1099511627776
    · have t2 := decide_eq_true h2
      go_wp2_with fail
      go_ret
      exact ⟨by rw [H0.out, decide_eq_true (⟨h1, h2⟩ : 0 ≤ x ∧ x ≤ 1099511627776)]; first | rfl | (rw [t2]; rfl), rfl⟩
    · have t2 := decide_eq_false h2
      go_wp2_with fail
      go_ret
      exact ⟨by rw [H0.out, decide_eq_false (by omega : ¬ (0 ≤ x ∧ x ≤ 1099511627776))]; first | rfl | (rw [t2]; rfl), rfl⟩
  · go_wp2_with fail
    go_ret
    exact ⟨by rw [H0.out, decide_eq_false (by omega : ¬ (0 ≤ x ∧ x ≤ 1099511627776))]; rfl, rfl⟩

set_option maxHeartbeats 1000000 in
theorem ref_decodeConf (s : ByteArray) (w : World) (hs : s.size ≤ 1000000000) :
    Calls Try.prog 28 #[.string s] w fun e w' => RetConf w s e w' := by
  go_enter Try.func28, Try.ntmps28
  go_wp2_with fail
  go_loopw [4, 5] (fun v i wr => ∃ k : Nat, k ≤ s.size ∧ i = .int .i64 k ∧ RowI wr v (decC (s.data.toList.take k)) ∧ (∀ g, v.ownBlock = some g → w.heap.size ≤ g) ∧ Below w.heap.size w wr) (fun _ i _ => s.size - (intOf i).toNat)
  case atStart => exact ⟨0, by omega, rfl, RowI.nil _, (fun g h => by cases h), Below.refl _ _⟩
  case round =>
    obtain ⟨k, hk, rfl, hr, hg, hbel⟩ := hrel
    have hll : (decC (s.data.toList.take k)).length ≤ 1000000000 := by
      unfold decC
      rw [List.length_map, List.length_take]
      omega
    by_cases hlt : k < s.size
    · have HU := Lib.hid (decC_snoc s k hlt)
      have hc8 := s[k].toNat_lt
      have HG := Lib.hid hg
      have hb := fun x => (Below.refl wr.heap.size wr).alloc (Nat.le_refl _) (.cells #[Value.int .i64 x] 3)
      have hown : ∀ x, Row (wr.alloc (.cells #[Value.int .i64 x] 3)) 3 _ ((decC (s.data.toList.take k)).map (Value.int .i64)) := fun x => RowI.keeps hr (Keeps.of_below (F := []) (hb x)) (by simp)
      have hsrc := fun x : Int => Reads.fresh wr ([x].map (Value.int .i64)) 3 (0, 0) #[.int .i64 x] 1 rfl rfl (by simp)
      have HB := Lib.hid hb
      have HOWN := Lib.hid hown
      have HSRC := Lib.hid hsrc
      clear hr hg hb hown hsrc
      generalize decC (s.data.toList.take k) = Y at *
      go_wp2_with (at_builtin; refine wpList_append_row 58 3 (.int .i64 0) 8 Try.underlying58 info_i64 rfl rfl _ _ rfl (HOWN.out (((s[k]).toNat : Int) - 48)) (HSRC.out (((s[k]).toNat : Int) - 48)) (ints_oneCell [((s[k]).toNat : Int) - 48]) rfl rfl (by simp [maxLen]; omega) (by simp; omega) ?_)
      intro v2 w2 ho hg2 hk2
      have hbz : Below w.heap.size w w2 := (hbel.alloc hbel.size _).grown hg2 (by have := hbel.size; simp; omega) HG.out
      have hoo : RowI w2 v2 (Y ++ [((s[k]).toNat : Int) - 48]) := by unfold RowI; rw [List.map_append]; exact ho
      have hgz : ∀ g, v2.ownBlock = some g → w.heap.size ≤ g := fun g h => (hk2 g h).elim (HG.out g) (fun h => by have := hbel.size; omega)
      clear ho hg2 hk2
      go_wp2_with fail
      go_roundw
      case rel => exact ⟨k + 1, by omega, by go_num, by rw [HU.out]; exact hoo, hgz, hbz⟩
      case measure => simp [intOf]; omega
    · obtain rfl : k = s.size := by omega
      have hri := hr.ri
      rw [List.take_of_length_le (by rw [size_data]; omega)] at hri hr hll
      obtain ⟨a4, n4, c4, rfl⟩ := Row.slice hr
      have HC : Hid (confD s = if mayC (decC s.data.toList) = true then (decC s.data.toList, true) else ([], false)) := Lib.hid rfl
      clear hr hg
      generalize decC s.data.toList = Y at *
      go_wp2_with fail
      refine (ref_may _ Y _ hri).mono ?_
      rintro e w' ⟨rfl, nd, rfl⟩
      have hbd := below_drewN hbel nd
      have hrd := hri.drewN nd
      cases hm : mayC Y with
      | true =>
        have H1 : Hid (confD s = (Y, true)) := Lib.hid (by rw [HC.out, if_pos hm])
        clear hm HC
        go_wp2_with fail
        go_ret2
        exact ⟨_, by rw [H1.out]; rfl, by rw [H1.out]; exact hrd, hbd⟩
      | false =>
        have H1 : Hid (confD s = ([], false)) := Lib.hid (by rw [HC.out, if_neg (by rw [hm]; decide)])
        clear hm HC
        go_wp2_with fail
        go_ret2
        exact ⟨_, by rw [H1.out]; rfl, by rw [H1.out]; exact (RowI.nil _).ri, hbd⟩

theorem mayE_eq (e : Ent) : mayR (recE e) = mayE e := by
  cases h : mayE e with
  | true => exact (mayR_en (r := recE e) rfl).2 ⟨rfl, rfl, mayE_iff.1 h⟩
  | false =>
    refine Bool.eq_false_iff.2 fun hh => ?_
    have := (mayR_en (r := recE e) rfl).1 hh
    rw [show mayE e = true from mayE_iff.2 this.2.2] at h
    cases h
theorem mayM_kind (m : Msg) : mayM m = (headM m && kindM m && entsM m.t m.i m.l m.es && tailM m) := by
  unfold mayM
  cases headM m <;> cases kindM m <;> cases entsM m.t m.i m.l m.es <;> rfl
theorem eqSnp_zero (s : Snp) : eqSnp s ⟨0, 0, ⟨#[]⟩, ⟨#[]⟩⟩ = zeroSnpB s := by
  obtain ⟨i, t, c, d⟩ := s
  have e : ∀ d : ByteArray, decide (d = ⟨#[]⟩) = decide (d.size = 0) := fun d => by
    by_cases h : d.size = 0
    · rw [decide_eq_true h, decide_eq_true_eq]
      apply ByteArray.ext
      have : d.data.toList = [] := List.eq_nil_of_length_eq_zero ((size_data d).trans h)
      simpa using this
    · rw [decide_eq_false h, decide_eq_false_iff_not]
      intro e
      subst e
      exact h rfl
  unfold eqSnp zeroSnpB
  dsimp only
  rw [e c, e d]

set_option maxRecDepth 100000 in
set_option maxHeartbeats 4000000 in
theorem ref_mayMsg (v : Value) (m : Msg) (w : World) (h : EntR w v m.es) (hl : m.es.length ≤ 1000000000000) (hc : m.s.c.size ≤ 1000000000) :
    Calls Try.prog 12 #[msgAgg v m] w fun e w' => e = .returned (.bool (mayM m)) ∧ Below w.heap.size w w' := by
  obtain ⟨a, cap, rfl⟩ := h.slice
  have HNO := Lib.hid (headM_false (m := m))
  have HMB := Lib.hid (mayM_kind m)
  have HHI := Lib.hid (headM_iff (m := m))
  have HKI := Lib.hid (kindM_iff (m := m))
  have HT : Hid (tailM m = if m.k = 5 then (confD m.s.c).2 && mayS m.s else zeroSnpB m.s) := Lib.hid rfl
  obtain ⟨mk, mf, mo, mt, mi, ml, mc, my, es, ⟨si, st, sc, sd⟩⟩ := m
  dsimp only at *
  generalize hR : mayM ⟨mk, mf, mo, mt, mi, ml, mc, my, es, ⟨si, st, sc, sd⟩⟩ = R at *
  clear hR
  have hbx := (Below.refl w.heap.size w).alloc (Nat.le_refl _) (.cells #[.int .i64 mk, .int .i64 mf, .int .i64 mo, .int .i64 mt, .int .i64 mi, .int .i64 ml, .int .i64 mc, .bool my, .slice a es.length cap, .int .i64 si, .int .i64 st, .string sc, .string sd] 30)
  have hS := msgS_box w (.slice a es.length cap) ⟨mk, mf, mo, mt, mi, ml, mc, my, es, ⟨si, st, sc, sd⟩⟩ 30
  dsimp only at hS
  have hE := h.below hbx
  clear h
  unfold msgAgg
  dsimp only
  go_enter Try.func12, Try.ntmps12
  by_cases k1 : 1 ≤ mk
  case neg =>
    have t1 : decide (mk < 1) = true := decide_eq_true (by omega)
    have HF := Lib.hid (HNO.out (by omega))
    go_wp2_with fail
    go_ret
    rw [HF.out]
    exact ⟨rfl, hbx⟩
  have t1 : decide (mk < 1) = false := decide_eq_false (by omega)
  by_cases k2 : mk ≤ 5
  case neg =>
    have t2 : decide (5 < mk) = true := decide_eq_true (by omega)
    have HF := Lib.hid (HNO.out (by omega))
    go_wp2_with fail
    go_ret
    rw [HF.out]
    exact ⟨rfl, hbx⟩
  have t2 : decide (5 < mk) = false := decide_eq_false (by omega)
  go_wp2_with fail
  refine (ref_id mf _).mono ?_
  rintro e w1 ⟨rfl, rfl⟩
  rcases dec_cases (1 ≤ mf ∧ mf ≤ 7) with ⟨p_mf, q_mf⟩ | ⟨p_mf, q_mf⟩ <;> rw [show serverB mf = _ from q_mf]
  case inr =>
    have HF := Lib.hid (HNO.out (by omega))
    go_wp2_with fail
    go_ret
    rw [HF.out]
    exact ⟨rfl, hbx⟩
  go_wp2_with fail
  refine (ref_id mo _).mono ?_
  rintro e w1 ⟨rfl, rfl⟩
  rcases dec_cases (1 ≤ mo ∧ mo ≤ 7) with ⟨p_mo, q_mo⟩ | ⟨p_mo, q_mo⟩ <;> rw [show serverB mo = _ from q_mo]
  case inr =>
    have HF := Lib.hid (HNO.out (by omega))
    go_wp2_with fail
    go_ret
    rw [HF.out]
    exact ⟨rfl, hbx⟩
  by_cases k3 : 1 ≤ mt
  case neg =>
    have t3 : decide (mt < 1) = true := decide_eq_true (by omega)
    have HF := Lib.hid (HNO.out (by omega))
    go_wp2_with fail
    go_ret
    rw [HF.out]
    exact ⟨rfl, hbx⟩
  have t3 : decide (mt < 1) = false := decide_eq_false (by omega)
  by_cases k4 : mt ≤ 1099511627776
  case neg =>
    have t4 : decide (1099511627776 < mt) = true := decide_eq_true (by omega)
    have HF := Lib.hid (HNO.out (by omega))
    go_wp2_with fail
    go_ret
    rw [HF.out]
    exact ⟨rfl, hbx⟩
  have t4 : decide (1099511627776 < mt) = false := decide_eq_false (by omega)
  go_wp2_with fail
  refine (ref_num mi _).mono ?_
  rintro e w1 ⟨rfl, rfl⟩
  rcases dec_cases (0 ≤ mi ∧ mi ≤ 1099511627776) with ⟨p_mi, q_mi⟩ | ⟨p_mi, q_mi⟩ <;> rw [show numB mi = _ from q_mi]
  case inr =>
    have HF := Lib.hid (HNO.out (by omega))
    go_wp2_with fail
    go_ret
    rw [HF.out]
    exact ⟨rfl, hbx⟩
  go_wp2_with fail
  refine (ref_num ml _).mono ?_
  rintro e w1 ⟨rfl, rfl⟩
  rcases dec_cases (0 ≤ ml ∧ ml ≤ 1099511627776) with ⟨p_ml, q_ml⟩ | ⟨p_ml, q_ml⟩ <;> rw [show numB ml = _ from q_ml]
  case inr =>
    have HF := Lib.hid (HNO.out (by omega))
    go_wp2_with fail
    go_ret
    rw [HF.out]
    exact ⟨rfl, hbx⟩
  go_wp2_with fail
  refine (ref_num mc _).mono ?_
  rintro e w1 ⟨rfl, rfl⟩
  rcases dec_cases (0 ≤ mc ∧ mc ≤ 1099511627776) with ⟨p_mc, q_mc⟩ | ⟨p_mc, q_mc⟩ <;> rw [show numB mc = _ from q_mc]
  case inr =>
    have HF := Lib.hid (HNO.out (by omega))
    go_wp2_with fail
    go_ret
    rw [HF.out]
    exact ⟨rfl, hbx⟩
  have HM : Hid (R = (kindM ⟨mk, mf, mo, mt, mi, ml, mc, my, es, ⟨si, st, sc, sd⟩⟩ && entsM mt mi ml es && tailM ⟨mk, mf, mo, mt, mi, ml, mc, my, es, ⟨si, st, sc, sd⟩⟩)) := Lib.hid (by
    rw [HMB.out, HHI.out.2 (by omega)]
    simp)
  clear HNO HMB HHI
  have HKN : Hid (¬ ((es.length ≤ 8 ∧ (es.length = 0 ∨ mk = 3)) ∧ (my = false ∨ mk = 2 ∨ mk = 4)) → R = false) := Lib.hid (fun h => by
    rw [HM.out, show kindM ⟨mk, mf, mo, mt, mi, ml, mc, my, es, ⟨si, st, sc, sd⟩⟩ = false from Bool.eq_false_iff.2 fun e => h (HKI.out.1 e)]
    rfl)
  by_cases k5 : es.length ≤ 8
  case neg =>
    have t5 : decide (8 < (es.length : Int)) = true := decide_eq_true (by omega)
    have HF := Lib.hid (HKN.out (by omega))
    go_wp2_with fail
    go_ret
    rw [HF.out]
    exact ⟨rfl, hbx⟩
  have t5 : decide (8 < (es.length : Int)) = false := decide_eq_false (by omega)
  by_cases k6 : es.length = 0 ∨ mk = 3
  case neg =>
    have t6 : decide (0 < (es.length : Int)) = true := decide_eq_true (by omega)
    have t7 : (mk != 3) = true := by rw [bne_iff_ne]; omega
    have HF := Lib.hid (HKN.out (by omega))
    go_wp2_with fail
    go_ret
    rw [HF.out]
    exact ⟨rfl, hbx⟩
  by_cases k7 : my = false ∨ mk = 2 ∨ mk = 4
  case neg =>
    have HF := Lib.hid (HKN.out (fun h => k7 h.2))
    obtain rfl : my = true := by
      cases my with
      | true => rfl
      | false => exact absurd (.inl rfl) k7
    have n2 : (mk != 2) = true := by rw [bne_iff_ne]; exact fun h => k7 (.inr (.inl h))
    have n4 : (mk != 4) = true := by rw [bne_iff_ne]; exact fun h => k7 (.inr (.inr h))
    rcases (show es.length < 1 ∨ (0 < es.length ∧ mk = 3) from by
      by_cases h0 : es.length = 0
      · exact .inl (by omega)
      · exact .inr ⟨by omega, by omega⟩) with t6 | ⟨t6, h3⟩
    · clear k6 k7
      go_wp2_with fail
      go_ret
      rw [HF.out]
      exact ⟨rfl, hbx⟩
    · clear k6 k7
      subst h3
      go_wp2_with fail
      go_ret
      rw [HF.out]
      exact ⟨rfl, hbx⟩
  have HM2 : Hid (R = (entsM mt mi ml es && tailM ⟨mk, mf, mo, mt, mi, ml, mc, my, es, ⟨si, st, sc, sd⟩⟩)) := Lib.hid (by
    rw [HM.out, HKI.out.2 ⟨⟨k5, k6⟩, k7⟩]
    simp)
  clear HM HKI HKN
  have hwhy : (0 < es.length ∧ mk = 3 ∧ my = false) ∨ (es.length < 1 ∧ my = false) ∨ (es.length < 1 ∧ my = true ∧ mk = 2) ∨ (es.length < 1 ∧ my = true ∧ mk = 4) := by
    by_cases h0 : es.length = 0
    · have t0 : es.length < 1 := by omega
      cases hy : my with
      | false => exact .inr (.inl ⟨t0, rfl⟩)
      | true =>
        rw [hy] at k7
        rcases k7 with h | h | h
        · cases h
        · exact .inr (.inr (.inl ⟨t0, rfl, h⟩))
        · exact .inr (.inr (.inr ⟨t0, rfl, h⟩))
    · refine .inl ⟨by omega, by omega, ?_⟩
      rcases k7 with h | h | h
      · exact h
      · omega
      · omega
  have hmi := p_mi
  obtain ⟨K, hK⟩ : ∃ K, K = mk := ⟨_, rfl⟩
  have HT2 : Hid (tailM ⟨mk, mf, mo, mt, mi, ml, mc, my, es, ⟨si, st, sc, sd⟩⟩ = if K = 5 then (confD sc).2 && mayS ⟨si, st, sc, sd⟩ else zeroSnpB ⟨si, st, sc, sd⟩) := Lib.hid (by rw [HT.out, hK])
  have HM3 : Hid (R = (entsM mt mi ml es && (if K = 5 then (confD sc).2 && mayS ⟨si, st, sc, sd⟩ else zeroSnpB ⟨si, st, sc, sd⟩))) := Lib.hid (by rw [HM2.out, HT2.out])
  clear k6 k7 p_mf p_mo p_mi p_ml p_mc q_mf q_mo q_mi q_ml q_mc HM2 HT HT2
  rcases hwhy with ⟨t6, rfl, rfl⟩ | ⟨t6, rfl⟩ | ⟨t6, rfl, rfl⟩ | ⟨t6, rfl, rfl⟩
  · go_wp2_with fail
    generalize w.alloc _ = w0 at *
    go_loopw [3, 4, 5] (fun x i _ wr => ∃ (k : Nat) (q : Int), k ≤ es.length ∧ i = .int .i64 k ∧ x = .int .i64 q ∧ Below w0.heap.size w0 wr ∧ Hid (entsM mt mi ml es = entsM mt (mi + k) q (es.drop k))) (fun _ i _ _ => es.length - (intOf i).toNat)
    case atStart => exact ⟨0, _, by omega, rfl, rfl, Below.refl _ _, Lib.hid (by rw [List.drop_zero]; simp)⟩
    case round =>
      obtain ⟨k, q, hk, rfl, rfl, hbel, hM⟩ := hrel
      have hSr := hS.below hbel
      have d0 := hSr.c0
      have d3 := hSr.c3
      have d4 := hSr.c4
      have d8 := hSr.c8
      dsimp only at d0 d3 d4 d8
      have hbw := hbx.trans (hbel.mono hbx.size)
      have hSl := hS.lt
      by_cases hlt : k < es.length
      · obtain ⟨b, off, rfl, hb1, e0, e1, e2, e3⟩ := (hE.below hbel).cells k hlt
        have hM1 := hM.out
        rw [List.drop_eq_getElem_cons hlt, entsM_cons] at hM1
        generalize es[k] = e at *
        obtain ⟨ei, et, ek, ed⟩ := e
        dsimp only at e0 e1 e2 e3 hM1
        have HM1 := Lib.hid hM1
        clear hM hM1
        have hbx1 := hbel.alloc hbel.size (.cells #[.int .i64 ei, .int .i64 et, .int .i64 ek, .string ed] 35)
        have hbw1 := hbw.alloc hbw.size (.cells #[.int .i64 ei, .int .i64 et, .int .i64 ek, .string ed] 35)
        have hS1 := hS.below hbx1
        have f3 := hS1.c3
        have f4 := hS1.c4
        dsimp only at f3 f4
        by_cases h1 : ei = mi + k + 1
        case neg =>
          have HR : Hid (R = false) := Lib.hid (by rw [HM3.out, HM1.out, show (ei == mi + k + 1) = false from beq_eq_false_iff_ne.2 h1]; rfl)
          have u1 : (ei != mi + 1 + k) = true := by rw [bne_iff_ne]; omega
          go_wp2_with fail
          go_ret
          rw [HR.out]
          exact ⟨rfl, hbw1⟩
        have HEI := Lib.hid h1
        have u1 : (ei != mi + 1 + k) = false := by rw [bne_eq_false_iff_eq]; omega
        clear h1
        by_cases h2 : q ≤ et
        case neg =>
          have t2 : decide (et < q) = true := decide_eq_true (by omega)
          have HR : Hid (R = false) := Lib.hid (by rw [HM3.out, HM1.out, decide_eq_false h2]; simp)
          go_wp2_with fail
          go_ret
          rw [HR.out]
          exact ⟨rfl, hbw1⟩
        have t2 : decide (et < q) = false := decide_eq_false (by omega)
        by_cases h3 : et ≤ mt
        case neg =>
          have t3' : decide (mt < et) = true := decide_eq_true (by omega)
          have HR : Hid (R = false) := Lib.hid (by rw [HM3.out, HM1.out, decide_eq_false h3]; simp)
          go_wp2_with fail
          go_ret
          rw [HR.out]
          exact ⟨rfl, hbw1⟩
        have t3' : decide (mt < et) = false := decide_eq_false (by omega)
        go_wp2_with fail
        refine (ref_mayEntry ⟨ei, et, ek, ed⟩ _).mono ?_
        rintro e w2 ⟨rfl, hb2⟩
        have hw2 := hbw1.trans (hb2.mono hbw1.size)
        cases hm : mayE ⟨ei, et, ek, ed⟩ with
        | false =>
          have HR : Hid (R = false) := Lib.hid (by rw [HM3.out, HM1.out, mayE_eq, hm]; simp)
          go_wp2_with fail
          go_ret
          rw [HR.out]
          exact ⟨rfl, hw2⟩
        | true =>
          have hM2 : Hid (entsM mt mi ml es = entsM mt (mi + ((k + 1 : Nat) : Int)) et (es.drop (k + 1))) := Lib.hid (by
            rw [HM1.out, mayE_eq, hm, decide_eq_true h2, decide_eq_true h3, HEI.out, show mi + ((k + 1 : Nat) : Int) = mi + (k : Int) + 1 by omega]
            simp)
          have hbz := hbx1.trans (hb2.mono hbx1.size)
          have g1 : (wr.alloc (.cells #[.int .i64 ei, .int .i64 et, .int .i64 ek, .string ed] 35)).cell? ⟨wr.heap.size, 1, none⟩ = some (.int .i64 et) := World.cell?_alloc_new _ _ _ _
          have g1 := (hb2.cell (p := ⟨wr.heap.size, 1, none⟩) (by simp)).trans g1
          clear hm HM1 hSr hS1 f3 f4 d0 d3 d4 d8 hbx1 hbw1 hbel hbw hb2 hw2 e0 e1 e2 e3
          go_wp2_with fail
          go_roundw
          case rel => exact ⟨k + 1, et, by omega, by go_num, rfl, hbz, hM2⟩
          case measure => simp [intOf]; omega
      · obtain rfl : k = es.length := by omega
        have HR5 : Hid (R = if K = 5 then (confD sc).2 && mayS ⟨si, st, sc, sd⟩ else zeroSnpB ⟨si, st, sc, sd⟩) := Lib.hid (by
          rw [HM3.out, hM.out, List.drop_length]
          rfl)
        have d9 := hSr.c9
        have d10 := hSr.c10
        have d11 := hSr.c11
        have d12 := hSr.c12
        dsimp only at d9 d10 d11 d12
        clear HM3 hM hE
        by_cases h5 : K = 5
        · first
            | (exfalso; omega)
            | (obtain rfl : mk = 5 := by omega
               have HR6 : Hid (R = ((confD sc).2 && mayS ⟨si, st, sc, sd⟩)) := Lib.hid (by rw [HR5.out, if_pos h5])
               have HSr := Lib.hid hSr
               clear HR5 hSr hS
               go_wp2_with fail
               refine (ref_decodeConf sc _ hc).mono ?_
               rintro e w4 ⟨v4, rfl, -, hb4⟩
               have hS4 := HSr.out.below hb4
               have c9 := hS4.c9
               have c10 := hS4.c10
               have c11 := hS4.c11
               have c12 := hS4.c12
               dsimp only at c9 c10 c11 c12
               have hbw4 := hbw.trans (hb4.mono hbw.size)
               cases hcd : (confD sc).2 with
               | false =>
                 have HF : Hid (R = false) := Lib.hid (by rw [HR6.out, hcd]; rfl)
                 go_wp2_with fail
                 go_ret
                 rw [HF.out]
                 exact ⟨rfl, hbw4⟩
               | true =>
                 have HF : Hid (R = mayS ⟨si, st, sc, sd⟩) := Lib.hid (by rw [HR6.out, hcd]; rfl)
                 go_wp2_with fail
                 refine (ref_maySnap ⟨si, st, sc, sd⟩ _).mono ?_
                 rintro e w5 ⟨rfl, hb5⟩
                 rw [← HF.out]
                 go_wp2_with fail
                 go_ret
                 exact ⟨rfl, hbw4.trans (hb5.mono hbw4.size)⟩)
        · have HR6 : Hid (R = zeroSnpB ⟨si, st, sc, sd⟩) := Lib.hid (by rw [HR5.out, if_neg h5])
          try (have n5 : (mk != 5) = true := by rw [bne_iff_ne]; omega)
          clear HR5
          go_wp2_with fail
          refine (eq_snapG ⟨si, st, sc, sd⟩ ⟨0, 0, ⟨#[]⟩, ⟨#[]⟩⟩ _).mono ?_
          rintro e w5 ⟨rfl, hb5⟩
          rw [eqSnp_zero, ← HR6.out]
          go_wp2_with fail
          go_ret
          exact ⟨rfl, hbw.trans (hb5.mono hbw.size)⟩
  all_goals
    go_wp2_with fail
    generalize w.alloc _ = w0 at *
    go_loopw [3, 4, 5] (fun x i _ wr => ∃ (k : Nat) (q : Int), k ≤ es.length ∧ i = .int .i64 k ∧ x = .int .i64 q ∧ Below w0.heap.size w0 wr ∧ Hid (entsM mt mi ml es = entsM mt (mi + k) q (es.drop k))) (fun _ i _ _ => es.length - (intOf i).toNat)
    case atStart => exact ⟨0, _, by omega, rfl, rfl, Below.refl _ _, Lib.hid (by rw [List.drop_zero]; simp)⟩
    case round =>
      obtain ⟨k, q, hk, rfl, rfl, hbel, hM⟩ := hrel
      have hSr := hS.below hbel
      have d0 := hSr.c0
      have d3 := hSr.c3
      have d4 := hSr.c4
      have d8 := hSr.c8
      dsimp only at d0 d3 d4 d8
      have hbw := hbx.trans (hbel.mono hbx.size)
      have hSl := hS.lt
      by_cases hlt : k < es.length
      · first
          | (exfalso; omega)
      · obtain rfl : k = es.length := by omega
        have HR5 : Hid (R = if K = 5 then (confD sc).2 && mayS ⟨si, st, sc, sd⟩ else zeroSnpB ⟨si, st, sc, sd⟩) := Lib.hid (by
          rw [HM3.out, hM.out, List.drop_length]
          rfl)
        have d9 := hSr.c9
        have d10 := hSr.c10
        have d11 := hSr.c11
        have d12 := hSr.c12
        dsimp only at d9 d10 d11 d12
        clear HM3 hM hE
        by_cases h5 : K = 5
        · first
            | (exfalso; omega)
            | (obtain rfl : mk = 5 := by omega
               have HR6 : Hid (R = ((confD sc).2 && mayS ⟨si, st, sc, sd⟩)) := Lib.hid (by rw [HR5.out, if_pos h5])
               have HSr := Lib.hid hSr
               clear HR5 hSr hS
               go_wp2_with fail
               refine (ref_decodeConf sc _ hc).mono ?_
               rintro e w4 ⟨v4, rfl, -, hb4⟩
               have hS4 := HSr.out.below hb4
               have c9 := hS4.c9
               have c10 := hS4.c10
               have c11 := hS4.c11
               have c12 := hS4.c12
               dsimp only at c9 c10 c11 c12
               have hbw4 := hbw.trans (hb4.mono hbw.size)
               cases hcd : (confD sc).2 with
               | false =>
                 have HF : Hid (R = false) := Lib.hid (by rw [HR6.out, hcd]; rfl)
                 go_wp2_with fail
                 go_ret
                 rw [HF.out]
                 exact ⟨rfl, hbw4⟩
               | true =>
                 have HF : Hid (R = mayS ⟨si, st, sc, sd⟩) := Lib.hid (by rw [HR6.out, hcd]; rfl)
                 go_wp2_with fail
                 refine (ref_maySnap ⟨si, st, sc, sd⟩ _).mono ?_
                 rintro e w5 ⟨rfl, hb5⟩
                 rw [← HF.out]
                 go_wp2_with fail
                 go_ret
                 exact ⟨rfl, hbw4.trans (hb5.mono hbw4.size)⟩)
        · have HR6 : Hid (R = zeroSnpB ⟨si, st, sc, sd⟩) := Lib.hid (by rw [HR5.out, if_neg h5])
          try (have n5 : (mk != 5) = true := by rw [bne_iff_ne]; omega)
          clear HR5
          go_wp2_with fail
          refine (eq_snapG ⟨si, st, sc, sd⟩ ⟨0, 0, ⟨#[]⟩, ⟨#[]⟩⟩ _).mono ?_
          rintro e w5 ⟨rfl, hb5⟩
          rw [eqSnp_zero, ← HR6.out]
          go_wp2_with fail
          go_ret
          exact ⟨rfl, hbw.trans (hb5.mono hbw.size)⟩
end Go.Proofs.Ytcogmohepcifiaa
