/-
  No claim by itself: how the program writes a snapshot. No condition.
-/
import Derived.Test.YtcogmohepcifiaaP5
import Derived.Test.YtcogmohepcifiaaP10
import Derived.Test.YtcogmohepcifiaaP7
import Derived.Laws.IdiomStrings
namespace Go.Proofs.Ytcogmohepcifiaa
open Go.ChangeShapes Go.WideShapes Go.ChangeAt Go.RowKit

theorem extract_list (s : ByteArray) (a b : Nat) : (s.extract a b).data.toList = (s.data.toList.drop a).take (b - a) := by
  rw [ByteArray.data_extract, Array.toList_extract]
/-- '[]byte(s)': a new row. -/
theorem conv_bytes (w : World) (s : ByteArray) (hs : s.size ≤ 1000000000) : ∃ v w', (convert 9 46 (.string s)).run Try.prog w = .ok v w' ∧ Bytes w' v s.data.toList ∧ Below w.heap.size w w' := by
  refine ⟨_, _, run_bytes_of_string w 9 46 5 s Try.underlying9 Try.underlying46 Try.underlying5, ?_, (Below.refl _ _).drew.alloc (by simp) _⟩
  have hge := grownCap_ge w s.size 0 5
  have hcm : grownCap w s.size 0 5 ≤ maxLen := grownCap_le_maxLen w s.size 0 _ (by unfold maxLen; omega)
  refine ⟨_, _, by rw [size_data], by rw [size_data]; exact hge, by simpa [maxLen] using hcm, fun _ => ⟨_, _, rfl, fun j hj => ?_⟩⟩
  rw [Nat.zero_add, cell_of_row _ w.heap.size j _ 5 _ (heap_alloc_new w.drew _)]
  rw [size_data] at hj
  unfold bytesRow
  rw [Array.getElem?_append_left (by simpa using hj)]
  have hj' : j < s.data.size := hj
  simp
  exact ⟨_, Array.getElem?_eq_getElem hj', rfl⟩

def strSize : Value → Nat
  | .string s => s.size
  | _ => 0
theorem parts_len : ∀ (f : Nat) (d : List UInt8), d.length < f → (partsP d).length ≤ 16 * d.length := by
  intro f
  induction f with
  | zero => intro d h; omega
  | succ f ih =>
    intro d hf
    by_cases h0 : d.length = 0
    · have : d = [] := List.eq_nil_of_length_eq_zero h0
      subst this
      simp [partsP_nil]
    · have := ih (d.drop 3000) (by rw [List.length_drop]; omega)
      have ht : (d.take 3000).length = min 3000 d.length := List.length_take
      rw [partsP_cons h0, List.length_append, sealP_len (by omega) (by omega) (by omega)]
      have hp := (putN_len ((d.take 3000).length : Nat)).2
      rw [List.length_drop] at this
      omega

set_option maxRecDepth 100000 in
set_option maxHeartbeats 2000000 in
theorem wal_putSnap (s : Snp) (w : World) : Calls Try.prog 44 #[snpAgg s] w fun e w' => RetNew w (putS s) e w' := by
  have hb := (Below.refl w.heap.size w).alloc (Nat.le_refl _) (.cells #[.int .i64 s.i, .int .i64 s.t, .string s.c, .string s.d] 28)
  have c0 := World.cell?_alloc_new w #[.int .i64 s.i, .int .i64 s.t, .string s.c, .string s.d] 28 0
  by_cases hm : mayS s = true
  case neg =>
    have hm : mayS s = false := by simpa using hm
    have HE : Hid (putS s = []) := Lib.hid (by unfold putS; rw [hm]; rfl)
    have HM := Lib.hid hm
    clear hm
    unfold snpAgg
    go_enter Try.func44, Try.ntmps44
    go_wp2_with fail
    refine (wal_snapMay s _).mono ?_
    rintro e w1 ⟨rfl, hb1⟩
    rw [HM.out]
    have hbw := hb.trans (hb1.mono hb.size)
    go_wp2_with fail
    go_ret
    exact ⟨_, rfl, by rw [HE.out]; exact OwnB.nil _ _ _, hbw⟩
  case pos =>
    have HE : Hid (putS s = sealP 3 (headS s) ++ partsP s.d.data.toList) := Lib.hid (by unfold putS; rw [if_pos hm])
    have hhl := headS_len hm
    obtain ⟨k0, k1, k2, k3, k4, k5⟩ := mayS_iff.1 hm
    have HM := Lib.hid hm
    clear hm c0
    obtain ⟨i, t, c, d⟩ := s
    unfold snpAgg
    dsimp only at *
    go_enter Try.func44, Try.ntmps44
    go_wp2_with fail
    refine (wal_snapMay ⟨i, t, c, d⟩ _).mono ?_
    rintro e w1 ⟨rfl, hb1⟩
    rw [HM.out]
    have hbw := hb.trans (hb1.mono hb.size)
    have hS1 := (snapS_box w ⟨i, t, c, d⟩ 28).below hb1
    clear hb hb1
    have hblt := hS1.lt
    have hp1 := putN_len i
    have hp2 := putN_len t
    go_upto_region 3 with fail
    go_cut [3] (fun x wx => OwnB wx w1.heap.size 5 x (putN i ++ putN t ++ putT c.data.toList) ∧ Below w1.heap.size w1 wx)
    case first =>
      have c0 := hS1.c0
      have c1 := hS1.c1
      have c2 := hS1.c2
      dsimp only at c0 c1 c2
      generalize hNN : w.heap.size = N at *
      refine wp_region_ch (by rfl) (by kernel_rfl) (fun k' => match k' with | 2 => some (BytesAt w1.heap.size (putN i)) | 5 => some (BytesAt w1.heap.size (putN i ++ putN t)) | 8 => some (BytesAt w1.heap.size (putN i ++ putN t ++ putT c.data.toList)) | _ => none) ⟨[2, 5, 8], [5, 8], [(2, 5), (5, 8)]⟩ (PlanOk.of [2, 5, 8] (by kernel_rfl) (fun k φ hk => ?_) (fun k φ hk v w1 w2 h1 h2 => ?_)) (fun vals => ?_)
      · split at hk
        all_goals first | (cases hk; done) | simp
      · split at hk
        all_goals first | (cases hk; exact OwnB.below h1 h2) | cases hk
      ((with_reducible refine sc_pure ?_ (fun K hK => ?_)); (· rfl); go_simp; with_reducible refine hK _ ?_; clear hK K)
      refine sc_at (.int .i64 i) rfl rfl (fun wz hz' hH => ?_) (fun K hK => ?_)
      · have g := (hz'.cell (p := ⟨N, 0, none⟩) hblt).trans c0
        go_simp
      go_simp; refine hK _ ?_; clear hK K
      refine sc_call _ rfl rfl rfl (fun wz hz' hH => ?_) (fun K hK => ?_)
      · go_simp
        go_at_call 36
        refine (num_put _ [] i w1.heap.size _ (by omega) (by omega) (by simp) hz'.size (OwnB.nil _ _ _)).mono ?_
        rintro e w2 ⟨v2, rfl, ho, hg, -⟩
        exact ⟨v2, rfl, ho, below_of_grown hg⟩
      go_simp; refine hK _ ?_; clear hK K
      ((with_reducible refine sc_pure ?_ (fun K hK => ?_)); (· rfl); go_simp; with_reducible refine hK _ ?_; clear hK K)
      refine sc_at (.int .i64 t) rfl rfl (fun wz hz' hH => ?_) (fun K hK => ?_)
      · have g := (hz'.cell (p := ⟨N, 1, none⟩) hblt).trans c1
        go_simp
      go_simp; refine hK _ ?_; clear hK K
      refine sc_grow _ rfl rfl rfl (fun wz hz' hH => ?_) (fun K hK => ?_)
      · have e3 := hH _ (List.Mem.head _) rfl
        unfold BytesAt at e3
        go_simp
        go_at_call 36
        refine (num_put _ (putN i) t w1.heap.size _ (by omega) (by omega) (by omega) hz'.size e3).mono ?_
        rintro e w2 ⟨v2, rfl, ho, hg, -⟩
        exact ⟨v2, rfl, ho, (Below.refl _ _).grown hg hz'.size (fun k hk => (e3.lt k hk).1), fun hd => by cases hd⟩
      go_simp; refine hK _ ?_; clear hK K
      ((with_reducible refine sc_pure ?_ (fun K hK => ?_)); (· rfl); go_simp; with_reducible refine hK _ ?_; clear hK K)
      refine sc_at (.string c) rfl rfl (fun wz hz' hH => ?_) (fun K hK => ?_)
      · have g := (hz'.cell (p := ⟨N, 2, none⟩) hblt).trans c2
        go_simp
      go_simp; refine hK _ ?_; clear hK K
      refine sc_grow _ rfl rfl rfl (fun wz hz' hH => ?_) (fun K hK => ?_)
      · have e3 := hH _ (List.Mem.head _) rfl
        unfold BytesAt at e3
        go_simp
        go_at_call 62
        refine (num_putText _ (putN i ++ putN t) c w1.heap.size _ (by rw [List.length_append]; omega) hz'.size e3).mono ?_
        rintro e w2 ⟨v2, rfl, ho, hg, -⟩
        exact ⟨v2, rfl, by unfold BytesAt; rw [← List.append_assoc]; exact ho, (Below.refl _ _).grown hg hz'.size (fun k hk => (e3.lt k hk).1), fun hd => (by cases hd), fun hd => (by cases hd)⟩
      go_simp; refine hK _ ?_; clear hK K
      ((with_reducible refine sc_pure ?_ (fun K hK => ?_)); (· rfl); go_simp; with_reducible refine hK _ ?_; clear hK K)
      refine sc_done (fun wz hz hH => ?_)
      have e8 := hH _ (List.Mem.head _) rfl
      unfold BytesAt at e8
      go_wp2_with fail
      go_meet
      exact ⟨e8, hz⟩
    case rest =>
      obtain ⟨ho, hbz⟩ := hcut
      rename World => w2
      have hS2 := hS1.below hbz
      have c3 := hS2.c3
      dsimp only at c3
      have hbzz := hbz.size
      clear hS1 hS2
      have hA : headS ⟨i, t, c, d⟩ = putN i ++ putN t ++ putT c.data.toList ++ putN (d.size : Nat) := rfl
      have hl1 : (putN i ++ putN t ++ putT c.data.toList).length ≤ 90 := by rw [hA, List.length_append] at hhl; omega
      generalize putN i ++ putN t ++ putT c.data.toList = A at *
      go_wp2_with fail
      refine (num_put _ A d.size w1.heap.size _ (by omega) (by omega) (by omega) hbzz ho).mono ?_
      rintro e w3 ⟨v3, rfl, ho3, hg3, -⟩
      rw [← hA] at ho3
      have hb3 : Below w1.heap.size w1 w3 := hbz.grown hg3 hbzz (fun k hk => (ho.lt k hk).1)
      have hk3 : w3.cell? ⟨w.heap.size, 3, none⟩ = some (.string d) := by
        rw [World.cell?_of_block (w := w2) (hg3.block w.heap.size (Nat.lt_of_lt_of_le hblt hbzz) (fun e => by have := (ho.lt _ e.symm).1; omega))]
        exact c3
      clear hg3 ho c3
      go_wp2_with fail
      refine (frame_seal 3 _ _ _ (by omega) (by omega) ho3.bytes).mono ?_
      rintro e w4 ⟨v4, rfl, ho4, hb4⟩
      have hk4 : w4.cell? ⟨w.heap.size, 3, none⟩ = some (.string d) := by
        rw [hb4.cell (p := ⟨w.heap.size, 3, none⟩) (Nat.lt_of_lt_of_le hblt hb3.size)]
        exact hk3
      have hb5 := hbw.trans ((hb3.trans (hb4.mono hb3.size)).mono hbw.size)
      have ho5 := ho4.rebase (Nat.le_trans hbw.size hb3.size)
      clear ho4 hb4 hb3 hk3 ho3
      have hcl := sealP_le 3 (headS ⟨i, t, c, d⟩)
      go_wp2_with fail
      go_loopw [4, 5, 6] (fun o r _ wr => ∃ (cur : List UInt8) (R : ByteArray), r = .string R ∧ OwnB wr w.heap.size 5 o cur ∧ Hid (putS ⟨i, t, c, d⟩ = cur ++ partsP R.data.toList) ∧ cur.length + 16 * R.size ≤ 3300000 ∧ R.size ≤ 200000 ∧ Below w.heap.size w wr) (fun _ r _ _ => strSize r)
      case atStart => exact ⟨_, d, rfl, ho5, HE, by omega, k5, hb5⟩
      case round =>
        clear hb5 ho5 hk4 hcl hl1 hA hbz hbzz hbw hblt
        obtain ⟨cur, R, rfl, hF, hE, hsz, hR, hbel⟩ := hrel
        have hRl : R.data.toList.length = R.size := size_data _
        by_cases hz : R.size = 0
        · have hnil : R.toList.isEmpty = true := by rw [(nil_iff R).2 hz]; rfl
          have hE2 : Hid (putS ⟨i, t, c, d⟩ = cur) := Lib.hid (by
            rw [hE.out, show R.data.toList = [] from List.eq_nil_of_length_eq_zero (by omega), partsP_nil, List.append_nil])
          clear hE HE
          go_wp2_with fail
          go_ret
          exact ⟨_, rfl, by rw [hE2.out]; exact hF, hbel⟩
        · have hnil : R.toList.isEmpty = false := by
            rw [List.isEmpty_eq_false_iff]
            exact fun h => hz ((nil_iff R).1 h)
          have hmin : (if 3000 < ((R.size : Nat) : Int) then 3000 else ((R.size : Nat) : Int)) = ((min R.size 3000 : Nat) : Int) := by split <;> omega
          obtain ⟨m, hm⟩ : ∃ m, m = min R.size 3000 := ⟨_, rfl⟩
          rw [← hm] at hmin
          have hm1 : m ≤ R.size := by omega
          have hm2 : m ≤ 3000 := by omega
          have hm3 : 1 ≤ m := by omega
          have HM2 := Lib.hid hm
          clear hm
          have hx0 : (R.extract 0 m).data.toList = R.data.toList.take 3000 := by
            rw [extract_list, List.drop_zero, Nat.sub_zero, HM2.out]
            rcases Nat.le_total R.size 3000 with h | h
            · rw [Nat.min_eq_left h, List.take_of_length_le (by omega), List.take_of_length_le (by omega)]
            · rw [Nat.min_eq_right h]
          have hx1 : (R.extract m R.size).data.toList = R.data.toList.drop 3000 := by
            rw [extract_list, List.take_of_length_le (by rw [List.length_drop]; omega), HM2.out]
            rcases Nat.le_total R.size 3000 with h | h
            · rw [Nat.min_eq_left h, List.drop_of_length_le (by omega), List.drop_of_length_le (by omega)]
            · rw [Nat.min_eq_right h]
          have hl0 : (R.extract 0 m).data.toList.length = m := by rw [hx0, List.length_take, HM2.out]; omega
          have hs1 : (R.extract m R.size).size = R.size - m := by rw [← size_data, hx1, List.length_drop, HM2.out]; omega
          have hs0 : (R.extract 0 m).size = m := by rw [← size_data]; exact hl0
          have hE3 : Hid (putS ⟨i, t, c, d⟩ = cur ++ sealP 4 (R.extract 0 m).data.toList ++ partsP (R.extract m R.size).data.toList) := Lib.hid (by
            rw [hE.out, partsP_cons (by omega), hx0, hx1, List.append_assoc])
          have hsl : (sealP 4 (R.extract 0 m).data.toList).length ≤ 15 + m := by
            have := (putN_len ((R.extract 0 m).data.toList.length : Nat)).2
            rw [sealP_len (by omega) (by omega) (by omega)]
            omega
          have hsl2 := hsl
          rw [show (R.extract 0 m).data.toList = R.data.toList.take m from by rw [extract_list, List.drop_zero, Nat.sub_zero]] at hE3 hsl2
          obtain ⟨cv, cw, hcv, hB, hBel⟩ := conv_bytes wr (R.extract 0 m) (by omega)
          have HS1 := Lib.hid hs1
          clear hs1 hx0 hx1 hE
          go_wp2_with fail
          refine (frame_seal 4 _ _ _ (by omega) (by omega) hB).mono ?_
          rintro e w6 ⟨v6, rfl, ho6, hb6⟩
          have hbq := hBel.trans (hb6.mono hBel.size)
          have hF6 := hF.below hbq
          have hb7 := hbel.trans (hbq.mono hbel.size)
          clear hB hBel hb6 hbq hF hbel hcv
          go_wp2_with (at_builtin; refine wpList_append_bytes 46 w.heap.size 5 Try.underlying46 info_u8 rfl _ _ rfl hF6 ho6.bytes rfl rfl (by omega) hb7.size ?_)
          intro v7 w7 ho7 hg7 hk7
          have hb8 : Below w.heap.size w w7 := hb7.grown hg7 hb7.size (fun k hk => (hF6.lt k hk).1)
          clear hg7 hk7 ho6 hF6 hb7
          go_wp2_with fail
          go_roundw
          case rel => exact ⟨_, _, rfl, ho7, hE3, by rw [List.length_append, HS1.out]; omega, by rw [HS1.out]; omega, hb8⟩
          case measure => simp only [strSize]; rw [HS1.out]; omega
end Go.Proofs.Ytcogmohepcifiaa
