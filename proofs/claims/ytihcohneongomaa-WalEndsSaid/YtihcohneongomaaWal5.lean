/-
  No claim by itself: how the program reads records one behind the other. No condition.
-/
import Derived.Test.YtihcohneongomaaWal4
import Derived.Test.YtihcohneongomaaFrameL
namespace Go.Proofs.Ytihcohneongomaa
open Go.ChangeShapes Go.WideShapes Go.ChangeAt Go.RowKit

def recCells (r : Rec) : List Value := [.bool r.hd, .int .i64 r.t, .int .i64 r.v, .int .i64 r.e.i, .int .i64 r.e.t, .int .i64 r.e.k, .string r.e.d]
def RecO (T : TypeId) (w : World) (base : Nat) (v : Value) (rs : List Rec) : Prop := w.ownsRow base T 7 v rs.length (rs.flatMap recCells)
theorem recCells_oneCell (r : Rec) : ∀ u ∈ recCells r, u.oneCell' = true := by
  intro u hu
  simp only [recCells, List.mem_cons, List.not_mem_nil, or_false] at hu
  rcases hu with rfl | rfl | rfl | rfl | rfl | rfl | rfl <;> rfl
theorem info_wrec : (Try.prog.info? 66).map (fun i => (i.zero, i.size, i.bytes)) = some (some (.agg #[.bool false, .int .i64 0, .int .i64 0, .int .i64 0, .int .i64 0, .int .i64 0, .string ⟨#[]⟩]), 7, 64) := by kernel_rfl
theorem RecO.snoc {T : TypeId} {w : World} {base : Nat} {v : Value} {rs : List Rec} {r : Rec} (h : w.ownsRow base T 7 v (rs.length + 1) (rs.flatMap recCells ++ recCells r)) : RecO T w base v (rs ++ [r]) := by
  unfold RecO
  rw [List.length_append, List.flatMap_append]
  simpa using h

def RetScan (T : TypeId) (w : World) (l : List UInt8) (e : Ending) (w' : World) : Prop :=
  ∃ v, e = .returned (.tuple #[v, .int .i64 ((scanR l).2.1 : Nat), .bool (scanR l).2.2]) ∧ RecO T w' w.heap.size v (scanR l).1 ∧ Below w.heap.size w w'

set_option maxRecDepth 100000 in
set_option maxHeartbeats 2000000 in
theorem wal_scan (v : Value) (l : List UInt8) (w : World) (h : Bytes w v l) (hl : l.length ≤ 1000000) :
    Calls Try.prog 64 #[v] w fun e w' => RetScan 66 w l e w' := by
  have hb := h
  obtain ⟨a, cap, rfl, hcap, hcm, -⟩ := h
  go_enter Try.func64, Try.ntmps64
  go_wp2_with fail
  go_loopw [5, 6] (fun s i wr => ∃ (k : Nat) (rs : List Rec), k ≤ l.length ∧ i = .int .i64 k ∧ RecO 66 wr w.heap.size s rs ∧ rs.length ≤ k ∧ Hid (scanR l = (rs ++ (scanR (l.drop k)).1, k + (scanR (l.drop k)).2.1, (scanR (l.drop k)).2.2)) ∧ Below w.heap.size w wr) (fun _ i _ => l.length - (intOf i).toNat)
  case atStart => exact ⟨0, [], by omega, rfl, World.ownsRow_nil w _ _ _, by simp, Lib.hid (by simp), Below.refl _ _⟩
  case round =>
    obtain ⟨k, rs, hk, rfl, hF, hrl, hA, hbel⟩ := hrel
    by_cases hlt : k < l.length
    · have hsub := (hb.below hbel rfl).sub k (l.length - k) (by omega)
      rw [List.take_of_length_le (by rw [List.length_drop]; omega), if_neg (by omega)] at hsub
      have hlen : (l.drop k).length ≤ 1000000000 := by rw [List.length_drop]; omega
      have hne : (l.drop k).length ≠ 0 := by rw [List.length_drop]; omega
      have hOk : (decR (l.drop k)).2.2 = 0 → 5 ≤ (decR (l.drop k)).2.1 ∧ (decR (l.drop k)).2.1 ≤ l.length - k := fun h => by
        have := decR_ok h
        rw [List.length_drop] at this
        exact ⟨this.2.2.2.1, this.2.2.2.2⟩
      have hAy : (decR (l.drop k)).2.2 = 0 → scanR l = (rs ++ (decR (l.drop k)).1 :: (scanR (l.drop (k + (decR (l.drop k)).2.1))).1, k + (decR (l.drop k)).2.1 + (scanR (l.drop (k + (decR (l.drop k)).2.1))).2.1, (scanR (l.drop (k + (decR (l.drop k)).2.1))).2.2) := fun h => by
        rw [hA.out, scanR_yes hne h, List.drop_drop, Nat.add_assoc]
      have hAn : (decR (l.drop k)).2.2 ≠ 0 → scanR l = (rs, k, decide ((decR (l.drop k)).2.2 = 2)) := fun h => by
        rw [hA.out, scanR_no hne h]
        simp
      generalize hr : decR (l.drop k) = r at *
      have HOk := Lib.hid hOk
      have HAy := Lib.hid hAy
      have HAn := Lib.hid hAn
      have HR := Lib.hid hr
      clear hOk hAy hAn hr hA
      obtain ⟨⟨rh, rt, rv, ⟨ri, rt', rk, rd⟩⟩, rn, re⟩ := r
      dsimp only at HOk HAy HAn
      go_wp2_with fail
      refine (wal_decode _ _ wr hsub hlen).mono ?_
      rw [HR.out]
      rintro e w2 ⟨rfl, hb2⟩
      unfold decV recAgg
      dsimp only
      clear HR hsub hlen
      have hb3 : Below w.heap.size w w2 := hbel.trans (hb2.mono hbel.size)
      by_cases hre : re = 0
      · subst hre
        obtain ⟨o1, o2⟩ := HOk.out rfl
        have HA := Lib.hid (HAy.out rfl)
        clear HOk HAy HAn
        have hF2 : RecO 66 w2 w.heap.size _ rs := ownsRow_below hF hb2
        have hbx := (Below.refl w2.heap.size w2).alloc (Nat.le_refl _) (.cells #[.bool rh, .int .i64 rt, .int .i64 rv, .int .i64 ri, .int .i64 rt', .int .i64 rk, .string rd] 66)
        have hby := hbx.alloc hbx.size (.cells #[.bool rh, .int .i64 rt, .int .i64 rv, .int .i64 ri, .int .i64 rt', .int .i64 rk, .string rd] 66)
        have hF3 : RecO 66 _ w.heap.size _ rs := ownsRow_below hF2 hby
        have hb4 := hb3.trans (hby.mono hb3.size)
        have hcell : ∀ j u, (recCells ⟨rh, rt, rv, ⟨ri, rt', rk, rd⟩⟩)[j]? = some u → ((w2.alloc (.cells #[.bool rh, .int .i64 rt, .int .i64 rv, .int .i64 ri, .int .i64 rt', .int .i64 rk, .string rd] 66)).alloc (.cells #[.bool rh, .int .i64 rt, .int .i64 rv, .int .i64 ri, .int .i64 rt', .int .i64 rk, .string rd] 66)).cell? ((⟨w2.heap.size + 1, 0, none⟩ : Addr).add j) = some u := fun j u hu => by
          rw [Addr.add_lit, Nat.zero_add, show w2.heap.size + 1 = (w2.alloc (.cells #[.bool rh, .int .i64 rt, .int .i64 rv, .int .i64 ri, .int .i64 rt', .int .i64 rk, .string rd] 66)).heap.size from by simp, World.cell?_alloc_new]
          simpa [recCells] using hu
        have HC := Lib.hid hcell
        clear hcell hF hF2 hb2 hbel hbx hby hb3
        rw [show ((0 : Nat) : Int) = 0 from rfl]
        go_wp2_with (at_builtin; refine wpList_append_recs 98 w.heap.size 66 7 (.agg #[.bool false, .int .i64 0, .int .i64 0, .int .i64 0, .int .i64 0, .int .i64 0, .string ⟨#[]⟩]) 64 Try.underlying98 info_wrec rfl (by decide) rfl _ _ rfl hF3 (news := recCells ⟨rh, rt, rv, ⟨ri, rt', rk, rd⟩⟩) (k := 1) rfl (fun _ => ⟨_, rfl, HC.out⟩) (recCells_oneCell _) rfl rfl (by simp [maxLen]; omega) (by omega) hb4.size ?_)
        intro v5 w5 hown5 hg5 hk5
        have hP := RecO.snoc hown5
        have hb5 : Below w.heap.size w w5 := hb4.grown hg5 hb4.size (fun k hk => (World.ownsRow.lt hF3 k hk).1)
        clear hF3 hown5 hg5 hk5 hb4
        go_wp2_with fail
        go_roundw
        case rel => exact ⟨k + rn, _, by omega, by go_num, hP, by simp; omega, Lib.hid (by rw [HA.out]; simp), hb5⟩
        case measure => simp [intOf]; omega
      · have HA := Lib.hid (HAn.out hre)
        have hre' : ((re : Int) != 0) = true := by simp; omega
        clear HOk HAy HAn
        rcases dec_cases (re = 2) with ⟨h2, td⟩ | ⟨h2, td⟩
        · subst h2
          go_wp2_with fail
          go_ret3
          refine ⟨_, ?_, (by rw [HA.out]; exact ownsRow_below (ownsRow_below hF hb2) ((Below.refl _ _).alloc (Nat.le_refl _) _)), hb3.alloc hb3.size _⟩
          rw [HA.out]
          rfl
        · have hr2 : ((re : Int) == 2) = false := beq_eq_false_iff_ne.2 (by omega)
          have HT := Lib.hid td
          go_wp2_with fail
          go_ret3
          refine ⟨_, ?_, (by rw [HA.out]; exact ownsRow_below (ownsRow_below hF hb2) ((Below.refl _ _).alloc (Nat.le_refl _) _)), hb3.alloc hb3.size _⟩
          rw [HA.out, HT.out]
          rfl
    · have hkl : k = l.length := by omega
      subst hkl
      have hA2 : scanR l = (rs, l.length, true) := by
        have := hA.out
        rw [List.drop_length, scanR_nil] at this
        simpa using this
      have HA2 := Lib.hid hA2
      clear hA2
      go_wp2_with fail
      go_ret3
      refine ⟨_, ?_, by rw [HA2.out]; exact hF, hbel⟩
      rw [HA2.out]
      rfl
end Go.Proofs.Ytihcohneongomaa
