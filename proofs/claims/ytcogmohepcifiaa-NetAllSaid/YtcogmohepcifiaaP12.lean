/-
  No claim by itself: May of messages, told by the program. | what the document says a record and a snapshot may be, and whether two are the same. | who belongs, as the document tells it: MayConf, Has, Majority. No condition.
-/
import Derived.Test.YtcogmohepcifiaaP8
import Derived.Test.YtcogmohepcifiaaP11
import Derived.Laws.StructEq
import Derived.Lib.LazyBuf
import Derived.Test.YtcogmohepcifiaaP10
import Derived.Test.YtcogmohepcifiaaP7
import Derived.Test.YtcogmohepcifiaaP5
namespace Go.Proofs.Ytcogmohepcifiaa
open Go.ChangeShapes Go.WideShapes Go.ChangeAt Go.RowKit

set_option maxRecDepth 100000 in
theorem snap_eql (s : Snp) (w : World) : (binOp .eql 28 (snpAgg s) (.agg #[.int .i64 0, .int .i64 0, .string ⟨#[]⟩, .string ⟨#[]⟩])).run Try.prog w = .ok (.bool (zeroSnpB s)) w := by
  obtain ⟨i, t, c, d⟩ := s
  have hS : Try.prog.underlying 28 = some (.struct (Try.prog.fieldsOf 28)) := by kernel_rfl
  have hp : Try.prog.stoodInHeld 28 = false := by kernel_rfl
  have u2 := Try.underlying2
  have u9 := Try.underlying9
  have a2 := Try.isAgg2
  have z2 := Try.sizeOf2
  have a9 := Try.isAgg9
  have z9 := Try.sizeOf9
  have HZ : Hid (zeroSnpB ⟨i, t, c, d⟩ = ((i == 0) && (t == 0) && decide (c.size = 0) && decide (d.size = 0))) := Lib.hid rfl
  generalize zeroSnpB ⟨i, t, c, d⟩ = Z at *
  unfold snpAgg
  dsimp only
  rw [run_eql_struct, show (10000 : Nat) = 9999 + 1 from rfl, run_equalIn_agg w 9999 28 _ _ hS hp]
  simp only [Program.fieldsOf, Try.underlying28]
  go_simp
  rw [HZ.out]
  simp only [nil_iff]
  by_cases h1 : i = 0 <;> by_cases h2 : t = 0 <;> by_cases h3 : c.size = 0 <;> by_cases h4 : d.size = 0 <;> simp [h1, h2, h3, h4]

set_option maxRecDepth 100000 in
theorem wal_putSnap_no (s : Snp) (w : World) (hm : mayS s = false) : Calls Try.prog 44 #[snpAgg s] w fun e w' => e = .returned (.slice none 0 0) ∧ Below w.heap.size w w' := by
  have hb := (Below.refl w.heap.size w).alloc (Nat.le_refl _) (.cells #[.int .i64 s.i, .int .i64 s.t, .string s.c, .string s.d] 28)
  have c0 := World.cell?_alloc_new w #[.int .i64 s.i, .int .i64 s.t, .string s.c, .string s.d] 28 0
  have HM := Lib.hid hm
  clear hm
  unfold snpAgg
  go_enter Try.func44, Try.ntmps44
  go_wp2_with fail
  refine (wal_snapMay s _).mono ?_
  rintro e w1 ⟨rfl, hb1⟩
  rw [HM.out]
  have hbw := hb.trans (hb1.mono hb.size)
  go_wp2_with fail
  go_ret
  exact ⟨rfl, hbw⟩
theorem putS_pos {s : Snp} (h : mayS s = true) : putS s ≠ [] := by
  have hl := headS_len h
  unfold putS
  rw [if_pos h]
  intro e
  have := congrArg List.length e
  rw [List.length_append, sealP_len (by omega) (by omega) (by omega)] at this
  simp at this
theorem RI.fresh3 (w : World) (T : TypeId) (x y z : Int) (b : Nat) (hb : w.heap.size = b) : RI (w.alloc (.cells #[.int .i64 x, .int .i64 y, .int .i64 z] T)) (.slice (some ⟨b, 0, none⟩) 3 3) [x, y, z] := by
  subst hb
  exact Reads.fresh w _ T (0, 0) _ _ rfl rfl (by simp)
theorem inN3 {lo hi x y z : Int} : inN lo hi [x, y, z] = true ↔ (lo ≤ x ∧ x ≤ hi) ∧ (lo ≤ y ∧ y ≤ hi) ∧ lo ≤ z ∧ z ≤ hi := by simp [inN]
theorem mayM_entsB (m : Msg) : mayM m = (headM m && entsB m && decide (m.y = false ∨ m.k = 2 ∨ m.k = 4) && tailM m) := by
  unfold mayM entsB kindM
  cases headM m <;> cases entsM m.t m.i m.l m.es <;> simp
theorem headM_no {m : Msg} (h : headM m = false) : mayM m = false := by rw [mayM_entsB, h]; rfl
theorem headM_false {m : Msg} (h : ¬ (1 ≤ m.k ∧ m.k ≤ 5 ∧ 1 ≤ m.f ∧ m.f ≤ 7 ∧ 1 ≤ m.o ∧ m.o ≤ 7 ∧ 1 ≤ m.t ∧ m.t ≤ 1099511627776 ∧ 0 ≤ m.i ∧ m.i ≤ 1099511627776 ∧ 0 ≤ m.l ∧ m.l ≤ 1099511627776 ∧ 0 ≤ m.c ∧ m.c ≤ 1099511627776)) : mayM m = false :=
  headM_no (by unfold headM; exact decide_eq_false h)
def msgCells (v : Value) (m : Msg) : Array Value := #[.int .i64 m.k, .int .i64 m.f, .int .i64 m.o, .int .i64 m.t, .int .i64 m.i, .int .i64 m.l, .int .i64 m.c, .bool m.y, v, .int .i64 m.s.i, .int .i64 m.s.t, .string m.s.c, .string m.s.d]

set_option maxRecDepth 100000 in
set_option maxHeartbeats 4000000 in
theorem raft_may (v : Value) (m : Msg) (w : World) (h : EntR w v m.es) (hl : m.es.length ≤ 1000000000000) (hc : m.s.c.size ≤ 1000000000) :
    Calls Try.prog 20 #[msgAgg v m] w fun e w' => e = .returned (.bool (mayM m)) ∧ Below w.heap.size w w' := by
  obtain ⟨a, cap, rfl⟩ := h.slice
  have HNO := Lib.hid (headM_false (m := m))
  have HMB := Lib.hid (mayM_entsB m)
  have HHI := Lib.hid (headM_iff (m := m))
  have HT : Hid (tailM m = if m.k = 5 then (confD m.s.c).2 && mayS m.s else zeroSnpB m.s) := Lib.hid rfl
  obtain ⟨mk, mf, mo, mt, mi, ml, mc, my, es, ⟨si, st, sc, sd⟩⟩ := m
  dsimp only at *
  generalize hR : mayM ⟨mk, mf, mo, mt, mi, ml, mc, my, es, ⟨si, st, sc, sd⟩⟩ = R at *
  clear hR
  have hbx := (Below.refl w.heap.size w).alloc (Nat.le_refl _) (.cells #[.int .i64 mk, .int .i64 mf, .int .i64 mo, .int .i64 mt, .int .i64 mi, .int .i64 ml, .int .i64 mc, .bool my, .slice a es.length cap, .int .i64 si, .int .i64 st, .string sc, .string sd] 30)
  have hS := msgS_box w (.slice a es.length cap) ⟨mk, mf, mo, mt, mi, ml, mc, my, es, ⟨si, st, sc, sd⟩⟩ 30
  dsimp only at hS
  have hE := h.below hbx
  clear h
  unfold msgAgg
  dsimp only
  go_enter Try.func20, Try.ntmps20
  by_cases k1 : 1 ≤ mk
  case neg =>
    have HF := Lib.hid (HNO.out (by omega))
    have t1 : decide (mk < 1) = true := decide_eq_true (by omega)
    go_wp2_with fail
    go_ret
    rw [HF.out]
    exact ⟨rfl, hbx⟩
  have t1 : decide (mk < 1) = false := decide_eq_false (by omega)
  by_cases k2 : mk ≤ 5
  case neg =>
    have HF := Lib.hid (HNO.out (by omega))
    have t2 : decide (5 < mk) = true := decide_eq_true (by omega)
    go_wp2_with fail
    go_ret
    rw [HF.out]
    exact ⟨rfl, hbx⟩
  have t2 : decide (5 < mk) = false := decide_eq_false (by omega)
  go_wp2_with fail
  refine (raft_server mf _).mono ?_
  rintro e w1 ⟨rfl, rfl⟩
  rcases dec_cases (1 ≤ mf ∧ mf ≤ 7) with ⟨p1, q1⟩ | ⟨p1, q1⟩ <;> rw [show serverB mf = _ from q1]
  case inr =>
    have HF := Lib.hid (HNO.out (by omega))
    go_wp2_with fail
    go_ret
    rw [HF.out]
    exact ⟨rfl, hbx⟩
  go_wp2_with fail
  refine (raft_server mo _).mono ?_
  rintro e w1 ⟨rfl, rfl⟩
  rcases dec_cases (1 ≤ mo ∧ mo ≤ 7) with ⟨p2, q2⟩ | ⟨p2, q2⟩ <;> rw [show serverB mo = _ from q2]
  case inr =>
    have HF := Lib.hid (HNO.out (by omega))
    go_wp2_with fail
    go_ret
    rw [HF.out]
    exact ⟨rfl, hbx⟩
  go_wp2_with fail
  refine (raft_in 1 _ [mt] _ (RI.fresh1 _ _ _ _ (by simp))).mono ?_
  rintro e w1 ⟨rfl, rfl⟩
  have hb1 := hbx.alloc hbx.size (.cells #[.int .i64 mt] 2)
  rcases inN_dec (lo := 1) (hi := 1099511627776) _ (inN1 (x := mt)) with ⟨p3, q3⟩ | ⟨p3, q3⟩ <;> rw [q3]
  case inr =>
    have HF := Lib.hid (HNO.out (by omega))
    go_wp2_with fail
    go_ret
    rw [HF.out]
    exact ⟨rfl, hb1⟩
  go_wp2_with fail
  refine (raft_in 0 _ [mi, ml, mc] _ (RI.fresh3 _ _ _ _ _ _ (by simp))).mono ?_
  rintro e w1 ⟨rfl, rfl⟩
  have hb2 := hb1.alloc hb1.size (.cells #[.int .i64 mi, .int .i64 ml, .int .i64 mc] 2)
  rcases inN_dec (lo := 0) (hi := 1099511627776) _ (inN3 (x := mi) (y := ml) (z := mc)) with ⟨p4, q4⟩ | ⟨p4, q4⟩ <;> rw [q4]
  case inr =>
    have HF := Lib.hid (HNO.out (by omega))
    go_wp2_with fail
    go_ret
    rw [HF.out]
    exact ⟨rfl, hb2⟩
  have hE2 := (hE.below ((Below.refl _ _).alloc (Nat.le_refl _) (.cells #[.int .i64 mt] 2))).below ((Below.refl _ _).alloc (Nat.le_refl _) (.cells #[.int .i64 mi, .int .i64 ml, .int .i64 mc] 2))
  have hS2 := (hS.below ((Below.refl _ _).alloc (Nat.le_refl _) (.cells #[.int .i64 mt] 2))).below ((Below.refl _ _).alloc (Nat.le_refl _) (.cells #[.int .i64 mi, .int .i64 ml, .int .i64 mc] 2))
  go_wp2_with fail
  refine (raft_entries _ ⟨mk, mf, mo, mt, mi, ml, mc, my, es, ⟨si, st, sc, sd⟩⟩ _ hE2 p4.1.1 p4.1.2 hl).mono ?_
  rintro e w3 ⟨rfl, hb3⟩
  have hbw := hb2.trans (hb3.mono hb2.size)
  have hS3 := hS2.below hb3
  have HM : Hid (R = (entsB ⟨mk, mf, mo, mt, mi, ml, mc, my, es, ⟨si, st, sc, sd⟩⟩ && decide (my = false ∨ mk = 2 ∨ mk = 4) && tailM ⟨mk, mf, mo, mt, mi, ml, mc, my, es, ⟨si, st, sc, sd⟩⟩)) := Lib.hid (by
    rw [HMB.out, HHI.out.2 (by omega)]
    simp)
  clear hE hE2 hS hS2 hbx hb1 hb2 hb3 HMB HNO HHI q1 q2 q3 q4 p1 p2 p3 p4
  have c0 := hS3.c0
  have c7 := hS3.c7
  have c9 := hS3.c9
  have c10 := hS3.c10
  have c11 := hS3.c11
  have c12 := hS3.c12
  dsimp only at c0 c7 c9 c10 c11 c12
  cases hB : entsB ⟨mk, mf, mo, mt, mi, ml, mc, my, es, ⟨si, st, sc, sd⟩⟩ with
  | false =>
    have HF : Hid (R = false) := Lib.hid (by rw [HM.out, hB]; rfl)
    go_wp2_with fail
    go_ret
    rw [HF.out]
    exact ⟨rfl, hbw⟩
  | true =>
    have HM2 : Hid (R = (decide (my = false ∨ mk = 2 ∨ mk = 4) && tailM ⟨mk, mf, mo, mt, mi, ml, mc, my, es, ⟨si, st, sc, sd⟩⟩)) := Lib.hid (by rw [HM.out, hB]; rfl)
    clear HM hB
    have HS := Lib.hid hS3
    clear hS3
    rcases dec_cases (my = false ∨ mk = 2 ∨ mk = 4) with ⟨p5, q5⟩ | ⟨p5, q5⟩
    case inr =>
      have HF : Hid (R = false) := Lib.hid (by rw [HM2.out, q5]; rfl)
      obtain rfl : my = true := by
        cases my with
        | true => rfl
        | false => exact absurd (.inl rfl) p5
      have n2 : (mk != 2) = true := by rw [bne_iff_ne]; exact fun h => p5 (.inr (.inl h))
      have n4 : (mk != 4) = true := by rw [bne_iff_ne]; exact fun h => p5 (.inr (.inr h))
      clear q5
      go_wp2_with fail
      go_ret
      rw [HF.out]
      exact ⟨rfl, hbw⟩
    have HM3 : Hid (R = if mk = 5 then (confD sc).2 && mayS ⟨si, st, sc, sd⟩ else zeroSnpB ⟨si, st, sc, sd⟩) := Lib.hid (by rw [HM2.out, q5, Bool.true_and]; exact HT.out)
    clear HM2 q5 HT
    by_cases h5 : mk = 5
    · have HM4 : Hid (R = ((confD sc).2 && mayS ⟨si, st, sc, sd⟩)) := Lib.hid (by rw [HM3.out, if_pos h5])
      obtain rfl : my = false := by
        cases my with
        | false => rfl
        | true => rcases p5 with h | h | h <;> first | (cases h; done) | (exfalso; omega)
      subst h5
      clear HM3 p5
      go_wp2_with fail
      refine (conf_decode sc _ hc).mono ?_
      rintro e w4 ⟨v4, rfl, -, hb4⟩
      have hS4 := HS.out.below hb4
      have c9 := hS4.c9
      have c10 := hS4.c10
      have c11 := hS4.c11
      have c12 := hS4.c12
      dsimp only at c9 c10 c11 c12
      have hbw4 := hbw.trans (hb4.mono hbw.size)
      cases hcd : (confD sc).2 with
      | false =>
        have HF : Hid (R = false) := Lib.hid (by rw [HM4.out, hcd]; rfl)
        go_wp2_with fail
        go_ret
        rw [HF.out]
        exact ⟨rfl, hbw4⟩
      | true =>
        cases hms : mayS ⟨si, st, sc, sd⟩ with
        | false =>
          have HF : Hid (R = false) := Lib.hid (by rw [HM4.out, hms, Bool.and_false])
          have HMS := Lib.hid hms
          have e1 : ∀ w : World, (binOp .neq 46 (.slice none 0 0) (.slice none 0 0)).run Try.prog w = .ok (.bool false) w := fun W => run_neq_slice_nil W _ _ _ _ _ Try.underlying46
          clear hms
          go_wp2_with fail
          refine (wal_putSnap_no ⟨si, st, sc, sd⟩ _ HMS.out).mono ?_
          rintro e w5 ⟨rfl, hb5⟩
          go_wp2_with fail
          go_ret
          rw [HF.out]
          exact ⟨rfl, hbw4.trans (hb5.mono hbw4.size)⟩
        | true =>
          have HF : Hid (R = true) := Lib.hid (by rw [HM4.out, hcd, hms]; rfl)
          have HP := Lib.hid (putS_pos hms)
          clear hms
          go_wp2_with fail
          refine (wal_putSnap ⟨si, st, sc, sd⟩ _).mono ?_
          rintro e w5 ⟨v5, rfl, ho5, hb5⟩
          obtain ⟨g5, cap5, rfl, -⟩ := ho5.shape HP.out
          have e1 : ∀ (w : World) n c, (binOp .neq 46 (.slice (some ⟨g5, 0, none⟩) n c) (.slice none 0 0)).run Try.prog w = .ok (.bool true) w := fun W n c => run_neq_slice_nil W _ _ _ _ _ Try.underlying46
          go_wp2_with fail
          go_ret
          rw [HF.out]
          exact ⟨rfl, hbw4.trans (hb5.mono hbw4.size)⟩
    · have HM4 : Hid (R = zeroSnpB ⟨si, st, sc, sd⟩) := Lib.hid (by rw [HM3.out, if_neg h5])
      have n5 : (mk != 5) = true := by rw [bne_iff_ne]; exact h5
      have e1 : ∀ w : World, (binOp .eql 28 (.agg #[.int .i64 si, .int .i64 st, .string sc, .string sd]) (.agg #[.int .i64 0, .int .i64 0, .string ⟨#[]⟩, .string ⟨#[]⟩])).run Try.prog w = .ok (.bool (zeroSnpB ⟨si, st, sc, sd⟩)) w := fun W => snap_eql ⟨si, st, sc, sd⟩ W
      clear HM3
      cases my with
      | false =>
        clear p5
        go_wp2_with fail
        go_ret
        rw [HM4.out]
        exact ⟨rfl, hbw⟩
      | true =>
        rcases p5 with h | h | h
        · cases h
        all_goals
          subst h
          go_wp2_with fail
          go_ret
          rw [HM4.out]
          exact ⟨rfl, hbw⟩
end Go.Proofs.Ytcogmohepcifiaa
namespace Go.Proofs.Ytcogmohepcifiaa
open Go.ChangeShapes Go.WideShapes Go.ChangeAt Go.RowKit

def mayHd (t v : Int) : Bool := decide (0 ≤ t ∧ t ≤ 1099511627776 ∧ 0 ≤ v ∧ v ≤ 7)
theorem mayHd_iff {t v : Int} : mayHd t v = true ↔ 0 ≤ t ∧ t ≤ 1099511627776 ∧ 0 ≤ v ∧ v ≤ 7 := decide_eq_true_iff
def mayE (e : Ent) : Bool := decide (1 ≤ e.i ∧ e.i ≤ 1099511627776 ∧ 1 ≤ e.t ∧ e.t ≤ 1099511627776 ∧ 1 ≤ e.k ∧ e.k ≤ 3 ∧ e.d.size ≤ 2500)
theorem mayE_iff {e : Ent} : mayE e = true ↔ 1 ≤ e.i ∧ e.i ≤ 1099511627776 ∧ 1 ≤ e.t ∧ e.t ≤ 1099511627776 ∧ 1 ≤ e.k ∧ e.k ≤ 3 ∧ e.d.size ≤ 2500 := decide_eq_true_iff
def noE (e : Ent) : Bool := decide (e.i = 0 ∧ e.t = 0 ∧ e.k = 0 ∧ e.d.size = 0)
theorem noE_iff {e : Ent} : noE e = true ↔ e.i = 0 ∧ e.t = 0 ∧ e.k = 0 ∧ e.d.size = 0 := decide_eq_true_iff

set_option maxRecDepth 100000 in
theorem ref_mayEntry (e : Ent) (w : World) : Calls Try.prog 26 #[entAgg e] w fun x w' => x = .returned (.bool (mayE e)) ∧ Below w.heap.size w w' := by
  have HB := Lib.hid (show ∀ a, Below w.heap.size w (w.alloc a) from fun a => (Below.refl w.heap.size w).alloc (Nat.le_refl _) _)
  have HM := Lib.hid (mayE_iff (e := e))
  unfold entAgg
  rcases dec_cases ((e.d.size : Int) ≤ 2500) with ⟨hd, td⟩ | ⟨hd, td⟩
  all_goals
    go_enter Try.func26, Try.ntmps26
    go_wp2_with fail
  all_goals
    go_ret
    refine ⟨?_, HB.out _⟩
    first
      | (rw [show mayE e = true from HM.out.2 (by omega)]; rfl)
      | (rw [show mayE e = false from Bool.eq_false_iff.2 fun h => by have := HM.out.1 h; omega]; rfl)
set_option maxRecDepth 100000 in
theorem ref_maySnap (s : Snp) (w : World) : Calls Try.prog 29 #[snpAgg s] w fun x w' => x = .returned (.bool (mayS s)) ∧ Below w.heap.size w w' := by
  have HB := Lib.hid (show ∀ a, Below w.heap.size w (w.alloc a) from fun a => (Below.refl w.heap.size w).alloc (Nat.le_refl _) _)
  have HM := Lib.hid (mayS_iff (s := s))
  unfold snpAgg
  rcases dec_cases ((s.d.size : Int) ≤ 200000) with ⟨hd, td⟩ | ⟨hd, td⟩
  all_goals
    go_enter Try.func29, Try.ntmps29
    go_wp2_with fail
  all_goals
    go_ret
    refine ⟨?_, HB.out _⟩
    first
      | (rw [show mayS s = true from HM.out.2 (by omega)]; rfl)
      | (rw [show mayS s = false from Bool.eq_false_iff.2 fun h => by have := HM.out.1 h; omega]; rfl)
set_option maxRecDepth 100000 in
theorem ref_eqZero (e : Ent) (w : World) : Calls Try.prog 48 #[entAgg e, entAgg zeroE] w fun x w' => x = .returned (.bool (noE e)) ∧ Below w.heap.size w w' := by
  have HB := Lib.hid (show ∀ a b, Below w.heap.size w ((w.alloc a).alloc b) from fun a b => ((Below.refl w.heap.size w).alloc (Nat.le_refl _) _).alloc (by simp) _)
  have HM := Lib.hid (noE_iff (e := e))
  unfold entAgg zeroE
  rcases Nat.eq_zero_or_pos e.d.size with hd | hd
  all_goals rcases dec_cases (e.d.size = 0) with ⟨hs, -⟩ | ⟨hs, -⟩
  all_goals first | (exfalso; omega) | skip
  · have td : (e.d.toList == []) = true := by rw [(nil_iff _).2 hd]; rfl
    go_enter Try.func48, Try.ntmps48
    go_wp2_with fail
    all_goals
      go_ret
      refine ⟨?_, HB.out _ _⟩
      first
        | (rw [show noE e = true from HM.out.2 (by omega)]; rfl)
        | (rw [show noE e = false from Bool.eq_false_iff.2 fun h => by have := HM.out.1 h; omega]; rfl)
  · have td : (e.d.toList == []) = false := by
      rw [beq_eq_false_iff_ne]
      exact fun h => hs ((nil_iff _).1 h)
    go_enter Try.func48, Try.ntmps48
    go_wp2_with fail
    all_goals
      go_ret
      refine ⟨?_, HB.out _ _⟩
      rw [show noE e = false from Bool.eq_false_iff.2 fun h => by have := HM.out.1 h; omega]
      rfl

end Go.Proofs.Ytcogmohepcifiaa
namespace Go.Proofs.Ytcogmohepcifiaa
open Go.ChangeShapes Go.WideShapes Go.ChangeAt Go.RowKit

set_option maxHeartbeats 800000 in
theorem ref_may (v : Value) (l : List Int) (w : World) (h : RI w v l) :
    Calls Try.prog 47 #[v] w fun e w' => e = .returned (.bool (mayC l)) ∧ ∃ n, w' = w.drewN n := by
  obtain ⟨a, cap, rfl, hcap, hcm, hc⟩ := h.open_
  go_enter Try.func47, Try.ntmps47
  go_wp2_with fail
  go_loopw [3] (fun i wr => ∃ k : Nat, k ≤ l.length ∧ i = .int .i64 k ∧ Hid (∀ j, j < k → okAt l j = true) ∧ ∃ n, wr = w.drewN n) (fun i _ => l.length - (intOf i).toNat)
  case atStart => exact ⟨0, by omega, rfl, Lib.hid (by intro j hj; omega), 0, rfl⟩
  case round =>
    obtain ⟨k, hk, rfl, hx, n, rfl⟩ := hrel
    by_cases hlt : k < l.length
    · obtain ⟨b, off, rfl, hbl, hcj⟩ := hc.out k hlt
      have hd : Hid (l.getD k 0 = l[k]) := Lib.hid (by simp [List.getD, hlt])
      have hno := fun h => mayC_no hlt h
      have hso : Hid (okAt l k = true → ∀ j, j < k + 1 → okAt l j = true) := Lib.hid fun h j hj => by
        rcases Nat.lt_succ_iff_lt_or_eq.1 hj with h1 | h1
        · exact hx.out j h1
        · rw [h1]; exact h
      by_cases hk0 : k = 0
      · subst hk0
        have hok : Hid (okAt l 0 = (decide (1 ≤ l[0]) && decide (l[0] ≤ 7))) := Lib.hid (by unfold okAt; rw [hd.out]; simp)
        clear hx hd
        rw [Nat.add_zero] at hcj
        generalize l[0]'hlt = x at hcj hok
        by_cases h1 : x < 1
        · have hm := Lib.hid (hno (by rw [hok.out]; simp; omega))
          clear hno
          go_wp2_with fail
          go_quiet (fail)
          go_wp2_with fail
          go_ret
          exact ⟨by rw [hm.out]; rfl, _, World.drewN_drewN _ _ _⟩
        · have t1 : decide (x < 1) = false := decide_eq_false h1
          by_cases h2 : 7 < x
          · have t2 : decide (7 < x) = true := decide_eq_true h2
            have hm := Lib.hid (hno (by rw [hok.out]; simp; omega))
            clear hno
            go_wp2_with fail
            go_quiet (fail)
            go_wp2_with fail
            go_ret
            exact ⟨by rw [hm.out]; rfl, _, World.drewN_drewN _ _ _⟩
          · have t2 : decide (7 < x) = false := decide_eq_false h2
            have hs := Lib.hid (hso.out (by rw [hok.out]; simp; omega))
            clear hno hso
            go_wp2_with fail
            go_quiet (fail)
            go_wp2_with fail
            go_roundw
            case rel => exact ⟨1, by omega, by go_num, hs, _, rfl⟩
            case measure => simp [intOf]; omega
      · obtain ⟨b', off', hbo, _, hcj'⟩ := hc.out (k - 1) (by omega)
        simp only [Option.some.injEq, Addr.mk.injEq] at hbo
        obtain ⟨rfl, rfl, -⟩ := hbo
        have hd' : Hid (l.getD (k - 1) 0 = l[k - 1]'(by omega)) := Lib.hid (by simp [List.getD, show k - 1 < l.length by omega])
        have hok : Hid (okAt l k = (decide (1 ≤ l[k]) && decide (l[k] ≤ 7) && decide (l[k - 1]'(by omega) < l[k]))) := Lib.hid (by unfold okAt; rw [hd.out, hd'.out, show (k == 0) = false from beq_eq_false_iff_ne.2 hk0, Bool.false_or])
        clear hx hd hd'
        generalize l[k]'hlt = x at hcj hok
        generalize l[k - 1]'(by omega) = y at hcj' hok
        obtain ⟨m, rfl⟩ : ∃ m, k = m + 1 := ⟨k - 1, by omega⟩
        rw [show m + 1 - 1 = m from rfl] at hcj'
        have t4 : decide (0 < (m : Int) + 1) = true := decide_eq_true (by omega)
        by_cases h1 : x < 1
        · have hm := Lib.hid (hno (by rw [hok.out]; simp; omega))
          clear hno
          go_wp2_with fail
          go_quiet (fail)
          go_wp2_with fail
          go_ret
          exact ⟨by rw [hm.out]; rfl, _, World.drewN_drewN _ _ _⟩
        · have t1 : decide (x < 1) = false := decide_eq_false h1
          by_cases h2 : 7 < x
          · have t2 : decide (7 < x) = true := decide_eq_true h2
            have hm := Lib.hid (hno (by rw [hok.out]; simp; omega))
            clear hno
            go_wp2_with fail
            go_quiet (fail)
            go_wp2_with fail
            go_ret
            exact ⟨by rw [hm.out]; rfl, _, World.drewN_drewN _ _ _⟩
          · have t2 : decide (7 < x) = false := decide_eq_false h2
            by_cases h3 : x ≤ y
            · have t3 : decide (x ≤ y) = true := decide_eq_true h3
              have hm := Lib.hid (hno (by rw [hok.out]; simp; omega))
              clear hno
              go_wp2_with fail
              go_quiet (fail)
              go_wp2_with fail
              go_ret
              exact ⟨by rw [hm.out]; rfl, _, World.drewN_drewN _ _ _⟩
            · have t3 : decide (x ≤ y) = false := decide_eq_false h3
              have hs := Lib.hid (hso.out (by rw [hok.out]; simp; omega))
              clear hno hso
              go_wp2_with fail
              go_quiet (fail)
              go_wp2_with fail
              go_roundw
              case rel => exact ⟨m + 1 + 1, by omega, by go_num, hs, _, rfl⟩
              case measure => simp [intOf]; omega
    · have hkl : k = l.length := by omega
      subst hkl
      have hm := Lib.hid (mayC_all hx.out)
      go_wp2_with fail
      go_ret
      exact ⟨by rw [hm.out]; first | rfl | simp, _, rfl⟩

end Go.Proofs.Ytcogmohepcifiaa
