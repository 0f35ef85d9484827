/-
  No claim by itself: the document's log, by value: NewLog: what it makes. No condition.
-/
import Derived.Test.YtikoafjnopkoaaaP7
import Derived.Test.YtikoafjnopkoaaaP6
namespace Go.Proofs.Ytikoafjnopkoaaa
set_option linter.unusedVariables false
set_option linter.unusedSimpArgs false
open Go.ChangeShapes Go.WideShapes Go.ChangeAt Go.RowKit

theorem run_append_nilE {w : World} (ot : TypeId) {src : Value} {fs : List Ent} (hsrc : EntR w src fs) (hl : fs.length ≤ 1000000000000) :
    ∃ v' w', (Builtin.append_ #[24, 24] ot #[.slice none 0 0, src]).run Try.prog w = .ok v' w' ∧ EntO w' w.heap.size v' fs ∧ Below w.heap.size w w' := by
  obtain ⟨i, hi, hi'⟩ := Option.map_eq_some_iff.1 info_ent
  simp only [Prod.mk.injEq] at hi'
  obtain ⟨hz0, hz1, hz2⟩ := hi'
  obtain ⟨ao, cap, rfl⟩ := hsrc.slice
  obtain ⟨v', w', h1, h2, h3, _⟩ := run_append_src (P := Try.prog) (w := w) 24 ot w.heap.size _ i _ 4 40 Try.underlying24 hi hz0 hz1 hz2 rfl (by decide) (.slice none 0 0) 0 [] (EntO.nil w w.heap.size) ao fs.length cap (fs.flatMap entCells) (entCells_len fs)
    (fun hm => by
      obtain ⟨b, off, rfl, _, hc⟩ := hsrc.flat (by intro e; subst e; exact hm rfl)
      exact ⟨_, rfl, fun j u hj => by rw [Addr.add_lit]; exact hc j u hj⟩) (entCells_oneCell fs) (by unfold maxLen; omega) (by omega) (Nat.le_refl _)
  refine ⟨v', w', h1, ?_, below_of_grown h3⟩
  unfold EntO
  rw [Nat.zero_add, List.nil_append] at h2
  exact h2
def zLog : Value := .agg #[.int .i64 0, .int .i64 0, .string ⟨#[]⟩, .string ⟨#[]⟩, .slice none 0 0]
theorem below5 {w w' : World} {b : Nat} (h : Below w.heap.size w w') (hb : w.heap.size ≤ b) (x0 x1 x2 x3 x4 : Value) :
    Below w.heap.size w (((((w'.setCell ⟨b, 0, none⟩ x0).setCell ⟨b, 1, none⟩ x1).setCell ⟨b, 2, none⟩ x2).setCell ⟨b, 3, none⟩ x3).setCell ⟨b, 4, none⟩ x4) :=
  ((((h.setCell hb _).setCell hb _).setCell hb _).setCell hb _).setCell hb _
theorem EntO.set {w : World} {base : Nat} {v : Value} {es : List Ent} (h : EntO w base v es) {p : Addr} (hp : p.block < base) (u : Value) : EntO (w.setCell p u) base v es := by
  unfold EntO World.ownsRow at *
  refine ⟨h.1, ?_⟩
  rcases h.2 with h2 | ⟨g, cap, cur, e1, hb, hg, r⟩
  · exact .inl h2
  · exact .inr ⟨g, cap, cur, e1, hb, (Below.heap_setCell _ _ _ _ (by omega)).trans hg, r⟩
/-- A log by value that is new. -/
def RetRNew (w : World) (s : Snp) (es : List Ent) (e : Ending) (w' : World) : Prop :=
  Below w.heap.size w w' ∧ if newOk s es = true then ∃ v, e = .returned (.tuple #[refAgg s v, .bool true]) ∧ EntO w' w.heap.size v es else e = .returned (.tuple #[zLog, .bool false])
set_option maxRecDepth 100000 in
set_option maxHeartbeats 4000000 in
theorem ref_new (s : Snp) (v : Value) (es : List Ent) (w : World) (h : EntR w v es) (hl : es.length ≤ 1000000000) (hw : s.wf) :
    Calls Try.prog 8 #[snpAgg s, v] w fun e w' => RetRNew w s es e w' := by
  obtain ⟨a, cap, rfl⟩ := h.slice
  have hbx := ((Below.refl w.heap.size w).alloc (Nat.le_refl _) (.cells #[.int .i64 s.i, .int .i64 s.t, .string s.c, .string s.d] 23)).alloc (by simp) (.cells #[.int .i64 0, .int .i64 0, .string ⟨#[]⟩, .string ⟨#[]⟩, .slice none 0 0] 32)
  have hSb := snapS_box w s 23
  unfold snpAgg
  by_cases hg : 0 ≤ s.i ∧ s.i ≤ 1099511627776 ∧ 0 ≤ s.t ∧ s.t ≤ 1099511627776 ∧ es.length ≤ 200
  · obtain ⟨g0, g1, g2, g3, g4⟩ := hg
    have hS1 : SnapS ((w.alloc (.cells #[.int .i64 s.i, .int .i64 s.t, .string s.c, .string s.d] 23)).alloc (.cells #[.int .i64 0, .int .i64 0, .string ⟨#[]⟩, .string ⟨#[]⟩, .slice none 0 0] 32)) w.heap.size s := hSb.below ((Below.refl _ _).alloc (Nat.le_refl _) _)
    have H0 : Hid (newOk s es = rowP s.i s.t es) := Lib.hid (by
      unfold newOk inP okN
      simp only [List.all_cons, List.all_nil, Bool.and_true]
      rw [decide_eq_true g0, decide_eq_true g1, decide_eq_true g2, decide_eq_true g3, decide_eq_true g4]
      rfl)
    have hEx := Lib.hid (h.below hbx)
    have hR1 : LogS ((w.alloc (.cells #[.int .i64 s.i, .int .i64 s.t, .string s.c, .string s.d] 23)).alloc (.cells #[.int .i64 0, .int .i64 0, .string ⟨#[]⟩, .string ⟨#[]⟩, .slice none 0 0] 32)) (w.heap.size + 1) ⟨0, 0, ⟨#[]⟩, ⟨#[]⟩⟩ (.slice none 0 0) [] := by
      have := logS_box (w := w.alloc (.cells #[.int .i64 s.i, .int .i64 s.t, .string s.c, .string s.d] 23)) (s := ⟨0, 0, ⟨#[]⟩, ⟨#[]⟩⟩) (rv := .slice none 0 0) (es := []) ⟨EntR.nil _ _ _ (by omega), fun g off n c e => by cases e⟩
      simpa [refCells] using this
    clear hSb h
    go_enter Try.func8, Try.ntmps8
    go_wp2_with fail
    generalize hw1 : (w.alloc _).alloc _ = w1 at *
    clear hw1
    have l0 := hS1.lt
    have l1 := hR1.lt
    go_loopw [6, 7] (fun x i wr => ∃ (k : Nat) (tk : Int), k ≤ es.length ∧ i = .int .i64 k ∧ x = .int .i64 tk ∧ Hid (rowP s.i s.t es = rowP (s.i + k) tk (es.drop k)) ∧ Below w1.heap.size w1 wr) (fun _ i _ => es.length - (intOf i).toNat)
    case atStart => exact ⟨0, s.t, by omega, rfl, rfl, Lib.hid (by simp), Below.refl _ _⟩
    case round =>
      obtain ⟨k, tk, hk, rfl, rfl, HC, hbel⟩ := hrel
      have hS := hS1.below hbel
      have hR := hR1.below hbel
      have hE := hEx.out.below hbel
      have hb0 := hbx.trans (hbel.mono hbx.size)
      by_cases hlt : k < es.length
      · obtain ⟨bL, oL, rfl, hbL, d0, d1, d2, d3⟩ := hE.cells k hlt
        have c0 := hS.c0
        have hrw : rowP (s.i + k) tk (es.drop k) = ((es[k].i == wrap64 (s.i + k + 1)) && decide (tk ≤ es[k].t) && rowP es[k].i es[k].t (es.drop (k + 1))) := by
          rw [List.drop_eq_getElem_cons hlt]
          rfl
        rw [IntWalk.wrap64_in _ (by omega)] at hrw
        have HC2 := Lib.hid (HC.out.trans hrw)
        have q1 : IntKind.i64.wrap (s.i + 1) = s.i + 1 := IntWalk.i64_in _ (by omega)
        have q2 : IntKind.i64.wrap (s.i + 1 + (k : Int)) = s.i + 1 + (k : Int) := IntWalk.i64_in _ (by omega)
        clear hrw HC hE d2 d3
        generalize es[k] = e at *
        obtain ⟨ei, et, ek, ed⟩ := e
        dsimp only at d0 d1 HC2
        by_cases h1 : ei = s.i + 1 + k
        · subst h1
          by_cases h2 : et < tk
          · have H1 : Hid (newOk s es = false) := Lib.hid (by rw [H0.out, HC2.out, decide_eq_false (show ¬ tk ≤ et by omega)]; simp)
            have r0 := hR.c0
            have r1 := hR.c1
            have r2 := hR.c2
            have r3 := hR.c3
            have r4 := hR.c4
            have f0 := hR.fr 0
            have f1 := hR.fr 1
            have f2 := hR.fr 2
            have f3 := hR.fr 3
            have f4 := hR.fr 4
            dsimp only at r0 r1 r2 r3
            have HB := Lib.hid fun n x0 x1 x2 x3 x4 => below5 (b := w.heap.size + 1) (below_drewN hb0 n) (by omega) x0 x1 x2 x3 x4
            clear HC2 hb0 hbel
            go_wp2_with fail
            go_quiet (fail)
            go_wp2_with fail
            exact bodyPost_ret (v := .tuple #[zLog, .bool false]) (by simp [results, Try.results8, go_sem, zLog, r0, r1, r2, r3, r4]) rfl ⟨HB.out _ _ _ _ _ _, by rw [if_neg (by rw [H1.out]; decide)]⟩
          · have H1 := Lib.hid (show rowP s.i s.t es = rowP (s.i + ((k + 1 : Nat) : Int)) et (es.drop (k + 1)) by
              rw [HC2.out, decide_eq_true (show tk ≤ et by omega), show (s.i + 1 + (k : Int) == s.i + (k : Int) + 1) = true from beq_iff_eq.2 (by omega), show s.i + 1 + (k : Int) = s.i + ((k + 1 : Nat) : Int) by omega]
              simp)
            have HB := Lib.hid fun n => below_drewN hbel n
            clear HC2 hb0 hbel hR
            go_wp2_with fail
            go_quiet (fail)
            go_wp2_with fail
            go_roundw
            case rel => exact ⟨k + 1, et, by omega, by go_num, rfl, H1, HB.out _⟩
            case measure => simp [intOf]; omega
        · have H1 : Hid (newOk s es = false) := Lib.hid (by rw [H0.out, HC2.out, show (ei == s.i + (k : Int) + 1) = false from beq_eq_false_iff_ne.2 (by omega)]; simp)
          have h1b : (ei != s.i + 1 + (k : Int)) = true := by rw [bne_iff_ne]; exact h1
          clear h1
          have r0 := hR.c0
          have r1 := hR.c1
          have r2 := hR.c2
          have r3 := hR.c3
          have r4 := hR.c4
          have f0 := hR.fr 0
          have f1 := hR.fr 1
          have f2 := hR.fr 2
          have f3 := hR.fr 3
          have f4 := hR.fr 4
          dsimp only at r0 r1 r2 r3
          have HB := Lib.hid fun n x0 x1 x2 x3 x4 => below5 (b := w.heap.size + 1) (below_drewN hb0 n) (by omega) x0 x1 x2 x3 x4
          clear HC2 hb0 hbel
          go_wp2_with fail
          go_quiet (fail)
          go_wp2_with fail
          exact bodyPost_ret (v := .tuple #[zLog, .bool false]) (by simp [results, Try.results8, go_sem, zLog, r0, r1, r2, r3, r4]) rfl ⟨HB.out _ _ _ _ _ _, by rw [if_neg (by rw [H1.out]; decide)]⟩
      · obtain rfl : k = es.length := by omega
        have H1 : Hid (newOk s es = true) := Lib.hid (by rw [H0.out, HC.out, List.drop_length]; rfl)
        have l0r := hS.lt
        have hEr := Lib.hid hE
        clear HC hE
        go_wp2_with fail
        refine wp_region_tail 4 (by rfl) (by kernel_rfl) (fun k => match k with | 2 => some (fun v wx => EntO wx wr.heap.size v es) | _ => none) ?_ (fun vals => ?_)
        · intro k φ hk v w1 w2 h1 h2
          match k, hk with
          | 2, hk => obtain rfl := Option.some.inj hk; exact h1.below h2
        dsimp only [List.take, List.drop]
        refine sw_at (snpAgg s) rfl rfl (fun wz hz hH => ?_) (fun K hK => ?_)
        · have hZ := hS.below hz
          have c0 := hZ.c0
          have c1 := hZ.c1
          have c2 := hZ.c2
          have c3 := hZ.c3
          clear hZ
          unfold snpAgg
          go_simp
        go_simp; refine hK _ ?_; clear hK K
        iterate 1 ((with_reducible refine sw_pure ?_ (fun K hK => ?_)); (· rfl); go_simp; with_reducible refine hK _ ?_; clear hK K)
        refine sw_call _ rfl rfl (fun wz hz hH => ?_) (fun K hK => ?_)
        · obtain ⟨v', w', hr, ho, hb⟩ := run_append_nilE (w := wz) 24 (hEr.out.below hz) (by omega)
          exact yields_append rfl rfl rfl hr ⟨ho.rebase hz.size, hb⟩
        go_simp; refine hK _ ?_; clear hK K
        refine sw_at (refAgg s (vals 2)) rfl rfl (fun wz hz hH => ?_) (fun K hK => ?_)
        · have hq := hH _ (List.Mem.head _) rfl
          dsimp only at hq
          obtain ⟨av, cv, he⟩ := hq.r.slice
          rw [he]
          unfold refAgg snpAgg
          go_simp
        go_simp; refine hK _ ?_; clear hK K
        refine sw_done (fun wz hz hH => ?_)
        have hq := hH _ (List.Mem.head _)
        dsimp only at hq
        obtain ⟨av, cv, he⟩ := hq.r.slice
        rw [he] at hq ⊢
        have hRz := hR.below hz
        have r0 := hRz.c0
        have r1 := hRz.c1
        have r2 := hRz.c2
        have r3 := hRz.c3
        have r4 := hRz.c4
        have f0 := hRz.fr 0
        have f1 := hRz.fr 1
        have f2 := hRz.fr 2
        have f3 := hRz.fr 3
        have f4 := hRz.fr 4
        dsimp only at r0 r1 r2 r3
        have hlr : w.heap.size + 1 < wr.heap.size := hR.lt
        have HB := Lib.hid fun x0 x1 x2 x3 x4 => below5 (b := w.heap.size + 1) (hb0.trans (hz.mono hb0.size)) (by omega) x0 x1 x2 x3 x4
        have HO := Lib.hid fun x0 x1 x2 x3 x4 => ((((hq.set (p := ⟨w.heap.size + 1, 0, none⟩) hlr x0).set (p := ⟨w.heap.size + 1, 1, none⟩) hlr x1).set (p := ⟨w.heap.size + 1, 2, none⟩) hlr x2).set (p := ⟨w.heap.size + 1, 3, none⟩) hlr x3).set (p := ⟨w.heap.size + 1, 4, none⟩) hlr x4
        unfold tailQ refAgg
        clear hq he hH hRz hR hS
        go_wp2_with fail
        exact bodyPost_ret (v := .tuple #[refAgg s (.slice av es.length cv), .bool true]) (by simp [results, Try.results8, go_sem, refAgg, r0, r1, r2, r3, r4]) rfl ⟨HB.out _ _ _ _ _, by rw [if_pos H1.out]; exact ⟨_, rfl, (HO.out _ _ _ _ _).rebase hb0.size⟩⟩
  · have H1 : Hid (newOk s es = false) := Lib.hid (by
      unfold newOk inP okN
      simp only [List.all_cons, List.all_nil, Bool.and_true]
      rw [← Bool.not_eq_true]
      simp only [Bool.and_eq_true, decide_eq_true_eq]
      omega)
    clear hSb h
    by_cases g0 : s.i < 0
    · go_enter Try.func8, Try.ntmps8
      go_wp2_with fail
      exact bodyPost_ret (v := .tuple #[zLog, .bool false]) (by simp [results, Try.results8, go_sem, zLog]) rfl ⟨hbx, by rw [if_neg (by rw [H1.out]; decide)]⟩
    · by_cases g1 : 1099511627776 < s.i
      · go_enter Try.func8, Try.ntmps8
        go_wp2_with fail
        exact bodyPost_ret (v := .tuple #[zLog, .bool false]) (by simp [results, Try.results8, go_sem, zLog]) rfl ⟨hbx, by rw [if_neg (by rw [H1.out]; decide)]⟩
      · by_cases g2 : s.t < 0
        · go_enter Try.func8, Try.ntmps8
          go_wp2_with fail
          exact bodyPost_ret (v := .tuple #[zLog, .bool false]) (by simp [results, Try.results8, go_sem, zLog]) rfl ⟨hbx, by rw [if_neg (by rw [H1.out]; decide)]⟩
        · by_cases g3 : 1099511627776 < s.t
          · go_enter Try.func8, Try.ntmps8
            go_wp2_with fail
            exact bodyPost_ret (v := .tuple #[zLog, .bool false]) (by simp [results, Try.results8, go_sem, zLog]) rfl ⟨hbx, by rw [if_neg (by rw [H1.out]; decide)]⟩
          · have g9 : 200 < es.length := by omega
            go_enter Try.func8, Try.ntmps8
            go_wp2_with fail
            exact bodyPost_ret (v := .tuple #[zLog, .bool false]) (by simp [results, Try.results8, go_sem, zLog]) rfl ⟨hbx, by rw [if_neg (by rw [H1.out]; decide)]⟩
end Go.Proofs.Ytikoafjnopkoaaa
