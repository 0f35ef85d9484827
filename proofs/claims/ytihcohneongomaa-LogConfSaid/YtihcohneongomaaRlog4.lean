/-
  No claim by itself: logs: New. No condition.
-/
import Derived.Test.YtihcohneongomaaRlog3
namespace Go.Proofs.Ytihcohneongomaa
open Go.ChangeShapes Go.WideShapes Go.ChangeAt Go.RowKit

def newOk (s : Snp) (es : List Ent) : Bool := inP [s.i, s.t] && decide (es.length ≤ 200) && rowP s.i s.t es
/-- Of a slice's own block: new since a world. -/
def Since (w : World) (lv : Value) : Prop := ∀ g off n c, lv = .slice (some ⟨g, off, none⟩) n c → w.heap.size ≤ g
def RetLog (w : World) (s : Snp) (es : List Ent) (e : Ending) (w' : World) : Prop :=
  ∃ b lv, e = .returned (logPtr b) ∧ LogS w' b s lv es ∧ Below w.heap.size w w' ∧ w.heap.size ≤ b ∧ Since w lv

theorem EntO.since {w w0 : World} {base : Nat} {v : Value} {es : List Ent} (h : EntO w base v es) (hb : w0.heap.size ≤ base) : Since w0 v := by
  intro g off n c hv
  rcases h.2 with ⟨h1, _⟩ | ⟨g', cap, cur, h1, hg, _⟩
  · rw [hv] at h1; cases h1
  · rw [hv] at h1
    simp only [Value.slice.injEq, Option.some.injEq, Addr.mk.injEq] at h1
    omega
theorem EntO.lt {w : World} {base : Nat} {v : Value} {es : List Ent} (h : EntO w base v es) : ∀ g off n c, v = .slice (some ⟨g, off, none⟩) n c → g < w.heap.size := by
  intro g off n c hv
  rcases h.2 with ⟨h1, _⟩ | ⟨g', cap, cur, h1, hg, hh, _⟩
  · rw [hv] at h1; cases h1
  · rw [hv] at h1
    simp only [Value.slice.injEq, Option.some.injEq, Addr.mk.injEq] at h1
    obtain ⟨⟨rfl, _⟩, _⟩ := h1
    exact (Array.getElem?_eq_some_iff.1 hh).1

theorem logS_fresh {w : World} {base : Nat} {lv : Value} {es : List Ent} {s : Snp} (h : EntO w base lv es) (T : TypeId) :
    LogS (w.alloc (.cells #[.int .i64 s.i, .int .i64 s.t, .string s.c, .string s.d, lv] T)) w.heap.size s lv es := by
  have hn := heap_alloc_new w (.cells #[.int .i64 s.i, .int .i64 s.t, .string s.c, .string s.d, lv] T)
  have hb := (Below.refl w.heap.size w).alloc (Nat.le_refl _) (.cells #[.int .i64 s.i, .int .i64 s.t, .string s.c, .string s.d, lv] T)
  refine ⟨?_, ?_, ?_, ?_, ?_, ?_, fun j => World.frozen?_alloc_new w _ _ j, h.r.below hb, fun g off n c hv => by have := h.lt g off n c hv; omega⟩
  · show w.heap.size < (w.heap.push _).size; simp
  · rw [cell_of_row _ w.heap.size 0 _ T (0, 0) hn]; rfl
  · rw [cell_of_row _ w.heap.size 1 _ T (0, 0) hn]; rfl
  · rw [cell_of_row _ w.heap.size 2 _ T (0, 0) hn]; rfl
  · rw [cell_of_row _ w.heap.size 3 _ T (0, 0) hn]; rfl
  · rw [cell_of_row _ w.heap.size 4 _ T (0, 0) hn]; rfl

set_option maxHeartbeats 1000000 in
/-- What New yields. -/
def RetNewL (w : World) (s : Snp) (es : List Ent) (e : Ending) (w' : World) : Prop :=
  if newOk s es = true then RetLog w s es e w' else e = .returned (.pointer none) ∧ Below w.heap.size w w'
theorem RetNewL.no {w : World} {s : Snp} {es : List Ent} {w' : World} (h : newOk s es = false) (hb : Below w.heap.size w w') : RetNewL w s es (.returned (.pointer none)) w' := by
  unfold RetNewL
  rw [if_neg (by rw [h]; decide)]
  exact ⟨rfl, hb⟩
theorem RetNewL.yes {w : World} {s : Snp} {es : List Ent} {e : Ending} {w' : World} (h : newOk s es = true) (hb : RetLog w s es e w') : RetNewL w s es e w' := by
  unfold RetNewL
  rw [if_pos h]
  exact hb

set_option maxRecDepth 100000 in
theorem log_new (s : Snp) (v : Value) (es : List Ent) (w : World) (h : EntR w v es) (hl : es.length ≤ 1000000000) :
    Calls Try.prog 18 #[snpAgg s, v] w fun e w' => RetNewL w s es e w' := by
  have HOK : Hid (newOk s es = (inP [s.i, s.t] && decide (es.length ≤ 200) && rowP s.i s.t es)) := Lib.hid rfl
  obtain ⟨a, cap, rfl⟩ := h.slice
  have hb1 := (Below.refl w.heap.size w).alloc (Nat.le_refl _) (.cells #[.int .i64 s.i, .int .i64 s.t, .string s.c, .string s.d] 23)
  have hb2 := hb1.alloc hb1.size (.cells #[.int .i64 s.i, .int .i64 s.t] 2)
  have hr := Reads.fresh (w.alloc (.cells #[.int .i64 s.i, .int .i64 s.t, .string s.c, .string s.d] 23)) ([s.i, s.t].map (Value.int .i64)) 2 (0, 0) #[.int .i64 s.i, .int .i64 s.t] 2 rfl rfl (by simp)
  have hE := h.below hb2
  rw [show (w.alloc (.cells #[.int .i64 s.i, .int .i64 s.t, .string s.c, .string s.d] 23)).heap.size = w.heap.size + 1 from by simp] at hr
  have hd : ∀ j, ((w.alloc (.cells #[.int .i64 s.i, .int .i64 s.t, .string s.c, .string s.d] 23)).alloc (.cells #[.int .i64 s.i, .int .i64 s.t] 2)).cell? ⟨w.heap.size, j, none⟩ = #[.int .i64 s.i, .int .i64 s.t, .string s.c, .string s.d][j]? := fun j => by
    have h2 := (Below.refl (w.alloc (.cells #[.int .i64 s.i, .int .i64 s.t, .string s.c, .string s.d] 23)).heap.size (w.alloc (.cells #[.int .i64 s.i, .int .i64 s.t, .string s.c, .string s.d] 23))).alloc (Nat.le_refl _) (.cells #[.int .i64 s.i, .int .i64 s.t] 2)
    rw [h2.cell (p := ⟨w.heap.size, j, none⟩) (by simp), World.cell?_alloc_new]
  have d0 := hd 0
  have d1 := hd 1
  have d2 := hd 2
  have d3 := hd 3
  have hsz : w.heap.size + 1 < ((w.alloc (.cells #[.int .i64 s.i, .int .i64 s.t, .string s.c, .string s.d] 23)).alloc (.cells #[.int .i64 s.i, .int .i64 s.t] 2)).heap.size := by simp
  simp only [List.getElem?_toArray, List.getElem?_cons_zero, List.getElem?_cons_succ] at d0 d1 d2 d3
  clear hb1 hd
  unfold snpAgg
  go_enter Try.func18, Try.ntmps18
  go_wp2_with fail
  refine (rlog_in _ [s.i, s.t] _ hr).mono ?_
  rintro e w' ⟨rfl, rfl⟩
  clear hr
  generalize (w.alloc (.cells #[.int .i64 s.i, .int .i64 s.t, .string s.c, .string s.d] 23)).alloc (.cells #[.int .i64 s.i, .int .i64 s.t] 2) = w1 at *
  cases hin : inP [s.i, s.t] with
  | false =>
    rw [hin] at HOK
    have H1 : Hid (newOk s es = false) := Lib.hid HOK.out
    clear HOK hin
    go_wp2_with fail
    go_ret
    exact RetNewL.no H1.out hb2
  | true =>
    rw [hin] at HOK
    clear hin
    by_cases h2 : es.length ≤ 200
    · have HOK2 : Hid (newOk s es = rowP s.i s.t es) := Lib.hid (by rw [HOK.out, decide_eq_true h2]; rfl)
      have t2 : ¬ 200 < es.length := by omega
      have t3 : decide ((200 : Int) < (es.length : Int)) = false := decide_eq_false (by omega)
      clear HOK
      go_wp2_with fail
      refine (rlog_row s.i s.t _ es _ hE hl).mono ?_
      rintro e w2 ⟨rfl, hb3⟩
      have e0 := (hb3.cell (p := ⟨w.heap.size, 0, none⟩) (by show w.heap.size < _; omega)).trans d0
      have e1 := (hb3.cell (p := ⟨w.heap.size, 1, none⟩) (by show w.heap.size < _; omega)).trans d1
      have e2 := (hb3.cell (p := ⟨w.heap.size, 2, none⟩) (by show w.heap.size < _; omega)).trans d2
      have e3 := (hb3.cell (p := ⟨w.heap.size, 3, none⟩) (by show w.heap.size < _; omega)).trans d3
      have hE2 := hE.below hb3
      have hb4 := hb2.trans (hb3.mono hb2.size)
      have hsz2 := Nat.lt_of_lt_of_le hsz hb3.size
      clear d0 d1 d2 d3 hE hb3 hb2 hsz
      cases hrw : rowP s.i s.t es with
      | false =>
        have H1 : Hid (newOk s es = false) := Lib.hid (HOK2.out.trans hrw)
        clear HOK2 hrw
        go_wp2_with fail
        go_ret
        exact RetNewL.no H1.out hb4
      | true =>
        have H1 : Hid (newOk s es = true) := Lib.hid (HOK2.out.trans hrw)
        clear HOK2 hrw
        go_upto_region 3 with fail
        rename World => w2
        go_cut [4] (fun x wx => ∃ b lv, x = logPtr b ∧ LogS wx b s lv es ∧ Below w2.heap.size w2 wx ∧ w2.heap.size ≤ b ∧ Since w2 lv)
        case first =>
          have l1 : w.heap.size < w2.heap.size := by omega
          refine wp_region_sw (by rfl) (by kernel_rfl) (fun k => match k with | 2 => some (fun v wx => EntO wx w2.heap.size v es) | 3 => some (fun v wx => ∃ a n c, v = .agg #[.int .i64 s.i, .int .i64 s.t, .string s.c, .string s.d, .slice a n c] ∧ EntO wx w2.heap.size (.slice a n c) es) | 4 => some (fun v wx => ∃ b lv, v = logPtr b ∧ LogS wx b s lv es ∧ w2.heap.size ≤ b ∧ Since w2 lv) | _ => none) ?_ (fun vals => ?_)
          · intro k φ hk v w1 w2 h1 h2
            match k, hk with
            | 2, hk => obtain rfl := Option.some.inj hk; exact h1.below h2
            | 3, hk => obtain rfl := Option.some.inj hk; obtain ⟨a, n, c, g1, g2⟩ := h1; exact ⟨a, n, c, g1, g2.below h2⟩
            | 4, hk => obtain rfl := Option.some.inj hk; obtain ⟨b, lv, g1, g2, g3⟩ := h1; exact ⟨b, lv, g1, g2.below h2, g3⟩
          refine sw_at (snpAgg s) rfl rfl (fun wz hz hH => ?_) (fun K hK => ?_)
          · have g0 := (hz.cell (p := ⟨w.heap.size, 0, none⟩) l1).trans e0
            have g1 := (hz.cell (p := ⟨w.heap.size, 1, none⟩) l1).trans e1
            have g2 := (hz.cell (p := ⟨w.heap.size, 2, none⟩) l1).trans e2
            have g3 := (hz.cell (p := ⟨w.heap.size, 3, none⟩) l1).trans e3
            unfold snpAgg
            go_simp
          go_simp; refine hK _ ?_; clear hK K
          iterate 1 (refine sw_pure (by rfl) (fun K hK => ?_); go_simp; refine hK _ ?_; clear hK K)
          refine sw_call _ rfl rfl (fun wz hz hH => ?_) (fun K hK => ?_)
          · go_simp
            go_at_call 55
            refine (sl_cloneE _ es _ (hE2.below hz) hl).mono ?_
            rintro e w' ⟨v, rfl, hv, hb⟩
            exact ⟨v, rfl, hv.rebase hz.size, hb⟩
          go_simp; refine hK _ ?_; clear hK K
          refine sw_call _ rfl rfl (fun wz hz hH => ?_) (fun K hK => ?_)
          · have hv2 := hH _ (List.Mem.head _) rfl
            dsimp only at hv2
            obtain ⟨av, cv, he⟩ := hv2.r.slice
            rw [he] at hv2 ⊢
            unfold snpAgg
            go_simp
            exact ⟨⟨_, _, _, ⟨rfl, rfl, rfl⟩, hv2⟩, Below.refl _ _⟩
          go_simp; refine hK _ ?_; clear hK K
          refine sw_call _ rfl rfl (fun wz hz hH => ?_) (fun K hK => ?_)
          · have hv2 := hH _ (List.Mem.head _) rfl
            dsimp only at hv2
            obtain ⟨av, nv, cv, he, hv2⟩ := hv2
            have hfr := logS_fresh (s := s) hv2 92
            have hsi := hv2.since (w0 := w2) (Nat.le_refl _)
            rw [he]
            go_simp
            exact ⟨⟨_, rfl, _, hfr, hz.size, hsi⟩, (Below.refl _ _).alloc (Nat.le_refl _) _⟩
          go_simp; refine hK _ ?_; clear hK K
          iterate 1 (refine sw_pure (by rfl) (fun K hK => ?_); go_simp; refine hK _ ?_; clear hK K)
          refine sw_done (fun wz hz hH => ?_)
          have hq := hH _ (List.Mem.head _)
          dsimp only at hq
          obtain ⟨b, lv, g1, g2, g3, g4⟩ := hq
          go_wp2_with fail
          go_meet
          exact ⟨b, lv, g1, g2, hz, g3, g4⟩
        case rest =>
          obtain ⟨b, lv, rfl, g1, g2, g3, g4⟩ := hcut
          have hb5 := hb4.trans (g2.mono hb4.size)
          have hsz5 := hb4.size
          go_wp2_with fail
          go_ret
          exact RetNewL.yes H1.out ⟨b, lv, rfl, g1, hb5, by omega, fun g off n c hv => by have := g4 g off n c hv; omega⟩
    · have HOK2 : Hid (newOk s es = false) := Lib.hid (by rw [HOK.out, decide_eq_false h2]; rfl)
      have t2 : 200 < es.length := by omega
      have t3 : decide ((200 : Int) < (es.length : Int)) = true := decide_eq_true (by omega)
      clear HOK
      go_wp2_with fail
      go_ret
      exact RetNewL.no HOK2.out hb2
end Go.Proofs.Ytihcohneongomaa
