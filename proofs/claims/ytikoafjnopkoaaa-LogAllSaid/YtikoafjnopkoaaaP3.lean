/-
  No claim by itself: logs: in, row, First, Last, Term, Fits, Get: what each tells. | logs: Term, Fits, Get, Newer: what each tells. | logs: Fits, Newer, Get, Snap: what each tells. | logs: New. No condition.
-/
import Derived.Test.YtikoafjnopkoaaaP2
import Derived.Deep.QuietTactic
import Derived.Deep.DeepCutAuto
import Derived.Deep.Cut
import Derived.WalkSmall
import Derived.WalkLawsBesides
namespace Go.Proofs.Ytikoafjnopkoaaa
open Go.ChangeShapes Go.WideShapes Go.ChangeAt Go.RowKit

/-- May numbers be? -/
def okN (n : Int) : Bool := decide (0 ≤ n) && decide (n ≤ 1099511627776)
def inP (l : List Int) : Bool := l.all okN
/-- Do entries stand one behind the other, behind an Index and a Term? -/
def rowP : Int → Int → List Ent → Bool
  | _, _, [] => true
  | i, t, e :: es => (e.i == wrap64 (i + 1)) && decide (t ≤ e.t) && rowP e.i e.t es

theorem rlog_in1 (n : Int) (w : World) : Calls Try.prog 39 #[.int .i64 n] w fun e w' => e = .returned (.bool (!okN n)) ∧ w' = w := by
  by_cases h0 : n < 0
  · have hS : Hid (okN n = false) := Lib.hid (by unfold okN; rw [decide_eq_false (by omega)]; rfl)
    go_enter Try.func39, Try.ntmps39
    go_wp2_with fail
    go_ret
    exact ⟨by rw [hS.out]; rfl, rfl⟩
  · by_cases h1 : 1099511627776 < n
    · have hS : Hid (okN n = false) := Lib.hid (by unfold okN; rw [decide_eq_false (show ¬ n ≤ 1099511627776 by omega)]; simp)
      go_enter Try.func39, Try.ntmps39
      go_wp2_with fail
      go_ret
      exact ⟨by rw [hS.out]; rfl, rfl⟩
    · have hS : Hid (okN n = true) := Lib.hid (by unfold okN; rw [decide_eq_true (show 0 ≤ n by omega), decide_eq_true (show n ≤ 1099511627776 by omega)]; rfl)
      go_enter Try.func39, Try.ntmps39
      go_wp2_with fail
      go_ret
      exact ⟨by rw [hS.out]; rfl, rfl⟩

theorem reads_ints {w : World} {a : Option Addr} {n cap : Nat} {l : List Int} (h : Reads w (.slice a n cap) (l.map (Value.int .i64))) : n = l.length ∧ cap ≤ 9223372036854775807 ∧ l.length ≤ cap ∧ Hid (∀ k (h : k < l.length), ∃ b off, a = some ⟨b, off, none⟩ ∧ w.cell? ⟨b, off + k, none⟩ = some (.int .i64 l[k])) := by
  obtain ⟨a', cap', hv, h1, h2, h3⟩ := h
  rw [List.length_map] at hv h1
  simp only [Value.slice.injEq] at hv
  obtain ⟨rfl, rfl, rfl⟩ := hv
  refine ⟨rfl, h2, h1, Lib.hid fun k hk => ?_⟩
  obtain ⟨b, off, rfl, hc⟩ := h3 (by intro e; rw [List.map_eq_nil_iff] at e; subst e; simp at hk)
  have := hc k (by rw [List.length_map]; exact hk)
  rw [List.getElem_map] at this
  exact ⟨b, off, rfl, this⟩

theorem sl_indexFunc (v : Value) (l : List Int) (w : World) (h : Reads w v (l.map (Value.int .i64))) :
    Calls Try.prog 42 #[v, .func (.func 39) #[] #[]] w fun e w' => (∃ r : Int, e = .returned (.int .i64 r) ∧ decide (0 ≤ r) = !inP l) ∧ w' = w := by
  obtain ⟨a, n, cap, rfl⟩ : ∃ a n c, v = .slice a n c := by obtain ⟨a, c, h, _⟩ := h; exact ⟨a, _, c, h⟩
  obtain ⟨rfl, hcm, hcap, hc⟩ := reads_ints h
  clear h
  go_enter Try.func42, Try.ntmps42
  go_wp2_with fail
  go_loop [8] (fun i => ∃ k : Nat, k ≤ l.length ∧ i = .int .i64 k ∧ Hid (inP (l.take k) = true)) (fun i => l.length - (intOf i).toNat)
  case atStart => exact ⟨0, by omega, rfl, Lib.hid rfl⟩
  case round =>
    obtain ⟨k, hk, rfl, hx⟩ := hrel
    by_cases hlt : k < l.length
    · obtain ⟨b, off, rfl, hcell⟩ := hc.out k hlt
      have hsn : Hid (inP (l.take (k + 1)) = okN l[k]) := Lib.hid (by
        have := hx.out
        unfold inP at this ⊢
        rw [List.take_succ_eq_append_getElem hlt, List.all_append, this]
        simp)
      have hall : Hid (okN l[k] = false → inP l = false) := Lib.hid (fun h => by
        unfold inP
        rw [List.all_eq_false]
        exact ⟨l[k], List.getElem_mem hlt, by rw [h]; simp⟩)
      generalize l[k] = x at *
      have hcall := rlog_in1 x w
      cases hok : okN x with
      | false =>
        have H1 := Lib.hid (hall.out hok)
        rw [hok] at hcall
        clear hall hsn hok
        go_wp2_with fail
        refine hcall.mono ?_
        rintro e w' ⟨rfl, rfl⟩
        go_wp2_with fail
        go_ret
        exact ⟨⟨k, rfl, by rw [H1.out, decide_eq_true (by omega)]; rfl⟩, rfl⟩
      | true =>
        have H1 := Lib.hid (hsn.out.trans hok)
        rw [hok] at hcall
        clear hall hsn hok
        go_wp2_with fail
        refine hcall.mono ?_
        rintro e w' ⟨rfl, rfl⟩
        go_wp2_with fail
        go_round
        case rel => exact ⟨k + 1, by omega, by go_num, H1⟩
        case measure => simp [intOf]; omega
    · have hkl : k = l.length := by omega
      subst hkl
      have hx' : Hid (inP l = true) := Lib.hid (by have := hx.out; rwa [List.take_length] at this)
      go_wp2_with fail
      go_ret
      exact ⟨⟨-1, rfl, by rw [hx'.out]; rfl⟩, rfl⟩

theorem sl_containsFunc (v : Value) (l : List Int) (w : World) (h : Reads w v (l.map (Value.int .i64))) :
    Calls Try.prog 38 #[v, .func (.func 39) #[] #[]] w fun e w' => e = .returned (.bool (!inP l)) ∧ w' = w := by
  go_enter Try.func38, Try.ntmps38
  go_wp2_with fail
  refine (sl_indexFunc v l w h).mono ?_
  rintro e w' ⟨⟨r, rfl, hr⟩, rfl⟩
  have HR := Lib.hid hr
  clear hr
  go_wp2_with fail
  go_ret
  exact ⟨by rw [← HR.out]; rfl, rfl⟩

theorem rlog_in (v : Value) (l : List Int) (w : World) (h : Reads w v (l.map (Value.int .i64))) :
    Calls Try.prog 27 #[v] w fun e w' => e = .returned (.bool (inP l)) ∧ w' = w := by
  go_enter Try.func27, Try.ntmps27
  go_wp2_with fail
  refine (sl_containsFunc v l w h).mono ?_
  rintro e w' ⟨rfl, rfl⟩
  go_wp2_with fail
  go_ret
  exact ⟨by cases inP l <;> rfl, rfl⟩

theorem rlog_row (i0 t0 : Int) (v : Value) (es : List Ent) (w : World) (h : EntR w v es) (hl : es.length ≤ 1000000000) :
    Calls Try.prog 28 #[.int .i64 i0, .int .i64 t0, v] w fun e w' => e = .returned (.bool (rowP i0 t0 es)) ∧ Below w.heap.size w w' := by
  obtain ⟨a, cap, rfl⟩ := h.slice
  have hcp : cap ≤ 9223372036854775807 ∧ es.length ≤ cap := by
    obtain ⟨a', c', hv, h1, h2, _⟩ := h
    simp only [Value.slice.injEq] at hv
    omega
  have HR := Lib.hid h
  clear h
  go_enter Try.func28, Try.ntmps28
  go_wp2_with fail
  go_loopw [0, 1, 11] (fun i t j wr => ∃ (k : Nat) (i1 t1 : Int), k ≤ es.length ∧ j = .int .i64 k ∧ i = .int .i64 i1 ∧ t = .int .i64 t1 ∧ Hid (rowP i0 t0 es = rowP i1 t1 (es.drop k)) ∧ Below w.heap.size w wr) (fun _ _ j _ => es.length - (intOf j).toNat)
  case atStart => exact ⟨0, i0, t0, by omega, rfl, rfl, rfl, Lib.hid rfl, Below.refl _ _⟩
  case round =>
    obtain ⟨k, i1, t1, hk, rfl, rfl, rfl, hx, hbel⟩ := hrel
    by_cases hlt : k < es.length
    · obtain ⟨b, off, rfl, hblt, c0, c1, c2, c3⟩ := (HR.out.below hbel).cells k hlt
      have hdr : es.drop k = es[k] :: es.drop (k + 1) := List.drop_eq_getElem_cons hlt
      have hrw : Hid (rowP i0 t0 es = ((es[k].i == wrap64 (i1 + 1)) && decide (t1 ≤ es[k].t) && rowP es[k].i es[k].t (es.drop (k + 1)))) := Lib.hid (by rw [hx.out, hdr]; rfl)
      clear hx hdr
      generalize es[k] = e at *
      obtain ⟨ei, et, ek, ed⟩ := e
      dsimp only at c0 c1 c2 c3 hrw
      by_cases h1 : ei = wrap64 (i1 + 1)
      · by_cases h2 : et < t1
        · have H1 : Hid (rowP i0 t0 es = false) := Lib.hid (by rw [hrw.out, decide_eq_false (show ¬ t1 ≤ et by omega)]; simp)
          have hb2 : ∀ o, Below w.heap.size w (wr.alloc o) := fun o => hbel.alloc hbel.size o
          have HB2 := Lib.hid hb2
          clear hrw hb2
          have t0' : (ei != wrap64 (i1 + 1)) = false := by rw [bne_eq_false_iff_eq]; exact h1
          have h1' := Lib.hid h1
          clear h1
          go_wp2_with fail
          go_ret
          exact ⟨by rw [H1.out]; rfl, HB2.out _⟩
        · have H1 : Hid (rowP i0 t0 es = rowP ei et (es.drop (k + 1))) := Lib.hid (by rw [hrw.out, decide_eq_true (show t1 ≤ et by omega), h1]; simp)
          have hb2 : ∀ o n, Below w.heap.size w ((wr.alloc o).drewN n) := fun o n => below_drewN (hbel.alloc hbel.size o) n
          have HB2 := Lib.hid hb2
          have hb3 : ∀ o, Below w.heap.size w (wr.alloc o) := fun o => hbel.alloc hbel.size o
          have HB3 := Lib.hid hb3
          clear hrw hb2 hb3
          have t0' : (ei != wrap64 (i1 + 1)) = false := by rw [bne_eq_false_iff_eq]; exact h1
          have h1' := Lib.hid h1
          clear h1
          go_wp2_with fail
          go_quiet (fail)
          go_wp2_with fail
          go_roundw
          case rel => exact ⟨k + 1, ei, et, by omega, by go_num, rfl, rfl, H1, HB2.out _ _⟩
          case measure => simp [intOf]; omega
      · have H1 : Hid (rowP i0 t0 es = false) := Lib.hid (by rw [hrw.out, beq_eq_false_iff_ne.2 h1]; rfl)
        have hb2 : ∀ o, Below w.heap.size w (wr.alloc o) := fun o => hbel.alloc hbel.size o
        have HB2 := Lib.hid hb2
        have t0' : (ei != wrap64 (i1 + 1)) = true := by rw [bne_iff_ne]; exact h1
        clear hrw hb2 h1
        go_wp2_with fail
        go_ret
        exact ⟨by rw [H1.out]; rfl, HB2.out _⟩
    · have hkl : k = es.length := by omega
      subst hkl
      have H1 : Hid (rowP i0 t0 es = true) := Lib.hid (by rw [hx.out, List.drop_length]; rfl)
      clear hx
      go_wp2_with fail
      go_ret
      exact ⟨by rw [H1.out]; rfl, hbel⟩

/-- A log in memory: a block of five cells, and its entries. -/
structure LogS (w : World) (b : Nat) (s : Snp) (lv : Value) (es : List Ent) : Prop where
  lt : b < w.heap.size
  c0 : w.cell? ⟨b, 0, none⟩ = some (.int .i64 s.i)
  c1 : w.cell? ⟨b, 1, none⟩ = some (.int .i64 s.t)
  c2 : w.cell? ⟨b, 2, none⟩ = some (.string s.c)
  c3 : w.cell? ⟨b, 3, none⟩ = some (.string s.d)
  c4 : w.cell? ⟨b, 4, none⟩ = some lv
  fr : ∀ j, w.frozen? ⟨b, j, none⟩ = false
  r : EntR w lv es
  ne : ∀ g off n c, lv = .slice (some ⟨g, off, none⟩) n c → g ≠ b
/-- Its numbers. -/
def LogB (s : Snp) (es : List Ent) : Prop := 0 ≤ s.i ∧ s.i ≤ 4611686018427387904 ∧ es.length ≤ 200
def logPtr (b : Nat) : Value := .pointer (some ⟨b, 0, none⟩)

theorem LogS.below {w w' : World} {b : Nat} {s : Snp} {lv : Value} {es : List Ent} (h : LogS w b s lv es) (hb : Below w.heap.size w w') : LogS w' b s lv es :=
  ⟨Nat.lt_of_lt_of_le h.lt hb.size, (hb.cell (p := ⟨b, 0, none⟩) h.lt).trans h.c0, (hb.cell (p := ⟨b, 1, none⟩) h.lt).trans h.c1, (hb.cell (p := ⟨b, 2, none⟩) h.lt).trans h.c2, (hb.cell (p := ⟨b, 3, none⟩) h.lt).trans h.c3, (hb.cell (p := ⟨b, 4, none⟩) h.lt).trans h.c4,
    fun j => (hb.frozen (p := ⟨b, j, none⟩) h.lt).trans (h.fr j), h.r.below hb, h.ne⟩

def lastP (s : Snp) (es : List Ent) : Int := s.i + es.length
def termP (s : Snp) (es : List Ent) (i : Int) : Int × Bool :=
  if i < s.i ∨ lastP s es < i then (0, false) else if i = s.i then (s.t, true) else ((es[(i - s.i - 1).toNat]?.map (·.t)).getD 0, true)
def fitsP (s : Snp) (es : List Ent) (i t : Int) : Bool := (termP s es i).2 && ((termP s es i).1 == t)
def getP (s : Snp) (es : List Ent) (i n : Int) : List Ent := if i < s.i + 1 ∨ lastP s es < i ∨ n < 1 then [] else (es.drop (i - (s.i + 1)).toNat).take n.toNat
def newerP (s : Snp) (es : List Ent) (i t : Int) : Bool := decide ((termP s es (lastP s es)).1 < t) || (t == (termP s es (lastP s es)).1 && decide (lastP s es ≤ i))

theorem log_first {w : World} {b : Nat} {s : Snp} {lv : Value} {es : List Ent} (h : LogS w b s lv es) (hB : LogB s es) : Calls Try.prog 24 #[logPtr b] w fun e w' => e = .returned (.int .i64 (s.i + 1)) ∧ w' = w := by
  have c0 := h.c0
  obtain ⟨b0, b1, -⟩ := hB
  unfold logPtr
  clear h
  go_enter Try.func24, Try.ntmps24
  go_wp2_with fail
  go_ret
  exact ⟨rfl, rfl⟩

theorem log_last {w : World} {b : Nat} {s : Snp} {lv : Value} {es : List Ent} (h : LogS w b s lv es) (hB : LogB s es) : Calls Try.prog 25 #[logPtr b] w fun e w' => e = .returned (.int .i64 (lastP s es)) ∧ ∃ n, w' = w.drewN n := by
  have c0 := h.c0
  have c4 := h.c4
  obtain ⟨b0, b1, b2⟩ := hB
  obtain ⟨a, cap, hv⟩ := h.r.slice
  rw [hv] at c4
  have HL : Hid (lastP s es = s.i + es.length) := Lib.hid rfl
  unfold logPtr
  clear h hv
  generalize es.length = n at *
  have s1 : IntKind.i64.wrap (s.i + (n : Int)) = s.i + n := IntWalk.i64_in _ (by omega)
  go_enter Try.func25, Try.ntmps25
  go_wp2_with fail
  go_quiet (fail)
  go_wp2_with fail
  go_ret
  exact ⟨by rw [HL.out]; rfl, _, rfl⟩
end Go.Proofs.Ytikoafjnopkoaaa
namespace Go.Proofs.Ytikoafjnopkoaaa
open Go.ChangeShapes Go.WideShapes Go.ChangeAt Go.RowKit

theorem below_drewN' {w : World} (n : Nat) : Below w.heap.size w (w.drewN n) := below_drewN (Below.refl _ _) n

theorem log_term {w : World} {b : Nat} {s : Snp} {lv : Value} {es : List Ent} (i : Int) (h : LogS w b s lv es) (hB : LogB s es) :
    Calls Try.prog 14 #[logPtr b, .int .i64 i] w fun e w' => e = .returned (.tuple #[.int .i64 (termP s es i).1, .bool (termP s es i).2]) ∧ Below w.heap.size w w' := by
  have c0 := h.c0
  have c1 := h.c1
  have hLast := log_last h hB
  have hs1 := hB.1
  have hs2 := hB.2.1
  have hs3 := hB.2.2
  by_cases h1 : i < s.i
  · have H1 : Hid (termP s es i = (0, false)) := Lib.hid (by unfold termP; rw [if_pos (.inl h1)])
    unfold logPtr at *
    clear h hB hLast
    go_enter Try.func14, Try.ntmps14
    go_wp2_with fail
    go_ret2
    rw [H1.out]
    exact ⟨rfl, Below.refl _ _⟩
  · by_cases h2 : lastP s es < i
    · have H1 : Hid (termP s es i = (0, false)) := Lib.hid (by unfold termP; rw [if_pos (.inr h2)])
      have HL := Lib.hid hLast
      clear hLast
      unfold logPtr at *
      go_enter Try.func14, Try.ntmps14
      go_wp2_with fail
      refine HL.out.mono ?_
      rintro e w' ⟨rfl, n, rfl⟩
      go_wp2_with fail
      go_ret2
      rw [H1.out]
      exact ⟨rfl, below_drewN' _⟩
    · by_cases h3 : i = s.i
      · have H1 : Hid (termP s es i = (s.t, true)) := Lib.hid (by unfold termP; rw [if_neg (by omega), if_pos h3])
        have HL := Lib.hid hLast
        subst h3
        clear hLast
        unfold logPtr at *
        go_enter Try.func14, Try.ntmps14
        go_wp2_with fail
        refine HL.out.mono ?_
        rintro e w' ⟨rfl, n, rfl⟩
        go_wp2_with fail
        go_ret2
        rw [H1.out]
        exact ⟨rfl, below_drewN' _⟩
      · obtain ⟨k, hkk⟩ : ∃ k, k = (i - s.i - 1).toNat := ⟨_, rfl⟩
        have hik : i = s.i + 1 + k := by omega
        have hkl : k < es.length := by unfold lastP at h2; omega
        have H1 : Hid (termP s es i = (es[k].t, true)) := Lib.hid (by unfold termP; rw [if_neg (by omega), if_neg h3, ← hkk, List.getElem?_eq_getElem hkl]; rfl)
        have HL := Lib.hid hLast
        have hH := Lib.hid h
        have hBB := Lib.hid hB
        have c4 := h.c4
        have hblog := h.lt
        obtain ⟨a, cap, hv⟩ := h.r.slice
        have hr := h.r
        rw [hv] at c4 hr
        have hcap : es.length ≤ cap := by
          obtain ⟨a', c', hv', h1, _⟩ := hr
          simp only [Value.slice.injEq] at hv'
          omega
        obtain ⟨bb, off, rfl, hblt, e0, e1, e2, e3⟩ := hr.cells k hkl
        have HI := Lib.hid hik
        clear hLast h hB hkk hv hr hik
        have t3 : (i == s.i) = false := beq_eq_false_iff_ne.2 h3
        unfold logPtr at *
        go_enter Try.func14, Try.ntmps14
        go_wp2_with fail
        refine HL.out.mono ?_
        rintro e w' ⟨rfl, n, rfl⟩
        have hS := hH.out.below (below_drewN' (w := w) n)
        have hb1 : Below w.heap.size w (w.drewN n) := below_drewN' n
        generalize w.drewN n = w1 at *
        have c0 := (hb1.cell (p := ⟨b, 0, none⟩) hblog).trans c0
        go_upto_region 5 with fail
        rename World => w1
        have c4 := (hb1.cell (p := ⟨b, 4, none⟩) hblog).trans c4
        have e1 := (hb1.cell (p := ⟨bb, off + k * 4 + 1, none⟩) hblt).trans e1
        have l1 := Nat.lt_of_lt_of_le hblog hb1.size
        have l2 := Nat.lt_of_lt_of_le hblt hb1.size
        go_cut [4, 5] (fun x y wx => x = .int .i64 (es[k].t) ∧ y = .bool true ∧ Below w1.heap.size w1 wx)
        case first =>
          have hi := HI.out
          have q1 : IntKind.i64.wrap (i - (s.i + 1)) = (k : Int) := by rw [IntWalk.i64_in _ (by omega)]; omega
          clear hi
          refine wp_region_sw (by rfl) (by kernel_rfl) (fun k => match k with | 6 => some (fun v _ => v = .int .i64 (s.i + 1)) | _ => none) ?_ (fun vals => ?_)
          · intro k φ hk v w1 w2 h1 h2
            match k, hk with
            | 6, hk => obtain rfl := Option.some.inj hk; exact h1
          iterate 3 (refine sw_pure (by rfl) (fun K hK => ?_); go_simp; refine hK _ ?_; clear hK K)
          refine sw_at (.slice (some ⟨bb, off, none⟩) es.length cap) rfl rfl (fun wz hz hH => ?_) (fun K hK => ?_)
          · have h2 := (hz.cell (p := ⟨b, 4, none⟩) l1).trans c4
            go_simp
          go_simp; refine hK _ ?_; clear hK K
          iterate 2 (refine sw_pure (by rfl) (fun K hK => ?_); go_simp; refine hK _ ?_; clear hK K)
          refine sw_call _ rfl rfl (fun wz hz hH => ?_) (fun K hK => ?_)
          · go_simp
            go_at_call 24
            refine (log_first (hS.below hz) hBB.out).mono ?_
            rintro e w' ⟨rfl, rfl⟩
            exact ⟨_, rfl, rfl, Below.refl _ _⟩
          go_simp; refine hK _ ?_; clear hK K
          refine sw_at (.int .i64 k) rfl rfl (fun wz hz hH => ?_) (fun K hK => ?_)
          · have h3 := hH _ (List.Mem.head _) rfl
            dsimp only at h3
            rw [h3]
            go_simp
          go_simp; refine hK _ ?_; clear hK K
          iterate 2 (refine sw_pure (by rfl) (fun K hK => ?_); go_simp; refine hK _ ?_; clear hK K)
          refine sw_at (.int .i64 es[k].t) rfl rfl (fun wz hz hH => ?_) (fun K hK => ?_)
          · have h2 := (hz.cell (p := ⟨bb, off + k * 4 + 1, none⟩) l2).trans e1
            go_simp
          go_simp; refine hK _ ?_; clear hK K
          iterate 2 (refine sw_pure (by rfl) (fun K hK => ?_); go_simp; refine hK _ ?_; clear hK K)
          refine sw_done (fun wz hz hH => ?_)
          go_wp2_with fail
          go_meet
          exact ⟨rfl, rfl, hz⟩
        case rest =>
          obtain ⟨rfl, rfl, hz⟩ := hcut
          have hbz := hb1.trans (hz.mono hb1.size)
          clear hz c4 e1
          go_wp2_with fail
          go_ret2
          rw [H1.out]
          exact ⟨rfl, hbz⟩
end Go.Proofs.Ytikoafjnopkoaaa
namespace Go.Proofs.Ytikoafjnopkoaaa
open Go.ChangeShapes Go.WideShapes Go.ChangeAt Go.RowKit

theorem log_fits {w : World} {b : Nat} {s : Snp} {lv : Value} {es : List Ent} (i t : Int) (h : LogS w b s lv es) (hB : LogB s es) :
    Calls Try.prog 16 #[logPtr b, .int .i64 i, .int .i64 t] w fun e w' => e = .returned (.bool (fitsP s es i t)) ∧ Below w.heap.size w w' := by
  have hT := log_term i h hB
  have HF : Hid (fitsP s es i t = ((termP s es i).2 && ((termP s es i).1 == t))) := Lib.hid rfl
  clear h hB
  unfold logPtr at *
  go_enter Try.func16, Try.ntmps16
  go_wp2_with fail
  refine hT.mono ?_
  rintro e w' ⟨rfl, hb⟩
  generalize termP s es i = r at *
  obtain ⟨x, y⟩ := r
  dsimp only at HF ⊢
  cases y
  · go_wp2_with fail
    go_ret
    exact ⟨by rw [HF.out]; rfl, hb⟩
  · go_wp2_with fail
    go_ret
    exact ⟨by rw [HF.out]; rfl, hb⟩

theorem log_newer {w : World} {b : Nat} {s : Snp} {lv : Value} {es : List Ent} (i t : Int) (h : LogS w b s lv es) (hB : LogB s es) :
    Calls Try.prog 18 #[logPtr b, .int .i64 i, .int .i64 t] w fun e w' => e = .returned (.bool (newerP s es i t)) ∧ Below w.heap.size w w' := by
  have HF : Hid (newerP s es i t = (decide ((termP s es (lastP s es)).1 < t) || (t == (termP s es (lastP s es)).1 && decide (lastP s es ≤ i)))) := Lib.hid rfl
  have hL := log_last h hB
  have HS := Lib.hid h
  have HB := Lib.hid hB
  clear h hB
  unfold logPtr at *
  go_enter Try.func18, Try.ntmps18
  go_wp2_with fail
  refine hL.mono ?_
  rintro e w' ⟨rfl, n, rfl⟩
  have hS1 := HS.out.below (below_drewN' (w := w) n)
  have hb1 : Below w.heap.size w (w.drewN n) := below_drewN' n
  have hT := log_term (lastP s es) hS1 HB.out
  clear hL
  generalize w.drewN n = w1 at *
  unfold logPtr at *
  go_wp2_with fail
  refine hT.mono ?_
  rintro e w2 ⟨rfl, hb2⟩
  have hS2 := hS1.below hb2
  have hL2 := log_last hS2 HB.out
  have hb3 := hb1.trans (hb2.mono hb1.size)
  clear hT hS1 hb1 hb2
  unfold logPtr at *
  generalize (termP s es (lastP s es)).1 = x at *
  generalize (termP s es (lastP s es)).2 = y at *
  generalize lastP s es = L at *
  clear hS2
  by_cases h1 : x < t
  · have t1 : decide (x < t) = true := decide_eq_true h1
    go_wp2_with fail
    go_ret
    exact ⟨by rw [HF.out, t1]; rfl, hb3⟩
  · have t1 : decide (x < t) = false := decide_eq_false h1
    by_cases h2 : t = x
    · have t2 : (t == x) = true := by rw [h2]; exact beq_self_eq_true _
      have H2 := Lib.hid h2
      clear h2 h1
      go_wp2_with fail
      refine hL2.mono ?_
      rintro e w3 ⟨rfl, n, rfl⟩
      have hb4 := below_drewN hb3 n
      clear hL2 hb3
      go_wp2_with fail
      go_ret
      exact ⟨by rw [HF.out, t1, t2]; rfl, hb4⟩
    · have t2 : (t == x) = false := beq_eq_false_iff_ne.2 h2
      clear h2 h1
      go_wp2_with fail
      go_ret
      exact ⟨by rw [HF.out, t1, t2]; rfl, hb3⟩

theorem log_snap {w : World} {b : Nat} {s : Snp} {lv : Value} {es : List Ent} (h : LogS w b s lv es) :
    Calls Try.prog 35 #[logPtr b] w fun e w' => e = .returned (snpAgg s) ∧ Below w.heap.size w w' := by
  have hb := fun o => (Below.refl w.heap.size w).alloc (Nat.le_refl _) o
  have c0 := h.c0
  have c1 := h.c1
  have c2 := h.c2
  have c3 := h.c3
  have HB := Lib.hid hb
  have hlt := h.lt
  have hne : b ≠ w.heap.size := by omega
  clear h hb
  unfold logPtr
  go_enter Try.func35, Try.ntmps35
  go_wp2_with fail
  exact bodyPost_ret (v := snpAgg s) (by simp [results, Try.results35, go_sem, snpAgg]) rfl ⟨rfl, HB.out _⟩

theorem log_get {w : World} {b : Nat} {s : Snp} {lv : Value} {es : List Ent} (i n : Int) (h : LogS w b s lv es) (hB : LogB s es) :
    Calls Try.prog 21 #[logPtr b, .int .i64 i, .int .i64 n] w fun e w' => RetEnts w (getP s es i n) e w' := by
  have hLast := log_last h hB
  have hFirst := log_first h hB
  have hs1 := hB.1
  have hs2 := hB.2.1
  have hs3 := hB.2.2
  by_cases h1 : i < s.i + 1
  · have H1 : Hid (getP s es i n = []) := Lib.hid (by unfold getP; rw [if_pos (.inl h1)])
    unfold logPtr at *
    clear h hB hLast
    go_enter Try.func21, Try.ntmps21
    go_wp2_with fail
    refine hFirst.mono ?_
    rintro e w' ⟨rfl, rfl⟩
    go_wp2_with fail
    go_ret
    exact ⟨_, rfl, by rw [H1.out]; exact EntO.nil _ _, Below.refl _ _⟩
  · by_cases h2 : lastP s es < i
    · have H1 : Hid (getP s es i n = []) := Lib.hid (by unfold getP; rw [if_pos (.inr (.inl h2))])
      unfold logPtr at *
      clear h hB
      go_enter Try.func21, Try.ntmps21
      go_wp2_with fail
      refine hFirst.mono ?_
      rintro e w' ⟨rfl, rfl⟩
      go_wp2_with fail
      refine hLast.mono ?_
      rintro e w2 ⟨rfl, m, rfl⟩
      go_wp2_with fail
      go_ret
      exact ⟨_, rfl, by rw [H1.out]; exact EntO.nil _ _, below_drewN' _⟩
    · by_cases h3 : n < 1
      · have H1 : Hid (getP s es i n = []) := Lib.hid (by unfold getP; rw [if_pos (.inr (.inr h3))])
        unfold logPtr at *
        clear h hB
        go_enter Try.func21, Try.ntmps21
        go_wp2_with fail
        refine hFirst.mono ?_
        rintro e w' ⟨rfl, rfl⟩
        go_wp2_with fail
        refine hLast.mono ?_
        rintro e w2 ⟨rfl, m, rfl⟩
        go_wp2_with fail
        go_ret
        exact ⟨_, rfl, by rw [H1.out]; exact EntO.nil _ _, below_drewN' _⟩
      · obtain ⟨k, hkk⟩ : ∃ k, k = (i - (s.i + 1)).toNat := ⟨_, rfl⟩
        have hik : i = s.i + 1 + k := by omega
        have hkl : k < es.length := by unfold lastP at h2; omega
        obtain ⟨m, rfl⟩ := Int.eq_ofNat_of_zero_le (show 0 ≤ n by omega)
        have H1 : Hid (getP s es i m = (es.drop k).take m) := Lib.hid (by unfold getP; rw [if_neg (by omega), ← hkk]; rfl)
        have hH := Lib.hid h
        have hBB := Lib.hid hB
        have hblog := h.lt
        obtain ⟨a, cap, hv⟩ := h.r.slice
        have c4 := h.c4
        have hr := h.r
        rw [hv] at c4 hr
        have hcap : es.length ≤ cap ∧ cap ≤ 9223372036854775807 := by
          obtain ⟨a', c', hv', h1, h2, _⟩ := hr
          simp only [Value.slice.injEq] at hv'
          omega
        obtain ⟨hcap, hcm⟩ := hcap
        obtain ⟨bb, off, rfl, hblt, -⟩ := hr.cells k hkl
        have hd := hr.drop k (by omega)
        rw [if_neg (by omega)] at hd
        have hd : EntR w (.slice (some ⟨bb, off + k * 4, none⟩) (es.length - k) (cap - k)) (es.drop k) := by simpa [Addr.add_lit] using hd
        have HI := Lib.hid hik
        clear h hB hkk hv hr hik
        have HLast := Lib.hid hLast
        have HFirst := Lib.hid hFirst
        clear hLast hFirst
        unfold logPtr at *
        go_enter Try.func21, Try.ntmps21
        go_wp2_with fail
        refine HFirst.out.mono ?_
        rintro e w' ⟨rfl, rfl⟩
        go_wp2_with fail
        refine HLast.out.mono ?_
        rintro e w' ⟨rfl, q, rfl⟩
        rename World => w
        have hS := hH.out.below (below_drewN' (w := w) q)
        have hb1 : Below w.heap.size w (w.drewN q) := below_drewN' q
        clear HLast HFirst hH
        generalize w.drewN q = w1 at *
        go_upto_region 3 with fail
        rename World => w1
        have c4 := (hb1.cell (p := ⟨b, 4, none⟩) hblog).trans c4
        have hd := hd.below hb1
        have l1 := Nat.lt_of_lt_of_le hblog hb1.size
        go_cut [7] (fun x wx => x = .slice (some ⟨bb, off + k * 4, none⟩) (es.length - k) (cap - k) ∧ Below w1.heap.size w1 wx)
        case first =>
          have hi := HI.out
          have q1 : IntKind.i64.wrap (i - (s.i + 1)) = (k : Int) := by rw [IntWalk.i64_in _ (by omega)]; omega
          have u1 : k ≤ es.length := by omega
          have u2 : ¬ cap = k := by omega
          clear hi
          refine wp_region_sw (by rfl) (by kernel_rfl) (fun k => match k with | 6 => some (fun v _ => v = .int .i64 (s.i + 1)) | _ => none) ?_ (fun vals => ?_)
          · intro k φ hk v w1 w2 h1 h2
            match k, hk with
            | 6, hk => obtain rfl := Option.some.inj hk; exact h1
          iterate 3 (refine sw_pure (by rfl) (fun K hK => ?_); go_simp; refine hK _ ?_; clear hK K)
          refine sw_at (.slice (some ⟨bb, off, none⟩) es.length cap) rfl rfl (fun wz hz hH => ?_) (fun K hK => ?_)
          · have h2 := (hz.cell (p := ⟨b, 4, none⟩) l1).trans c4
            go_simp
          go_simp; refine hK _ ?_; clear hK K
          iterate 2 (refine sw_pure (by rfl) (fun K hK => ?_); go_simp; refine hK _ ?_; clear hK K)
          refine sw_call _ rfl rfl (fun wz hz hH => ?_) (fun K hK => ?_)
          · go_simp
            go_at_call 24
            refine (log_first (hS.below hz) hBB.out).mono ?_
            rintro e w' ⟨rfl, rfl⟩
            exact ⟨_, rfl, rfl, Below.refl _ _⟩
          go_simp; refine hK _ ?_; clear hK K
          refine sw_at (.int .i64 k) rfl rfl (fun wz hz hH => ?_) (fun K hK => ?_)
          · have h3 := hH _ (List.Mem.head _) rfl
            dsimp only at h3
            rw [h3]
            go_simp
          go_simp; refine hK _ ?_; clear hK K
          refine sw_at (.slice (some ⟨bb, off + k * 4, none⟩) (es.length - k) (cap - k)) rfl rfl (fun wz hz hH => ?_) (fun K hK => ?_)
          · go_simp
          go_simp; refine hK _ ?_; clear hK K
          iterate 1 (refine sw_pure (by rfl) (fun K hK => ?_); go_simp; refine hK _ ?_; clear hK K)
          refine sw_done (fun wz hz hH => ?_)
          go_wp2_with fail
          go_meet
          exact ⟨rfl, hz⟩
        case rest =>
          obtain ⟨rfl, hz⟩ := hcut
          have hdz := hd.below hz
          have hbz := hb1.trans (hz.mono hb1.size)
          clear hz c4 hd hb1 hS
          have hlen : (es.drop k).length = es.length - k := by rw [List.length_drop]
          by_cases hm : m ≤ es.length - k
          · have hT := hdz.take m (cap - k) (by rw [hlen]; exact hm) (by omega) (by omega)
            have HLE := Lib.hid hlen
            clear hlen
            have q1 : min (m : Int) ((es.length - k : Nat) : Int) = m := by omega
            go_wp2_with fail
            refine (sl_cloneE _ ((es.drop k).take m) _ hT (by rw [List.length_take]; omega)).mono ?_
            rintro e w3 ⟨v3, rfl, ho, hb3⟩
            have hby := hbz.trans (hb3.mono hbz.size)
            have hoo := ho.rebase hbz.size
            clear hT hb3 ho
            go_wp2_with fail
            go_ret
            exact ⟨_, rfl, by rw [H1.out]; exact hoo, hby⟩
          · have q1 : min (m : Int) ((es.length - k : Nat) : Int) = ((es.length - k : Nat) : Int) := by omega
            have H2 : Hid ((es.drop k).take m = es.drop k) := Lib.hid (List.take_of_length_le (by omega))
            have HLE := Lib.hid hlen
            have hm3 : es.length - k < m := by omega
            clear hlen
            go_wp2_with fail
            refine (sl_cloneE _ (es.drop k) _ hdz (by rw [HLE.out]; omega)).mono ?_
            rintro e w3 ⟨v3, rfl, ho, hb3⟩
            have hby := hbz.trans (hb3.mono hbz.size)
            have hoo := ho.rebase hbz.size
            clear hdz hb3 ho
            go_wp2_with fail
            go_ret
            exact ⟨_, rfl, by rw [H1.out, H2.out]; exact hoo, hby⟩
end Go.Proofs.Ytikoafjnopkoaaa
namespace Go.Proofs.Ytikoafjnopkoaaa
open Go.ChangeShapes Go.WideShapes Go.ChangeAt Go.RowKit

def newOk (s : Snp) (es : List Ent) : Bool := inP [s.i, s.t] && decide (es.length ≤ 200) && rowP s.i s.t es
/-- Of a slice's own block: new since a world. -/
def Since (w : World) (lv : Value) : Prop := ∀ g off n c, lv = .slice (some ⟨g, off, none⟩) n c → w.heap.size ≤ g
def RetLog (w : World) (s : Snp) (es : List Ent) (e : Ending) (w' : World) : Prop :=
  ∃ b lv, e = .returned (logPtr b) ∧ LogS w' b s lv es ∧ Below w.heap.size w w' ∧ w.heap.size ≤ b ∧ Since w lv

theorem EntO.since {w w0 : World} {base : Nat} {v : Value} {es : List Ent} (h : EntO w base v es) (hb : w0.heap.size ≤ base) : Since w0 v := by
  intro g off n c hv
  rcases h.2 with ⟨h1, _⟩ | ⟨g', cap, cur, h1, hg, _⟩
  · rw [hv] at h1; cases h1
  · rw [hv] at h1
    simp only [Value.slice.injEq, Option.some.injEq, Addr.mk.injEq] at h1
    omega
theorem EntO.lt {w : World} {base : Nat} {v : Value} {es : List Ent} (h : EntO w base v es) : ∀ g off n c, v = .slice (some ⟨g, off, none⟩) n c → g < w.heap.size := by
  intro g off n c hv
  rcases h.2 with ⟨h1, _⟩ | ⟨g', cap, cur, h1, hg, hh, _⟩
  · rw [hv] at h1; cases h1
  · rw [hv] at h1
    simp only [Value.slice.injEq, Option.some.injEq, Addr.mk.injEq] at h1
    obtain ⟨⟨rfl, _⟩, _⟩ := h1
    exact (Array.getElem?_eq_some_iff.1 hh).1

theorem logS_fresh {w : World} {base : Nat} {lv : Value} {es : List Ent} {s : Snp} (h : EntO w base lv es) (T : TypeId) :
    LogS (w.alloc (.cells #[.int .i64 s.i, .int .i64 s.t, .string s.c, .string s.d, lv] T)) w.heap.size s lv es := by
  have hn := heap_alloc_new w (.cells #[.int .i64 s.i, .int .i64 s.t, .string s.c, .string s.d, lv] T)
  have hb := (Below.refl w.heap.size w).alloc (Nat.le_refl _) (.cells #[.int .i64 s.i, .int .i64 s.t, .string s.c, .string s.d, lv] T)
  refine ⟨?_, ?_, ?_, ?_, ?_, ?_, fun j => World.frozen?_alloc_new w _ _ j, h.r.below hb, fun g off n c hv => by have := h.lt g off n c hv; omega⟩
  · show w.heap.size < (w.heap.push _).size; simp
  · rw [cell_of_row _ w.heap.size 0 _ T (0, 0) hn]; rfl
  · rw [cell_of_row _ w.heap.size 1 _ T (0, 0) hn]; rfl
  · rw [cell_of_row _ w.heap.size 2 _ T (0, 0) hn]; rfl
  · rw [cell_of_row _ w.heap.size 3 _ T (0, 0) hn]; rfl
  · rw [cell_of_row _ w.heap.size 4 _ T (0, 0) hn]; rfl

set_option maxHeartbeats 1000000 in
/-- What New yields. -/
def RetNewL (w : World) (s : Snp) (es : List Ent) (e : Ending) (w' : World) : Prop :=
  if newOk s es = true then RetLog w s es e w' else e = .returned (.pointer none) ∧ Below w.heap.size w w'
theorem RetNewL.no {w : World} {s : Snp} {es : List Ent} {w' : World} (h : newOk s es = false) (hb : Below w.heap.size w w') : RetNewL w s es (.returned (.pointer none)) w' := by
  unfold RetNewL
  rw [if_neg (by rw [h]; decide)]
  exact ⟨rfl, hb⟩
theorem RetNewL.yes {w : World} {s : Snp} {es : List Ent} {e : Ending} {w' : World} (h : newOk s es = true) (hb : RetLog w s es e w') : RetNewL w s es e w' := by
  unfold RetNewL
  rw [if_pos h]
  exact hb

set_option maxRecDepth 100000 in
theorem log_new (s : Snp) (v : Value) (es : List Ent) (w : World) (h : EntR w v es) (hl : es.length ≤ 1000000000) :
    Calls Try.prog 7 #[snpAgg s, v] w fun e w' => RetNewL w s es e w' := by
  have HOK : Hid (newOk s es = (inP [s.i, s.t] && decide (es.length ≤ 200) && rowP s.i s.t es)) := Lib.hid rfl
  obtain ⟨a, cap, rfl⟩ := h.slice
  have hb1 := (Below.refl w.heap.size w).alloc (Nat.le_refl _) (.cells #[.int .i64 s.i, .int .i64 s.t, .string s.c, .string s.d] 23)
  have hb2 := hb1.alloc hb1.size (.cells #[.int .i64 s.i, .int .i64 s.t] 2)
  have hr := Reads.fresh (w.alloc (.cells #[.int .i64 s.i, .int .i64 s.t, .string s.c, .string s.d] 23)) ([s.i, s.t].map (Value.int .i64)) 2 (0, 0) #[.int .i64 s.i, .int .i64 s.t] 2 rfl rfl (by simp)
  have hE := h.below hb2
  rw [show (w.alloc (.cells #[.int .i64 s.i, .int .i64 s.t, .string s.c, .string s.d] 23)).heap.size = w.heap.size + 1 from by simp] at hr
  have hd : ∀ j, ((w.alloc (.cells #[.int .i64 s.i, .int .i64 s.t, .string s.c, .string s.d] 23)).alloc (.cells #[.int .i64 s.i, .int .i64 s.t] 2)).cell? ⟨w.heap.size, j, none⟩ = #[.int .i64 s.i, .int .i64 s.t, .string s.c, .string s.d][j]? := fun j => by
    have h2 := (Below.refl (w.alloc (.cells #[.int .i64 s.i, .int .i64 s.t, .string s.c, .string s.d] 23)).heap.size (w.alloc (.cells #[.int .i64 s.i, .int .i64 s.t, .string s.c, .string s.d] 23))).alloc (Nat.le_refl _) (.cells #[.int .i64 s.i, .int .i64 s.t] 2)
    rw [h2.cell (p := ⟨w.heap.size, j, none⟩) (by simp), World.cell?_alloc_new]
  have d0 := hd 0
  have d1 := hd 1
  have d2 := hd 2
  have d3 := hd 3
  have hsz : w.heap.size + 1 < ((w.alloc (.cells #[.int .i64 s.i, .int .i64 s.t, .string s.c, .string s.d] 23)).alloc (.cells #[.int .i64 s.i, .int .i64 s.t] 2)).heap.size := by simp
  simp only [List.getElem?_toArray, List.getElem?_cons_zero, List.getElem?_cons_succ] at d0 d1 d2 d3
  clear hb1 hd
  unfold snpAgg
  go_enter Try.func7, Try.ntmps7
  go_wp2_with fail
  refine (rlog_in _ [s.i, s.t] _ hr).mono ?_
  rintro e w' ⟨rfl, rfl⟩
  clear hr
  generalize (w.alloc (.cells #[.int .i64 s.i, .int .i64 s.t, .string s.c, .string s.d] 23)).alloc (.cells #[.int .i64 s.i, .int .i64 s.t] 2) = w1 at *
  cases hin : inP [s.i, s.t] with
  | false =>
    rw [hin] at HOK
    have H1 : Hid (newOk s es = false) := Lib.hid HOK.out
    clear HOK hin
    go_wp2_with fail
    go_ret
    exact RetNewL.no H1.out hb2
  | true =>
    rw [hin] at HOK
    clear hin
    by_cases h2 : es.length ≤ 200
    · have HOK2 : Hid (newOk s es = rowP s.i s.t es) := Lib.hid (by rw [HOK.out, decide_eq_true h2]; rfl)
      have t2 : ¬ 200 < es.length := by omega
      have t3 : decide ((200 : Int) < (es.length : Int)) = false := decide_eq_false (by omega)
      clear HOK
      go_wp2_with fail
      refine (rlog_row s.i s.t _ es _ hE hl).mono ?_
      rintro e w2 ⟨rfl, hb3⟩
      have e0 := (hb3.cell (p := ⟨w.heap.size, 0, none⟩) (by show w.heap.size < _; omega)).trans d0
      have e1 := (hb3.cell (p := ⟨w.heap.size, 1, none⟩) (by show w.heap.size < _; omega)).trans d1
      have e2 := (hb3.cell (p := ⟨w.heap.size, 2, none⟩) (by show w.heap.size < _; omega)).trans d2
      have e3 := (hb3.cell (p := ⟨w.heap.size, 3, none⟩) (by show w.heap.size < _; omega)).trans d3
      have hE2 := hE.below hb3
      have hb4 := hb2.trans (hb3.mono hb2.size)
      have hsz2 := Nat.lt_of_lt_of_le hsz hb3.size
      clear d0 d1 d2 d3 hE hb3 hb2 hsz
      cases hrw : rowP s.i s.t es with
      | false =>
        have H1 : Hid (newOk s es = false) := Lib.hid (HOK2.out.trans hrw)
        clear HOK2 hrw
        go_wp2_with fail
        go_ret
        exact RetNewL.no H1.out hb4
      | true =>
        have H1 : Hid (newOk s es = true) := Lib.hid (HOK2.out.trans hrw)
        clear HOK2 hrw
        go_upto_region 3 with fail
        rename World => w2
        go_cut [4] (fun x wx => ∃ b lv, x = logPtr b ∧ LogS wx b s lv es ∧ Below w2.heap.size w2 wx ∧ w2.heap.size ≤ b ∧ Since w2 lv)
        case first =>
          have l1 : w.heap.size < w2.heap.size := by omega
          refine wp_region_sw (by rfl) (by kernel_rfl) (fun k => match k with | 2 => some (fun v wx => EntO wx w2.heap.size v es) | 3 => some (fun v wx => ∃ a n c, v = .agg #[.int .i64 s.i, .int .i64 s.t, .string s.c, .string s.d, .slice a n c] ∧ EntO wx w2.heap.size (.slice a n c) es) | 4 => some (fun v wx => ∃ b lv, v = logPtr b ∧ LogS wx b s lv es ∧ w2.heap.size ≤ b ∧ Since w2 lv) | _ => none) ?_ (fun vals => ?_)
          · intro k φ hk v w1 w2 h1 h2
            match k, hk with
            | 2, hk => obtain rfl := Option.some.inj hk; exact h1.below h2
            | 3, hk => obtain rfl := Option.some.inj hk; obtain ⟨a, n, c, g1, g2⟩ := h1; exact ⟨a, n, c, g1, g2.below h2⟩
            | 4, hk => obtain rfl := Option.some.inj hk; obtain ⟨b, lv, g1, g2, g3⟩ := h1; exact ⟨b, lv, g1, g2.below h2, g3⟩
          refine sw_at (snpAgg s) rfl rfl (fun wz hz hH => ?_) (fun K hK => ?_)
          · have g0 := (hz.cell (p := ⟨w.heap.size, 0, none⟩) l1).trans e0
            have g1 := (hz.cell (p := ⟨w.heap.size, 1, none⟩) l1).trans e1
            have g2 := (hz.cell (p := ⟨w.heap.size, 2, none⟩) l1).trans e2
            have g3 := (hz.cell (p := ⟨w.heap.size, 3, none⟩) l1).trans e3
            unfold snpAgg
            go_simp
          go_simp; refine hK _ ?_; clear hK K
          iterate 1 (refine sw_pure (by rfl) (fun K hK => ?_); go_simp; refine hK _ ?_; clear hK K)
          refine sw_call _ rfl rfl (fun wz hz hH => ?_) (fun K hK => ?_)
          · go_simp
            go_at_call 29
            refine (sl_cloneE _ es _ (hE2.below hz) hl).mono ?_
            rintro e w' ⟨v, rfl, hv, hb⟩
            exact ⟨v, rfl, hv.rebase hz.size, hb⟩
          go_simp; refine hK _ ?_; clear hK K
          refine sw_call _ rfl rfl (fun wz hz hH => ?_) (fun K hK => ?_)
          · have hv2 := hH _ (List.Mem.head _) rfl
            dsimp only at hv2
            obtain ⟨av, cv, he⟩ := hv2.r.slice
            rw [he] at hv2 ⊢
            unfold snpAgg
            go_simp
            exact ⟨⟨_, _, _, ⟨rfl, rfl, rfl⟩, hv2⟩, Below.refl _ _⟩
          go_simp; refine hK _ ?_; clear hK K
          refine sw_call _ rfl rfl (fun wz hz hH => ?_) (fun K hK => ?_)
          · have hv2 := hH _ (List.Mem.head _) rfl
            dsimp only at hv2
            obtain ⟨av, nv, cv, he, hv2⟩ := hv2
            have hfr := logS_fresh (s := s) hv2 58
            have hsi := hv2.since (w0 := w2) (Nat.le_refl _)
            rw [he]
            go_simp
            exact ⟨⟨_, rfl, _, hfr, hz.size, hsi⟩, (Below.refl _ _).alloc (Nat.le_refl _) _⟩
          go_simp; refine hK _ ?_; clear hK K
          iterate 1 (refine sw_pure (by rfl) (fun K hK => ?_); go_simp; refine hK _ ?_; clear hK K)
          refine sw_done (fun wz hz hH => ?_)
          have hq := hH _ (List.Mem.head _)
          dsimp only at hq
          obtain ⟨b, lv, g1, g2, g3, g4⟩ := hq
          go_wp2_with fail
          go_meet
          exact ⟨b, lv, g1, g2, hz, g3, g4⟩
        case rest =>
          obtain ⟨b, lv, rfl, g1, g2, g3, g4⟩ := hcut
          have hb5 := hb4.trans (g2.mono hb4.size)
          have hsz5 := hb4.size
          go_wp2_with fail
          go_ret
          exact RetNewL.yes H1.out ⟨b, lv, rfl, g1, hb5, by omega, fun g off n c hv => by have := g4 g off n c hv; omega⟩
    · have HOK2 : Hid (newOk s es = false) := Lib.hid (by rw [HOK.out, decide_eq_false h2]; rfl)
      have t2 : 200 < es.length := by omega
      have t3 : decide ((200 : Int) < (es.length : Int)) = true := decide_eq_true (by omega)
      clear HOK
      go_wp2_with fail
      go_ret
      exact RetNewL.no HOK2.out hb2
end Go.Proofs.Ytikoafjnopkoaaa
