/-
  No claim by itself: logs: in, row, First, Last, Term, Fits, Get: what each tells. No condition.
-/
import Derived.Test.YtihcohneongomaaEnt
import Derived.Test.YtihcohneongomaaRegion
import Derived.Deep.QuietTactic
import Derived.Deep.DeepCutAuto
import Derived.Deep.Cut
import Derived.WalkSmall
namespace Go.Proofs.Ytihcohneongomaa
open Go.ChangeShapes Go.WideShapes Go.ChangeAt Go.RowKit

/-- May numbers be? -/
def okN (n : Int) : Bool := decide (0 ≤ n) && decide (n ≤ 1099511627776)
def inP (l : List Int) : Bool := l.all okN
/-- Do entries stand one behind the other, behind an Index and a Term? -/
def rowP : Int → Int → List Ent → Bool
  | _, _, [] => true
  | i, t, e :: es => (e.i == wrap64 (i + 1)) && decide (t ≤ e.t) && rowP e.i e.t es

theorem rlog_in1 (n : Int) (w : World) : Calls Try.prog 85 #[.int .i64 n] w fun e w' => e = .returned (.bool (!okN n)) ∧ w' = w := by
  by_cases h0 : n < 0
  · have hS : Hid (okN n = false) := Lib.hid (by unfold okN; rw [decide_eq_false (by omega)]; rfl)
    go_enter Try.func85, Try.ntmps85
    go_wp2_with fail
    go_ret
    exact ⟨by rw [hS.out]; rfl, rfl⟩
  · by_cases h1 : 1099511627776 < n
    · have hS : Hid (okN n = false) := Lib.hid (by unfold okN; rw [decide_eq_false (show ¬ n ≤ 1099511627776 by omega)]; simp)
      go_enter Try.func85, Try.ntmps85
      go_wp2_with fail
      go_ret
      exact ⟨by rw [hS.out]; rfl, rfl⟩
    · have hS : Hid (okN n = true) := Lib.hid (by unfold okN; rw [decide_eq_true (show 0 ≤ n by omega), decide_eq_true (show n ≤ 1099511627776 by omega)]; rfl)
      go_enter Try.func85, Try.ntmps85
      go_wp2_with fail
      go_ret
      exact ⟨by rw [hS.out]; rfl, rfl⟩

theorem reads_ints {w : World} {a : Option Addr} {n cap : Nat} {l : List Int} (h : Reads w (.slice a n cap) (l.map (Value.int .i64))) : n = l.length ∧ cap ≤ 9223372036854775807 ∧ l.length ≤ cap ∧ Hid (∀ k (h : k < l.length), ∃ b off, a = some ⟨b, off, none⟩ ∧ w.cell? ⟨b, off + k, none⟩ = some (.int .i64 l[k])) := by
  obtain ⟨a', cap', hv, h1, h2, h3⟩ := h
  rw [List.length_map] at hv h1
  simp only [Value.slice.injEq] at hv
  obtain ⟨rfl, rfl, rfl⟩ := hv
  refine ⟨rfl, h2, h1, Lib.hid fun k hk => ?_⟩
  obtain ⟨b, off, rfl, hc⟩ := h3 (by intro e; rw [List.map_eq_nil_iff] at e; subst e; simp at hk)
  have := hc k (by rw [List.length_map]; exact hk)
  rw [List.getElem_map] at this
  exact ⟨b, off, rfl, this⟩

theorem sl_indexFunc (v : Value) (l : List Int) (w : World) (h : Reads w v (l.map (Value.int .i64))) :
    Calls Try.prog 99 #[v, .func (.func 85) #[] #[]] w fun e w' => (∃ r : Int, e = .returned (.int .i64 r) ∧ decide (0 ≤ r) = !inP l) ∧ w' = w := by
  obtain ⟨a, n, cap, rfl⟩ : ∃ a n c, v = .slice a n c := by obtain ⟨a, c, h, _⟩ := h; exact ⟨a, _, c, h⟩
  obtain ⟨rfl, hcm, hcap, hc⟩ := reads_ints h
  clear h
  go_enter Try.func99, Try.ntmps99
  go_wp2_with fail
  go_loop [8] (fun i => ∃ k : Nat, k ≤ l.length ∧ i = .int .i64 k ∧ Hid (inP (l.take k) = true)) (fun i => l.length - (intOf i).toNat)
  case atStart => exact ⟨0, by omega, rfl, Lib.hid rfl⟩
  case round =>
    obtain ⟨k, hk, rfl, hx⟩ := hrel
    by_cases hlt : k < l.length
    · obtain ⟨b, off, rfl, hcell⟩ := hc.out k hlt
      have hsn : Hid (inP (l.take (k + 1)) = okN l[k]) := Lib.hid (by
        have := hx.out
        unfold inP at this ⊢
        rw [List.take_succ_eq_append_getElem hlt, List.all_append, this]
        simp)
      have hall : Hid (okN l[k] = false → inP l = false) := Lib.hid (fun h => by
        unfold inP
        rw [List.all_eq_false]
        exact ⟨l[k], List.getElem_mem hlt, by rw [h]; simp⟩)
      generalize l[k] = x at *
      have hcall := rlog_in1 x w
      cases hok : okN x with
      | false =>
        have H1 := Lib.hid (hall.out hok)
        rw [hok] at hcall
        clear hall hsn hok
        go_wp2_with fail
        refine hcall.mono ?_
        rintro e w' ⟨rfl, rfl⟩
        go_wp2_with fail
        go_ret
        exact ⟨⟨k, rfl, by rw [H1.out, decide_eq_true (by omega)]; rfl⟩, rfl⟩
      | true =>
        have H1 := Lib.hid (hsn.out.trans hok)
        rw [hok] at hcall
        clear hall hsn hok
        go_wp2_with fail
        refine hcall.mono ?_
        rintro e w' ⟨rfl, rfl⟩
        go_wp2_with fail
        go_round
        case rel => exact ⟨k + 1, by omega, by go_num, H1⟩
        case measure => simp [intOf]; omega
    · have hkl : k = l.length := by omega
      subst hkl
      have hx' : Hid (inP l = true) := Lib.hid (by have := hx.out; rwa [List.take_length] at this)
      go_wp2_with fail
      go_ret
      exact ⟨⟨-1, rfl, by rw [hx'.out]; rfl⟩, rfl⟩

theorem sl_containsFunc (v : Value) (l : List Int) (w : World) (h : Reads w v (l.map (Value.int .i64))) :
    Calls Try.prog 84 #[v, .func (.func 85) #[] #[]] w fun e w' => e = .returned (.bool (!inP l)) ∧ w' = w := by
  go_enter Try.func84, Try.ntmps84
  go_wp2_with fail
  refine (sl_indexFunc v l w h).mono ?_
  rintro e w' ⟨⟨r, rfl, hr⟩, rfl⟩
  have HR := Lib.hid hr
  clear hr
  go_wp2_with fail
  go_ret
  exact ⟨by rw [← HR.out]; rfl, rfl⟩

theorem rlog_in (v : Value) (l : List Int) (w : World) (h : Reads w v (l.map (Value.int .i64))) :
    Calls Try.prog 53 #[v] w fun e w' => e = .returned (.bool (inP l)) ∧ w' = w := by
  go_enter Try.func53, Try.ntmps53
  go_wp2_with fail
  refine (sl_containsFunc v l w h).mono ?_
  rintro e w' ⟨rfl, rfl⟩
  go_wp2_with fail
  go_ret
  exact ⟨by cases inP l <;> rfl, rfl⟩

theorem rlog_row (i0 t0 : Int) (v : Value) (es : List Ent) (w : World) (h : EntR w v es) (hl : es.length ≤ 1000000000) :
    Calls Try.prog 54 #[.int .i64 i0, .int .i64 t0, v] w fun e w' => e = .returned (.bool (rowP i0 t0 es)) ∧ Below w.heap.size w w' := by
  obtain ⟨a, cap, rfl⟩ := h.slice
  have hcp : cap ≤ 9223372036854775807 ∧ es.length ≤ cap := by
    obtain ⟨a', c', hv, h1, h2, _⟩ := h
    simp only [Value.slice.injEq] at hv
    omega
  have HR := Lib.hid h
  clear h
  go_enter Try.func54, Try.ntmps54
  go_wp2_with fail
  go_loopw [0, 1, 11] (fun i t j wr => ∃ (k : Nat) (i1 t1 : Int), k ≤ es.length ∧ j = .int .i64 k ∧ i = .int .i64 i1 ∧ t = .int .i64 t1 ∧ Hid (rowP i0 t0 es = rowP i1 t1 (es.drop k)) ∧ Below w.heap.size w wr) (fun _ _ j _ => es.length - (intOf j).toNat)
  case atStart => exact ⟨0, i0, t0, by omega, rfl, rfl, rfl, Lib.hid rfl, Below.refl _ _⟩
  case round =>
    obtain ⟨k, i1, t1, hk, rfl, rfl, rfl, hx, hbel⟩ := hrel
    by_cases hlt : k < es.length
    · obtain ⟨b, off, rfl, hblt, c0, c1, c2, c3⟩ := (HR.out.below hbel).cells k hlt
      have hdr : es.drop k = es[k] :: es.drop (k + 1) := List.drop_eq_getElem_cons hlt
      have hrw : Hid (rowP i0 t0 es = ((es[k].i == wrap64 (i1 + 1)) && decide (t1 ≤ es[k].t) && rowP es[k].i es[k].t (es.drop (k + 1)))) := Lib.hid (by rw [hx.out, hdr]; rfl)
      clear hx hdr
      generalize es[k] = e at *
      obtain ⟨ei, et, ek, ed⟩ := e
      dsimp only at c0 c1 c2 c3 hrw
      by_cases h1 : ei = wrap64 (i1 + 1)
      · by_cases h2 : et < t1
        · have H1 : Hid (rowP i0 t0 es = false) := Lib.hid (by rw [hrw.out, decide_eq_false (show ¬ t1 ≤ et by omega)]; simp)
          have hb2 : ∀ o, Below w.heap.size w (wr.alloc o) := fun o => hbel.alloc hbel.size o
          have HB2 := Lib.hid hb2
          clear hrw hb2
          have t0' : (ei != wrap64 (i1 + 1)) = false := by rw [bne_eq_false_iff_eq]; exact h1
          have h1' := Lib.hid h1
          clear h1
          go_wp2_with fail
          go_ret
          exact ⟨by rw [H1.out]; rfl, HB2.out _⟩
        · have H1 : Hid (rowP i0 t0 es = rowP ei et (es.drop (k + 1))) := Lib.hid (by rw [hrw.out, decide_eq_true (show t1 ≤ et by omega), h1]; simp)
          have hb2 : ∀ o n, Below w.heap.size w ((wr.alloc o).drewN n) := fun o n => below_drewN (hbel.alloc hbel.size o) n
          have HB2 := Lib.hid hb2
          have hb3 : ∀ o, Below w.heap.size w (wr.alloc o) := fun o => hbel.alloc hbel.size o
          have HB3 := Lib.hid hb3
          clear hrw hb2 hb3
          have t0' : (ei != wrap64 (i1 + 1)) = false := by rw [bne_eq_false_iff_eq]; exact h1
          have h1' := Lib.hid h1
          clear h1
          go_wp2_with fail
          go_quiet (fail)
          go_wp2_with fail
          go_roundw
          case rel => exact ⟨k + 1, ei, et, by omega, by go_num, rfl, rfl, H1, HB2.out _ _⟩
          case measure => simp [intOf]; omega
      · have H1 : Hid (rowP i0 t0 es = false) := Lib.hid (by rw [hrw.out, beq_eq_false_iff_ne.2 h1]; rfl)
        have hb2 : ∀ o, Below w.heap.size w (wr.alloc o) := fun o => hbel.alloc hbel.size o
        have HB2 := Lib.hid hb2
        have t0' : (ei != wrap64 (i1 + 1)) = true := by rw [bne_iff_ne]; exact h1
        clear hrw hb2 h1
        go_wp2_with fail
        go_ret
        exact ⟨by rw [H1.out]; rfl, HB2.out _⟩
    · have hkl : k = es.length := by omega
      subst hkl
      have H1 : Hid (rowP i0 t0 es = true) := Lib.hid (by rw [hx.out, List.drop_length]; rfl)
      clear hx
      go_wp2_with fail
      go_ret
      exact ⟨by rw [H1.out]; rfl, hbel⟩

/-- A log in memory: a block of five cells, and its entries. -/
structure LogS (w : World) (b : Nat) (s : Snp) (lv : Value) (es : List Ent) : Prop where
  lt : b < w.heap.size
  c0 : w.cell? ⟨b, 0, none⟩ = some (.int .i64 s.i)
  c1 : w.cell? ⟨b, 1, none⟩ = some (.int .i64 s.t)
  c2 : w.cell? ⟨b, 2, none⟩ = some (.string s.c)
  c3 : w.cell? ⟨b, 3, none⟩ = some (.string s.d)
  c4 : w.cell? ⟨b, 4, none⟩ = some lv
  fr : ∀ j, w.frozen? ⟨b, j, none⟩ = false
  r : EntR w lv es
  ne : ∀ g off n c, lv = .slice (some ⟨g, off, none⟩) n c → g ≠ b
/-- Its numbers. -/
def LogB (s : Snp) (es : List Ent) : Prop := 0 ≤ s.i ∧ s.i ≤ 4611686018427387904 ∧ es.length ≤ 200
def logPtr (b : Nat) : Value := .pointer (some ⟨b, 0, none⟩)

theorem LogS.below {w w' : World} {b : Nat} {s : Snp} {lv : Value} {es : List Ent} (h : LogS w b s lv es) (hb : Below w.heap.size w w') : LogS w' b s lv es :=
  ⟨Nat.lt_of_lt_of_le h.lt hb.size, (hb.cell (p := ⟨b, 0, none⟩) h.lt).trans h.c0, (hb.cell (p := ⟨b, 1, none⟩) h.lt).trans h.c1, (hb.cell (p := ⟨b, 2, none⟩) h.lt).trans h.c2, (hb.cell (p := ⟨b, 3, none⟩) h.lt).trans h.c3, (hb.cell (p := ⟨b, 4, none⟩) h.lt).trans h.c4,
    fun j => (hb.frozen (p := ⟨b, j, none⟩) h.lt).trans (h.fr j), h.r.below hb, h.ne⟩

def lastP (s : Snp) (es : List Ent) : Int := s.i + es.length
def termP (s : Snp) (es : List Ent) (i : Int) : Int × Bool :=
  if i < s.i ∨ lastP s es < i then (0, false) else if i = s.i then (s.t, true) else ((es[(i - s.i - 1).toNat]?.map (·.t)).getD 0, true)
def fitsP (s : Snp) (es : List Ent) (i t : Int) : Bool := (termP s es i).2 && ((termP s es i).1 == t)
def getP (s : Snp) (es : List Ent) (i n : Int) : List Ent := if i < s.i + 1 ∨ lastP s es < i ∨ n < 1 then [] else (es.drop (i - (s.i + 1)).toNat).take n.toNat
def newerP (s : Snp) (es : List Ent) (i t : Int) : Bool := decide ((termP s es (lastP s es)).1 < t) || (t == (termP s es (lastP s es)).1 && decide (lastP s es ≤ i))

theorem log_first {w : World} {b : Nat} {s : Snp} {lv : Value} {es : List Ent} (h : LogS w b s lv es) (hB : LogB s es) : Calls Try.prog 20 #[logPtr b] w fun e w' => e = .returned (.int .i64 (s.i + 1)) ∧ w' = w := by
  have c0 := h.c0
  obtain ⟨b0, b1, -⟩ := hB
  unfold logPtr
  clear h
  go_enter Try.func20, Try.ntmps20
  go_wp2_with fail
  go_ret
  exact ⟨rfl, rfl⟩

theorem log_last {w : World} {b : Nat} {s : Snp} {lv : Value} {es : List Ent} (h : LogS w b s lv es) (hB : LogB s es) : Calls Try.prog 22 #[logPtr b] w fun e w' => e = .returned (.int .i64 (lastP s es)) ∧ ∃ n, w' = w.drewN n := by
  have c0 := h.c0
  have c4 := h.c4
  obtain ⟨b0, b1, b2⟩ := hB
  obtain ⟨a, cap, hv⟩ := h.r.slice
  rw [hv] at c4
  have HL : Hid (lastP s es = s.i + es.length) := Lib.hid rfl
  unfold logPtr
  clear h hv
  generalize es.length = n at *
  have s1 : IntKind.i64.wrap (s.i + (n : Int)) = s.i + n := IntWalk.i64_in _ (by omega)
  go_enter Try.func22, Try.ntmps22
  go_wp2_with fail
  go_quiet (fail)
  go_wp2_with fail
  go_ret
  exact ⟨by rw [HL.out]; rfl, _, rfl⟩
end Go.Proofs.Ytihcohneongomaa
