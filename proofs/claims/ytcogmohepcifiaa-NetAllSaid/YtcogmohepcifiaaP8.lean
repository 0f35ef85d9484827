/-
  No claim by itself: a snapshot in a box, entries behind a change elsewhere, what Get tells at a place. | which messages may be, told by the program. No condition.
-/
import Derived.Test.YtcogmohepcifiaaP7
namespace Go.Proofs.Ytcogmohepcifiaa
open Go.ChangeShapes Go.WideShapes Go.ChangeAt Go.RowKit

theorem takeB_size (s : ByteArray) (n : Nat) : (takeB s n).size ≤ n := by
  show (List.toArray _).size ≤ n
  simp
  omega
theorem cutEnts_len (es : List Ent) (n : Nat) : (cutEnts es n).length ≤ n := by
  unfold cutEnts
  rw [List.length_map]
  exact List.length_take_le _ _
theorem cutEnts_lo (es : List Ent) (n : Nat) (h : ∀ e ∈ es, e.wf) : entsLo (cutEnts es n) := by
  intro e he
  unfold cutEnts at he
  obtain ⟨x, hx, rfl⟩ := List.mem_map.1 he
  exact (h x (List.mem_of_mem_take hx)).1

theorem EntR.keeps {w w' : World} {v : Value} {es : List Ent} {F : List Nat} (h : EntR w v es) (hk : Keeps F w w') (hF : ∀ g off n c, v = .slice (some ⟨g, off, none⟩) n c → g ∉ F) : EntR w' v es := by
  obtain ⟨a, cap, hv, h1, h2, h3⟩ := h
  refine ⟨a, cap, hv, h1, h2, fun k hk' => ?_⟩
  obtain ⟨b, off, ha, hlt, hc⟩ := h3 k hk'
  exact ⟨b, off, ha, Nat.lt_of_lt_of_le hlt hk.size, fun j u hu => by rw [hk.cell (p := ⟨b, off + k * 4 + j, none⟩) hlt (hF b off _ _ (by rw [hv, ha]))]; exact hc j u hu⟩

theorem getP_at (s : Snp) (L : List Ent) (A : Nat) (n : Int) (hA : A < L.length) (hn : 0 ≤ n) : getP s L (s.i + 1 + A) n = (L.drop A).take n.toNat := by
  unfold getP lastP
  by_cases h : n < 1
  · rw [if_pos (.inr (.inr h)), show n.toNat = 0 by omega, List.take_zero]
  · rw [if_neg (by omega), show (s.i + 1 + (A : Int) - (s.i + 1)).toNat = A by omega]

/-- A row of one's own whose kinds may be written. -/
structure Kinds (w : World) (g n : Nat) : Prop where
  lt : g < w.heap.size
  c : ∀ k, k < n → ∃ u, w.cell? ⟨g, k * 4 + 2, none⟩ = some u
  fr : ∀ j, w.frozen? ⟨g, j, none⟩ = false
theorem Kinds.set {w : World} {g n : Nat} (h : Kinds w g n) (k : Nat) (u : Value) : Kinds (w.setCell ⟨g, k * 4 + 2, none⟩ u) g n := by
  refine ⟨Nat.lt_of_lt_of_le h.lt ((Keeps.refl [g] w).setCell (p := ⟨g, k * 4 + 2, none⟩) (.inl (by simp)) u).size, fun j hj => ?_, fun j => ?_⟩
  · obtain ⟨v, hv⟩ := h.c j hj
    by_cases e : j = k
    · subst e
      exact ⟨u, World.cell?_setCell_same _ _ _ hv⟩
    · exact ⟨v, by rw [World.cell?_setCell_other (h := by simp <;> omega)]; exact hv⟩
  · rw [World.frozen?_setCell]
    exact h.fr j
theorem Kinds.keeps {w w' : World} {g n : Nat} {F : List Nat} (h : Kinds w g n) (hk : Keeps F w w') (hF : g ∉ F) : Kinds w' g n :=
  ⟨Nat.lt_of_lt_of_le h.lt hk.size, fun j hj => by obtain ⟨v, hv⟩ := h.c j hj; exact ⟨v, (hk.cell (p := ⟨g, j * 4 + 2, none⟩) h.lt hF).trans hv⟩, fun j => (hk.frozen (p := ⟨g, j, none⟩) h.lt hF).trans (h.fr j)⟩
theorem EntO.kinds {w : World} {base : Nat} {v : Value} {es : List Ent} (h : EntO w base v es) (hne : es ≠ []) : ∃ g cap, v = .slice (some ⟨g, 0, none⟩) es.length cap ∧ base ≤ g ∧ Kinds w g es.length := by
  have hr := h.r
  rcases h.2 with ⟨_, hx⟩ | ⟨g, cap, cur, rfl, hb, hg, hnc, hcm, hcs, htake⟩
  · exact absurd (List.eq_nil_of_length_eq_zero hx) hne
  · refine ⟨g, cap, rfl, hb, (Array.getElem?_eq_some_iff.1 hg).1, fun k hk => ?_, fun j => ?_⟩
    · obtain ⟨b, off, he, _, c0, c1, c2, c3⟩ := hr.cells k hk
      simp only [Option.some.injEq, Addr.mk.injEq] at he
      obtain ⟨rfl, rfl, _⟩ := he
      exact ⟨_, by simpa using c2⟩
    · unfold World.frozen?
      rw [hg]
      simp
theorem EntO.kinds' {w : World} {base : Nat} {v : Value} {es : List Ent} (h : EntO w base v es) : ∃ a cap, ∃ F : List Nat, v = .slice a es.length cap ∧ (∀ x ∈ F, base ≤ x ∧ x < w.heap.size) ∧ ∀ k, k < es.length → ∃ g, F = [g] ∧ a = some ⟨g, 0, none⟩ ∧ Kinds w g es.length := by
  by_cases hne : es = []
  · obtain ⟨a, cap, hv⟩ := h.r.slice
    exact ⟨a, cap, [], hv, fun x hx => by simp at hx, fun k hk => by subst hne; simp at hk⟩
  · obtain ⟨g, cap, hv, hb, hK⟩ := h.kinds hne
    exact ⟨_, cap, [g], hv, fun x hx => by simp only [List.mem_singleton] at hx; subst hx; exact ⟨hb, hK.lt⟩, fun k hk => ⟨g, rfl, rfl, hK⟩⟩
theorem LogS.keeps {w w' : World} {b : Nat} {s : Snp} {lv : Value} {es : List Ent} {F : List Nat} (h : LogS w b s lv es) (hk : Keeps F w w') (hb : b ∉ F) (hF : ∀ g off n c, lv = .slice (some ⟨g, off, none⟩) n c → g ∉ F) : LogS w' b s lv es :=
  ⟨Nat.lt_of_lt_of_le h.lt hk.size, (hk.cell (p := ⟨b, 0, none⟩) h.lt hb).trans h.c0, (hk.cell (p := ⟨b, 1, none⟩) h.lt hb).trans h.c1, (hk.cell (p := ⟨b, 2, none⟩) h.lt hb).trans h.c2, (hk.cell (p := ⟨b, 3, none⟩) h.lt hb).trans h.c3, (hk.cell (p := ⟨b, 4, none⟩) h.lt hb).trans h.c4,
    fun j => (hk.frozen (p := ⟨b, j, none⟩) h.lt hb).trans (h.fr j), h.r.keeps hk hF, h.ne⟩
end Go.Proofs.Ytcogmohepcifiaa
namespace Go.Proofs.Ytcogmohepcifiaa
open Go.ChangeShapes Go.WideShapes Go.ChangeAt Go.RowKit

def msgAgg (v : Value) (m : Msg) : Value := .agg #[.int .i64 m.k, .int .i64 m.f, .int .i64 m.o, .int .i64 m.t, .int .i64 m.i, .int .i64 m.l, .int .i64 m.c, .bool m.y, v, .int .i64 m.s.i, .int .i64 m.s.t, .string m.s.c, .string m.s.d]
/-- A message in a block of its own. -/
structure MsgS (w : World) (b : Nat) (v : Value) (m : Msg) : Prop where
  lt : b < w.heap.size
  c0 : w.cell? ⟨b, 0, none⟩ = some (.int .i64 m.k)
  c1 : w.cell? ⟨b, 1, none⟩ = some (.int .i64 m.f)
  c2 : w.cell? ⟨b, 2, none⟩ = some (.int .i64 m.o)
  c3 : w.cell? ⟨b, 3, none⟩ = some (.int .i64 m.t)
  c4 : w.cell? ⟨b, 4, none⟩ = some (.int .i64 m.i)
  c5 : w.cell? ⟨b, 5, none⟩ = some (.int .i64 m.l)
  c6 : w.cell? ⟨b, 6, none⟩ = some (.int .i64 m.c)
  c7 : w.cell? ⟨b, 7, none⟩ = some (.bool m.y)
  c8 : w.cell? ⟨b, 8, none⟩ = some v
  c9 : w.cell? ⟨b, 9, none⟩ = some (.int .i64 m.s.i)
  c10 : w.cell? ⟨b, 10, none⟩ = some (.int .i64 m.s.t)
  c11 : w.cell? ⟨b, 11, none⟩ = some (.string m.s.c)
  c12 : w.cell? ⟨b, 12, none⟩ = some (.string m.s.d)
  fr : ∀ j, w.frozen? ⟨b, j, none⟩ = false
theorem MsgS.keeps {w w' : World} {b : Nat} {v : Value} {m : Msg} {F : List Nat} (h : MsgS w b v m) (hk : Keeps F w w') (hF : b ∉ F) : MsgS w' b v m := by
  have g : ∀ j, w'.cell? ⟨b, j, none⟩ = w.cell? ⟨b, j, none⟩ := fun j => hk.cell (p := ⟨b, j, none⟩) h.lt hF
  exact ⟨Nat.lt_of_lt_of_le h.lt hk.size, (g 0).trans h.c0, (g 1).trans h.c1, (g 2).trans h.c2, (g 3).trans h.c3, (g 4).trans h.c4, (g 5).trans h.c5, (g 6).trans h.c6, (g 7).trans h.c7, (g 8).trans h.c8, (g 9).trans h.c9, (g 10).trans h.c10, (g 11).trans h.c11, (g 12).trans h.c12,
    fun j => (hk.frozen (p := ⟨b, j, none⟩) h.lt hF).trans (h.fr j)⟩
theorem MsgS.below {w w' : World} {b : Nat} {v : Value} {m : Msg} (h : MsgS w b v m) (hb : Below w.heap.size w w') : MsgS w' b v m := h.keeps (F := []) (Keeps.of_below hb) (by simp)
theorem msgS_box (w : World) (v : Value) (m : Msg) (T : TypeId) : MsgS (w.alloc (.cells #[.int .i64 m.k, .int .i64 m.f, .int .i64 m.o, .int .i64 m.t, .int .i64 m.i, .int .i64 m.l, .int .i64 m.c, .bool m.y, v, .int .i64 m.s.i, .int .i64 m.s.t, .string m.s.c, .string m.s.d] T)) w.heap.size v m :=
  ⟨by simp, World.cell?_alloc_new _ _ _ _, World.cell?_alloc_new _ _ _ _, World.cell?_alloc_new _ _ _ _, World.cell?_alloc_new _ _ _ _, World.cell?_alloc_new _ _ _ _, World.cell?_alloc_new _ _ _ _, World.cell?_alloc_new _ _ _ _, World.cell?_alloc_new _ _ _ _, World.cell?_alloc_new _ _ _ _, World.cell?_alloc_new _ _ _ _, World.cell?_alloc_new _ _ _ _, World.cell?_alloc_new _ _ _ _, World.cell?_alloc_new _ _ _ _, fun j => World.frozen?_alloc_new _ _ _ _⟩

set_option maxHeartbeats 1000000 in
theorem raft_in (lo : Int) (v : Value) (l : List Int) (w : World) (h : RI w v l) :
    Calls Try.prog 41 #[.int .i64 lo, v] w fun e w' => e = .returned (.bool (inN lo 1099511627776 l)) ∧ w' = w := by
  obtain ⟨a, cap, rfl, hcap, hcm, hc⟩ := h.open_
  clear h
  go_enter Try.func41, Try.ntmps41
  go_wp2_with fail
  go_loop [6, 9] (fun _ i => ∃ k : Nat, k ≤ l.length ∧ i = .int .i64 k ∧ Hid (∀ j (h : j < l.length), j < k → lo ≤ l[j] ∧ l[j] ≤ 1099511627776)) (fun _ i => l.length - (intOf i).toNat)
  case atStart => exact ⟨0, by omega, rfl, Lib.hid (by intro j _ hj; omega)⟩
  case round =>
    obtain ⟨k, hk, rfl, hx⟩ := hrel
    by_cases hlt : k < l.length
    · obtain ⟨b, off, rfl, hbl, hcj⟩ := hc.out k hlt
      by_cases h1 : l[k] < lo
      · have H := Lib.hid (inN_no hlt (lo := lo) (hi := 1099511627776) (by omega))
        go_wp2_with fail
        go_ret
        rw [H.out]; exact ⟨rfl, rfl⟩
      · by_cases h2 : 1099511627776 < l[k]
        · have H := Lib.hid (inN_no hlt (lo := lo) (hi := 1099511627776) (by omega))
          go_wp2_with fail
          go_ret
          rw [H.out]; exact ⟨rfl, rfl⟩
        · go_wp2_with fail
          go_roundw
          case rel => exact ⟨k + 1, by omega, by go_num, Lib.hid fun j h hj => by
            by_cases e : j = k
            · subst e; omega
            · exact hx.out j h (by omega)⟩
          case measure => simp [intOf]; omega
    · have H := Lib.hid (inN_yes (lo := lo) (hi := 1099511627776) (fun j h => hx.out j h (by omega)))
      go_wp2_with fail
      go_ret
      rw [H.out]; exact ⟨rfl, rfl⟩
def serverB (x : Int) : Bool := decide (1 ≤ x ∧ x ≤ 7)
theorem raft_server (x : Int) (w : World) : Calls Try.prog 40 #[.int .i64 x] w fun e w' => e = .returned (.bool (serverB x)) ∧ w' = w := by
  have H0 : Hid (serverB x = decide (1 ≤ x ∧ x ≤ 7)) := Lib.hid rfl
  go_enter Try.func40, Try.ntmps40
  by_cases h1 : 1 ≤ x
  · by_cases h2 : x ≤ 7
    · have t2 := decide_eq_true h2
      go_wp2_with fail
      go_ret
      exact ⟨by rw [H0.out, decide_eq_true (⟨h1, h2⟩ : 1 ≤ x ∧ x ≤ 7)]; first | rfl | (rw [t2]; rfl), rfl⟩
    · have t2 := decide_eq_false h2
      go_wp2_with fail
      go_ret
      exact ⟨by rw [H0.out, decide_eq_false (by omega : ¬ (1 ≤ x ∧ x ≤ 7))]; first | rfl | (rw [t2]; rfl), rfl⟩
  · go_wp2_with fail
    go_ret
    exact ⟨by rw [H0.out, decide_eq_false (by omega : ¬ (1 ≤ x ∧ x ≤ 7))]; rfl, rfl⟩

theorem entsM_cons (T i t : Int) (e : Ent) (es : List Ent) : entsM T i t (e :: es) = (((e.i == i + 1) && decide (t ≤ e.t) && decide (e.t ≤ T) && mayR (recE e)) && entsM T e.i e.t es) := rfl
theorem recE_i {e : Ent} (h : mayR (recE e) = true) : 1 ≤ e.i ∧ e.i ≤ 1099511627776 := by
  have := (mayR_en (r := recE e) rfl).1 h
  exact ⟨this.2.2.1, this.2.2.2.1⟩
def entsB (m : Msg) : Bool := entsM m.t m.i m.l m.es && decide (m.es.length ≤ 8 ∧ (m.es.length = 0 ∨ m.k = 3))

set_option maxRecDepth 100000 in
set_option maxHeartbeats 2000000 in
theorem raft_entries (v : Value) (m : Msg) (w : World) (h : EntR w v m.es) (hi0 : 0 ≤ m.i) (hi1 : m.i ≤ 1099511627776) (hl : m.es.length ≤ 1000000000000) :
    Calls Try.prog 42 #[msgAgg v m] w fun e w' => e = .returned (.bool (entsB m)) ∧ Below w.heap.size w w' := by
  obtain ⟨a, cap, rfl⟩ := h.slice
  obtain ⟨mk, mf, mo, mt, mi, ml, mc, my, es, ms⟩ := m
  dsimp only at h hi0 hi1 hl
  have hS := msgS_box w (.slice a es.length cap) ⟨mk, mf, mo, mt, mi, ml, mc, my, es, ms⟩ 30
  have hbx := (Below.refl w.heap.size w).alloc (Nat.le_refl _) (.cells #[.int .i64 mk, .int .i64 mf, .int .i64 mo, .int .i64 mt, .int .i64 mi, .int .i64 ml, .int .i64 mc, .bool my, .slice a es.length cap, .int .i64 ms.i, .int .i64 ms.t, .string ms.c, .string ms.d] 30)
  have hE := h.below hbx
  have c0 := hS.c0
  have c3 := hS.c3
  have c4 := hS.c4
  have c5 := hS.c5
  have c8 := hS.c8
  dsimp only at hS c0 c3 c4 c5 c8
  unfold msgAgg
  dsimp only
  have HB : Hid (entsB ⟨mk, mf, mo, mt, mi, ml, mc, my, es, ms⟩ = (entsM mt mi ml es && decide (es.length ≤ 8 ∧ (es.length = 0 ∨ mk = 3)))) := Lib.hid rfl
  generalize entsB ⟨mk, mf, mo, mt, mi, ml, mc, my, es, ms⟩ = R at *
  clear h
  go_enter Try.func42, Try.ntmps42
  go_wp2_with fail
  go_quiet (fail)
  go_wp2_with fail
  generalize w.alloc _ = w0 at *
  have hb0 := hS.lt
  go_loopw [3, 4, 6, 14] (fun x y _ i wr => ∃ (k : Nat) (p q : Int), k ≤ es.length ∧ i = .int .i64 k ∧ x = .int .i64 p ∧ y = .int .i64 q ∧ 0 ≤ p ∧ p ≤ 1099511627776 ∧ Below w0.heap.size w0 wr ∧ Hid (entsM mt mi ml es = entsM mt p q (es.drop k))) (fun _ _ _ i _ => es.length - (intOf i).toNat)
  case atStart => exact ⟨0, _, _, by omega, rfl, rfl, rfl, hi0, hi1, below_drewN (Below.refl _ _) _, Lib.hid (by rw [List.drop_zero])⟩
  case round =>
    obtain ⟨k, p, q, hk, rfl, rfl, rfl, hp0, hp1, hbel, hM⟩ := hrel
    have hSr := hS.below hbel
    have d0 := hSr.c0
    have d3 := hSr.c3
    have d8 := hSr.c8
    dsimp only at d0 d3 d8
    have hbw := hbx.trans (hbel.mono hbx.size)
    by_cases hlt : k < es.length
    · obtain ⟨b, off, rfl, hb1, e0, e1, e2, e3⟩ := (hE.below hbel).cells k hlt
      have hM1 := hM.out
      rw [List.drop_eq_getElem_cons hlt, entsM_cons] at hM1
      generalize es[k] = e at *
      obtain ⟨ei, et, ek, ed⟩ := e
      dsimp only at e0 e1 e2 e3 hM1
      have HM1 := Lib.hid hM1
      clear hM hM1
      have hbx1 := hbel.alloc hbel.size (.cells #[.int .i64 ei, .int .i64 et, .int .i64 ek, .string ed] 35)
      have hbw1 := hbw.alloc hbw.size (.cells #[.int .i64 ei, .int .i64 et, .int .i64 ek, .string ed] 35)
      have hS1 := hS.below hbx1
      have f3 := hS1.c3
      dsimp only at f3
      by_cases h1 : ei = p + 1
      case neg =>
        have HR : Hid (R = false) := Lib.hid (by rw [HB.out, HM1.out, show (ei == p + 1) = false from beq_eq_false_iff_ne.2 h1]; rfl)
        go_wp2_with fail
        go_ret
        rw [HR.out]
        exact ⟨rfl, hbw1⟩
      subst h1
      by_cases h2 : q ≤ et
      case neg =>
        have t2 : decide (et < q) = true := decide_eq_true (by omega)
        have HR : Hid (R = false) := Lib.hid (by rw [HB.out, HM1.out, decide_eq_false h2]; simp)
        go_wp2_with fail
        go_ret
        rw [HR.out]
        exact ⟨rfl, hbw1⟩
      have t2 : decide (et < q) = false := decide_eq_false (by omega)
      by_cases h3 : et ≤ mt
      case neg =>
        have t3 : decide (mt < et) = true := decide_eq_true (by omega)
        have HR : Hid (R = false) := Lib.hid (by rw [HB.out, HM1.out, decide_eq_false h3]; simp)
        go_wp2_with fail
        go_ret
        rw [HR.out]
        exact ⟨rfl, hbw1⟩
      have t3 : decide (mt < et) = false := decide_eq_false (by omega)
      go_wp2_with fail
      refine (wal_may (recE ⟨p + 1, et, ek, ed⟩) _).mono ?_
      rintro e w2 ⟨rfl, hb2⟩
      have hw2 := hbw1.trans (hb2.mono hbw1.size)
      cases hm : mayR (recE ⟨p + 1, et, ek, ed⟩) with
      | false =>
        have HR : Hid (R = false) := Lib.hid (by rw [HB.out, HM1.out, hm]; simp)
        go_wp2_with fail
        go_ret
        rw [HR.out]
        exact ⟨rfl, hw2⟩
      | true =>
        have hir := recE_i hm
        dsimp only at hir
        have hM2 : Hid (entsM mt mi ml es = entsM mt (p + 1) et (es.drop (k + 1))) := Lib.hid (by rw [HM1.out, hm, decide_eq_true h2, decide_eq_true h3]; simp)
        have hbz := hbx1.trans (hb2.mono hbx1.size)
        have hbA := (Below.refl wr.heap.size wr).alloc (Nat.le_refl _) (.cells #[.int .i64 (p + 1), .int .i64 et, .int .i64 ek, .string ed] 35)
        have g0 : (wr.alloc (.cells #[.int .i64 (p + 1), .int .i64 et, .int .i64 ek, .string ed] 35)).cell? ⟨wr.heap.size, 0, none⟩ = some (.int .i64 (p + 1)) := World.cell?_alloc_new _ _ _ _
        have g1 : (wr.alloc (.cells #[.int .i64 (p + 1), .int .i64 et, .int .i64 ek, .string ed] 35)).cell? ⟨wr.heap.size, 1, none⟩ = some (.int .i64 et) := World.cell?_alloc_new _ _ _ _
        have g0 := (hb2.cell (p := ⟨wr.heap.size, 0, none⟩) (by simp)).trans g0
        have g1 := (hb2.cell (p := ⟨wr.heap.size, 1, none⟩) (by simp)).trans g1
        clear hm HM1 hSr hS1 f3 d0 d3 d8 hbx1 hbw1 hbel hbw hb2 hw2 e0 e1 e2 e3 hbA
        go_wp2_with fail
        go_quiet (fail)
        go_wp2_with fail
        go_roundw
        case rel => exact ⟨k + 1, _, _, by omega, by go_num, rfl, rfl, by omega, by omega, below_drewN hbz _, hM2⟩
        case measure => simp [intOf]; omega
    · obtain rfl : k = es.length := by omega
      have HE : Hid (entsM mt mi ml es = true) := Lib.hid (by rw [hM.out, List.drop_length]; rfl)
      by_cases h8 : es.length ≤ 8
      case neg =>
        have HR : Hid (R = false) := Lib.hid (by rw [HB.out, decide_eq_false (fun h => h8 h.1)]; simp)
        have t8 : decide ((es.length : Int) ≤ 8) = false := decide_eq_false (by omega)
        go_wp2_with fail
        go_ret
        rw [HR.out]
        exact ⟨rfl, hbw⟩
      have t8 : decide ((es.length : Int) ≤ 8) = true := decide_eq_true (by omega)
      by_cases h0 : es.length = 0
      · have HR : Hid (R = true) := Lib.hid (by rw [HB.out, HE.out, decide_eq_true (⟨h8, .inl h0⟩ : es.length ≤ 8 ∧ (es.length = 0 ∨ mk = 3))]; rfl)
        have t0 : ((es.length : Int) == 0) = true := by rw [h0]; rfl
        go_wp2_with fail
        go_ret
        rw [HR.out]
        exact ⟨rfl, hbw⟩
      have t0 : ((es.length : Int) == 0) = false := beq_eq_false_iff_ne.2 (by omega)
      by_cases h3 : mk = 3
      · have HR : Hid (R = true) := Lib.hid (by rw [HB.out, HE.out, decide_eq_true (⟨h8, .inr h3⟩ : es.length ≤ 8 ∧ (es.length = 0 ∨ mk = 3))]; rfl)
        have t3 : (mk == 3) = true := by rw [h3]; rfl
        go_wp2_with fail
        go_ret
        rw [HR.out]
        first | exact ⟨rfl, hbw⟩ | exact ⟨by rw [t3]; rfl, hbw⟩
      · have HR : Hid (R = false) := Lib.hid (by rw [HB.out, decide_eq_false (fun h => h.2.elim h0 h3)]; simp)
        have t3 : (mk == 3) = false := beq_eq_false_iff_ne.2 h3
        go_wp2_with fail
        go_ret
        rw [HR.out]
        first | exact ⟨rfl, hbw⟩ | exact ⟨by rw [t3]; rfl, hbw⟩
end Go.Proofs.Ytcogmohepcifiaa
