/-
  No claim by itself: a net in memory; Len, New, own. No condition.
-/
import Derived.Test.YtcogmohepcifiaaNetN
import Derived.Test.YtcogmohepcifiaaRegionK
namespace Go.Proofs.Ytcogmohepcifiaa
open Go.ChangeShapes Go.WideShapes Go.ChangeAt Go.RowKit

/-- A message on its way: the value of its entries, and what it is. -/
abbrev VMsg := Value × Msg
def vmCells (p : VMsg) : List Value := (msgCells p.1 p.2).toList
def vms (ms : List VMsg) : List Msg := ms.map (·.2)
theorem vmCells_len (p : VMsg) : (vmCells p).length = 13 := rfl
theorem vmFlat_len (ms : List VMsg) : (ms.flatMap vmCells).length = ms.length * 13 := by
  induction ms with
  | nil => rfl
  | cons p ms ih => rw [List.flatMap_cons, List.length_append, ih, vmCells_len, List.length_cons]; omega
theorem vmFlat_get (ms : List VMsg) (k : Nat) (hk : k < ms.length) (j : Nat) (hj : j < 13) : (ms.flatMap vmCells)[k * 13 + j]? = (vmCells ms[k])[j]? := by
  induction ms generalizing k with
  | nil => simp at hk
  | cons p ms ih =>
    rw [List.flatMap_cons]
    cases k with
    | zero => rw [Nat.zero_mul, Nat.zero_add, List.getElem?_append_left (by rw [vmCells_len]; exact hj)]; rfl
    | succ k =>
      rw [List.getElem?_append_right (by rw [vmCells_len]; omega), List.getElem_cons_succ, ← ih k (by simpa using hk), vmCells_len]
      congr 1
      omega
theorem info_msg : (Try.prog.info? 30).map (fun i => (i.zero, i.size, i.bytes)) = some (some (.agg #[.int .i64 0, .int .i64 0, .int .i64 0, .int .i64 0, .int .i64 0, .int .i64 0, .int .i64 0, .bool false, .slice none 0 0, .int .i64 0, .int .i64 0, .string .empty, .string .empty]), 13, 136) := by kernel_rfl
theorem EntO.oneCell {w : World} {base : Nat} {v : Value} {es : List Ent} (h : EntO w base v es) : v.oneCell' = true := by
  obtain ⟨a, c, rfl⟩ := h.r.slice
  rfl

/-- A row of messages of one's own: the row, and each message's entries, from the base on, none in the row's block. -/
structure MRow (w : World) (base : Nat) (lv : Value) (ms : List VMsg) : Prop where
  row : w.ownsRow base 30 13 lv ms.length (ms.flatMap vmCells)
  ents : ∀ p ∈ ms, EntO w base p.1 p.2.es
  apart : ∀ p ∈ ms, ∀ g, p.1.ownBlock = some g → lv.ownBlock ≠ some g
theorem MRow.nil (w : World) (base : Nat) : MRow w base (.slice none 0 0) [] := ⟨World.ownsRow_nil w base _ _, by simp, by simp⟩
theorem MRow.below {w w' : World} {base : Nat} {lv : Value} {ms : List VMsg} (h : MRow w base lv ms) (hb : Below w.heap.size w w') : MRow w' base lv ms :=
  ⟨ownsRow_below h.row hb, fun p hp => (h.ents p hp).below hb, h.apart⟩
theorem MRow.keeps {w w' : World} {base : Nat} {lv : Value} {ms : List VMsg} {F : List Nat} (h : MRow w base lv ms) (hk : Keeps F w w') (hF : ∀ x ∈ F, x < base) : MRow w' base lv ms := by
  refine ⟨⟨h.row.1, ?_⟩, fun p hp => (h.ents p hp).keeps hk hF, h.apart⟩
  rcases h.row.2 with h2 | ⟨g, cap, cur, hv, hg, hh, r⟩
  · exact .inl h2
  · refine .inr ⟨g, cap, cur, hv, hg, ?_, r⟩
    rw [hk.block g (Array.getElem?_eq_some_iff.1 hh).1 (fun hx => by have := hF g hx; omega)]
    exact hh
theorem MRow.slice {w : World} {base : Nat} {lv : Value} {ms : List VMsg} (h : MRow w base lv ms) : ∃ a cap, lv = .slice a ms.length cap := by
  rcases h.row.2 with ⟨rfl, h0⟩ | ⟨g, cap, cur, rfl, _⟩
  · exact ⟨none, 0, by rw [h0]⟩
  · exact ⟨_, cap, rfl⟩
/-- One message's cells. -/
theorem MRow.cells {w : World} {base : Nat} {a : Option Addr} {n cap : Nat} {ms : List VMsg} (h : MRow w base (.slice a n cap) ms) (k : Nat) (hk : k < ms.length) : ∃ g, a = some ⟨g, 0, none⟩ ∧ base ≤ g ∧ g < w.heap.size ∧
    ∀ j u, (vmCells ms[k])[j]? = some u → w.cell? ⟨g, k * 13 + j, none⟩ = some u := by
  have hn : n = ms.length := by obtain ⟨a', c', hv⟩ := h.slice; simp only [Value.slice.injEq] at hv; exact hv.2.1
  subst hn
  obtain ⟨g, c', hv, hg, hlt, _⟩ := ownsRow_shape h.row (by omega)
  simp only [Value.slice.injEq] at hv
  obtain ⟨rfl, -, rfl⟩ := hv
  refine ⟨g, rfl, hg, hlt, fun j u hu => ?_⟩
  have hj : j < 13 := by have := (List.getElem?_eq_some_iff.1 hu).1; rwa [vmCells_len] at this
  have := World.ownsRow.cells h.row (g := g) rfl (k * 13 + j) u (by rw [vmFlat_get ms k hk j hj]; exact hu)
  rw [Addr.add_lit, Nat.zero_add] at this
  exact this

/-- A net in a block: its row of messages. -/
structure NetS (w : World) (b : Nat) (lv : Value) (ms : List VMsg) : Prop where
  lt : b < w.heap.size
  c0 : w.cell? ⟨b, 0, none⟩ = some lv
  fr : ∀ j, w.frozen? ⟨b, j, none⟩ = false
  m : MRow w (b + 1) lv ms
theorem NetS.below {w w' : World} {b : Nat} {lv : Value} {ms : List VMsg} (h : NetS w b lv ms) (hb : Below w.heap.size w w') : NetS w' b lv ms :=
  ⟨Nat.lt_of_lt_of_le h.lt hb.size, (hb.cell (p := ⟨b, 0, none⟩) h.lt).trans h.c0, fun j => (hb.frozen (p := ⟨b, j, none⟩) h.lt).trans (h.fr j), h.m.below hb⟩
theorem NetS.keeps {w w' : World} {b : Nat} {lv : Value} {ms : List VMsg} {F : List Nat} (h : NetS w b lv ms) (hk : Keeps F w w') (hF : ∀ x ∈ F, x < b) : NetS w' b lv ms := by
  have hb : b ∉ F := fun hx => Nat.lt_irrefl _ (hF b hx)
  exact ⟨Nat.lt_of_lt_of_le h.lt hk.size, (hk.cell (p := ⟨b, 0, none⟩) h.lt hb).trans h.c0, fun j => (hk.frozen (p := ⟨b, j, none⟩) h.lt hb).trans (h.fr j), h.m.keeps hk (fun x hx => by have := hF x hx; omega)⟩

theorem net_new (w : World) : Calls Try.prog 8 #[] w fun e w' => e = .returned (.pointer (some ⟨w.heap.size, 0, none⟩)) ∧ NetS w' w.heap.size (.slice none 0 0) [] ∧ Below w.heap.size w w' := by
  have hb := (Below.refl w.heap.size w).alloc (Nat.le_refl _) (.cells #[.slice none 0 0] 52)
  have hn : NetS (w.alloc (.cells #[.slice none 0 0] 52)) w.heap.size (.slice none 0 0) [] := ⟨by simp, World.cell?_alloc_new _ _ _ _, fun j => World.frozen?_alloc_new _ _ _ _, MRow.nil _ _⟩
  go_enter Try.func8, Try.ntmps8
  go_wp2_with fail
  go_ret
  exact ⟨rfl, hn, hb⟩
theorem net_len {w : World} {b : Nat} {lv : Value} {ms : List VMsg} (h : NetS w b lv ms) : Calls Try.prog 10 #[.pointer (some ⟨b, 0, none⟩)] w fun e w' => e = .returned (.int .i64 (ms.length : Nat)) ∧ w' = w := by
  have c0 := h.c0
  obtain ⟨a, cap, rfl⟩ := h.m.slice
  go_enter Try.func10, Try.ntmps10
  go_wp2_with fail
  go_ret
  exact ⟨rfl, rfl⟩
/-- A message with entries of its own. -/
def RetOwnM (w : World) (m : Msg) (e : Ending) (w' : World) : Prop := ∃ v, e = .returned (msgAgg v m) ∧ EntO w' w.heap.size v m.es ∧ Below w.heap.size w w'

set_option maxRecDepth 100000 in
set_option maxHeartbeats 4000000 in
theorem net_own (v : Value) (m : Msg) (w : World) (h : EntR w v m.es) (hl : m.es.length ≤ 1000000000) :
    Calls Try.prog 21 #[msgAgg v m] w fun e w' => RetOwnM w m e w' := by
  obtain ⟨a, cap, rfl⟩ := h.slice
  unfold RetOwnM
  obtain ⟨mk, mf, mo, mt, mi, ml, mc, my, es, ⟨si, st, sc, sd⟩⟩ := m
  dsimp only at *
  have hX := msgS_box w (.slice a es.length cap) ⟨mk, mf, mo, mt, mi, ml, mc, my, es, ⟨si, st, sc, sd⟩⟩ 30
  have hbx := (Below.refl w.heap.size w).alloc (Nat.le_refl _) (.cells #[.int .i64 mk, .int .i64 mf, .int .i64 mo, .int .i64 mt, .int .i64 mi, .int .i64 ml, .int .i64 mc, .bool my, .slice a es.length cap, .int .i64 si, .int .i64 st, .string sc, .string sd] 30)
  dsimp only at hX
  have hbz := hbx.alloc hbx.size (.cells #[.int .i64 0, .int .i64 0, .int .i64 0, .int .i64 0, .int .i64 0, .int .i64 0, .int .i64 0, .bool false, .slice none 0 0, .int .i64 0, .int .i64 0, .string ⟨#[]⟩, .string ⟨#[]⟩] 30)
  have hbA := (Below.refl _ (w.alloc (.cells #[.int .i64 mk, .int .i64 mf, .int .i64 mo, .int .i64 mt, .int .i64 mi, .int .i64 ml, .int .i64 mc, .bool my, .slice a es.length cap, .int .i64 si, .int .i64 st, .string sc, .string sd] 30))).alloc (Nat.le_refl _) (.cells #[.int .i64 0, .int .i64 0, .int .i64 0, .int .i64 0, .int .i64 0, .int .i64 0, .int .i64 0, .bool false, .slice none 0 0, .int .i64 0, .int .i64 0, .string ⟨#[]⟩, .string ⟨#[]⟩] 30)
  have hZ := msgS_box (w.alloc (.cells #[.int .i64 mk, .int .i64 mf, .int .i64 mo, .int .i64 mt, .int .i64 mi, .int .i64 ml, .int .i64 mc, .bool my, .slice a es.length cap, .int .i64 si, .int .i64 st, .string sc, .string sd] 30)) (.slice none 0 0) zM 30
  unfold zM at hZ
  dsimp only at hZ
  rw [show (w.alloc (.cells #[.int .i64 mk, .int .i64 mf, .int .i64 mo, .int .i64 mt, .int .i64 mi, .int .i64 ml, .int .i64 mc, .bool my, .slice a es.length cap, .int .i64 si, .int .i64 st, .string sc, .string sd] 30)).heap.size = w.heap.size + 1 from by simp] at hZ
  have hX := hX.below hbA
  have hE := (h.below hbx).below hbA
  clear h hbx hbA
  unfold msgAgg
  dsimp only
  go_enter Try.func21, Try.ntmps21
  go_wp2_with fail
  refine (sl_cloneE _ es _ hE hl).mono ?_
  rintro e w1 ⟨v1, rfl, ho1, hb1⟩
  have hbw := hbz.trans (hb1.mono hbz.size)
  have hX1 := hX.below hb1
  have hZ1 := hZ.below hb1
  replace ho1 := ho1.rebase (base' := w.heap.size + 2) (by simp)
  have hlt1 := hZ1.lt
  obtain ⟨a1, c1, rfl⟩ := ho1.r.slice
  clear hX hZ hbz hb1 hE
  generalize ((w.alloc _).alloc _) = w0 at *
  have x8 := hX1.c8
  have xf := hX1.fr
  have hk8 : Keeps [w.heap.size] w1 (w1.setCell ⟨w.heap.size, 8, none⟩ (.slice a1 es.length c1)) := (Keeps.refl _ w1).setCell (.inl (by simp)) _
  have hX5 := hX1.setV (.slice a1 es.length c1) es
  have hZ5 := hZ1.keeps hk8 (by simp)
  have ho5 := ho1.keeps hk8 (by simp)
  have hb5 := hbw.trans (hk8.below (B := w.heap.size) (by simp) hbw.size)
  dsimp only at hX5
  go_upto_region 2 with fail
  clear hX1 hZ1 hk8 ho1 hbw x8 xf
  generalize w1.setCell _ _ = w5 at *
  have z0 := hZ5.c0
  have z1 := hZ5.c1
  have z2 := hZ5.c2
  have z3 := hZ5.c3
  have z4 := hZ5.c4
  have z5 := hZ5.c5
  have z6 := hZ5.c6
  have z7 := hZ5.c7
  have z8 := hZ5.c8
  have z9 := hZ5.c9
  have z10 := hZ5.c10
  have z11 := hZ5.c11
  have z12 := hZ5.c12
  have zf := hZ5.fr
  have y0 := hX5.c0
  have y1 := hX5.c1
  have y2 := hX5.c2
  have y3 := hX5.c3
  have y4 := hX5.c4
  have y5 := hX5.c5
  have y6 := hX5.c6
  have y7 := hX5.c7
  have y8 := hX5.c8
  have y9 := hX5.c9
  have y10 := hX5.c10
  have y11 := hX5.c11
  have y12 := hX5.c12
  dsimp only at z0 z1 z2 z3 z4 z5 z6 z7 z9 z10 z11 z12 y0 y1 y2 y3 y4 y5 y6 y7 y9 y10 y11 y12
  have hz0 := hZ5.setAll (v' := .slice a1 es.length c1) (m' := ⟨mk, mf, mo, mt, mi, ml, mc, my, es, ⟨si, st, sc, sd⟩⟩)
  have hkz := keeps_msgTo w5 (w.heap.size + 1) (.slice a1 es.length c1) ⟨mk, mf, mo, mt, mi, ml, mc, my, es, ⟨si, st, sc, sd⟩⟩
  have hret : EntO (msgTo w5 (w.heap.size + 1) (.slice a1 es.length c1) ⟨mk, mf, mo, mt, mi, ml, mc, my, es, ⟨si, st, sc, sd⟩⟩) w.heap.size (.slice a1 es.length c1) es ∧ Below w.heap.size w (msgTo w5 (w.heap.size + 1) (.slice a1 es.length c1) ⟨mk, mf, mo, mt, mi, ml, mc, my, es, ⟨si, st, sc, sd⟩⟩) :=
    ⟨(ho5.keeps hkz (by simp)).rebase (by omega), hb5.trans (hkz.below (B := w.heap.size) (by simp) hb5.size)⟩
  have HR := Lib.hid hret
  have HZ := Lib.hid hz0
  clear hz0 hkz hret ho5 hZ5 hX5 hb5
  go_wp2_with fail
  refine bodyPost_ret (results_cell1 rfl _ _ _ _ _ rfl (load_msg HZ.out)) rfl ?_
  exact ⟨_, rfl, HR.out.1, HR.out.2⟩
end Go.Proofs.Ytcogmohepcifiaa
