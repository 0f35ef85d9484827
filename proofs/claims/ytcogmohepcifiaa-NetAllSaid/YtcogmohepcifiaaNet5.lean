/-
  No claim by itself: Clear: slices.IndexFunc, slices.DeleteFunc. No condition.
-/
import Derived.Test.YtcogmohepcifiaaNet4
import Derived.Deep.MidRow
namespace Go.Proofs.Ytcogmohepcifiaa
open Go.ChangeShapes Go.WideShapes Go.ChangeAt Go.RowKit

/-- Is a message not to a server? -/
def notTo (id : Int) (p : VMsg) : Bool := !(p.2.o == id)

theorem clear_in1 (w : World) (a : Option Addr) (n cap : Nat) (m : Msg) (B : Nat) (id : Int) (hB : B < w.heap.size) (hid : w.cell? ⟨B, 0, none⟩ = some (.int .i64 id)) :
    Calls Try.prog 33 #[msgAgg (.slice a n cap) m, .pointer (some ⟨B, 0, none⟩)] w fun e w' => e = .returned (.bool (m.o == id)) ∧ Below w.heap.size w w' := by
  obtain ⟨mk, mf, mo, mt, mi, ml, mc, my, es, ⟨si, st, sc, sd⟩⟩ := m
  have hbx := (Below.refl w.heap.size w).alloc (Nat.le_refl _) (.cells #[.int .i64 mk, .int .i64 mf, .int .i64 mo, .int .i64 mt, .int .i64 mi, .int .i64 ml, .int .i64 mc, .bool my, .slice a n cap, .int .i64 si, .int .i64 st, .string sc, .string sd] 30)
  have hi := (hbx.cell (p := ⟨B, 0, none⟩) hB).trans hid
  unfold msgAgg
  dsimp only
  cases hq : (mo == id) with
  | true =>
    go_enter Try.func33, Try.ntmps33
    go_wp2_with fail
    go_ret
    exact ⟨rfl, hbx⟩
  | false =>
    go_enter Try.func33, Try.ntmps33
    go_wp2_with fail
    go_ret
    exact ⟨rfl, hbx⟩

def RetIdx (w : World) (ms : List VMsg) (id : Int) (e : Ending) (w' : World) : Prop :=
  Below w.heap.size w w' ∧ ((∃ k : Nat, ∃ hk : k < ms.length, e = .returned (.int .i64 k) ∧ notTo id ms[k] = false ∧ ∀ p ∈ ms.take k, notTo id p = true) ∨ (e = .returned (.int .i64 (-1)) ∧ ∀ p ∈ ms, notTo id p = true))

set_option maxRecDepth 100000 in
set_option maxHeartbeats 4000000 in
theorem sl_indexFuncM {w : World} {base : Nat} {lv : Value} {ms : List VMsg} (h : MRow w base lv ms) (B : Nat) (id : Int) (hB : B < w.heap.size) (hid : w.cell? ⟨B, 0, none⟩ = some (.int .i64 id)) (hn : ms.length ≤ 1000) :
    Calls Try.prog 49 #[lv, .func (.func 33) #[] #[.pointer (some ⟨B, 0, none⟩)]] w fun e w' => RetIdx w ms id e w' := by
  obtain ⟨la, lc, rfl⟩ := h.slice
  have HM := Lib.hid h
  have HI := Lib.hid hid
  clear h hid
  go_enter Try.func49, Try.ntmps49
  go_wp2_with fail
  go_loopw [8] (fun i wr => ∃ k : Nat, k ≤ ms.length ∧ i = .int .i64 k ∧ Below w.heap.size w wr ∧ Hid (∀ p ∈ ms.take k, notTo id p = true)) (fun i _ => ms.length - (intOf i).toNat)
  case atStart => exact ⟨0, by omega, rfl, Below.refl _ _, Lib.hid (by simp)⟩
  case round =>
    obtain ⟨k, hk, rfl, hb, hx⟩ := hrel
    by_cases hlt : k < ms.length
    · have hM := HM.out.below hb
      obtain ⟨g, rfl, hgb, hglt, hcc⟩ := hM.cells k hlt
      have hent := hM.ents ms[k] (List.getElem_mem hlt)
      have hBr := Nat.lt_of_lt_of_le hB hb.size
      have hir := (hb.cell (p := ⟨B, 0, none⟩) hB).trans HI.out
      have hsn : Hid (notTo id ms[k] = true → ∀ p ∈ ms.take (k + 1), notTo id p = true) := Lib.hid (fun h p hp => by
        rw [List.take_succ_eq_append_getElem hlt] at hp
        rcases List.mem_append.1 hp with hp | hp
        · exact hx.out p hp
        · rw [List.mem_singleton.1 hp]
          exact h)
      obtain ⟨p, hp⟩ : ∃ p, ms[k] = p := ⟨_, rfl⟩
      rw [hp] at hent hcc hsn
      have HG := Lib.hid hp
      clear hp hM
      obtain ⟨pv, m⟩ := p
      dsimp only at hent
      obtain ⟨pa, pc, rfl⟩ := hent.r.slice
      have hcall := clear_in1 wr pa m.es.length pc m B id hBr hir
      have r0 := hcc 0 _ rfl
      have r1 := hcc 1 _ rfl
      have r2 := hcc 2 _ rfl
      have r3 := hcc 3 _ rfl
      have r4 := hcc 4 _ rfl
      have r5 := hcc 5 _ rfl
      have r6 := hcc 6 _ rfl
      have r7 := hcc 7 _ rfl
      have r8 := hcc 8 _ rfl
      have r9 := hcc 9 _ rfl
      have r10 := hcc 10 _ rfl
      have r11 := hcc 11 _ rfl
      have r12 := hcc 12 _ rfl
      dsimp only at r0 r1 r2 r3 r4 r5 r6 r7 r8 r9 r10 r11 r12
      rw [Nat.add_zero] at r0
      clear hcc hir
      cases hq : (m.o == id) with
      | true =>
        rw [hq] at hcall
        have H1 : Hid (notTo id ms[k] = false) := Lib.hid (by rw [HG.out]; unfold notTo; rw [hq]; rfl)
        clear hq hsn HG
        go_wp2_with fail
        refine hcall.mono ?_
        rintro e w' ⟨rfl, hb'⟩
        go_wp2_with fail
        go_ret
        exact ⟨hb.trans (hb'.mono hb.size), .inl ⟨k, hlt, rfl, H1.out, hx.out⟩⟩
      | false =>
        rw [hq] at hcall
        have H1 : Hid (∀ p ∈ ms.take (k + 1), notTo id p = true) := Lib.hid (hsn.out (by unfold notTo; rw [hq]; rfl))
        clear hq hsn HG
        go_wp2_with fail
        refine hcall.mono ?_
        rintro e w' ⟨rfl, hb'⟩
        have hbw := hb.trans (hb'.mono hb.size)
        clear hb' hb
        go_wp2_with fail
        go_roundw
        case rel => exact ⟨k + 1, by omega, by go_num, hbw, H1⟩
        case measure => simp [intOf]; omega
    · have hkl : k = ms.length := by omega
      subst hkl
      have hx' : Hid (∀ p ∈ ms, notTo id p = true) := Lib.hid (by have := hx.out; rwa [List.take_length] at this)
      go_wp2_with fail
      go_ret
      exact ⟨hb, .inr ⟨rfl, hx'.out⟩⟩

section
variable {P : Program}
/-- 'clear' of elements of several cells. -/
theorem run_clear_recs (w : World) (t e : TypeId) (z : Value) (m : Nat) (ht : P.underlying t = some (.slice e)) (hv : ∀ w, (zeroValue e).run P w = .ok z w) (hz : z.cells.size = m) (h1 : ∀ u ∈ z.cells.toList, u.oneCell' = true) (g o k c : Nat) (hk : k ≠ 0) (cur : Array Value)
    (hg : w.heap[g]? = some (.cells cur e (0, 0))) (hfit : o + k * m ≤ cur.size) :
    ∃ cur', (∀ ty, (Builtin.clear_ #[t] ty #[.slice (some ⟨g, o, none⟩) k c]).run P w = .ok (.tuple #[]) (w.setRow g cur')) ∧ cur'.size = cur.size ∧ cur'.toList.take o = cur.toList.take o := by
  have hzl : (Builtin.zeroCells z.cells k).toList.length = k * m := by simp [Builtin.zeroCells, hz]
  have hz1 : ∀ u ∈ (Builtin.zeroCells z.cells k).toList, u.oneCell' = true := by
    intro u hu
    simp only [Builtin.zeroCells, Array.toList_map, List.mem_map, Array.mem_toList_iff, Array.mem_range] at hu
    obtain ⟨i, hi, rfl⟩ := hu
    have hp : 0 < z.cells.size := by
      rcases Nat.eq_zero_or_pos z.cells.size with h | h
      · rw [h] at hi
        simp at hi
      · exact h
    have hlt := Nat.mod_lt i hp
    rw [getElem!_pos z.cells _ hlt]
    exact h1 _ (by simp)
  have hst := run_storeCells_at P g o e (Builtin.zeroCells z.cells k).toList 0 cur w hg (by rw [hzl]; simpa using hfit) hz1
  simp only [Nat.add_zero] at hst
  refine ⟨(cur.toList.take o ++ (Builtin.zeroCells z.cells k).toList ++ cur.toList.drop (o + (Builtin.zeroCells z.cells k).toList.length)).toArray, ?_, ?_, ?_⟩
  · intro ty
    cases k with
    | zero => exact absurd rfl hk
    | succ k => simp [Builtin.clear_, run_underlying ht, hv, hst]
  · simp only [List.size_toArray, List.length_append, List.length_take, List.length_drop, Array.length_toList] at hzl ⊢
    omega
  · have : (cur.toList.take o).length = o := by rw [List.length_take, Array.length_toList]; omega
    rw [List.append_assoc]
    exact List.take_left' this
end

/-- A message's thirteen stores into a row. -/
def rowTo (w : World) (g o : Nat) (v : Value) (m : Msg) : World :=
  ((((((((((((w.setCell ⟨g, o, none⟩ (.int .i64 m.k)).setCell ⟨g, o + 1, none⟩ (.int .i64 m.f)).setCell ⟨g, o + 2, none⟩ (.int .i64 m.o)).setCell ⟨g, o + 3, none⟩ (.int .i64 m.t)).setCell ⟨g, o + 4, none⟩ (.int .i64 m.i)).setCell ⟨g, o + 5, none⟩ (.int .i64 m.l)).setCell ⟨g, o + 6, none⟩ (.int .i64 m.c)).setCell ⟨g, o + 7, none⟩ (.bool m.y)).setCell ⟨g, o + 8, none⟩ v).setCell ⟨g, o + 9, none⟩ (.int .i64 m.s.i)).setCell ⟨g, o + 10, none⟩ (.int .i64 m.s.t)).setCell ⟨g, o + 11, none⟩ (.string m.s.c)).setCell ⟨g, o + 12, none⟩ (.string m.s.d)
theorem rowTo_cells (w : World) (g o : Nat) (v : Value) (m : Msg) : rowTo w g o v m = w.setCells g o (vmCells (v, m)) := rfl
theorem set_flat (ms : List VMsg) (i : Nat) (hi : i < ms.length) (p : VMsg) : (ms.set i p).flatMap vmCells = (ms.take i).flatMap vmCells ++ vmCells p ++ (ms.drop (i + 1)).flatMap vmCells := by
  rw [List.set_eq_take_append_cons_drop, if_pos hi, List.flatMap_append, List.flatMap_cons, List.append_assoc]
/-- A message is put over another of the row. -/
theorem MRow.set {w : World} {base : Nat} {g n cap : Nat} {ms : List VMsg} (h : MRow w base (.slice (some ⟨g, 0, none⟩) n cap) ms) (i : Nat) (hi : i < ms.length) (v : Value) (m : Msg) (hp : (v, m) ∈ ms) :
    MRow (rowTo w g (i * 13) v m) base (.slice (some ⟨g, 0, none⟩) n cap) (ms.set i (v, m)) ∧ Keeps [g] w (rowTo w g (i * 13) v m) := by
  have hfl := vmFlat_len ms
  rcases h.row.2 with ⟨hx, _⟩ | ⟨g', cap', cur, hv, hb, hg, hnc, hcm, hcs, htake⟩
  · cases hx
  simp only [Value.slice.injEq, Option.some.injEq, Addr.mk.injEq, and_true] at hv
  obtain ⟨rfl, rfl, rfl⟩ := hv
  have hfit : i * 13 + 0 + (vmCells (v, m)).length ≤ cur.size := by rw [vmCells_len, hcs]; omega
  have h1 := vmCells_one (v, m) (h.ents _ hp).oneCell
  have e1 := run_storeCells_at Try.prog g (i * 13) 30 (vmCells (v, m)) 0 cur w hg hfit h1
  have hin : ∀ j, j < (vmCells (v, m)).length → i * 13 + 0 + j < cur.size := fun j hj => by omega
  have e2 := run_storeCells_cells (P := Try.prog) g (i * 13) (vmCells (v, m)) 0 w (fun j hj => by rw [show w.cell? ⟨g, i * 13 + 0 + j, none⟩ = some (cur[i * 13 + 0 + j]'(hin j hj)) from by simp [World.cell?, hg]]; rfl) (fun j _ => by simp [World.frozen?, hg]) h1
  have ew : rowTo w g (i * 13) v m = w.setRow g (cur.toList.take (i * 13 + 0) ++ vmCells (v, m) ++ cur.toList.drop (i * 13 + 0 + (vmCells (v, m)).length)).toArray := by
    rw [rowTo_cells]
    have := e2.symm.trans e1
    simpa using this
  simp only [Nat.add_zero, vmCells_len] at ew
  rw [ew]
  have hk : Keeps [g] w (w.setRow g (cur.toList.take (i * 13) ++ vmCells (v, m) ++ cur.toList.drop (i * 13 + 13)).toArray) := ⟨rfl, rfl, rfl, by simp [World.setRow], fun k _ hx => setRow_other w g k _ (fun e => hx (by simp [e]))⟩
  have hmem : ∀ q ∈ ms.set i (v, m), q ∈ ms := fun q hq => (List.mem_or_eq_of_mem_set hq).elim id (fun e => e ▸ hp)
  refine ⟨⟨⟨by rw [vmFlat_len], ?_⟩, fun q hq => ?_, fun q hq => h.apart q (hmem q hq)⟩, hk⟩
  · refine .inr ⟨g, cap, _, by rw [List.length_set], hb, setRow_heap w g cur _ _ _ hg, by rw [List.length_set]; exact hnc, hcm, ?_, ?_⟩
    · simp only [List.size_toArray, List.length_append, List.length_take, List.length_drop, Array.length_toList, vmCells_len]
      omega
    · have hl : (cur.toList.take (i * 13)).length = i * 13 := by rw [List.length_take, Array.length_toList]; omega
      rw [List.length_set, set_flat ms i hi, List.append_assoc, List.append_assoc, List.take_append, hl]
      have q1 : (cur.toList.take (i * 13)).take (ms.length * 13) = (ms.take i).flatMap vmCells := by
        rw [List.take_take, Nat.min_eq_right (by omega)]
        have : (cur.toList.take (ms.length * 13)).take (i * 13) = (ms.flatMap vmCells).take (i * 13) := by rw [htake]
        rw [List.take_take, Nat.min_eq_left (by omega)] at this
        rw [this]
        conv => lhs; rw [← List.take_append_drop i ms, List.flatMap_append]
        exact List.take_left' (by rw [vmFlat_len, List.length_take, Nat.min_eq_left (by omega)])
      have q2 : (vmCells (v, m) ++ cur.toList.drop (i * 13 + 13)).take (ms.length * 13 - i * 13) = vmCells (v, m) ++ (ms.drop (i + 1)).flatMap vmCells := by
        rw [List.take_append, vmCells_len, List.take_of_length_le (by rw [vmCells_len]; omega)]
        congr 1
        have : (cur.toList.take (ms.length * 13)).drop (i * 13 + 13) = (ms.flatMap vmCells).drop (i * 13 + 13) := by rw [htake]
        rw [List.drop_take] at this
        rw [show ms.length * 13 - i * 13 - 13 = ms.length * 13 - (i * 13 + 13) by omega, this]
        conv => lhs; rw [← List.take_append_drop (i + 1) ms, List.flatMap_append]
        exact List.drop_left' (by rw [vmFlat_len, List.length_take, Nat.min_eq_left (by omega)]; omega)
      rw [q1, q2]
  · have hap := h.apart q (hmem q hq)
    refine World.ownsRow.kept (row := some g) (h.ents q (hmem q hq)) ⟨rfl, rfl, rfl, by simp [World.setRow], fun k _ hx => setRow_other w g k _ (fun e => hx (by rw [e]))⟩ ?_
    cases ho : q.1.ownBlock with
    | none => exact .inl rfl
    | some g' => exact .inr fun e => hap g' ho (by rw [e]; rfl)
end Go.Proofs.Ytcogmohepcifiaa
