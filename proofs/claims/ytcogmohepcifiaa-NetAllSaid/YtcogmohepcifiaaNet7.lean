/-
  No claim by itself: a net and a list of messages beside it, each with blocks of its own. No condition.
-/
import Derived.Test.YtcogmohepcifiaaNet6
namespace Go.Proofs.Ytcogmohepcifiaa
open Go.ChangeShapes Go.WideShapes Go.ChangeAt Go.RowKit

/-- A list of messages in a block, of which the slice may show but a part. -/
def LOwn (w : World) (base : Nat) (lv : Value) (ms : List VMsg) : Prop :=
  (lv = .slice none 0 0 ∧ ms = []) ∨ ∃ g cap cur, lv = .slice (some ⟨g, 0, none⟩) ms.length cap ∧ base ≤ g ∧ w.heap[g]? = some (.cells cur 30) ∧ ms.length ≤ cap ∧ cap ≤ maxLen ∧ cap * 13 ≤ cur.size ∧ cur.toList.take (ms.length * 13) = ms.flatMap vmCells
theorem LOwn.nil (w : World) (base : Nat) : LOwn w base (.slice none 0 0) [] := .inl ⟨rfl, rfl⟩
theorem LOwn.slice {w : World} {base : Nat} {lv : Value} {ms : List VMsg} (h : LOwn w base lv ms) : ∃ a cap, lv = .slice a ms.length cap := by
  rcases h with ⟨rfl, rfl⟩ | ⟨g, cap, cur, rfl, _⟩
  · exact ⟨_, _, rfl⟩
  · exact ⟨_, _, rfl⟩
theorem LOwn.lt {w : World} {base : Nat} {lv : Value} {ms : List VMsg} (h : LOwn w base lv ms) : ∀ g, lv.ownBlock = some g → base ≤ g ∧ g < w.heap.size := by
  rcases h with ⟨rfl, _⟩ | ⟨g, cap, cur, rfl, hb, hg, _⟩
  · intro g hg
    cases hg
  · intro g' hg'
    simp only [Value.ownBlock, Option.some.injEq] at hg'
    subst hg'
    exact ⟨hb, (Array.getElem?_eq_some_iff.1 hg).1⟩
theorem LOwn.keeps {w w' : World} {base : Nat} {lv : Value} {ms : List VMsg} {F : List Nat} (h : LOwn w base lv ms) (hk : Keeps F w w') (h1 : ∀ x ∈ F, lv.ownBlock ≠ some x) : LOwn w' base lv ms := by
  rcases h with h3 | ⟨g, cap, cur, hv, hg, hh, r⟩
  · exact .inl h3
  · refine .inr ⟨g, cap, cur, hv, hg, ?_, r⟩
    rw [hk.block g (Array.getElem?_eq_some_iff.1 hh).1 (fun hx => h1 g hx (by rw [hv]; rfl))]
    exact hh
theorem LOwn.below {w w' : World} {base : Nat} {lv : Value} {ms : List VMsg} (h : LOwn w base lv ms) (hb : Below w.heap.size w w') : LOwn w' base lv ms := h.keeps (F := []) (Keeps.of_below hb) (by simp)
theorem LOwn.rebase {w : World} {base base' : Nat} {lv : Value} {ms : List VMsg} (h : LOwn w base lv ms) (hb : base' ≤ base) : LOwn w base' lv ms := by
  rcases h with h3 | ⟨g, cap, cur, hv, hg, r⟩
  · exact .inl h3
  · exact .inr ⟨g, cap, cur, hv, by omega, r⟩
/-- One message's cells. -/
theorem LOwn.cells {w : World} {base : Nat} {a : Option Addr} {n cap : Nat} {ms : List VMsg} (h : LOwn w base (.slice a n cap) ms) (k : Nat) (hk : k < ms.length) : ∃ g, a = some ⟨g, 0, none⟩ ∧ n = ms.length ∧ base ≤ g ∧ g < w.heap.size ∧ ms.length ≤ cap ∧ cap ≤ 9223372036854775807 ∧
    ∀ j u, (vmCells ms[k])[j]? = some u → w.cell? ⟨g, k * 13 + j, none⟩ = some u := by
  rcases h with ⟨_, rfl⟩ | ⟨g, c', cur, hv, hb, hg, hnc, hcm, hcs, htake⟩
  · simp at hk
  simp only [Value.slice.injEq] at hv
  obtain ⟨rfl, rfl, rfl⟩ := hv
  refine ⟨g, rfl, rfl, hb, (Array.getElem?_eq_some_iff.1 hg).1, hnc, by simpa [maxLen] using hcm, fun j u hu => ?_⟩
  have hj : j < 13 := by have := (List.getElem?_eq_some_iff.1 hu).1; rwa [vmCells_len] at this
  have h1 : (ms.flatMap vmCells)[k * 13 + j]? = some u := by rw [vmFlat_get ms k hk j hj]; exact hu
  rw [← htake, List.getElem?_take] at h1
  split at h1
  · rw [Array.getElem?_toList] at h1
    simp only [World.cell?, hg]
    simpa using h1
  · cases h1
theorem LOwn.all {w : World} {base : Nat} {g n cap : Nat} {ms : List VMsg} (h : LOwn w base (.slice (some ⟨g, 0, none⟩) n cap) ms) : n = ms.length ∧ ms.length ≤ cap ∧ cap ≤ 9223372036854775807 ∧ ∀ j u, (ms.flatMap vmCells)[j]? = some u → w.cell? ⟨g, j, none⟩ = some u := by
  rcases h with ⟨hx, _⟩ | ⟨g', c', cur, hv, hb, hg, hnc, hcm, hcs, htake⟩
  · cases hx
  simp only [Value.slice.injEq, Option.some.injEq, Addr.mk.injEq, and_true] at hv
  obtain ⟨rfl, rfl, rfl⟩ := hv
  refine ⟨rfl, hnc, by simpa [maxLen] using hcm, fun j u h1 => ?_⟩
  rw [← htake, List.getElem?_take] at h1
  split at h1
  · rw [Array.getElem?_toList] at h1
    simp only [World.cell?, hg]
    simpa using h1
  · cases h1
/-- 'l[:i:i]'. -/
theorem LOwn.front {w : World} {base : Nat} {g n cap : Nat} {ms : List VMsg} (h : LOwn w base (.slice (some ⟨g, 0, none⟩) n cap) ms) (k : Nat) (hk : k ≤ ms.length) : LOwn w base (.slice (some ⟨g, 0, none⟩) k k) (ms.take k) := by
  have hl : (ms.take k).length = k := by rw [List.length_take]; omega
  rcases h with ⟨hx, _⟩ | ⟨g', cap', cur, hv, hb, hg, hnc, hcm, hcs, htake⟩
  · cases hx
  simp only [Value.slice.injEq, Option.some.injEq, Addr.mk.injEq, and_true] at hv
  obtain ⟨rfl, rfl, rfl⟩ := hv
  refine .inr ⟨g, k, cur, by rw [hl], hb, hg, by omega, by omega, by omega, ?_⟩
  have e1 : ms.flatMap vmCells = (ms.take k).flatMap vmCells ++ (ms.drop k).flatMap vmCells := by rw [← List.flatMap_append, List.take_append_drop]
  have e2 : ((ms.take k).flatMap vmCells).length = k * 13 := by rw [vmFlat_len, hl]
  rw [hl, ← show (cur.toList.take (ms.length * 13)).take (k * 13) = cur.toList.take (k * 13) from by rw [List.take_take, Nat.min_eq_left (Nat.mul_le_mul_right _ hk)], htake, e1, ← e2]
  exact List.take_left
theorem Keeps.refl' (F : List Nat) (w : World) : Keeps F w w := ⟨rfl, rfl, rfl, Nat.le_refl _, fun _ _ _ => rfl⟩
set_option maxHeartbeats 1000000 in
/-- 'append(l, ..)'. -/
theorem LOwn.append {w : World} {base : Nat} {v : Value} {ms : List VMsg} (h : LOwn w base v ms) (ao : Option Addr) (c : Nat) (ns : List VMsg)
    (hnews : ns ≠ [] → ∃ ad, ao = some ad ∧ ∀ j u, (ns.flatMap vmCells)[j]? = some u → w.cell? (ad.add j) = some u) (h1 : ∀ p ∈ ns, p.1.oneCell' = true) (hsm : ms.length + ns.length ≤ 1000000) (hbase : base ≤ w.heap.size) :
    ∃ v' w', (Builtin.append_ #[42, 42] 42 #[v, .slice ao ns.length c]).run Try.prog w = .ok v' w' ∧ LOwn w' base v' (ms ++ ns) ∧ Keeps v.ownBlock.toList w w' ∧ ∀ k, v'.ownBlock = some k → v.ownBlock = some k ∨ w.heap.size ≤ k := by
  obtain ⟨i, hi, hi'⟩ := Option.map_eq_some_iff.1 info_msg
  simp only [Prod.mk.injEq] at hi'
  obtain ⟨hz0, hz1, hz2⟩ := hi'
  by_cases hm : ns = []
  · subst hm
    refine ⟨v, w, ?_, by simpa using h, Keeps.refl' _ _, fun k hk => .inl hk⟩
    rcases h with ⟨rfl, rfl⟩ | ⟨g, cap, cur, rfl, _, _, hnc, _⟩
    · cases ao <;> simp [Builtin.append_, run_underlying Try.underlying42, sizeOf, typeInfo, hi, Builtin.lenOf, Builtin.firstCells, loadCells, loadCellsFrom]
    · cases ao <;> simp [Builtin.append_, run_underlying Try.underlying42, sizeOf, typeInfo, hi, Builtin.lenOf, Builtin.firstCells, hnc, storeCells, loadCells, loadCellsFrom]
  obtain ⟨ad, rfl, hc⟩ := hnews hm
  have hone : ∀ u ∈ ns.flatMap vmCells, u.oneCell' = true := fun u hu => by
    obtain ⟨p, hp, hu⟩ := List.mem_flatMap.1 hu
    exact vmCells_one p (h1 p hp) u hu
  have hnl : 0 < ns.length := by cases ns with | nil => exact absurd rfl hm | cons _ _ => simp
  have hfl : (ns.flatMap vmCells).length = ns.length * i.size := by rw [vmFlat_len, hz1]
  have hml : (ms.flatMap vmCells).length = ms.length * i.size := by rw [vmFlat_len, hz1]
  have hgrown : ∀ (old : Nat), LOwn (w.drew.alloc (.cells ((ms.flatMap vmCells).toArray ++ (ns.flatMap vmCells).toArray ++ Builtin.zeroCells (Value.agg #[.int .i64 0, .int .i64 0, .int .i64 0, .int .i64 0, .int .i64 0, .int .i64 0, .int .i64 0, .bool false, .slice none 0 0, .int .i64 0, .int .i64 0, .string .empty, .string .empty]).cells (grownCap w (ms.length + ns.length) old 30 - (ms.length + ns.length))) 30)) base
      (.slice (some ⟨w.heap.size, 0, none⟩) (ms.length + ns.length) (grownCap w (ms.length + ns.length) old 30)) (ms ++ ns) ∧
      ∀ F, Keeps F w (w.drew.alloc (.cells ((ms.flatMap vmCells).toArray ++ (ns.flatMap vmCells).toArray ++ Builtin.zeroCells (Value.agg #[.int .i64 0, .int .i64 0, .int .i64 0, .int .i64 0, .int .i64 0, .int .i64 0, .int .i64 0, .bool false, .slice none 0 0, .int .i64 0, .int .i64 0, .string .empty, .string .empty]).cells (grownCap w (ms.length + ns.length) old 30 - (ms.length + ns.length))) 30)) := by
    intro old
    have hge := grownCap_ge w (ms.length + ns.length) old 30
    have hcm : grownCap w (ms.length + ns.length) old 30 ≤ maxLen := grownCap_le_maxLen w (ms.length + ns.length) old 30 (by unfold maxLen; omega)
    refine ⟨.inr ⟨w.heap.size, _, _, by rw [List.length_append], hbase, _root_.Go.heap_alloc_new w.drew _, by rw [List.length_append]; exact hge, hcm, ?_, ?_⟩, fun F => ⟨rfl, rfl, rfl, by simp, fun k hk _ => Below.heap_alloc w.drew _ k hk⟩⟩
    · have hzc : (Value.agg #[.int .i64 0, .int .i64 0, .int .i64 0, .int .i64 0, .int .i64 0, .int .i64 0, .int .i64 0, .bool false, .slice none 0 0, .int .i64 0, .int .i64 0, .string .empty, .string .empty]).cells.size = 13 := rfl
      simp only [Array.size_append, List.size_toArray, size_zeroCells, hzc, vmFlat_len]
      omega
    · simp only [Array.toList_append, List.append_assoc]
      rw [← List.append_assoc, List.flatMap_append]
      exact List.take_left' (by rw [List.length_append, vmFlat_len, vmFlat_len, List.length_append, Nat.add_mul])
  have hnx : ∀ old, Builtin.nextslicecap (ms.length + ns.length) old * i.bytes ≤ 281474976710656 ∨ ms.length + ns.length ≤ old := fun old => by
    by_cases ho : ms.length + ns.length ≤ old
    · exact .inr ho
    · exact .inl (growslice_fits (by omega) (by rw [hz2]; omega))
  rcases h with ⟨rfl, rfl⟩ | ⟨g, cap, cur, rfl, hbg, hg, hnc, hcm, hcs, htake⟩
  · have hr := run_append_nil (P := Try.prog) w 42 42 30 i _ Try.underlying42 hi hz0 ad ns.length c _ hfl hc hnl (by omega) (by rw [hz2]; omega)
    have hgr := hgrown 0
    simp only [List.length_nil, Nat.zero_add, List.flatMap_nil, List.nil_append, Array.empty_append] at hgr ⊢
    exact ⟨_, _, hr, hgr.1, hgr.2 _, fun k hk => .inr (by simp [Value.ownBlock] at hk; omega)⟩
  · by_cases hroom : ms.length + ns.length ≤ cap
    · have hfit : ms.length * i.size + (ns.flatMap vmCells).length ≤ cur.size := by rw [hfl, hz1]; omega
      have hr := run_append_room (P := Try.prog) w 42 42 30 i Try.underlying42 hi g ms.length cap cur hg ad ns.length c _ hfl hc hone hroom hfit
      refine ⟨_, _, hr, .inr ⟨g, cap, _, by rw [List.length_append], hbg, setRow_heap w g cur _ 30 _ hg, by rw [List.length_append]; exact hroom, hcm, ?_, ?_⟩, ⟨rfl, rfl, rfl, by simp [World.setRow], fun k _ hk => setRow_other w g k _ (fun e => hk (by simp [Value.ownBlock, e]))⟩, fun k hk => .inl hk⟩
      · simp only [List.size_toArray, List.length_append, List.length_take, List.length_drop, Array.length_toList]
        omega
      · rw [hz1, htake, List.flatMap_append]
        exact List.take_left' (by rw [List.length_append, vmFlat_len, vmFlat_len, List.length_append, Nat.add_mul])
    · have holds : ∀ j u, (ms.flatMap vmCells)[j]? = some u → w.cell? ((⟨g, 0, none⟩ : Addr).add j) = some u := fun j u hu => by
        rw [Addr.add_lit, Nat.zero_add]
        exact (LOwn.all (base := base) (cap := cap) (n := ms.length) (.inr ⟨g, cap, cur, rfl, hbg, hg, hnc, hcm, hcs, htake⟩)).2.2.2 j u hu
      have hr := run_append_grow (P := Try.prog) w 42 42 30 i _ Try.underlying42 hi hz0 ⟨g, 0, none⟩ ms.length cap _ hml holds ad ns.length c _ hfl hc (by omega) (by omega) ((hnx cap).elim id (fun h => absurd h hroom))
      have hgr := hgrown cap
      exact ⟨_, _, hr, hgr.1, hgr.2 _, fun k hk => .inr (by simp [Value.ownBlock] at hk; omega)⟩
end Go.Proofs.Ytcogmohepcifiaa
