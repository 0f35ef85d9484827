/-
  No claim by itself: a message leaves a row; Look, Drop, Take. No condition.
-/
import Derived.Test.YtcogmohepcifiaaNet2
import Derived.Lib.SliceRun
namespace Go.Proofs.Ytcogmohepcifiaa
open Go.ChangeShapes Go.WideShapes Go.ChangeAt Go.RowKit

section
variable {P : Program}

/-- 'append' where there is room: the row's own block, the same capacity. -/
theorem run_append_in {w : World} (t ot : TypeId) (base : Nat) (e : TypeId) (i : TypeInfo) (size : Nat) (ht : P.underlying t = some (.slice e)) (hi : P.info? e = some i) (hsize : i.size = size)
    (g n cap : Nat) (xs : List Value) (hown : w.ownsRow base e size (.slice (some ⟨g, 0, none⟩) n cap) n xs) (ao : Option Addr) (m c : Nat) (news : List Value) (hl : news.length = m * size)
    (hnews : m ≠ 0 → ∃ ad, ao = some ad ∧ ∀ j u, news[j]? = some u → w.cell? (ad.add j) = some u) (h1 : ∀ u ∈ news, u.oneCell' = true) (hroom : n + m ≤ cap) :
    ∃ w', (Builtin.append_ #[t, t] ot #[.slice (some ⟨g, 0, none⟩) n cap, .slice ao m c]).run P w = .ok (.slice (some ⟨g, 0, none⟩) (n + m) cap) w' ∧
      w'.ownsRow base e size (.slice (some ⟨g, 0, none⟩) (n + m) cap) (n + m) (xs ++ news) ∧ w.grownBy w' (some g) := by
  have hlen : (xs ++ news).length = (n + m) * size := by rw [List.length_append, hown.1, hl, Nat.add_mul]
  rcases hown.2 with ⟨h, _⟩ | ⟨g', cap', cur, hv, hbg, hg, hnc, hcm, hcs, htake⟩
  · cases h
  simp only [Value.slice.injEq, Option.some.injEq, Addr.mk.injEq, true_and, and_true] at hv
  obtain ⟨rfl, rfl⟩ := hv
  by_cases hm : m = 0
  · subst hm
    obtain rfl : news = [] := List.eq_nil_of_length_eq_zero (by simpa using hl)
    refine ⟨w, ?_, by simpa using hown, ⟨rfl, rfl, rfl, Nat.le_refl _, fun _ _ _ => rfl⟩⟩
    cases ao <;> simp [Builtin.append_, run_underlying ht, sizeOf, typeInfo, hi, Builtin.lenOf, Builtin.firstCells, hnc, storeCells, loadCells, loadCellsFrom]
  · obtain ⟨ad, rfl, hc⟩ := hnews hm
    subst hsize
    have hfit : n * i.size + news.length ≤ cur.size := by rw [hl, hcs, ← Nat.add_mul]; exact Nat.mul_le_mul_right _ hroom
    have hr := run_append_room (P := P) w t ot e i ht hi g n cap cur hg ad m c news hl hc h1 hroom hfit
    refine ⟨_, hr, ⟨hlen, .inr ⟨g, cap, _, rfl, hbg, setRow_heap w g cur _ e _ hg, hroom, hcm, ?_, ?_⟩⟩, ⟨rfl, rfl, rfl, by simp, fun k _ hk => setRow_other w g k _ (fun e => hk (by rw [e]))⟩⟩
    · simp only [List.size_toArray, List.length_append, List.length_take, List.length_drop, Array.length_toList]
      omega
    · rw [htake, ← hlen]
      exact List.take_left
/-- 'clear' of one element of several cells. -/
theorem run_clear_rec (w : World) (t e : TypeId) (z : Value) (m : Nat) (ht : P.underlying t = some (.slice e)) (hv : ∀ w, (zeroValue e).run P w = .ok z w) (hz : z.cells.size = m) (h1 : ∀ u ∈ z.cells.toList, u.oneCell' = true) (g o c : Nat) (cur : Array Value)
    (hg : w.heap[g]? = some (.cells cur e (0, 0))) (hfit : o + m ≤ cur.size) :
    ∃ cur', (∀ ty, (Builtin.clear_ #[t] ty #[.slice (some ⟨g, o, none⟩) 1 c]).run P w = .ok (.tuple #[]) (w.setRow g cur')) ∧ cur'.size = cur.size ∧ cur'.toList.take o = cur.toList.take o := by
  have hzc : (Builtin.zeroCells z.cells 1).toList = z.cells.toList := by
    simp [Builtin.zeroCells]
    apply List.ext_getElem
    · simp
    · intro i h1 h2
      simp at h1
      simp [Nat.mod_eq_of_lt h1]
      exact getElem!_pos z.cells i h1
  have hst := run_storeCells_at P g o e z.cells.toList 0 cur w hg (by simpa [hz] using hfit) h1
  simp only [Nat.add_zero] at hst
  refine ⟨(cur.toList.take o ++ z.cells.toList ++ cur.toList.drop (o + z.cells.toList.length)).toArray, ?_, ?_, ?_⟩
  · intro ty
    simp [Builtin.clear_, run_underlying ht, hv, hzc, hst]
  · simp only [List.size_toArray, List.length_append, List.length_take, List.length_drop, Array.length_toList, hz]
    omega
  · have : (cur.toList.take o).length = o := by rw [List.length_take, Array.length_toList]; omega
    rw [List.append_assoc]
    exact List.take_left' this
end

theorem MRow.front {w : World} {base : Nat} {g n cap : Nat} {ms : List VMsg} (h : MRow w base (.slice (some ⟨g, 0, none⟩) n cap) ms) (k : Nat) (hk : k ≤ ms.length) : MRow w base (.slice (some ⟨g, 0, none⟩) k cap) (ms.take k) := by
  have hl : (ms.take k).length = k := by rw [List.length_take]; omega
  refine ⟨⟨by rw [vmFlat_len], ?_⟩, fun p hp => h.ents p (List.mem_of_mem_take hp), fun p hp g' hg => h.apart p (List.mem_of_mem_take hp) g' hg⟩
  rcases h.row.2 with ⟨hx, _⟩ | ⟨g', cap', cur, hv, hb, hg, hnc, hcm, hcs, htake⟩
  · cases hx
  simp only [Value.slice.injEq, Option.some.injEq, Addr.mk.injEq, and_true] at hv
  obtain ⟨rfl, rfl, rfl⟩ := hv
  refine .inr ⟨g, cap, cur, by rw [hl], hb, hg, by omega, hcm, hcs, ?_⟩
  have e1 : ms.flatMap vmCells = (ms.take k).flatMap vmCells ++ (ms.drop k).flatMap vmCells := by rw [← List.flatMap_append, List.take_append_drop]
  have e2 : ((ms.take k).flatMap vmCells).length = k * 13 := by rw [vmFlat_len, hl]
  rw [hl, ← show (cur.toList.take (ms.length * 13)).take (k * 13) = cur.toList.take (k * 13) from by rw [List.take_take, Nat.min_eq_left (Nat.mul_le_mul_right _ hk)], htake, e1, ← e2]
  exact List.take_left
/-- The row behind a change beyond its end. -/
theorem MRow.setRow {w : World} {base : Nat} {g n cap : Nat} {ms : List VMsg} (h : MRow w base (.slice (some ⟨g, 0, none⟩) n cap) ms) (cur cur' : Array Value) (hg : w.heap[g]? = some (.cells cur 30)) (hs : cur'.size = cur.size) (ht : cur'.toList.take (ms.length * 13) = cur.toList.take (ms.length * 13)) :
    MRow (w.setRow g cur') base (.slice (some ⟨g, 0, none⟩) n cap) ms ∧ Keeps [g] w (w.setRow g cur') := by
  have hk : Keeps [g] w (w.setRow g cur') := ⟨rfl, rfl, rfl, by simp [World.setRow], fun k _ hx => setRow_other w g k _ (fun e => hx (by simp [e]))⟩
  refine ⟨⟨⟨h.row.1, ?_⟩, fun p hp => ?_, h.apart⟩, hk⟩
  · rcases h.row.2 with ⟨hx, _⟩ | ⟨g', cap', cur0, hv, hb, hg', hnc, hcm, hcs, htake⟩
    · cases hx
    simp only [Value.slice.injEq, Option.some.injEq, Addr.mk.injEq, and_true] at hv
    obtain ⟨rfl, rfl, rfl⟩ := hv
    rw [hg] at hg'
    simp only [Option.some.injEq, Obj.cells.injEq, and_true] at hg'
    subst hg'
    exact .inr ⟨g, cap, cur', rfl, hb, setRow_heap w g cur _ _ _ hg, hnc, hcm, by rw [hs]; exact hcs, by rw [ht]; exact htake⟩
  · have hap := h.apart p hp
    refine World.ownsRow.kept (row := some g) (h.ents p hp) ⟨rfl, rfl, rfl, by simp [World.setRow], fun k _ hx => setRow_other w g k _ (fun e => hx (by rw [e]))⟩ ?_
    cases ho : p.1.ownBlock with
    | none => exact .inl rfl
    | some g' => exact .inr fun e => hap g' ho (by rw [e]; rfl)
/-- What a deletion leaves. -/
theorem MRow.gone {w : World} {base : Nat} {g n cap : Nat} {ms : List VMsg} {w' : World} (h : MRow w base (.slice (some ⟨g, 0, none⟩) n cap) ms) (k : Nat) (hg : w.grownBy w' (some g))
    (hown : w'.ownsRow base 30 13 (.slice (some ⟨g, 0, none⟩) (ms.eraseIdx k).length cap) (ms.eraseIdx k).length ((ms.eraseIdx k).flatMap vmCells)) : MRow w' base (.slice (some ⟨g, 0, none⟩) (ms.eraseIdx k).length cap) (ms.eraseIdx k) := by
  refine ⟨hown, fun p hp => ?_, fun p hp => h.apart p (List.mem_of_mem_eraseIdx hp)⟩
  have hp' := List.mem_of_mem_eraseIdx hp
  have hap := h.apart p hp'
  refine World.ownsRow.kept (row := some g) (h.ents p hp') hg ?_
  cases ho : p.1.ownBlock with
  | none => exact .inl rfl
  | some g' => exact .inr fun e => hap g' ho (by rw [e]; rfl)
/-- 'append' in a list of operations, its run being told. -/
theorem wpList_append_run {P : Program} {w w' : World} {ops : Array Oper} {rest : List Oper} {o : Oper} {a : Act} {Q : Exit → Act → World → Prop} (hgd : o.guard = none) (s x : Operand) (t : TypeId)
    (ho : o.op = .call { callee := .builtin .append, args := #[s, x], argTypes := #[t, t] }) {v src v' : Value} (hs : a.eval s = v) (hx : a.eval x = src) (hr : (Builtin.append_ #[t, t] o.type #[v, src]).run P w = .ok v' w')
    (h : wpList P ops Q rest (a.put o.dst v') w') : wpList P ops Q (o :: rest) a w := by
  refine wpList_plain hgd fun K hK => ?_
  unfold Oper.wp execOp
  simp only [ho, resolve, invoke, builtin, Sem.run_bind, Sem.run_pure, Result.andThen_ok, List.map_toArray, List.map_cons, List.map_nil, hs, hx, hr]
  exact hK _ _ h
theorem erase_flat (ms : List VMsg) (k : Nat) (hk : k < ms.length) : (ms.eraseIdx k).flatMap vmCells = (ms.take k).flatMap vmCells ++ (ms.drop (k + 1)).flatMap vmCells ∧ (ms.eraseIdx k).length = ms.length - 1 := by
  refine ⟨by rw [List.eraseIdx_eq_take_drop_succ, List.flatMap_append], by rw [List.length_eraseIdx, if_pos hk]⟩
theorem vmCells_one (p : VMsg) (h : p.1.oneCell' = true) : ∀ u ∈ vmCells p, u.oneCell' = true := by
  intro u hu
  simp only [vmCells, msgCells, List.mem_cons, List.not_mem_nil, or_false] at hu
  rcases hu with rfl | rfl | rfl | rfl | rfl | rfl | rfl | rfl | rfl | rfl | rfl | rfl | rfl <;> first | rfl | exact h
theorem MRow.cap {w : World} {base : Nat} {g n cap : Nat} {ms : List VMsg} (h : MRow w base (.slice (some ⟨g, 0, none⟩) n cap) ms) : cap ≤ 9223372036854775807 := by
  rcases h.row.2 with ⟨hx, _⟩ | ⟨g', cap', cur, hv, _, _, _, hcm, _⟩
  · cases hx
  simp only [Value.slice.injEq, Option.some.injEq, Addr.mk.injEq, and_true] at hv
  obtain ⟨rfl, -, rfl⟩ := hv
  simpa [maxLen] using hcm
theorem del_run {w : World} {base : Nat} {g cap : Nat} {ms : List VMsg} (h : MRow w base (.slice (some ⟨g, 0, none⟩) ms.length cap) ms) (k : Nat) (hk : k < ms.length) (hcap : ms.length ≤ cap) (c : Nat) :
    ∃ w', (Builtin.append_ #[42, 42] 42 #[.slice (some ⟨g, 0, none⟩) k cap, .slice (if cap = k + 1 then some (⟨g, 0, none⟩ : Addr) else some ⟨g, (k + 1) * 13, none⟩) (ms.length - (k + 1)) c]).run Try.prog w = .ok (.slice (some ⟨g, 0, none⟩) (ms.length - 1) cap) w' ∧
      MRow w' base (.slice (some ⟨g, 0, none⟩) (ms.length - 1) cap) (ms.eraseIdx k) ∧ w.grownBy w' (some g) := by
  obtain ⟨i, hi, hi'⟩ := Option.map_eq_some_iff.1 info_msg
  simp only [Prod.mk.injEq] at hi'
  obtain ⟨hz0, hz1, hz2⟩ := hi'
  obtain ⟨he1, he2⟩ := erase_flat ms k hk
  have hpre := (h.front k (by omega)).row
  rw [List.length_take, Nat.min_eq_left (by omega)] at hpre
  have hsrc : (ms.length - (k + 1)) ≠ 0 → ∃ ad, (if cap = k + 1 then some (⟨g, 0, none⟩ : Addr) else some ⟨g, (k + 1) * 13, none⟩) = some ad ∧ ∀ j u, ((ms.drop (k + 1)).flatMap vmCells)[j]? = some u → w.cell? (ad.add j) = some u := fun hne => by
    refine ⟨⟨g, (k + 1) * 13, none⟩, by rw [if_neg (by omega)], fun j u hu => ?_⟩
    have e1 : ms.flatMap vmCells = (ms.take (k + 1)).flatMap vmCells ++ (ms.drop (k + 1)).flatMap vmCells := by rw [← List.flatMap_append, List.take_append_drop]
    have e2 : ((ms.take (k + 1)).flatMap vmCells).length = (k + 1) * 13 := by rw [vmFlat_len, List.length_take, Nat.min_eq_left (by omega)]
    have := World.ownsRow.cells h.row (g := g) rfl ((k + 1) * 13 + j) u (by rw [e1, List.getElem?_append_right (by omega), e2, Nat.add_sub_cancel_left]; exact hu)
    rw [Addr.add_lit, Nat.zero_add] at this
    rw [Addr.add_lit]
    exact this
  have hone : ∀ u ∈ (ms.drop (k + 1)).flatMap vmCells, u.oneCell' = true := fun u hu => by
    obtain ⟨p, hp, hu⟩ := List.mem_flatMap.1 hu
    exact vmCells_one p (h.ents p (List.mem_of_mem_drop hp)).oneCell u hu
  obtain ⟨w', hr, ho, hg⟩ := run_append_in (P := Try.prog) 42 42 base 30 i 13 Try.underlying42 hi hz1 g k cap ((ms.take k).flatMap vmCells) hpre (if cap = k + 1 then some (⟨g, 0, none⟩ : Addr) else some ⟨g, (k + 1) * 13, none⟩) (ms.length - (k + 1)) c ((ms.drop (k + 1)).flatMap vmCells) (by rw [vmFlat_len, List.length_drop]) hsrc hone (by omega)
  rw [show k + (ms.length - (k + 1)) = ms.length - 1 by omega] at hr ho
  refine ⟨w', hr, ?_, hg⟩
  have := MRow.gone h k hg (by rw [he2, he1]; exact ho)
  rwa [he2] at this
def RetDel (w : World) (base : Nat) (lv : Value) (ms : List VMsg) (k : Nat) (e : Ending) (w' : World) : Prop :=
  ∃ lv', e = .returned lv' ∧ MRow w' base lv' (ms.eraseIdx k) ∧ Keeps lv.ownBlock.toList w w' ∧ ∀ g, lv'.ownBlock = some g → lv.ownBlock = some g

set_option maxRecDepth 100000 in
set_option maxHeartbeats 4000000 in
theorem sl_delete {w : World} {base : Nat} {lv : Value} {ms : List VMsg} (h : MRow w base lv ms) (k : Nat) (hk : k < ms.length) (hn : ms.length ≤ 1000) :
    Calls Try.prog 31 #[lv, .int .i64 k, .int .i64 ((k + 1 : Nat) : Int)] w fun e w' => RetDel w base lv ms k e w' := by
  obtain ⟨g, cap, rfl, hg, hlt, hcap⟩ := ownsRow_shape h.row (by omega)
  have hcm := h.cap
  obtain ⟨i, hi, hi'⟩ := Option.map_eq_some_iff.1 info_msg
  simp only [Prod.mk.injEq] at hi'
  obtain ⟨hz0, -, -⟩ := hi'
  have he2 := (erase_flat ms k hk).2
  have HM := Lib.hid h
  clear h
  go_enter Try.func31, Try.ntmps31
  go_upto_region 5 with fail
  go_cut [0] (fun x wx => x = .slice (some ⟨g, 0, none⟩) (ms.length - 1) cap ∧ MRow wx base (.slice (some ⟨g, 0, none⟩) (ms.length - 1) cap) (ms.eraseIdx k) ∧ Keeps [g] w wx)
  case first =>
    refine wp_region_tail 6 (by rfl) (by kernel_rfl) (fun _ => none) (by simp) (fun vals => ?_)
    dsimp only [List.take, List.drop]
    iterate 2 ((with_reducible refine sw_pure ?_ (fun K hK => ?_)); (· rfl); go_simp; with_reducible refine hK _ ?_; clear hK K)
    refine sw_at (.slice (some ⟨g, 0, none⟩) k cap) rfl rfl (fun wz hz' hH => ?_) (fun K hK => ?_)
    · go_simp
      rw [if_pos (by omega : k ≤ cap)]
      exact ⟨rfl, rfl⟩
    go_simp; refine hK _ ?_; clear hK K
    iterate 2 ((with_reducible refine sw_pure ?_ (fun K hK => ?_)); (· rfl); go_simp; with_reducible refine hK _ ?_; clear hK K)
    refine sw_at (.slice (if cap = k + 1 then some (⟨g, 0, none⟩ : Addr) else some ⟨g, (k + 1) * 13, none⟩) (ms.length - (k + 1)) (cap - (k + 1))) rfl rfl (fun wz hz' hH => ?_) (fun K hK => ?_)
    · go_simp
      rw [if_pos ⟨by omega, by omega⟩]
      exact ⟨rfl, rfl⟩
    go_simp; refine hK _ ?_; clear hK K
    refine sw_done (fun wz hz' hH => ?_)
    unfold tailQ
    obtain ⟨w', hr, hM', hg'⟩ := del_run (HM.out.below hz') k hk hcap (cap - (k + 1))
    have hkz : Keeps [g] w w' := (Keeps.mono (F := []) (Keeps.of_below hz') (by simp)).trans (Keeps.of_grown hg') (by simp)
    have HM' := Lib.hid hM'
    clear hM' hg' hH
    go_wp2_with (at_builtin; refine wpList_append_run rfl _ _ 42 rfl rfl rfl hr ?_)
    clear hr
    go_wp2_with fail
    all_goals go_meet
    all_goals exact ⟨by first | rfl | (simp only [Value.slice.injEq, true_and]; omega), HM'.out, hkz⟩
  case rest =>
    obtain ⟨rfl, hM2, hk2⟩ := hcut
    obtain ⟨g', cap', cur, hv, hb', hcur, hnc, hcm', hcs, htake⟩ : ∃ g' cap' cur, (Value.slice (some ⟨g, 0, none⟩) (ms.length - 1) cap) = .slice (some ⟨g', 0, none⟩) (ms.eraseIdx k).length cap' ∧ base ≤ g' ∧ wc.heap[g']? = some (.cells cur 30) ∧ (ms.eraseIdx k).length ≤ cap' ∧ cap' ≤ maxLen ∧ cur.size = cap' * 13 ∧ cur.toList.take ((ms.eraseIdx k).length * 13) = (ms.eraseIdx k).flatMap vmCells := by
      rcases hM2.row.2 with ⟨hx, _⟩ | h
      · cases hx
      · exact h
    simp only [Value.slice.injEq, Option.some.injEq, Addr.mk.injEq, and_true] at hv
    obtain ⟨rfl, hl, rfl⟩ := hv
    obtain ⟨cur', hcl, hcs', hct⟩ := run_clear_rec (P := Try.prog) wc 42 30 (.agg #[.int .i64 0, .int .i64 0, .int .i64 0, .int .i64 0, .int .i64 0, .int .i64 0, .int .i64 0, .bool false, .slice none 0 0, .int .i64 0, .int .i64 0, .string .empty, .string .empty]) 13 Try.underlying42 (fun W => by simp [zeroValue, typeInfo, hi, hz0]) rfl (by decide) g ((ms.length - 1) * 13) (cap - (ms.length - 1)) cur hcur (by rw [hcs]; omega)
    obtain ⟨hM3, hk3⟩ := MRow.setRow hM2 cur cur' hcur hcs' (by rw [he2]; exact hct)
    have HK := Lib.hid (hk2.trans hk3 (fun x hx => .inl hx))
    have HM3 := Lib.hid hM3
    obtain ⟨n', hn'⟩ : ∃ n', ms.length = n' + 1 := ⟨ms.length - 1, by omega⟩
    have hsub : ms.length - 1 = n' := by omega
    rw [hsub] at HM3 hcl he2 ⊢
    rw [hn'] at hn hcap ⊢
    have s4 : cap ≠ n' := by omega
    have s6 : n' + 1 - n' = 1 := by omega
    clear hM2 hk2 hM3 hk3 hcur htake hcs hcs' hct hi hz0 hsub hl hnc hk HM
    go_wp2_with fail
    go_ret
    exact ⟨_, rfl, HM3.out, HK.out, fun g hg => hg⟩

def RetDrop (w : World) (b : Nat) (lv : Value) (ms : List VMsg) (i : Int) (e : Ending) (w' : World) : Prop :=
  ∃ lv' ms', NetS w' b lv' ms' ∧ Keeps (b :: lv.ownBlock.toList) w w' ∧ (∀ g, lv'.ownBlock = some g → lv.ownBlock = some g) ∧
    ((∃ k : Nat, k < ms.length ∧ i = k ∧ e = .returned (.bool true) ∧ ms' = ms.eraseIdx k) ∨ ((i < 0 ∨ (ms.length : Int) ≤ i) ∧ e = .returned (.bool false) ∧ ms' = ms))

set_option maxRecDepth 100000 in
set_option maxHeartbeats 4000000 in
theorem net_drop {w : World} {b : Nat} {lv : Value} {ms : List VMsg} (h : NetS w b lv ms) (i : Int) (hi0 : -9223372036854775808 ≤ i) (hi1 : i ≤ 9223372036854775807) (hn : ms.length ≤ 1000) :
    Calls Try.prog 16 #[.pointer (some ⟨b, 0, none⟩), .int .i64 i] w fun e w' => RetDrop w b lv ms i e w' := by
  obtain ⟨la, lc, rfl⟩ := h.m.slice
  go_enter Try.func16, Try.ntmps16
  by_cases h0 : i < 0
  · have t0 : decide (i < 0) = true := decide_eq_true h0
    go_wp2_with fail
    go_ret
    exact ⟨_, ms, h, Keeps.refl _ _, fun g hg => hg, .inr ⟨.inl h0, rfl, rfl⟩⟩
  have t0 : decide (i < 0) = false := decide_eq_false h0
  go_wp2_with fail
  refine (net_len h).mono ?_
  rintro e w1 ⟨rfl, rfl⟩
  rename World => w
  by_cases h1 : (ms.length : Int) ≤ i
  · have t1 : decide ((ms.length : Int) ≤ i) = true := decide_eq_true h1
    go_wp2_with fail
    go_ret
    exact ⟨_, ms, h, Keeps.refl _ _, fun g hg => hg, .inr ⟨.inr h1, rfl, rfl⟩⟩
  have t1 : decide ((ms.length : Int) ≤ i) = false := decide_eq_false h1
  obtain ⟨k, rfl⟩ := Int.eq_ofNat_of_zero_le (show 0 ≤ i by omega)
  have c0 := h.c0
  go_wp2_with fail
  refine (sl_delete h.m k (by omega) hn).mono ?_
  rintro e w2 ⟨lv', rfl, hM, hk, hg⟩
  have hbr : b ∉ (Value.slice la ms.length lc).ownBlock.toList := fun hx => by
    have := (World.ownsRow.lt h.m.row b (by simpa using hx)).1
    omega
  obtain ⟨xa, xc, rfl⟩ := hM.slice
  have x0 := (hk.cell (p := ⟨b, 0, none⟩) h.lt hbr).trans c0
  have xf := (hk.frozen (p := ⟨b, 0, none⟩) h.lt hbr).trans (h.fr 0)
  have hfr : ∀ j, w2.frozen? ⟨b, j, none⟩ = false := fun j => (hk.frozen (p := ⟨b, j, none⟩) h.lt hbr).trans (h.fr j)
  have hlt := Nat.lt_of_lt_of_le h.lt hk.size
  have hk1 := fun u => (Keeps.refl [b] w2).setCell (p := ⟨b, 0, none⟩) (.inl (by simp)) u
  have HM := Lib.hid hM
  have HK := Lib.hid hk
  have HK1 := Lib.hid hk1
  have HFR := Lib.hid hfr
  have HG := Lib.hid hg
  clear hM hk hk1 hfr hg h c0
  go_wp2_with fail
  go_ret
  refine ⟨_, _, ⟨Nat.lt_of_lt_of_le hlt (HK1.out _).size, World.cell?_setCell_same _ _ _ x0, fun j => by rw [World.frozen?_setCell]; exact HFR.out j, HM.out.keeps (HK1.out _) (by simp)⟩, ?_, HG.out, .inl ⟨k, by omega, rfl, rfl, rfl⟩⟩
  exact (HK.out.mono (fun x hx _ => List.mem_cons_of_mem _ hx)).trans (HK1.out _) (by simp)
end Go.Proofs.Ytcogmohepcifiaa
