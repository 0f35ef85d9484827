/-
  No claim by itself: Clear: slices.DeleteFunc, (*Net).Clear. No condition.
-/
import Derived.Test.YtcogmohepcifiaaNet5
namespace Go.Proofs.Ytcogmohepcifiaa
open Go.ChangeShapes Go.WideShapes Go.ChangeAt Go.RowKit

def RetDelF (w : World) (base : Nat) (lv : Value) (ms : List VMsg) (id : Int) (e : Ending) (w' : World) : Prop :=
  ∃ lv', e = .returned lv' ∧ MRow w' base lv' (ms.filter (notTo id)) ∧ Keeps lv.ownBlock.toList w w' ∧ ∀ g, lv'.ownBlock = some g → lv.ownBlock = some g

theorem filter_take_succ {α : Type} (f : α → Bool) (l : List α) (j : Nat) (hj : j < l.length) : (l.take (j + 1)).filter f = (l.take j).filter f ++ (if f l[j] then [l[j]] else []) := by
  rw [List.take_succ_eq_append_getElem hj, List.filter_append, List.filter_cons, List.filter_nil]
/-- What a list is in the midst of a deletion. -/
structure Mid (id : Int) (ms ls : List VMsg) (i j : Nat) : Prop where
  len : ls.length = ms.length
  sub : ∀ p ∈ ls, p ∈ ms
  pre : ls.take i = (ms.take j).filter (notTo id)
  post : ls.drop j = ms.drop j
  lt : i < j
theorem Mid.at {id : Int} {ms ls : List VMsg} {i j : Nat} (h : Mid id ms ls i j) (hj : j < ms.length) (hjl : j < ls.length) : ls[j] = ms[j] := by
  have := congrArg (fun l => l[0]?) h.post
  simp only [List.getElem?_drop, Nat.add_zero, List.getElem?_eq_getElem hj, List.getElem?_eq_getElem hjl, Option.some.injEq] at this
  exact this
theorem Mid.skip {id : Int} {ms ls : List VMsg} {i j : Nat} (h : Mid id ms ls i j) (hj : j < ms.length) (hq : notTo id ms[j] = false) : Mid id ms ls i (j + 1) := by
  refine ⟨h.len, h.sub, ?_, ?_, by have := h.lt; omega⟩
  · rw [filter_take_succ _ _ _ hj, hq, h.pre]
    simp
  · have := congrArg (List.drop 1) h.post
    rwa [List.drop_drop, List.drop_drop] at this
theorem Mid.keep {id : Int} {ms ls : List VMsg} {i j : Nat} (h : Mid id ms ls i j) (hj : j < ms.length) (hq : notTo id ms[j] = true) : Mid id ms (ls.set i ms[j]) (i + 1) (j + 1) := by
  have hi : i < ls.length := by have := h.lt; have := h.len; omega
  refine ⟨by rw [List.length_set, h.len], fun p hp => (List.mem_or_eq_of_mem_set hp).elim (h.sub p) (fun e => e ▸ List.getElem_mem hj), ?_, ?_, by have := h.lt; omega⟩
  · rw [filter_take_succ _ _ _ hj, hq, ← h.pre, List.take_succ_eq_append_getElem (by rw [List.length_set]; exact hi), List.getElem_set_self, List.take_set_of_le (Nat.le_refl _)]
    simp
  · have := congrArg (List.drop 1) h.post
    rw [List.drop_drop, List.drop_drop] at this
    rw [List.drop_set_of_lt (by have := h.lt; omega)]
    exact this

set_option maxRecDepth 100000 in
set_option maxHeartbeats 8000000 in
theorem sl_deleteFunc {w : World} {base : Nat} {lv : Value} {ms : List VMsg} (h : MRow w base lv ms) (B : Nat) (id : Int) (hB : B < w.heap.size) (hBb : lv.ownBlock ≠ some B) (hid : w.cell? ⟨B, 0, none⟩ = some (.int .i64 id)) (hn : ms.length ≤ 1000) :
    Calls Try.prog 32 #[lv, .func (.func 33) #[] #[.pointer (some ⟨B, 0, none⟩)]] w fun e w' => RetDelF w base lv ms id e w' := by
  have hidx := sl_indexFuncM h B id hB hid hn
  obtain ⟨la, lc, rfl⟩ := h.slice
  go_enter Try.func32, Try.ntmps32
  go_wp2_with fail
  refine hidx.mono ?_
  rintro e w1 ⟨hb1, hcase⟩
  replace h := h.below hb1
  have hB1 := Nat.lt_of_lt_of_le hB hb1.size
  have hid1 := (hb1.cell (p := ⟨B, 0, none⟩) hB).trans hid
  have hkb := Keeps.mono (F := []) (G := (Value.slice la ms.length lc).ownBlock.toList) (Keeps.of_below hb1) (by simp)
  clear hidx hid
  rcases hcase with ⟨k, hk, rfl, hkf, hkt⟩ | ⟨rfl, hall⟩
  case inr =>
    have HF : Hid (ms.filter (notTo id) = ms) := Lib.hid (List.filter_eq_self.2 hall)
    clear hall
    go_wp2_with fail
    go_ret
    exact ⟨_, rfl, by rw [HF.out]; exact h, hkb, fun g hg => hg⟩
  obtain ⟨g, cap, hv, hgb, hglt, hcap⟩ := ownsRow_shape h.row (by omega)
  simp only [Value.slice.injEq, true_and] at hv
  obtain ⟨rfl, rfl⟩ := hv
  have hgB : g ≠ B := fun e => hBb (by rw [← e]; rfl)
  have hcm := h.cap
  have HS : Hid (MRow w1 base (.slice (some ⟨g, 0, none⟩) ms.length lc) ms ∧ Mid id ms ms k (k + 1)) := Lib.hid ⟨h, rfl, fun p hp => hp, by
    rw [filter_take_succ _ _ _ hk, hkf, List.filter_eq_self.2 hkt]
    simp, rfl, by omega⟩
  have HKB := Lib.hid hkb
  have HID1 := Lib.hid hid1
  clear h hkf hkt hkb hid1 hb1
  have hkn : ((k : Int) == -1) = false := beq_eq_false_iff_ne.2 (by omega)
  go_wp2_with fail
  go_loopw [5, 6] (fun i j wr => ∃ ii jj : Nat, ∃ ls, i = .int .i64 ii ∧ j = .int .i64 jj ∧ jj ≤ ms.length ∧ ii < jj ∧ Hid (MRow wr base (.slice (some ⟨g, 0, none⟩) ms.length lc) ls ∧ Mid id ms ls ii jj) ∧ Keeps [g] w1 wr) (fun _ j _ => ms.length - (intOf j).toNat)
  case atStart => exact ⟨k, k + 1, ms, rfl, by go_num, by omega, by omega, HS, Keeps.refl _ _⟩
  case round =>
    obtain ⟨ii, jj, ls, rfl, rfl, hj, hij, HL, hk1⟩ := hrel
    have hll := HL.out.2.len
    by_cases hlt : jj < ms.length
    · have hM := HL.out.1
      have hjl : jj < ls.length := by omega
      obtain ⟨g', hg', hgb', hglt', hcc⟩ := hM.cells jj hjl
      simp only [Option.some.injEq, Addr.mk.injEq, and_true] at hg'
      subst hg'
      have hent := hM.ents ls[jj] (List.getElem_mem hjl)
      have hBr := Nat.lt_of_lt_of_le hB1 hk1.size
      have hir := (hk1.cell (p := ⟨B, 0, none⟩) hB1 (by simp only [List.mem_singleton]; exact fun e => hgB e.symm)).trans HID1.out
      have hat := HL.out.2.at hlt hjl
      obtain ⟨p, hp⟩ : ∃ p, ls[jj] = p := ⟨_, rfl⟩
      rw [hp] at hent hcc hat
      have HG : Hid (p = ms[jj]) := Lib.hid hat
      have HP : Hid (p ∈ ls) := Lib.hid (hp ▸ List.getElem_mem hjl)
      clear hp hM hat
      obtain ⟨pv, m⟩ := p
      dsimp only at hent
      obtain ⟨pa, pc, rfl⟩ := hent.r.slice
      have r0 := hcc 0 _ rfl
      have r1 := hcc 1 _ rfl
      have r2 := hcc 2 _ rfl
      have r3 := hcc 3 _ rfl
      have r4 := hcc 4 _ rfl
      have r5 := hcc 5 _ rfl
      have r6 := hcc 6 _ rfl
      have r7 := hcc 7 _ rfl
      have r8 := hcc 8 _ rfl
      have r9 := hcc 9 _ rfl
      have r10 := hcc 10 _ rfl
      have r11 := hcc 11 _ rfl
      have r12 := hcc 12 _ rfl
      dsimp only at r0 r1 r2 r3 r4 r5 r6 r7 r8 r9 r10 r11 r12
      rw [Nat.add_zero] at r0
      clear hcc
      have hX := msgS_box wr (.slice pa m.es.length pc) m 30
      have hbx := (Below.refl wr.heap.size wr).alloc (Nat.le_refl _) (.cells #[.int .i64 m.k, .int .i64 m.f, .int .i64 m.o, .int .i64 m.t, .int .i64 m.i, .int .i64 m.l, .int .i64 m.c, .bool m.y, .slice pa m.es.length pc, .int .i64 m.s.i, .int .i64 m.s.t, .string m.s.c, .string m.s.d] 30)
      have hcall := clear_in1 _ pa m.es.length pc m B id (Nat.lt_of_lt_of_le hBr hbx.size) ((hbx.cell (p := ⟨B, 0, none⟩) hBr).trans hir)
      have hM1 := HL.out.1.below hbx
      have hk2 := hk1.trans (Keeps.of_below (F := []) hbx) (by simp)
      go_upto_region 8 with fail
      clear hbx r0 r1 r2 r3 r4 r5 r6 r7 r8 r9 r10 r11 r12 hir
      generalize wr.alloc _ = w2 at *
      generalize wr.heap.size = X at *
      have c0 := hX.c0
      have c1 := hX.c1
      have c2 := hX.c2
      have c3 := hX.c3
      have c4 := hX.c4
      have c5 := hX.c5
      have c6 := hX.c6
      have c7 := hX.c7
      have c8 := hX.c8
      have c9 := hX.c9
      have c10 := hX.c10
      have c11 := hX.c11
      have c12 := hX.c12
      cases hq : (m.o == id) with
      | true =>
        rw [hq] at hcall
        have H1 : Hid (Mid id ms ls ii (jj + 1)) := Lib.hid (HL.out.2.skip hlt (by rw [← HG.out]; unfold notTo; rw [hq]; rfl))
        clear hq HG
        go_wp2_with fail
        refine hcall.mono ?_
        rintro e w3 ⟨rfl, hb3⟩
        replace hM1 := hM1.below hb3
        replace hk2 := hk2.trans (Keeps.of_below (F := []) hb3) (by simp)
        clear hb3 hX c0 c1 c2 c3 c4 c5 c6 c7 c8 c9 c10 c11 c12
        go_wp2_with fail
        go_roundw
        case rel => exact ⟨ii, jj + 1, ls, rfl, by go_num, by omega, by omega, Lib.hid ⟨hM1, H1.out⟩, hk2⟩
        case measure => simp [intOf]; omega
      | false =>
        rw [hq] at hcall
        have H1 : Hid (Mid id ms (ls.set ii ms[jj]) (ii + 1) (jj + 1)) := Lib.hid (HL.out.2.keep hlt (by rw [← HG.out]; unfold notTo; rw [hq]; rfl))
        rw [← HG.out] at H1
        clear hq HG
        go_wp2_with fail
        refine hcall.mono ?_
        rintro e w3 ⟨rfl, hb3⟩
        replace hM1 := hM1.below hb3
        replace hk2 := hk2.trans (Keeps.of_below (F := []) hb3) (by simp)
        replace hX := hX.below hb3
        clear hb3 c0 c1 c2 c3 c4 c5 c6 c7 c8 c9 c10 c11 c12
        have hil : ii < ls.length := by omega
        obtain ⟨g', hg', hgb', hglt', hcc⟩ := hM1.cells ii hil
        simp only [Option.some.injEq, Addr.mk.injEq, and_true] at hg'
        subst hg'
        have rf : ∀ j, w3.frozen? ⟨g, j, none⟩ = false := by
          rcases hM1.row.2 with ⟨hx, _⟩ | ⟨g', cap', cur, hv, _, hg, _⟩
          · cases hx
          simp only [Value.slice.injEq, Option.some.injEq, Addr.mk.injEq, and_true] at hv
          obtain ⟨rfl, -⟩ := hv
          intro j
          simp [World.frozen?, hg]
        generalize ls[ii] = q at hcc
        obtain ⟨ov, om⟩ := q
        have r0 := hcc 0 _ rfl
        have r1 := hcc 1 _ rfl
        have r2 := hcc 2 _ rfl
        have r3 := hcc 3 _ rfl
        have r4 := hcc 4 _ rfl
        have r5 := hcc 5 _ rfl
        have r6 := hcc 6 _ rfl
        have r7 := hcc 7 _ rfl
        have r8 := hcc 8 _ rfl
        have r9 := hcc 9 _ rfl
        have r10 := hcc 10 _ rfl
        have r11 := hcc 11 _ rfl
        have r12 := hcc 12 _ rfl
        dsimp only at r0 r1 r2 r3 r4 r5 r6 r7 r8 r9 r10 r11 r12
        rw [Nat.add_zero] at r0
        have c0 := hX.c0
        have c1 := hX.c1
        have c2 := hX.c2
        have c3 := hX.c3
        have c4 := hX.c4
        have c5 := hX.c5
        have c6 := hX.c6
        have c7 := hX.c7
        have c8 := hX.c8
        have c9 := hX.c9
        have c10 := hX.c10
        have c11 := hX.c11
        have c12 := hX.c12
        obtain ⟨hset, hks⟩ := hM1.set ii hil _ _ HP.out
        have HSET := Lib.hid hset
        have HK2 := Lib.hid (hk2.trans hks (fun x hx => .inl hx))
        clear hM1 hk2 hX hset hks hcc hcall
        go_wp2_with fail
        go_roundw
        case rel => exact ⟨ii + 1, jj + 1, _, by go_num, by go_num, by omega, by omega, Lib.hid ⟨HSET.out, H1.out⟩, HK2.out⟩
        case measure => simp [intOf]; omega
    · have hjn : jj = ms.length := by omega
      subst hjn
      obtain ⟨i, hi, hi'⟩ := Option.map_eq_some_iff.1 info_msg
      simp only [Prod.mk.injEq] at hi'
      obtain ⟨hz0, -, -⟩ := hi'
      have hM := HL.out.1
      have hfl : ls.take ii = ms.filter (notTo id) := by rw [HL.out.2.pre, List.take_length]
      obtain ⟨cur, hcur, hcs⟩ : ∃ cur, wr.heap[g]? = some (.cells cur 30) ∧ cur.size = lc * 13 := by
        rcases hM.row.2 with ⟨hx, _⟩ | ⟨g', cap', cur, hv, _, hg, _, _, hcs, _⟩
        · cases hx
        simp only [Value.slice.injEq, Option.some.injEq, Addr.mk.injEq, and_true] at hv
        obtain ⟨rfl, -, rfl⟩ := hv
        exact ⟨cur, hg, hcs⟩
      have hMp := hM.front ii (by omega)
      rw [hfl] at hMp
      have hlf : (ms.filter (notTo id)).length = ii := by rw [← hfl, List.length_take]; omega
      obtain ⟨cur', hcl, hcs', hct⟩ := run_clear_recs (P := Try.prog) wr 42 30 (.agg #[.int .i64 0, .int .i64 0, .int .i64 0, .int .i64 0, .int .i64 0, .int .i64 0, .int .i64 0, .bool false, .slice none 0 0, .int .i64 0, .int .i64 0, .string .empty, .string .empty]) 13 Try.underlying42 (fun W => by simp [zeroValue, typeInfo, hi, hz0]) rfl (by decide) g (ii * 13) (ms.length - ii) (lc - ii) (by omega) cur hcur (by rw [hcs]; omega)
      obtain ⟨hM3, hk3⟩ := MRow.setRow hMp cur cur' hcur hcs' (by rw [hlf]; exact hct)
      have HK := Lib.hid (hk1.trans hk3 (fun x hx => .inl hx))
      have HM3 := Lib.hid hM3
      have s4 : lc ≠ ii := by omega
      clear hM hfl hMp hM3 hk3 hcur hcs hcs' hct hi hz0 HL HS
      go_wp2_with fail
      go_ret
      exact ⟨_, rfl, HM3.out, HKB.out.trans HK.out (fun x hx => .inl hx), fun g hg => hg⟩

def RetClear (w : World) (b : Nat) (lv : Value) (ms : List VMsg) (id : Int) (e : Ending) (w' : World) : Prop :=
  ∃ lv', NetS w' b lv' (ms.filter (notTo id)) ∧ Keeps (b :: lv.ownBlock.toList) w w' ∧ (∀ g, lv'.ownBlock = some g → lv.ownBlock = some g) ∧ e = .returned (.int .i64 ((ms.length : Int) - ((ms.filter (notTo id)).length : Nat)))

set_option maxRecDepth 100000 in
set_option maxHeartbeats 4000000 in
theorem net_clear {w : World} {b : Nat} {lv : Value} {ms : List VMsg} (h : NetS w b lv ms) (id : Int) (hn : ms.length ≤ 1000) :
    Calls Try.prog 17 #[.pointer (some ⟨b, 0, none⟩), .int .i64 id] w fun e w' => RetClear w b lv ms id e w' := by
  obtain ⟨la, lc, rfl⟩ := h.m.slice
  have hb := (Below.refl w.heap.size w).alloc (Nat.le_refl _) (.cells #[.int .i64 id] 3)
  have hB : w.heap.size < (w.alloc (.cells #[.int .i64 id] 3)).heap.size := by simp
  have hid : (w.alloc (.cells #[.int .i64 id] 3)).cell? ⟨w.heap.size, 0, none⟩ = some (.int .i64 id) := World.cell?_alloc_new _ _ _ _
  have hen := h.ends
  have hBo : (Value.slice la ms.length lc).ownBlock ≠ some w.heap.size := fun e => by have := hen.2.1 _ e; omega
  have hbl := h.lt
  replace h := h.below hb
  have hkb := Keeps.mono (F := []) (G := b :: (Value.slice la ms.length lc).ownBlock.toList) (Keeps.of_below hb) (by simp)
  go_enter Try.func17, Try.ntmps17
  go_wp2_with fail
  generalize w.alloc _ = w1 at *
  generalize w.heap.size = B at *
  refine (net_len h).mono ?_
  rintro e w1' ⟨rfl, rfl⟩
  rename World => w1
  have c0 := h.c0
  have HD := Lib.hid (sl_deleteFunc h.m B id hB hBo hid hn)
  clear hb hid
  go_wp2_with fail
  refine HD.out.mono ?_
  rintro e w2 ⟨lv', rfl, hM, hk, hg⟩
  have hbr : b ∉ (Value.slice la ms.length lc).ownBlock.toList := fun hx => by
    have := (World.ownsRow.lt h.m.row b (by simpa using hx)).1
    omega
  obtain ⟨xa, xc, rfl⟩ := hM.slice
  have x0 := (hk.cell (p := ⟨b, 0, none⟩) h.lt hbr).trans c0
  have xf := (hk.frozen (p := ⟨b, 0, none⟩) h.lt hbr).trans (h.fr 0)
  have hfr : ∀ j, w2.frozen? ⟨b, j, none⟩ = false := fun j => (hk.frozen (p := ⟨b, j, none⟩) h.lt hbr).trans (h.fr j)
  have hlt := Nat.lt_of_lt_of_le h.lt hk.size
  have hk1 := fun u => (Keeps.refl [b] w2).setCell (p := ⟨b, 0, none⟩) (.inl (by simp)) u
  have hN2 : NetS (w2.setCell ⟨b, 0, none⟩ (.slice xa (ms.filter (notTo id)).length xc)) b (.slice xa (ms.filter (notTo id)).length xc) (ms.filter (notTo id)) :=
    ⟨Nat.lt_of_lt_of_le hlt (hk1 _).size, World.cell?_setCell_same _ _ _ x0, fun j => by rw [World.frozen?_setCell]; exact hfr j, hM.keeps (hk1 _) (by simp)⟩
  have HK := Lib.hid (hkb.trans ((hk.mono (fun x hx _ => List.mem_cons_of_mem _ hx)).trans (hk1 (.slice xa (ms.filter (notTo id)).length xc)) (by simp)) (fun x hx => .inl hx) : Keeps (b :: (Value.slice la ms.length lc).ownBlock.toList) w _)
  have hG := Lib.hid hg
  have hfle : (ms.filter (notTo id)).length ≤ ms.length := List.length_filter_le _ _
  have HN2 := Lib.hid hN2
  have HRR : Hid (∀ u e, (e = Ending.returned (.int .i64 ((ms.length : Int) - ((ms.filter (notTo id)).length : Nat)))) → NetS u b (.slice xa (ms.filter (notTo id)).length xc) (ms.filter (notTo id)) → Keeps (b :: (Value.slice la ms.length lc).ownBlock.toList) w u → RetClear w b (.slice la ms.length lc) ms id e u) := Lib.hid (fun u e he h1 h2 => ⟨_, h1, h2, hG.out, he⟩)
  generalize ms.filter (notTo id) = fs at *
  clear hM hk hk1 hfr hg h c0 HD hkb
  go_wp2_with fail
  generalize w2.setCell _ _ = w3 at *
  refine (net_len HN2.out).mono ?_
  rintro e w3' ⟨rfl, rfl⟩
  clear hN2
  go_wp2_with fail
  go_ret
  exact HRR.out _ _ (by go_num) HN2.out HK.out
end Go.Proofs.Ytcogmohepcifiaa
