/-
  No claim by itself: who belongs: slices.Index, slices.Contains, conf.Has, conf.May, and what the document says of them. | slices.Clone of integers: a row of its own with the same integers. | conf.Decode; logs: Conf. | logs: ConfAt as of the last entry, Conf. | the first lines of the laws on logs return true. | plain facts on numbers as bytes, with no program in sight. | the contracts of num.Put, num.Get, num.PutText, num.GetText, num.Four, of the document's Put, Get, PutText, GetText, and of Cut: each answers what the plain function answers. Conditions: the slice reads as bytes; what is written to is the call's own. | the contracts of num.Get and of the document's Get. Condition: the slice reads as bytes. | the contracts of num.PutText, num.GetText, num.Four, of the document's Put, PutText, GetText, and of Cut. Conditions: the slice reads as bytes; what is written to is the call's own. No condition.
-/
import Derived.Test.YtikoafjnopkoaaaRows
import Derived.Test.YtikoafjnopkoaaaP1
import Derived.WalkKit
import Derived.Deep.QuietTactic
import Derived.WalkSmall
import Derived.Lib.BufferMore
import Derived.Test.YtikoafjnopkoaaaP4
import Derived.Deep.DeepCutAuto
import Derived.Deep.Cut
import Derived.Laws.ShiftsVar
import Derived.Laws.DeepNot64
namespace Go.Proofs.Ytikoafjnopkoaaa
open Go.ChangeShapes Go.WideShapes Go.ChangeAt Go.RowKit

/-- A slice value that reads as int64 (or int). -/
def RI (w : World) (v : Value) (l : List Int) : Prop := Reads w v (l.map (Value.int .i64))

theorem RI.drewN {w : World} {v : Value} {l : List Int} (n : Nat) (h : RI w v l) : RI (w.drewN n) v l := Reads.below h (below_drewN (Below.refl _ _) n) rfl

theorem RI.open_ {w : World} {v : Value} {l : List Int} (h : RI w v l) : ∃ a cap, v = .slice a l.length cap ∧ l.length ≤ cap ∧ cap ≤ 9223372036854775807 ∧
    Hid (∀ k (h : k < l.length), ∃ b off, a = some ⟨b, off, none⟩ ∧ b < w.heap.size ∧ w.cell? ⟨b, off + k, none⟩ = some (.int .i64 l[k])) := by
  obtain ⟨a, cap, hv, h1, h2, hc⟩ := h
  rw [List.length_map] at hv h1
  refine ⟨a, cap, hv, h1, h2, Lib.hid fun k hk => ?_⟩
  obtain ⟨b, off, rfl, hcell⟩ := hc (by intro e; rw [List.map_eq_nil_iff] at e; subst e; simp at hk)
  have := hcell k (by rw [List.length_map]; exact hk)
  rw [List.getElem_map] at this
  exact ⟨b, off, rfl, World.block_lt_of_cell? w _ this, this⟩

theorem mem_take_succ {l : List Int} {k : Nat} {x : Int} (hk : k < l.length) (h : x ∉ l.take k) (hx : x ≠ l[k]) : x ∉ l.take (k + 1) := by
  have : l.take (k + 1) = l.take k ++ [l[k]] := by simp
  rw [this, List.mem_append, List.mem_singleton]
  rintro (h1 | h1)
  · exact h h1
  · exact hx h1

theorem ret_dec {p q : Prop} [Decidable p] [Decidable q] (h : p ↔ q) : Ending.returned (.bool (decide p)) = Ending.returned (.bool (decide q)) := by
  rw [decide_eq_decide.2 h]

def okAt (l : List Int) (i : Nat) : Bool := decide (1 ≤ l.getD i 0) && decide (l.getD i 0 ≤ 7) && (i == 0 || decide (l.getD (i - 1) 0 < l.getD i 0))
def mayC (l : List Int) : Bool := (List.range l.length).all (okAt l) && decide (0 < l.length)

theorem mayC_no {l : List Int} {k : Nat} (hk : k < l.length) (h : okAt l k = false) : mayC l = false := by
  unfold mayC
  rw [Bool.and_eq_false_iff]
  left
  rw [List.all_eq_false]
  exact ⟨k, List.mem_range.2 hk, by simp [h]⟩
theorem mayC_all {l : List Int} (h : ∀ j, j < l.length → okAt l j = true) : mayC l = decide (0 < l.length) := by
  unfold mayC
  rw [List.all_eq_true.2 (fun j hj => h j (List.mem_range.1 hj)), Bool.true_and]

theorem conf_may (v : Value) (l : List Int) (w : World) (h : RI w v l) :
    Calls Try.prog 45 #[v] w fun e w' => e = .returned (.bool (mayC l)) ∧ w' = w := by
  obtain ⟨a, cap, rfl, hcap, hcm, hc⟩ := h.open_
  go_enter Try.func45, Try.ntmps45
  go_wp2_with fail
  go_loop [7] (fun i => ∃ k : Nat, k ≤ l.length ∧ i = .int .i64 k ∧ Hid (∀ j, j < k → okAt l j = true)) (fun i => l.length - (intOf i).toNat)
  case atStart => exact ⟨0, by omega, rfl, Lib.hid (by intro j hj; omega)⟩
  case round =>
    obtain ⟨k, hk, rfl, hx⟩ := hrel
    by_cases hlt : k < l.length
    · obtain ⟨b, off, rfl, hbl, hcj⟩ := hc.out k hlt
      have hd : Hid (l.getD k 0 = l[k]) := Lib.hid (by simp [List.getD, hlt])
      have hno := fun h => mayC_no hlt h
      have hso : Hid (okAt l k = true → ∀ j, j < k + 1 → okAt l j = true) := Lib.hid fun h j hj => by
        rcases Nat.lt_succ_iff_lt_or_eq.1 hj with h1 | h1
        · exact hx.out j h1
        · rw [h1]; exact h
      by_cases hk0 : k = 0
      · subst hk0
        have hok : Hid (okAt l 0 = (decide (1 ≤ l[0]) && decide (l[0] ≤ 7))) := Lib.hid (by unfold okAt; rw [hd.out]; simp)
        clear hx hd
        rw [Nat.add_zero] at hcj
        generalize l[0]'hlt = x at hcj hok
        by_cases h1 : x < 1
        · have hm := Lib.hid (hno (by rw [hok.out]; simp; omega))
          clear hno
          go_wp2_with fail
          go_ret
          exact ⟨by rw [hm.out]; rfl, rfl⟩
        · by_cases h2 : 7 < x
          · have hm := Lib.hid (hno (by rw [hok.out]; simp; omega))
            clear hno
            go_wp2_with fail
            go_ret
            exact ⟨by rw [hm.out]; rfl, rfl⟩
          · have hs := Lib.hid (hso.out (by rw [hok.out]; simp; omega))
            clear hno hso
            go_wp2_with fail
            go_round
            case rel => exact ⟨1, by omega, by go_num, hs⟩
            case measure => simp [intOf]; omega
      · obtain ⟨b', off', hbo, _, hcj'⟩ := hc.out (k - 1) (by omega)
        simp only [Option.some.injEq, Addr.mk.injEq] at hbo
        obtain ⟨rfl, rfl, -⟩ := hbo
        have hd' : Hid (l.getD (k - 1) 0 = l[k - 1]'(by omega)) := Lib.hid (by simp [List.getD, show k - 1 < l.length by omega])
        have hok : Hid (okAt l k = (decide (1 ≤ l[k]) && decide (l[k] ≤ 7) && decide (l[k - 1]'(by omega) < l[k]))) := Lib.hid (by unfold okAt; rw [hd.out, hd'.out, show (k == 0) = false from beq_eq_false_iff_ne.2 hk0, Bool.false_or])
        clear hx hd hd'
        generalize l[k]'hlt = x at hcj hok
        generalize l[k - 1]'(by omega) = y at hcj' hok
        obtain ⟨m, rfl⟩ : ∃ m, k = m + 1 := ⟨k - 1, by omega⟩
        rw [show m + 1 - 1 = m from rfl] at hcj'
        by_cases h1 : x < 1
        · have hm := Lib.hid (hno (by rw [hok.out]; simp; omega))
          clear hno
          go_wp2_with fail
          go_ret
          exact ⟨by rw [hm.out]; rfl, rfl⟩
        · by_cases h2 : 7 < x
          · have hm := Lib.hid (hno (by rw [hok.out]; simp; omega))
            clear hno
            go_wp2_with fail
            go_ret
            exact ⟨by rw [hm.out]; rfl, rfl⟩
          · by_cases h3 : x ≤ y
            · have hm := Lib.hid (hno (by rw [hok.out]; simp; omega))
              clear hno
              go_wp2_with fail
              go_ret
              exact ⟨by rw [hm.out]; rfl, rfl⟩
            · have hs := Lib.hid (hso.out (by rw [hok.out]; simp; omega))
              clear hno hso
              go_wp2_with fail
              go_round
              case rel => exact ⟨m + 1 + 1, by omega, by go_num, hs⟩
              case measure => simp [intOf]; omega
    · have hkl : k = l.length := by omega
      subst hkl
      have hm := Lib.hid (mayC_all hx.out)
      go_wp2_with fail
      go_ret
      exact ⟨by rw [hm.out]; first | rfl | simp, rfl⟩

/-- How many of them say yes. -/
def cnt (yes : List Int) (l : List Int) : Nat := l.countP fun x => decide (x ∈ yes)
theorem cnt_le (yes l : List Int) : cnt yes l ≤ l.length := List.countP_le_length
theorem cnt_snoc (yes l : List Int) (k : Nat) (h : k < l.length) : cnt yes (l.take (k + 1)) = cnt yes (l.take k) + if l[k] ∈ yes then 1 else 0 := by
  have : l.take (k + 1) = l.take k ++ [l[k]] := by simp
  rw [this]
  unfold cnt
  rw [List.countP_append, List.countP_singleton]
  simp only [decide_eq_true_eq]
def majC (l yes : List Int) : Bool := mayC l && decide (2 * cnt yes l > l.length)

end Go.Proofs.Ytikoafjnopkoaaa
namespace Go.Proofs.Ytikoafjnopkoaaa
open Go.ChangeShapes Go.WideShapes Go.ChangeAt Go.RowKit

theorem info_i64 : (Try.prog.info? 3).map (fun i => (i.zero, i.size, i.bytes)) = some (some (.int .i64 0), 1, 8) := by kernel_rfl

/-- A row of integers of its own. -/
def RowI (w : World) (v : Value) (l : List Int) : Prop := Row w 3 v (l.map (Value.int .i64))
theorem RowI.ri {w : World} {v : Value} {l : List Int} (h : RowI w v l) : RI w v l := Row.reads h
theorem RowI.keeps {w w' : World} {v : Value} {l : List Int} {F : List Nat} (h : RowI w v l) (hk : Keeps F w w') (hF : ∀ g, v.ownBlock = some g → g ∉ F) : RowI w' v l := Row.keeps h hk hF
theorem RowI.nil (w : World) : RowI w (.slice none 0 0) [] := Row.nil w _
theorem ints_oneCell (l : List Int) : ∀ u ∈ l.map (Value.int .i64), u.oneCell' = true := by
  intro u hu
  obtain ⟨_, _, rfl⟩ := List.mem_map.1 hu
  rfl

/-- What a call yields: a new row of integers. -/
def RetRow (w : World) (l : List Int) (e : Ending) (w' : World) : Prop :=
  ∃ v, e = .returned v ∧ RowI w' v l ∧ Below w.heap.size w w' ∧ ∀ k, v.ownBlock = some k → w.heap.size ≤ k

theorem Row.empty (w : World) (e : TypeId) : Row (w.alloc (.cells #[] e)) e (.slice (some ⟨w.heap.size, 0, none⟩) 0 0) [] := by
  refine ⟨rfl, .inr ⟨w.heap.size, 0, #[], rfl, Nat.zero_le _, ?_, Nat.le_refl _, by decide, rfl, rfl⟩⟩
  exact heap_alloc_new w _

end Go.Proofs.Ytikoafjnopkoaaa
namespace Go.Proofs.Ytikoafjnopkoaaa
open Go.ChangeShapes Go.WideShapes Go.ChangeAt Go.RowKit

/-- Servers, as they are written. -/
def decC (l : List UInt8) : List Int := l.map fun c => (c.toNat : Int) - 48
theorem decC_snoc (s : ByteArray) (k : Nat) (h : k < s.size) : decC (s.data.toList.take (k + 1)) = decC (s.data.toList.take k) ++ [((s[k]).toNat : Int) - 48] := by
  have : s.data.toList.take (k + 1) = s.data.toList.take k ++ [s[k]] := by
    rw [List.take_succ_eq_append_getElem (by rw [size_data]; exact h)]; rfl
  rw [this]
  simp [decC]
def confD (s : ByteArray) : List Int × Bool := if mayC (decC s.data.toList) = true then (decC s.data.toList, true) else ([], false)
def RetConf (w : World) (s : ByteArray) (e : Ending) (w' : World) : Prop :=
  ∃ v, e = .returned (.tuple #[v, .bool (confD s).2]) ∧ RI w' v (confD s).1 ∧ Below w.heap.size w w'

set_option maxHeartbeats 1000000 in
theorem conf_decode (s : ByteArray) (w : World) (hs : s.size ≤ 1000000000) :
    Calls Try.prog 43 #[.string s] w fun e w' => RetConf w s e w' := by
  go_enter Try.func43, Try.ntmps43
  go_wp2_with fail
  go_loopw [4, 8] (fun v i wr => ∃ k : Nat, k ≤ s.size ∧ i = .int .i64 k ∧ RowI wr v (decC (s.data.toList.take k)) ∧ (∀ g, v.ownBlock = some g → w.heap.size ≤ g) ∧ Below w.heap.size w wr) (fun _ i _ => s.size - (intOf i).toNat)
  case atStart => exact ⟨0, by omega, rfl, RowI.nil _, (fun g h => by cases h), Below.refl _ _⟩
  case round =>
    obtain ⟨k, hk, rfl, hr, hg, hbel⟩ := hrel
    have hll : (decC (s.data.toList.take k)).length ≤ 1000000000 := by
      unfold decC
      rw [List.length_map, List.length_take]
      omega
    by_cases hlt : k < s.size
    · have HU := Lib.hid (decC_snoc s k hlt)
      have hc8 := s[k].toNat_lt
      have HG := Lib.hid hg
      have hb := fun x => (Below.refl wr.heap.size wr).alloc (Nat.le_refl _) (.cells #[Value.int .i64 x] 3)
      have hown : ∀ x, Row (wr.alloc (.cells #[Value.int .i64 x] 3)) 3 _ ((decC (s.data.toList.take k)).map (Value.int .i64)) := fun x => RowI.keeps hr (Keeps.of_below (F := []) (hb x)) (by simp)
      have hsrc := fun x : Int => Reads.fresh wr ([x].map (Value.int .i64)) 3 (0, 0) #[.int .i64 x] 1 rfl rfl (by simp)
      have HB := Lib.hid hb
      have HOWN := Lib.hid hown
      have HSRC := Lib.hid hsrc
      clear hr hg hb hown hsrc
      generalize decC (s.data.toList.take k) = Y at *
      go_wp2_with (at_builtin; refine wpList_append_row 62 3 (.int .i64 0) 8 Try.underlying62 info_i64 rfl rfl _ _ rfl (HOWN.out (((s[k]).toNat : Int) - 48)) (HSRC.out (((s[k]).toNat : Int) - 48)) (ints_oneCell [((s[k]).toNat : Int) - 48]) rfl rfl (by simp [maxLen]; omega) (by simp; omega) ?_)
      intro v2 w2 ho hg2 hk2
      have hbz : Below w.heap.size w w2 := (hbel.alloc hbel.size _).grown hg2 (by have := hbel.size; simp; omega) HG.out
      have hoo : RowI w2 v2 (Y ++ [((s[k]).toNat : Int) - 48]) := by unfold RowI; rw [List.map_append]; exact ho
      have hgz : ∀ g, v2.ownBlock = some g → w.heap.size ≤ g := fun g h => (hk2 g h).elim (HG.out g) (fun h => by have := hbel.size; omega)
      clear ho hg2 hk2
      go_wp2_with fail
      go_roundw
      case rel => exact ⟨k + 1, by omega, by go_num, by rw [HU.out]; exact hoo, hgz, hbz⟩
      case measure => simp [intOf]; omega
    · obtain rfl : k = s.size := by omega
      have hri := hr.ri
      rw [List.take_of_length_le (by rw [size_data]; omega)] at hri hr hll
      obtain ⟨a4, n4, c4, rfl⟩ := Row.slice hr
      have HC : Hid (confD s = if mayC (decC s.data.toList) = true then (decC s.data.toList, true) else ([], false)) := Lib.hid rfl
      clear hr hg
      generalize decC s.data.toList = Y at *
      go_wp2_with fail
      refine (conf_may _ Y _ hri).mono ?_
      rintro e w' ⟨rfl, rfl⟩
      cases hm : mayC Y with
      | true =>
        have H1 : Hid (confD s = (Y, true)) := Lib.hid (by rw [HC.out, if_pos hm])
        clear hm HC
        go_wp2_with fail
        go_ret2
        exact ⟨_, by rw [H1.out]; rfl, by rw [H1.out]; exact hri, hbel⟩
      | false =>
        have H1 : Hid (confD s = ([], false)) := Lib.hid (by rw [HC.out, if_neg (by rw [hm]; decide)])
        clear hm HC
        go_wp2_with fail
        go_ret2
        exact ⟨_, by rw [H1.out]; rfl, by rw [H1.out]; exact (RowI.nil _).ri, hbel⟩
end Go.Proofs.Ytikoafjnopkoaaa
namespace Go.Proofs.Ytikoafjnopkoaaa
open Go.ChangeShapes Go.WideShapes Go.ChangeAt Go.RowKit

def isConf (e : Ent) : Bool := (confD e.d).2 && (e.k == 3)
/-- The last configuration of the first so many entries; else the snapshot's; and where it stands. -/
def scanC (s : Snp) (es : List Ent) : Nat → List Int × Int
  | 0 => if (confD s.c).2 = true then ((confD s.c).1, s.i) else ([], 0)
  | k + 1 => match es[k]? with
    | some e => if isConf e = true then ((confD e.d).1, s.i + 1 + k) else scanC s es k
    | none => scanC s es k
theorem scanC_yes {s : Snp} {es : List Ent} {k : Nat} (h : k < es.length) (hc : isConf es[k] = true) : scanC s es (k + 1) = ((confD es[k].d).1, s.i + 1 + k) := by
  rw [scanC, List.getElem?_eq_getElem h]
  simp only []
  rw [if_pos hc]
theorem scanC_no {s : Snp} {es : List Ent} {k : Nat} (h : k < es.length) (hc : isConf es[k] = false) : scanC s es (k + 1) = scanC s es k := by
  rw [scanC, List.getElem?_eq_getElem h]
  simp only []
  rw [if_neg (by rw [hc]; decide)]
def smallD (s : Snp) (es : List Ent) : Prop := s.c.size ≤ 1000000000 ∧ ∀ e ∈ es, e.d.size ≤ 1000000000
def RetConfAt (w : World) (r : List Int × Int) (e : Ending) (w' : World) : Prop :=
  ∃ v, e = .returned (.tuple #[v, .int .i64 r.2]) ∧ RI w' v r.1 ∧ Below w.heap.size w w'

/-- A new entry of noughts, made since a world. -/
def FreshE (w0 : World) (v : Value) (wx : World) : Prop := ∃ bb, v = .pointer (some ⟨bb, 0, none⟩) ∧ w0.heap.size ≤ bb ∧ bb < wx.heap.size ∧ wx.cell? ⟨bb, 0, none⟩ = some (.int .i64 0) ∧ wx.cell? ⟨bb, 1, none⟩ = some (.int .i64 0) ∧ wx.cell? ⟨bb, 2, none⟩ = some (.int .i64 0) ∧ wx.cell? ⟨bb, 3, none⟩ = some (.string .empty) ∧ ∀ j, wx.frozen? ⟨bb, j, none⟩ = false
theorem FreshE.below {w0 : World} {v : Value} {w1 w2 : World} (h : FreshE w0 v w1) (hb : Below w1.heap.size w1 w2) : FreshE w0 v w2 := by
  obtain ⟨bb, g1, g2, g3, g4, g5, g6, g7, g8⟩ := h
  exact ⟨bb, g1, g2, Nat.lt_of_lt_of_le g3 hb.size, (hb.cell (p := ⟨bb, 0, none⟩) g3).trans g4, (hb.cell (p := ⟨bb, 1, none⟩) g3).trans g5, (hb.cell (p := ⟨bb, 2, none⟩) g3).trans g6, (hb.cell (p := ⟨bb, 3, none⟩) g3).trans g7, fun j => (hb.frozen (p := ⟨bb, j, none⟩) g3).trans (g8 j)⟩
theorem freshE_alloc {w0 w : World} (T : TypeId) (h : w0.heap.size ≤ w.heap.size) : FreshE w0 (.pointer (some ⟨w.heap.size, 0, none⟩)) (w.alloc (.cells #[.int .i64 0, .int .i64 0, .int .i64 0, .string .empty] T)) :=
  ⟨_, rfl, h, by simp, World.cell?_alloc_new _ _ _ _, World.cell?_alloc_new _ _ _ _, World.cell?_alloc_new _ _ _ _, World.cell?_alloc_new _ _ _ _, fun j => World.frozen?_alloc_new _ _ _ _⟩

set_option maxRecDepth 100000 in
set_option maxHeartbeats 4000000 in
theorem log_confAt {w : World} {b : Nat} {s : Snp} {lv : Value} {es : List Ent} (h : LogS w b s lv es) (hB : LogB s es) (hD : smallD s es) :
    Calls Try.prog 40 #[logPtr b, .int .i64 (lastP s es)] w fun e w' => RetConfAt w (scanC s es es.length) e w' := by
  have hs1 := hB.1
  have hs2 := hB.2.1
  have hs3 := hB.2.2
  have hLast := log_last h hB
  have HS := Lib.hid h
  have HB := Lib.hid hB
  have HD := Lib.hid hD
  have hL : 0 ≤ lastP s es ∧ lastP s es ≤ 4611686018427388200 := by unfold lastP; omega
  have HL : Hid (lastP s es = s.i + (es.length : Nat)) := Lib.hid rfl
  have hblt := h.lt
  clear h hB hD
  generalize lastP s es = L at *
  have hmm : min L L = L := by omega
  unfold logPtr at *
  go_enter Try.func40, Try.ntmps40
  go_wp2_with fail
  refine hLast.mono ?_
  rintro e w' ⟨rfl, n, rfl⟩
  have hb1 : Below w.heap.size w (w.drewN n) := below_drewN' n
  generalize w.drewN n = w1 at *
  clear hLast
  go_wp2_with fail
  go_loopw [6] (fun x wr => ∃ j : Nat, j ≤ es.length ∧ x = .int .i64 (s.i + j) ∧ Hid (scanC s es es.length = scanC s es j) ∧ Below w.heap.size w wr) (fun x _ => (intOf x - s.i).toNat)
  case atStart => exact ⟨es.length, by omega, by rw [HL.out], Lib.hid rfl, hb1⟩
  case round =>
    obtain ⟨j, hj, rfl, HC, hbel⟩ := hrel
    have hS := HS.out.below hbel
    have hF := log_first hS HB.out
    clear hb1
    unfold logPtr at hF
    cases j with
    | zero =>
      have t0 : decide (s.i + 1 ≤ s.i + ((0 : Nat) : Int)) = false := decide_eq_false (by omega)
      have t1 : ¬ s.i + 1 ≤ s.i := by omega
      go_wp2_with fail
      refine hF.mono ?_
      rintro e w' ⟨rfl, rfl⟩
      have c2 := hS.c2
      have lb := hS.lt
      have HD2 : Hid (scanC s es es.length = if (confD s.c).2 = true then ((confD s.c).1, s.i) else ([], 0)) := HC
      clear HC
      go_wp2_with fail
      refine (conf_decode s.c _ HD.out.1).mono ?_
      rintro e w3 ⟨v3, rfl, hr3, hb3⟩
      have c0 := (hb3.cell (p := ⟨b, 0, none⟩) lb).trans hS.c0
      have hbz := hbel.trans (hb3.mono hbel.size)
      clear c2 hb3 hbel hF
      cases hc : (confD s.c).2 with
      | true =>
        have H1 : Hid (scanC s es es.length = ((confD s.c).1, s.i)) := Lib.hid (by rw [HD2.out, if_pos hc])
        clear hc HD2
        generalize confD s.c = cd at *
        have HR := Lib.hid hr3
        have hrq := fun n => RI.drewN n hr3
        have HRQ := Lib.hid hrq
        have hbq := fun n => below_drewN hbz n
        have HBQ := Lib.hid hbq
        clear hr3 hrq hbq hS
        go_wp2_with fail
        go_quiet (fail)
        go_wp2_with fail
        go_ret2
        exact ⟨_, by rw [H1.out]; rfl, by rw [H1.out]; exact HRQ.out _, HBQ.out _⟩
      | false =>
        have H1 : Hid (scanC s es es.length = ([], 0)) := Lib.hid (by rw [HD2.out, if_neg (by rw [hc]; decide)])
        clear hc HD2 hr3 hS
        go_wp2_with fail
        go_ret2
        exact ⟨_, by rw [H1.out]; rfl, by rw [H1.out]; exact (RowI.nil _).ri, hbz⟩
    | succ k =>
      have hkl : k < es.length := by omega
      have t0 : decide (s.i + 1 ≤ s.i + ((k + 1 : Nat) : Int)) = true := decide_eq_true (by omega)
      have lb := hS.lt
      obtain ⟨aL, cL, hlv⟩ := hS.r.slice
      have hSr := hS.r
      have c4 := hS.c4
      rw [hlv] at hSr c4
      obtain ⟨bL, oL, rfl, hbL, d0, d1, d2, d3⟩ := hSr.cells k hkl
      have HE := Lib.hid (HD.out.2 es[k] (List.getElem_mem hkl))
      have HY := Lib.hid (scanC_yes (s := s) hkl)
      have HN := Lib.hid (scanC_no (s := s) hkl)
      have q1 : IntKind.i64.wrap (s.i + ((k : Int) + 1) - (s.i + 1)) = (k : Int) := by rw [IntWalk.i64_in _ (by omega)]; omega
      have hSH := Lib.hid hS
      clear hlv hSr hS
      generalize es[k] = e at *
      obtain ⟨ei, et, ek, ed⟩ := e
      dsimp only at d0 d1 d2 d3 HE HY HN
      go_wp2_with fail
      refine hF.mono ?_
      rintro e w' ⟨rfl, rfl⟩
      go_upto_region 6 with fail
      rename World => wr
      go_cut [7] (fun x wx => ∃ bb, x = .pointer (some ⟨bb, 0, none⟩) ∧ wx.cell? ⟨bb, 2, none⟩ = some (.int .i64 ek) ∧ wx.cell? ⟨bb, 3, none⟩ = some (.string ed) ∧ bb < wx.heap.size ∧ Below wr.heap.size wr wx)
      case first =>
        refine wp_region_tail 11 (by rfl) (by kernel_rfl) (fun k => match k with | 6 => some (fun v _ => v = .int .i64 (s.i + 1)) | 10 => some (FreshE wr) | _ => none) ?_ (fun vals => ?_)
        · intro k φ hk v w1 w2 h1 h2
          match k, hk with
          | 6, hk => obtain rfl := Option.some.inj hk; exact h1
          | 10, hk => obtain rfl := Option.some.inj hk; exact h1.below h2
        dsimp only [List.take, List.drop]
        iterate 3 ((with_reducible refine sw_pure ?_ (fun K hK => ?_)); (· rfl); go_simp; with_reducible refine hK _ ?_; clear hK K)
        refine sw_at (.slice (some ⟨bL, oL, none⟩) es.length cL) rfl rfl (fun wz hz' hH => ?_) (fun K hK => ?_)
        · have h2 := (hz'.cell (p := ⟨b, 4, none⟩) lb).trans c4
          go_simp
        go_simp; refine hK _ ?_; clear hK K
        iterate 2 ((with_reducible refine sw_pure ?_ (fun K hK => ?_)); (· rfl); go_simp; with_reducible refine hK _ ?_; clear hK K)
        refine sw_call _ rfl rfl (fun wz hz' hH => ?_) (fun K hK => ?_)
        · go_simp
          go_at_call 24
          refine (log_first (hSH.out.below hz') HB.out).mono ?_
          rintro e w' ⟨rfl, rfl⟩
          exact ⟨_, rfl, rfl, Below.refl _ _⟩
        go_simp; refine hK _ ?_; clear hK K
        refine sw_at (.int .i64 k) rfl rfl (fun wz hz' hH => ?_) (fun K hK => ?_)
        · have h3 := hH _ (List.Mem.head _) rfl
          dsimp only at h3
          rw [h3]
          go_simp
        go_simp; refine hK _ ?_; clear hK K
        iterate 1 ((with_reducible refine sw_pure ?_ (fun K hK => ?_)); (· rfl); go_simp; with_reducible refine hK _ ?_; clear hK K)
        refine sw_at (.agg #[.int .i64 ei, .int .i64 et, .int .i64 ek, .string ed]) rfl rfl (fun wz hz' hH => ?_) (fun K hK => ?_)
        · have g0 := (hz'.cell (p := ⟨bL, oL + k * 4, none⟩) hbL).trans d0
          have g1 := (hz'.cell (p := ⟨bL, oL + k * 4 + 1, none⟩) hbL).trans d1
          have g2 := (hz'.cell (p := ⟨bL, oL + k * 4 + 2, none⟩) hbL).trans d2
          have g3 := (hz'.cell (p := ⟨bL, oL + k * 4 + 3, none⟩) hbL).trans d3
          go_simp
        go_simp; refine hK _ ?_; clear hK K
        refine sw_call _ rfl rfl (fun wz hz' hH => ?_) (fun K hK => ?_)
        · go_simp
          exact ⟨freshE_alloc _ hz'.size, (Below.refl _ _).alloc (Nat.le_refl _) _⟩
        go_simp; refine hK _ ?_; clear hK K
        refine sw_done (fun wz hz' hH => ?_)
        have hq := hH _ (List.Mem.head _)
        dsimp only at hq
        obtain ⟨bb, g1, g2, g3, g4, g5, g6, g7, g8⟩ := hq
        have f0 := g8 0
        have f1 := g8 1
        have f2 := g8 2
        have f3 := g8 3
        rw [g1]
        unfold tailQ
        clear hH g1 g8
        go_wp2_with fail
        go_meet
        have hbz : Below wr.heap.size wr ((((wz.setCell ⟨bb, 0, none⟩ (.int .i64 ei)).setCell ⟨bb, 1, none⟩ (.int .i64 et)).setCell ⟨bb, 2, none⟩ (.int .i64 ek)).setCell ⟨bb, 3, none⟩ (.string ed)) :=
          (((hz'.setCell (by show _ ≤ bb; omega) _).setCell (by show _ ≤ bb; omega) _).setCell (by show _ ≤ bb; omega) _).setCell (by show _ ≤ bb; omega) _
        refine ⟨bb, rfl, ?_, ?_, by simpa [World.setCell] using g3, hbz⟩
        · rw [World.cell?_setCell_other (h := by simp)]
          exact World.cell?_setCell_same _ _ _ (show World.cell? _ _ = some (.int .i64 0) from by rw [World.cell?_setCell_other (h := by simp), World.cell?_setCell_other (h := by simp)]; exact g6)
        · exact World.cell?_setCell_same _ _ _ (show World.cell? _ _ = some (.string .empty) from by rw [World.cell?_setCell_other (h := by simp), World.cell?_setCell_other (h := by simp), World.cell?_setCell_other (h := by simp)]; exact g7)
      case rest =>
        obtain ⟨bb, rfl, g2, g3, hbb, hb2⟩ := hcut
        have hbz := hbel.trans (hb2.mono hbel.size)
        clear hF c4 d0 d1 d2 d3 q1 hb2 hbel hSH
        rename World => w2
        go_wp2_with fail
        refine (conf_decode ed _ HE.out).mono ?_
        rintro e w3 ⟨v3, rfl, hr3, hb3⟩
        have g2 := (hb3.cell (p := ⟨bb, 2, none⟩) hbb).trans g2
        have hby := hbz.trans (hb3.mono hbz.size)
        have HI : Hid (isConf ⟨ei, et, ek, ed⟩ = ((confD ed).2 && (ek == 3))) := Lib.hid rfl
        have HC2 : Hid (scanC s es es.length = scanC s es (k + 1)) := HC
        clear g3 hbb hb3 hbz HC
        cases hc : (confD ed).2 with
        | true =>
          cases hk3 : (ek == 3) with
          | true =>
            have H1 : Hid (scanC s es es.length = ((confD ed).1, s.i + 1 + k)) := Lib.hid (by rw [HC2.out, HY.out (by rw [HI.out, hc, hk3]; rfl)])
            have HR := Lib.hid hr3
            clear hc HY HN HI HC2 hr3
            generalize confD ed = cd at *
            go_wp2_with fail
            go_ret2
            refine ⟨_, ?_, by rw [H1.out]; exact HR.out, hby⟩
            rw [H1.out]
            show Ending.returned (.tuple #[_, .int .i64 (s.i + ((k : Int) + 1))]) = .returned (.tuple #[_, .int .i64 (s.i + 1 + (k : Int))])
            rw [show s.i + ((k : Int) + 1) = s.i + 1 + k by omega]
            rfl
          | false =>
            have H1 : Hid (scanC s es es.length = scanC s es k) := Lib.hid (by rw [HC2.out, HN.out (by rw [HI.out, hc, hk3]; rfl)])
            clear hc HY HN HI HC2 hr3
            go_wp2_with fail
            go_roundw
            case rel => exact ⟨k, by omega, by congr 1; omega, H1, hby⟩
            case measure => simp [intOf]; omega
        | false =>
          have H1 : Hid (scanC s es es.length = scanC s es k) := Lib.hid (by rw [HC2.out, HN.out (by rw [HI.out, hc]; rfl)])
          clear hc HY HN HI HC2 hr3
          go_wp2_with fail
          go_roundw
          case rel => exact ⟨k, by omega, by congr 1; omega, H1, hby⟩
          case measure => simp [intOf]; omega

theorem log_conf {w : World} {b : Nat} {s : Snp} {lv : Value} {es : List Ent} (h : LogS w b s lv es) (hB : LogB s es) (hD : smallD s es) :
    Calls Try.prog 36 #[logPtr b] w fun e w' => RetConfAt w (scanC s es es.length) e w' := by
  have hLast := log_last h hB
  have HS := Lib.hid h
  have HB := Lib.hid hB
  have HD := Lib.hid hD
  clear h hB hD
  have HF := Lib.hid (fun (w' : World) (hb : Below w.heap.size w w') => log_confAt (HS.out.below hb) HB.out HD.out)
  unfold logPtr at *
  go_enter Try.func36, Try.ntmps36
  go_wp2_with fail
  refine hLast.mono ?_
  rintro e w' ⟨rfl, n, rfl⟩
  have hb1 : Below w.heap.size w (w.drewN n) := below_drewN' n
  have hc := HF.out _ hb1
  generalize w.drewN n = w1 at *
  clear hLast
  go_wp2_with fail
  refine hc.mono ?_
  rintro e w2 ⟨v, rfl, hr, hb2⟩
  have hbz := hb1.trans (hb2.mono hb1.size)
  clear hc hb1 hb2
  go_wp2_with fail
  go_ret2
  exact ⟨v, rfl, hr, hbz⟩
end Go.Proofs.Ytikoafjnopkoaaa
namespace Go.Proofs.Ytikoafjnopkoaaa
open Go.ChangeShapes Go.WideShapes Go.ChangeAt Go.RowKit

/-- A literal slice of entries that the walk has just built. -/
theorem EntR.fresh (w : World) (es : List Ent) (T : TypeId) (fr : Nat × Nat) (arr : Array Value) (n : Nat) (hn : n = es.length) (h : arr = (es.flatMap entCells).toArray) (hl : es.length ≤ 1000000) :
    EntR (w.alloc (.cells arr T fr)) (.slice (some ⟨w.heap.size, 0, none⟩) n n) es := by
  subst h hn
  refine ⟨_, _, rfl, Nat.le_refl _, by omega, fun k hk => ⟨_, _, rfl, by simp, fun j u hu => ?_⟩⟩
  have hj : j < 4 := by have := (List.getElem?_eq_some_iff.1 hu).1; simpa [entCells] using this
  rw [Nat.zero_add, cell_of_row (w.alloc _) w.heap.size _ _ T fr (heap_alloc_new w _), List.getElem?_toArray, entCells_get es k hk j hj]
  exact hu

def entA (i t : Int) : Ent := ⟨i, t, 0, .empty⟩
def snpA (i t : Int) : Snp := ⟨i, t, .empty, .empty⟩

set_option maxRecDepth 100000 in
set_option maxHeartbeats 4000000 in
theorem log_begun (w : World) : Calls Try.prog 4 #[] w fun e w' => e = .returned (.bool true) ∧ Below w.heap.size w w' := by
  have N1 : newOk (snpA 4 2) [entA 5 2, entA 6 3] = true := by kernel_rfl
  have P1 : Hid (putP (snpA 4 2) [entA 5 2, entA 6 3] [entA 6 4, entA 7 4] = ((6, true), [entA 5 2, entA 6 4, entA 7 4])) := Lib.hid (by kernel_rfl)
  have T1 : Hid (termP (snpA 4 2) [entA 5 2, entA 6 4, entA 7 4] 6 = (4, true)) := Lib.hid (by kernel_rfl)
  have L1 : Hid (lastP (snpA 4 2) [entA 5 2, entA 6 4, entA 7 4] = 7) := Lib.hid (by kernel_rfl)
  have G1 : Hid ((getP (snpA 4 2) [entA 5 2, entA 6 4, entA 7 4] 6 9).length = 2) := Lib.hid (by kernel_rfl)
  have F1 : Hid (fitsP (snpA 4 2) [entA 5 2, entA 6 4, entA 7 4] 4 2 = true) := Lib.hid (by kernel_rfl)
  have W1 : Hid (newerP (snpA 4 2) [entA 5 2, entA 6 4, entA 7 4] 7 4 = true) := Lib.hid (by kernel_rfl)
  have W2 : Hid (newerP (snpA 4 2) [entA 5 2, entA 6 4, entA 7 4] 6 4 = false) := Lib.hid (by kernel_rfl)
  have K1 : Hid (packOk (snpA 4 2) [entA 5 2, entA 6 4, entA 7 4] (snpA 6 4) = true) := Lib.hid (by kernel_rfl)
  have B1 : LogB (snpA 4 2) [entA 5 2, entA 6 3] := ⟨by decide, by decide, by decide⟩
  have B2 : LogB (snpA 4 2) [entA 5 2, entA 6 4, entA 7 4] := ⟨by decide, by decide, by decide⟩
  have B3 : LogB (snpA 6 4) [entA 7 4] := ⟨by decide, by decide, by decide⟩
  have hE0 := EntR.fresh w [entA 5 2, entA 6 3] 51 (0, 0) _ 2 rfl rfl (by decide)
  have hb0 := (Below.refl w.heap.size w).alloc (Nat.le_refl _) (.cells ([entA 5 2, entA 6 3].flatMap entCells).toArray 51)
  have HB1 := Lib.hid B1
  have HB2 := Lib.hid B2
  have HB3 := Lib.hid B3
  have HN := Lib.hid N1
  clear B1 B2 B3 N1
  go_enter Try.func4, Try.ntmps4
  go_wp2_with fail
  refine (log_new (snpA 4 2) _ [entA 5 2, entA 6 3] _ hE0 (by decide)).mono ?_
  intro e w1 hr
  unfold RetNewL at hr
  rw [if_pos HN.out] at hr
  obtain ⟨b, lv, rfl, hS, hb1, hbw, hsi⟩ := hr
  have hba := hb0.trans (hb1.mono hb0.size)
  have hbw := Nat.le_trans hb0.size hbw
  clear hb0 hb1 hsi hE0
  have hE1 := EntR.fresh w1 [entA 6 4, entA 7 4] 51 (0, 0) _ 2 rfl rfl (by decide)
  have hb2 := (Below.refl w1.heap.size w1).alloc (Nat.le_refl _) (.cells ([entA 6 4, entA 7 4].flatMap entCells).toArray 51)
  have hS1 := hS.below hb2
  unfold logPtr
  go_wp2_with fail
  refine (log_put (s := snpA 4 2) (es := [entA 5 2, entA 6 3]) (fs := [entA 6 4, entA 7 4]) hS1 HB1.out hE1 (by decide) (by intro e he; simp only [List.mem_cons, List.not_mem_nil, or_false] at he; rcases he with rfl | rfl <;> exact ⟨by decide, by decide⟩)).mono ?_
  rintro e w2 ⟨lv2, rfl, hS2, hk2, -⟩
  rw [P1.out] at hS2 ⊢
  have hbb : Below w.heap.size w w2 := (hba.trans (hb2.mono hba.size)).trans ((hk2.below (B := w.heap.size) (fun x hx => by simp only [List.mem_singleton] at hx; omega) (by have := hba.size; have := hb2.size; omega)))
  clear hS1 hS hk2 hb2 hba hE1
  dsimp only at hS2 ⊢
  go_wp2_with fail
  refine (log_term 6 hS2 HB2.out).mono ?_
  rintro e w3 ⟨rfl, hb3⟩
  rw [T1.out]
  have hS3 := hS2.below hb3
  have hbb := hbb.trans (hb3.mono hbb.size)
  clear hS2 hb3
  dsimp only
  go_wp2_with fail
  refine (log_first hS3 HB2.out).mono ?_
  rintro e w3' ⟨rfl, rfl⟩
  rw [show (snpA 4 2).i = 4 from rfl]
  go_wp2_with fail
  refine (log_last hS3 HB2.out).mono ?_
  rintro e w4 ⟨rfl, n4, rfl⟩
  rw [L1.out]
  have hS4 := hS3.below (below_drewN' n4)
  have hbb := below_drewN hbb n4
  clear hS3
  generalize World.drewN _ n4 = w4 at *
  go_wp2_with fail
  refine (log_get 6 9 hS4 HB2.out).mono ?_
  rintro e w5 ⟨v5, rfl, ho5, hb5⟩
  obtain ⟨a5, c5, rfl⟩ := ho5.r.slice
  rw [G1.out]
  have hS5 := hS4.below hb5
  have hbb := hbb.trans (hb5.mono hbb.size)
  clear hS4 hb5 ho5
  go_wp2_with fail
  refine (log_fits 4 2 hS5 HB2.out).mono ?_
  rintro e w6 ⟨rfl, hb6⟩
  rw [F1.out]
  have hS6 := hS5.below hb6
  have hbb := hbb.trans (hb6.mono hbb.size)
  clear hS5 hb6
  go_wp2_with fail
  refine (log_newer 7 4 hS6 HB2.out).mono ?_
  rintro e w7 ⟨rfl, hb7⟩
  rw [W1.out]
  have hS7 := hS6.below hb7
  have hbb := hbb.trans (hb7.mono hbb.size)
  clear hS6 hb7
  go_wp2_with fail
  refine (log_newer 6 4 hS7 HB2.out).mono ?_
  rintro e w8 ⟨rfl, hb8⟩
  rw [W2.out]
  have hS8 := hS7.below hb8
  have hbb := hbb.trans (hb8.mono hbb.size)
  clear hS7 hb8
  go_wp2_with fail
  refine (log_pack (n := snpA 6 4) hS8 HB2.out).mono ?_
  rintro e w9 ⟨lv9, rfl, hk9, -, hS9⟩
  rw [K1.out, if_pos rfl] at hS9
  rw [K1.out]
  have hbb := hbb.trans ((hk9.below (B := w.heap.size) (fun x hx => by simp only [List.mem_singleton] at hx; omega) hbb.size))
  clear hS8 hk9
  go_wp2_with fail
  refine (log_first hS9 HB3.out).mono ?_
  rintro e w10 ⟨rfl, rfl⟩
  rw [show (snpA 6 4).i = 6 from rfl]
  go_wp2_with fail
  go_ret
  exact ⟨rfl, hbb⟩
end Go.Proofs.Ytikoafjnopkoaaa
namespace Go.Proofs.Ytikoafjnopkoaaa

/-- A number without sign, as the program writes it. -/
def zig (n : Int) : Nat := if n < 0 then (-2 * n - 1).toNat else (2 * n).toNat
def zag (u : Nat) : Int := if u % 2 = 1 then -(u / 2 : Nat) - 1 else (u / 2 : Nat)

/-- Bytes of seven bits each, the lowest first; the last one is below 128. -/
def leb : Nat → Nat → List UInt8
  | 0, u => [UInt8.ofNat u]
  | f + 1, u => if u < 128 then [UInt8.ofNat u] else UInt8.ofNat (u % 128 + 128) :: leb f (u / 128)
def putN (n : Int) : List UInt8 := leb 9 (zig n)

/-- The first number of bytes: its value, how many bytes, the error. -/
def getF : Nat → Nat → List UInt8 → Int × Nat × Nat
  | _, _, [] => (0, 0, 2)
  | i, u, c :: l =>
    if i = 9 ∧ 1 < c.toNat then (0, 0, 1)
    else if 127 < c.toNat then getF (i + 1) (u + c.toNat % 128 * 128 ^ i) l
    else if 0 < i ∧ c.toNat = 0 then (0, 0, 1)
    else (zag (u + c.toNat % 128 * 128 ^ i), i + 1, 0)
def getN (l : List UInt8) : Int × Nat × Nat := getF 0 0 l

theorem zig_lt {n : Int} (h0 : -9223372036854775808 ≤ n) (h1 : n ≤ 9223372036854775807) : zig n < 18446744073709551616 := by unfold zig; split <;> omega
theorem zag_zig (n : Int) : zag (zig n) = n := by
  unfold zig zag
  by_cases h : n < 0
  · rw [if_pos h, if_pos (by omega)]; omega
  · rw [if_neg h, if_neg (by omega)]; omega
theorem zag_bd {u : Nat} (h : u < 18446744073709551616) : -9223372036854775808 ≤ zag u ∧ zag u ≤ 9223372036854775807 := by unfold zag; split <;> omega

theorem toNat_ofNat {u : Nat} (h : u < 256) : (UInt8.ofNat u).toNat = u := by simp; omega

theorem leb_len (f : Nat) : ∀ u, 1 ≤ (leb f u).length ∧ (leb f u).length ≤ f + 1 := by
  induction f with
  | zero => intro u; simp [leb]
  | succ f ih =>
    intro u
    rw [leb]
    split
    · simp
    · have := ih (u / 128)
      simp only [List.length_cons]
      omega
theorem putN_len (n : Int) : 1 ≤ (putN n).length ∧ (putN n).length ≤ 10 := leb_len 9 _

/-- What was written is read again, whatever stands behind. -/
theorem getF_leb (rest : List UInt8) (f : Nat) : ∀ (i u a : Nat), i + f = 9 → u < 2 * 128 ^ f → (0 < i → 0 < u) →
    getF i a (leb f u ++ rest) = (zag (a + u * 128 ^ i), i + (leb f u).length, 0) := by
  induction f with
  | zero =>
    intro i u a hi hu h0
    have hi9 : i = 9 := by omega
    subst hi9
    have hu' : u < 2 := by simpa using hu
    have := h0 (by omega)
    have ht : (UInt8.ofNat u).toNat = u := toNat_ofNat (by omega)
    simp only [leb, List.cons_append, List.nil_append, getF, ht]
    rw [if_neg (by omega), if_neg (by omega), if_neg (by omega)]
    simp [Nat.mod_eq_of_lt (show u < 128 by omega)]
  | succ f ih =>
    intro i u a hi hu h0
    rw [leb]
    by_cases h : u < 128
    · rw [if_pos h]
      have ht : (UInt8.ofNat u).toNat = u := toNat_ofNat (by omega)
      simp only [List.cons_append, List.nil_append, getF, ht]
      rw [if_neg (by omega), if_neg (by omega), if_neg (by intro hh; have := h0 hh.1; omega)]
      simp [Nat.mod_eq_of_lt h]
    · rw [if_neg h]
      have ht : (UInt8.ofNat (u % 128 + 128)).toNat = u % 128 + 128 := toNat_ofNat (by omega)
      simp only [List.cons_append, getF, ht]
      rw [if_neg (by omega), if_pos (by omega), ih (i + 1) (u / 128) _ (by omega) (by rw [Nat.pow_succ] at hu; omega) (by intro _; omega)]
      have e : a + (u % 128 + 128) % 128 * 128 ^ i + u / 128 * 128 ^ (i + 1) = a + u * 128 ^ i := by
        rw [show (u % 128 + 128) % 128 = u % 128 by omega, Nat.pow_succ, Nat.add_assoc, ← Nat.mul_assoc, Nat.mul_right_comm, ← Nat.add_mul]
        congr 2
        omega
      rw [e]
      simp only [List.length_cons]
      congr 2
      omega

theorem getN_putN (n : Int) (rest : List UInt8) (h0 : -9223372036854775808 ≤ n) (h1 : n ≤ 9223372036854775807) : getN (putN n ++ rest) = (n, (putN n).length, 0) := by
  have h := getF_leb rest 9 0 (zig n) 0 (by omega) (by have := zig_lt h0 h1; omega) (by omega)
  unfold getN putN
  rw [h]
  simp [zag_zig]

/-- A cut of what was written is not all. -/
theorem getF_cut (f : Nat) : ∀ (i u a k : Nat), i + f = 9 → u < 2 * 128 ^ f → k < (leb f u).length → getF i a ((leb f u).take k) = (0, 0, 2) := by
  induction f with
  | zero =>
    intro i u a k hi hu hk
    simp only [leb, List.length_cons, List.length_nil] at hk
    obtain rfl : k = 0 := by omega
    simp [getF]
  | succ f ih =>
    intro i u a k hi hu hk
    rw [leb] at hk ⊢
    by_cases h : u < 128
    · rw [if_pos h] at hk ⊢
      simp only [List.length_cons, List.length_nil] at hk
      obtain rfl : k = 0 := by omega
      simp [getF]
    · rw [if_neg h] at hk ⊢
      cases k with
      | zero => simp [getF]
      | succ k =>
        have ht : (UInt8.ofNat (u % 128 + 128)).toNat = u % 128 + 128 := toNat_ofNat (by omega)
        simp only [List.take_succ_cons, getF, ht]
        rw [if_neg (by omega), if_pos (by omega)]
        exact ih (i + 1) (u / 128) _ k (by omega) (by rw [Nat.pow_succ] at hu; omega) (by simpa using hk)
theorem getN_cut (n : Int) (k : Nat) (h0 : -9223372036854775808 ≤ n) (h1 : n ≤ 9223372036854775807) (hk : k < (putN n).length) : getN ((putN n).take k) = (0, 0, 2) :=
  getF_cut 9 0 (zig n) 0 k (by omega) (by have := zig_lt h0 h1; omega) hk

/-- What any bytes give. -/
theorem getF_any (l : List UInt8) : ∀ (i u : Nat), i ≤ 9 → u < 128 ^ i → (getF i u l = (0, 0, 1) ∨ getF i u l = (0, 0, 2)) ∨
    ∃ x k, getF i u l = (x, k, 0) ∧ -9223372036854775808 ≤ x ∧ x ≤ 9223372036854775807 ∧ i < k ∧ k ≤ i + l.length ∧ k ≤ 10 := by
  induction l with
  | nil => intro i u _ _; exact .inl (.inr rfl)
  | cons c l ih =>
    intro i u hi hu
    have hc := c.toNat_lt
    rw [getF]
    by_cases h1 : i = 9 ∧ 1 < c.toNat
    · rw [if_pos h1]; exact .inl (.inl rfl)
    · rw [if_neg h1]
      by_cases h2 : 127 < c.toNat
      · rw [if_pos h2]
        have hlt : u + c.toNat % 128 * 128 ^ i < 128 ^ (i + 1) := by
          have : c.toNat % 128 * 128 ^ i ≤ 127 * 128 ^ i := Nat.mul_le_mul_right _ (by omega)
          rw [Nat.pow_succ]
          omega
        rcases ih (i + 1) _ (by omega) hlt with h | ⟨x, k, h, a, b, c', d, e⟩
        · exact .inl h
        · exact .inr ⟨x, k, h, a, b, by omega, by simp; omega, e⟩
      · rw [if_neg h2]
        by_cases h3 : 0 < i ∧ c.toNat = 0
        · rw [if_pos h3]; exact .inl (.inl rfl)
        · rw [if_neg h3]
          have hlt : u + c.toNat % 128 * 128 ^ i < 18446744073709551616 := by
            by_cases h9 : i = 9
            · subst h9
              have : c.toNat % 128 * 128 ^ 9 ≤ 1 * 128 ^ 9 := Nat.mul_le_mul_right _ (by omega)
              omega
            · have h4 : c.toNat % 128 * 128 ^ i ≤ 127 * 128 ^ i := Nat.mul_le_mul_right _ (by omega)
              have h5 : 128 ^ (i + 1) ≤ 128 ^ 9 := Nat.pow_le_pow_right (by omega) (by omega)
              rw [Nat.pow_succ] at h5
              omega
          have := zag_bd hlt
          exact .inr ⟨_, _, rfl, this.1, this.2, by omega, by simp only [List.length_cons]; omega, by omega⟩
theorem getN_any (l : List UInt8) : (getN l = (0, 0, 1) ∨ getN l = (0, 0, 2)) ∨ ∃ x k, getN l = (x, k, 0) ∧ -9223372036854775808 ≤ x ∧ x ≤ 9223372036854775807 ∧ 0 < k ∧ k ≤ l.length ∧ k ≤ 10 := by
  rcases getF_any l 0 0 (by omega) (by decide) with h | ⟨x, k, h, a, b, c, d, e⟩
  · exact .inl h
  · exact .inr ⟨x, k, h, a, b, c, by omega, e⟩

/-- Four bytes of a number below 2^32. -/
def fourN (u : Nat) : List UInt8 := [UInt8.ofNat (u / 16777216), UInt8.ofNat (u / 65536), UInt8.ofNat (u / 256), UInt8.ofNat u]

/-- A text: its length, and its bytes. -/
def putT (s : List UInt8) : List UInt8 := putN s.length ++ s
def getT (l : List UInt8) : List UInt8 × Nat × Nat :=
  if (getN l).2.2 ≠ 0 then ([], 0, (getN l).2.2)
  else if (getN l).1 < 0 ∨ 1048576 < (getN l).1 then ([], 0, 1)
  else if (l.length : Int) - (getN l).2.1 < (getN l).1 then ([], 0, 2)
  else ((l.drop (getN l).2.1).take (getN l).1.toNat, (getN l).2.1 + (getN l).1.toNat, 0)

theorem getT_putT (s rest : List UInt8) (h : s.length ≤ 1048576) : getT (putT s ++ rest) = (s, (putT s).length, 0) := by
  have hg := getN_putN s.length (s ++ rest) (by omega) (by omega)
  rw [← List.append_assoc] at hg
  unfold putT
  unfold getT
  simp only [hg]
  rw [if_neg (by omega), if_neg (by omega), if_neg (by simp only [List.length_append]; omega)]
  simp

theorem getT_cut (s : List UInt8) (k : Nat) (h : s.length ≤ 1048576) (hk : k < (putT s).length) : getT ((putT s).take k) = ([], 0, 2) := by
  by_cases hk' : k < (putN s.length).length
  · have e : (putT s).take k = (putN s.length).take k := by
      unfold putT
      rw [List.take_append_of_le_length (by omega)]
    rw [e]
    unfold getT
    simp only [getN_cut s.length k (by omega) (by omega) hk']
    rfl
  · have e : (putT s).take k = putN s.length ++ s.take (k - (putN s.length).length) := by
      unfold putT
      rw [List.take_append, List.take_of_length_le (by omega)]
    rw [e]
    have hg := getN_putN s.length (s.take (k - (putN s.length).length)) (by omega) (by omega)
    unfold getT
    simp only [hg]
    unfold putT at hk
    rw [List.length_append] at hk
    rw [if_neg (by omega), if_neg (by omega), if_pos (by simp; omega)]

theorem leb_mono (f : Nat) : ∀ u v, u ≤ v → (leb f u).length ≤ (leb f v).length := by
  induction f with
  | zero => intro u v _; simp [leb]
  | succ f ih =>
    intro u v h
    rw [leb, leb]
    by_cases hu : u < 128
    · rw [if_pos hu]
      split
      · simp
      · simp
    · rw [if_neg hu, if_neg (by omega)]
      have := ih (u / 128) (v / 128) (by omega)
      simp only [List.length_cons]
      omega
theorem putN_mono {m n : Int} (h : zig m ≤ zig n) : (putN m).length ≤ (putN n).length := leb_mono 9 _ _ h
end Go.Proofs.Ytikoafjnopkoaaa
namespace Go.Proofs.Ytikoafjnopkoaaa
open Go.RowKit

theorem info8 : (Try.prog.info? 5).map (fun i => (i.zero, i.size, i.bytes)) = some (some (.int .u8 0), 1, 1) := by kernel_rfl

theorem max_xor (x : Nat) (h : x < 18446744073709551616) : 18446744073709551615 ^^^ x = 18446744073709551615 - x := by
  have e1 : (BitVec.allOnes 64 ^^^ BitVec.ofNat 64 x) = ~~~(BitVec.ofNat 64 x) := BitVec.allOnes_xor
  have e2 := congrArg BitVec.toNat e1
  rw [BitVec.toNat_xor, BitVec.toNat_not, BitVec.toNat_allOnes, BitVec.toNat_ofNat, Nat.mod_eq_of_lt (by simpa using h)] at e2
  simpa using e2

theorem xor_u64 (x : Int) (h0 : 0 ≤ x) (h1 : x < 18446744073709551616) : bits .xor .u64 IntKind.u64.max x = 18446744073709551615 - x := by
  obtain ⟨y, rfl⟩ := Int.eq_ofNat_of_zero_le h0
  rw [show IntKind.u64.max = ((18446744073709551615 : Nat) : Int) by decide, u64_xor_nat _ _ (by omega) (by omega), max_xor y (by omega)]
  omega

theorem zig_neg (n : Int) (hn0 : -9223372036854775808 ≤ n) (hn : n < 0) : bits .xor .u64 IntKind.u64.max (IntKind.u64.wrap (IntKind.u64.wrap n * 2)) = (zig n : Nat) := by
  rw [IntKind.wrap_u64, IntKind.wrap_u64, xor_u64 _ (by omega) (by omega)]
  unfold zig
  rw [if_pos hn]
  omega
theorem zig_pos (n : Int) (hn1 : n ≤ 9223372036854775807) (hn : ¬ n < 0) : IntKind.u64.wrap (IntKind.u64.wrap n * 2) = ((zig n : Nat) : Int) := by
  rw [IntKind.wrap_u64, IntKind.wrap_u64]
  unfold zig
  rw [if_neg hn]
  omega

theorem or128 (u : Nat) (_h : u < 18446744073709551616) : bits .or .u8 ((u : Int) % 256) 128 = ((u % 128 + 128 : Nat) : Int) := by
  rw [show ((u : Int) % 256) = ((u % 256 : Nat) : Int) by omega, show (128 : Int) = ((128 : Nat) : Int) by rfl, u8_or_nat _ _ (by omega) (by omega)]
  congr 1
  have h1 : u % 256 = u % 128 ∨ u % 256 = u % 128 + 128 := by omega
  have h2 : u % 128 < 128 := by omega
  generalize u % 128 = m at *
  generalize u % 256 = k at *
  have key : ∀ m : Fin 128, (m.val ||| 128 = m.val + 128) ∧ ((m.val + 128) ||| 128 = m.val + 128) := by decide
  rcases h1 with rfl | rfl
  · exact (key ⟨_, h2⟩).1
  · exact (key ⟨_, h2⟩).2

end Go.Proofs.Ytikoafjnopkoaaa
namespace Go.Proofs.Ytikoafjnopkoaaa
open Go.RowKit

/-- The results of Get, as values. -/
def getV (r : Int × Nat × Nat) : Value := .tuple #[.int .i64 r.1, .int .i64 (r.2.1 : Int), .int .i64 (r.2.2 : Int)]

/-- One more byte of a number. -/
theorem get_mix (u c k : Nat) (hc : c < 256) (hu : u < 128 ^ k) (hU : u + c % 128 * 128 ^ k < 18446744073709551616) :
    bits .or .u64 (u : Int) (IntKind.u64.wrap (IntKind.u64.wrap (bits .and .u8 (c : Int) 127) * 2 ^ (7 * k))) = ((u + c % 128 * 128 ^ k : Nat) : Int) := by
  have h1 : bits .and .u8 (c : Int) 127 = ((c % 128 : Nat) : Int) := by
    rw [show (127 : Int) = ((127 : Nat) : Int) from rfl, u8_and_nat _ _ hc (by omega)]
    congr 1
    exact Nat.and_two_pow_sub_one_eq_mod c 7
  have h2 : (2 : Int) ^ (7 * k) = ((128 ^ k : Nat) : Int) := by
    rw [Int.natCast_pow, Int.pow_mul]
    rfl
  have h3 : IntKind.u64.wrap ((c % 128 : Nat) : Int) = ((c % 128 : Nat) : Int) := by rw [IntKind.wrap_u64]; omega
  have hle : c % 128 * 128 ^ k < 18446744073709551616 := by omega
  have h4 : ((c % 128 : Nat) : Int) * ((128 ^ k : Nat) : Int) = ((c % 128 * 128 ^ k : Nat) : Int) := by rw [Int.natCast_mul]
  rw [h1, h3, h2, h4, IntKind.wrap_u64]
  rw [show (((c % 128 * 128 ^ k : Nat) : Int) % 18446744073709551616) = ((c % 128 * 128 ^ k : Nat) : Int) by omega]
  rw [u64_or_nat _ _ (by omega) hle]
  congr 1
  have e : 128 ^ k = 2 ^ (7 * k) := by rw [Nat.pow_mul]
  rw [e] at hu ⊢
  rw [Nat.mul_comm, Nat.add_comm, Nat.two_pow_add_eq_or_of_lt hu, Nat.or_comm]

theorem get_mul (u c k W : Nat) (_hc : c < 256) (hW : W = 128 ^ k) (hU : u + c % 128 * 128 ^ k < 18446744073709551616) :
    IntKind.u64.wrap ((u : Int) + IntKind.u64.wrap ((c : Int) % 128 * (W : Int))) = ((u + c % 128 * 128 ^ k : Nat) : Int) := by
  subst hW
  have h4 : (c : Int) % 128 * ((128 ^ k : Nat) : Int) = ((c % 128 * 128 ^ k : Nat) : Int) := by rw [Int.natCast_mul]; rfl
  rw [h4, IntKind.wrap_u64, IntKind.wrap_u64]
  generalize c % 128 * 128 ^ k = x at *
  omega

theorem get_next (k W : Nat) (hk : k < 9) (hW : W = 128 ^ k) : IntKind.u64.wrap ((W : Int) * 128) = ((128 ^ (k + 1) : Nat) : Int) := by
  subst hW
  have h5 : 128 ^ (k + 1) ≤ 128 ^ 9 := Nat.pow_le_pow_right (by omega) (by omega)
  rw [IntKind.wrap_u64, Nat.pow_succ] at *
  generalize 128 ^ k = x at *
  omega

end Go.Proofs.Ytikoafjnopkoaaa
namespace Go.Proofs.Ytikoafjnopkoaaa
open Go.RowKit

/-- The results of GetText, as values. -/
def getTV (r : List UInt8 × Nat × Nat) : Value := .tuple #[.string ⟨r.1.toArray⟩, .int .i64 (r.2.1 : Int), .int .i64 (r.2.2 : Int)]

theorem zig_neg2 (n : Int) (hn0 : -9223372036854775808 ≤ n) (hn : n < 0) : bits .xor .u64 IntKind.u64.max (IntKind.u64.wrap (IntKind.u64.wrap n * 2)) = (zig n : Nat) := zig_neg n hn0 hn

theorem extract0 (s : ByteArray) (n : Nat) : s.extract 0 n = ⟨(s.data.toList.take n).toArray⟩ := by
  apply ByteArray.ext
  rw [ByteArray.data_extract]
  apply Array.ext'
  simp

/-- 'Cut': the first n bytes of a text at the most. -/
theorem cut_any (s : ByteArray) (n : Nat) (w : World) (hn : n ≤ 9223372036854775807) (_hs : s.size ≤ 9223372036854775807) :
    Calls Try.prog 26 #[.string s, .int .i64 n] w fun e w' => e = .returned (.string ⟨(s.data.toList.take n).toArray⟩) ∧ w' = w := by
  by_cases h : n < s.size
  · go_enter Try.func26, Try.ntmps26
    go_wp2_with fail
    go_ret
    refine ⟨?_, rfl⟩
    rw [← extract0]
    rfl
  · go_enter Try.func26, Try.ntmps26
    go_wp2_with fail
    go_ret
    refine ⟨?_, rfl⟩
    rw [List.take_of_length_le (by rw [size_data]; omega)]
    rfl
end Go.Proofs.Ytikoafjnopkoaaa
