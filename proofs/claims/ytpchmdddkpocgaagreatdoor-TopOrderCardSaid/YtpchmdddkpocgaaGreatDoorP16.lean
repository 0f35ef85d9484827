/-
  No claim by itself: a document: Kind, has, set of a number. Conditions: the document's map holds fewer keys than the limit. | a document: value.Of a number, do of a put of a number. Conditions: the document's map holds fewer keys than the limit. | from the reading of an argument to the words of the walks: bytes, integers. | who belongs: slices.Index, slices.Contains, conf.Has, conf.May, and what the document says of them. | slices.Clone of integers: a row of its own with the same integers. | conf.Decode of what is no configuration. | the evaluator: maps.Copy, slices.Sorted. No condition.
-/
import Derived.Test.YtpchmdddkpocgaaGreatDoorP14
import Derived.Test.YtpchmdddkpocgaaGreatDoorP15
import Derived.StringKeys
import Derived.Deep.QuietTactic
import Derived.Deep.DeepCutAuto
import Derived.Deep.Cut
import Derived.WalkSmall
import Derived.ProofKit
import Derived.OpenShut
import Derived.ShutString
import Derived.ChangeOld
import Derived.JoinedCond
import Derived.Test.YtpchmdddkpocgaaGreatDoorRows
import Derived.WalkKit
import Derived.Lib.BufferMore
import Derived.Test.YtpchmdddkpocgaaGreatDoorP11
import Derived.Test.YtpchmdddkpocgaaGreatDoorProg
import Derived.Shelf.SlIter.Collect
import Derived.Sort.EveryDepth
import Derived.Maps.RangeRun
import Derived.KernelRfl
namespace Go.Proofs.YtpchmdddkpocgaaGreatDoor
set_option maxRecDepth 100000
set_option linter.unusedVariables false
set_option linter.unusedSimpArgs false
open Go.ChangeShapes Go.WideShapes Go.ChangeAt Go.RowKit Go.Maps
set_option maxHeartbeats 1000000 in
theorem num_kind (n : Int) (w : World) : Calls Tryz.prog 307 #[.int .i64 n] w fun e w' => e = .returned (.int .i64 1) ∧ w' = w := by
 go_enter Tryz.func307, Tryz.ntmps307
 go_wp2_with fail
 go_ret
 exact ⟨rfl, rfl⟩
set_option maxHeartbeats 1000000 in
theorem value_kind (n : Int) (w : World) : Calls Tryz.prog 93 #[.agg #[.iface 181 (.int .i64 n)]] w fun e w' => e = .returned (.int .i64 1) ∧ Below w.heap.size w w' := by
 go_enter Tryz.func93, Tryz.ntmps93
 go_wp2_with fail
 refine (num_kind n _).mono ?_
 rintro e w1 ⟨rfl, rfl⟩
 go_wp2_with fail
 go_ret
 exact ⟨rfl, (Below.refl _ w).alloc (Nat.le_refl _) _⟩
set_option maxHeartbeats 1000000 in
theorem value_kind0 (w : World) : Calls Tryz.prog 93 #[.agg #[.nilIface]] w fun e w' => e = .returned (.int .i64 0) ∧ Below w.heap.size w w' := by
 go_enter Tryz.func93, Tryz.ntmps93
 go_wp2_with fail
 go_ret
 exact ⟨rfl, (Below.refl _ w).alloc (Nat.le_refl _) _⟩
structure DocS (w : World) (d o b n : Nat) (D : DataW Unit) : Prop where
 lt : d < w.heap.size
 c0 : w.cell? ⟨d, o, none⟩ = some (.map (some b))
 fr : w.frozen? ⟨d, o, none⟩ = false
 m : OwnN w b n D
 ne : b ≠ d
theorem OwnN.block {w w' : World} {b n : Nat} {D : DataW Unit} (h : OwnN w b n D) (hb : w'.heap[b]? = w.heap[b]?) : OwnN w' b n D := by
 obtain ⟨es, c, h1, h2⟩ := h
 exact ⟨es, c, hb.trans h1, h2⟩
theorem OwnN.keeps {w w' : World} {b n : Nat} {D : DataW Unit} {F : List Nat} (h : OwnN w b n D) (hk : Keeps F w w') (hF : b ∉ F) : OwnN w' b n D := h.block (hk.block b h.lt hF)
theorem DocS.keeps {w w' : World} {d o b n : Nat} {D : DataW Unit} {F : List Nat} (h : DocS w d o b n D) (hk : Keeps F w w') (hd : d ∉ F) (hb : b ∉ F) : DocS w' d o b n D :=
 ⟨Nat.lt_of_lt_of_le h.lt hk.size, (hk.cell (p := ⟨d, o, none⟩) h.lt hd).trans h.c0, (hk.frozen (p := ⟨d, o, none⟩) h.lt hd).trans h.fr, OwnN.keeps h.m hk hb, h.ne⟩
theorem zero_val (w : World) : (zeroValue 125).run Tryz.prog w = .ok (.agg #[.nilIface]) w := by
 have h : (Tryz.prog.info? 125).map (·.zero) = some (some (.agg #[.nilIface])) := by kernel_rfl
 obtain ⟨i, hi, hz⟩ := Option.map_eq_some_iff.1 h
 simp [zeroValue, typeInfo, hi, hz]
theorem doc_look {w : World} {b n : Nat} {D : DataW Unit} (h : OwnN w b n D) (s : ByteArray) (hs : s.size ≤ maxLen) :
  (Maps.has D (.string s.data.toList) = false ∧ (Instr.lookup 126 (.map (some b)) (.string s) false).run Tryz.prog w = .ok (.agg #[.nilIface]) w) ∨
  ∃ c : Int, Maps.has D (.string s.data.toList) = true ∧ (∀ zd, D.atKey (.string s.data.toList) zd = .lit (.int .i64 c)) ∧ (Instr.lookup 126 (.map (some b)) (.string s) false).run Tryz.prog w = .ok (.agg #[.iface 181 (.int .i64 c)]) w := by
 obtain ⟨es, clock, hb, F, _, rfl⟩ := h
 rcases Maps.fit_look false strK Tryz.underlying126 (zero_val w) hb F (WideMaps.keyOf_string_mk Tryz.underlying9 hs) with ⟨hrun, _, hat⟩ | ⟨e0, y, _, _, hrun, hRv, hat, _⟩
 ·exact .inl ⟨Maps.has_false_of_atKey hat, hrun⟩
 ·obtain ⟨c, hc, hy⟩ := rdN_inv hRv
  refine .inr ⟨c, Maps.has_true_of_atKey hat, fun zd => ?_, hc ▸ hrun⟩
  rw [hat zd, hy]
set_option maxHeartbeats 1000000 in
theorem doc_has {w : World} {d o b n : Nat} {D : DataW Unit} (h : DocS w d o b n D) (s : ByteArray) (hs : s.size ≤ maxLen) :
  Calls Tryz.prog 51 #[.pointer (some ⟨d, o, none⟩), .string s] w fun e w' => e = .returned (.bool (Maps.has D (.string s.data.toList))) ∧ Below w.heap.size w w' := by
 have c0 := h.c0
 have HK := Lib.hid (fun (c : Int) (u : World) => value_kind c u)
 have HK0 := Lib.hid (fun (u : World) => value_kind0 u)
 rcases doc_look h.m s hs with ⟨hf, hrun⟩ | ⟨c, hf, _, hrun⟩
 ·clear h
  go_enter Tryz.func51, Tryz.ntmps51
  go_wp2_with fail
  refine (HK0.out _).mono ?_
  rintro e w1 ⟨rfl, hb1⟩
  go_wp2_with fail
  go_ret
  exact ⟨by rw [hf]; rfl, hb1⟩
 ·clear h
  go_enter Tryz.func51, Tryz.ntmps51
  go_wp2_with fail
  refine (HK.out c _).mono ?_
  rintro e w1 ⟨rfl, hb1⟩
  go_wp2_with fail
  go_ret
  exact ⟨by rw [hf]; rfl, hb1⟩
set_option maxHeartbeats 2000000 in
theorem doc_set {w : World} {d o b n : Nat} {D : DataW Unit} (h : DocS w d o b n D) (hn : n < 50) (s : ByteArray) (hs : s.size ≤ maxLen) (c : Int) :
  Calls Tryz.prog 256 #[.pointer (some ⟨d, o, none⟩), .string s, .agg #[.iface 181 (.int .i64 c)]] w fun e w' => e = .returned (.int .i64 0) ∧ DocS w' d o b (n + 1) (D.put (.string s.data.toList) (.lit (.int .i64 c))) ∧ Keeps [b] w w' := by
 have HK := Lib.hid (fun (c : Int) (u : World) => value_kind c u)
 have hbx := (Below.refl w.heap.size w).alloc (Nat.le_refl _) (.cells #[.iface 181 (.int .i64 c)] 125)
 have hX : (w.alloc (.cells #[.iface 181 (.int .i64 c)] 125)).cell? ⟨w.heap.size, 0, none⟩ = some (.iface 181 (.int .i64 c)) := World.cell?_alloc_new _ _ _ _
 have hX2 : w.heap.size < (w.alloc (.cells #[.iface 181 (.int .i64 c)] 125)).heap.size := by simp
 have hD := h.keeps (Keeps.of_below (F := []) hbx) (by simp) (by simp)
 go_enter Tryz.func256, Tryz.ntmps256
 clear h
 go_wp2_with fail
 generalize w.alloc _ = w0 at *
 refine (HK.out c _).mono ?_
 rintro e w1 ⟨rfl, hb1⟩
 have hD1 := hD.keeps (Keeps.of_below (F := []) hb1) (by simp) (by simp)
 have hX1 := (hb1.cell (p := ⟨w.heap.size, 0, none⟩) hX2).trans hX
 have hX3 := Nat.lt_of_lt_of_le hX2 hb1.size
 have hbw := hbx.trans (hb1.mono hbx.size)
 clear hD hX hX2 hb1 hbx
 go_wp2_with fail
 refine (doc_has hD1 s hs).mono ?_
 rintro e w2 ⟨rfl, hb2⟩
 have hD2 := hD1.keeps (Keeps.of_below (F := []) hb2) (by simp) (by simp)
 have hX4 := (hb2.cell (p := ⟨w.heap.size, 0, none⟩) hX3).trans hX1
 have hX5 := Nat.lt_of_lt_of_le hX3 hb2.size
 have hbz := hbw.trans (hb2.mono hbw.size)
 clear hD1 hX1 hX3 hb2 hbw w1 w0
 have c0 := hD2.c0
 have hlen := fun ty => World.ownsMap.len hD2.m Tryz.underlying126 ty
 have hle := World.ownsMap.size_le hD2.m
 have t1 : decide ((50 : Int) ≤ (Maps.size D : Int)) = false := decide_eq_false (by omega)
 cases hf : Maps.has D (.string s.data.toList)
 all_goals
  go_wp2_with fail
  clear hlen hle t1 hf
  refine wp_region_tail 6 (by rfl) (by kernel_rfl) (fun _ => none) (fun _ _ hk => by cases hk) (fun vals => ?_)
  dsimp only [List.take, List.drop]
  iterate 3 ((with_reducible refine sw_pure ?_ (fun K hK => ?_)); (· rfl); go_simp; with_reducible refine hK _ ?_; clear hK K)
  refine sw_at (.map (some b)) rfl rfl (fun wz hz' hH => ?_) (fun K hK => ?_)
  ·have h2 := (hz'.cell (p := ⟨d, o, none⟩) hD2.lt).trans c0
   go_simp
  go_simp; refine hK _ ?_; clear hK K
  iterate 1 ((with_reducible refine sw_pure ?_ (fun K hK => ?_)); (· rfl); go_simp; with_reducible refine hK _ ?_; clear hK K)
  refine sw_at (.agg #[.iface 181 (.int .i64 c)]) rfl rfl (fun wz hz' hH => ?_) (fun K hK => ?_)
  ·have h2 := (hz'.cell (p := ⟨w.heap.size, 0, none⟩) hX5).trans hX4
   go_simp
  go_simp; refine hK _ ?_; clear hK K
  refine sw_done (fun wz hz' hH => ?_)
  have hD3 := hD2.keeps (Keeps.of_below (F := []) hz') (by simp) (by simp)
  have hbw := hbz.trans (hz'.mono hbz.size)
  unfold tailQ
  go_wp2_with (first
   | (at_mapUpdate; refine wpList_mapUpdate_own _ rfl _ _ _ 126 rfl 9 125 strK Tryz.underlying126 _ b n _ rfl hD3.m (by unfold maxLen; omega) _ _ _ rfl rfl (WideMaps.keyOf_string_mk Tryz.underlying9 hs) _ [] (rdN_mk _ c) ?_; intro w4 hown4 hg4; go_frame)
   | go_in)
  go_ret
  have hk4 : Keeps [b] wz w4 := Keeps.of_grown hg4
  refine ⟨rfl, ⟨Nat.lt_of_lt_of_le hD3.lt hk4.size, (hk4.cell (p := ⟨d, o, none⟩) hD3.lt (by simpa using Ne.symm hD3.ne)).trans hD3.c0, (hk4.frozen (p := ⟨d, o, none⟩) hD3.lt (by simpa using Ne.symm hD3.ne)).trans hD3.fr, hown4, hD3.ne⟩, ?_⟩
  exact (Keeps.of_below (F := [b]) hbw).trans hk4 (fun x hx => .inl hx)
theorem res_cell2 {fn : Func} {p u : Tmp} {ty : TypeId} (h : fn.results = #[.cell p ty, .tmp u]) (tmps : Array Value) (P : Program) (w : World) (a : Addr) (v : Value)
  (hp : tmps.getD p undef = .pointer (some a)) (hl : (loadVar ty a).run P w = .ok v w) : (results fn tmps).run P w = .ok (.tuple #[v, tmps.getD u undef]) w := by
 simp only [results, h]
 simp only [Array.getD_eq_getD_getElem?] at hp
 simp [Result.andThen, hp, asAddr, hl]
theorem load_val {w : World} {b : Nat} {v : Value} (c0 : w.cell? ⟨b, 0, none⟩ = some v) : (loadVar 125 ⟨b, 0, none⟩).run Tryz.prog w = .ok (.agg #[v]) w := by
 unfold loadVar
 go_simp
set_option maxHeartbeats 1000000 in
theorem value_of (n : Int) (w : World) : Calls Tryz.prog 236 #[.agg #[.int .i64 1, .int .i64 n, .string ⟨#[]⟩]] w fun e w' => e = .returned (.tuple #[.agg #[.iface 181 (.int .i64 n)], .int .i64 0]) ∧ Below w.heap.size w w' := by
 have hb := ((Below.refl w.heap.size w).alloc (Nat.le_refl _) (.cells #[.int .i64 1, .int .i64 n, .string ⟨#[]⟩] 30)).alloc (by simp) (.cells #[.iface 181 (.int .i64 n)] 125)
 have hc : ((w.alloc (.cells #[.int .i64 1, .int .i64 n, .string ⟨#[]⟩] 30)).alloc (.cells #[.iface 181 (.int .i64 n)] 125)).cell? ⟨w.heap.size + 1, 0, none⟩ = some (.iface 181 (.int .i64 n)) := by
  simp
 go_enter Tryz.func236, Tryz.ntmps236
 go_wp2_with fail
 refine bodyPost_ret (res_cell2 rfl _ _ _ _ _ rfl (load_val hc)) rfl ?_
 exact ⟨rfl, hb⟩
theorem doc_look_any {w : World} {b n : Nat} {D : DataW Unit} (h : OwnN w b n D) (s : ByteArray) (hs : s.size ≤ maxLen) :
  ∃ v7, ∀ wz, Below w.heap.size w wz → (Instr.lookup 126 (.map (some b)) (.string s) false).run Tryz.prog wz = .ok (.agg #[v7]) wz ∧ (v7 = .nilIface ∨ ∃ c, v7 = .iface 181 (.int .i64 c)) := by
 cases hf : Maps.has D (.string s.data.toList) with
 | false =>
  refine ⟨.nilIface, fun wz hz => ⟨?_, .inl rfl⟩⟩
  rcases doc_look (h.block (hz.block b h.lt)) s hs with ⟨_, h1⟩ | ⟨c, h1, _⟩
  ·exact h1
  ·rw [hf] at h1; cases h1
 | true =>
  obtain ⟨c, hc⟩ : ∃ c : Int, ∀ zd, D.atKey (.string s.data.toList) zd = .lit (.int .i64 c) := by
   rcases doc_look h s hs with ⟨h1, _⟩ | ⟨c, _, h1, _⟩
   ·rw [hf] at h1; cases h1
   ·exact ⟨c, h1⟩
  refine ⟨.iface 181 (.int .i64 c), fun wz hz => ⟨?_, .inr ⟨c, rfl⟩⟩⟩
  rcases doc_look (h.block (hz.block b h.lt)) s hs with ⟨h1, _⟩ | ⟨c', _, h1, h2⟩
  ·rw [hf] at h1; cases h1
  ·have := (hc .nil).symm.trans (h1 .nil)
   simp only [DataW.lit.injEq, Lit.int.injEq, true_and] at this
   rw [this]
   exact h2
def putOp (s : ByteArray) (n : Int) : Value := .agg #[.int .i64 1, .string s, .int .i64 1, .int .i64 n, .string ⟨#[]⟩, .int .i64 0, .int .i64 0, .string ⟨#[]⟩, .int .i64 0]
set_option maxHeartbeats 2000000 in
theorem doc_do {w : World} {d o b n : Nat} {D : DataW Unit} (h : DocS w d o b n D) (hn : n < 50) (s : ByteArray) (hs : s.size ≤ maxLen) (c : Int) :
  Calls Tryz.prog 222 #[.pointer (some ⟨d, o, none⟩), putOp s c] w fun e w' => e = .returned (.int .i64 0) ∧ DocS w' d o b (n + 1) (D.put (.string s.data.toList) (.lit (.int .i64 c))) ∧ Keeps [b] w w' := by
 have HV := Lib.hid (fun (c : Int) (u : World) => value_of c u)
 unfold putOp
 have hbx := (Below.refl w.heap.size w).alloc (Nat.le_refl _) (.cells #[.int .i64 1, .string s, .int .i64 1, .int .i64 c, .string ⟨#[]⟩, .int .i64 0, .int .i64 0, .string ⟨#[]⟩, .int .i64 0] 32)
 have x0 : (w.alloc (.cells #[.int .i64 1, .string s, .int .i64 1, .int .i64 c, .string ⟨#[]⟩, .int .i64 0, .int .i64 0, .string ⟨#[]⟩, .int .i64 0] 32)).cell? ⟨w.heap.size, 0, none⟩ = some (.int .i64 1) := World.cell?_alloc_new _ _ _ _
 have x1 : (w.alloc (.cells #[.int .i64 1, .string s, .int .i64 1, .int .i64 c, .string ⟨#[]⟩, .int .i64 0, .int .i64 0, .string ⟨#[]⟩, .int .i64 0] 32)).cell? ⟨w.heap.size, 1, none⟩ = some (.string s) := World.cell?_alloc_new _ _ _ _
 have hx : w.heap.size < (w.alloc (.cells #[.int .i64 1, .string s, .int .i64 1, .int .i64 c, .string ⟨#[]⟩, .int .i64 0, .int .i64 0, .string ⟨#[]⟩, .int .i64 0] 32)).heap.size := by simp
 have hD := h.keeps (Keeps.of_below (F := []) hbx) (by simp) (by simp)
 clear h
 go_enter Tryz.func222, Tryz.ntmps222
 go_wp2_with fail
 generalize w.alloc _ = w0 at *
 refine (HV.out c _).mono ?_
 rintro e w1 ⟨rfl, hb1⟩
 have hD1 := hD.keeps (Keeps.of_below (F := []) hb1) (by simp) (by simp)
 have y0 := (hb1.cell (p := ⟨w.heap.size, 0, none⟩) hx).trans x0
 have y1 := (hb1.cell (p := ⟨w.heap.size, 1, none⟩) hx).trans x1
 have hy := Nat.lt_of_lt_of_le hx hb1.size
 have hbw := hbx.trans (hb1.mono hbx.size)
 clear hD x0 x1 hx hbx hb1 HV
 go_wp2_with fail
 have hbv := (Below.refl w1.heap.size w1).alloc (Nat.le_refl _) (.cells #[.iface 181 (.int .i64 c)] 125)
 have x5 : (w1.alloc (.cells #[.iface 181 (.int .i64 c)] 125)).cell? ⟨w1.heap.size, 0, none⟩ = some (.iface 181 (.int .i64 c)) := World.cell?_alloc_new _ _ _ _
 have hx5 : w1.heap.size < (w1.alloc (.cells #[.iface 181 (.int .i64 c)] 125)).heap.size := by simp
 have hD2 := hD1.keeps (Keeps.of_below (F := []) hbv) (by simp) (by simp)
 have z0 := (hbv.cell (p := ⟨w.heap.size, 0, none⟩) hy).trans y0
 have z1 := (hbv.cell (p := ⟨w.heap.size, 1, none⟩) hy).trans y1
 have hz := Nat.lt_of_lt_of_le hy hbv.size
 have hbz := hbw.trans (hbv.mono hbw.size)
 have hww := hbw.size
 clear hD1 y0 y1 hbw hbv
 generalize w1.alloc _ = w2 at *
 go_cut [] (fun wx => Below w2.heap.size w2 wx)
 case first =>
  obtain ⟨v7, hlk⟩ : ∃ v7, ∀ wz, Below w2.heap.size w2 wz → (Instr.lookup 126 (.map (some b)) (.string s) false).run Tryz.prog wz = .ok (.agg #[v7]) wz ∧ (v7 = .nilIface ∨ ∃ c, v7 = .iface 181 (.int .i64 c)) := doc_look_any hD2.m s hs
  refine wp_region_tail 8 (by rfl) (by kernel_rfl) (fun k => match k with | 7 => some (fun v wx => ∃ g, v = .pointer (some ⟨g, 0, none⟩) ∧ w2.heap.size ≤ g ∧ g < wx.heap.size ∧ wx.frozen? ⟨g, 0, none⟩ = false ∧ ∃ u, wx.cell? ⟨g, 0, none⟩ = some u) | _ => none) ?_ (fun vals => ?_)
  ·intro k φ hk v w1 w2 h1 h2
   match k, hk with
   | 7, hk =>
    obtain rfl := Option.some.inj hk
    obtain ⟨g, h3, h4, h5, h6, u, h7⟩ := h1
    exact ⟨g, h3, h4, Nat.lt_of_lt_of_le h5 h2.size, (h2.frozen (p := ⟨g, 0, none⟩) h5).trans h6, u, (h2.cell (p := ⟨g, 0, none⟩) h5).trans h7⟩
  dsimp only [List.take, List.drop]
  iterate 3 ((with_reducible refine sw_pure ?_ (fun K hK => ?_)); (· rfl); go_simp; with_reducible refine hK _ ?_; clear hK K)
  refine sw_at (.map (some b)) rfl rfl (fun wz hz' hH => ?_) (fun K hK => ?_)
  ·have h2 := (hz'.cell (p := ⟨d, o, none⟩) hD2.lt).trans hD2.c0
   go_simp
  go_simp; refine hK _ ?_; clear hK K
  iterate 1 ((with_reducible refine sw_pure ?_ (fun K hK => ?_)); (· rfl); go_simp; with_reducible refine hK _ ?_; clear hK K)
  refine sw_at (.string s) rfl rfl (fun wz hz' hH => ?_) (fun K hK => ?_)
  ·have h2 := (hz'.cell (p := ⟨w.heap.size, 1, none⟩) hz).trans z1
   go_simp
  go_simp; refine hK _ ?_; clear hK K
  refine sw_at (.agg #[v7]) rfl rfl (fun wz hz' hH => ?_) (fun K hK => ?_)
  ·have h2 := (hlk wz hz').1
   go_simp
  go_simp; refine hK _ ?_; clear hK K
  refine sw_call _ rfl rfl (fun wz hz' hH => ?_) (fun K hK => ?_)
  ·go_simp
   exact ⟨hz'.size, (Below.refl _ _).alloc (Nat.le_refl _) _⟩
  go_simp; refine hK _ ?_; clear hK K
  refine sw_done (fun wz hz' hH => ?_)
  obtain ⟨g, hv, hg1, hg2, hg3, u7, hg4⟩ := hH _ (List.Mem.head _)
  dsimp only at hv
  rw [hv]
  have ho := (hlk wz hz').2
  unfold tailQ
  clear hH hlk
  rcases ho with rfl | ⟨c7, rfl⟩
  all_goals
   go_wp2_with fail
   go_meet
   exact hz'.setCell hg1 _
 case rest =>
  have hD3 := hD2.keeps (Keeps.of_below (F := []) hcut) (by simp) (by simp)
  have y0 := (hcut.cell (p := ⟨w.heap.size, 0, none⟩) hz).trans z0
  have y1 := (hcut.cell (p := ⟨w.heap.size, 1, none⟩) hz).trans z1
  have y5 := (hcut.cell (p := ⟨w1.heap.size, 0, none⟩) hx5).trans x5
  have hbx := hbz.trans (hcut.mono hbz.size)
  clear hD2 z0 z1 x5 hbz
  go_wp2_with fail
  refine (doc_set hD3 hn s hs c).mono ?_
  rintro e w4 ⟨rfl, hD4, hk4⟩
  go_wp2_with fail
  go_ret
  exact ⟨rfl, hD4, (Keeps.of_below (F := [b]) hbx).trans hk4 (fun x hx => .inl hx)⟩
end Go.Proofs.YtpchmdddkpocgaaGreatDoor
namespace Go.Proofs.YtpchmdddkpocgaaGreatDoor
set_option maxRecDepth 100000
set_option linter.unusedVariables false
set_option linter.unusedSimpArgs false
open Go.ChangeShapes Go.WideShapes Go.ChangeAt Go.RowKit
def Ints (k : IntKind) (w : World) (v : Value) (zs : List Int) : Prop := Reads w v (zs.map (Value.int k)) ∧ ∀ n ∈ zs, (Lit.int k n).wf = true
theorem open_intsR {H : Type} {enc : TypeId × Value → H} {P : Program} {W : World} {base base' : Nat} {r : Reach} {t e : TypeId} {k : IntKind} {v : Value} {d : DataW H} {ps : List MemPlace}
  (ht : P.underlying t = some (.slice e)) (he : P.underlying e = some (.int k)) (hc : P.cellsOf e = 1) (hv : Value.okWide P W r base' t v) (h : DataW.Trod enc P W base (fun _ => true) true t v d ps) :
  ∃ zs, Ints k W v zs := by
 obtain ⟨a, len, cap, rfl⟩ := okWide_slice ht hv
 obtain ⟨fuel, hf⟩ := h
 rcases open_ints ht he hc hf with ⟨hcs, _⟩ | ⟨x, l, c, zs, hcs, _, hl, hm, hz, _, hcell, hwz⟩
 ·simp [Value.cells] at hcs
  obtain ⟨rfl, rfl, rfl⟩ := hcs
  exact ⟨[], ⟨none, 0, rfl, by simp, by omega, fun h => absurd rfl h⟩, by simp⟩
 ·simp [Value.cells] at hcs
  obtain ⟨rfl, rfl, rfl⟩ := hcs
  have hzl : zs.length = cap := by simpa using hz
  refine ⟨zs.take len, ⟨some x, cap, by simp; omega, by simp; omega, by simpa [maxLen] using hm, fun hne => ?_⟩, fun n hn => hwz n (List.mem_of_mem_take hn)⟩
  have h0 : 0 < len := by
   rcases Nat.eq_zero_or_pos len with e | e
   ·subst e; simp at hne
   ·exact e
  obtain ⟨b, off, spot⟩ := x
  have hc0 := hcell 0 (by omega)
  have hspot : spot = none := by simpa [Addr.add] using World.cell?_spot hc0
  subst hspot
  refine ⟨b, off, rfl, fun j hj => ?_⟩
  have hj' : j < len := by simp at hj; omega
  have := hcell j (by omega)
  rw [Addr.add_lit] at this
  rw [this]
  simp [List.getD, show j < zs.length by omega]
def RI (w : World) (v : Value) (l : List Int) : Prop := Reads w v (l.map (Value.int .i64))
theorem RI.open_ {w : World} {v : Value} {l : List Int} (h : RI w v l) : ∃ a cap, v = .slice a l.length cap ∧ l.length ≤ cap ∧ cap ≤ 9223372036854775807 ∧
  Hid (∀ k (h : k < l.length), ∃ b off, a = some ⟨b, off, none⟩ ∧ b < w.heap.size ∧ w.cell? ⟨b, off + k, none⟩ = some (.int .i64 l[k])) := by
 obtain ⟨a, cap, hv, h1, h2, hc⟩ := h
 rw [List.length_map] at hv h1
 refine ⟨a, cap, hv, h1, h2, Lib.hid fun k hk => ?_⟩
 obtain ⟨b, off, rfl, hcell⟩ := hc (by intro e; rw [List.map_eq_nil_iff] at e; subst e; simp at hk)
 have := hcell k (by rw [List.length_map]; exact hk)
 rw [List.getElem_map] at this
 exact ⟨b, off, rfl, World.block_lt_of_cell? w _ this, this⟩
def okAt (l : List Int) (i : Nat) : Bool := decide (1 ≤ l.getD i 0) && decide (l.getD i 0 ≤ 7) && (i == 0 || decide (l.getD (i - 1) 0 < l.getD i 0))
def mayC (l : List Int) : Bool := (List.range l.length).all (okAt l) && decide (0 < l.length)
theorem mayC_no {l : List Int} {k : Nat} (hk : k < l.length) (h : okAt l k = false) : mayC l = false := by
 unfold mayC
 rw [Bool.and_eq_false_iff]
 left
 rw [List.all_eq_false]
 exact ⟨k, List.mem_range.2 hk, by simp [h]⟩
theorem mayC_all {l : List Int} (h : ∀ j, j < l.length → okAt l j = true) : mayC l = decide (0 < l.length) := by
 unfold mayC
 rw [List.all_eq_true.2 (fun j hj => h j (List.mem_range.1 hj)), Bool.true_and]
theorem conf_may (v : Value) (l : List Int) (w : World) (h : RI w v l) :
  Calls Tryz.prog 55 #[v] w fun e w' => e = .returned (.bool (mayC l)) ∧ w' = w := by
 obtain ⟨a, cap, rfl, hcap, hcm, hc⟩ := h.open_
 go_enter Tryz.func55, Tryz.ntmps55
 go_wp2_with fail
 go_loop [7] (fun i => ∃ k : Nat, k ≤ l.length ∧ i = .int .i64 k ∧ Hid (∀ j, j < k → okAt l j = true)) (fun i => l.length - (intOf i).toNat)
 case atStart => exact ⟨0, by omega, rfl, Lib.hid (by intro j hj; omega)⟩
 case round =>
  obtain ⟨k, hk, rfl, hx⟩ := hrel
  by_cases hlt : k < l.length
  ·obtain ⟨b, off, rfl, hbl, hcj⟩ := hc.out k hlt
   have hd : Hid (l.getD k 0 = l[k]) := Lib.hid (by simp [List.getD, hlt])
   have hno := fun h => mayC_no hlt h
   have hso : Hid (okAt l k = true → ∀ j, j < k + 1 → okAt l j = true) := Lib.hid fun h j hj => by
    rcases Nat.lt_succ_iff_lt_or_eq.1 hj with h1 | h1
    ·exact hx.out j h1
    ·rw [h1]; exact h
   by_cases hk0 : k = 0
   ·subst hk0
    have hok : Hid (okAt l 0 = (decide (1 ≤ l[0]) && decide (l[0] ≤ 7))) := Lib.hid (by unfold okAt; rw [hd.out]; simp)
    clear hx hd
    rw [Nat.add_zero] at hcj
    generalize l[0]'hlt = x at hcj hok
    by_cases h1 : x < 1
    ·have hm := Lib.hid (hno (by rw [hok.out]; simp; omega))
     clear hno
     go_wp2_with fail
     go_ret
     exact ⟨by rw [hm.out]; rfl, rfl⟩
    ·by_cases h2 : 7 < x
     ·have hm := Lib.hid (hno (by rw [hok.out]; simp; omega))
      clear hno
      go_wp2_with fail
      go_ret
      exact ⟨by rw [hm.out]; rfl, rfl⟩
     ·have hs := Lib.hid (hso.out (by rw [hok.out]; simp; omega))
      clear hno hso
      go_wp2_with fail
      go_round
      case rel => exact ⟨1, by omega, by go_num, hs⟩
      case measure => simp [intOf]; omega
   ·obtain ⟨b', off', hbo, _, hcj'⟩ := hc.out (k - 1) (by omega)
    simp only [Option.some.injEq, Addr.mk.injEq] at hbo
    obtain ⟨rfl, rfl, -⟩ := hbo
    have hd' : Hid (l.getD (k - 1) 0 = l[k - 1]'(by omega)) := Lib.hid (by simp [List.getD, show k - 1 < l.length by omega])
    have hok : Hid (okAt l k = (decide (1 ≤ l[k]) && decide (l[k] ≤ 7) && decide (l[k - 1]'(by omega) < l[k]))) := Lib.hid (by unfold okAt; rw [hd.out, hd'.out, show (k == 0) = false from beq_eq_false_iff_ne.2 hk0, Bool.false_or])
    clear hx hd hd'
    generalize l[k]'hlt = x at hcj hok
    generalize l[k - 1]'(by omega) = y at hcj' hok
    obtain ⟨m, rfl⟩ : ∃ m, k = m + 1 := ⟨k - 1, by omega⟩
    rw [show m + 1 - 1 = m from rfl] at hcj'
    by_cases h1 : x < 1
    ·have hm := Lib.hid (hno (by rw [hok.out]; simp; omega))
     clear hno
     go_wp2_with fail
     go_ret
     exact ⟨by rw [hm.out]; rfl, rfl⟩
    ·by_cases h2 : 7 < x
     ·have hm := Lib.hid (hno (by rw [hok.out]; simp; omega))
      clear hno
      go_wp2_with fail
      go_ret
      exact ⟨by rw [hm.out]; rfl, rfl⟩
     ·by_cases h3 : x ≤ y
      ·have hm := Lib.hid (hno (by rw [hok.out]; simp; omega))
       clear hno
       go_wp2_with fail
       go_ret
       exact ⟨by rw [hm.out]; rfl, rfl⟩
      ·have hs := Lib.hid (hso.out (by rw [hok.out]; simp; omega))
       clear hno hso
       go_wp2_with fail
       go_round
       case rel => exact ⟨m + 1 + 1, by omega, by go_num, hs⟩
       case measure => simp [intOf]; omega
  ·have hkl : k = l.length := by omega
   subst hkl
   have hm := Lib.hid (mayC_all hx.out)
   go_wp2_with fail
   go_ret
   exact ⟨by rw [hm.out]; first | rfl | simp, rfl⟩
def cnt (yes : List Int) (l : List Int) : Nat := l.countP fun x => decide (x ∈ yes)
theorem info_i64 : (Tryz.prog.info? 3).map (fun i => (i.zero, i.size, i.bytes)) = some (some (.int .i64 0), 1, 8) := by kernel_rfl
def RowI (w : World) (v : Value) (l : List Int) : Prop := Row w 3 v (l.map (Value.int .i64))
theorem RowI.ri {w : World} {v : Value} {l : List Int} (h : RowI w v l) : RI w v l := Row.reads h
theorem RowI.keeps {w w' : World} {v : Value} {l : List Int} {F : List Nat} (h : RowI w v l) (hk : Keeps F w w') (hF : ∀ g, v.ownBlock = some g → g ∉ F) : RowI w' v l := Row.keeps h hk hF
theorem RowI.nil (w : World) : RowI w (.slice none 0 0) [] := Row.nil w _
theorem ints_oneCell (l : List Int) : ∀ u ∈ l.map (Value.int .i64), u.oneCell' = true := by
 intro u hu
 obtain ⟨_, _, rfl⟩ := List.mem_map.1 hu
 rfl
theorem Row.empty (w : World) (e : TypeId) : Row (w.alloc (.cells #[] e)) e (.slice (some ⟨w.heap.size, 0, none⟩) 0 0) [] := by
 refine ⟨rfl, .inr ⟨w.heap.size, 0, #[], rfl, Nat.zero_le _, ?_, Nat.le_refl _, by decide, rfl, rfl⟩⟩
 exact heap_alloc_new w _
def decC (l : List UInt8) : List Int := l.map fun c => (c.toNat : Int) - 48
theorem decC_snoc (s : ByteArray) (k : Nat) (h : k < s.size) : decC (s.data.toList.take (k + 1)) = decC (s.data.toList.take k) ++ [((s[k]).toNat : Int) - 48] := by
 have : s.data.toList.take (k + 1) = s.data.toList.take k ++ [s[k]] := by
  rw [List.take_succ_eq_append_getElem (by rw [size_data]; exact h)]; rfl
 rw [this]
 simp [decC]
set_option maxHeartbeats 1000000 in
theorem conf_decode_no (s : ByteArray) (w : World) (hs : s.size ≤ 1000000000) (hno : mayC (decC s.data.toList) = false) :
  Calls Tryz.prog 154 #[.string s] w fun e w' => e = .returned (.tuple #[.slice none 0 0, .bool false]) ∧ Below w.heap.size w w' := by
 go_enter Tryz.func154, Tryz.ntmps154
 go_wp2_with fail
 go_loopw [4, 8] (fun v i wr => ∃ k : Nat, k ≤ s.size ∧ i = .int .i64 k ∧ RowI wr v (decC (s.data.toList.take k)) ∧ (∀ g, v.ownBlock = some g → w.heap.size ≤ g) ∧ Below w.heap.size w wr) (fun _ i _ => s.size - (intOf i).toNat)
 case atStart => exact ⟨0, by omega, rfl, RowI.nil _, (fun g h => by cases h), Below.refl _ _⟩
 case round =>
  obtain ⟨k, hk, rfl, hr, hg, hbel⟩ := hrel
  have hll : (decC (s.data.toList.take k)).length ≤ 1000000000 := by
   unfold decC
   rw [List.length_map, List.length_take]
   omega
  by_cases hlt : k < s.size
  ·have HU := Lib.hid (decC_snoc s k hlt)
   have hc8 := s[k].toNat_lt
   have HG := Lib.hid hg
   have hb := fun x => (Below.refl wr.heap.size wr).alloc (Nat.le_refl _) (.cells #[Value.int .i64 x] 3)
   have hown : ∀ x, Row (wr.alloc (.cells #[Value.int .i64 x] 3)) 3 _ ((decC (s.data.toList.take k)).map (Value.int .i64)) := fun x => RowI.keeps hr (Keeps.of_below (F := []) (hb x)) (by simp)
   have hsrc := fun x : Int => Reads.fresh wr ([x].map (Value.int .i64)) 3 (0, 0) #[.int .i64 x] 1 rfl rfl (by simp)
   have HB := Lib.hid hb
   have HOWN := Lib.hid hown
   have HSRC := Lib.hid hsrc
   clear hr hg hb hown hsrc
   generalize decC (s.data.toList.take k) = Y at *
   go_wp2_with (at_builtin; refine wpList_append_row 22 3 (.int .i64 0) 8 Tryz.underlying22 info_i64 rfl rfl _ _ rfl (HOWN.out (((s[k]).toNat : Int) - 48)) (HSRC.out (((s[k]).toNat : Int) - 48)) (ints_oneCell [((s[k]).toNat : Int) - 48]) rfl rfl (by simp [maxLen]; omega) (by simp; omega) ?_)
   intro v2 w2 ho hg2 hk2
   have hbz : Below w.heap.size w w2 := (hbel.alloc hbel.size _).grown hg2 (by have := hbel.size; simp; omega) HG.out
   have hoo : RowI w2 v2 (Y ++ [((s[k]).toNat : Int) - 48]) := by unfold RowI; rw [List.map_append]; exact ho
   have hgz : ∀ g, v2.ownBlock = some g → w.heap.size ≤ g := fun g h => (hk2 g h).elim (HG.out g) (fun h => by have := hbel.size; omega)
   clear ho hg2 hk2
   go_wp2_with fail
   go_roundw
   case rel => exact ⟨k + 1, by omega, by go_num, by rw [HU.out]; exact hoo, hgz, hbz⟩
   case measure => simp [intOf]; omega
  ·obtain rfl : k = s.size := by omega
   have hri := hr.ri
   rw [List.take_of_length_le (by rw [size_data]; omega)] at hri hr hll
   obtain ⟨a4, n4, c4, rfl⟩ := Row.slice hr
   clear hr hg
   generalize decC s.data.toList = Y at *
   go_wp2_with fail
   refine (conf_may _ Y _ hri).mono ?_
   rintro e w' ⟨rfl, rfl⟩
   rw [hno]
   clear hno
   go_wp2_with fail
   go_ret2
   exact ⟨rfl, hbel⟩
end Go.Proofs.YtpchmdddkpocgaaGreatDoor
namespace Go.Proofs.YtpchmdddkpocgaaGreatDoor
set_option maxRecDepth 100000
set_option linter.unusedVariables false
set_option linter.unusedSimpArgs false
open Go.RowKit Go.Maps Go.Sort Go.Shelf
open Go.ChangeMaps (setBlock)
theorem Q.eq_self (q : Q) : Q.eq q q = true := by induction q with | e => rfl | _ q ih => exact ih
theorem leftOf_none (m : MapEntry) : leftOf #[m] #[m.born] = #[] := by simp [leftOf]
theorem next_over {P : Program} (w : World) (ty : TypeId) (r bm since c0 : Nat) (seen : Array Nat) (es : Array MapEntry) (clock : Nat) (hr : w.heap[r]? = some (.mapIter (some bm) since seen c0)) (hb : w.heap[bm]? = some (.map es clock)) (hold : ∀ x ∈ es.toList, x.born < since) (hsc : since ≤ c0) (hl : leftOf es seen = #[]) :
  (Instr.next (.pointer (some ⟨r, 0, none⟩)) false ty).run P w = .ok (.tuple #[.bool false]) w := by
 rcases run_next_at (P := P) w ty r bm since c0 seen es clock hr hb hold hsc with ⟨_, h⟩ | ⟨e, he, _⟩
 ·exact h
 ·rw [hl] at he; simp at he
theorem setBlock_heap (w : World) (r : Nat) (o : Obj) : (setBlock w r o).heap = w.heap.setIfInBounds r o := rfl
set_option maxHeartbeats 4000000 in
theorem cpF_sound : SoundF Tryz.prog 169 cpF := by
 refine ⟨enter_run (fn := Tryz.f169) (by kernel_rfl) (by kernel_rfl) (by kernel_rfl), cpF_det, fun ρ h w B args vals k E ha hk => ?_⟩
 obtain ⟨dm, s, rfl⟩ : ∃ dm s, args = [dm, s] := by
  match args, hk with
  | [], hk => cases hk
  | [_], hk => cases hk
  | _ :: _ :: _ :: _, hk => cases hk
  | [dm, s], _ => exact ⟨dm, s, rfl⟩
 obtain ⟨qd, rfl, hk1⟩ := AV.on_m_spec (show dm.on_m _ = true from hk)
 obtain ⟨q, rfl, hk2⟩ := AV.on_m_spec hk1
 rw [HT.getR_eq] at hk2
 obtain ⟨es, hg, hk3⟩ := OB.onM_spec hk2
 clear hk hk1 hk2
 obtain ⟨fs, c, hb, hr, hborn⟩ := E.map q es hg
 have hlt : (ρ q).blk < w.heap.size := (Array.getElem?_eq_some_iff.1 hb).1
 have hrg := run_range_map (P := Tryz.prog) w 126 9 125 (ρ q).blk fs c (by kernel_rfl) hb
 cases ha with
 | cons _ dv _ _ hd t =>
  cases t with
  | cons _ sv _ _ hs t2 =>
   cases t2
   cases hd
   cases hs
   match es, hr, hk3 with
   | [], hr, hk4 =>
    obtain rfl : fs = #[] := by cases hf : fs.toList with
     | nil => exact Array.toList_eq_nil_iff.1 hf
     | cons _ _ => rw [hf] at hr; cases hr
    have hnx : ∀ ty, (Instr.next (.pointer (some ⟨w.heap.size, 0, none⟩)) false ty).run Tryz.prog (w.alloc (.mapIter (some (ρ q).blk) c #[] c)) = .ok (.tuple #[.bool false]) (w.alloc (.mapIter (some (ρ q).blk) c #[] c)) := fun ty =>
     next_over _ ty _ _ _ _ _ _ _ (heap_alloc_new w _) ((heap_alloc_old w _ hlt).trans hb) (fun x hx => by simp at hx) (Nat.le_refl _) rfl
    have fin : Left Tryz.prog ρ h w B k (.returned (.tuple #[])) (w.alloc (.mapIter (some (ρ q).blk) c #[] c)) := by
     obtain ⟨E', s'⟩ := E.below ((Below.refl _ w).alloc (Nat.le_refl _) (.mapIter (some (ρ q).blk) c #[] c))
     exact ⟨ρ, h, .t [], E', s', .t [] [] .nil, hk4⟩
    clear hk4 E hg hr hborn
    go_enter Tryz.func169, Tryz.ntmps169
    go_wp2
    refine wp_loop_rounds 1 ?_
    rw [rounds_succ]
    go_wp2
    go_end0
    exact fin
   | [(x, z)], hr, hk4 =>
    obtain ⟨z0, rfl, hne, hk5⟩ : ∃ z0, z = .a [z0] ∧ nb (Q.eq qd q) = true ∧ (muD true (.m qd) x z h fun h' => k (.t []) h') = true := by
     obtain ⟨cs, rfl, hk5⟩ := AV.on_a_spec (show z.on_a _ = true from hk4)
     match cs, hk5 with
     | [], hk5 => cases hk5
     | _ :: _ :: _, hk5 => cases hk5
     | [z0], hk5 =>
      obtain ⟨a1, a2⟩ := ifT_spec hk5
      exact ⟨z0, rfl, a1, a2⟩
    clear hk4
    obtain ⟨m, rfl, hx, hz⟩ : ∃ m : MapEntry, fs = #[m] ∧ Rel ρ h.nx.num x m.key ∧ Rel ρ h.nx.num (.a [z0]) m.val := by
     cases hf : fs.toList with
     | nil => rw [hf] at hr; cases hr
     | cons m l =>
      rw [hf] at hr
      cases hr with
      | cons _ _ _ _ _ h1 h2 h3 =>
       cases h3
       exact ⟨m, Array.toList_inj.1 hf, h1, h2⟩
    obtain ⟨v0, hv0, hv1⟩ : ∃ v0, m.val = .agg #[v0] ∧ v0.oneCell' = true := by
     generalize m.val = mv at hz
     cases hz with
     | a _ vs h1 h2 =>
      cases h1 with
      | cons _ v _ _ _ h3 =>
       cases h3
       exact ⟨v, rfl, h2 v (by simp)⟩
    have hqd : h.live qd := by
     have hk6 : ((HT.getR qd h.t).onM fun es => muK true x (.a [z0]) es fun es' => HT.setK (.mp es') qd h.t fun t' => k (.t []) (.mk t' h.nx)) = true := hk5
     rw [HT.getR_eq] at hk6
     obtain ⟨es, hg', _⟩ := OB.onM_spec hk6
     rw [Hp.live, hg']
     simp
    have hbne : (ρ qd).blk ≠ (ρ q).blk := fun e => by
     have := E.inj qd q hqd (by rw [Hp.live, hg]; simp) e
     rw [this, Q.eq_self] at hne
     cases hne
    have hdlt : (ρ qd).blk < w.heap.size := by
     have hk6 : ((HT.getR qd h.t).onM fun es => muK true x (.a [z0]) es fun es' => HT.setK (.mp es') qd h.t fun t' => k (.t []) (.mk t' h.nx)) = true := hk5
     rw [HT.getR_eq] at hk6
     obtain ⟨es, hg', _⟩ := OB.onM_spec hk6
     obtain ⟨_, _, hb', _⟩ := E.map qd es hg'
     exact (Array.getElem?_eq_some_iff.1 hb').1
    have hmb : m.born < c := hborn m (by simp)
    have mu : ∀ W, Below w.heap.size w W → ∃ W2 o, (Instr.mapUpdate 126 (.map (some (ρ qd).blk)) m.key (.agg #[v0])).run Tryz.prog W = .ok () W2 ∧ W2.heap = W.heap.setIfInBounds (ρ qd).blk o ∧ Left Tryz.prog ρ h w B k (.returned (.tuple #[])) W2 := fun W hW => by
     obtain ⟨E', s'⟩ := E.below hW
     obtain ⟨fs', c', h', h1, h2, h3, h4⟩ := muD_run (kt := 9) (et := 125) E' (t := 126) (by kernel_rfl) (by kernel_rfl) hx (hv0 ▸ hz) hk5
     exact ⟨_, _, h1, rfl, ρ, h', .t [], h2, s'.trans h3, .t [] [] .nil, h4⟩
    obtain ⟨wA, hnx1, hAr, hAb, hBA, hsA⟩ : ∃ wA : World, (∀ ty, (Instr.next (.pointer (some ⟨w.heap.size, 0, none⟩)) false ty).run Tryz.prog (w.alloc (.mapIter (some (ρ q).blk) c #[] c)) = .ok (.tuple #[.bool true, m.key, .agg #[v0]]) wA) ∧
      wA.heap[w.heap.size]? = some (.mapIter (some (ρ q).blk) c #[m.born] c) ∧ wA.heap[(ρ q).blk]? = some (.map #[m] c) ∧ Below w.heap.size w wA ∧ w.heap.size < wA.heap.size := by
     have hrun : ∀ ty, (Instr.next (.pointer (some ⟨w.heap.size, 0, none⟩)) false ty).run Tryz.prog (w.alloc (.mapIter (some (ρ q).blk) c #[] c)) = .ok (.tuple #[.bool true, m.key, .agg #[v0]]) (setBlock (w.alloc (.mapIter (some (ρ q).blk) c #[] c)) w.heap.size (.mapIter (some (ρ q).blk) c #[m.born] c)) := fun ty => by
      have g1 : (getObj w.heap.size).run Tryz.prog (w.alloc (.mapIter (some (ρ q).blk) c #[] c)) = .ok (.mapIter (some (ρ q).blk) c #[] c) (w.alloc (.mapIter (some (ρ q).blk) c #[] c)) := run_getObj' (heap_alloc_new w _) (by intro _ _ _ e; cases e)
      have g2 : (getObj (ρ q).blk).run Tryz.prog (w.alloc (.mapIter (some (ρ q).blk) c #[] c)) = .ok (.map #[m] c) (w.alloc (.mapIter (some (ρ q).blk) c #[] c)) := run_getObj' ((heap_alloc_old w _ hlt).trans hb) (by intro _ _ _ e; cases e)
      have g3 : (choose (Question.mapNext 1)).run Tryz.prog (w.alloc (.mapIter (some (ρ q).blk) c #[] c)) = .ok 0 (w.alloc (.mapIter (some (ρ q).blk) c #[] c)) := by simp [choose, Sem.run, Question.forced]
      have g4 : (setObj w.heap.size (.mapIter (some (ρ q).blk) c #[m.born] c)).run Tryz.prog (w.alloc (.mapIter (some (ρ q).blk) c #[] c)) = .ok () (setBlock (w.alloc (.mapIter (some (ρ q).blk) c #[] c)) w.heap.size (.mapIter (some (ρ q).blk) c #[m.born] c)) := run_setObj_at (heap_alloc_new w _) _
      simp only [Instr.next, Sem.run_bind, g1, g2, Result.andThen]
      have hnl : ¬ c ≤ m.born := by omega
      simp [hnl, hmb, hv0, g4, Result.andThen, Question.forced]
     refine ⟨_, hrun, ?_, ?_, ?_, ?_⟩
     ·rw [setBlock_heap, Array.getElem?_setIfInBounds_self_of_lt (by simp)]
     ·rw [setBlock_heap, Array.getElem?_setIfInBounds_ne (by omega)]
      exact (heap_alloc_old w _ hlt).trans hb
     ·refine ⟨rfl, rfl, rfl, by rw [setBlock_heap]; simp, fun j hj => ?_⟩
      rw [setBlock_heap, Array.getElem?_setIfInBounds_ne (by omega)]
      exact heap_alloc_old w _ hj
     ·rw [setBlock_heap]; simp
    have hen : (Instr.entry (.pointer (some ⟨w.heap.size, 0, none⟩))).run Tryz.prog wA = .ok (.tuple #[m.key, .agg #[v0]]) wA := hv0 ▸ run_entry_at wA w.heap.size (ρ q).blk c #[] #[m] c m hAr hAb (by simp) (by simp)
    have hst : (store ⟨wA.heap.size, 0, none⟩ v0).run Tryz.prog (wA.alloc (.cells #[.nilIface] 125)) = .ok () ((wA.alloc (.cells #[.nilIface] 125)).setCell ⟨wA.heap.size, 0, none⟩ v0) := by
     rw [run_store _ _ _ _ _ hv1]
     simp
    obtain ⟨W2, o2, hmu, hW2, fin⟩ := mu (wA.alloc (.cells #[v0] 125)) (hBA.alloc (by omega) _)
    clear mu
    have hheap : ∀ j, j < wA.heap.size → j ≠ (ρ qd).blk → W2.heap[j]? = wA.heap[j]? := fun j hj hne => by
     rw [hW2, Array.getElem?_setIfInBounds_ne (Ne.symm hne), Below.heap_alloc _ _ _ hj]
    have hnx2 : ∀ ty, (Instr.next (.pointer (some ⟨w.heap.size, 0, none⟩)) false ty).run Tryz.prog W2 = .ok (.tuple #[.bool false]) W2 := fun ty =>
     next_over W2 ty _ _ _ _ _ _ _ ((hheap _ hsA (by omega)).trans hAr) ((hheap _ (by omega) (Ne.symm hbne)).trans hAb) (fun x hx => by simp at hx; subst hx; exact hmb) (Nat.le_refl _) (leftOf_none m)
    clear hheap hW2
    clear hk5 hg hr hborn hb hne hqd E hx hz hk3
    go_enter Tryz.func169, Tryz.ntmps169
    go_wp2
    refine wp_loop_rounds 2 ?_
    rw [rounds_succ]
    go_wp2_with fail
    rw [rounds_succ]
    go_wp2_with fail
    go_end0
    exact fin
set_option maxHeartbeats 1000000 in
theorem keys1_none (F : Fence) (n : Nat) (h10 : F.fn 180) (hro : F.round = none) (l : Nat) (p : Addr) (b c : Nat) (J : List (List UInt8) → World → Prop) (W : World) (hJ : AbidesFrom W.heap.size J)
  (hm : W.cell? p = some (.map (some b))) (hb : W.heap[b]? = some (.map #[] c)) (h0 : J [] W) :
  CallsIn F n Tryz.prog 180 #[.func (.yield l) #[] #[], .pointer (some p)] W fun e W' => (∃ v, e = .returned v) ∧ ∃ ss : List (List UInt8), ss = [] ∧ J ss W' := by
 refine callsIn_of_wp Tryz.func180 rfl h10 ?_ hro
 simp only [Tryz.ntmps180, List.size_toArray, List.length_cons, List.length_nil, Nat.reduceAdd, Nat.reduceSub, Array.replicate_succ, Array.replicate_zero, List.push_toArray, List.append_toArray, List.nil_append, List.cons_append]
 have hlt : b < W.heap.size := (Array.getElem?_eq_some_iff.1 hb).1
 have hrg := run_range_map (P := Tryz.prog) W 131 9 202 b #[] c (by kernel_rfl) hb
 have hnx : ∀ ty, (Instr.next (.pointer (some ⟨W.heap.size, 0, none⟩)) false ty).run Tryz.prog (W.alloc (.mapIter (some b) c #[] c)) = .ok (.tuple #[.bool false]) (W.alloc (.mapIter (some b) c #[] c)) := fun ty =>
  next_over _ ty _ _ _ _ _ _ _ (heap_alloc_new W _) ((heap_alloc_old W _ hlt).trans hb) (fun x hx => by simp at hx) (Nat.le_refl _) rfl
 gi_wp2
 refine wpIn_loop_rounds 1 ?_
 rw [roundsIn_succ]
 gi_wp2
 go_end0
 exact ⟨⟨_, rfl⟩, [], rfl, hJ [] W _ none h0 (World.grownBy_alloc W _ none) (fun r e => by cases e)⟩
def rn : Ren := ⟨fun f => match f with | 8 => 178 | 11 => 216 | _ => 180,
 fun t => match t with | 0 => 0 | 4 => 4 | 24 => 137 | 26 => 9 | 28 => 200 | _ => 120, fun _ => 0⟩
theorem collL : SlLaysZ.n8 Tryz.prog rn where
 mixed := by kernel_rfl
 f8 := ⟨ "slices.Collect[string]", by decide, by kernel_rfl⟩
 f11 := ⟨ "slices.AppendSeq[[]string,string]", by decide, by kernel_rfl⟩
 t0 := by kernel_rfl
 a0 := fun _ => by kernel_rfl
 z0 := fun _ => by kernel_rfl
 v0 := fun _ => by kernel_rfl
 t24 := by kernel_rfl
 a24 := fun _ => by kernel_rfl
 z24 := fun _ => by kernel_rfl
 v24 := fun _ => by kernel_rfl
 t26 := by kernel_rfl
 a26 := fun _ => by kernel_rfl
 z26 := fun _ => by kernel_rfl
 v26 := fun _ => by kernel_rfl
 t28 := by kernel_rfl
 a28 := fun _ => by kernel_rfl
 z28 := fun _ => by kernel_rfl
 v28 := fun _ => by kernel_rfl
 i26 := by kernel_rfl
theorem collect_none (p : Addr) (b c : Nat) (w : World) (hm : w.cell? p = some (.map (some b))) (hb : w.heap[b]? = some (.map #[] c)) (hp : p.block < w.heap.size) :
  Calls Tryz.prog 178 #[.func (.func 180) #[] #[.pointer (some p)]] w fun e w' => e = .returned (.slice none 0 0) ∧ Below w.heap.size w w' := by
 refine calls_of_every_depth (L := [178, 216, 180]) (n := 4) fun D => ?_
 have hlt : b < w.heap.size := (Array.getElem?_eq_some_iff.1 hb).1
 have key := AnyZ.collect_in (ρ := rn) collL (Fence.list [178, 216, 180] (some D)) 4 (by simp [Fence.list, rn]) (by simp [Fence.list, rn]) rfl (by decide)
  180 #[.pointer (some p)] (by simp [Fence.list]) (enter_run (fn := Tryz.f180) (by kernel_rfl) (by kernel_rfl) (by kernel_rfl)) (fun ss => ss = []) 0 (by decide) (by decide) w
  (fun l J W hW hJ _ h0 => keys1_none _ _ (by simp [Fence.list]) rfl l p b c J W hJ ((hW.cell hp).trans hm) ((hW.block b hlt).trans hb) h0)
 refine CallsIn.mono key ?_
 rintro e w' ⟨v, ss, rfl, hs, _, hv, hB⟩
 exact ⟨by rw [hv.2 hs], hB⟩
set_option maxHeartbeats 1000000 in
theorem soF_sound {s : FS} (hs : SoundF Tryz.prog 179 s) (he : s [.ns] h00 (fun y _ => y.on_t fun l => l.isEmpty) = true) : SoundF Tryz.prog 99 (soF 180) := by
 refine ⟨enter_run (fn := Tryz.f99) (by kernel_rfl) (by kernel_rfl) (by kernel_rfl), soF_det _, fun ρ h w B args vals k E ha hk => ?_⟩
 obtain ⟨f, rfl⟩ : ∃ f, args = [f] := by
  match args, hk with
  | [], hk => cases hk
  | _ :: _ :: _, hk => cases hk
  | [f], _ => exact ⟨f, rfl⟩
 obtain ⟨g, fs, cs, rfl, hk1⟩ := AV.on_f_spec (show f.on_f _ = true from hk)
 obtain ⟨rfl, hk2⟩ := ifT_eq hk1
 clear hk hk1
 match fs, cs, hk2 with
 | [], [pc], hk3 =>
  obtain ⟨q0, o, rfl, hk4⟩ := AV.on_p_spec (show ld1 pc h _ = true from hk3)
  rw [HT.getR_eq] at hk4
  obtain ⟨ty, n, v, hg0, hk5⟩ := OB.on_spec hk4
  obtain ⟨ho, hk6⟩ := ifT_spec hk5
  obtain ⟨q, hq, hk7⟩ := AV.on_m_spec hk6
  rw [HT.getR_eq] at hk7
  obtain ⟨es, hg, hk8⟩ := OB.onM_spec hk7
  cases es with
  | cons _ _ => cases hk8
  | nil =>
   have hk9 : k .ns h = true := hk8
   obtain ⟨x, hx, hrx, _⟩ := (E.row q0 ty n v hg0).get o (by simpa using ho)
   rw [hq] at hrx
   cases hrx with
   | m _ hqn =>
    obtain ⟨fs, c, hb, hr, _⟩ := E.map q [] hg
    obtain rfl : fs = #[] := by cases hf : fs.toList with
     | nil => exact Array.toList_eq_nil_iff.1 hf
     | cons _ _ => rw [hf] at hr; cases hr
    have hp : ((⟨(ρ q0).blk, (ρ q0).base + o, none⟩ : Addr)).block < w.heap.size := by
     unfold World.cell? at hx
     cases hxx : w.heap[(ρ q0).blk]? with
     | none => simp [hxx] at hx
     | some _ => exact (Array.getElem?_eq_some_iff.1 hxx).1
    cases ha with
    | cons _ fv _ _ hf t =>
     cases t
     cases hf with
     | f _ _ _ us vs h1 h2 =>
      cases h1
      cases h2 with
      | cons _ pv _ _ hpv t2 =>
       cases t2
       cases hpv
       have cC := collect_none _ _ c w hx hb hp
       have fin : ∀ w', Below w.heap.size w w' → Left Tryz.prog ρ h w B k (.returned (.slice none 0 0)) w' := fun w' hw => by
        obtain ⟨E', s'⟩ := E.below hw
        exact ⟨ρ, h, .ns, E', s', .ns, hk9⟩
       have hTw : ∀ w' : World, Below w.heap.size w w' → Tabs Tryz.prog w'.heap.size w' := fun w' hw => by
        obtain ⟨w0, a1, a2, a3⟩ := E.tab
        have a4 := E.base
        have a5 := hw.size
        exact ⟨w0, a1, by omega, fun b hb => (hw.block b (by omega)).trans (a3 b hb)⟩
       have cS := fun (w' : World) (hw : Below w.heap.size w w') => hs.unit0 (ρ := ρ) (.cons _ _ _ _ .ns .nil) he w' (hTw w' hw)
       clear hk3 hk4 hk5 hk6 hk7 hk8 hk9 E hx hb hg hg0 hr
       go_enter Tryz.func99, Tryz.ntmps99
       go_wp2_with fail
       refine cC.mono ?_
       rintro e w1 ⟨rfl, hb1⟩
       go_wp2_with fail
       refine (cS _ hb1).mono ?_
       rintro e w2 ⟨rfl, hb2⟩
       go_wp2_with fail
       go_ret
       exact fin _ (hb1.trans (hb2.mono hb1.size))
end Go.Proofs.YtpchmdddkpocgaaGreatDoor
