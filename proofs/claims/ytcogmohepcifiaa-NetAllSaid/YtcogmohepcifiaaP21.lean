/-
  No claim by itself: what the laws on messages begin with: Cut, begun. | 'append(b, make([]byte, n)...)': b the call's own: n noughts more. No condition.
-/
import Derived.Test.YtcogmohepcifiaaP20
import Derived.Test.YtcogmohepcifiaaP9
import Derived.Test.YtcogmohepcifiaaP3
import Derived.Lib.AppendZerosOnto
namespace Go.Proofs.Ytcogmohepcifiaa
open Go.ChangeShapes Go.WideShapes Go.ChangeAt Go.RowKit

def cutM (m : Msg) : Msg := { m with es := cutEnts m.es 10, s := cutSnap m.s }
def Msg.wf (m : Msg) : Prop := (∀ e ∈ m.es, e.wf) ∧ m.s.wf
def RetCut (w : World) (m : Msg) (e : Ending) (w' : World) : Prop := ∃ v, e = .returned (msgAgg v (cutM m)) ∧ EntO w' w.heap.size v (cutM m).es ∧ Below w.heap.size w w'

set_option maxRecDepth 100000 in
set_option maxHeartbeats 4000000 in
theorem law_cut (v : Value) (m : Msg) (w : World) (h : EntR w v m.es) (hl : m.es.length ≤ 9223372036854775807) (hw : m.wf) :
    Calls Try.prog 11 #[msgAgg v m] w fun e w' => RetCut w m e w' := by
  obtain ⟨a, cap, rfl⟩ := h.slice
  have hde : ∀ e ∈ m.es, e.d.size ≤ 9223372036854775807 := fun e he => (hw.1 e he).2.2.2
  have hsc : m.s.c.size ≤ 9223372036854775807 := hw.2.2.2.1
  have hsd : m.s.d.size ≤ 9223372036854775807 := hw.2.2.2.2
  have HC : Hid (cutM m = { m with es := cutEnts m.es 10, s := cutSnap m.s }) := Lib.hid rfl
  unfold RetCut
  generalize cutM m = CM at *
  obtain ⟨mk, mf, mo, mt, mi, ml, mc, my, es, ⟨si, st, sc, sd⟩⟩ := m
  dsimp only at *
  have hX := msgS_box w (.slice a es.length cap) ⟨mk, mf, mo, mt, mi, ml, mc, my, es, ⟨si, st, sc, sd⟩⟩ 30
  have hbx := (Below.refl w.heap.size w).alloc (Nat.le_refl _) (.cells #[.int .i64 mk, .int .i64 mf, .int .i64 mo, .int .i64 mt, .int .i64 mi, .int .i64 ml, .int .i64 mc, .bool my, .slice a es.length cap, .int .i64 si, .int .i64 st, .string sc, .string sd] 30)
  dsimp only at hX
  have hbz := hbx.alloc hbx.size (.cells #[.int .i64 0, .int .i64 0, .int .i64 0, .int .i64 0, .int .i64 0, .int .i64 0, .int .i64 0, .bool false, .slice none 0 0, .int .i64 0, .int .i64 0, .string ⟨#[]⟩, .string ⟨#[]⟩] 30)
  have hbA := (Below.refl _ (w.alloc (.cells #[.int .i64 mk, .int .i64 mf, .int .i64 mo, .int .i64 mt, .int .i64 mi, .int .i64 ml, .int .i64 mc, .bool my, .slice a es.length cap, .int .i64 si, .int .i64 st, .string sc, .string sd] 30))).alloc (Nat.le_refl _) (.cells #[.int .i64 0, .int .i64 0, .int .i64 0, .int .i64 0, .int .i64 0, .int .i64 0, .int .i64 0, .bool false, .slice none 0 0, .int .i64 0, .int .i64 0, .string ⟨#[]⟩, .string ⟨#[]⟩] 30)
  have hZ := msgS_box (w.alloc (.cells #[.int .i64 mk, .int .i64 mf, .int .i64 mo, .int .i64 mt, .int .i64 mi, .int .i64 ml, .int .i64 mc, .bool my, .slice a es.length cap, .int .i64 si, .int .i64 st, .string sc, .string sd] 30)) (.slice none 0 0) zM 30
  unfold zM at hZ
  dsimp only at hZ
  rw [show (w.alloc (.cells #[.int .i64 mk, .int .i64 mf, .int .i64 mo, .int .i64 mt, .int .i64 mi, .int .i64 ml, .int .i64 mc, .bool my, .slice a es.length cap, .int .i64 si, .int .i64 st, .string sc, .string sd] 30)).heap.size = w.heap.size + 1 from by simp] at hZ
  have hX := hX.below hbA
  have hE := (h.below hbx).below hbA
  clear h hbx hbA hw
  unfold msgAgg
  dsimp only
  go_enter Try.func11, Try.ntmps11
  go_wp2_with fail
  refine (law_entries _ es 10 _ hE hl (by omega) hde).mono ?_
  rintro e w1 ⟨v1, rfl, ho1, hb1⟩
  have hbw := hbz.trans (hb1.mono hbz.size)
  have hX1 := hX.below hb1
  have hZ1 := hZ.below hb1
  replace ho1 := ho1.rebase (base' := w.heap.size + 2) (by simp)
  have hlt1 := hZ1.lt
  obtain ⟨a1, c1, rfl⟩ := ho1.r.slice
  clear hX hZ hbz hb1 hE
  generalize ((w.alloc _).alloc _) = w0 at *
  have x8 := hX1.c8
  have xf := hX1.fr
  try dsimp only at x8
  have hk8 : Keeps [w.heap.size] w1 (w1.setCell ⟨w.heap.size, 8, none⟩ (.slice a1 (cutEnts es 10).length c1)) := (Keeps.refl _ w1).setCell (.inl (by simp)) _
  have hX2 := hX1.setV (.slice a1 (cutEnts es 10).length c1) (cutEnts es 10)
  have hZ2 := hZ1.keeps hk8 (by simp)
  have ho2 := ho1.keeps hk8 (by simp)
  have hb2 := hbw.trans (hk8.below (B := w.heap.size) (by simp) hbw.size)
  dsimp only at hX2
  have y9 := hX2.c9
  have y10 := hX2.c10
  have y11 := hX2.c11
  have y12 := hX2.c12
  dsimp only at y9 y10 y11 y12
  clear hX1 hZ1 hk8 ho1 hbw
  have HX2 := Lib.hid hX2
  have HZ2 := Lib.hid hZ2
  have HO2 := Lib.hid ho2
  have HB2 := Lib.hid hb2
  clear hX2 hZ2 ho2 hb2
  generalize cutEnts es 10 = CE at *
  go_wp2_with fail
  refine (law_snap ⟨si, st, sc, sd⟩ _ hsc hsd).mono ?_
  rintro e w3 ⟨rfl, hb3⟩
  unfold snpAgg cutSnap
  dsimp only
  have HC2 : Hid (CM = ⟨mk, mf, mo, mt, mi, ml, mc, my, CE, ⟨si, st, takeB sc 60, takeB sd 100⟩⟩) := Lib.hid HC.out
  clear HC
  generalize takeB sc 60 = SC at *
  generalize takeB sd 100 = SD at *
  have hX3 := HX2.out.below hb3
  have hZ3 := HZ2.out.below hb3
  have ho3 := HO2.out.below hb3
  have hb4 := HB2.out.trans (hb3.mono HB2.out.size)
  have y9 := hX3.c9
  have y10 := hX3.c10
  have y11 := hX3.c11
  have y12 := hX3.c12
  have yf := hX3.fr
  dsimp only at y9 y10 y11 y12
  clear HX2 HZ2 HO2 HB2 hb3
  go_upto_region 3 with fail
  have hX5 := (((hX3.setSI si).setST st).setSC SC).setSD SD
  have hkk : Keeps [w.heap.size] w3 _ := ((((Keeps.refl [w.heap.size] w3).setCell (p := ⟨w.heap.size, 9, none⟩) (.inl (by simp)) (.int .i64 si)).setCell (p := ⟨w.heap.size, 10, none⟩) (.inl (by simp)) (.int .i64 st)).setCell (p := ⟨w.heap.size, 11, none⟩) (.inl (by simp)) (.string SC)).setCell (p := ⟨w.heap.size, 12, none⟩) (.inl (by simp)) (.string SD)
  have hZ5 := hZ3.keeps hkk (by simp)
  have ho5 := ho3.keeps hkk (by simp)
  have hb5 := hb4.trans (hkk.below (B := w.heap.size) (by simp) hb4.size)
  dsimp only at hX5
  clear hX3 hZ3 ho3 hb4 y9 y10 y11 y12 yf hkk
  generalize (((w3.setCell _ _).setCell _ _).setCell _ _).setCell _ _ = w5 at *
  have z0 := hZ5.c0
  have z1 := hZ5.c1
  have z2 := hZ5.c2
  have z3 := hZ5.c3
  have z4 := hZ5.c4
  have z5 := hZ5.c5
  have z6 := hZ5.c6
  have z7 := hZ5.c7
  have z8 := hZ5.c8
  have z9 := hZ5.c9
  have z10 := hZ5.c10
  have z11 := hZ5.c11
  have z12 := hZ5.c12
  have zf := hZ5.fr
  have y0 := hX5.c0
  have y1 := hX5.c1
  have y2 := hX5.c2
  have y3 := hX5.c3
  have y4 := hX5.c4
  have y5 := hX5.c5
  have y6 := hX5.c6
  have y7 := hX5.c7
  have y8 := hX5.c8
  have y9 := hX5.c9
  have y10 := hX5.c10
  have y11 := hX5.c11
  have y12 := hX5.c12
  dsimp only at z0 z1 z2 z3 z4 z5 z6 z7 z9 z10 z11 z12 y0 y1 y2 y3 y4 y5 y6 y7 y9 y10 y11 y12
  have hz0 := hZ5.setAll (v' := .slice a1 CE.length c1) (m' := ⟨mk, mf, mo, mt, mi, ml, mc, my, CE, ⟨si, st, SC, SD⟩⟩)
  have hkz := keeps_msgTo w5 (w.heap.size + 1) (.slice a1 CE.length c1) ⟨mk, mf, mo, mt, mi, ml, mc, my, CE, ⟨si, st, SC, SD⟩⟩
  have hret : EntO (msgTo w5 (w.heap.size + 1) (.slice a1 CE.length c1) ⟨mk, mf, mo, mt, mi, ml, mc, my, CE, ⟨si, st, SC, SD⟩⟩) w.heap.size (.slice a1 CE.length c1) CE ∧ Below w.heap.size w (msgTo w5 (w.heap.size + 1) (.slice a1 CE.length c1) ⟨mk, mf, mo, mt, mi, ml, mc, my, CE, ⟨si, st, SC, SD⟩⟩) :=
    ⟨(ho5.keeps hkz (by simp)).rebase (by omega), hb5.trans (hkz.below (B := w.heap.size) (by simp) hb5.size)⟩
  have HR := Lib.hid hret
  have HZ := Lib.hid hz0
  clear hz0 hkz hret ho5 hZ5 hX5 hb5
  go_wp2_with fail
  refine bodyPost_ret (results_cell1 rfl _ _ _ _ _ rfl (load_msg HZ.out)) rfl ?_
  rw [HC2.out]
  exact ⟨_, rfl, HR.out.1, HR.out.2⟩

def m4 : Msg := ⟨4, 1, 2, 3, 4, 0, 0, true, [], ⟨0, 0, ⟨#[]⟩, ⟨#[]⟩⟩⟩
theorem m4_may : mayM m4 = true := by decide +kernel
theorem zM_no : mayM zM = false := by decide +kernel

set_option maxRecDepth 100000 in
set_option maxHeartbeats 4000000 in
theorem msg_begun (w : World) : Calls Try.prog 7 #[] w fun e w' => e = .returned (.bool true) ∧ Below w.heap.size w w' := by
  have hX := msgS_box w (.slice none 0 0) m4 30
  have hb := (Below.refl w.heap.size w).alloc (Nat.le_refl _) (.cells #[.int .i64 4, .int .i64 1, .int .i64 2, .int .i64 3, .int .i64 4, .int .i64 0, .int .i64 0, .bool true, .slice none 0 0, .int .i64 0, .int .i64 0, .string ⟨#[]⟩, .string ⟨#[]⟩] 30)
  have HM := Lib.hid m4_may
  have HZ := Lib.hid zM_no
  have hl := encM_len m4
  have hp := encM_pos m4_may
  unfold m4 at hX
  dsimp only at hX
  go_enter Try.func7, Try.ntmps7
  go_wp2_with fail
  generalize w.alloc _ = w0 at *
  refine (msg_encode (.slice none 0 0) m4 _ (EntR.nil _ _ _ (by omega)) (by unfold m4; simp) (by unfold m4; show (0 : Nat) ≤ 1000000000; omega)).mono ?_
  rintro e w1 ⟨v1, rfl, ho1, hb1, -⟩
  have hX1 := hX.below hb1
  have hbw := hb.trans (hb1.mono hb.size)
  clear hX hb hb1
  generalize hEE : encM m4 = E at *
  have HEE := Lib.hid hEE
  clear hEE
  obtain ⟨a1, c1, rfl⟩ := ho1.len
  go_wp2_with fail
  refine (msg_decode _ E _ ho1.bytes (by omega)).mono ?_
  rintro e w2 ⟨hb2, hd⟩
  obtain ⟨xv, rfl, hxv⟩ : ∃ xv, e = .returned (.tuple #[msgAgg xv m4, .int .i64 0]) ∧ EntR w2 xv m4.es := by
    rcases hd with ⟨xv, m, he, hr, hm, hE⟩ | ⟨he, hno⟩
    · obtain rfl := encM_inj hm HM.out (by rw [hE, HEE.out])
      exact ⟨xv, he, hr⟩
    · exact absurd HEE.out (hno m4 HM.out)
  have hX2 := hX1.below hb2
  have hbw2 := hbw.trans (hb2.mono hbw.size)
  obtain ⟨ax, cx, rfl⟩ := hxv.slice
  clear hX1 hbw hb2 hd ho1
  unfold msgAgg m4 at *
  dsimp only at *
  have hbB := (Below.refl w2.heap.size w2).alloc (Nat.le_refl _) (.cells #[.int .i64 4, .int .i64 1, .int .i64 2, .int .i64 3, .int .i64 4, .int .i64 0, .int .i64 0, .bool true, .slice ax 0 cx, .int .i64 0, .int .i64 0, .string ⟨#[]⟩, .string ⟨#[]⟩] 30)
  have hY3 := msgS_box w2 (.slice ax 0 cx) ⟨4, 1, 2, 3, 4, 0, 0, true, [], ⟨0, 0, ⟨#[]⟩, ⟨#[]⟩⟩⟩ 30
  have hX3 := hX2.below hbB
  have hxv3 := hxv.below hbB
  have hbw3 := hbw2.trans (hbB.mono hbw2.size)
  dsimp only at hY3
  clear hX2 hxv hbB hbw2
  go_wp2_with fail
  generalize w2.alloc _ = w3 at *
  refine (msg_decode (.slice none 0 0) [] _ (Bytes.nil _ _ _ (by omega)) (by simp)).mono ?_
  rintro e w4 ⟨hb4, hd⟩
  obtain rfl : e = .returned (.tuple #[msgAgg (.slice none 0 0) zM, .int .i64 1]) := by
    rcases hd with ⟨xv, m, he, hr, hm, hE⟩ | ⟨he, hno⟩
    · have := encM_pos hm
      rw [hE] at this
      simp at this
    · exact he
  have hbB := (Below.refl w4.heap.size w4).alloc (Nat.le_refl _) (.cells #[.int .i64 0, .int .i64 0, .int .i64 0, .int .i64 0, .int .i64 0, .int .i64 0, .int .i64 0, .bool false, .slice none 0 0, .int .i64 0, .int .i64 0, .string ⟨#[]⟩, .string ⟨#[]⟩] 30)
  have hX6 := (hX3.below hb4).below hbB
  have hY6 := (hY3.below hb4).below hbB
  have hxv6 := (hxv3.below hb4).below hbB
  have hbw6 := (hbw3.trans (hb4.mono hbw3.size)).trans (hbB.mono (Nat.le_trans hbw3.size hb4.size))
  clear hX3 hY3 hxv3 hbw3 hb4 hd hbB
  unfold msgAgg zM
  dsimp only
  have c0 := hX6.c0
  have c1 := hX6.c1
  have c2 := hX6.c2
  have c3 := hX6.c3
  have c4 := hX6.c4
  have c5 := hX6.c5
  have c6 := hX6.c6
  have c7 := hX6.c7
  have c8 := hX6.c8
  have c9 := hX6.c9
  have c10 := hX6.c10
  have c11 := hX6.c11
  have c12 := hX6.c12
  have d0 := hY6.c0
  have d1 := hY6.c1
  have d2 := hY6.c2
  have d3 := hY6.c3
  have d4 := hY6.c4
  have d5 := hY6.c5
  have d6 := hY6.c6
  have d7 := hY6.c7
  have d8 := hY6.c8
  have d9 := hY6.c9
  have d10 := hY6.c10
  have d11 := hY6.c11
  have d12 := hY6.c12
  dsimp only at c0 c1 c2 c3 c4 c5 c6 c7 c9 c10 c11 c12 d0 d1 d2 d3 d4 d5 d6 d7 d9 d10 d11 d12
  have HX := Lib.hid hX6
  clear hX6 hY6
  go_wp2_with fail
  refine (eq_msgG (.slice none 0 0) (.slice ax 0 cx) ⟨4, 1, 2, 3, 4, 0, 0, true, [], ⟨0, 0, ⟨#[]⟩, ⟨#[]⟩⟩⟩ ⟨4, 1, 2, 3, 4, 0, 0, true, [], ⟨0, 0, ⟨#[]⟩, ⟨#[]⟩⟩⟩ _ (EntR.nil _ _ _ (by omega)) hxv6 (by simp) (by simp)).mono ?_
  rintro e w7 ⟨rfl, hb7⟩
  rw [eqM_iff.2 rfl]
  have hbw7 := hbw6.trans (hb7.mono hbw6.size)
  go_wp2_with fail
  refine (msg_encode (.slice none 0 0) zM _ (EntR.nil _ _ _ (by omega)) (by unfold zM; simp) (by unfold zM; show (0 : Nat) ≤ 1000000000; omega)).mono ?_
  rintro e w8 ⟨v8, rfl, -, hb8, hv8⟩
  obtain rfl := hv8 HZ.out
  go_wp2_with fail
  go_ret
  exact ⟨rfl, hbw7.trans (hb8.mono hbw7.size)⟩
end Go.Proofs.Ytcogmohepcifiaa
namespace Go.Proofs.Ytcogmohepcifiaa
open Go.RowKit

theorem zeroCells_u8 (n : Nat) : (Builtin.zeroCells (Value.int .u8 0).cells n).toList = (List.replicate n (0 : UInt8)).map byteV := by
  rw [map_replicate0]
  apply List.ext_getElem
  · simp [Builtin.zeroCells, Value.cells]
  · intro i h1 h2
    simp [Builtin.zeroCells, Value.cells, Nat.mod_one]

section
variable {P : Program}
theorem run_append_room_zeros {w : World} (t tn ty e : TypeId) (i : TypeInfo) (kq kn : IntKind) (ht : P.underlying t = some (.slice e)) (htn : P.underlying tn = some (.int kn)) (hi : P.info? e = some i) (hz : i.zero = some (.int .u8 0)) (hs1 : i.size = 1) (hb1 : i.bytes = 1)
    (g sLen sCap : Nat) (cur : Array Value) (hg : w.heap[g]? = some (.cells cur e (0, 0))) (k : Nat) (h0 : 0 < k) (hk : k ≤ 140737488355328)
    (hroom : sLen + k ≤ sCap) (hfit : sLen + k ≤ cur.size) :
    (Builtin.append_ #[t, tn] ty #[.slice (some ⟨g, 0, none⟩) sLen sCap, .int kq k]).run P w =
      .ok (.slice (some ⟨g, 0, none⟩) (sLen + k) sCap) (w.setRow g (cur.toList.take sLen ++ (List.replicate k (0 : UInt8)).map byteV ++ cur.toList.drop (sLen + k)).toArray) := by
  have hst := run_storeCells_at P g sLen e ((List.replicate k (0 : UInt8)).map byteV) 0 cur w hg (by simpa using hfit) (byteV_oneCell _)
  simp only [Nat.add_zero, List.length_map, List.length_replicate] at hst
  rw [← zeroCells_u8] at hst
  have hk' : k ≠ 0 := by omega
  have hw : IntKind.i64.wrap (k : Int) = k := by rw [IntKind.wrap_i64]; omega
  have h48i : ¬ (281474976710656 < (k : Int)) := by omega
  have hneg : ¬ ((k : Int) < 0) := by omega
  rw [← zeroCells_u8]
  simp [Builtin.append_, run_underlying ht, run_underlying htn, sizeOf, typeInfo, zeroValue, hi, hz, hs1, hb1, asInt, asIntOf, hw, hk', hneg, h48i, hroom, Addr.add_lit, hst]

/-- 'append(out, make([]byte, n)...)': out the call's own. -/
theorem wpList_append_zeros {w : World} {ops : Array Oper} {rest : List Oper} {o : Oper} {a : Act} {Q : Exit → Act → World → Prop} (t tn : TypeId) (base : Nat) (e : TypeId) (kn : IntKind)
    (ht : P.underlying t = some (.slice e)) (hu : P.underlying tn = some (.int kn)) (hinfo : (P.info? e).map (fun i => (i.zero, i.size, i.bytes)) = some (some (.int .u8 0), 1, 1))
    (hgd : o.guard = none) (sl x : Operand) (ho : o.op = .call { callee := .builtin .append, args := #[sl, x], argTypes := #[t, tn] })
    {v : Value} {l : List UInt8} (hown : OwnB w base e v l) (k : Nat) (kq : IntKind) (hs : a.eval sl = v) (hx : a.eval x = .int kq k) (h0 : 0 < k)
    (hlen : l.length + k ≤ 140737488355328) (hbase : base ≤ w.heap.size)
    (h : ∀ v' w', OwnB w' base e v' (l ++ List.replicate k 0) → w.grownBy w' v.ownBlock → (∀ k, v'.ownBlock = some k → v.ownBlock = some k ∨ w.heap.size ≤ k) → wpList P ops Q rest (a.put o.dst v') w') : wpList P ops Q (o :: rest) a w := by
  obtain ⟨i, hi, hz, hsize, hby⟩ := info_parts hinfo
  have key : ∃ v' w', (Builtin.append_ #[t, tn] o.type #[v, .int kq k]).run P w = .ok v' w' ∧ OwnB w' base e v' (l ++ List.replicate k 0) ∧ w.grownBy w' v.ownBlock ∧ (∀ k, v'.ownBlock = some k → v.ownBlock = some k ∨ w.heap.size ≤ k) := by
    have hll : (l ++ List.replicate k (0 : UInt8)).length = l.length + k := by simp
    have hml : ((l ++ List.replicate k (0 : UInt8)).map byteV).length = l.length + k := by simp
    have grown : ∀ (old : Nat), old < l.length + k → ∀ (row : Option Nat),
        OwnB (w.drew.alloc (.cells ((l.map byteV).toArray ++ Builtin.zeroCells (Value.int .u8 0).cells k ++ Builtin.zeroCells (Value.int .u8 0).cells (grownCap w (l.length + k) old e - (l.length + k))) e)) base e
          (.slice (some ⟨w.heap.size, 0, none⟩) (l.length + k) (grownCap w (l.length + k) old e)) (l ++ List.replicate k 0) ∧
        w.grownBy (w.drew.alloc (.cells ((l.map byteV).toArray ++ Builtin.zeroCells (Value.int .u8 0).cells k ++ Builtin.zeroCells (Value.int .u8 0).cells (grownCap w (l.length + k) old e - (l.length + k))) e)) row := by
      intro old ho row
      have hge := grownCap_ge w (l.length + k) old e
      have hcm : grownCap w (l.length + k) old e ≤ maxLen := grownCap_le_maxLen w (l.length + k) old e (by unfold maxLen; omega)
      refine ⟨⟨by rw [hml, hll, Nat.mul_one], .inr ⟨w.heap.size, _, _, by rw [hll], hbase, _root_.Go.heap_alloc_new w.drew _, by rw [hll]; exact hge, hcm, ?_, ?_⟩⟩, ⟨rfl, rfl, rfl, by simp, fun k hk _ => Below.heap_alloc w.drew _ k hk⟩⟩
      · have hz1 : (Value.int IntKind.u8 0).cells.size = 1 := rfl
        simp only [Array.size_append, List.size_toArray, size_zeroCells, hz1, List.length_map]
        omega
      · rw [Array.toList_append, Array.toList_append, zeroCells_u8, hll, Nat.mul_one, List.map_append, List.take_append_of_le_length (by simp)]
        exact List.take_of_length_le (by simp)
    have hw0 := hown
    unfold OwnB at hown
    rcases hown.2 with ⟨rfl, hn0⟩ | ⟨g, cap, cur, rfl, hbg, hg, hnc, hcm, hcs, htake⟩
    · have hl0 : l = [] := List.eq_nil_of_length_eq_zero hn0
      subst hl0
      have hr := Lib.run_append_nil_zeros (P := P) w t tn o.type e i (.int .u8 0) kq kn ht hu hi hz k h0 (by omega) (by omega) (by rw [hby]; omega)
      have hgr := grown 0 (by simp; omega) (Value.ownBlock (.slice none 0 0))
      simp only [List.length_nil, Nat.zero_add, List.map_nil, Array.empty_append] at hgr
      exact ⟨_, _, hr, hgr.1, hgr.2, fun k hk => .inr (by simp [Value.ownBlock] at hk; omega)⟩
    · by_cases hroom : l.length + k ≤ cap
      · have hcs' : cur.size = cap := by simpa using hcs
        have hr := run_append_room_zeros (P := P) t tn o.type e i kq kn ht hu hi hz hsize hby g l.length cap cur hg k h0 (by omega) hroom (by omega)
        have ht' : cur.toList.take l.length = l.map byteV := by simpa using htake
        refine ⟨_, _, hr, ⟨by rw [hml, hll, Nat.mul_one], .inr ⟨g, cap, _, by rw [hll], hbg, setRow_heap w g cur _ e _ hg, by rw [hll]; exact hroom, hcm, ?_, ?_⟩⟩, ⟨rfl, rfl, rfl, by simp, fun k _ hk => setRow_other w g k _ (fun e => hk (by simp [Value.ownBlock, e]))⟩, fun k hk => .inl hk⟩
        · simp only [List.size_toArray, List.length_append, List.length_take, List.length_drop, Array.length_toList, List.length_map, List.length_replicate]
          omega
        · simp only [ht', hll, Nat.mul_one, List.map_append]
          exact List.take_left' (by simp)
      · have holds : ∀ j u, (l.map byteV)[j]? = some u → w.cell? ((⟨g, 0, none⟩ : Addr).add j) = some u := hown.cells (g := g) rfl
        have hfo := run_firstCells_some (P := P) w.drew i.size l.length ⟨g, 0, none⟩ l.length cap (l.map byteV) (by rw [hsize]; simp) (by simpa using holds)
        have hr := Lib.run_append_grow_zeros (P := P) w t tn o.type e i (.int .u8 0) kq kn ht hu hi hz (some ⟨g, 0, none⟩) l.length cap (l.map byteV) hfo k h0 (by omega) (by omega) (by omega) (by rw [hby]; omega) (by rw [hby]; exact growslice_fits (by omega) (by omega))
        have hgr := grown cap (by omega) (Value.ownBlock (.slice (some ⟨g, 0, none⟩) l.length cap))
        exact ⟨_, _, hr, hgr.1, hgr.2, fun k hk => .inr (by simp [Value.ownBlock] at hk; omega)⟩
  obtain ⟨v', w', hr, h2, h3, h4⟩ := key
  exact Lib.wpList_append_run w hgd sl x t tn ho v (.int kq k) hs hx v' w' hr (h v' w' h2 h3 h4)
end

end Go.Proofs.Ytcogmohepcifiaa
