/-
  No claim by itself: how the program reads a message. No condition.
-/
import Derived.Test.YtcogmohepcifiaaP18
import Derived.Test.YtcogmohepcifiaaP19
namespace Go.Proofs.Ytcogmohepcifiaa
open Go.ChangeShapes Go.WideShapes Go.ChangeAt Go.RowKit

theorem bytes_equal (v1 v2 : Value) (l1 l2 : List UInt8) (w : World) (h1 : Bytes w v1 l1) (h2 : Bytes w v2 l2) :
    Calls Try.prog 39 #[v1, v2] w fun e w' => e = .returned (.bool (decide (l1 = l2))) ∧ w' = w := by
  have k1 := conv_str h1
  have k2 := conv_str h2
  obtain ⟨a1, c1, rfl, -⟩ := h1
  obtain ⟨a2, c2, rfl, -⟩ := h2
  have hd : ((⟨l1.toArray⟩ : ByteArray).toList == (⟨l2.toArray⟩ : ByteArray).toList) = decide (l1 = l2) := by
    rw [ByteArray.toList_eq, ByteArray.toList_eq]
    by_cases h : l1 = l2
    · rw [h]; simp
    · simp [h]
  go_enter Try.func39, Try.ntmps39
  go_wp2_with fail
  go_ret
  refine ⟨?_, rfl⟩
  by_cases h : l1 = l2 <;> simp [h]

/-! ### How great what is read may be -/
theorem allF_len : ∀ (f : Nat) (l : List UInt8), ((allF f l).1.flatMap (·.2)).length ≤ l.length := by
  intro f
  induction f with
  | zero => intro l; simp [allF]
  | succ f ih =>
    intro l
    rw [allF]
    by_cases h : (openP l).2.2.2 ≠ 0
    · rw [if_pos h]; simp
    · rw [if_neg h]
      have ho : (openP l).2.2.2 = 0 := Decidable.not_not.1 h
      obtain ⟨-, c2, c3⟩ := open_canon ho
      obtain ⟨k1, k2, k3, k4, k5⟩ := openP_ok ho
      rw [sealP_len c2 k5 k3] at c3
      have hi := ih (l.drop (openP l).2.2.1)
      rw [List.length_drop] at hi
      simp only [List.flatMap_cons, List.length_append]
      omega
theorem allF_count : ∀ (f : Nat) (l : List UInt8), (allF f l).1.length ≤ l.length := by
  intro f
  induction f with
  | zero => intro l; simp [allF]
  | succ f ih =>
    intro l
    rw [allF]
    by_cases h : (openP l).2.2.2 ≠ 0
    · rw [if_pos h]; simp
    · rw [if_neg h]
      obtain ⟨k1, k2, -⟩ := openP_ok (Decidable.not_not.1 h)
      have hi := ih (l.drop (openP l).2.2.1)
      rw [List.length_drop] at hi
      rw [List.length_cons]
      omega
theorem bodies_len (l : List UInt8) : (bodiesP l).length ≤ l.length := by
  have h := allF_len (l.length + 1) l
  unfold bodiesP allP
  cases hx : (allF (l.length + 1) l).1 with
  | nil => simp
  | cons x r =>
    rw [hx] at h
    simp only [List.flatMap_cons, List.length_append] at h
    simp only [List.drop_succ_cons, List.drop_zero]
    omega
theorem entsF_small : ∀ (f : Nat) (n : Int) (es : List Ent) (s : List UInt8 × Bool), es.length ≤ 9 → (entsF f n es s).1.length ≤ 9 := by
  intro f
  induction f with
  | zero => intro n es s h; exact h
  | succ f ih =>
    intro n es s h
    rw [entsF]
    split
    · rename_i hc
      exact ih _ _ _ (by rw [List.length_append, List.length_singleton]; omega)
    · exact h
theorem getS_small (l : List UInt8) : (getS l).1.c.size ≤ 50 := by
  unfold getS
  split
  · show (0 : Nat) ≤ 50; omega
  · split
    · rename_i h
      split
      · show (0 : Nat) ≤ 50; omega
      · exact (mayS_iff.1 h.2.2.1).2.2.2.2.1
    · show (0 : Nat) ≤ 50; omega
theorem msgP_small (l : List UInt8) : (msgP l).1.es.length ≤ 9 ∧ (msgP l).1.s.c.size ≤ 50 := by
  unfold msgP
  refine ⟨entsF_small _ _ _ _ (by simp), ?_⟩
  dsimp only
  unfold snapF
  split
  · exact getS_small _
  · show (0 : Nat) ≤ 50; omega

/-! ### What All has found -/
theorem found_get (rs : List (Int × Value × List UInt8)) (i : Nat) (hi : i < rs.length) : (rs.flatMap foundCells)[i * 2]? = some (.int .i64 rs[i].1) ∧ (rs.flatMap foundCells)[i * 2 + 1]? = some rs[i].2.1 := by
  induction rs generalizing i with
  | nil => simp at hi
  | cons r rs ih =>
    cases i with
    | zero => simp [foundCells]
    | succ i =>
      have := ih i (by simpa using hi)
      simp only [List.flatMap_cons, List.getElem_cons_succ]
      rw [show (i + 1) * 2 = (i * 2) + 2 by omega, show (i * 2) + 2 + 1 = (i * 2 + 1) + 2 by omega]
      simpa [foundCells] using this
theorem FoundO.cells2 {w : World} {base : Nat} {v : Value} {rs : List (Int × Value × List UInt8)} (h : FoundO w base v rs) : ∃ a cap, v = .slice a rs.length cap ∧ ∀ i (hi : i < rs.length), ∃ g, a = some ⟨g, 0, none⟩ ∧ g < w.heap.size ∧
    w.cell? ⟨g, i * 2, none⟩ = some (.int .i64 rs[i].1) ∧ w.cell? ⟨g, i * 2 + 1, none⟩ = some rs[i].2.1 := by
  by_cases hr : rs = []
  · subst hr
    rcases h.1.2 with ⟨rfl, _⟩ | ⟨g, cap, cur, rfl, _⟩
    · exact ⟨none, 0, rfl, fun i hi => by simp at hi⟩
    · exact ⟨_, cap, rfl, fun i hi => by simp at hi⟩
  · obtain ⟨g, cap, rfl, hg, hlt, _⟩ := ownsRow_shape h.1 (fun e => hr (List.eq_nil_of_length_eq_zero e))
    refine ⟨_, cap, rfl, fun i hi => ⟨g, rfl, hlt, ?_⟩⟩
    have hc := h.1.cells (g := g) rfl
    obtain ⟨h1, h2⟩ := found_get rs i hi
    have e1 := hc _ _ h1
    have e2 := hc _ _ h2
    rw [Addr.add_lit, Nat.zero_add] at e1 e2
    exact ⟨e1, e2⟩

def zM : Msg := ⟨0, 0, 0, 0, 0, 0, 0, false, [], ⟨0, 0, ⟨#[]⟩, ⟨#[]⟩⟩⟩
/-- A message, if the bytes are just its; else the error. -/
def RetDec (w : World) (B : List UInt8) (e : Ending) (w' : World) : Prop :=
  Below w.heap.size w w' ∧ ((∃ v m, e = .returned (.tuple #[msgAgg v m, .int .i64 0]) ∧ EntR w' v m.es ∧ mayM m = true ∧ encM m = B) ∨
    (e = .returned (.tuple #[msgAgg (.slice none 0 0) zM, .int .i64 1]) ∧ ∀ m, mayM m = true → encM m ≠ B))

theorem bodies_told (rs : List (Int × Value × List UInt8)) : ((told rs).drop 1).flatMap (·.2) = (rs.drop 1).flatMap (·.2.2) := by
  unfold told
  rw [← List.map_drop, List.flatMap_map]
theorem drop_take_snoc (rs : List (Int × Value × List UInt8)) (k : Nat) (hk : k < rs.length) : ((rs.take (k + 1)).drop 1).flatMap (·.2.2) = ((rs.take k).drop 1).flatMap (·.2.2) ++ (if 0 < k then rs[k].2.2 else []) := by
  rw [List.take_succ_eq_append_getElem hk]
  cases k with
  | zero => simp
  | succ k =>
    rw [if_pos (by omega), List.drop_append_of_le_length (by rw [List.length_take]; omega), List.flatMap_append]
    simp
theorem drop_take_le {α : Type} (rs : List α) (k : Nat) (f : α → List UInt8) : (((rs.take k).drop 1).flatMap f).length ≤ ((rs.drop 1).flatMap f).length := by
  by_cases hA : (rs.take k).length = 0
  · rw [List.eq_nil_of_length_eq_zero hA]; simp
  · have h : rs.drop 1 = (rs.take k).drop 1 ++ rs.drop k := by
      conv => lhs; rw [← List.take_append_drop k rs]
      exact List.drop_append_of_le_length (by omega)
    rw [h, List.flatMap_append, List.length_append]
    omega

set_option maxRecDepth 100000 in
set_option maxHeartbeats 4000000 in
theorem msg_decode (v : Value) (B : List UInt8) (w : World) (h : Bytes w v B) (hl : B.length ≤ 1000000) :
    Calls Try.prog 19 #[v] w fun e w' => RetDec w B e w' := by
  have hz := msgS_box w (.slice none 0 0) zM 30
  have hb1 := (Below.refl w.heap.size w).alloc (Nat.le_refl _) (.cells #[.int .i64 0, .int .i64 0, .int .i64 0, .int .i64 0, .int .i64 0, .int .i64 0, .int .i64 0, .bool false, .slice none 0 0, .int .i64 0, .int .i64 0, .string ⟨#[]⟩, .string ⟨#[]⟩] 30)
  have hB1 := h.below hb1 rfl
  have hbl := bodies_len B
  have hsm := msgP_small (bodiesP B)
  have hHU : ∀ m, mayM m = true → encM m = B → msgP (bodiesP B) = (m, [], false) := fun m hm he => by
    rw [← he, bodies_enc hm, msgP_text hm]
  have hTold : ∀ rs, told rs = (allP B).1 → ((rs.drop 1).flatMap (·.2.2)) = bodiesP B := fun rs h => by
    unfold bodiesP
    rw [← h, bodies_told]
  have HTold := Lib.hid hTold
  have HHU := Lib.hid hHU
  clear h hHU hTold
  obtain ⟨D, hD⟩ : ∃ D, bodiesP B = D := ⟨_, rfl⟩
  rw [hD] at hbl hsm HHU HTold
  obtain ⟨M, S, hMS⟩ : ∃ M S, msgP D = (M, S) := ⟨_, _, rfl⟩
  rw [hMS] at hsm HHU
  have HMS := Lib.hid hMS
  clear hD hMS
  unfold zM at hz
  dsimp only at hz hsm
  unfold RetDec
  go_enter Try.func19, Try.ntmps19
  go_wp2_with fail
  refine (frame_all _ B _ hB1 hl).mono ?_
  rintro e w2 ⟨fv, rs, rfl, hF, htold, hb2⟩
  have hrsB := HTold.out rs htold
  have hrsl : rs.length ≤ B.length := by
    have h1 : (told rs).length = rs.length := by unfold told; rw [List.length_map]
    have h2 := allF_count (B.length + 1) B
    rw [← h1, htold]
    exact h2
  have hb12 := hb1.trans (hb2.mono hb1.size)
  have hz2 := hz.below hb2
  have hB2 := hB1.below hb2 rfl
  obtain ⟨fa, fc, rfl, hFc⟩ := hF.cells2
  have hFb := Lib.hid hF
  have HFC := Lib.hid hFc
  have hle : ∀ k, (((rs.take k).drop 1).flatMap (·.2.2)).length ≤ D.length := fun k => by rw [← hrsB]; exact drop_take_le rs k _
  have HLE := Lib.hid hle
  have HSN := Lib.hid (drop_take_snoc rs)
  have HRS := Lib.hid hrsB
  clear hF hFc hle hrsB hb1 hb2 hz hB1 HTold htold
  go_wp2_with fail
  go_loopw [6, 7, 8, 19] (fun x _ _ i wr => ∃ k : Nat, k ≤ rs.length ∧ i = .int .i64 k ∧ OwnB wr w2.heap.size 5 x (((rs.take k).drop 1).flatMap (·.2.2)) ∧ Below w2.heap.size w2 wr) (fun _ _ _ i _ => rs.length - (intOf i).toNat)
  case atStart => exact ⟨0, by omega, rfl, OwnB.nil _ _ _, Below.refl _ _⟩
  case round =>
    obtain ⟨k, hk, rfl, ho, hbel⟩ := hrel
    by_cases hlt : k < rs.length
    · obtain ⟨g, rfl, hglt, e0, e1⟩ := HFC.out k hlt
      have e0 := (hbel.cell (p := ⟨g, k * 2, none⟩) hglt).trans e0
      have e1 := (hbel.cell (p := ⟨g, k * 2 + 1, none⟩) hglt).trans e1
      have hbd := ((hFb.out.2 rs[k] (List.getElem_mem hlt)).1.below hbel).bytes
      have HU := Lib.hid (HSN.out k hlt)
      have hl1 := HLE.out k
      have hl2 := HLE.out (k + 1)
      rw [HU.out, List.length_append] at hl2
      generalize ((rs.take k).drop 1).flatMap (·.2.2) = Y at *
      generalize rs[k] = r at *
      obtain ⟨rk, bv, bd⟩ := r
      dsimp only at e0 e1 hbd HU hl2
      obtain ⟨ab, cb, rfl⟩ : ∃ a c, bv = .slice a bd.length c := by obtain ⟨a, c, hv, -⟩ := hbd; exact ⟨a, c, hv⟩
      have hbx := hbel.alloc hbel.size (.cells #[.int .i64 rk, .slice ab bd.length cb] 71)
      have hox := ho.alloc (.cells #[.int .i64 rk, .slice ab bd.length cb] 71)
      have hbx2 := hbd.alloc (.cells #[.int .i64 rk, .slice ab bd.length cb] 71)
      by_cases h0 : k = 0
      · subst h0
        rw [if_neg (by omega), List.append_nil] at HU
        clear hbd ho hbel hbx2
        go_wp2_with fail
        go_roundw
        case rel => exact ⟨1, by omega, by go_num, by rw [HU.out]; exact hox, hbx⟩
        case measure => simp [intOf]; omega
      · have tk : decide (0 < (k : Int)) = true := decide_eq_true (by omega)
        rw [if_pos (by omega)] at HU hl2
        clear hbd ho hbel
        go_wp2_with (at_builtin; refine wpList_append_bytes 46 w2.heap.size 5 Try.underlying46 info_u8 rfl _ _ rfl hox hbx2 rfl rfl (by omega) hbx.size ?_)
        intro v7 w7 ho7 hg7 hk7
        have hb8 : Below w2.heap.size w2 w7 := hbx.grown hg7 hbx.size (fun k hk => (hox.lt k hk).1)
        clear hg7 hk7 hox hbx hbx2
        go_wp2_with fail
        go_roundw
        case rel => exact ⟨k + 1, by omega, by go_num, by rw [HU.out]; exact ho7, hb8⟩
        case measure => simp [intOf]; omega
    · obtain rfl : k = rs.length := by omega
      rw [List.take_length, HRS.out] at ho
      obtain ⟨ax, cx, rfl⟩ := ho.len
      have hz3 := hz2.below hbel
      have hB3 := hB2.below hbel rfl
      have hb13 := hb12.trans (hbel.mono hb12.size)
      have hRd := rdS_box ho.bytes 74
      have hb14 := hb13.alloc hb13.size (.cells #[.slice ax D.length cx, .bool false] 74)
      have hbA := (Below.refl wr.heap.size wr).alloc (Nat.le_refl _) (.cells #[.slice ax D.length cx, .bool false] 74)
      have hz4 := hz3.below hbA
      have hB4 := hB3.below hbA rfl
      have hwb := hb13.size
      have hzl := hz3.lt
      have hB3' := hB3
      clear HFC hFb HLE HSN HRS hz2 hz3 hB2 hB3 hb12 hb13 hbA ho hbel
      generalize rs.length = RL at *
      go_wp2_with fail
      refine (m_message hRd (by omega)).mono ?_
      unfold RetMsg
      rw [HMS.out]
      rintro e w5 ⟨mv, rv, rfl, hE5, hR5, hk5⟩
      dsimp only at hE5 hR5
      have hb15 := hb14.trans (hk5.below (B := w.heap.size) (by simp; omega) hb14.size)
      have hz5 := hz4.keeps hk5 (by simp; omega)
      have hbk := bytes_block hB3'
      have hB5 := hB4.keeps hk5 (fun hne ad n c hv hx => by
        have := hbk hne ad n c hv
        simp only [List.mem_singleton] at hx
        omega)
      obtain ⟨mk, mf, mo, mt, mi, ml, mc, my, es, ⟨si, st, sc, sd⟩⟩ := M
      dsimp only at hE5 hsm
      obtain ⟨am, cm, rfl⟩ := hE5.r.slice
      have hX := msgS_box w5 (.slice am es.length cm) ⟨mk, mf, mo, mt, mi, ml, mc, my, es, ⟨si, st, sc, sd⟩⟩ 30
      dsimp only at hX
      have hbB := (Below.refl w5.heap.size w5).alloc (Nat.le_refl _) (.cells #[.int .i64 mk, .int .i64 mf, .int .i64 mo, .int .i64 mt, .int .i64 mi, .int .i64 ml, .int .i64 mc, .bool my, .slice am es.length cm, .int .i64 si, .int .i64 st, .string sc, .string sd] 30)
      have hE6 := hE5.below hbB
      have hB6 := hB5.below hbB rfl
      have hz6 := hz5.below hbB
      have hR6 := hR5.keeps (F := []) (Keeps.of_below hbB) (by simp)
      have hb16 := hb15.trans (hbB.mono hb15.size)
      have hb15s := hb15.size
      clear hE5 hB5 hz5 hR5 hbB hb15 hb14 hB4 hz4 hk5 hRd hbk hB3'
      unfold msgAgg
      dsimp only
      go_wp2_with fail
      refine (msg_encode _ ⟨mk, mf, mo, mt, mi, ml, mc, my, es, ⟨si, st, sc, sd⟩⟩ _ hE6.r (by dsimp only; omega) (by dsimp only; omega)).mono ?_
      rintro e w8 ⟨cv, rfl, hoc, hb8, hnil⟩
      have hE8 := hE6.below hb8
      have hB8 := hB6.below hb8 rfl
      have HEK := Lib.hid hE8
      clear hE8
      have hz8 := hz6.below hb8
      have hR8 := hR6.keeps (F := []) (Keeps.of_below hb8) (by simp)
      have hX8 := hX.below hb8
      have hb18 := hb16.trans (hb8.mono hb16.size)
      have hoB := hoc.bytes
      have hpos : mayM ⟨mk, mf, mo, mt, mi, ml, mc, my, es, ⟨si, st, sc, sd⟩⟩ = true → ∃ g cap n, cv = .slice (some ⟨g, 0, none⟩) n cap := fun hm => by
        obtain ⟨g, cap, hv, -⟩ := hoc.shape (fun e => by have := encM_pos hm; rw [e] at this; simp at this)
        exact ⟨g, cap, _, hv⟩
      clear hE6 hB6 hz6 hR6 hX hb8 hb16 hoc
      have rc1 := hR8.c1
      have z0 := hz8.c0
      have z1 := hz8.c1
      have z2 := hz8.c2
      have z3 := hz8.c3
      have z4 := hz8.c4
      have z5 := hz8.c5
      have z6 := hz8.c6
      have z7 := hz8.c7
      have z8 := hz8.c8
      have z9 := hz8.c9
      have z10 := hz8.c10
      have z11 := hz8.c11
      have z12 := hz8.c12
      have zf := hz8.fr
      have y0 := hX8.c0
      have y1 := hX8.c1
      have y2 := hX8.c2
      have y3 := hX8.c3
      have y4 := hX8.c4
      have y5 := hX8.c5
      have y6 := hX8.c6
      have y7 := hX8.c7
      have y8 := hX8.c8
      have y9 := hX8.c9
      have y10 := hX8.c10
      have y11 := hX8.c11
      have y12 := hX8.c12
      dsimp only at z0 z1 z2 z3 z4 z5 z6 z7 z9 z10 z11 z12 y0 y1 y2 y3 y4 y5 y6 y7 y9 y10 y11 y12
      have HZ := Lib.hid hz8
      have HX := Lib.hid hX8
      clear hz8 hX8 hR8
      obtain ⟨S1, S2⟩ := S
      dsimp only at rc1
      have e0 : ∀ (w : World), (binOp .eql 46 (.slice none 0 0) (.slice none 0 0)).run Try.prog w = .ok (.bool true) w := fun W => Lib.run_eql_slice_nil_nil W _ _ Try.underlying46
      have e1 : ∀ (w : World) a n c, (binOp .eql 46 (.slice (some a) n c) (.slice none 0 0)).run Try.prog w = .ok (.bool false) w := fun W a n c => Lib.run_eql_slice_some_nil W _ _ _ Try.underlying46
      cases S2 with
      | true =>
        have HNOT : Hid (∀ m, mayM m = true → encM m ≠ B) := Lib.hid (fun m hm he => by
          have hh := HHU.out m hm he
          simp only [Prod.mk.injEq] at hh
          exact absurd hh.2.2 (by decide))
        clear HHU
        go_wp2_with fail
        have hzz := HZ.out.setAll (v' := .slice none 0 0) (m' := zM)
        have hkk := keeps_msgTo w8 w.heap.size (.slice none 0 0) zM
        refine bodyPost_ret (results_cell2 rfl _ _ _ _ _ rfl (load_msg hzz)) rfl ?_
        exact ⟨hb18.trans (hkk.below (B := w.heap.size) (by simp) hb18.size), .inr ⟨rfl, HNOT.out⟩⟩
      | false =>
        cases hmm : mayM ⟨mk, mf, mo, mt, mi, ml, mc, my, es, ⟨si, st, sc, sd⟩⟩ with
        | false =>
          obtain rfl := hnil hmm
          have HMM := Lib.hid hmm
          clear hmm hpos hnil
          have HNOT : Hid (∀ m, mayM m = true → encM m ≠ B) := Lib.hid (fun m hm he => by
            have hh := HHU.out m hm he
            simp only [Prod.mk.injEq] at hh
            rw [← hh.1, HMM.out] at hm
            cases hm)
          clear HHU
          go_wp2_with fail
          have hzz := HZ.out.setAll (v' := .slice none 0 0) (m' := zM)
          have hkk := keeps_msgTo w8 w.heap.size (.slice none 0 0) zM
          refine bodyPost_ret (results_cell2 rfl _ _ _ _ _ rfl (load_msg hzz)) rfl ?_
          exact ⟨hb18.trans (hkk.below (B := w.heap.size) (by simp) hb18.size), .inr ⟨rfl, HNOT.out⟩⟩
        | true =>
          obtain ⟨g, cap, n, rfl⟩ := hpos hmm
          have HMM := Lib.hid hmm
          clear hmm hpos hnil
          generalize hEE : encM ⟨mk, mf, mo, mt, mi, ml, mc, my, es, ⟨si, st, sc, sd⟩⟩ = E at *
          have HEE := Lib.hid hEE
          clear hEE
          go_wp2_with fail
          refine (bytes_equal _ _ E B _ hoB hB8).mono ?_
          rintro e w9 ⟨rfl, rfl⟩
          rcases dec_cases (E = B) with ⟨hq, tq⟩ | ⟨hq, tq⟩ <;> rw [tq] <;> clear tq
          · skip
            subst hq
            clear HHU
            go_wp2_with fail
            have hzz := HZ.out.setAll (v' := .slice am es.length cm) (m' := ⟨mk, mf, mo, mt, mi, ml, mc, my, es, ⟨si, st, sc, sd⟩⟩)
            have hkk := keeps_msgTo w9 w.heap.size (.slice am es.length cm) ⟨mk, mf, mo, mt, mi, ml, mc, my, es, ⟨si, st, sc, sd⟩⟩
            refine bodyPost_ret (results_cell2 rfl _ _ _ _ _ rfl (load_msg hzz)) rfl ?_
            exact ⟨hb18.trans (hkk.below (B := w.heap.size) (by simp) hb18.size), .inl ⟨_, _, rfl, ((HEK.out.keeps hkk (by simp; omega))).r, HMM.out, HEE.out⟩⟩
          · skip
            have HNOT : Hid (∀ m, mayM m = true → encM m ≠ B) := Lib.hid (fun m hm he => by
              have hh := HHU.out m hm he
              simp only [Prod.mk.injEq] at hh
              rw [← hh.1, HEE.out] at he
              exact hq he)
            clear HHU HEE HMM hq
            go_wp2_with fail
            have hzz := HZ.out.setAll (v' := .slice none 0 0) (m' := zM)
            have hkk := keeps_msgTo w9 w.heap.size (.slice none 0 0) zM
            refine bodyPost_ret (results_cell2 rfl _ _ _ _ _ rfl (load_msg hzz)) rfl ?_
            exact ⟨hb18.trans (hkk.below (B := w.heap.size) (by simp) hb18.size), .inr ⟨rfl, HNOT.out⟩⟩
end Go.Proofs.Ytcogmohepcifiaa
