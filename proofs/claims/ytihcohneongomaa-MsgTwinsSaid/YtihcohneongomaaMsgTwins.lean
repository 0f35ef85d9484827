/-
  Two messages have one text of bytes just if they are one: any two messages. No condition.
-/
import Derived.Test.YtihcohneongomaaP24
import Derived.Test.YtihcohneongomaaP14
import Derived.Test.YtihcohneongomaaP7
namespace Go.Proofs.Ytihcohneongomaa
open Go.ChangeShapes Go.WideShapes Go.ChangeAt Go.RowKit

def msgTwins_wit0 : Value := .agg #[.int .i64 0, .int .i64 0, .int .i64 0, .int .i64 0, .int .i64 0, .int .i64 0, .int .i64 0, .bool false, .slice none 0 0, .int .i64 0, .int .i64 0, .string .empty, .string .empty]
def msgTwins_wit1 : Value := .agg #[.int .i64 0, .int .i64 0, .int .i64 0, .int .i64 0, .int .i64 0, .int .i64 0, .int .i64 0, .bool false, .slice none 0 0, .int .i64 0, .int .i64 0, .string .empty, .string .empty]
set_option maxRecDepth 100000 in
theorem msgTwins_open0 {H : Type} {enc : TypeId × Value → H} {W : World} {base base' : Nat} {r : Reach} {v : Value} {d : DataW H} {ps : List MemPlace}
    (hv : Value.okWide Try.prog W r base' 76 v) (h : DataW.Trod enc Try.prog W base (fun _ => true) true 76 v d ps) : ∃ m : Msg, ∃ ev : Value, v = msgAgg ev m ∧ EntR W ev m.es ∧ m.wf := open_msg hv h
set_option maxRecDepth 100000 in
theorem msgTwins_open1 {H : Type} {enc : TypeId × Value → H} {W : World} {base base' : Nat} {r : Reach} {v : Value} {d : DataW H} {ps : List MemPlace}
    (hv : Value.okWide Try.prog W r base' 76 v) (h : DataW.Trod enc Try.prog W base (fun _ => true) true 76 v d ps) : ∃ m : Msg, ∃ ev : Value, v = msgAgg ev m ∧ EntR W ev m.es ∧ m.wf := open_msg hv h

set_option maxRecDepth 100000 in
set_option maxHeartbeats 4000000 in
theorem msgTwins_walk (v0 : Value) (a : Msg) (v1 : Value) (b : Msg) (w : World) (h0 : ∃ ev : Value, v0 = msgAgg ev a ∧ EntR w ev a.es ∧ a.wf) (h1 : ∃ ev : Value, v1 = msgAgg ev b ∧ EntR w ev b.es ∧ b.wf) :
    Calls Try.prog 13 #[v0, v1] w fun e w' => e = .returned (.bool true) ∧ Below w.heap.size w w' := by
  obtain ⟨ea, rfl, hEa, hwa⟩ := h0
  obtain ⟨eb, rfl, hEb, hwb⟩ := h1
  obtain ⟨aa, ca, rfl⟩ := hEa.slice
  obtain ⟨ab, cb, rfl⟩ := hEb.slice
  have hla := hEa.len
  have hlb := hEb.len
  have HCA := Lib.hid (fun (u : World) (x : Value) (hx : EntR u x a.es) => law_cut' x a u hx hla hwa)
  have HCB := Lib.hid (fun (u : World) (x : Value) (hx : EntR u x b.es) => law_cut' x b u hx hlb hwb)
  have HAG : Hid (∀ v (m : Msg), msgAgg v m = .agg #[.int .i64 m.k, .int .i64 m.f, .int .i64 m.o, .int .i64 m.t, .int .i64 m.i, .int .i64 m.l, .int .i64 m.c, .bool m.y, v, .int .i64 m.s.i, .int .i64 m.s.t, .string m.s.c, .string m.s.d]) := Lib.hid (fun _ _ => rfl)
  have hA := msgS_box w (.slice aa a.es.length ca) a 76
  have hB := msgS_box (w.alloc (.cells #[.int .i64 a.k, .int .i64 a.f, .int .i64 a.o, .int .i64 a.t, .int .i64 a.i, .int .i64 a.l, .int .i64 a.c, .bool a.y, .slice aa a.es.length ca, .int .i64 a.s.i, .int .i64 a.s.t, .string a.s.c, .string a.s.d] 76)) (.slice ab b.es.length cb) b 76
  rw [show (w.alloc (.cells #[.int .i64 a.k, .int .i64 a.f, .int .i64 a.o, .int .i64 a.t, .int .i64 a.i, .int .i64 a.l, .int .i64 a.c, .bool a.y, .slice aa a.es.length ca, .int .i64 a.s.i, .int .i64 a.s.t, .string a.s.c, .string a.s.d] 76)).heap.size = w.heap.size + 1 from by simp] at hB
  have hbA := (Below.refl w.heap.size w).alloc (Nat.le_refl _) (.cells #[.int .i64 a.k, .int .i64 a.f, .int .i64 a.o, .int .i64 a.t, .int .i64 a.i, .int .i64 a.l, .int .i64 a.c, .bool a.y, .slice aa a.es.length ca, .int .i64 a.s.i, .int .i64 a.s.t, .string a.s.c, .string a.s.d] 76)
  have hbB := (Below.refl _ (w.alloc (.cells #[.int .i64 a.k, .int .i64 a.f, .int .i64 a.o, .int .i64 a.t, .int .i64 a.i, .int .i64 a.l, .int .i64 a.c, .bool a.y, .slice aa a.es.length ca, .int .i64 a.s.i, .int .i64 a.s.t, .string a.s.c, .string a.s.d] 76))).alloc (Nat.le_refl _) (.cells #[.int .i64 b.k, .int .i64 b.f, .int .i64 b.o, .int .i64 b.t, .int .i64 b.i, .int .i64 b.l, .int .i64 b.c, .bool b.y, .slice ab b.es.length cb, .int .i64 b.s.i, .int .i64 b.s.t, .string b.s.c, .string b.s.d] 76)
  have hb2 := hbA.alloc hbA.size (.cells #[.int .i64 b.k, .int .i64 b.f, .int .i64 b.o, .int .i64 b.t, .int .i64 b.i, .int .i64 b.l, .int .i64 b.c, .bool b.y, .slice ab b.es.length cb, .int .i64 b.s.i, .int .i64 b.s.t, .string b.s.c, .string b.s.d] 76)
  replace hA := hA.below hbB
  replace hEa := (hEa.below hbA).below hbB
  replace hEb := (hEb.below hbA).below hbB
  clear hbA hbB hwa hwb
  rw [HAG.out, HAG.out]
  go_enter Try.func13, Try.ntmps13
  go_wp2_with fail
  generalize (w.alloc _).alloc _ = w0 at *
  refine (msg_begun _).mono ?_
  rintro e w1 ⟨rfl, hb1⟩
  replace hA := hA.below hb1
  replace hB := hB.below hb1
  replace hEa := hEa.below hb1
  replace hEb := hEb.below hb1
  replace hb2 := hb2.trans (hb1.mono hb2.size)
  clear hb1
  have hcsa := cutM_small a
  have hcsb := cutM_small b
  generalize cutM a = CA at *
  generalize cutM b = CB at *
  go_upto_region 4 with fail
  go_cut [] (fun wx => ∃ xa xb, MsgS wx w.heap.size xa CA ∧ MsgS wx (w.heap.size + 1) xb CB ∧ EntR wx xa CA.es ∧ EntR wx xb CB.es ∧ Below w.heap.size w wx)
  case first =>
    have hbl := hB.lt
    refine wp_region_tail 4 (by rfl) (by kernel_rfl) (fun k => match k with | 1 => some (fun v w' => ∃ xa, v = msgAgg xa CA ∧ EntO w' w1.heap.size xa CA.es) | 3 => some (fun v w' => ∃ xb, v = msgAgg xb CB ∧ EntO w' w1.heap.size xb CB.es) | _ => none) ?_ (fun vals => ?_)
    · intro k φ hk v w1 w2 h1 h2
      match k, hk with
      | 1, hk =>
        obtain rfl := Option.some.inj hk
        obtain ⟨xa, hv, ho⟩ := h1
        exact ⟨xa, hv, ho.below h2⟩
      | 3, hk =>
        obtain rfl := Option.some.inj hk
        obtain ⟨xa, hv, ho⟩ := h1
        exact ⟨xa, hv, ho.below h2⟩
    dsimp only [List.take, List.drop]
    refine sw_at (msgAgg (.slice aa a.es.length ca) a) rfl rfl (fun wz hz' hH => ?_) (fun K hK => ?_)
    · have hq := hA.below hz'
      have y0 := hq.c0
      have y1 := hq.c1
      have y2 := hq.c2
      have y3 := hq.c3
      have y4 := hq.c4
      have y5 := hq.c5
      have y6 := hq.c6
      have y7 := hq.c7
      have y8 := hq.c8
      have y9 := hq.c9
      have y10 := hq.c10
      have y11 := hq.c11
      have y12 := hq.c12
      unfold msgAgg
      go_simp
    go_simp; refine hK _ ?_; clear hK K
    refine sw_call _ rfl rfl (fun wz hz' hH => ?_) (fun K hK => ?_)
    · go_simp
      go_at_call 46
      refine (HCA.out _ _ (hEa.below hz')).mono ?_
      rintro e w12 ⟨v12, rfl, ho12, hb12⟩
      exact ⟨_, rfl, ⟨_, rfl, ho12.rebase hz'.size⟩, hb12⟩
    go_simp; refine hK _ ?_; clear hK K
    refine sw_at (msgAgg (.slice ab b.es.length cb) b) rfl rfl (fun wz hz' hH => ?_) (fun K hK => ?_)
    · have hq := hB.below hz'
      have y0 := hq.c0
      have y1 := hq.c1
      have y2 := hq.c2
      have y3 := hq.c3
      have y4 := hq.c4
      have y5 := hq.c5
      have y6 := hq.c6
      have y7 := hq.c7
      have y8 := hq.c8
      have y9 := hq.c9
      have y10 := hq.c10
      have y11 := hq.c11
      have y12 := hq.c12
      unfold msgAgg
      go_simp
    go_simp; refine hK _ ?_; clear hK K
    refine sw_call _ rfl rfl (fun wz hz' hH => ?_) (fun K hK => ?_)
    · go_simp
      go_at_call 46
      refine (HCB.out _ _ (hEb.below hz')).mono ?_
      rintro e w12 ⟨v12, rfl, ho12, hb12⟩
      exact ⟨_, rfl, ⟨_, rfl, ho12.rebase hz'.size⟩, hb12⟩
    go_simp; refine hK _ ?_; clear hK K
    refine sw_done (fun wz hz' hH => ?_)
    obtain ⟨xb, eb, ob⟩ := hH _ (List.Mem.head _)
    obtain ⟨xa, ea, oa⟩ := hH _ (List.Mem.tail _ (List.Mem.head _))
    dsimp only at ea eb oa ob
    obtain ⟨xaa, xac, rfl⟩ := oa.r.slice
    obtain ⟨xba, xbc, rfl⟩ := ob.r.slice
    rw [eb, ea, HAG.out _ CA, HAG.out _ CB]
    unfold tailQ
    have qa := hA.below hz'
    have qb := hB.below hz'
    have hbz := hb2.trans (hz'.mono hb2.size)
    have hbl1 := hz'.size
    have y0 := qa.c0
    have y1 := qa.c1
    have y2 := qa.c2
    have y3 := qa.c3
    have y4 := qa.c4
    have y5 := qa.c5
    have y6 := qa.c6
    have y7 := qa.c7
    have y8 := qa.c8
    have y9 := qa.c9
    have y10 := qa.c10
    have y11 := qa.c11
    have y12 := qa.c12
    have yf := qa.fr
    have z0 := qb.c0
    have z1 := qb.c1
    have z2 := qb.c2
    have z3 := qb.c3
    have z4 := qb.c4
    have z5 := qb.c5
    have z6 := qb.c6
    have z7 := qb.c7
    have z8 := qb.c8
    have z9 := qb.c9
    have z10 := qb.c10
    have z11 := qb.c11
    have z12 := qb.c12
    have zf := qb.fr
    have HQA := Lib.hid (qa.setAll (v' := .slice xaa CA.es.length xac) (m' := CA))
    have hk1 := keeps_msgTo wz w.heap.size (.slice xaa CA.es.length xac) CA
    have HQB := Lib.hid ((qb.keeps hk1 (by simp)).setAll (v' := .slice xba CB.es.length xbc) (m' := CB))
    have hk2 := keeps_msgTo (msgTo wz w.heap.size (.slice xaa CA.es.length xac) CA) (w.heap.size + 1) (.slice xba CB.es.length xbc) CB
    have HK1 := Lib.hid hk1
    have HK2 := Lib.hid hk2
    have HOA := Lib.hid oa
    have HOB := Lib.hid ob
    have HBZ := Lib.hid hbz
    clear hH ea eb qa qb hA hB hk1 hk2 oa ob hbz hEa hEb
    go_wp2_with fail
    go_meet
    refine ⟨.slice xaa CA.es.length xac, .slice xba CB.es.length xbc, HQA.out.keeps HK2.out (by simp), HQB.out, ((HOA.out.keeps HK1.out (by simp; omega)).keeps HK2.out (by simp; omega)).r, ((HOB.out.keeps HK1.out (by simp; omega)).keeps HK2.out (by simp; omega)).r, ?_⟩
    exact (HBZ.out.trans (HK1.out.below (B := w.heap.size) (by simp) HBZ.out.size)).trans (HK2.out.below (B := w.heap.size) (by simp) (Nat.le_trans HBZ.out.size HK1.out.size))
  case rest =>
    obtain ⟨xa, xb, hA2, hB2, hEa2, hEb2, hbw⟩ := hcut
    obtain ⟨xaa, xac, rfl⟩ := hEa2.slice
    obtain ⟨xba, xbc, rfl⟩ := hEb2.slice
    have HMA := Lib.hid (fun (u : World) (x : Value) (hx : EntR u x CA.es) => ref_mayMsg x CA u hx (by omega) (by omega))
    have HMB := Lib.hid (fun (u : World) (x : Value) (hx : EntR u x CB.es) => ref_mayMsg x CB u hx (by omega) (by omega))
    have HNA := Lib.hid (fun (u : World) (x : Value) (hx : EntR u x CA.es) => msg_encode x CA u hx (by omega) (by omega))
    have HNB := Lib.hid (fun (u : World) (x : Value) (hx : EntR u x CB.es) => msg_encode x CB u hx (by omega) (by omega))
    have HEQ := Lib.hid (fun (u : World) (x y : Value) (hx : EntR u x CA.es) (hy : EntR u y CB.es) => eq_msgG x y CA CB u hx hy (by omega) (by omega))
    have HTW : Hid (mayM CA = true → mayM CB = true → (decide (encM CA = encM CB) == eqM CA CB) = true) := Lib.hid (fun ha hb => by
      rw [beq_iff_eq, Bool.eq_iff_iff, decide_eq_true_eq, eqM_iff]
      exact ⟨fun h => encM_inj ha hb h, fun h => by rw [h]⟩)
    clear hA hB hEa hEb hb2 HCA HCB
    have c0 := hA2.c0
    have c1 := hA2.c1
    have c2 := hA2.c2
    have c3 := hA2.c3
    have c4 := hA2.c4
    have c5 := hA2.c5
    have c6 := hA2.c6
    have c7 := hA2.c7
    have c8 := hA2.c8
    have c9 := hA2.c9
    have c10 := hA2.c10
    have c11 := hA2.c11
    have c12 := hA2.c12
    have d0 := hB2.c0
    have d1 := hB2.c1
    have d2 := hB2.c2
    have d3 := hB2.c3
    have d4 := hB2.c4
    have d5 := hB2.c5
    have d6 := hB2.c6
    have d7 := hB2.c7
    have d8 := hB2.c8
    have d9 := hB2.c9
    have d10 := hB2.c10
    have d11 := hB2.c11
    have d12 := hB2.c12
    go_wp2_with fail
    refine (HMA.out _ _ hEa2).mono ?_
    rintro e w2 ⟨rfl, hb2⟩
    replace hA2 := hA2.below hb2
    replace hB2 := hB2.below hb2
    replace hEa2 := hEa2.below hb2
    replace hEb2 := hEb2.below hb2
    replace hbw := hbw.trans (hb2.mono hbw.size)
    clear hb2 c0 c1 c2 c3 c4 c5 c6 c7 c8 c9 c10 c11 c12 d0 d1 d2 d3 d4 d5 d6 d7 d8 d9 d10 d11 d12
    cases hma : mayM CA with
    | false =>
      go_wp2_with fail
      go_ret
      exact ⟨rfl, hbw⟩
    | true =>
      have d0 := hB2.c0
      have d1 := hB2.c1
      have d2 := hB2.c2
      have d3 := hB2.c3
      have d4 := hB2.c4
      have d5 := hB2.c5
      have d6 := hB2.c6
      have d7 := hB2.c7
      have d8 := hB2.c8
      have d9 := hB2.c9
      have d10 := hB2.c10
      have d11 := hB2.c11
      have d12 := hB2.c12
      go_wp2_with fail
      refine (HMB.out _ _ hEb2).mono ?_
      rintro e w3 ⟨rfl, hb3⟩
      replace hA2 := hA2.below hb3
      replace hB2 := hB2.below hb3
      replace hEa2 := hEa2.below hb3
      replace hEb2 := hEb2.below hb3
      replace hbw := hbw.trans (hb3.mono hbw.size)
      clear hb3 d0 d1 d2 d3 d4 d5 d6 d7 d8 d9 d10 d11 d12
      cases hmb : mayM CB with
      | false =>
        go_wp2_with fail
        go_ret
        exact ⟨rfl, hbw⟩
      | true =>
        have HT2 := Lib.hid (HTW.out hma hmb)
        clear hma hmb HTW
        go_upto_region 7 with fail
        go_cut [4] (fun x wx => x = .bool true ∧ Below w3.heap.size w3 wx)
        case first =>
          refine wp_region_sw (by rfl) (by kernel_rfl) (fun k' => match k' with | 1 => some (fun v' w' => Bytes w' v' (encM CA)) | 4 => some (fun v' w' => Bytes w' v' (encM CB)) | 9 => some (fun v' _ => v' = .bool (eqM CA CB)) | _ => none) ?_ (fun vals => ?_)
          · intro k' φ hk v' w1 w2 h1 h2
            match k', hk with
            | 1, hk => obtain rfl := Option.some.inj hk; exact Bytes.below h1 h2 rfl
            | 4, hk => obtain rfl := Option.some.inj hk; exact Bytes.below h1 h2 rfl
            | 9, hk => obtain rfl := Option.some.inj hk; exact h1
          refine sw_at (msgAgg (.slice xaa CA.es.length xac) CA) rfl rfl (fun wz hz' hH => ?_) (fun K hK => ?_)
          · have hq := hA2.below hz'
            have y0 := hq.c0
            have y1 := hq.c1
            have y2 := hq.c2
            have y3 := hq.c3
            have y4 := hq.c4
            have y5 := hq.c5
            have y6 := hq.c6
            have y7 := hq.c7
            have y8 := hq.c8
            have y9 := hq.c9
            have y10 := hq.c10
            have y11 := hq.c11
            have y12 := hq.c12
            unfold msgAgg
            go_simp
          go_simp; refine hK _ ?_; clear hK K
          refine sw_call _ rfl rfl (fun wz hz' hH => ?_) (fun K hK => ?_)
          · go_simp
            go_at_call 47
            refine (HNA.out _ _ (hEa2.below hz')).mono ?_
            rintro e w12 ⟨v12, rfl, ho12, hb12, -⟩
            exact ⟨_, rfl, ho12.bytes, hb12⟩
          go_simp; refine hK _ ?_; clear hK K
          refine sw_at (.string ⟨(encM CA).toArray⟩) rfl rfl (fun wz hz' hH => ?_) (fun K hK => ?_)
          · have e4 := hH _ (List.Mem.head _) rfl
            go_simp
            rw [conv_str e4]
            exact ⟨rfl, rfl⟩
          go_simp; refine hK _ ?_; clear hK K
          refine sw_at (msgAgg (.slice xba CB.es.length xbc) CB) rfl rfl (fun wz hz' hH => ?_) (fun K hK => ?_)
          · have hq := hB2.below hz'
            have y0 := hq.c0
            have y1 := hq.c1
            have y2 := hq.c2
            have y3 := hq.c3
            have y4 := hq.c4
            have y5 := hq.c5
            have y6 := hq.c6
            have y7 := hq.c7
            have y8 := hq.c8
            have y9 := hq.c9
            have y10 := hq.c10
            have y11 := hq.c11
            have y12 := hq.c12
            unfold msgAgg
            go_simp
          go_simp; refine hK _ ?_; clear hK K
          refine sw_call _ rfl rfl (fun wz hz' hH => ?_) (fun K hK => ?_)
          · go_simp
            go_at_call 47
            refine (HNB.out _ _ (hEb2.below hz')).mono ?_
            rintro e w12 ⟨v12, rfl, ho12, hb12, -⟩
            exact ⟨_, rfl, ho12.bytes, hb12⟩
          go_simp; refine hK _ ?_; clear hK K
          refine sw_at (.string ⟨(encM CB).toArray⟩) rfl rfl (fun wz hz' hH => ?_) (fun K hK => ?_)
          · have e4 := hH _ (List.Mem.head _) rfl
            go_simp
            rw [conv_str e4]
            exact ⟨rfl, rfl⟩
          go_simp; refine hK _ ?_; clear hK K
          refine sw_at (.bool (decide (encM CA = encM CB))) rfl rfl (fun wz hz' hH => ?_) (fun K hK => ?_)
          · go_simp
            rw [Bool.eq_iff_iff, beq_iff_eq, decide_eq_true_iff]
          go_simp; refine hK _ ?_; clear hK K
          refine sw_at (msgAgg (.slice xaa CA.es.length xac) CA) rfl rfl (fun wz hz' hH => ?_) (fun K hK => ?_)
          · have hq := hA2.below hz'
            have y0 := hq.c0
            have y1 := hq.c1
            have y2 := hq.c2
            have y3 := hq.c3
            have y4 := hq.c4
            have y5 := hq.c5
            have y6 := hq.c6
            have y7 := hq.c7
            have y8 := hq.c8
            have y9 := hq.c9
            have y10 := hq.c10
            have y11 := hq.c11
            have y12 := hq.c12
            unfold msgAgg
            go_simp
          go_simp; refine hK _ ?_; clear hK K
          refine sw_at (msgAgg (.slice xba CB.es.length xbc) CB) rfl rfl (fun wz hz' hH => ?_) (fun K hK => ?_)
          · have hq := hB2.below hz'
            have y0 := hq.c0
            have y1 := hq.c1
            have y2 := hq.c2
            have y3 := hq.c3
            have y4 := hq.c4
            have y5 := hq.c5
            have y6 := hq.c6
            have y7 := hq.c7
            have y8 := hq.c8
            have y9 := hq.c9
            have y10 := hq.c10
            have y11 := hq.c11
            have y12 := hq.c12
            unfold msgAgg
            go_simp
          go_simp; refine hK _ ?_; clear hK K
          refine sw_call _ rfl rfl (fun wz hz' hH => ?_) (fun K hK => ?_)
          · go_simp
            go_at_call 50
            refine (HEQ.out _ _ _ (hEa2.below hz') (hEb2.below hz')).mono ?_
            rintro e w12 ⟨rfl, hb12⟩
            exact ⟨_, rfl, rfl, hb12⟩
          go_simp; refine hK _ ?_; clear hK K
          refine sw_at (.bool true) rfl rfl (fun wz hz' hH => ?_) (fun K hK => ?_)
          · have e9 := hH _ (List.Mem.head _) rfl
            dsimp only at e9
            rw [show (0 + 1 + 1 + 1 + 1 + 1 + 1 + 1 + 1 + 1 : Nat) = 9 from rfl] at e9
            rw [e9]
            go_simp
            exact beq_iff_eq.1 HT2.out
          go_simp; refine hK _ ?_; clear hK K
          ((with_reducible refine sw_pure ?_ (fun K hK => ?_)); (· rfl); go_simp; with_reducible refine hK _ ?_; clear hK K)
          refine sw_done (fun wz hz hH => ?_)
          go_wp2_with fail
          go_meet
          exact ⟨rfl, hz⟩
        case rest =>
          obtain ⟨rfl, hbz⟩ := hcut
          have hb5 := hbw.trans (hbz.mono hbw.size)
          go_wp2_with fail
          go_ret
          exact ⟨rfl, hb5⟩
/-! ### From the row to the walk -/
namespace msgTwinsF
set_option linter.unusedVariables false
theorem own : ownKnob Try.prog.godebug = none := by kernel_rfl
theorem laidOut : laidOutB Try.prog = true := by kernel_rfl
set_option maxRecDepth 100000 in
theorem lifted (os : Os) (started : os.Started) (H : Type) (enc : TypeId × Value → H) :
    ReturnsInHanded {} Try.checked os 13 .any (Rows.msgTwinsSpec.pre6 enc Try.prog Try.f13 Rows.msgTwinsRow.domain false) (Rows.msgTwinsSpec.post enc Try.prog Try.f13 false true false false) := by
  refine returnsInHanded_of_change (C := Try.checked) own started (by kernel_rfl) Try.func13
    (ChangeSpec.witness6 (enc := enc) (C := Try.checked) false ⟨#[], #[msgTwins_wit0, msgTwins_wit1], []⟩ 8 (by kernel_rfl) (by kernel_rfl) (by kernel_rfl) (by kernel_rfl)) ?_
  intro W base args ds gs before hval0 hW hcnd _
  have hval : ∀ (j : Nat) t v, Try.f13.params[j]? = some t → args[j]? = some v → Value.okWide Try.prog W .any base t v := hval0
  have hW' := hW
  obtain ⟨p, q, hA0, hV, rfl, hfz, hnd⟩ := hW
  have hA : DataW.TrodAll enc Try.prog W 0 (fun _ => true) true Try.f13.params.toList args.toList ds p := hA0
  rw [Try.params13] at hA hval
  obtain ⟨v0, vs0, d0, ds0, p0, q0, hargs, rfl, rfl, h0, r0⟩ := trodAll_cons hA
  obtain ⟨v1, vs1, d1, ds1, p1, q1, rfl, rfl, rfl, h1, r1⟩ := trodAll_cons r0
  obtain ⟨rfl, rfl, rfl⟩ := trodAll_nil r1
  obtain rfl : args = #[v0, v1] := by cases args; simp_all
  obtain ⟨rfl, rfl⟩ := trodVars_none hV
  have k0 := h0
  have lt0 : ∀ x ∈ p0, x.block < W.heap.size := by obtain ⟨m, hm⟩ := k0; exact DataW.trod_lt m _ _ _ hm
  obtain ⟨x0, w0⟩ := msgTwins_open0 (hval 0 76 v0 rfl rfl) h0
  have k1 := h1
  have lt1 : ∀ x ∈ p1, x.block < W.heap.size := by obtain ⟨m, hm⟩ := k1; exact DataW.trod_lt m _ _ _ hm
  obtain ⟨x1, w1⟩ := msgTwins_open1 (hval 1 76 v1 rfl rfl) h1
  clear hA0 hval0
  refine (msgTwins_walk v0 x0 v1 x1 W w0 w1).mono fun e W' ⟨he, bel⟩ => ?_
  subst he
  exact ⟨_, rfl, _, _, _, [], _, [], hW', trodAll_mk1 (shut_bool Try.underlying4 _), (trodAll_cons_mk (Below.trod laidOut (by kernel_rfl) (of_decide_eq_true (by kernel_rfl)) k0 bel lt0) (trodAll_cons_mk (Below.trod laidOut (by kernel_rfl) (of_decide_eq_true (by kernel_rfl)) k1 bel lt1) trodAll_mk0)), rfl, bel.frame _, fun h => by cases h⟩
theorem over : Rows.msgTwinsRow.holds Try.pinned (OpenSpec.ofChange Rows.msgTwinsSpec) :=
  OpenClaim.holds_of_wide 13 Try.f13 rfl rfl rfl rfl rfl rfl rfl ⟨rfl, rfl, rfl, rfl, rfl⟩ rfl rfl rfl rfl rfl (by kernel_rfl) Try.func13 (by kernel_rfl)
    (of_decide_eq_true (by kernel_rfl)) (by unfold Func.isWrapper; first | (rw [if_pos (by decide +kernel)]; kernel_rfl) | (rw [if_neg (by decide +kernel)]; exact ⟨rfl, rfl⟩))
    (fun os started H enc _ => lifted os started H enc)
end msgTwinsF
theorem msgTwins_holds : Rows.MsgTwinsSaid := msgTwinsF.over
#print axioms msgTwins_holds
end Go.Proofs.Ytihcohneongomaa
