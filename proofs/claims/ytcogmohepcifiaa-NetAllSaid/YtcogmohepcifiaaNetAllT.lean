/-
  No claim by itself: the law NetAll: what is looked at behind each operation. No condition.
-/
import Derived.Test.YtcogmohepcifiaaNetAllK
namespace Go.Proofs.Ytcogmohepcifiaa
open Go.ChangeShapes Go.WideShapes Go.ChangeAt Go.RowKit Go.Deep

set_option linter.unusedVariables false in
set_option maxRecDepth 1000000 in
set_option maxHeartbeats 16000000 in
theorem netAll_tail {w wc : World} {b O X k : Nat} {ok oi : Int} {ea : Option Addr} {ec : Nat} {m : Msg} {inb : Bool} (hk60 : k < 60) (hoi : -9223372036854775808 ≤ oi ∧ oi ≤ 9223372036854775807)
    (HAG : Hid (∀ v (m : Msg), msgAgg v m = .agg #[.int .i64 m.k, .int .i64 m.f, .int .i64 m.o, .int .i64 m.t, .int .i64 m.i, .int .i64 m.l, .int .i64 m.c, .bool m.y, v, .int .i64 m.s.i, .int .i64 m.s.t, .string m.s.c, .string m.s.d]))
    {c0 c16 c17 c18 c19 u2 u5 u10 u11 u12 u13 u14 u15 u20 u21 u22 u23 u24 u25 u26 u27 u28 u29 u30 u31 u32 u33 u34 u35 u36 u37 u38 u39 u40 u41 u42 u43 u44 u45 u46 u47 u49 u50 u51 u52 u53 u54 u55 u56 u57 u58 u59 u60 u61 u62 u63 u64 u65 u66 u67 u68 u69 u70 u71 u72 u73 u74 u75 u76 u77 u78 u79 u80 u81 u82 u83 u84 u85 u86 u87 u88 u89 u90 u91 u92 u93 u94 u95 u96 u97 u98 u99 u100 u101 u102 u103 u104 u105 u106 u107 u108 u109 u110 u111 u112 u113 u114 u115 u116 u117 u118 u119 u120 u121 u122 u123 u124 u125 u126 u127 u128 u129 u130 u131 u132 u133 u134 u135 u136 u137 u138 u139 u140 u141 u142 u143 u144 u145 u146 u147 u148 u149 u150 u151 u152 u153 u154 u155 u156 u157 u158 u159 u160 u161 u162 u163 u164 u165 u166 u167 u168 u169 u170 u171 u172 u173 u174 u175 u176 u177 u178 u179 u180 u181 u182 u183 u184 u185 u186 u187 u188 u189 u190 u191 u192 u193 u194 u195 u196 u197 u198 u199 u200 u201 u202 u203 u204 u205 u206 u207 u208 u209 u210 u211 u212 u213 u214 u215 u216 u217 u218 u219 u220 u221 u222 : Value} (hcut : ∃ nv' ms' lm', Hid (LS wc w.heap.size b nv' ms' u5 lm' [] [O] (k + 1)) ∧ OpB wc O ⟨ok, oi, .slice ea m.es.length ec, m⟩ ∧ Below w.heap.size w wc) {J K : Act → World → Prop} {Q0 : Exit → Act → World → Prop}
    (hJ : ∀ a' w', netEnd w b k c0 c16 c17 c18 c19 a' w' → J a' w') (hK : ∀ a' w', Met J a' w' → K a' w') :
    netAft.wp Try.prog (Exit.inBlock 1 (Exit.then K Q0)) ⟨#[c0, undef, u2, .bool true, .pointer (some ⟨b, 0, none⟩), u5, .int .i64 k, .pointer (some ⟨O, 0, none⟩), .pointer (some ⟨X, 0, none⟩), .bool inb, u10, u11, u12, u13, u14, u15, c16, c17, c18, c19, u20, u21, u22, u23, u24, u25, u26, u27, u28, u29, u30, u31, u32, u33, u34, u35, u36, u37, u38, u39, u40, u41, u42, u43, u44, u45, u46, u47, .int .i64 ok, u49, u50, u51, u52, u53, u54, u55, u56, u57, u58, u59, u60, u61, u62, u63, u64, u65, u66, u67, u68, u69, u70, u71, u72, u73, u74, u75, u76, u77, u78, u79, u80, u81, u82, u83, u84, u85, u86, u87, u88, u89, u90, u91, u92, u93, u94, u95, u96, u97, u98, u99, u100, u101, u102, u103, u104, u105, u106, u107, u108, u109, u110, u111, u112, u113, u114, u115, u116, u117, u118, u119, u120, u121, u122, u123, u124, u125, u126, u127, u128, u129, u130, u131, u132, u133, u134, u135, u136, u137, u138, u139, u140, u141, u142, u143, u144, u145, u146, u147, u148, u149, u150, u151, u152, u153, u154, u155, u156, u157, u158, u159, u160, u161, u162, u163, u164, u165, u166, u167, u168, u169, u170, u171, u172, u173, u174, u175, u176, u177, u178, u179, u180, u181, u182, u183, u184, u185, u186, u187, u188, u189, u190, u191, u192, u193, u194, u195, u196, u197, u198, u199, u200, u201, u202, u203, u204, u205, u206, u207, u208, u209, u210, u211, u212, u213, u214, u215, u216, u217, u218, u219, u220, u221, u222], []⟩ wc := by
  conv => arg 2; whnf
  let QQ : Exit → Act → World → Prop := bodyPost Try.prog Try.f6 (fun _ _ => True)
  obtain ⟨nv', ms', lm', HL, hO, hb⟩ := hcut
  have hnl' := HL.out.nlen
  have hlk' := HL.out.len
  obtain ⟨la', lc', rfl⟩ := HL.out.two.l.slice
  have HSM' : Hid (∀ p ∈ ms', p.2.es.length ≤ 1000000000) := Lib.hid (fun p hp => by
    have : p.2 ∈ vms lm' := by rw [← HL.out.same]; exact List.mem_map_of_mem hp
    obtain ⟨q, hq, he⟩ := List.mem_map.1 this
    have := (HL.out.ok q hq).2.1
    rw [he] at this
    omega)
  have o1 := hO.c1
  dsimp only at o1
  go_wp2_with fail
  refine (net_look HL.out.two.net oi HSM'.out).mono ?_
  rintro e w6 ⟨hb6, hcase⟩
  by_cases hin : 0 ≤ oi ∧ oi < (lm'.length : Int)
  case pos =>
    obtain ⟨hin0, hin1⟩ := hin
    obtain ⟨j, rfl⟩ := Int.eq_ofNat_of_zero_le hin0
    have hjl : j < lm'.length := by omega
    obtain ⟨XM, v6, rfl, hXM, ho6⟩ : ∃ XM v, e = .returned (.tuple #[msgAgg v XM, .bool true]) ∧ lm'[j].2 = XM ∧ EntO w6 wc.heap.size v XM.es := by
      rcases hcase with ⟨j', hj', hi, v, hv, ho⟩ | ⟨hi, _⟩
      · obtain rfl : j' = j := by omega
        exact ⟨_, v, hv, (vms_get HL.out.same j' hj' hjl).symm, ho⟩
      · omega
    have hXl : XM.es.length ≤ 10 := (hXM ▸ HL.out.ok lm'[j] (List.getElem_mem hjl)).2.1
    clear hcase
    have hT6 := (HL.out.two.got hb6 (p := (v6, XM)) ho6)
    obtain ⟨va, vc, rfl⟩ := ho6.r.slice
    have hX2 := msgS_box w6 (.slice va XM.es.length vc) XM 30
    have hbx := (Below.refl w6.heap.size w6).alloc (Nat.le_refl _) (.cells #[.int .i64 XM.k, .int .i64 XM.f, .int .i64 XM.o, .int .i64 XM.t, .int .i64 XM.i, .int .i64 XM.l, .int .i64 XM.c, .bool XM.y, (.slice va XM.es.length vc), .int .i64 XM.s.i, .int .i64 XM.s.t, .string XM.s.c, .string XM.s.d] 30)
    have hb7 := hb.trans (hb6.mono hb.size)
    have HS6 := Lib.hid (⟨hT6.box hbx (by simp), hX2, (hO.below hb6).below hbx, hb7.trans (hbx.mono hb7.size)⟩ : Sit w _ b nv' ms' (.slice la' lm'.length lc') lm' w6.heap.size O (.slice va XM.es.length vc) XM ⟨ok, (j : Nat), .slice ea m.es.length ec, m⟩)
    have HLB : Hid (vms ms' = vms lm' ∧ (∀ p ∈ lm', okM p.2) ∧ lm'.length ≤ k + 1) := Lib.hid ⟨HL.out.same, HL.out.ok, HL.out.len⟩
    clear hT6 hX2 hbx hb7 hb6 hb hO ho6 HL o1
    rw [HAG.out]
    go_upto_region 44 with fail
    generalize w6.alloc _ = w7 at *
    generalize w6.heap.size = X2 at *
    have o1 := HS6.out.o.c1
    dsimp only at o1
    have t0 : decide (0 ≤ ((j : Nat) : Int)) = true := decide_eq_true (by omega)
    have t1 : decide (((j : Nat) : Int) < (lm'.length : Int)) = true := decide_eq_true (by omega)
    have HNL := Lib.hid hnl'
    clear hnl'
    go_upto_region 45 with fail
    clear t0 t1 o1
    go_cut [222] (fun x wx => x = .bool false ∧ Hid (Sit w wx b nv' ms' (.slice la' lm'.length lc') lm' X2 O (.slice va XM.es.length vc) XM ⟨ok, (j : Nat), .slice ea m.es.length ec, m⟩))
    case first =>
      obtain ⟨g, hla, -, hgb, hgl, hcap, hcm, hcc⟩ := HS6.out.two.l.cells j hjl
      subst hla
      obtain ⟨lw, hlw⟩ : ∃ lw, lm'[j] = (lw, XM) := ⟨lm'[j].1, Prod.ext rfl hXM⟩
      have hent := HS6.out.two.ents lm'[j] (List.mem_append_left _ (List.getElem_mem hjl))
      rw [hlw] at hcc hent
      dsimp only at hent
      obtain ⟨lwa, lwc, rfl⟩ := hent.r.slice
      have HCC := Lib.hid hcc
      have HENT := Lib.hid hent.r
      have HXB := Lib.hid HS6.out.x
      have HOB := Lib.hid HS6.out.o
      have HXE := Lib.hid HS6.out.ent.r
      have HEQ := Lib.hid (fun (u : World) (x y : Value) (hx : EntR u x XM.es) (hy : EntR u y XM.es) => eq_msgG x y XM XM u hx hy (by omega) (by omega))
      clear hcc hent hlw
      refine wp_region_sw (by rfl) (by kernel_rfl) (fun k' => match k' with | 1 => some (fun v' _ => v' = .int .i64 (lm'.length : Nat)) | 19 => some (fun v' _ => v' = .bool true) | _ => none) ?_ (fun vals => ?_)
      · intro k' φ hk v' w1 w2 h1 h2
        match k', hk with
        | 1, hk => obtain rfl := Option.some.inj hk; exact h1
        | 19, hk => obtain rfl := Option.some.inj hk; exact h1
      have HNT := Lib.hid HS6.out.two.net
      ((with_reducible refine sw_pure ?_ (fun K hK => ?_)); (· rfl); go_simp; with_reducible refine hK _ ?_; clear hK K)
      refine sw_call _ rfl rfl (fun wz hz' hH => ?_) (fun K hK => ?_)
      · go_simp
        go_at_call 10
        refine (net_len (HNT.out.below hz')).mono ?_
        rintro e w12 ⟨rfl, rfl⟩
        exact ⟨_, rfl, by rw [HNL.out], Below.refl _ _⟩
      go_simp; refine hK _ ?_; clear hK K
      ((with_reducible refine sw_pure ?_ (fun K hK => ?_)); (· rfl); go_simp; with_reducible refine hK _ ?_; clear hK K)
      ((with_reducible refine sw_pure ?_ (fun K hK => ?_)); (· rfl); go_simp; with_reducible refine hK _ ?_; clear hK K)
      refine sw_at (.bool false) rfl rfl (fun wz hz' hH => ?_) (fun K hK => ?_)
      · have e1 := hH _ (List.Mem.head _) rfl
        dsimp only at e1
        rw [show (0 + 1 : Nat) = 1 from rfl] at e1
        rw [e1]
        go_simp
      go_simp; refine hK _ ?_; clear hK K
      iterate 8 ((with_reducible refine sw_pure ?_ (fun K hK => ?_)); (· rfl); go_simp; with_reducible refine hK _ ?_; clear hK K)
      refine sw_at (msgAgg (.slice va XM.es.length vc) XM) rfl rfl (fun wz hz' hH => ?_) (fun K hK => ?_)
      · have hq := HXB.out.below hz'
        have y0 := hq.c0
        have y1 := hq.c1
        have y2 := hq.c2
        have y3 := hq.c3
        have y4 := hq.c4
        have y5 := hq.c5
        have y6 := hq.c6
        have y7 := hq.c7
        have y8 := hq.c8
        have y9 := hq.c9
        have y10 := hq.c10
        have y11 := hq.c11
        have y12 := hq.c12
        unfold msgAgg
        go_simp
      go_simp; refine hK _ ?_; clear hK K
      ((with_reducible refine sw_pure ?_ (fun K hK => ?_)); (· rfl); go_simp; with_reducible refine hK _ ?_; clear hK K)
      ((with_reducible refine sw_pure ?_ (fun K hK => ?_)); (· rfl); go_simp; with_reducible refine hK _ ?_; clear hK K)
      refine sw_at (.int .i64 (j : Nat)) rfl rfl (fun wz hz' hH => ?_) (fun K hK => ?_)
      · have o1 := (HOB.out.below hz').c1
        dsimp only at o1
        go_simp
      go_simp; refine hK _ ?_; clear hK K
      refine sw_at (.pointer (some ⟨g, j * 13, none⟩)) rfl rfl (fun wz hz' hH => ?_) (fun K hK => ?_)
      · go_simp
      go_simp; refine hK _ ?_; clear hK K
      refine sw_at (msgAgg (.slice lwa XM.es.length lwc) XM) rfl rfl (fun wz hz' hH => ?_) (fun K hK => ?_)
      · have hcz : ∀ i u, (vmCells ((.slice lwa XM.es.length lwc), XM))[i]? = some u → wz.cell? ⟨g, j * 13 + i, none⟩ = some u := fun i u hu => (hz'.cell (p := ⟨g, j * 13 + i, none⟩) hgl).trans (HCC.out i u hu)
        have r0 := hcz 0 _ rfl
        have r1 := hcz 1 _ rfl
        have r2 := hcz 2 _ rfl
        have r3 := hcz 3 _ rfl
        have r4 := hcz 4 _ rfl
        have r5 := hcz 5 _ rfl
        have r6 := hcz 6 _ rfl
        have r7 := hcz 7 _ rfl
        have r8 := hcz 8 _ rfl
        have r9 := hcz 9 _ rfl
        have r10 := hcz 10 _ rfl
        have r11 := hcz 11 _ rfl
        have r12 := hcz 12 _ rfl
        dsimp only at r0 r1 r2 r3 r4 r5 r6 r7 r8 r9 r10 r11 r12
        rw [Nat.add_zero] at r0
        unfold msgAgg
        go_simp
      go_simp; refine hK _ ?_; clear hK K
      refine sw_call _ rfl rfl (fun wz hz' hH => ?_) (fun K hK => ?_)
      · rw [HAG.out (.slice va XM.es.length vc) XM, HAG.out (.slice lwa XM.es.length lwc) XM]
        go_simp
        go_at_call 14
        refine (HEQ.out _ _ _ (HXE.out.below hz') (HENT.out.below hz')).mono ?_
        rintro e w12 ⟨rfl, hb12⟩
        exact ⟨_, rfl, congrArg Value.bool (eqM_iff.2 rfl), hb12⟩
      go_simp; refine hK _ ?_; clear hK K
      refine sw_at (.bool false) rfl rfl (fun wz hz' hH => ?_) (fun K hK => ?_)
      · have e9 := hH _ (List.Mem.head _) rfl
        dsimp only at e9
        rw [show (0 + 1 + 1 + 1 + 1 + 1 + 1 + 1 + 1 + 1 + 1 + 1 + 1 + 1 + 1 + 1 + 1 + 1 + 1 + 1 : Nat) = 19 from rfl] at e9
        rw [e9]
        go_simp
      go_simp; refine hK _ ?_; clear hK K
      ((with_reducible refine sw_pure ?_ (fun K hK => ?_)); (· rfl); go_simp; with_reducible refine hK _ ?_; clear hK K)
      ((with_reducible refine sw_pure ?_ (fun K hK => ?_)); (· rfl); go_simp; with_reducible refine hK _ ?_; clear hK K)
      refine sw_done (fun wz hz' hH => ?_)
      have HSZ := Lib.hid (HS6.out.below hz')
      clear hH
      go_wp2_with fail
      go_meet
      exact ⟨rfl, HSZ⟩
    case rest =>
      obtain ⟨rfl, HS9⟩ := hcut
      have HL2 : Hid (LS wc w.heap.size b nv' ms' (.slice la' lm'.length lc') lm' [] [] (k + 1)) := Lib.hid ⟨HS9.out.two.sub (by simp) (by simp), HLB.out.1, HLB.out.2.1, HLB.out.2.2⟩
      have hbel := HS9.out.bel
      clear HS9 HS6
      go_wp2_with fail
      (refine Met.intro (hJ _ _ ?_); unfold netEnd; refine ⟨_, _, _, _, _, _, _, _, _, _, _, _, _, _, _, _, _, _, _, _, _, _, _, _, _, _, _, _, _, _, _, _, _, _, _, _, _, _, _, _, _, _, _, _, _, _, _, _, _, _, _, _, _, _, _, _, _, _, _, _, _, _, _, _, _, _, _, _, _, _, _, _, _, _, _, _, _, _, _, _, _, _, _, _, _, _, _, _, _, _, _, _, _, _, _, _, _, _, _, _, _, _, _, _, _, _, _, _, _, _, _, _, _, _, _, _, _, _, _, _, _, _, _, _, _, _, _, _, _, _, _, _, _, _, _, _, _, _, _, _, _, _, _, _, _, _, _, _, _, _, _, _, _, _, _, _, _, _, _, _, _, _, _, _, _, _, _, _, _, _, _, _, _, _, _, _, _, _, _, _, _, _, _, _, _, _, _, _, _, _, _, _, _, _, _, _, _, _, _, _, _, _, _, _, _, _, _, _, _, _, _, _, _, _, ?_, rfl⟩; exact ⟨nv', ms', lm', HL2, hbel⟩)
  case neg =>
    have hno : oi < 0 ∨ (ms'.length : Int) ≤ oi := by omega
    obtain ⟨XM, v6, rfl, ho6⟩ : ∃ XM v, e = .returned (.tuple #[msgAgg v XM, .bool false]) ∧ EntO w6 wc.heap.size v XM.es := by
      rcases hcase with ⟨j', hj', hi, v, hv, ho⟩ | ⟨hi, he⟩
      · omega
      · exact ⟨zM, _, he, EntO.nil _ _⟩
    clear hcase
    have hT6 := (HL.out.two.got hb6 (p := (v6, XM)) ho6)
    obtain ⟨va, vc, rfl⟩ := ho6.r.slice
    have hX2 := msgS_box w6 (.slice va XM.es.length vc) XM 30
    have hbx := (Below.refl w6.heap.size w6).alloc (Nat.le_refl _) (.cells #[.int .i64 XM.k, .int .i64 XM.f, .int .i64 XM.o, .int .i64 XM.t, .int .i64 XM.i, .int .i64 XM.l, .int .i64 XM.c, .bool XM.y, (.slice va XM.es.length vc), .int .i64 XM.s.i, .int .i64 XM.s.t, .string XM.s.c, .string XM.s.d] 30)
    have hb7 := hb.trans (hb6.mono hb.size)
    have HS6 := Lib.hid (⟨hT6.box hbx (by simp), hX2, (hO.below hb6).below hbx, hb7.trans (hbx.mono hb7.size)⟩ : Sit w _ b nv' ms' (.slice la' lm'.length lc') lm' w6.heap.size O (.slice va XM.es.length vc) XM ⟨ok, oi, .slice ea m.es.length ec, m⟩)
    have HLB : Hid (vms ms' = vms lm' ∧ (∀ p ∈ lm', okM p.2) ∧ lm'.length ≤ k + 1) := Lib.hid ⟨HL.out.same, HL.out.ok, HL.out.len⟩
    clear hT6 hX2 hbx hb7 hb6 hb hO ho6 HL o1
    rw [HAG.out]
    go_upto_region 44 with fail
    generalize w6.alloc _ = w7 at *
    generalize w6.heap.size = X2 at *
    have o1 := HS6.out.o.c1
    dsimp only at o1
    by_cases h0 : 0 ≤ oi
    case neg =>
      have t0 : decide (0 ≤ oi) = false := decide_eq_false h0
      have HNL := Lib.hid hnl'
      clear hnl'
      go_upto_region 45 with fail
      clear t0 o1
      go_cut [222] (fun x wx => x = .bool false ∧ Hid (Sit w wx b nv' ms' (.slice la' lm'.length lc') lm' X2 O (.slice va XM.es.length vc) XM ⟨ok, oi, .slice ea m.es.length ec, m⟩))
      case first =>
        refine wp_region_sw (by rfl) (by kernel_rfl) (fun k' => match k' with | 1 => some (fun v' _ => v' = .int .i64 (lm'.length : Nat)) | _ => none) ?_ (fun vals => ?_)
        · intro k' φ hk v' w1 w2 h1 h2
          match k', hk with
          | 1, hk => obtain rfl := Option.some.inj hk; exact h1
        have HNT := Lib.hid HS6.out.two.net
        ((with_reducible refine sw_pure ?_ (fun K hK => ?_)); (· rfl); go_simp; with_reducible refine hK _ ?_; clear hK K)
        refine sw_call _ rfl rfl (fun wz hz' hH => ?_) (fun K hK => ?_)
        · go_simp
          go_at_call 10
          refine (net_len (HNT.out.below hz')).mono ?_
          rintro e w12 ⟨rfl, rfl⟩
          exact ⟨_, rfl, by rw [HNL.out], Below.refl _ _⟩
        go_simp; refine hK _ ?_; clear hK K
        ((with_reducible refine sw_pure ?_ (fun K hK => ?_)); (· rfl); go_simp; with_reducible refine hK _ ?_; clear hK K)
        ((with_reducible refine sw_pure ?_ (fun K hK => ?_)); (· rfl); go_simp; with_reducible refine hK _ ?_; clear hK K)
        refine sw_at (.bool false) rfl rfl (fun wz hz' hH => ?_) (fun K hK => ?_)
        · have e1 := hH _ (List.Mem.head _) rfl
          dsimp only at e1
          rw [show (0 + 1 : Nat) = 1 from rfl] at e1
          rw [e1]
          go_simp
        go_simp; refine hK _ ?_; clear hK K
        iterate 18 ((with_reducible refine sw_pure ?_ (fun K hK => ?_)); (· rfl); go_simp; with_reducible refine hK _ ?_; clear hK K)
        refine sw_done (fun wz hz' hH => ?_)
        have HSZ := Lib.hid (HS6.out.below hz')
        clear hH
        go_wp2_with fail
        go_meet
        exact ⟨rfl, HSZ⟩
      case rest =>
        obtain ⟨rfl, HS9⟩ := hcut
        have HL2 : Hid (LS wc w.heap.size b nv' ms' (.slice la' lm'.length lc') lm' [] [] (k + 1)) := Lib.hid ⟨HS9.out.two.sub (by simp) (by simp), HLB.out.1, HLB.out.2.1, HLB.out.2.2⟩
        have hbel := HS9.out.bel
        clear HS9 HS6
        go_wp2_with fail
        (refine Met.intro (hJ _ _ ?_); unfold netEnd; refine ⟨_, _, _, _, _, _, _, _, _, _, _, _, _, _, _, _, _, _, _, _, _, _, _, _, _, _, _, _, _, _, _, _, _, _, _, _, _, _, _, _, _, _, _, _, _, _, _, _, _, _, _, _, _, _, _, _, _, _, _, _, _, _, _, _, _, _, _, _, _, _, _, _, _, _, _, _, _, _, _, _, _, _, _, _, _, _, _, _, _, _, _, _, _, _, _, _, _, _, _, _, _, _, _, _, _, _, _, _, _, _, _, _, _, _, _, _, _, _, _, _, _, _, _, _, _, _, _, _, _, _, _, _, _, _, _, _, _, _, _, _, _, _, _, _, _, _, _, _, _, _, _, _, _, _, _, _, _, _, _, _, _, _, _, _, _, _, _, _, _, _, _, _, _, _, _, _, _, _, _, _, _, _, _, _, _, _, _, _, _, _, _, _, _, _, _, _, _, _, _, _, _, _, _, _, _, _, _, _, _, _, _, _, _, _, ?_, rfl⟩; exact ⟨nv', ms', lm', HL2, hbel⟩)
    case pos =>
      have t0 : decide (0 ≤ oi) = true := decide_eq_true h0
      have t1 : decide (oi < (lm'.length : Int)) = false := decide_eq_false (by omega)
      have HNL := Lib.hid hnl'
      clear hnl'
      go_upto_region 45 with fail
      clear t0 o1
      go_cut [222] (fun x wx => x = .bool false ∧ Hid (Sit w wx b nv' ms' (.slice la' lm'.length lc') lm' X2 O (.slice va XM.es.length vc) XM ⟨ok, oi, .slice ea m.es.length ec, m⟩))
      case first =>
        refine wp_region_sw (by rfl) (by kernel_rfl) (fun k' => match k' with | 1 => some (fun v' _ => v' = .int .i64 (lm'.length : Nat)) | _ => none) ?_ (fun vals => ?_)
        · intro k' φ hk v' w1 w2 h1 h2
          match k', hk with
          | 1, hk => obtain rfl := Option.some.inj hk; exact h1
        have HNT := Lib.hid HS6.out.two.net
        ((with_reducible refine sw_pure ?_ (fun K hK => ?_)); (· rfl); go_simp; with_reducible refine hK _ ?_; clear hK K)
        refine sw_call _ rfl rfl (fun wz hz' hH => ?_) (fun K hK => ?_)
        · go_simp
          go_at_call 10
          refine (net_len (HNT.out.below hz')).mono ?_
          rintro e w12 ⟨rfl, rfl⟩
          exact ⟨_, rfl, by rw [HNL.out], Below.refl _ _⟩
        go_simp; refine hK _ ?_; clear hK K
        ((with_reducible refine sw_pure ?_ (fun K hK => ?_)); (· rfl); go_simp; with_reducible refine hK _ ?_; clear hK K)
        ((with_reducible refine sw_pure ?_ (fun K hK => ?_)); (· rfl); go_simp; with_reducible refine hK _ ?_; clear hK K)
        refine sw_at (.bool false) rfl rfl (fun wz hz' hH => ?_) (fun K hK => ?_)
        · have e1 := hH _ (List.Mem.head _) rfl
          dsimp only at e1
          rw [show (0 + 1 : Nat) = 1 from rfl] at e1
          rw [e1]
          go_simp
        go_simp; refine hK _ ?_; clear hK K
        iterate 18 ((with_reducible refine sw_pure ?_ (fun K hK => ?_)); (· rfl); go_simp; with_reducible refine hK _ ?_; clear hK K)
        refine sw_done (fun wz hz' hH => ?_)
        have HSZ := Lib.hid (HS6.out.below hz')
        clear hH
        go_wp2_with fail
        go_meet
        exact ⟨rfl, HSZ⟩
      case rest =>
        obtain ⟨rfl, HS9⟩ := hcut
        have HL2 : Hid (LS wc w.heap.size b nv' ms' (.slice la' lm'.length lc') lm' [] [] (k + 1)) := Lib.hid ⟨HS9.out.two.sub (by simp) (by simp), HLB.out.1, HLB.out.2.1, HLB.out.2.2⟩
        have hbel := HS9.out.bel
        clear HS9 HS6
        go_wp2_with fail
        (refine Met.intro (hJ _ _ ?_); unfold netEnd; refine ⟨_, _, _, _, _, _, _, _, _, _, _, _, _, _, _, _, _, _, _, _, _, _, _, _, _, _, _, _, _, _, _, _, _, _, _, _, _, _, _, _, _, _, _, _, _, _, _, _, _, _, _, _, _, _, _, _, _, _, _, _, _, _, _, _, _, _, _, _, _, _, _, _, _, _, _, _, _, _, _, _, _, _, _, _, _, _, _, _, _, _, _, _, _, _, _, _, _, _, _, _, _, _, _, _, _, _, _, _, _, _, _, _, _, _, _, _, _, _, _, _, _, _, _, _, _, _, _, _, _, _, _, _, _, _, _, _, _, _, _, _, _, _, _, _, _, _, _, _, _, _, _, _, _, _, _, _, _, _, _, _, _, _, _, _, _, _, _, _, _, _, _, _, _, _, _, _, _, _, _, _, _, _, _, _, _, _, _, _, _, _, _, _, _, _, _, _, _, _, _, _, _, _, _, _, _, _, _, _, _, _, _, _, _, _, ?_, rfl⟩; exact ⟨nv', ms', lm', HL2, hbel⟩)
end Go.Proofs.Ytcogmohepcifiaa
