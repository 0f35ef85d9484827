/-
  No claim by itself: the law NetAll: a message is taken. No condition.
-/
import Derived.Test.YtcogmohepcifiaaNetAllK
namespace Go.Proofs.Ytcogmohepcifiaa
open Go.ChangeShapes Go.WideShapes Go.ChangeAt Go.RowKit Go.Deep

set_option linter.unusedVariables false in
set_option maxRecDepth 1000000 in
set_option maxHeartbeats 16000000 in
theorem netAll_c1 {w wc : World} {b O X k : Nat} {nv : Value} {ms lm : List VMsg} {la : Option Addr} {lc : Nat} {ok oi : Int} {ea : Option Addr} {ec : Nat} {m M : Msg} {maa : Option Addr} {mac : Nat} {inb : Bool} (hk60 : k < 60) (hoi : -9223372036854775808 ≤ oi ∧ oi ≤ 9223372036854775807) (hcs : M.es.length ≤ 10 ∧ M.s.c.size ≤ 60)
    (HAG : Hid (∀ v (m : Msg), msgAgg v m = .agg #[.int .i64 m.k, .int .i64 m.f, .int .i64 m.o, .int .i64 m.t, .int .i64 m.i, .int .i64 m.l, .int .i64 m.c, .bool m.y, v, .int .i64 m.s.i, .int .i64 m.s.t, .string m.s.c, .string m.s.d]))
    (HLA : Hid (vms ms = vms lm ∧ (∀ p ∈ lm, okM p.2) ∧ lm.length ≤ k)) (HSM : Hid (∀ p ∈ ms, p.2.es.length ≤ 1000000000))
    (HSIT : Hid (Sit w wc b nv ms (.slice la lm.length lc) lm X O (.slice maa M.es.length mac) M ⟨ok, oi, .slice ea m.es.length ec, m⟩))
    (hinb : (decide (0 ≤ oi) && decide (oi < (lm.length : Int))) = inb)
    (tk0 : (ok == 0) = false) (k1 : ok = 1)
    {c0 c16 c17 c18 c19 u2 u10 u11 u12 u13 u14 u15 u20 u21 u22 u23 u24 u25 u26 u27 u28 u29 u30 u31 u32 u33 u34 u35 u36 u37 u38 u39 u40 u41 u42 u43 u44 u45 u46 u49 u50 u51 u52 u53 u54 u55 u56 u57 u58 u59 u60 u61 u62 u63 u64 u65 u66 u67 u68 u69 u70 u71 u72 u73 u74 u75 u76 u77 u78 u79 u80 u81 u82 u83 u84 u85 u86 u87 u88 u89 u90 u91 u92 u93 u94 u95 u96 u97 u98 u99 u100 u101 u102 u103 u104 u105 u106 u107 u108 u109 u110 u111 u112 u113 u114 u115 u116 u117 u118 u119 u120 u121 u122 u123 u124 u125 u126 u127 u128 u129 u130 u131 u132 u133 u134 u135 u136 u137 u138 u139 u140 u141 u142 u143 u144 u145 u146 u147 u148 u149 u150 u151 u152 u153 u154 u155 u156 u157 u158 u159 u160 u161 u162 u163 u164 u165 u166 u167 u168 u169 u170 u171 u172 u173 u174 u175 u176 u177 u178 u179 u180 u181 u182 u183 u184 u185 u186 u187 u188 u189 u190 u191 u192 u193 u194 u195 u196 u197 u198 u199 u200 u201 u202 u203 u204 u205 u206 u207 u208 u209 u210 u211 u212 u213 u214 u215 u216 u217 u218 u219 u220 u221 u222 : Value} {J K : Act → World → Prop} {Q0 : Exit → Act → World → Prop}
    (hJ : ∀ a' w', netMid w b O X k ok oi ea ec m inb c0 u14 u15 c16 c17 c18 c19 a' w' → J a' w') (hK : ∀ a' w', Met J a' w' → K a' w') :
    netSw.wp Try.prog (Exit.then K Q0) ⟨#[c0, undef, u2, .bool true, .pointer (some ⟨b, 0, none⟩), .slice la lm.length lc, .int .i64 k, .pointer (some ⟨O, 0, none⟩), .pointer (some ⟨X, 0, none⟩), .bool inb, u10, u11, u12, u13, u14, u15, c16, c17, c18, c19, u20, u21, u22, u23, u24, u25, u26, u27, u28, u29, u30, u31, u32, u33, u34, u35, u36, u37, u38, u39, u40, u41, u42, u43, u44, u45, u46, .pointer (some ⟨O, 0, none⟩), .int .i64 ok, u49, u50, u51, u52, u53, u54, u55, u56, u57, u58, u59, u60, u61, u62, u63, u64, u65, u66, u67, u68, u69, u70, u71, u72, u73, u74, u75, u76, u77, u78, u79, u80, u81, u82, u83, u84, u85, u86, u87, u88, u89, u90, u91, u92, u93, u94, u95, u96, u97, u98, u99, u100, u101, u102, u103, u104, u105, u106, u107, u108, u109, u110, u111, u112, u113, u114, u115, u116, u117, u118, u119, u120, u121, u122, u123, u124, u125, u126, u127, u128, u129, u130, u131, u132, u133, u134, u135, u136, u137, u138, u139, u140, u141, u142, u143, u144, u145, u146, u147, u148, u149, u150, u151, u152, u153, u154, u155, u156, u157, u158, u159, u160, u161, u162, u163, u164, u165, u166, u167, u168, u169, u170, u171, u172, u173, u174, u175, u176, u177, u178, u179, u180, u181, u182, u183, u184, u185, u186, u187, u188, u189, u190, u191, u192, u193, u194, u195, u196, u197, u198, u199, u200, u201, u202, u203, u204, u205, u206, u207, u208, u209, u210, u211, u212, u213, u214, u215, u216, u217, u218, u219, u220, u221, u222], []⟩ wc := by
  conv => arg 2; whnf
  let QQ : Exit → Act → World → Prop := bodyPost Try.prog Try.f6 (fun _ _ => True)
  have HMAY := Lib.hid (fun (u : World) (x : Value) (hx : EntR u x M.es) => ref_mayMsg x M u hx (by omega) (by omega))
  have hnl : ms.length = lm.length := by rw [← vms_len ms, HLA.out.1, vms_len]
  have hlk : lm.length ≤ k := HLA.out.2.2
  have o0 := HSIT.out.o.c0
  have o1 := HSIT.out.o.c1
  dsimp only at o0 o1
  by_cases hin : 0 ≤ oi ∧ oi < (lm.length : Int)
  case pos =>
    obtain ⟨hin0, hin1⟩ := hin
    obtain ⟨j, rfl⟩ := Int.eq_ofNat_of_zero_le hin0
    have hjl : j < lm.length := by omega
    obtain rfl : inb = true := by rw [← hinb, decide_eq_true hin0, decide_eq_true hin1]; rfl
    clear hinb
    obtain rfl := k1
    go_wp2_with fail
    refine (net_take HSIT.out.two.net (j : Nat) hoi.1 hoi.2 (by omega) HSM.out).mono ?_
    rintro e w6 ⟨nv', ms', hN', hk6, hg6, hcase⟩
    obtain ⟨XM, v6, rfl, rfl, hXM0, ho6⟩ : ∃ XM v, e = .returned (.tuple #[msgAgg v XM, .bool true]) ∧ ms' = ms.eraseIdx j ∧ lm[j].2 = XM ∧ EntO w6 wc.heap.size v XM.es := by
      rcases hcase with ⟨j', hj', hi, he, v, hv, ho⟩ | ⟨hi, _, _⟩
      · obtain rfl : j' = j := by omega
        exact ⟨_, v, hv, he, (vms_get HLA.out.1 j' hj' hjl).symm, ho⟩
      · omega
    have hXok : okM XM := hXM0 ▸ HLA.out.2.1 lm[j] (List.getElem_mem hjl)
    have hXl := hXok.2
    have HXM := Lib.hid hXok.1
    clear hXok
    have hXM := hXM0
    have hT6 := (HSIT.out.two.took hN' hk6 hg6 (fun p hp => List.mem_of_mem_eraseIdx hp) (p := (v6, XM)) ho6).sub (ex' := [(v6, XM)]) (hs' := [O]) (by simp) (by simp)
    have hO6 := HSIT.out.o.keeps hk6 (HSIT.out.two.apartNet (by simp))
    have hb6 := HSIT.out.bel.trans (hk6.below (B := w.heap.size) HSIT.out.two.netBase HSIT.out.bel.size)
    obtain ⟨va, vc, rfl⟩ := ho6.r.slice
    have hX2 := msgS_box w6 (.slice va XM.es.length vc) XM 30
    have hbx := (Below.refl w6.heap.size w6).alloc (Nat.le_refl _) (.cells #[.int .i64 XM.k, .int .i64 XM.f, .int .i64 XM.o, .int .i64 XM.t, .int .i64 XM.i, .int .i64 XM.l, .int .i64 XM.c, .bool XM.y, (.slice va XM.es.length vc), .int .i64 XM.s.i, .int .i64 XM.s.t, .string XM.s.c, .string XM.s.d] 30)
    have HS6 := Lib.hid (⟨hT6.box hbx (by simp), hX2, hO6.below hbx, hb6.trans (hbx.mono hb6.size)⟩ : Sit w _ b nv' (ms.eraseIdx j) (.slice la lm.length lc) lm w6.heap.size O (.slice va XM.es.length vc) XM ⟨1, (j : Nat), .slice ea m.es.length ec, m⟩)
    clear hT6 hO6 hb6 hX2 hbx hN' hk6 hg6 ho6 HSIT o0 o1
    rw [HAG.out]
    go_upto_region 30 with fail
    generalize w6.alloc _ = w7 at *
    generalize w6.heap.size = X2 at *
    have o0 := HS6.out.o.c0
    have o1 := HS6.out.o.c1
    dsimp only at o0 o1
    have HV8 : Hid (vms (ms.eraseIdx j) = vms (lm.eraseIdx j)) := Lib.hid (vms_erase HLA.out.1 j)
    go_upto_region 32 with fail
    clear o0 o1
    go_cut [138] (fun x wx => x = .bool false ∧ Hid (Sit w wx b nv' (ms.eraseIdx j) (.slice la lm.length lc) lm X2 O (.slice va XM.es.length vc) XM ⟨1, (j : Nat), .slice ea m.es.length ec, m⟩))
    case first =>
      obtain ⟨g, hla, -, hgb, hgl, hcap, hcm, hcc⟩ := HS6.out.two.l.cells j hjl
      subst hla
      obtain ⟨lw, hlw⟩ : ∃ lw, lm[j] = (lw, XM) := ⟨lm[j].1, Prod.ext rfl hXM⟩
      have hent := HS6.out.two.ents lm[j] (List.mem_append_left _ (List.getElem_mem hjl))
      rw [hlw] at hcc hent
      dsimp only at hent
      obtain ⟨lwa, lwc, rfl⟩ := hent.r.slice
      have HCC := Lib.hid hcc
      have HENT := Lib.hid hent.r
      have HXB := Lib.hid HS6.out.x
      have HOB := Lib.hid HS6.out.o
      have HXE := Lib.hid HS6.out.ent.r
      have HEQ := Lib.hid (fun (u : World) (x y : Value) (hx : EntR u x XM.es) (hy : EntR u y XM.es) => eq_msgG x y XM XM u hx hy (by omega) (by omega))
      clear hcc hent hlw
      refine wp_region_sw (by rfl) (by kernel_rfl) (fun k' => match k' with | 12 => some (fun v' _ => v' = .bool true) | _ => none) ?_ (fun vals => ?_)
      · intro k' φ hk v' w1 w2 h1 h2
        match k', hk with
        | 12, hk => obtain rfl := Option.some.inj hk; exact h1
      iterate 6 ((with_reducible refine sw_pure ?_ (fun K hK => ?_)); (· rfl); go_simp; with_reducible refine hK _ ?_; clear hK K)
      refine sw_at (msgAgg (.slice va XM.es.length vc) XM) rfl rfl (fun wz hz' hH => ?_) (fun K hK => ?_)
      · have hq := HXB.out.below hz'
        have y0 := hq.c0
        have y1 := hq.c1
        have y2 := hq.c2
        have y3 := hq.c3
        have y4 := hq.c4
        have y5 := hq.c5
        have y6 := hq.c6
        have y7 := hq.c7
        have y8 := hq.c8
        have y9 := hq.c9
        have y10 := hq.c10
        have y11 := hq.c11
        have y12 := hq.c12
        unfold msgAgg
        go_simp
      go_simp; refine hK _ ?_; clear hK K
      ((with_reducible refine sw_pure ?_ (fun K hK => ?_)); (· rfl); go_simp; with_reducible refine hK _ ?_; clear hK K)
      ((with_reducible refine sw_pure ?_ (fun K hK => ?_)); (· rfl); go_simp; with_reducible refine hK _ ?_; clear hK K)
      refine sw_at (.int .i64 (j : Nat)) rfl rfl (fun wz hz' hH => ?_) (fun K hK => ?_)
      · have o1 := (HOB.out.below hz').c1
        dsimp only at o1
        go_simp
      go_simp; refine hK _ ?_; clear hK K
      refine sw_at (.pointer (some ⟨g, j * 13, none⟩)) rfl rfl (fun wz hz' hH => ?_) (fun K hK => ?_)
      · go_simp
      go_simp; refine hK _ ?_; clear hK K
      refine sw_at (msgAgg (.slice lwa XM.es.length lwc) XM) rfl rfl (fun wz hz' hH => ?_) (fun K hK => ?_)
      · have hcz : ∀ i u, (vmCells ((.slice lwa XM.es.length lwc), XM))[i]? = some u → wz.cell? ⟨g, j * 13 + i, none⟩ = some u := fun i u hu => (hz'.cell (p := ⟨g, j * 13 + i, none⟩) hgl).trans (HCC.out i u hu)
        have r0 := hcz 0 _ rfl
        have r1 := hcz 1 _ rfl
        have r2 := hcz 2 _ rfl
        have r3 := hcz 3 _ rfl
        have r4 := hcz 4 _ rfl
        have r5 := hcz 5 _ rfl
        have r6 := hcz 6 _ rfl
        have r7 := hcz 7 _ rfl
        have r8 := hcz 8 _ rfl
        have r9 := hcz 9 _ rfl
        have r10 := hcz 10 _ rfl
        have r11 := hcz 11 _ rfl
        have r12 := hcz 12 _ rfl
        dsimp only at r0 r1 r2 r3 r4 r5 r6 r7 r8 r9 r10 r11 r12
        rw [Nat.add_zero] at r0
        unfold msgAgg
        go_simp
      go_simp; refine hK _ ?_; clear hK K
      refine sw_call _ rfl rfl (fun wz hz' hH => ?_) (fun K hK => ?_)
      · rw [HAG.out (.slice va XM.es.length vc) XM, HAG.out (.slice lwa XM.es.length lwc) XM]
        go_simp
        go_at_call 14
        refine (HEQ.out _ _ _ (HXE.out.below hz') (HENT.out.below hz')).mono ?_
        rintro e w12 ⟨rfl, hb12⟩
        exact ⟨_, rfl, congrArg Value.bool (eqM_iff.2 rfl), hb12⟩
      go_simp; refine hK _ ?_; clear hK K
      refine sw_at (.bool false) rfl rfl (fun wz hz' hH => ?_) (fun K hK => ?_)
      · have e9 := hH _ (List.Mem.head _) rfl
        dsimp only at e9
        rw [show (0 + 1 + 1 + 1 + 1 + 1 + 1 + 1 + 1 + 1 + 1 + 1 + 1 : Nat) = 12 from rfl] at e9
        rw [e9]
        go_simp
      go_simp; refine hK _ ?_; clear hK K
      iterate 11 ((with_reducible refine sw_pure ?_ (fun K hK => ?_)); (· rfl); go_simp; with_reducible refine hK _ ?_; clear hK K)
      refine sw_done (fun wz hz' hH => ?_)
      have HSZ := Lib.hid (HS6.out.below hz')
      clear hH
      go_wp2_with fail
      go_meet
      exact ⟨rfl, HSZ⟩
    case rest =>
      obtain ⟨rfl, HS9⟩ := hcut
      clear HS6
      go_upto_region 35 with fail
      obtain ⟨g, hla, -, hcap, hcm, her⟩ := HS9.out.erase (by omega) j hjl
      subst hla
      have HOB := Lib.hid HS9.out.o
      have HER := Lib.hid her
      clear her
      go_cut [5] (fun yv wx => Hid (Sit w wx b nv' (ms.eraseIdx j) yv (lm.eraseIdx j) X2 O (.slice va XM.es.length vc) XM ⟨1, (j : Nat), .slice ea m.es.length ec, m⟩))
      case first =>
        refine wp_region_tail 11 (by rfl) (by kernel_rfl) (fun _ => none) (by simp) (fun vals => ?_)
        dsimp only [List.take, List.drop]
        iterate 2 ((with_reducible refine sw_pure ?_ (fun K hK => ?_)); (· rfl); go_simp; with_reducible refine hK _ ?_; clear hK K)
        refine sw_at (.int .i64 (j : Nat)) rfl rfl (fun wz hz' hH => ?_) (fun K hK => ?_)
        · have o1 := (HOB.out.below hz').c1
          dsimp only at o1
          go_simp
        go_simp; refine hK _ ?_; clear hK K
        ((with_reducible refine sw_pure ?_ (fun K hK => ?_)); (· rfl); go_simp; with_reducible refine hK _ ?_; clear hK K)
        refine sw_at (.int .i64 (j : Nat)) rfl rfl (fun wz hz' hH => ?_) (fun K hK => ?_)
        · have o1 := (HOB.out.below hz').c1
          dsimp only at o1
          go_simp
        go_simp; refine hK _ ?_; clear hK K
        refine sw_at (.slice (some ⟨g, 0, none⟩) j j) rfl rfl (fun wz hz' hH => ?_) (fun K hK => ?_)
        · go_simp
          rw [if_pos (by omega)]
          exact ⟨rfl, rfl⟩
        go_simp; refine hK _ ?_; clear hK K
        iterate 2 ((with_reducible refine sw_pure ?_ (fun K hK => ?_)); (· rfl); go_simp; with_reducible refine hK _ ?_; clear hK K)
        refine sw_at (.int .i64 (j : Nat)) rfl rfl (fun wz hz' hH => ?_) (fun K hK => ?_)
        · have o1 := (HOB.out.below hz').c1
          dsimp only at o1
          go_simp
        go_simp; refine hK _ ?_; clear hK K
        refine sw_at (.int .i64 ((j + 1 : Nat) : Int)) rfl rfl (fun wz hz' hH => ?_) (fun K hK => ?_)
        · go_simp
          rw [IntKind.wrap_i64]
          omega
        go_simp; refine hK _ ?_; clear hK K
        refine sw_at (.slice (if lc = j + 1 then some (⟨g, 0, none⟩ : Addr) else some ⟨g, (j + 1) * 13, none⟩) (lm.length - (j + 1)) (lc - (j + 1))) rfl rfl (fun wz hz' hH => ?_) (fun K hK => ?_)
        · go_simp
          rw [if_pos ⟨by omega, by omega⟩]
          exact ⟨rfl, rfl⟩
        go_simp; refine hK _ ?_; clear hK K
        refine sw_done (fun wz hz' hH => ?_)
        unfold tailQ
        obtain ⟨lv', w', hr, hS'⟩ := HER.out wz hz'
        have HS' := Lib.hid hS'
        clear hS' hH
        go_wp2_with (at_builtin; refine wpList_append_run rfl _ _ 42 rfl rfl rfl hr ?_)
        clear hr
        go_wp2_with fail
        all_goals go_meet
        all_goals exact HS'
      case rest =>
        clear HS9
        have HS10 := hcut
        clear hcut
        have o0 := HS10.out.o.c0
        dsimp only at o0
        have HL2 : Hid (LS wc w.heap.size b nv' (ms.eraseIdx j) u5 (lm.eraseIdx j) [] [O] (k + 1)) := Lib.hid ⟨HS10.out.two.sub (by simp) (by simp), HV8.out, fun p hp => HLA.out.2.1 p (List.mem_of_mem_eraseIdx hp), by have := HLA.out.2.2; have : (lm.eraseIdx j).length ≤ lm.length := List.length_eraseIdx_le ..; omega⟩
        go_wp2_with fail
        (refine Met.intro (hJ _ _ ?_); unfold netMid; refine ⟨_, _, _, _, _, _, _, _, _, _, _, _, _, _, _, _, _, _, _, _, _, _, _, _, _, _, _, _, _, _, _, _, _, _, _, _, _, _, _, _, _, _, _, _, _, _, _, _, _, _, _, _, _, _, _, _, _, _, _, _, _, _, _, _, _, _, _, _, _, _, _, _, _, _, _, _, _, _, _, _, _, _, _, _, _, _, _, _, _, _, _, _, _, _, _, _, _, _, _, _, _, _, _, _, _, _, _, _, _, _, _, _, _, _, _, _, _, _, _, _, _, _, _, _, _, _, _, _, _, _, _, _, _, _, _, _, _, _, _, _, _, _, _, _, _, _, _, _, _, _, _, _, _, _, _, _, _, _, _, _, _, _, _, _, _, _, _, _, _, _, _, _, _, _, _, _, _, _, _, _, _, _, _, _, _, _, _, _, _, _, _, _, _, _, _, _, _, _, _, _, _, _, _, _, _, _, _, _, ?_, rfl⟩; exact ⟨_, _, _, HL2, HS10.out.o, HS10.out.bel⟩)
  case neg =>
    have hno : oi < 0 ∨ (ms.length : Int) ≤ oi := by omega
    obtain rfl : inb = false := by
      rw [← hinb]
      by_cases h0 : 0 ≤ oi
      · rw [decide_eq_false (show ¬ oi < (lm.length : Int) from fun h => hin ⟨h0, h⟩), Bool.and_false]
      · rw [decide_eq_false h0, Bool.false_and]
    clear hinb
    obtain rfl := k1
    go_wp2_with fail
    refine (net_take HSIT.out.two.net oi hoi.1 hoi.2 (by omega) HSM.out).mono ?_
    rintro e w6 ⟨nv', ms', hN', hk6, hg6, hcase⟩
    obtain ⟨XM, v6, rfl, rfl, hXM0, ho6⟩ : ∃ XM v, e = .returned (.tuple #[msgAgg v XM, .bool false]) ∧ ms = ms' ∧ XM.k = 0 ∧ EntO w6 wc.heap.size v XM.es := by
      rcases hcase with ⟨j', hj', hi, he, v, hv, ho⟩ | ⟨hi, hm, he⟩
      · omega
      · exact ⟨zM, _, he, hm.symm, rfl, EntO.nil _ _⟩
    have HXM0 := Lib.hid hXM0
    clear hXM0 hin hno hcase
    have hT6 := (HSIT.out.two.took hN' hk6 hg6 (fun p hp => hp) (p := (v6, XM)) ho6).sub (ex' := [(v6, XM)]) (hs' := [O]) (by simp) (by simp)
    have hO6 := HSIT.out.o.keeps hk6 (HSIT.out.two.apartNet (by simp))
    have hb6 := HSIT.out.bel.trans (hk6.below (B := w.heap.size) HSIT.out.two.netBase HSIT.out.bel.size)
    obtain ⟨va, vc, rfl⟩ := ho6.r.slice
    have hX2 := msgS_box w6 (.slice va XM.es.length vc) XM 30
    have hbx := (Below.refl w6.heap.size w6).alloc (Nat.le_refl _) (.cells #[.int .i64 XM.k, .int .i64 XM.f, .int .i64 XM.o, .int .i64 XM.t, .int .i64 XM.i, .int .i64 XM.l, .int .i64 XM.c, .bool XM.y, (.slice va XM.es.length vc), .int .i64 XM.s.i, .int .i64 XM.s.t, .string XM.s.c, .string XM.s.d] 30)
    have HS6 := Lib.hid (⟨hT6.box hbx (by simp), hX2, hO6.below hbx, hb6.trans (hbx.mono hb6.size)⟩ : Sit w _ b nv' ms (.slice la lm.length lc) lm w6.heap.size O (.slice va XM.es.length vc) XM ⟨1, oi, .slice ea m.es.length ec, m⟩)
    clear hT6 hO6 hb6 hX2 hbx hN' hk6 hg6 ho6 HSIT o0 o1
    rw [HAG.out]
    go_upto_region 30 with fail
    generalize w6.alloc _ = w7 at *
    generalize w6.heap.size = X2 at *
    have o0 := HS6.out.o.c0
    have o1 := HS6.out.o.c1
    dsimp only at o0 o1
    go_upto_region 32 with fail
    clear o0 o1
    go_cut [138] (fun x wx => x = .bool false ∧ Hid (Sit w wx b nv' ms (.slice la lm.length lc) lm X2 O (.slice va XM.es.length vc) XM ⟨1, oi, .slice ea m.es.length ec, m⟩))
    case first =>
      refine wp_region_sw (by rfl) (by kernel_rfl) (fun _ => none) (by simp) (fun vals => ?_)
      iterate 6 ((with_reducible refine sw_pure ?_ (fun K hK => ?_)); (· rfl); go_simp; with_reducible refine hK _ ?_; clear hK K)
      iterate 15 ((with_reducible refine sw_pure ?_ (fun K hK => ?_)); (· rfl); go_simp; with_reducible refine hK _ ?_; clear hK K)
      refine sw_at (.int .i64 0) rfl rfl (fun wz hz' hH => ?_) (fun K hK => ?_)
      · have y0 := (HS6.out.x.below hz').c0
        rw [HXM0.out] at y0
        go_simp
      go_simp; refine hK _ ?_; clear hK K
      iterate 3 ((with_reducible refine sw_pure ?_ (fun K hK => ?_)); (· rfl); go_simp; with_reducible refine hK _ ?_; clear hK K)
      refine sw_done (fun wz hz' hH => ?_)
      have HSZ := Lib.hid (HS6.out.below hz')
      clear hH
      go_wp2_with fail
      go_meet
      exact ⟨rfl, HSZ⟩
    case rest =>
      obtain ⟨rfl, HS9⟩ := hcut
      clear HS6
      have o0 := HS9.out.o.c0
      dsimp only at o0
      have HL2 : Hid (LS wc w.heap.size b nv' ms (.slice la lm.length lc) lm [] [O] (k + 1)) := Lib.hid ⟨HS9.out.two.sub (by simp) (by simp), HLA.out.1, HLA.out.2.1, by have := HLA.out.2.2; omega⟩
      go_wp2_with fail
      (refine Met.intro (hJ _ _ ?_); unfold netMid; refine ⟨_, _, _, _, _, _, _, _, _, _, _, _, _, _, _, _, _, _, _, _, _, _, _, _, _, _, _, _, _, _, _, _, _, _, _, _, _, _, _, _, _, _, _, _, _, _, _, _, _, _, _, _, _, _, _, _, _, _, _, _, _, _, _, _, _, _, _, _, _, _, _, _, _, _, _, _, _, _, _, _, _, _, _, _, _, _, _, _, _, _, _, _, _, _, _, _, _, _, _, _, _, _, _, _, _, _, _, _, _, _, _, _, _, _, _, _, _, _, _, _, _, _, _, _, _, _, _, _, _, _, _, _, _, _, _, _, _, _, _, _, _, _, _, _, _, _, _, _, _, _, _, _, _, _, _, _, _, _, _, _, _, _, _, _, _, _, _, _, _, _, _, _, _, _, _, _, _, _, _, _, _, _, _, _, _, _, _, _, _, _, _, _, _, _, _, _, _, _, _, _, _, _, _, _, _, _, _, _, ?_, rfl⟩; exact ⟨_, _, _, HL2, HS9.out.o, HS9.out.bel⟩)
end Go.Proofs.Ytcogmohepcifiaa
