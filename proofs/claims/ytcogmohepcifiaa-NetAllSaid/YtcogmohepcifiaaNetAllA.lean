/-
  No claim by itself: the law NetAll: a message is sent. No condition.
-/
import Derived.Test.YtcogmohepcifiaaNetAllK
namespace Go.Proofs.Ytcogmohepcifiaa
open Go.ChangeShapes Go.WideShapes Go.ChangeAt Go.RowKit Go.Deep

set_option linter.unusedVariables false in
set_option maxRecDepth 1000000 in
set_option maxHeartbeats 16000000 in
theorem netAll_c0 {w wc : World} {b O X k : Nat} {nv : Value} {ms lm : List VMsg} {la : Option Addr} {lc : Nat} {ok oi : Int} {ea : Option Addr} {ec : Nat} {m M : Msg} {maa : Option Addr} {mac : Nat} {inb : Bool} (hk60 : k < 60) (hoi : -9223372036854775808 ≤ oi ∧ oi ≤ 9223372036854775807) (hcs : M.es.length ≤ 10 ∧ M.s.c.size ≤ 60)
    (HAG : Hid (∀ v (m : Msg), msgAgg v m = .agg #[.int .i64 m.k, .int .i64 m.f, .int .i64 m.o, .int .i64 m.t, .int .i64 m.i, .int .i64 m.l, .int .i64 m.c, .bool m.y, v, .int .i64 m.s.i, .int .i64 m.s.t, .string m.s.c, .string m.s.d]))
    (HLA : Hid (vms ms = vms lm ∧ (∀ p ∈ lm, okM p.2) ∧ lm.length ≤ k)) (HSM : Hid (∀ p ∈ ms, p.2.es.length ≤ 1000000000))
    (HSIT : Hid (Sit w wc b nv ms (.slice la lm.length lc) lm X O (.slice maa M.es.length mac) M ⟨ok, oi, .slice ea m.es.length ec, m⟩))
    (hinb : (decide (0 ≤ oi) && decide (oi < (lm.length : Int))) = inb)
    (k0 : ok = 0)
    {c0 c16 c17 c18 c19 u2 u10 u11 u12 u13 u14 u15 u20 u21 u22 u23 u24 u25 u26 u27 u28 u29 u30 u31 u32 u33 u34 u35 u36 u37 u38 u39 u40 u41 u42 u43 u44 u45 u46 u49 u50 u51 u52 u53 u54 u55 u56 u57 u58 u59 u60 u61 u62 u63 u64 u65 u66 u67 u68 u69 u70 u71 u72 u73 u74 u75 u76 u77 u78 u79 u80 u81 u82 u83 u84 u85 u86 u87 u88 u89 u90 u91 u92 u93 u94 u95 u96 u97 u98 u99 u100 u101 u102 u103 u104 u105 u106 u107 u108 u109 u110 u111 u112 u113 u114 u115 u116 u117 u118 u119 u120 u121 u122 u123 u124 u125 u126 u127 u128 u129 u130 u131 u132 u133 u134 u135 u136 u137 u138 u139 u140 u141 u142 u143 u144 u145 u146 u147 u148 u149 u150 u151 u152 u153 u154 u155 u156 u157 u158 u159 u160 u161 u162 u163 u164 u165 u166 u167 u168 u169 u170 u171 u172 u173 u174 u175 u176 u177 u178 u179 u180 u181 u182 u183 u184 u185 u186 u187 u188 u189 u190 u191 u192 u193 u194 u195 u196 u197 u198 u199 u200 u201 u202 u203 u204 u205 u206 u207 u208 u209 u210 u211 u212 u213 u214 u215 u216 u217 u218 u219 u220 u221 u222 : Value} {J K : Act → World → Prop} {Q0 : Exit → Act → World → Prop}
    (hJ : ∀ a' w', netMid w b O X k ok oi ea ec m inb c0 u14 u15 c16 c17 c18 c19 a' w' → J a' w') (hK : ∀ a' w', Met J a' w' → K a' w') :
    netSw.wp Try.prog (Exit.then K Q0) ⟨#[c0, undef, u2, .bool true, .pointer (some ⟨b, 0, none⟩), .slice la lm.length lc, .int .i64 k, .pointer (some ⟨O, 0, none⟩), .pointer (some ⟨X, 0, none⟩), .bool inb, u10, u11, u12, u13, u14, u15, c16, c17, c18, c19, u20, u21, u22, u23, u24, u25, u26, u27, u28, u29, u30, u31, u32, u33, u34, u35, u36, u37, u38, u39, u40, u41, u42, u43, u44, u45, u46, .pointer (some ⟨O, 0, none⟩), .int .i64 ok, u49, u50, u51, u52, u53, u54, u55, u56, u57, u58, u59, u60, u61, u62, u63, u64, u65, u66, u67, u68, u69, u70, u71, u72, u73, u74, u75, u76, u77, u78, u79, u80, u81, u82, u83, u84, u85, u86, u87, u88, u89, u90, u91, u92, u93, u94, u95, u96, u97, u98, u99, u100, u101, u102, u103, u104, u105, u106, u107, u108, u109, u110, u111, u112, u113, u114, u115, u116, u117, u118, u119, u120, u121, u122, u123, u124, u125, u126, u127, u128, u129, u130, u131, u132, u133, u134, u135, u136, u137, u138, u139, u140, u141, u142, u143, u144, u145, u146, u147, u148, u149, u150, u151, u152, u153, u154, u155, u156, u157, u158, u159, u160, u161, u162, u163, u164, u165, u166, u167, u168, u169, u170, u171, u172, u173, u174, u175, u176, u177, u178, u179, u180, u181, u182, u183, u184, u185, u186, u187, u188, u189, u190, u191, u192, u193, u194, u195, u196, u197, u198, u199, u200, u201, u202, u203, u204, u205, u206, u207, u208, u209, u210, u211, u212, u213, u214, u215, u216, u217, u218, u219, u220, u221, u222], []⟩ wc := by
  conv => arg 2; whnf
  let QQ : Exit → Act → World → Prop := bodyPost Try.prog Try.f6 (fun _ _ => True)
  have HMAY := Lib.hid (fun (u : World) (x : Value) (hx : EntR u x M.es) => ref_mayMsg x M u hx (by omega) (by omega))
  have hnl : ms.length = lm.length := by rw [← vms_len ms, HLA.out.1, vms_len]
  have hlk : lm.length ≤ k := HLA.out.2.2
  have o0 := HSIT.out.o.c0
  have o1 := HSIT.out.o.c1
  dsimp only at o0 o1
  obtain rfl := k0
  go_upto_region 23 with fail
  go_cut [88] (fun x wx => x = .bool false ∧ ∃ nv' ms', Hid (vms ms' = sentM (mayM M) (vms lm) M) ∧ Hid (Sit w wx b nv' ms' (.slice la lm.length lc) lm X O (.slice maa M.es.length mac) M ⟨0, oi, .slice ea m.es.length ec, m⟩))
  case first =>
    have hbd : Below wc.heap.size wc { wc with drawn := wc.drawn + 1 } := (⟨rfl, rfl, rfl, Nat.le_refl _, fun _ _ _ => rfl⟩ : Keeps [] wc { wc with drawn := wc.drawn + 1 }).below (B := wc.heap.size) (by simp) (Nat.le_refl _)
    have HS0 := Lib.hid (HSIT.out.below hbd)
    refine wp_region_cp 5 (by rfl) (by kernel_rfl) ⟨2, fun u => Sit w u b nv ms (.slice la lm.length lc) lm X O (.slice maa M.es.length mac) M ⟨0, oi, .slice ea m.es.length ec, m⟩, fun u => ∃ nv' ms', Sit w u b nv' ms' (.slice la lm.length lc) lm X O (.slice maa M.es.length mac) M ⟨0, oi, .slice ea m.es.length ec, m⟩ ∧ vms ms' = sentM (mayM M) (vms lm) M⟩ HS0.out (by show 2 < 5; decide) (by kernel_rfl)
      (fun k => match k with | 2 => some (fun v _ => v = .bool (mayM M)) | 4 => some (fun v _ => v = .bool (mayM M)) | _ => none) ⟨[2, 4], [2], []⟩ (PlanOkK.of [2, 4] (by kernel_rfl) (fun k φ hk => ?_) (fun k φ hk v w1 w2 h1 h2 => ?_)) (by simp) (fun vals => ?_)
    · split at hk
      all_goals first | (cases hk; done) | simp
    · split at hk
      · cases hk
        exact h1
      · cases hk
        exact h1
      · cases hk
    dsimp only [List.take, List.drop]
    have hX : ∀ u, Ph.at ⟨2, fun u => Sit w u b nv ms (.slice la lm.length lc) lm X O (.slice maa M.es.length mac) M ⟨0, oi, .slice ea m.es.length ec, m⟩, fun u => ∃ nv' ms', Sit w u b nv' ms' (.slice la lm.length lc) lm X O (.slice maa M.es.length mac) M ⟨0, oi, .slice ea m.es.length ec, m⟩ ∧ vms ms' = sentM (mayM M) (vms lm) M⟩ 1 u → MsgS u X (.slice maa M.es.length mac) M := fun u hu => by
      rcases hu with hu | ⟨_, _, hu, _⟩
      · exact hu.x
      · exact hu.x
    have hE : ∀ u, Ph.at ⟨2, fun u => Sit w u b nv ms (.slice la lm.length lc) lm X O (.slice maa M.es.length mac) M ⟨0, oi, .slice ea m.es.length ec, m⟩, fun u => ∃ nv' ms', Sit w u b nv' ms' (.slice la lm.length lc) lm X O (.slice maa M.es.length mac) M ⟨0, oi, .slice ea m.es.length ec, m⟩ ∧ vms ms' = sentM (mayM M) (vms lm) M⟩ 4 u → EntR u (.slice maa M.es.length mac) M.es := fun u hu => by
      rcases hu with hu | ⟨_, _, hu, _⟩
      · exact hu.ent.r
      · exact hu.ent.r
    have HXX := Lib.hid hX
    have HEE := Lib.hid hE
    clear hX hE
    iterate 1 ((with_reducible refine sc_pureP ?_ (fun K hK => ?_)); (· rfl); go_simp; with_reducible refine hK _ ?_; clear hK K)
    refine sc_atP (msgAgg (.slice maa M.es.length mac) M) rfl rfl (fun wz hz' hH => ?_) (fun K hK => ?_)
    · have hq := HXX.out wz hz'
      have y0 := hq.c0
      have y1 := hq.c1
      have y2 := hq.c2
      have y3 := hq.c3
      have y4 := hq.c4
      have y5 := hq.c5
      have y6 := hq.c6
      have y7 := hq.c7
      have y8 := hq.c8
      have y9 := hq.c9
      have y10 := hq.c10
      have y11 := hq.c11
      have y12 := hq.c12
      unfold msgAgg
      go_simp
    go_simp; refine hK _ ?_; clear hK K
    refine sc_growP rfl _ rfl rfl rfl (fun wz hz' hH => ?_) (fun K hK => ?_)
    · go_simp
      go_at_call 9
      refine (net_send hz'.two.net _ M hz'.ent.r (by omega) (by omega) (by omega) hz'.apSend).mono ?_
      rintro e w12 hret
      obtain ⟨rfl, nv', ms', hS', hv'⟩ := hz'.send (by omega) hret
      exact ⟨_, rfl, rfl, nv', ms', hS', by rw [hv', HLA.out.1]⟩
    go_simp; refine hK _ ?_; clear hK K
    refine sc_atP (msgAgg (.slice maa M.es.length mac) M) rfl rfl (fun wz hz' hH => ?_) (fun K hK => ?_)
    · have hq := HXX.out wz hz'
      have y0 := hq.c0
      have y1 := hq.c1
      have y2 := hq.c2
      have y3 := hq.c3
      have y4 := hq.c4
      have y5 := hq.c5
      have y6 := hq.c6
      have y7 := hq.c7
      have y8 := hq.c8
      have y9 := hq.c9
      have y10 := hq.c10
      have y11 := hq.c11
      have y12 := hq.c12
      unfold msgAgg
      go_simp
    go_simp; refine hK _ ?_; clear hK K
    refine sc_callP (by show 4 ≠ 2; decide) (fun u u' h1 h2 => h1.below h2) (fun u u' h1 h2 => by
      obtain ⟨nv', ms', h3, h4⟩ := h1
      exact ⟨nv', ms', h3.below h2, h4⟩) _ rfl rfl rfl (fun wz hz' hH => ?_) (fun K hK => ?_)
    · go_simp
      go_at_call 12
      refine (HMAY.out _ _ (HEE.out wz hz')).mono ?_
      rintro e w12 ⟨rfl, hb12⟩
      exact ⟨_, rfl, rfl, hb12⟩
    go_simp; refine hK _ ?_; clear hK K
    refine sc_doneP (fun wz hz' hH => ?_)
    have e4 := hH _ (List.Mem.head _) rfl
    have e2 := hH _ (List.Mem.tail _ (List.Mem.head _)) rfl
    dsimp only at e2 e4
    obtain ⟨nv', ms', hS', hv'⟩ := hz'
    have HSS := Lib.hid hS'
    have HVV := Lib.hid hv'
    clear hS' hv' hH
    unfold tailQ
    rw [show (0 + 1 + 1 : Nat) = 2 from rfl] at e2
    rw [show (0 + 1 + 1 + 1 + 1 : Nat) = 4 from rfl] at e4
    rw [e2, e4]
    generalize mayM M = q at *
    cases q
    · go_wp2_with fail
      go_meet
      exact ⟨rfl, nv', ms', HVV, HSS⟩
    · go_wp2_with fail
      go_meet
      exact ⟨rfl, nv', ms', HVV, HSS⟩
  case rest =>
    obtain ⟨rfl, nv', ms', HV, HS⟩ := hcut
    clear HSIT
    have hq := HS.out.x
    have y0 := hq.c0
    have y1 := hq.c1
    have y2 := hq.c2
    have y3 := hq.c3
    have y4 := hq.c4
    have y5 := hq.c5
    have y6 := hq.c6
    have y7 := hq.c7
    have y8 := hq.c8
    have y9 := hq.c9
    have y10 := hq.c10
    have y11 := hq.c11
    have y12 := hq.c12
    go_wp2_with fail
    refine (HMAY.out _ _ HS.out.ent.r).mono ?_
    rintro e w12 ⟨rfl, hb12⟩
    have HS2 := Lib.hid (HS.out.below hb12)
    clear hq hb12 HS y0 y1 y2 y3 y4 y5 y6 y7 y8 y9 y10 y11 y12
    cases hm : mayM M with
    | false =>
      have HL2 : Hid (LS w12 w.heap.size b nv' ms' (.slice la lm.length lc) lm [] [O] (k + 1)) := Lib.hid ⟨HS2.out.two.sub (by simp) (by simp), by rw [HV.out, hm]; exact rfl, HLA.out.2.1, by have := HLA.out.2.2; omega⟩
      clear hm HV
      go_wp2_with fail
      (refine Met.intro (hJ _ _ ?_); unfold netMid; refine ⟨_, _, _, _, _, _, _, _, _, _, _, _, _, _, _, _, _, _, _, _, _, _, _, _, _, _, _, _, _, _, _, _, _, _, _, _, _, _, _, _, _, _, _, _, _, _, _, _, _, _, _, _, _, _, _, _, _, _, _, _, _, _, _, _, _, _, _, _, _, _, _, _, _, _, _, _, _, _, _, _, _, _, _, _, _, _, _, _, _, _, _, _, _, _, _, _, _, _, _, _, _, _, _, _, _, _, _, _, _, _, _, _, _, _, _, _, _, _, _, _, _, _, _, _, _, _, _, _, _, _, _, _, _, _, _, _, _, _, _, _, _, _, _, _, _, _, _, _, _, _, _, _, _, _, _, _, _, _, _, _, _, _, _, _, _, _, _, _, _, _, _, _, _, _, _, _, _, _, _, _, _, _, _, _, _, _, _, _, _, _, _, _, _, _, _, _, _, _, _, _, _, _, _, _, _, _, _, _, ?_, rfl⟩; exact ⟨nv', ms', lm, HL2, HS2.out.o, HS2.out.bel⟩)
    | true =>
      obtain ⟨lv', w13, hr, hS3⟩ := HS2.out.pushM (by have := HLA.out.2.2; omega) 30 rfl
      have HS3 := Lib.hid hS3
      have HL2 : Hid (LS w13 w.heap.size b nv' ms' lv' (lm ++ [(.slice maa M.es.length mac, M)]) [] [O] (k + 1)) := Lib.hid ⟨hS3.two.sub (by simp) (by simp), by rw [HV.out, hm]; simp [vms, sentM], fun p hp => by
        rcases List.mem_append.1 hp with hp | hp
        · exact HLA.out.2.1 p hp
        · rw [List.mem_singleton.1 hp]
          exact ⟨hm, hcs⟩, by have := HLA.out.2.2; simp; omega⟩
      clear hm HV hS3
      have hq := HS2.out.x
      go_upto_region 26 with fail
      refine wp_region_lit ?_
      (refine wpList_valK rfl (v := .slice la lm.length lc) (w' := w12) (by go_simp) (fun K hK => ?_); go_simp; refine hK _ _ ?_; clear hK K)
      (refine wpList_valK rfl (op_load_msg hq _ rfl rfl) (fun K hK => ?_); go_simp; refine hK _ _ ?_; clear hK K)
      (refine wpList_valK rfl (op_build_msg _ _ _ _ rfl rfl) (fun K hK => ?_); go_simp; refine hK _ _ ?_; clear hK K)
      refine wpList_append_run rfl _ _ 42 rfl rfl rfl hr ?_
      clear hr hq
      go_wp2_with fail
      all_goals (refine Met.intro (hJ _ _ ?_); unfold netMid; refine ⟨_, _, _, _, _, _, _, _, _, _, _, _, _, _, _, _, _, _, _, _, _, _, _, _, _, _, _, _, _, _, _, _, _, _, _, _, _, _, _, _, _, _, _, _, _, _, _, _, _, _, _, _, _, _, _, _, _, _, _, _, _, _, _, _, _, _, _, _, _, _, _, _, _, _, _, _, _, _, _, _, _, _, _, _, _, _, _, _, _, _, _, _, _, _, _, _, _, _, _, _, _, _, _, _, _, _, _, _, _, _, _, _, _, _, _, _, _, _, _, _, _, _, _, _, _, _, _, _, _, _, _, _, _, _, _, _, _, _, _, _, _, _, _, _, _, _, _, _, _, _, _, _, _, _, _, _, _, _, _, _, _, _, _, _, _, _, _, _, _, _, _, _, _, _, _, _, _, _, _, _, _, _, _, _, _, _, _, _, _, _, _, _, _, _, _, _, _, _, _, _, _, _, _, _, _, _, _, _, ?_, rfl⟩; exact ⟨nv', ms', _, HL2, HS3.out.o, HS3.out.bel⟩)
end Go.Proofs.Ytcogmohepcifiaa
