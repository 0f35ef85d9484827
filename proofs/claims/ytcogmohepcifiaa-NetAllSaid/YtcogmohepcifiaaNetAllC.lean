/-
  No claim by itself: the law NetAll: a message is lost; all of a server's are. No condition.
-/
import Derived.Test.YtcogmohepcifiaaNetAllK
namespace Go.Proofs.Ytcogmohepcifiaa
open Go.ChangeShapes Go.WideShapes Go.ChangeAt Go.RowKit Go.Deep

set_option linter.unusedVariables false in
set_option maxRecDepth 1000000 in
set_option maxHeartbeats 16000000 in
theorem netAll_c3 {w wc : World} {b O X k : Nat} {nv : Value} {ms lm : List VMsg} {la : Option Addr} {lc : Nat} {ok oi : Int} {ea : Option Addr} {ec : Nat} {m M : Msg} {maa : Option Addr} {mac : Nat} {inb : Bool} (hk60 : k < 60) (hoi : -9223372036854775808 ≤ oi ∧ oi ≤ 9223372036854775807) (hcs : M.es.length ≤ 10 ∧ M.s.c.size ≤ 60)
    (HAG : Hid (∀ v (m : Msg), msgAgg v m = .agg #[.int .i64 m.k, .int .i64 m.f, .int .i64 m.o, .int .i64 m.t, .int .i64 m.i, .int .i64 m.l, .int .i64 m.c, .bool m.y, v, .int .i64 m.s.i, .int .i64 m.s.t, .string m.s.c, .string m.s.d]))
    (HLA : Hid (vms ms = vms lm ∧ (∀ p ∈ lm, okM p.2) ∧ lm.length ≤ k)) (HSM : Hid (∀ p ∈ ms, p.2.es.length ≤ 1000000000))
    (HSIT : Hid (Sit w wc b nv ms (.slice la lm.length lc) lm X O (.slice maa M.es.length mac) M ⟨ok, oi, .slice ea m.es.length ec, m⟩))
    (hinb : (decide (0 ≤ oi) && decide (oi < (lm.length : Int))) = inb)
    (tk0 : (ok == 0) = false) (tk1 : (ok == 1) = false) (tk2 : (ok == 2) = false) (k3 : ok = 3)
    {c0 c16 c17 c18 c19 u2 u10 u11 u12 u13 u14 u15 u20 u21 u22 u23 u24 u25 u26 u27 u28 u29 u30 u31 u32 u33 u34 u35 u36 u37 u38 u39 u40 u41 u42 u43 u44 u45 u46 u49 u50 u51 u52 u53 u54 u55 u56 u57 u58 u59 u60 u61 u62 u63 u64 u65 u66 u67 u68 u69 u70 u71 u72 u73 u74 u75 u76 u77 u78 u79 u80 u81 u82 u83 u84 u85 u86 u87 u88 u89 u90 u91 u92 u93 u94 u95 u96 u97 u98 u99 u100 u101 u102 u103 u104 u105 u106 u107 u108 u109 u110 u111 u112 u113 u114 u115 u116 u117 u118 u119 u120 u121 u122 u123 u124 u125 u126 u127 u128 u129 u130 u131 u132 u133 u134 u135 u136 u137 u138 u139 u140 u141 u142 u143 u144 u145 u146 u147 u148 u149 u150 u151 u152 u153 u154 u155 u156 u157 u158 u159 u160 u161 u162 u163 u164 u165 u166 u167 u168 u169 u170 u171 u172 u173 u174 u175 u176 u177 u178 u179 u180 u181 u182 u183 u184 u185 u186 u187 u188 u189 u190 u191 u192 u193 u194 u195 u196 u197 u198 u199 u200 u201 u202 u203 u204 u205 u206 u207 u208 u209 u210 u211 u212 u213 u214 u215 u216 u217 u218 u219 u220 u221 u222 : Value} {J K : Act → World → Prop} {Q0 : Exit → Act → World → Prop}
    (hJ : ∀ a' w', netMid w b O X k ok oi ea ec m inb c0 u14 u15 c16 c17 c18 c19 a' w' → J a' w') (hK : ∀ a' w', Met J a' w' → K a' w') :
    netSw.wp Try.prog (Exit.then K Q0) ⟨#[c0, undef, u2, .bool true, .pointer (some ⟨b, 0, none⟩), .slice la lm.length lc, .int .i64 k, .pointer (some ⟨O, 0, none⟩), .pointer (some ⟨X, 0, none⟩), .bool inb, u10, u11, u12, u13, u14, u15, c16, c17, c18, c19, u20, u21, u22, u23, u24, u25, u26, u27, u28, u29, u30, u31, u32, u33, u34, u35, u36, u37, u38, u39, u40, u41, u42, u43, u44, u45, u46, .pointer (some ⟨O, 0, none⟩), .int .i64 ok, u49, u50, u51, u52, u53, u54, u55, u56, u57, u58, u59, u60, u61, u62, u63, u64, u65, u66, u67, u68, u69, u70, u71, u72, u73, u74, u75, u76, u77, u78, u79, u80, u81, u82, u83, u84, u85, u86, u87, u88, u89, u90, u91, u92, u93, u94, u95, u96, u97, u98, u99, u100, u101, u102, u103, u104, u105, u106, u107, u108, u109, u110, u111, u112, u113, u114, u115, u116, u117, u118, u119, u120, u121, u122, u123, u124, u125, u126, u127, u128, u129, u130, u131, u132, u133, u134, u135, u136, u137, u138, u139, u140, u141, u142, u143, u144, u145, u146, u147, u148, u149, u150, u151, u152, u153, u154, u155, u156, u157, u158, u159, u160, u161, u162, u163, u164, u165, u166, u167, u168, u169, u170, u171, u172, u173, u174, u175, u176, u177, u178, u179, u180, u181, u182, u183, u184, u185, u186, u187, u188, u189, u190, u191, u192, u193, u194, u195, u196, u197, u198, u199, u200, u201, u202, u203, u204, u205, u206, u207, u208, u209, u210, u211, u212, u213, u214, u215, u216, u217, u218, u219, u220, u221, u222], []⟩ wc := by
  conv => arg 2; whnf
  let QQ : Exit → Act → World → Prop := bodyPost Try.prog Try.f6 (fun _ _ => True)
  have HMAY := Lib.hid (fun (u : World) (x : Value) (hx : EntR u x M.es) => ref_mayMsg x M u hx (by omega) (by omega))
  have hnl : ms.length = lm.length := by rw [← vms_len ms, HLA.out.1, vms_len]
  have hlk : lm.length ≤ k := HLA.out.2.2
  have o0 := HSIT.out.o.c0
  have o1 := HSIT.out.o.c1
  dsimp only at o0 o1
  by_cases hin : 0 ≤ oi ∧ oi < (lm.length : Int)
  case pos =>
    obtain ⟨hin0, hin1⟩ := hin
    obtain ⟨j, rfl⟩ := Int.eq_ofNat_of_zero_le hin0
    have hjl : j < lm.length := by omega
    obtain rfl : inb = true := by rw [← hinb, decide_eq_true hin0, decide_eq_true hin1]; rfl
    clear hinb
    obtain rfl := k3
    go_wp2_with fail
    refine (net_drop HSIT.out.two.net (j : Nat) hoi.1 hoi.2 (by omega)).mono ?_
    rintro e w6 ⟨nv', ms', hN', hk6, hg6, hcase⟩
    obtain ⟨rfl, rfl⟩ : e = .returned (.bool true) ∧ ms' = ms.eraseIdx j := by
      rcases hcase with ⟨j', hj', hi, he, hm⟩ | ⟨hi, _, _⟩
      · obtain rfl : j' = j := by omega
        exact ⟨he, hm⟩
      · omega
    have HS9 := Lib.hid (HSIT.out.netTo hN' hk6 (fun g h => .inl (hg6 g h)) (fun p hp => .inl (List.mem_of_mem_eraseIdx hp)))
    have HV8 : Hid (vms (ms.eraseIdx j) = vms (lm.eraseIdx j)) := Lib.hid (vms_erase HLA.out.1 j)
    clear hN' hk6 hg6 hcase HSIT o0 o1
    go_upto_region 42 with fail
    obtain ⟨g, hla, -, hcap, hcm, her⟩ := HS9.out.erase (by omega) j hjl
    subst hla
    have HOB := Lib.hid HS9.out.o
    have HER := Lib.hid her
    clear her
    refine wp_region_tail 11 (by rfl) (by kernel_rfl) (fun _ => none) (by simp) (fun vals => ?_)
    dsimp only [List.take, List.drop]
    iterate 2 ((with_reducible refine sw_pure ?_ (fun K hK => ?_)); (· rfl); go_simp; with_reducible refine hK _ ?_; clear hK K)
    refine sw_at (.int .i64 (j : Nat)) rfl rfl (fun wz hz' hH => ?_) (fun K hK => ?_)
    · have o1 := (HOB.out.below hz').c1
      dsimp only at o1
      go_simp
    go_simp; refine hK _ ?_; clear hK K
    ((with_reducible refine sw_pure ?_ (fun K hK => ?_)); (· rfl); go_simp; with_reducible refine hK _ ?_; clear hK K)
    refine sw_at (.int .i64 (j : Nat)) rfl rfl (fun wz hz' hH => ?_) (fun K hK => ?_)
    · have o1 := (HOB.out.below hz').c1
      dsimp only at o1
      go_simp
    go_simp; refine hK _ ?_; clear hK K
    refine sw_at (.slice (some ⟨g, 0, none⟩) j j) rfl rfl (fun wz hz' hH => ?_) (fun K hK => ?_)
    · go_simp
      rw [if_pos (by omega)]
      exact ⟨rfl, rfl⟩
    go_simp; refine hK _ ?_; clear hK K
    iterate 2 ((with_reducible refine sw_pure ?_ (fun K hK => ?_)); (· rfl); go_simp; with_reducible refine hK _ ?_; clear hK K)
    refine sw_at (.int .i64 (j : Nat)) rfl rfl (fun wz hz' hH => ?_) (fun K hK => ?_)
    · have o1 := (HOB.out.below hz').c1
      dsimp only at o1
      go_simp
    go_simp; refine hK _ ?_; clear hK K
    refine sw_at (.int .i64 ((j + 1 : Nat) : Int)) rfl rfl (fun wz hz' hH => ?_) (fun K hK => ?_)
    · go_simp
      rw [IntKind.wrap_i64]
      omega
    go_simp; refine hK _ ?_; clear hK K
    refine sw_at (.slice (if lc = j + 1 then some (⟨g, 0, none⟩ : Addr) else some ⟨g, (j + 1) * 13, none⟩) (lm.length - (j + 1)) (lc - (j + 1))) rfl rfl (fun wz hz' hH => ?_) (fun K hK => ?_)
    · go_simp
      rw [if_pos ⟨by omega, by omega⟩]
      exact ⟨rfl, rfl⟩
    go_simp; refine hK _ ?_; clear hK K
    refine sw_done (fun wz hz' hH => ?_)
    unfold tailQ
    obtain ⟨lv', w', hr, hS'⟩ := HER.out wz hz'
    have HS' := Lib.hid hS'
    clear hS' hH
    have HL2 : Hid (LS w' w.heap.size b nv' (ms.eraseIdx j) lv' (lm.eraseIdx j) [] [O] (k + 1)) := Lib.hid ⟨HS'.out.two.sub (by simp) (by simp), HV8.out, fun p hp => HLA.out.2.1 p (List.mem_of_mem_eraseIdx hp), by have := HLA.out.2.2; have : (lm.eraseIdx j).length ≤ lm.length := List.length_eraseIdx_le ..; omega⟩
    go_wp2_with (at_builtin; refine wpList_append_run rfl _ _ 42 rfl rfl rfl hr ?_)
    clear hr
    go_wp2_with fail
    all_goals (refine Met.intro (hJ _ _ ?_); unfold netMid; refine ⟨_, _, _, _, _, _, _, _, _, _, _, _, _, _, _, _, _, _, _, _, _, _, _, _, _, _, _, _, _, _, _, _, _, _, _, _, _, _, _, _, _, _, _, _, _, _, _, _, _, _, _, _, _, _, _, _, _, _, _, _, _, _, _, _, _, _, _, _, _, _, _, _, _, _, _, _, _, _, _, _, _, _, _, _, _, _, _, _, _, _, _, _, _, _, _, _, _, _, _, _, _, _, _, _, _, _, _, _, _, _, _, _, _, _, _, _, _, _, _, _, _, _, _, _, _, _, _, _, _, _, _, _, _, _, _, _, _, _, _, _, _, _, _, _, _, _, _, _, _, _, _, _, _, _, _, _, _, _, _, _, _, _, _, _, _, _, _, _, _, _, _, _, _, _, _, _, _, _, _, _, _, _, _, _, _, _, _, _, _, _, _, _, _, _, _, _, _, _, _, _, _, _, _, _, _, _, _, _, ?_, rfl⟩; exact ⟨_, _, _, HL2, HS'.out.o, HS'.out.bel⟩)
  case neg =>
    have hno : oi < 0 ∨ (ms.length : Int) ≤ oi := by omega
    obtain rfl : inb = false := by
      rw [← hinb]
      by_cases h0 : 0 ≤ oi
      · rw [decide_eq_false (show ¬ oi < (lm.length : Int) from fun h => hin ⟨h0, h⟩), Bool.and_false]
      · rw [decide_eq_false h0, Bool.false_and]
    clear hinb
    obtain rfl := k3
    go_wp2_with fail
    refine (net_drop HSIT.out.two.net oi hoi.1 hoi.2 (by omega)).mono ?_
    rintro e w6 ⟨nv', ms', hN', hk6, hg6, hcase⟩
    obtain ⟨rfl, rfl⟩ : e = .returned (.bool false) ∧ ms' = ms := by
      rcases hcase with ⟨j', hj', hi, he, hm⟩ | ⟨hi, he, hm⟩
      · omega
      · exact ⟨he, hm⟩
    have HS9 := Lib.hid (HSIT.out.netTo hN' hk6 (fun g h => .inl (hg6 g h)) (fun p hp => .inl hp))
    clear hN' hk6 hg6 hcase HSIT o0 o1
    have HL2 : Hid (LS w6 w.heap.size b nv' ms' (.slice la lm.length lc) lm [] [O] (k + 1)) := Lib.hid ⟨HS9.out.two.sub (by simp) (by simp), HLA.out.1, HLA.out.2.1, by have := HLA.out.2.2; omega⟩
    go_wp2_with fail
    (refine Met.intro (hJ _ _ ?_); unfold netMid; refine ⟨_, _, _, _, _, _, _, _, _, _, _, _, _, _, _, _, _, _, _, _, _, _, _, _, _, _, _, _, _, _, _, _, _, _, _, _, _, _, _, _, _, _, _, _, _, _, _, _, _, _, _, _, _, _, _, _, _, _, _, _, _, _, _, _, _, _, _, _, _, _, _, _, _, _, _, _, _, _, _, _, _, _, _, _, _, _, _, _, _, _, _, _, _, _, _, _, _, _, _, _, _, _, _, _, _, _, _, _, _, _, _, _, _, _, _, _, _, _, _, _, _, _, _, _, _, _, _, _, _, _, _, _, _, _, _, _, _, _, _, _, _, _, _, _, _, _, _, _, _, _, _, _, _, _, _, _, _, _, _, _, _, _, _, _, _, _, _, _, _, _, _, _, _, _, _, _, _, _, _, _, _, _, _, _, _, _, _, _, _, _, _, _, _, _, _, _, _, _, _, _, _, _, _, _, _, _, _, _, ?_, rfl⟩; exact ⟨_, _, _, HL2, HS9.out.o, HS9.out.bel⟩)
set_option linter.unusedVariables false in
set_option maxRecDepth 1000000 in
set_option maxHeartbeats 16000000 in
theorem netAll_c4 {w wc : World} {b O X k : Nat} {nv : Value} {ms lm : List VMsg} {la : Option Addr} {lc : Nat} {ok oi : Int} {ea : Option Addr} {ec : Nat} {m M : Msg} {maa : Option Addr} {mac : Nat} {inb : Bool} (hk60 : k < 60) (hoi : -9223372036854775808 ≤ oi ∧ oi ≤ 9223372036854775807) (hcs : M.es.length ≤ 10 ∧ M.s.c.size ≤ 60)
    (HAG : Hid (∀ v (m : Msg), msgAgg v m = .agg #[.int .i64 m.k, .int .i64 m.f, .int .i64 m.o, .int .i64 m.t, .int .i64 m.i, .int .i64 m.l, .int .i64 m.c, .bool m.y, v, .int .i64 m.s.i, .int .i64 m.s.t, .string m.s.c, .string m.s.d]))
    (HLA : Hid (vms ms = vms lm ∧ (∀ p ∈ lm, okM p.2) ∧ lm.length ≤ k)) (HSM : Hid (∀ p ∈ ms, p.2.es.length ≤ 1000000000))
    (HSIT : Hid (Sit w wc b nv ms (.slice la lm.length lc) lm X O (.slice maa M.es.length mac) M ⟨ok, oi, .slice ea m.es.length ec, m⟩))
    (hinb : (decide (0 ≤ oi) && decide (oi < (lm.length : Int))) = inb)
    (tk0 : (ok == 0) = false) (tk1 : (ok == 1) = false) (tk2 : (ok == 2) = false) (tk3 : (ok == 3) = false)
    {c0 c16 c17 c18 c19 u2 u10 u11 u12 u13 u14 u15 u20 u21 u22 u23 u24 u25 u26 u27 u28 u29 u30 u31 u32 u33 u34 u35 u36 u37 u38 u39 u40 u41 u42 u43 u44 u45 u46 u49 u50 u51 u52 u53 u54 u55 u56 u57 u58 u59 u60 u61 u62 u63 u64 u65 u66 u67 u68 u69 u70 u71 u72 u73 u74 u75 u76 u77 u78 u79 u80 u81 u82 u83 u84 u85 u86 u87 u88 u89 u90 u91 u92 u93 u94 u95 u96 u97 u98 u99 u100 u101 u102 u103 u104 u105 u106 u107 u108 u109 u110 u111 u112 u113 u114 u115 u116 u117 u118 u119 u120 u121 u122 u123 u124 u125 u126 u127 u128 u129 u130 u131 u132 u133 u134 u135 u136 u137 u138 u139 u140 u141 u142 u143 u144 u145 u146 u147 u148 u149 u150 u151 u152 u153 u154 u155 u156 u157 u158 u159 u160 u161 u162 u163 u164 u165 u166 u167 u168 u169 u170 u171 u172 u173 u174 u175 u176 u177 u178 u179 u180 u181 u182 u183 u184 u185 u186 u187 u188 u189 u190 u191 u192 u193 u194 u195 u196 u197 u198 u199 u200 u201 u202 u203 u204 u205 u206 u207 u208 u209 u210 u211 u212 u213 u214 u215 u216 u217 u218 u219 u220 u221 u222 : Value} {J K : Act → World → Prop} {Q0 : Exit → Act → World → Prop}
    (hJ : ∀ a' w', netMid w b O X k ok oi ea ec m inb c0 u14 u15 c16 c17 c18 c19 a' w' → J a' w') (hK : ∀ a' w', Met J a' w' → K a' w') :
    netSw.wp Try.prog (Exit.then K Q0) ⟨#[c0, undef, u2, .bool true, .pointer (some ⟨b, 0, none⟩), .slice la lm.length lc, .int .i64 k, .pointer (some ⟨O, 0, none⟩), .pointer (some ⟨X, 0, none⟩), .bool inb, u10, u11, u12, u13, u14, u15, c16, c17, c18, c19, u20, u21, u22, u23, u24, u25, u26, u27, u28, u29, u30, u31, u32, u33, u34, u35, u36, u37, u38, u39, u40, u41, u42, u43, u44, u45, u46, .pointer (some ⟨O, 0, none⟩), .int .i64 ok, u49, u50, u51, u52, u53, u54, u55, u56, u57, u58, u59, u60, u61, u62, u63, u64, u65, u66, u67, u68, u69, u70, u71, u72, u73, u74, u75, u76, u77, u78, u79, u80, u81, u82, u83, u84, u85, u86, u87, u88, u89, u90, u91, u92, u93, u94, u95, u96, u97, u98, u99, u100, u101, u102, u103, u104, u105, u106, u107, u108, u109, u110, u111, u112, u113, u114, u115, u116, u117, u118, u119, u120, u121, u122, u123, u124, u125, u126, u127, u128, u129, u130, u131, u132, u133, u134, u135, u136, u137, u138, u139, u140, u141, u142, u143, u144, u145, u146, u147, u148, u149, u150, u151, u152, u153, u154, u155, u156, u157, u158, u159, u160, u161, u162, u163, u164, u165, u166, u167, u168, u169, u170, u171, u172, u173, u174, u175, u176, u177, u178, u179, u180, u181, u182, u183, u184, u185, u186, u187, u188, u189, u190, u191, u192, u193, u194, u195, u196, u197, u198, u199, u200, u201, u202, u203, u204, u205, u206, u207, u208, u209, u210, u211, u212, u213, u214, u215, u216, u217, u218, u219, u220, u221, u222], []⟩ wc := by
  conv => arg 2; whnf
  let QQ : Exit → Act → World → Prop := bodyPost Try.prog Try.f6 (fun _ _ => True)
  have HMAY := Lib.hid (fun (u : World) (x : Value) (hx : EntR u x M.es) => ref_mayMsg x M u hx (by omega) (by omega))
  have hnl : ms.length = lm.length := by rw [← vms_len ms, HLA.out.1, vms_len]
  have hlk : lm.length ≤ k := HLA.out.2.2
  have o0 := HSIT.out.o.c0
  have o1 := HSIT.out.o.c1
  dsimp only at o0 o1
  obtain ⟨W5, hW5⟩ : ∃ x, x = wc := ⟨_, rfl⟩
  subst hW5
  have HOB := Lib.hid HSIT.out.o
  have HWC : Hid (LOwn W5 W5.heap.size (.slice none 0 0) ((lm.take 0).filter (notTo oi))) := Lib.hid (LOwn.nil _ _)
  clear o0 o1
  go_wp2_with fail
  go_loopw [12, 13] (fun kv jv wr => ∃ jj : Nat, jv = .int .i64 jj ∧ jj ≤ lm.length ∧ Below W5.heap.size W5 wr ∧ Hid (LOwn wr W5.heap.size kv ((lm.take jj).filter (notTo oi)))) (fun _ jv _ => lm.length - (intOf jv).toNat)
  case atStart => exact ⟨0, rfl, by omega, Below.refl _ _, HWC⟩
  case round =>
    obtain ⟨j, rfl, hj, hbj, HK⟩ := hrel
    by_cases hjl : j < lm.length
    case pos =>
      have t1 : decide ((j : Int) < (lm.length : Int)) = true := decide_eq_true (by omega)
      have hSr := HSIT.out.below hbj
      obtain ⟨g, hla, -, hgb, hgl, hcap, hcm, hcc⟩ := hSr.two.l.cells j hjl
      subst hla
      have hent := hSr.two.ents lm[j] (List.mem_append_left _ (List.getElem_mem hjl))
      have hfs := filter_take_succ (notTo oi) lm j hjl
      obtain ⟨q, hq⟩ : ∃ q, lm[j] = q := ⟨_, rfl⟩
      rw [hq] at hcc hent hfs
      have HFS := Lib.hid hfs
      clear hfs hq
      obtain ⟨lw, LM⟩ := q
      dsimp only at hent
      obtain ⟨lwa, lwc, rfl⟩ := hent.r.slice
      have hone := hent.oneCell
      have HCC := Lib.hid hcc
      have HOR := Lib.hid hSr.o
      clear hent hcc hSr
      go_upto_region 17 with fail
      go_cut [62] (fun x wx => x = .bool (notTo oi (.slice lwa LM.es.length lwc, LM)) ∧ Below wr.heap.size wr wx)
      case first =>
        refine wp_region_sw (by rfl) (by kernel_rfl) (fun _ => none) (by simp) (fun vals => ?_)
        iterate 2 ((with_reducible refine sw_pure ?_ (fun K hK => ?_)); (· rfl); go_simp; with_reducible refine hK _ ?_; clear hK K)
        refine sw_at (.pointer (some ⟨g, j * 13, none⟩)) rfl rfl (fun wz hz' hH => ?_) (fun K hK => ?_)
        · go_simp
        go_simp; refine hK _ ?_; clear hK K
        ((with_reducible refine sw_pure ?_ (fun K hK => ?_)); (· rfl); go_simp; with_reducible refine hK _ ?_; clear hK K)
        refine sw_at (.int .i64 LM.o) rfl rfl (fun wz hz' hH => ?_) (fun K hK => ?_)
        · have r2 := (hz'.cell (p := ⟨g, j * 13 + 2, none⟩) hgl).trans (HCC.out 2 _ rfl)
          go_simp
        go_simp; refine hK _ ?_; clear hK K
        ((with_reducible refine sw_pure ?_ (fun K hK => ?_)); (· rfl); go_simp; with_reducible refine hK _ ?_; clear hK K)
        refine sw_at (.int .i64 oi) rfl rfl (fun wz hz' hH => ?_) (fun K hK => ?_)
        · have o1 := (HOR.out.below hz').c1
          dsimp only at o1
          go_simp
        go_simp; refine hK _ ?_; clear hK K
        ((with_reducible refine sw_pure ?_ (fun K hK => ?_)); (· rfl); go_simp; with_reducible refine hK _ ?_; clear hK K)
        refine sw_done (fun wz hz' hH => ?_)
        clear hH
        go_wp2_with fail
        go_meet
        exact ⟨rfl, hz'⟩
      case rest =>
        obtain ⟨rfl, hbz⟩ := hcut
        have hbk := hbj.trans (hbz.mono hbj.size)
        have hK2 := HK.out.below hbz
        have hglz := Nat.lt_of_lt_of_le hgl hbz.size
        have hcz : ∀ i u, (vmCells (.slice lwa LM.es.length lwc, LM))[i]? = some u → wc.cell? ⟨g, j * 13 + i, none⟩ = some u := fun i u hu => (hbz.cell (p := ⟨g, j * 13 + i, none⟩) hgl).trans (HCC.out i u hu)
        have r0 := hcz 0 _ rfl
        have r1 := hcz 1 _ rfl
        have r2 := hcz 2 _ rfl
        have r3 := hcz 3 _ rfl
        have r4 := hcz 4 _ rfl
        have r5 := hcz 5 _ rfl
        have r6 := hcz 6 _ rfl
        have r7 := hcz 7 _ rfl
        have r8 := hcz 8 _ rfl
        have r9 := hcz 9 _ rfl
        have r10 := hcz 10 _ rfl
        have r11 := hcz 11 _ rfl
        have r12 := hcz 12 _ rfl
        dsimp only at r0 r1 r2 r3 r4 r5 r6 r7 r8 r9 r10 r11 r12
        rw [Nat.add_zero] at r0
        have HCZ := Lib.hid hcz
        clear hcz
        cases hqq : notTo oi (.slice lwa LM.es.length lwc, LM) with
        | false =>
          have HK3 : Hid (LOwn wc W5.heap.size u12 ((lm.take (j + 1)).filter (notTo oi))) := Lib.hid (by rw [HFS.out, hqq]; simpa using hK2)
          clear hqq hK2 HK
          go_wp2_with fail
          go_roundw
          case rel => exact ⟨j + 1, by go_num, by omega, hbk, HK3⟩
          case measure => simp [intOf]; omega
        | true =>
          have hkl : ((lm.take j).filter (notTo oi)).length ≤ 1000 := Nat.le_trans (List.length_filter_le _ _) (by rw [List.length_take]; omega)
          obtain ⟨lv', w13, hr, hL, hbw⟩ := hK2.pushM hkl hbk.size (.slice lwa LM.es.length lwc) LM hone
          have HK3 : Hid (LOwn w13 W5.heap.size lv' ((lm.take (j + 1)).filter (notTo oi))) := Lib.hid (by rw [HFS.out, hqq]; simpa using hL)
          have hbk2 := hbk.trans hbw
          clear hqq hK2 HK hL hbw r0 r1 r2 r3 r4 r5 r6 r7 r8 r9 r10 r11 r12
          go_upto_region 18 with fail
          refine wp_region_lit ?_
          (refine wpList_valK rfl (v := u12) (w' := wc) (by go_simp) (fun K hK => ?_); go_simp; refine hK _ _ ?_; clear hK K)
          (refine wpList_valK rfl (v := .slice (some ⟨g, 0, none⟩) lm.length lc) (w' := wc) (by go_simp) (fun K hK => ?_); go_simp; refine hK _ _ ?_; clear hK K)
          (refine wpList_valK rfl (v := .int .i64 j) (w' := wc) (by go_simp) (fun K hK => ?_); go_simp; refine hK _ _ ?_; clear hK K)
          (refine wpList_valK rfl (v := .pointer (some ⟨g, j * 13, none⟩)) (w' := wc) (by go_simp) (fun K hK => ?_); go_simp; refine hK _ _ ?_; clear hK K)
          (refine wpList_valK rfl (op_load_row HCZ.out _ rfl rfl) (fun K hK => ?_); go_simp; refine hK _ _ ?_; clear hK K)
          (refine wpList_valK rfl (op_build_msg _ _ _ _ rfl rfl) (fun K hK => ?_); go_simp; refine hK _ _ ?_; clear hK K)
          refine wpList_append_run rfl _ _ 42 rfl rfl rfl hr ?_
          clear hr
          go_wp2_with fail
          go_roundw
          case rel => exact ⟨j + 1, by go_num, by omega, hbk2, HK3⟩
          case measure => simp [intOf]; omega
    case neg =>
      obtain rfl : j = lm.length := by omega
      have t1 : decide ((lm.length : Int) < (lm.length : Int)) = false := decide_eq_false (by omega)
      have hK := HK.out
      rw [List.take_length] at hK
      have hS := HSIT.out.lNew' hbj hK (fun p hp => (List.mem_filter.1 hp).1)
      obtain ⟨ka, kc, rfl⟩ := hK.slice
      have hfe : (ms.filter (notTo oi)).length = (lm.filter (notTo oi)).length := by rw [← vms_len, vms_filter HLA.out.1, vms_len]
      have hfl : (lm.filter (notTo oi)).length ≤ lm.length := List.length_filter_le _ _
      have HS := Lib.hid hS
      have o1 := hS.o.c1
      dsimp only at o1
      have HVF : Hid (vms (ms.filter (notTo oi)) = vms (lm.filter (notTo oi))) := Lib.hid (vms_filter HLA.out.1 oi)
      have HMF : Hid (∀ p ∈ lm.filter (notTo oi), okM p.2) := Lib.hid (fun p hp => HLA.out.2.1 p (List.mem_filter.1 hp).1)
      clear hS hK HK HSIT HOB
      have HMM : Hid (∀ p ∈ ms.filter (notTo oi), p ∈ ms) := Lib.hid (fun p hp => (List.mem_filter.1 hp).1)
      have HCL := Lib.hid (net_clear HS.out.two.net oi (by omega))
      unfold RetClear at HCL
      generalize ms.filter (notTo oi) = fm at *
      generalize lm.filter (notTo oi) = fl at *
      go_wp2_with fail
      refine HCL.out.mono ?_
      rintro e w6 ⟨nv', hN', hk6, hg6, rfl⟩
      have HS9 := Lib.hid (HS.out.netTo hN' hk6 (fun g h => .inl (hg6 g h)) (fun p hp => .inl (HMM.out p hp)))
      rw [hfe, hnl]
      clear hN' hk6 hg6 HS o1 HCL
      have HL2 : Hid (LS w6 w.heap.size b nv' fm (.slice ka fl.length kc) fl [] [O] (k + 1)) := Lib.hid ⟨HS9.out.two.sub (by simp) (by simp), HVF.out, HMF.out, by omega⟩
      have hsub : (lm.length : Int) - (fl.length : Int) = ((lm.length - fl.length : Nat) : Int) := by omega
      rw [hsub]
      go_wp2_with fail
      (refine Met.intro (hJ _ _ ?_); unfold netMid; refine ⟨_, _, _, _, _, _, _, _, _, _, _, _, _, _, _, _, _, _, _, _, _, _, _, _, _, _, _, _, _, _, _, _, _, _, _, _, _, _, _, _, _, _, _, _, _, _, _, _, _, _, _, _, _, _, _, _, _, _, _, _, _, _, _, _, _, _, _, _, _, _, _, _, _, _, _, _, _, _, _, _, _, _, _, _, _, _, _, _, _, _, _, _, _, _, _, _, _, _, _, _, _, _, _, _, _, _, _, _, _, _, _, _, _, _, _, _, _, _, _, _, _, _, _, _, _, _, _, _, _, _, _, _, _, _, _, _, _, _, _, _, _, _, _, _, _, _, _, _, _, _, _, _, _, _, _, _, _, _, _, _, _, _, _, _, _, _, _, _, _, _, _, _, _, _, _, _, _, _, _, _, _, _, _, _, _, _, _, _, _, _, _, _, _, _, _, _, _, _, _, _, _, _, _, _, _, _, _, _, ?_, rfl⟩; exact ⟨_, _, _, HL2, HS9.out.o, HS9.out.bel⟩)
end Go.Proofs.Ytcogmohepcifiaa
