/-
  No claim by itself: the law NetAll: the relation of its loop, and the code of the switch and of what stands behind it, out of the function's own. No condition.
-/
import Derived.Test.YtcogmohepcifiaaNetO
import Derived.Test.YtcogmohepcifiaaRegionP
import Derived.Deep.CutBlock
namespace Go.Proofs.Ytcogmohepcifiaa
open Go.ChangeShapes Go.WideShapes Go.ChangeAt Go.RowKit Go.Deep

/-- A message that may be on its way. -/
def okM (m : Msg) : Prop := mayM m = true ∧ m.es.length ≤ 10 ∧ m.s.c.size ≤ 60
/-- The net and the law's list tell the same messages. -/
structure LS (w : World) (base b : Nat) (nv : Value) (ms : List VMsg) (lv : Value) (lm ex : List VMsg) (hs : List Nat) (k : Nat) : Prop where
  two : Two w base b nv ms lv lm ex hs
  same : vms ms = vms lm
  ok : ∀ p ∈ lm, okM p.2
  len : lm.length ≤ k
theorem LS.nlen {w : World} {base b : Nat} {nv : Value} {ms : List VMsg} {lv : Value} {lm ex : List VMsg} {hs : List Nat} {k : Nat} (h : LS w base b nv ms lv lm ex hs k) : ms.length = lm.length := by
  rw [← vms_len ms, h.same, vms_len]
theorem LS.below {w w' : World} {base b : Nat} {nv : Value} {ms : List VMsg} {lv : Value} {lm ex : List VMsg} {hs : List Nat} {k : Nat} (h : LS w base b nv ms lv lm ex hs k) (hb : Below w.heap.size w w') : LS w' base b nv ms lv lm ex hs k := ⟨h.two.below hb, h.same, h.ok, h.len⟩

def blk2 : Code → Option Code
  | .block 2 c => some (.block 2 c)
  | .block _ c => blk2 c
  | .loop c => blk2 c
  | .seq a b => match blk2 a with
    | some c => some c
    | none => blk2 b
  | .cond _ a b => match blk2 a with
    | some c => some c
    | none => blk2 b
  | _ => none
def end2 : Code → Bool
  | .block 2 _ => true
  | .seq _ b => end2 b
  | _ => false
def aft2 : Code → Option Code
  | .block _ c => aft2 c
  | .loop c => aft2 c
  | .seq a b => if end2 a then some b else match aft2 a with
    | some c => some c
    | none => aft2 b
  | .cond _ a b => match aft2 a with
    | some c => some c
    | none => aft2 b
  | _ => none
noncomputable def netSw : Code := ((Try.f6.body.bind blk2).getD .skip)
noncomputable def netAft : Code := ((Try.f6.body.bind aft2).getD .skip)
set_option maxRecDepth 1000000 in
def netMid (w : World) (b O X k : Nat) (ok oi : Int) (ea : Option Addr) (ec : Nat) (m : Msg) (inb : Bool) (c0 u14 u15 c16 c17 c18 c19 : Value) (a' : Act) (w' : World) : Prop := ∃ u2 u5 u10 u11 u12 u13 u20 u21 u22 u23 u24 u25 u26 u27 u28 u29 u30 u31 u32 u33 u34 u35 u36 u37 u38 u39 u40 u41 u42 u43 u44 u45 u46 u47 u49 u50 u51 u52 u53 u54 u55 u56 u57 u58 u59 u60 u61 u62 u63 u64 u65 u66 u67 u68 u69 u70 u71 u72 u73 u74 u75 u76 u77 u78 u79 u80 u81 u82 u83 u84 u85 u86 u87 u88 u89 u90 u91 u92 u93 u94 u95 u96 u97 u98 u99 u100 u101 u102 u103 u104 u105 u106 u107 u108 u109 u110 u111 u112 u113 u114 u115 u116 u117 u118 u119 u120 u121 u122 u123 u124 u125 u126 u127 u128 u129 u130 u131 u132 u133 u134 u135 u136 u137 u138 u139 u140 u141 u142 u143 u144 u145 u146 u147 u148 u149 u150 u151 u152 u153 u154 u155 u156 u157 u158 u159 u160 u161 u162 u163 u164 u165 u166 u167 u168 u169 u170 u171 u172 u173 u174 u175 u176 u177 u178 u179 u180 u181 u182 u183 u184 u185 u186 u187 u188 u189 u190 u191 u192 u193 u194 u195 u196 u197 u198 u199 u200 u201 u202 u203 u204 u205 u206 u207 u208 u209 u210 u211 u212 u213 u214 u215 u216 u217 u218 u219 u220 u221 u222, (∃ nv' ms' lm', Hid (LS w' w.heap.size b nv' ms' u5 lm' [] [O] (k + 1)) ∧ OpB w' O ⟨ok, oi, .slice ea m.es.length ec, m⟩ ∧ Below w.heap.size w w') ∧ a' = ⟨#[c0, undef, u2, .bool true, .pointer (some ⟨b, 0, none⟩), u5, .int .i64 k, .pointer (some ⟨O, 0, none⟩), .pointer (some ⟨X, 0, none⟩), .bool inb, u10, u11, u12, u13, u14, u15, c16, c17, c18, c19, u20, u21, u22, u23, u24, u25, u26, u27, u28, u29, u30, u31, u32, u33, u34, u35, u36, u37, u38, u39, u40, u41, u42, u43, u44, u45, u46, u47, .int .i64 ok, u49, u50, u51, u52, u53, u54, u55, u56, u57, u58, u59, u60, u61, u62, u63, u64, u65, u66, u67, u68, u69, u70, u71, u72, u73, u74, u75, u76, u77, u78, u79, u80, u81, u82, u83, u84, u85, u86, u87, u88, u89, u90, u91, u92, u93, u94, u95, u96, u97, u98, u99, u100, u101, u102, u103, u104, u105, u106, u107, u108, u109, u110, u111, u112, u113, u114, u115, u116, u117, u118, u119, u120, u121, u122, u123, u124, u125, u126, u127, u128, u129, u130, u131, u132, u133, u134, u135, u136, u137, u138, u139, u140, u141, u142, u143, u144, u145, u146, u147, u148, u149, u150, u151, u152, u153, u154, u155, u156, u157, u158, u159, u160, u161, u162, u163, u164, u165, u166, u167, u168, u169, u170, u171, u172, u173, u174, u175, u176, u177, u178, u179, u180, u181, u182, u183, u184, u185, u186, u187, u188, u189, u190, u191, u192, u193, u194, u195, u196, u197, u198, u199, u200, u201, u202, u203, u204, u205, u206, u207, u208, u209, u210, u211, u212, u213, u214, u215, u216, u217, u218, u219, u220, u221, u222], []⟩
set_option maxRecDepth 1000000 in
def netEnd (w : World) (b k : Nat) (c0 c16 c17 c18 c19 : Value) (a' : Act) (w' : World) : Prop := ∃ u2 u5 u7 u8 u9 u10 u11 u12 u13 u14 u15 u20 u21 u22 u23 u24 u25 u26 u27 u28 u29 u30 u31 u32 u33 u34 u35 u36 u37 u38 u39 u40 u41 u42 u43 u44 u45 u46 u47 u48 u49 u50 u51 u52 u53 u54 u55 u56 u57 u58 u59 u60 u61 u62 u63 u64 u65 u66 u67 u68 u69 u70 u71 u72 u73 u74 u75 u76 u77 u78 u79 u80 u81 u82 u83 u84 u85 u86 u87 u88 u89 u90 u91 u92 u93 u94 u95 u96 u97 u98 u99 u100 u101 u102 u103 u104 u105 u106 u107 u108 u109 u110 u111 u112 u113 u114 u115 u116 u117 u118 u119 u120 u121 u122 u123 u124 u125 u126 u127 u128 u129 u130 u131 u132 u133 u134 u135 u136 u137 u138 u139 u140 u141 u142 u143 u144 u145 u146 u147 u148 u149 u150 u151 u152 u153 u154 u155 u156 u157 u158 u159 u160 u161 u162 u163 u164 u165 u166 u167 u168 u169 u170 u171 u172 u173 u174 u175 u176 u177 u178 u179 u180 u181 u182 u183 u184 u185 u186 u187 u188 u189 u190 u191 u192 u193 u194 u195 u196 u197 u198 u199 u200 u201 u202 u203 u204 u205 u206 u207 u208 u209 u210 u211 u212 u213 u214 u215 u216 u217 u218 u219 u220 u221 u222, (∃ nv' ms' lm', Hid (LS w' w.heap.size b nv' ms' u5 lm' [] [] (k + 1)) ∧ Below w.heap.size w w') ∧ a' = ⟨#[c0, undef, u2, .bool true, .pointer (some ⟨b, 0, none⟩), u5, .int .i64 k, u7, u8, u9, u10, u11, u12, u13, u14, u15, c16, c17, c18, c19, u20, u21, u22, u23, u24, u25, u26, u27, u28, u29, u30, u31, u32, u33, u34, u35, u36, u37, u38, u39, u40, u41, u42, u43, u44, u45, u46, u47, u48, u49, u50, u51, u52, u53, u54, u55, u56, u57, u58, u59, u60, u61, u62, u63, u64, u65, u66, u67, u68, u69, u70, u71, u72, u73, u74, u75, u76, u77, u78, u79, u80, u81, u82, u83, u84, u85, u86, u87, u88, u89, u90, u91, u92, u93, u94, u95, u96, u97, u98, u99, u100, u101, u102, u103, u104, u105, u106, u107, u108, u109, u110, u111, u112, u113, u114, u115, u116, u117, u118, u119, u120, u121, u122, u123, u124, u125, u126, u127, u128, u129, u130, u131, u132, u133, u134, u135, u136, u137, u138, u139, u140, u141, u142, u143, u144, u145, u146, u147, u148, u149, u150, u151, u152, u153, u154, u155, u156, u157, u158, u159, u160, u161, u162, u163, u164, u165, u166, u167, u168, u169, u170, u171, u172, u173, u174, u175, u176, u177, u178, u179, u180, u181, u182, u183, u184, u185, u186, u187, u188, u189, u190, u191, u192, u193, u194, u195, u196, u197, u198, u199, u200, u201, u202, u203, u204, u205, u206, u207, u208, u209, u210, u211, u212, u213, u214, u215, u216, u217, u218, u219, u220, u221, u222], []⟩
end Go.Proofs.Ytcogmohepcifiaa
