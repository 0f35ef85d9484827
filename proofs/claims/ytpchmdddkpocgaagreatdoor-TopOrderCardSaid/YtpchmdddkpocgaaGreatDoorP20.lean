/-
  No claim by itself: TopOrder: the server tells rows. | TopOrder: the server's Pull; a stream's Next and Last. | TopOrder: what a client has added; what waits. | TopOrder: two operations' slices are the same. | TopOrder: a row is another client's, or what was added. | TopOrder: all rows are a client's or others'. | TopOrder: a stream takes rows. No condition.
-/
import Derived.Test.YtpchmdddkpocgaaGreatDoorP19
import Derived.Test.YtpchmdddkpocgaaGreatDoorP15
import Derived.Test.YtpchmdddkpocgaaGreatDoorP18
namespace Go.Proofs.YtpchmdddkpocgaaGreatDoor
set_option maxRecDepth 100000
set_option linter.unusedVariables false
set_option linter.unusedSimpArgs false
open Go.ChangeShapes Go.WideShapes Go.ChangeAt Go.RowKit
theorem SrvAt.list {w : World} {B : Nat} {a : Nat × Nat} {R : List (Nat × Nat)} {ρ : Q → Loc} (h : SrvAt w B a R ρ) : ∃ (tb : Addr) (lv : Value) (rs : List VR), tb.spot = none ∧ w.cell? ⟨a.1, a.2 + 2, none⟩ = some (.pointer (some tb)) ∧ w.cell? ⟨tb.block, tb.off + 2, none⟩ = some lv ∧ Recs 5 vrF w lv rs ∧ RsAt w 0 R rs := by
 have hms : (qn 1, SB.bk 89 [.p (qn 2) 0, .p (qn 3) 0, .p (qn 4) 0, .b false]) ∈ srvS R.length := by unfold srvS srvL; simp
 have hmt : (qn 4, SB.bk 206 [iN (Nat.succ R.length), .p (qn 13) 0, slN (qn 14) R.length]) ∈ srvS R.length := by unfold srvS srvL; simp
 obtain ⟨tv, c0, c00, _⟩ := EmbS.atq h.E (srvL_nd ..) hms (i := 2) (y := .p (qn 4) 0) rfl
 rw [h.root.1, h.root.2] at c0
 have htv : tv = .pointer (some ⟨(ρ (qn 4)).blk, (ρ (qn 4)).base, none⟩) := by cases c00; rfl
 subst htv
 obtain ⟨lv, c1, c2, _⟩ := EmbS.atq h.E (srvL_nd ..) hmt (i := 2) (y := slN (qn 14) R.length) rfl
 by_cases hR : R = []
 ·subst hR
  have c2 : Rel ρ (qn 30).num .ns lv := c2
  cases c2
  exact ⟨_, _, [], rfl, c0, c1, Recs.zeroL _ _ _ (by decide), ⟨rfl, fun k hk => by simp at hk⟩⟩
 ·have hpos : 0 < R.length := List.length_pos_iff.2 hR
  have hone : ∀ i, i < R.length → ((ρ .e).vl (qn 14) (5 * i + 3)).oneCell' = true := fun i hi => (h.row i hi).2.2.one
  have hm : (qn 14, SB.bk 50 (rowC (qn 14) R.length)) ∈ srvS R.length := by
   cases hl : R.length with
   | zero => omega
   | succ p => exact srvL_rows ..
  have hcell : ∀ i j, i < R.length → j < 5 → ∀ y, (rowX (qn 14) i)[j]? = some y → ∃ x, w.cell? ⟨(ρ (qn 14)).blk, (ρ (qn 14)).base + (5 * i + j), none⟩ = some x ∧ Rel ρ (qn 30).num y x := fun i j hi hj y hy => by
   obtain ⟨x, d1, d2, _⟩ := EmbS.atq h.E (srvL_nd ..) hm (i := 5 * i + j) (y := y) ((rowC_get _ _ _ _ hi hj).trans hy)
   exact ⟨x, d1, d2⟩
  have hlv : ∃ cap, lv = .slice (some ⟨(ρ (qn 14)).blk, (ρ (qn 14)).base, none⟩) R.length cap ∧ R.length ≤ cap ∧ cap ≤ 9223372036854775807 := by
   have : ∀ p, 0 < p → Rel ρ (qn 30).num (slN (qn 14) p) lv → ∃ cap, lv = .slice (some ⟨(ρ (qn 14)).blk, (ρ (qn 14)).base, none⟩) p cap ∧ p ≤ cap ∧ cap ≤ 9223372036854775807 := fun p hp hr => by
    cases p with
    | zero => omega
    | succ p =>
     have hr : Rel ρ (qn 30).num (.sl (qn 14) 0 (p + 1) (.u 0 (p + 1))) lv := hr
     cases hr with
     | slu _ _ _ _ _ h0 h1 h2 h3 => exact ⟨_, rfl, by omega, by omega⟩
   exact this _ hpos c2
  obtain ⟨cap, rfl, hc1, hc2⟩ := hlv
  have hlt : (ρ (qn 14)).blk < w.heap.size := by
   obtain ⟨x, d1, _⟩ := hcell 0 0 hpos (by decide) _ rfl
   exact World.block_lt_of_cell? w _ d1
  refine ⟨_, _, (List.range R.length).attach.map fun i => ⟨((i.1 + 1 : Nat) : Int), ((R[i.1]'(by simpa using i.2)).1 : Int), ((R[i.1]'(by simpa using i.2)).2 : Int), (ρ .e).vl (qn 14) (5 * i.1 + 3), hone _ (by simpa using i.2)⟩, rfl, c0, c1, ?_, ⟨by simp, fun k h1 h2 => ?_⟩⟩
  ·refine ⟨_, _, by simp; rfl, by simpa using hc1, hc2, fun k hk => ⟨_, _, rfl, hlt, fun j u hu => ?_⟩⟩
   have hk' : k < R.length := by simpa using hk
   have hj : j < 5 := (List.getElem?_eq_some_iff.1 hu).1
   simp only [List.getElem_map, List.getElem_attach, List.getElem_range] at hu
   have e1 : (ρ (qn 14)).base + k * 5 + j = (ρ (qn 14)).base + (5 * k + j) := by omega
   rw [e1]
   have hy : j < (rowX (qn 14) k).length := hj
   obtain ⟨x, d1, d2⟩ := hcell k j hk' hj _ (List.getElem?_eq_getElem hy)
   rw [d1]
   obtain ⟨o1, o2, o3⟩ := h.row k hk'
   match j, hj with
   | 0, _ => cases hu; exact congrArg some (rel_iN d2)
   | 1, _ => cases hu; exact congrArg some ((rel_sv d2).trans o1)
   | 2, _ => cases hu; exact congrArg some ((rel_sv d2).trans o2)
   | 3, _ => cases hu; exact congrArg some (rel_sv d2)
   | 4, _ => cases hu; exact congrArg some (rel_iN (n := 0) d2)
  ·simp only [List.getElem_map, List.getElem_attach, List.getElem_range]
   exact ⟨by rw [Nat.zero_add], trivial, trivial, (h.row k h2).2.2⟩
set_option maxHeartbeats 4000000 in
theorem table_rows {w : World} {tb : Addr} {lv : Value} {rs : List VR} {R : List (Nat × Nat)} (hsp : tb.spot = none) (c1 : w.cell? ⟨tb.block, tb.off + 2, none⟩ = some lv) (hrs : Recs 5 vrF w lv rs) (hrr : RsAt w 0 R rs) (hR : ∀ r ∈ R, r.1 ≤ 3) (hl : R.length ≤ 1000) (o : Nat) (ho : o ≤ R.length) :
  Calls Tryz.prog 84 #[.pointer (some tb), .int .i64 ((o : Int) + 1), .int .i64 10] w fun e w' => RetRows w o ((R.drop o).take 10) e w' := by
 obtain ⟨tblk, toff, tsp⟩ := tb
 obtain rfl : tsp = none := hsp
 obtain ⟨z, by_, hinf, hz, hby⟩ := info_row
 obtain ⟨la, lc, rfl⟩ := hrs.slice
 have hlen := hrr.1
 dsimp only at c1
 have hne : ∀ u : World, (binOp .eql 87 (.pointer (some ⟨tblk, toff, none⟩)) (.pointer none)).run Tryz.prog u = .ok (.bool false) u := fun u => by go_simp
 have hcap : rs.length ≤ lc ∧ lc ≤ 9223372036854775807 := by
  obtain ⟨a', c', hv, h1, h2, _⟩ := hrs
  simp only [Value.slice.injEq] at hv
  obtain ⟨_, _, rfl⟩ := hv
  exact ⟨h1, h2⟩
 rw [hlen] at c1 hrs hcap
 by_cases hoR : o = R.length
 ·subst hoR
  have hd : (R.drop R.length).take 10 = [] := by simp
  rw [hd]
  have HR := Lib.hid hrs
  clear hrs
  go_enter Tryz.func84, Tryz.ntmps84
  go_wp2_with fail
  go_ret
  exact ⟨_, rfl, MadeR.nil w _⟩
 ·have hlt : o < R.length := by omega
  obtain ⟨b, off, rfl, hblt, _⟩ := hrs.at 0 (by omega)
  have hdrop := Recs.drop (f := vrF) (m := 5) (n := R.length) (cap := lc) (a := some ⟨b, off, none⟩) hrs o (by omega)
  rw [hlen, if_neg (by omega)] at hdrop
  simp only [Option.map_some, Addr.add_lit] at hdrop
  obtain ⟨M, hM⟩ : ∃ M, M = min (R.length - o) 10 := ⟨_, rfl⟩
  have hts := Recs.take hdrop M (lc - o) (by rw [List.length_drop, hlen]; omega) (by omega) (by omega)
  obtain ⟨L, hL⟩ : ∃ L, L = (R.drop o).take 10 := ⟨_, rfl⟩
  have hLl : L.length = M := by rw [hL, List.length_take, List.length_drop, hM]; omega
  have hLR : ∀ r ∈ L, r.1 ≤ 3 := fun r hr => hR r (List.mem_of_mem_drop (List.mem_of_mem_take (by rw [← hL]; exact hr)))
  have htt : RsAt w o L ((rs.drop o).take M) := by
   refine ⟨by rw [List.length_take, List.length_drop, hLl, hlen, hM]; omega, fun k h1 h2 => ?_⟩
   have e1 : L[k] = R[o + k]'(by rw [hLl, hM] at h2; omega) := by simp only [hL, List.getElem_take, List.getElem_drop]
   rw [e1]
   simp only [List.getElem_take, List.getElem_drop]
   have := hrr.2 (o + k) (by rw [hLl, hM] at h2; omega) (by rw [hLl, hM] at h2; omega)
   rw [Nat.zero_add] at this
   exact this
  have htl := htt.1
  rw [← hL]
  generalize (rs.drop o).take M = ts at *
  have htM : ts.length = M := by rw [htl, hLl]
  have HR := Lib.hid hrs
  have hmin : ∀ u : World, (Builtin.min_ #[3, 3, 3] 3 #[.int .i64 ((R.length - o : Nat) : Int), .int .i64 10, .int .i64 10]).run Tryz.prog u = .ok (.int .i64 (M : Int)) u := fun u => by
   simp [Builtin.min_, Builtin.min2]
   subst hM
   repeat' split
   all_goals omega
  have hMc : M ≤ lc - o := by omega
  have HLr := Lib.hid hLR
  have HHr := Lib.hid hrr
  clear hrs hdrop hrr hR hLR hL
  go_enter Tryz.func84, Tryz.ntmps84
  go_wp2_with fail
  have hLR := HLr.out
  go_loopw [8, 44] (fun s i wr => ∃ k : Nat, k ≤ ts.length ∧ i = .int .i64 k ∧ MadeR w wr o (L.take k) s) (fun _ i _ => ts.length - (intOf i).toNat)
  case atStart => exact ⟨0, by omega, rfl, MadeR.nil w o⟩
  case round =>
   obtain ⟨k, hk, rfl, hM⟩ := hrel
   by_cases hlt : k < ts.length
   ·have hkR : k < L.length := by omega
    obtain ⟨e1, e2, e3, e4⟩ := htt.2 k hlt hkR
    obtain ⟨ks, m1, m2, m3, m4, m6⟩ := id hM
    have hrs' := hts.keeps m4
    obtain ⟨b', off', hbo, hblt', hc⟩ := hrs'.at k hlt
    simp only [Option.some.injEq, Addr.mk.injEq, and_true] at hbo
    obtain ⟨rfl, rfl⟩ := hbo
    have d0 := hc 0 _ rfl
    have d1 := hc 1 _ rfl
    have d2 := hc 2 _ rfl
    have d3 := hc 3 _ rfl
    have d4 := hc 4 _ rfl
    rw [Nat.add_zero] at d0
    have hx3 : L[k].1 ≤ 3 := hLR _ (List.getElem_mem hkR)
    have htake : L.take (k + 1) = L.take k ++ [L[k]] := by rw [List.take_succ_eq_append_getElem hkR]
    have hlk : (L.take k).length = k := by rw [List.length_take]; omega
    generalize L[k] = x at *
    generalize hr : ts[k] = r at *
    obtain ⟨ri, rx, ry, rv, rh⟩ := r
    dsimp only at e1 e2 e3 e4 d0 d1 d2 d3
    subst e1 e2 e3
    obtain ⟨va, vn, vm, rfl⟩ := e4.val
    obtain ⟨ma, mc, rfl⟩ := hM.val
    rw [hlk] at hM m1 ⊢
    have ecast : ((o + k + 1 : Nat) : Int) = (o : Int) + k + 1 := by omega
    rw [ecast] at *
    have hW := (Below.refl wr.heap.size wr).alloc (Nat.le_refl _) (.cells #[.int .i64 ((o : Int) + k + 1), .int .i64 (x.1 : Int), .int .i64 (x.2 : Int), .slice (some va) vn vm, .int .i64 0] 50)
    have e5 := (e4.below m4).below hW
    have hrw := m1.below hW
    have HW := Lib.hid hW
    have HM := Lib.hid hM
    have HK := Lib.hid m1
    have HR := Lib.hid hrw
    have HK2 := Lib.hid (And.intro m2 (And.intro m3 m6))
    have HB := Lib.hid m4
    have HL := Lib.hid (m2.1.trans hlk)
    have HT := Lib.hid htake
    have HLK := Lib.hid hlk
    clear hlk hW e4 hM m1 m2 m3 m4 m6 hrw htake ecast
    go_wp2_with fail
    generalize wr.alloc _ = w1 at *
    refine (table_own e5 hx3 _ _ _).mono ?_
    rintro e w3 ⟨v', rfl, ho, hge, hb3⟩
    obtain ⟨na, nn, nm, rfl⟩ := ho.val
    have hb4 := (Below.refl w3.heap.size w3).alloc (Nat.le_refl _) (.cells #[.int .i64 ((o : Int) + k + 1), .int .i64 (x.1 : Int), .int .i64 (x.2 : Int), .slice (some na) nn nm, .int .i64 0] 50)
    have hsrc := recs_one w3 ⟨(o : Int) + k + 1, x.1, x.2, .slice (some na) nn nm, rfl⟩ 50
    have hown := (HR.out.below hb3).below hb4
    have hsz : w.heap.size ≤ w3.heap.size := Nat.le_trans HB.out.size (Nat.le_trans HW.out.size hb3.size)
    have HO := Lib.hid ho
    have HG := Lib.hid hge
    have H3 := Lib.hid hb3
    have H4 := Lib.hid hb4
    clear ho hge hb3 hb4 e5
    go_wp2_with (at_builtin; refine wpList_append_rx vrF_len vrF_one 38 50 w.heap.size z by_ Tryz.underlying38 hinf hz hby (by decide) rfl _ _ rfl hown hsrc rfl rfl (by have := HL.out; simp only [List.length_singleton]; omega) (by simp; omega) ?_)
    intro v5 w5 h5 hg5 hk5
    have hge' : wr.heap.size ≤ opsB (.slice (some na) nn nm) := Nat.le_trans HW.out.size HG.out
    have hM5 := MadeR.push HM.out (HW.out.trans (H3.out.mono HW.out.size)) H4.out (r := ⟨(o : Int) + k + 1, x.1, x.2, .slice (some na) nn nm, rfl⟩) (x := x) (by rw [HLK.out]; show (o : Int) + k + 1 = ((o + k + 1 : Nat) : Int); omega) rfl rfl HO.out hge' ks h5 HK2.out HK.out hg5
    obtain ⟨ma', mc', rfl⟩ := hM5.val
    have HM5 := Lib.hid hM5
    clear hM5 h5 hg5 hk5 hown hsrc
    go_wp2_with fail
    go_roundw
    case rel => exact ⟨k + 1, by omega, by go_num, by rw [HT.out]; exact HM5.out⟩
    case measure => simp [intOf]; omega
   ·obtain rfl : k = ts.length := by omega
    have hall : L.take ts.length = L := by rw [htl, List.take_length]
    rw [hall] at hM
    obtain ⟨ma, mc, rfl⟩ := hM.val
    have HM := Lib.hid hM
    clear hM
    go_wp2_with fail
    go_ret
    exact ⟨_, rfl, HM.out⟩
theorem MadeR.val3 {w wr : World} {o : Nat} {R : List (Nat × Nat)} {v : Value} (h : MadeR w wr o R v) : ∃ a n cap, v = .slice a n cap := by
 obtain ⟨a, c, hv⟩ := h.val
 exact ⟨_, _, _, hv⟩
theorem srv_pull {w : World} {B : Nat} {a : Nat × Nat} {R : List (Nat × Nat)} {ρ : Q → Loc} (h : SrvAt w B a R ρ) (hR : ∀ r ∈ R, r.1 ≤ 3) (hl : R.length ≤ 1000) (o : Nat) (ho : o ≤ R.length) :
  Calls Tryz.prog 44 #[.pointer (some ⟨a.1, a.2, none⟩), .int .i64 ((o : Int) + 1)] w fun e w' => ∃ v, e = .returned (.tuple #[v, .int .i64 0]) ∧ MadeR w w' o ((R.drop o).take 10) v := by
 obtain ⟨tb, lv, rs, hsp, c0, c1, h1, h2⟩ := h.list
 have hne : ∀ u : World, (binOp .eql 54 (.pointer (some ⟨a.1, a.2, none⟩)) (.pointer none)).run Tryz.prog u = .ok (.bool false) u := fun u => by go_simp
 have HT := Lib.hid (table_rows hsp c1 h1 h2 hR hl o ho)
 clear h h1 h2 c1 hR
 go_enter Tryz.func44, Tryz.ntmps44
 go_wp2_with fail
 refine (HT.out).mono ?_
 rintro e w' ⟨v, rfl, hM⟩
 obtain ⟨ma, mn, mc, rfl⟩ := hM.val3
 have HM := Lib.hid hM
 clear hM
 go_wp2_with fail
 go_ret2
 exact ⟨_, rfl, HM.out⟩
theorem StrAt.fold {w : World} {B : Nat} {a : Nat × Nat} {R : List (Nat × Nat)} {ρ : Q → Loc} (h : StrAt w B a R ρ) : ∃ fb fo, w.cell? ⟨a.1, a.2, none⟩ = some (.pointer (some ⟨fb, fo, none⟩)) ∧ ∀ c, 1 ≤ c → c ≤ 3 → w.cell? ⟨fb, fo + (2 + 6 * c), none⟩ = some (.int .i64 (cntR R c)) := by
 obtain ⟨fv, c1, c2, _⟩ := EmbS.atq h.E (strL_nd ..) (q := qn 1) (ty := 117) (cs := [.p (qn 2) 0, slN (qn 5) R.length]) (by unfold strS strL; simp) (i := 0) (y := .p (qn 2) 0) rfl
 rw [h.root.1, h.root.2] at c1
 have hfv : fv = .pointer (some ⟨(ρ (qn 2)).blk, (ρ (qn 2)).base, none⟩) := by cases c2; rfl
 subst hfv
 refine ⟨_, _, c1, fun c h1 h3 => ?_⟩
 obtain ⟨x, d1, d2, _⟩ := EmbS.atq h.E (strL_nd ..) (strL_fold ..) (i := 2 + 6 * c) (y := .y (.sv (qn 2) (2 + 6 * c))) (by
  rw [List.getElem?_append_right (by simp)]
  have := toldC_get (qn 2) c 0 h1 h3 (by omega)
  simp only [List.length_cons, List.length_nil, Nat.add_zero, Nat.zero_add, Nat.add_sub_cancel_left] at this ⊢
  exact this)
 rw [d1, rel_sv d2, h.told c h1 h3]
theorem fold_may {c : Nat} (h1 : 1 ≤ c) (h3 : c ≤ 3) (w : World) : Calls Tryz.prog 208 #[.int .i64 c] w fun e w' => e = .returned (.bool true) ∧ w' = w := by
 go_enter Tryz.func208, Tryz.ntmps208
 go_wp2_with fail
 go_ret
 refine ⟨?_, rfl⟩
 congr 2
 simp
 omega
theorem str_last {w : World} {B : Nat} {a : Nat × Nat} {R : List (Nat × Nat)} {ρ : Q → Loc} (h : StrAt w B a R ρ) {c : Nat} (h1 : 1 ≤ c) (h3 : c ≤ 3) :
  Calls Tryz.prog 144 #[.pointer (some ⟨a.1, a.2, none⟩), .int .i64 c] w fun e w' => e = .returned (.int .i64 (cntR R c)) ∧ w' = w := by
 obtain ⟨fb, fo, c0, hc⟩ := h.fold
 have c1 := hc c h1 h3
 have e1 : fo + (2 + 6 * c) = fo + 2 + c * 6 := by omega
 rw [e1] at c1
 have hne : ∀ u : World, (binOp .eql 115 (.pointer (some ⟨fb, fo, none⟩)) (.pointer none)).run Tryz.prog u = .ok (.bool false) u := fun u => by go_simp
 clear h hc e1
 go_enter Tryz.func144, Tryz.ntmps144
 go_wp2_with fail
 suffices hF : Calls Tryz.prog 152 #[.pointer (some ⟨fb, fo, none⟩), .int .i64 c] w fun e w' => e = .returned (.int .i64 (cntR R c)) ∧ w' = w by
  refine hF.mono ?_
  rintro e w' ⟨rfl, rfl⟩
  go_wp2_with fail
  go_ret
  exact ⟨rfl, rfl⟩
 go_enter Tryz.func152, Tryz.ntmps152
 go_wp2_with fail
 refine (fold_may h1 h3 _).mono ?_
 rintro e w' ⟨rfl, rfl⟩
 go_wp2_with fail
 go_ret
 exact ⟨rfl, rfl⟩
theorem str_next {w : World} {B : Nat} {a : Nat × Nat} {R : List (Nat × Nat)} {ρ : Q → Loc} (h : StrAt w B a R ρ) (hl : R.length ≤ 1000) :
  Calls Tryz.prog 85 #[.pointer (some ⟨a.1, a.2, none⟩)] w fun e w' => e = .returned (.int .i64 ((R.length : Int) + 1)) ∧ w' = w := by
 obtain ⟨lv, rs, c1, hrs, hrr⟩ := h.list
 obtain ⟨la, lc, rfl⟩ := hrs.slice
 have hlen := hrr.1
 rw [hlen] at c1
 have hne : ∀ u : World, (binOp .eql 70 (.pointer (some ⟨a.1, a.2, none⟩)) (.pointer none)).run Tryz.prog u = .ok (.bool false) u := fun u => by go_simp
 clear h hrs hrr hlen
 go_enter Tryz.func85, Tryz.ntmps85
 go_wp2_with fail
 go_ret
 exact ⟨rfl, rfl⟩
def BsAt (w : World) (c s : Nat) (bs : List VB) : Prop := ∀ k (h : k < bs.length), bs[k].x = (c : Int) ∧ bs[k].y = ((s + k + 1 : Nat) : Int) ∧ OpsAt w bs[k].v c (s + k)
theorem BsAt.below {w w' : World} {c s : Nat} {bs : List VB} (h : BsAt w c s bs) (hb : Below w.heap.size w w') : BsAt w' c s bs :=
 fun k hk => ⟨(h k hk).1, (h k hk).2.1, (h k hk).2.2.below hb⟩
def MadeB (w wr : World) (c s m : Nat) (v : Value) : Prop := ∃ ks, RxO 3 vbF 48 wr w.heap.size v ks ∧ ks.length = m ∧ BsAt wr c s ks ∧ (∀ b ∈ ks, w.heap.size ≤ opsB b.v) ∧ Below w.heap.size w wr
theorem MadeB.nil (w : World) (c s : Nat) : MadeB w w c s 0 (.slice none 0 0) := ⟨[], RxO.nil _ _ _, rfl, fun k h => by simp at h, by simp, Below.refl _ _⟩
theorem MadeB.val {w wr : World} {c s m : Nat} {v : Value} (h : MadeB w wr c s m v) : ∃ a cap, v = .slice a m cap := by
 obtain ⟨ks, h1, h2, _⟩ := h
 obtain ⟨a, cap, hv⟩ := (RxO.recs vbF_len h1).slice
 exact ⟨a, cap, by rw [hv, h2]⟩
theorem info_bat : ∃ z b, (Tryz.prog.info? 48).map (fun i => (i.zero, i.size, i.bytes)) = some (some z, 3, b) ∧ z.cells.size = 3 ∧ b ≤ 1000 := by
 refine ⟨.agg #[.int .i64 0, .int .i64 0, .slice none 0 0], 40, by kernel_rfl, rfl, by decide⟩
theorem recs_oneB (w : World) (r : VB) (T : TypeId) : Recs 3 vbF (w.alloc (.cells #[.int .i64 r.x, .int .i64 r.y, r.v] T)) (.slice (some ⟨w.heap.size, 0, none⟩) 1 1) [r] := by
 refine ⟨_, _, rfl, Nat.le_refl _, by decide, fun k hk => ⟨w.heap.size, 0, rfl, by simp, fun j u hu => ?_⟩⟩
 obtain rfl : k = 0 := by simpa using hk
 have hu : (vbF r)[j]? = some u := hu
 have X := BatB.new w r.x r.y r.v T
 have hj : j < 3 := (List.getElem?_eq_some_iff.1 hu).1
 rw [Nat.zero_mul, Nat.zero_add]
 match j, hj with
 | 0, _ => cases hu; exact X.c0
 | 1, _ => cases hu; exact X.c1
 | 2, _ => cases hu; exact X.c2
theorem MadeB.push {w wr w3 w4 w5 : World} {c s m : Nat} {v v' : Value} (h : MadeB w wr c s m v) (hb3 : Below wr.heap.size wr w3) (hb4 : Below w3.heap.size w3 w4) {r : VB} (hx : r.x = (c : Int)) (hy : r.y = ((s + m + 1 : Nat) : Int)) (ho : OpsAt w3 r.v c (s + m)) (hge : w.heap.size ≤ opsB r.v)
  (ks : List VB) (h4 : RxO 3 vbF 48 w5 w.heap.size v' (ks ++ [r])) (hk : BsAt wr c s ks ∧ (∀ b ∈ ks, w.heap.size ≤ opsB b.v) ∧ ks.length = m) (hrow : RxO 3 vbF 48 wr w.heap.size v ks) (hg : w4.grownBy w5 v.ownBlock) : MadeB w w5 c s (m + 1) v' := by
 obtain ⟨_, _, _, _, _, hbw⟩ := h
 obtain ⟨hk1, hk2, hk3⟩ := hk
 have hbw4 : Below w.heap.size w w4 := (hbw.trans (hb3.mono hbw.size)).trans (hb4.mono (hbw.trans (hb3.mono hbw.size)).size)
 have hrg : ∀ g, v.ownBlock = some g → w.heap.size ≤ g := fun g hg => (World.ownsRow.lt hrow g hg).1
 have hb45 : Below w.heap.size w4 w5 := ⟨hg.os, hg.tape, hg.output, hg.size, fun b hb => hg.block b (Nat.lt_of_lt_of_le hb hbw4.size) (fun e => by have := hrg b e.symm; omega)⟩
 have hsh : ∀ {u : Value} {c s : Nat}, OpsAt w4 u c s → OpsAt w5 u c s := fun {u c s} hu => by
  refine hu.stay (hg.block _ hu.lt (fun e => ?_))
  obtain ⟨sz, hs⟩ := hu.shape
  rcases hrow.2 with ⟨rfl, _⟩ | ⟨g, cap, cur, rfl, _, hh, _⟩
  ·cases e
  ·have e : some (opsB u) = some g := e
   simp only [Option.some.injEq] at e
   have hh4 : w4.heap[g]? = some (.cells cur 48) := by
    have hgl : g < wr.heap.size := (Array.getElem?_eq_some_iff.1 hh).1
    rw [hb4.block g (Nat.lt_of_lt_of_le hgl hb3.size), hb3.block g hgl]
    exact hh
   unfold World.shape? at hs
   rw [e, hh4] at hs
   cases hs
 refine ⟨ks ++ [r], h4, by simp [hk3], fun k a1 => ?_, fun u hu => ?_, hbw4.trans hb45⟩
 ·by_cases hkk : k < ks.length
  ·rw [List.getElem_append_left hkk]
   obtain ⟨e1, e2, e3⟩ := hk1 k hkk
   exact ⟨e1, e2, hsh ((e3.below hb3).below hb4)⟩
  ·have hkk : k = ks.length := by simp at a1; omega
   subst hkk
   rw [List.getElem_append_right (Nat.le_refl _)]
   simp only [hk3, Nat.sub_self, List.getElem_cons_zero]
   exact ⟨hx, hy, hsh (ho.below hb4)⟩
 ·rcases List.mem_append.1 hu with hu | hu
  ·exact hk2 u hu
  ·obtain rfl := List.mem_singleton.1 hu
   exact hge
structure QueAt (w : World) (q : Nat × Nat) (c : Nat) (db st : Nat × Nat) (lv : Value) : Prop where
 lt : q.1 < w.heap.size
 c0 : w.cell? ⟨q.1, q.2, none⟩ = some (.pointer (some ⟨db.1, db.2, none⟩))
 c1 : w.cell? ⟨q.1, q.2 + 1, none⟩ = some (.int .i64 c)
 c2 : w.cell? ⟨q.1, q.2 + 2, none⟩ = some lv
 c3 : w.cell? ⟨q.1, q.2 + 3, none⟩ = some (.pointer (some ⟨st.1, st.2, none⟩))
 fr : w.frozen? ⟨q.1, q.2 + 3, none⟩ = false
set_option maxHeartbeats 4000000 in
theorem queue_all {w : World} {B c n : Nat} {q db st : Nat × Nat} {lv : Value} {bs : List VB} {R : List (Nat × Nat)} {ρ : Q → Loc} (hQ : QueAt w q c db st lv) (hA : Recs 3 vbF w lv bs) (hbs : BsAt w c 0 bs) (hn : bs.length = n) (hn8 : n ≤ 100) (hS : StrAt w B st R ρ) (h1 : 1 ≤ c) (h3 : c ≤ 3) (hcn : cntR R c ≤ n) :
  Calls Tryz.prog 150 #[.pointer (some ⟨q.1, q.2, none⟩)] w fun e w' => ∃ v, e = .returned v ∧ MadeB w w' c (cntR R c) (n - cntR R c) v := by
 obtain ⟨z, by_, hinf, hz, hby⟩ := info_bat
 obtain ⟨la, lc, rfl⟩ := hA.slice
 have hcap : n ≤ lc ∧ lc ≤ 9223372036854775807 := by
  obtain ⟨a', c', hv, h1, h2, _⟩ := hA
  simp only [Value.slice.injEq] at hv
  obtain ⟨_, _, rfl⟩ := hv
  exact ⟨by omega, h2⟩
 have HL := Lib.hid (fun (u : World) (hb : Below w.heap.size w u) => str_last (hS.stay hb.size (fun b hf => hb.block _ (hS.lt hf)) (fun b hB => hb.block b (Nat.lt_of_lt_of_le hB hS.E.base))) h1 h3)
 obtain ⟨s, hs⟩ : ∃ s, s = cntR R c := ⟨_, rfl⟩
 rw [← hs] at HL hcn ⊢
 have hlt := hQ.lt
 have q1 := hQ.c1
 have q2 := hQ.c2
 have q3 := hQ.c3
 rw [hn] at q2
 have hA' := hA
 rw [hn] at hA'
 have hdrop := Recs.drop (f := vbF) (m := 3) hA' s (by omega)
 rw [hn] at hdrop
 have hdl : (bs.drop s).length = n - s := by rw [List.length_drop, hn]
 have hne : ∀ u : World, (binOp .eql 71 (.pointer (some ⟨q.1, q.2, none⟩)) (.pointer none)).run Tryz.prog u = .ok (.bool false) u := fun u => by go_simp
 have HA := Lib.hid hA
 have HA' := Lib.hid hA'
 have HD := Lib.hid hdrop
 have HB := Lib.hid hbs
 clear hQ hA hA' hS hdrop hbs hs
 generalize hda : (if lc = s then la else la.map (·.add (s * 3))) = da at *
 go_enter Tryz.func150, Tryz.ntmps150
 go_upto_region 4 with fail
 go_cut [21, 22, 23] (fun x y i wx => x = .slice da (n - s) (lc - s) ∧ y = .int .i64 ((n - s : Nat) : Int) ∧ i = .int .i64 0 ∧ Below w.heap.size w wx)
 case first =>
  refine wp_region_sw (by rfl) (by kernel_rfl) (fun k => match k with | 12 => some (fun v _ => v = .int .i64 s) | _ => none) ?_ (fun vals => ?_)
  ·intro k φ hk v w1 w2 h1 h2
   match k, hk with
   | 12, hk => obtain rfl := Option.some.inj hk; exact h1
  iterate 3 ((with_reducible refine sw_pure ?_ (fun K hK => ?_)); (· rfl); go_simp; with_reducible refine hK _ ?_; clear hK K)
  refine sw_at (.slice la n lc) rfl rfl (fun wz hz' hH => ?_) (fun K hK => ?_)
  ·have g := (hz'.cell (p := ⟨q.1, q.2 + 2, none⟩) hlt).trans q2
   go_simp
  go_simp; refine hK _ ?_; clear hK K
  iterate 3 ((with_reducible refine sw_pure ?_ (fun K hK => ?_)); (· rfl); go_simp; with_reducible refine hK _ ?_; clear hK K)
  refine sw_at (.pointer (some ⟨st.1, st.2, none⟩)) rfl rfl (fun wz hz' hH => ?_) (fun K hK => ?_)
  ·have g := (hz'.cell (p := ⟨q.1, q.2 + 3, none⟩) hlt).trans q3
   go_simp
  go_simp; refine hK _ ?_; clear hK K
  iterate 3 ((with_reducible refine sw_pure ?_ (fun K hK => ?_)); (· rfl); go_simp; with_reducible refine hK _ ?_; clear hK K)
  refine sw_at (.int .i64 c) rfl rfl (fun wz hz' hH => ?_) (fun K hK => ?_)
  ·have g := (hz'.cell (p := ⟨q.1, q.2 + 1, none⟩) hlt).trans q1
   go_simp
  go_simp; refine hK _ ?_; clear hK K
  refine sw_call _ rfl rfl (fun wz hz' hH => ?_) (fun K hK => ?_)
  ·go_simp
   go_at_call 144
   refine (HL.out wz hz').mono ?_
   rintro x w' ⟨rfl, rfl⟩
   exact ⟨_, rfl, rfl, Below.refl _ _⟩
  go_simp; refine hK _ ?_; clear hK K
  refine sw_at (.slice da (n - s) (lc - s)) rfl rfl (fun wz hz' hH => ?_) (fun K hK => ?_)
  ·have h3 := hH _ (List.Mem.head _) rfl
   dsimp only at h3
   rw [h3]
   subst hda
   go_simp
  go_simp; refine hK _ ?_; clear hK K
  iterate 2 ((with_reducible refine sw_pure ?_ (fun K hK => ?_)); (· rfl); go_simp; with_reducible refine hK _ ?_; clear hK K)
  refine sw_done (fun wz hz hH => ?_)
  go_wp2_with fail
  go_meet
  exact ⟨rfl, rfl, rfl, hz⟩
 case rest =>
  obtain ⟨rfl, rfl, rfl, hcutb⟩ := hcut
  rename World => wq
  obtain ⟨ts, htsd⟩ : ∃ ts, ts = bs.drop s := ⟨_, rfl⟩
  have hts := HD.out.keeps hcutb
  rw [← htsd] at hts hdl
  have htb : BsAt w c s ts := fun k hk => by
   have := HB.out (s + k) (by rw [hdl] at hk; omega)
   have e : ts[k] = bs[s + k]'(by rw [hdl] at hk; omega) := by simp only [htsd, List.getElem_drop]
   rw [e]
   rw [Nat.zero_add] at this
   exact this
  clear htsd HD HA HA' HL HB q1 q2 q3
  have htq := htb.below hcutb
  clear htb
  generalize hN : n - s = N at *
  generalize lc - s = C at *
  have hN100 : N ≤ 100 := by omega
  clear hda hcap
  have HN := Lib.hid hN
  clear hN
  go_wp2_with fail
  go_loopw [3, 23] (fun x i wr => ∃ k : Nat, k ≤ N ∧ i = .int .i64 k ∧ Below wq.heap.size wq wr ∧ MadeB wq wr c s k x) (fun _ i _ => N - (intOf i).toNat)
  case atStart => exact ⟨0, by omega, rfl, Below.refl _ _, MadeB.nil wq c s⟩
  case round =>
   obtain ⟨k, hk, rfl, hbel, hM⟩ := hrel
   by_cases hlt : k < N
   ·have hkt : k < ts.length := by omega
    obtain ⟨e1, e2, e4⟩ := htq k hkt
    obtain ⟨ks, m1, m2, m3, m3', m4⟩ := id hM
    have hrs' := hts.keeps m4
    obtain ⟨b, off, rfl, hblt, hc⟩ := hrs'.at k hkt
    have d0 := hc 0 _ rfl
    have d1 := hc 1 _ rfl
    have d2 := hc 2 _ rfl
    rw [Nat.add_zero] at d0
    generalize hr : ts[k] = r at *
    obtain ⟨rx, ry, rv, rh⟩ := r
    dsimp only at e1 e2 e4 d0 d1 d2
    subst e1 e2
    obtain ⟨va, vn, vm, rfl⟩ := e4.val
    obtain ⟨ma, mc, rfl⟩ := hM.val
    have ecast : ((s + k + 1 : Nat) : Int) = (s : Int) + k + 1 := by omega
    rw [ecast] at *
    have hW := (Below.refl wr.heap.size wr).alloc (Nat.le_refl _) (.cells #[.int .i64 (c : Int), .int .i64 ((s : Int) + k + 1), .slice (some va) vn vm] 48)
    have e5 := (e4.below m4).below hW
    have hrw := m1.below hW
    have HW := Lib.hid hW
    have HM := Lib.hid hM
    have HK := Lib.hid m1
    have HR := Lib.hid hrw
    have HK2 := Lib.hid (And.intro m3 (And.intro m3' m2))
    have HB := Lib.hid m4
    have HL := Lib.hid m2
    clear hW e4 hM m1 m2 m3 m3' m4 hrw ecast hbel
    go_wp2_with fail
    generalize wr.alloc _ = w1 at *
    refine (queue_own e5 h3 _ _).mono ?_
    rintro e w3 ⟨v', rfl, ho, hge, hb3⟩
    obtain ⟨na, nn, nm, rfl⟩ := ho.val
    have hb4 := (Below.refl w3.heap.size w3).alloc (Nat.le_refl _) (.cells #[.int .i64 (c : Int), .int .i64 ((s : Int) + k + 1), .slice (some na) nn nm] 48)
    have hsrc := recs_oneB w3 ⟨c, (s : Int) + k + 1, .slice (some na) nn nm, rfl⟩ 48
    have hown := (HR.out.below hb3).below hb4
    have hsz : wq.heap.size ≤ w3.heap.size := Nat.le_trans HB.out.size (Nat.le_trans HW.out.size hb3.size)
    have HO := Lib.hid ho
    have HG := Lib.hid hge
    have H3 := Lib.hid hb3
    have H4 := Lib.hid hb4
    clear ho hge hb3 hb4 e5
    go_wp2_with (at_builtin; refine wpList_append_rx vbF_len vbF_one 112 48 wq.heap.size z by_ Tryz.underlying112 hinf hz hby (by decide) rfl _ _ rfl hown hsrc rfl rfl (by have := HL.out; simp only [List.length_singleton]; omega) (by simp; omega) ?_)
    intro v5 w5 h5 hg5 hk5
    have hge' : wq.heap.size ≤ opsB (.slice (some na) nn nm) := Nat.le_trans HB.out.size (Nat.le_trans HW.out.size HG.out)
    have hM5 := MadeB.push HM.out (HW.out.trans (H3.out.mono HW.out.size)) H4.out (r := ⟨c, (s : Int) + k + 1, .slice (some na) nn nm, rfl⟩) rfl (by show (s : Int) + k + 1 = ((s + k + 1 : Nat) : Int); omega) HO.out hge' ks h5 HK2.out HK.out hg5
    obtain ⟨ma', mc', rfl⟩ := hM5.val
    have HM5 := Lib.hid hM5
    clear hM5 h5 hg5 hk5 hown hsrc
    go_wp2_with fail
    go_roundw
    case rel =>
     obtain ⟨_, _, _, _, _, hb6⟩ := id HM5.out
     exact ⟨k + 1, by omega, by go_num, hb6, HM5.out⟩
    case measure => simp [intOf]; omega
   ·obtain rfl : k = N := by omega
    obtain ⟨ma, mc, rfl⟩ := hM.val
    have HM := Lib.hid hM
    clear hM hts htq
    go_wp2_with fail
    go_ret
    obtain ⟨ks, m1, m2, m3, m3', m4⟩ := HM.out
    refine ⟨_, rfl, ks, m1.rebase hcutb.size, by rw [HN.out]; exact m2, m3, fun b hb => Nat.le_trans hcutb.size (m3' b hb), hcutb.trans (m4.mono hcutb.size)⟩
def opAgg (c s : Nat) : Value := .agg #[.int .i64 1, .string ⟨#[107, UInt8.ofNat (48 + c)]⟩, .int .i64 1, .int .i64 s, .string .empty, .int .i64 0, .int .i64 0, .string .empty, .int .i64 0]
theorem OpsAt.cells {w : World} {v : Value} {c s : Nat} (h : OpsAt w v c s) (hc : c ≤ 3) : ∃ b o m, v = .slice (some ⟨b, o, none⟩) 1 m ∧ b < w.heap.size ∧ ∀ j u, (opV c s)[j]? = some u → w.cell? ⟨b, o + j, none⟩ = some u := by
 have hr := h.recs hc
 obtain ⟨l, rfl, _⟩ := h
 obtain ⟨b, o, hb, hlt, hcc⟩ := hr.at 0 (by simp)
 cases hb
 exact ⟨_, _, _, rfl, hlt, fun j u hu => by have := hcc j u hu; rwa [Nat.zero_mul, Nat.add_zero] at this⟩
set_option maxHeartbeats 4000000 in
theorem op_equal {w : World} {v v' : Value} {c s : Nat} (h : OpsAt w v c s) (h' : OpsAt w v' c s) (hc : c ≤ 3) :
  Calls Tryz.prog 213 #[v, v'] w fun e w' => e = .returned (.bool true) ∧ Below w.heap.size w w' := by
 obtain ⟨b1, o1, m1, rfl, hb1, hc1⟩ := h.cells hc
 obtain ⟨b2, o2, m2, rfl, hb2, hc2⟩ := h'.cells hc
 have H1 := Lib.hid hc1
 have H2 := Lib.hid hc2
 clear h h' hc1 hc2
 go_enter Tryz.func213, Tryz.ntmps213
 go_wp2_with fail
 go_loopw [13] (fun i wr => ∃ k : Nat, k ≤ 1 ∧ i = .int .i64 k ∧ Below w.heap.size w wr) (fun i _ => 1 - (intOf i).toNat)
 case atStart => exact ⟨0, by omega, rfl, Below.refl _ _⟩
 case round =>
  obtain ⟨k, hk, rfl, hbel⟩ := hrel
  by_cases hlt : k < 1
  ·obtain rfl : k = 0 := by omega
   go_upto_region 6 with fail
   go_cut [24] (fun x wx => x = .bool false ∧ Below wr.heap.size wr wx)
   case first =>
    have hd1 : ∀ (wz : World), Below wr.heap.size wr wz → ∀ j u, (opV c s)[j]? = some u → wz.cell? ⟨b1, o1 + j, none⟩ = some u := fun wz hz j u hu => by
     have hb := hbel.trans (hz.mono hbel.size)
     exact (hb.cell (p := ⟨b1, o1 + j, none⟩) hb1).trans (H1.out j u hu)
    have hd2 : ∀ (wz : World), Below wr.heap.size wr wz → ∀ j u, (opV c s)[j]? = some u → wz.cell? ⟨b2, o2 + j, none⟩ = some u := fun wz hz j u hu => by
     have hb := hbel.trans (hz.mono hbel.size)
     exact (hb.cell (p := ⟨b2, o2 + j, none⟩) hb2).trans (H2.out j u hu)
    have G1 := Lib.hid hd1
    have G2 := Lib.hid hd2
    clear hd1 hd2
    refine wp_region_sw (by rfl) (by kernel_rfl) (fun k => none) (fun _ _ hk => by cases hk) (fun vals => ?_)
    iterate 3 ((with_reducible refine sw_pure ?_ (fun K hK => ?_)); (· rfl); go_simp; with_reducible refine hK _ ?_; clear hK K)
    refine sw_at (opAgg c s) rfl rfl (fun wz hz' hH => ?_) (fun K hK => ?_)
    ·have g0 := G1.out wz hz' 0 _ rfl
     have g1 := G1.out wz hz' 1 _ rfl
     have g2 := G1.out wz hz' 2 _ rfl
     have g3 := G1.out wz hz' 3 _ rfl
     have g4 := G1.out wz hz' 4 _ rfl
     have g5 := G1.out wz hz' 5 _ rfl
     have g6 := G1.out wz hz' 6 _ rfl
     have g7 := G1.out wz hz' 7 _ rfl
     have g8 := G1.out wz hz' 8 _ rfl
     rw [Nat.add_zero] at g0
     unfold opAgg
     go_simp
    go_simp; refine hK _ ?_; clear hK K
    iterate 3 ((with_reducible refine sw_pure ?_ (fun K hK => ?_)); (· rfl); go_simp; with_reducible refine hK _ ?_; clear hK K)
    refine sw_at (opAgg c s) rfl rfl (fun wz hz' hH => ?_) (fun K hK => ?_)
    ·have g0 := G2.out wz hz' 0 _ rfl
     have g1 := G2.out wz hz' 1 _ rfl
     have g2 := G2.out wz hz' 2 _ rfl
     have g3 := G2.out wz hz' 3 _ rfl
     have g4 := G2.out wz hz' 4 _ rfl
     have g5 := G2.out wz hz' 5 _ rfl
     have g6 := G2.out wz hz' 6 _ rfl
     have g7 := G2.out wz hz' 7 _ rfl
     have g8 := G2.out wz hz' 8 _ rfl
     rw [Nat.add_zero] at g0
     unfold opAgg
     go_simp
    go_simp; refine hK _ ?_; clear hK K
    refine sw_at (.bool false) rfl rfl (fun wz hz' hH => ?_) (fun K hK => ?_)
    ·unfold opAgg
     go_simp
    go_simp; refine hK _ ?_; clear hK K
    refine sw_done (fun wz hz hH => ?_)
    go_wp2_with fail
    go_meet
    exact ⟨rfl, hz⟩
   case rest =>
    obtain ⟨rfl, hz⟩ := hcut
    have hbz := hbel.trans (hz.mono hbel.size)
    clear hz hbel
    go_wp2_with fail
    go_roundw
    case rel => exact ⟨1, by omega, by go_num, hbz⟩
    case measure => simp [intOf]
  ·obtain rfl : k = 1 := by omega
   go_wp2_with fail
   go_ret
   exact ⟨rfl, hbel⟩
set_option maxHeartbeats 8000000 in
theorem queue_mine {w : World} {c n d t : Nat} {q db st : Nat × Nat} {lv v : Value} {bs : List VB} {i : Int} (hQ : QueAt w q c db st lv) (hA : Recs 3 vbF w lv bs) (hbs : BsAt w c 0 bs) (hn : bs.length = n) (hn8 : n ≤ 100) (hc : c ≤ 3) (hd3 : d ≤ 3) (ht : d = c → 1 ≤ t ∧ t ≤ n) (ho : OpsAt w v d (t - 1)) :
  Calls Tryz.prog 164 #[.pointer (some ⟨q.1, q.2, none⟩), .agg #[.int .i64 i, .int .i64 d, .int .i64 t, v, .int .i64 0]] w fun e w' => e = .returned (.bool true) ∧ Below w.heap.size w w' := by
 obtain ⟨la, lc, rfl⟩ := hA.slice
 have hq1 := hQ.c1
 have hq2 := hQ.c2
 have hql := hQ.lt
 rw [hn] at hq2
 obtain ⟨va, vn, vm, rfl⟩ := ho.val
 have hb1 := (Below.refl w.heap.size w).alloc (Nat.le_refl _) (.cells #[.int .i64 i, .int .i64 d, .int .i64 t, .slice (some va) vn vm, .int .i64 0] 50)
 have X1 := RowB.new w i d t (.slice (some va) vn vm) 50
 replace hA := hA.keeps hb1
 replace hbs := hbs.below hb1
 replace ho := ho.below hb1
 replace hq1 := (hb1.cell (p := ⟨q.1, q.2 + 1, none⟩) hql).trans hq1
 replace hq2 := (hb1.cell (p := ⟨q.1, q.2 + 2, none⟩) hql).trans hq2
 replace hql := Nat.lt_of_lt_of_le hql hb1.size
 clear hQ
 have HA := Lib.hid hA
 have HBS := Lib.hid hbs
 have HO := Lib.hid ho
 have HX := Lib.hid X1
 have HB := Lib.hid hb1
 clear hA hbs ho X1 hb1
 go_enter Tryz.func164, Tryz.ntmps164
 go_upto_region 1 with fail
 generalize w.alloc _ = w1 at *
 go_cut [12] (fun x wx => x = .bool (decide ((d : Int) ≠ c)) ∧ Below w1.heap.size w1 wx)
 case first =>
  refine wp_region_sw (by rfl) (by kernel_rfl) (fun k => none) (fun _ _ hk => by cases hk) (fun vals => ?_)
  iterate 2 ((with_reducible refine sw_pure ?_ (fun K hK => ?_)); (· rfl); go_simp; with_reducible refine hK _ ?_; clear hK K)
  refine sw_at (.int .i64 d) rfl rfl (fun wz hz' hH => ?_) (fun K hK => ?_)
  ·have g := (HX.out.below hz').c1
   go_simp
  go_simp; refine hK _ ?_; clear hK K
  iterate 3 ((with_reducible refine sw_pure ?_ (fun K hK => ?_)); (· rfl); go_simp; with_reducible refine hK _ ?_; clear hK K)
  refine sw_at (.int .i64 c) rfl rfl (fun wz hz' hH => ?_) (fun K hK => ?_)
  ·have g := (hz'.cell (p := ⟨q.1, q.2 + 1, none⟩) hql).trans hq1
   go_simp
  go_simp; refine hK _ ?_; clear hK K
  ((with_reducible refine sw_pure ?_ (fun K hK => ?_)); (· rfl); go_simp; with_reducible refine hK _ ?_; clear hK K)
  refine sw_done (fun wz hz hH => ?_)
  go_wp2_with fail
  go_meet
  refine ⟨?_, hz⟩
  congr 1
  by_cases h : (d : Int) = c <;> simp [h]
 case rest =>
  obtain ⟨rfl, hz⟩ := hcut
  rename World => w2
  have hbw := HB.out.trans (hz.mono HB.out.size)
  by_cases hdc : (d : Int) = c
  ·have hdc' : d = c := by omega
   subst hdc'
   obtain ⟨ht1, ht2⟩ := ht rfl
   obtain ⟨k, rfl⟩ : ∃ k, t = k + 1 := ⟨t - 1, by omega⟩
   have hk : k < bs.length := by omega
   have tt : decide ((d : Int) ≠ d) = false := by simp
   rw [tt]
   have HA2 := Lib.hid (HA.out.keeps hz)
   have HBS2 := Lib.hid (HBS.out.below hz)
   have HO2 := Lib.hid (HO.out.below hz)
   have HX2 := Lib.hid (HX.out.below hz)
   replace hq2 := (hz.cell (p := ⟨q.1, q.2 + 2, none⟩) hql).trans hq2
   replace hql := Nat.lt_of_lt_of_le hql hz.size
   have c1 : decide ((1 : Int) ≤ (k : Int) + 1) = true := decide_eq_true (by omega)
   have c2 : decide ((k : Int) + 1 ≤ n) = true := decide_eq_true (by omega)
   obtain ⟨b, off, rfl, hblt, hc0⟩ := HA2.out.at k hk
   obtain ⟨e1, e2, e3⟩ := HBS2.out k hk
   have d2 := hc0 2 _ rfl
   generalize bs[k] = bk at *
   obtain ⟨bx, by0, bv, bh⟩ := bk
   dsimp only at e1 e2 e3 d2
   obtain ⟨ua, un, um, rfl⟩ := e3.val
   rw [Nat.zero_add] at e3
   have HE := Lib.hid e3
   clear HA HBS HO HX hz HB hc0 e1 e2 e3 HA2 HBS2 tt
   go_upto_region 3 with fail
   refine wp_region_sw (by rfl) (by kernel_rfl) (fun k => match k with | 30 => some (fun v _ => v = .bool true) | _ => none) ?_ (fun vals => ?_)
   ·intro k φ hk v w1 w2 h1 h2
    match k, hk with
    | 30, hk => obtain rfl := Option.some.inj hk; exact h1
   iterate 2 ((with_reducible refine sw_pure ?_ (fun K hK => ?_)); (· rfl); go_simp; with_reducible refine hK _ ?_; clear hK K)
   refine sw_at (.int .i64 ((k : Int) + 1)) rfl rfl (fun wz hz' hH => ?_) (fun K hK => ?_)
   ·have g := (HX2.out.below hz').c2
    go_simp
   go_simp; refine hK _ ?_; clear hK K
   iterate 4 ((with_reducible refine sw_pure ?_ (fun K hK => ?_)); (· rfl); go_simp; with_reducible refine hK _ ?_; clear hK K)
   refine sw_at (.int .i64 ((k : Int) + 1)) rfl rfl (fun wz hz' hH => ?_) (fun K hK => ?_)
   ·have g := (HX2.out.below hz').c2
    go_simp
   go_simp; refine hK _ ?_; clear hK K
   iterate 3 ((with_reducible refine sw_pure ?_ (fun K hK => ?_)); (· rfl); go_simp; with_reducible refine hK _ ?_; clear hK K)
   refine sw_at (.slice (some ⟨b, off, none⟩) n lc) rfl rfl (fun wz hz' hH => ?_) (fun K hK => ?_)
   ·have g := (hz'.cell (p := ⟨q.1, q.2 + 2, none⟩) hql).trans hq2
    go_simp
   go_simp; refine hK _ ?_; clear hK K
   iterate 6 ((with_reducible refine sw_pure ?_ (fun K hK => ?_)); (· rfl); go_simp; with_reducible refine hK _ ?_; clear hK K)
   refine sw_at (.slice (some va) vn vm) rfl rfl (fun wz hz' hH => ?_) (fun K hK => ?_)
   ·have g := (HX2.out.below hz').c3
    go_simp
   go_simp; refine hK _ ?_; clear hK K
   iterate 3 ((with_reducible refine sw_pure ?_ (fun K hK => ?_)); (· rfl); go_simp; with_reducible refine hK _ ?_; clear hK K)
   refine sw_at (.slice (some ⟨b, off, none⟩) n lc) rfl rfl (fun wz hz' hH => ?_) (fun K hK => ?_)
   ·have g := (hz'.cell (p := ⟨q.1, q.2 + 2, none⟩) hql).trans hq2
    go_simp
   go_simp; refine hK _ ?_; clear hK K
   iterate 2 ((with_reducible refine sw_pure ?_ (fun K hK => ?_)); (· rfl); go_simp; with_reducible refine hK _ ?_; clear hK K)
   refine sw_at (.int .i64 ((k : Int) + 1)) rfl rfl (fun wz hz' hH => ?_) (fun K hK => ?_)
   ·have g := (HX2.out.below hz').c2
    go_simp
   go_simp; refine hK _ ?_; clear hK K
   have hkn : k < n := by omega
   have hwk : IntKind.i64.wrap (k : Int) = (k : Int) := i64_wrap (by omega) (by omega)
   ((with_reducible refine sw_pure ?_ (fun K hK => ?_)); (· rfl); go_simp; with_reducible refine hK _ ?_; clear hK K)
   refine sw_at (.pointer (some ⟨b, off + k * 3, none⟩)) rfl rfl (fun wz hz' hH => ?_) (fun K hK => ?_)
   ·go_simp
   go_simp; refine hK _ ?_; clear hK K
   ((with_reducible refine sw_pure ?_ (fun K hK => ?_)); (· rfl); go_simp; with_reducible refine hK _ ?_; clear hK K)
   refine sw_at (.slice (some ua) un um) rfl rfl (fun wz hz' hH => ?_) (fun K hK => ?_)
   ·have g := (hz'.cell (p := ⟨b, off + k * 3 + 2, none⟩) hblt).trans d2
    go_simp
   go_simp; refine hK _ ?_; clear hK K
   refine sw_call _ rfl rfl (fun wz hz' hH => ?_) (fun K hK => ?_)
   ·go_simp
    go_at_call 213
    refine (op_equal (HO2.out.below hz') (HE.out.below hz') hc).mono ?_
    rintro x w' ⟨rfl, hb⟩
    exact ⟨_, rfl, rfl, hb⟩
   go_simp; refine hK _ ?_; clear hK K
   refine sw_at (.bool true) rfl rfl (fun wz hz' hH => ?_) (fun K hK => ?_)
   ·have h3 := hH _ (List.Mem.head _) rfl
    dsimp only at h3
    rw [h3]
    go_simp
   go_simp; refine hK _ ?_; clear hK K
   ((with_reducible refine sw_pure ?_ (fun K hK => ?_)); (· rfl); go_simp; with_reducible refine hK _ ?_; clear hK K)
   refine sw_done (fun wz hz hH => ?_)
   go_wp2_with fail
   go_ret
   exact ⟨rfl, hbw.trans (hz.mono hbw.size)⟩
  ·have tt : decide ((d : Int) ≠ c) = true := decide_eq_true hdc
   rw [tt]
   go_wp2_with fail
   go_ret
   exact ⟨rfl, hbw⟩
theorem QueAt.below {w w' : World} {q db st : Nat × Nat} {c : Nat} {lv : Value} (h : QueAt w q c db st lv) (hb : Below w.heap.size w w') : QueAt w' q c db st lv :=
 ⟨Nat.lt_of_lt_of_le h.lt hb.size, (hb.cell (p := ⟨q.1, q.2, none⟩) h.lt).trans h.c0, (hb.cell (p := ⟨q.1, q.2 + 1, none⟩) h.lt).trans h.c1, (hb.cell (p := ⟨q.1, q.2 + 2, none⟩) h.lt).trans h.c2, (hb.cell (p := ⟨q.1, q.2 + 3, none⟩) h.lt).trans h.c3, (hb.frozen (p := ⟨q.1, q.2 + 3, none⟩) h.lt).trans h.fr⟩
theorem done_one {w : World} {c n d t X : Nat} {q db st : Nat × Nat} {lv v : Value} {bs : List VB} {i : Int} (hQ : QueAt w q c db st lv) (hA : Recs 3 vbF w lv bs) (hbs : BsAt w c 0 bs) (hn : bs.length = n) (hn8 : n ≤ 100) (hc : c ≤ 3) (hd3 : d ≤ 3) (ht : d = c → 1 ≤ t ∧ t ≤ n) (ho : OpsAt w v d (t - 1)) (hX : w.cell? ⟨X, 0, none⟩ = some (.pointer (some ⟨q.1, q.2, none⟩))) :
  Calls Tryz.prog 163 #[.agg #[.int .i64 i, .int .i64 d, .int .i64 t, v, .int .i64 0], .pointer (some ⟨X, 0, none⟩)] w fun e w' => e = .returned (.bool false) ∧ Below w.heap.size w w' := by
 obtain ⟨va, vn, vm, rfl⟩ := ho.val
 have hb1 := (Below.refl w.heap.size w).alloc (Nat.le_refl _) (.cells #[.int .i64 i, .int .i64 d, .int .i64 t, .slice (some va) vn vm, .int .i64 0] 50)
 have X1 := RowB.new w i d t (.slice (some va) vn vm) 50
 have x0 := X1.c0
 have x1 := X1.c1
 have x2 := X1.c2
 have x3 := X1.c3
 have x4 := X1.c4
 have hXlt := World.block_lt_of_cell? w _ hX
 replace hX := (hb1.cell (p := ⟨X, 0, none⟩) hXlt).trans hX
 have HQ := Lib.hid (hQ.below hb1)
 have HA := Lib.hid (hA.keeps hb1)
 have HBS := Lib.hid (hbs.below hb1)
 have HO := Lib.hid (ho.below hb1)
 have HB := Lib.hid hb1
 clear hQ hA hbs ho hb1 X1
 go_enter Tryz.func163, Tryz.ntmps163
 go_wp2_with fail
 generalize w.alloc _ = w1 at *
 refine (queue_mine HQ.out HA.out HBS.out hn hn8 hc hd3 ht HO.out).mono ?_
 rintro e w2 ⟨rfl, hb2⟩
 go_wp2_with fail
 go_ret
 exact ⟨rfl, HB.out.trans (hb2.mono HB.out.size)⟩
set_option maxHeartbeats 4000000 in
theorem index_mine {w : World} {c n X o : Nat} {q db st : Nat × Nat} {lv rv : Value} {bs : List VB} {rs : List VR} {L : List (Nat × Nat)} (hQ : QueAt w q c db st lv) (hA : Recs 3 vbF w lv bs) (hbs : BsAt w c 0 bs) (hn : bs.length = n) (hn8 : n ≤ 100) (hc : c ≤ 3) (hX : w.cell? ⟨X, 0, none⟩ = some (.pointer (some ⟨q.1, q.2, none⟩)))
  (hrs : Recs 5 vrF w rv rs) (hrr : RsAt w o L rs) (hL : ∀ r ∈ L, r.1 ≤ 3 ∧ (r.1 = c → 1 ≤ r.2 ∧ r.2 ≤ n)) (hLl : L.length ≤ 1000) :
  Calls Tryz.prog 162 #[rv, .func (.func 163) #[] #[.pointer (some ⟨X, 0, none⟩)]] w fun e w' => e = .returned (.int .i64 (-1)) ∧ Below w.heap.size w w' := by
 obtain ⟨la, lc, rfl⟩ := hrs.slice
 have hlen := hrr.1
 have hXlt := World.block_lt_of_cell? w _ hX
 have HQ := Lib.hid hQ
 have HA := Lib.hid hA
 have HBS := Lib.hid hbs
 have HRR := Lib.hid hrr
 have HL := Lib.hid hL
 clear hQ hA hbs hrr hL
 go_enter Tryz.func162, Tryz.ntmps162
 go_wp2_with fail
 go_loopw [5, 8] (fun _ i wr => ∃ k : Nat, k ≤ rs.length ∧ i = .int .i64 k ∧ Below w.heap.size w wr) (fun _ i _ => rs.length - (intOf i).toNat)
 case atStart => exact ⟨0, by omega, rfl, Below.refl _ _⟩
 case round =>
  obtain ⟨k, hk, rfl, hbel⟩ := hrel
  by_cases hlt : k < rs.length
  ·have hkL : k < L.length := by omega
   obtain ⟨e1, e2, e3, e4⟩ := HRR.out.2 k hlt hkL
   obtain ⟨hd3, ht⟩ := HL.out _ (List.getElem_mem hkL)
   have hrs' := hrs.keeps hbel
   obtain ⟨b, off, rfl, hblt, hcc⟩ := hrs'.at k hlt
   have d0 := hcc 0 _ rfl
   have d1 := hcc 1 _ rfl
   have d2 := hcc 2 _ rfl
   have d3 := hcc 3 _ rfl
   have d4 := hcc 4 _ rfl
   rw [Nat.add_zero] at d0
   generalize L[k] = x at *
   generalize hr : rs[k] = r at *
   obtain ⟨ri, rx, ry, rv, rh⟩ := r
   dsimp only at e1 e2 e3 e4 d0 d1 d2 d3
   subst e1 e2 e3
   obtain ⟨va, vn, vm, rfl⟩ := e4.val
   have hX' := (hbel.cell (p := ⟨X, 0, none⟩) hXlt).trans hX
   have HE := Lib.hid (e4.below hbel)
   have HX := Lib.hid hX'
   clear e4 hX' hcc hr
   go_wp2_with fail
   refine (done_one (HQ.out.below hbel) (HA.out.keeps hbel) (HBS.out.below hbel) hn hn8 hc hd3 ht HE.out HX.out).mono ?_
   rintro e w2 ⟨rfl, hb2⟩
   have hbz := hbel.trans (hb2.mono hbel.size)
   clear hb2 hbel
   go_wp2_with fail
   go_roundw
   case rel => exact ⟨k + 1, by omega, by go_num, hbz⟩
   case measure => simp [intOf]; omega
  ·obtain rfl : k = rs.length := by omega
   clear hrs
   go_wp2_with fail
   go_ret
   exact ⟨rfl, hbel⟩
def OpsIn (rs : List VR) (k b : Nat) : Prop := ∃ i, ∃ h : i < rs.length, i < k ∧ b = opsB rs[i].v
def Foll (R L : List (Nat × Nat)) : Prop := ∀ j (hj : j < L.length), 1 ≤ L[j].1 ∧ L[j].1 ≤ 3 ∧ L[j].2 = cntR (R ++ L.take j) L[j].1 + 1
structure Taking (w wr : World) (B : Nat) (a : Nat × Nat) (R L : List (Nat × Nat)) (ρ : Q → Loc) (rs : List VR) (k : Nat) (ρk : Q → Loc) : Prop where
 s : StrAt wr B a (R ++ L.take k) ρk
 but : But (fun b => (0 < k ∧ StrF R ρ b) ∨ OpsIn rs k b) w wr
 foot : ∀ b, StrF (R ++ L.take k) ρk b → StrF R ρ b ∨ OpsIn rs k b ∨ w.heap.size ≤ b
set_option maxHeartbeats 4000000 in
theorem str_take {w : World} {B : Nat} {a : Nat × Nat} {R L : List (Nat × Nat)} {ρ : Q → Loc} {rv : Value} {rs : List VR} (h : StrAt w B a R ρ) (hrs : Recs 5 vrF w rv rs) (hrr : RsAt w R.length L rs) (hnd : (rs.map fun r => opsB r.v).Nodup) (hsep : ∀ r ∈ rs, ¬ StrF R ρ (opsB r.v)) (hge : ∀ r ∈ rs, B ≤ opsB r.v)
  (hrv : ∀ g, rv.ownBlock = some g → ¬ StrF R ρ g ∧ ∀ r ∈ rs, opsB r.v ≠ g) (hL : Foll R L) (hlen : R.length + L.length ≤ 1000) (hK : ∀ j (hj : j < L.length), oneK (R.length + j) L[j].1 L[j].2 = true ∧ oneB (R.length + j) L[j].1 L[j].2 = true) :
  Calls Tryz.prog 165 #[.pointer (some ⟨a.1, a.2, none⟩), rv] w fun e w' => e = .returned (.tuple #[.int .i64 L.length, .int .i64 0]) ∧ ∃ ρ', Taking w w' B a R L ρ rs rs.length ρ' := by
 obtain ⟨la, lc, rfl⟩ := hrs.slice
 have hll := hrr.1
 rw [hll] at hrs hrv ⊢
 have hne : ∀ u : World, (binOp .eql 70 (.pointer (some ⟨a.1, a.2, none⟩)) (.pointer none)).run Tryz.prog u = .ok (.bool false) u := fun u => by go_simp
 have H0 : Taking w w B a R L ρ rs 0 ρ := ⟨by rw [List.take_zero, List.append_nil]; exact h, But.refl _ _, fun b hb => by rw [List.take_zero, List.append_nil] at hb; exact .inl hb⟩
 have HS := Lib.hid h
 have HRS := Lib.hid hrs
 have HRR := Lib.hid hrr
 have HL := Lib.hid hL
 have HK := Lib.hid hK
 have HV := Lib.hid hrv
 have HSEP := Lib.hid hsep
 have HND := Lib.hid hnd
 have HGE := Lib.hid hge
 have HH0 := Lib.hid H0
 clear h hrs hrr hL hK hrv hsep hnd hge H0
 go_enter Tryz.func165, Tryz.ntmps165
 go_wp2_with fail
 go_loopw [6, 15] (fun n i wr => ∃ k : Nat, k ≤ rs.length ∧ n = .int .i64 k ∧ i = .int .i64 k ∧ ∃ ρk, Taking w wr B a R L ρ rs k ρk) (fun _ i _ => rs.length - (intOf i).toNat)
 case atStart => exact ⟨0, by omega, rfl, rfl, ρ, HH0.out⟩
 case round =>
  obtain ⟨k, hk, rfl, rfl, ρk, hT⟩ := hrel
  by_cases hlt : k < rs.length
  ·have hkL : k < L.length := by omega
   have hRl : (R ++ L.take k).length = R.length + k := by rw [List.length_append, List.length_take]; omega
   obtain ⟨b, off, rfl, hblt, hcc⟩ := HRS.out.at k hlt
   obtain ⟨hv1, hv2⟩ := HV.out b rfl
   have hnF : ¬ ((0 < k ∧ StrF R ρ b) ∨ OpsIn rs k b) := by
    rintro (⟨_, e⟩ | ⟨i, hi, _, e⟩)
    ·exact hv1 e
    ·exact hv2 _ (List.getElem_mem hi) e.symm
   have hbk := hT.but.block b hblt hnF
   have hcell : ∀ j u, (vrF rs[k])[j]? = some u → wr.cell? ⟨b, off + k * 5 + j, none⟩ = some u := fun j u hu => (World.cell?_of_block (w := w) (a := ⟨b, off + k * 5 + j, none⟩) hbk).trans (hcc j u hu)
   have d0 := hcell 0 _ rfl
   have d1 := hcell 1 _ rfl
   have d2 := hcell 2 _ rfl
   have d3 := hcell 3 _ rfl
   have d4 := hcell 4 _ rfl
   rw [Nat.add_zero] at d0
   obtain ⟨e1, e2, e3, e4⟩ := HRR.out.2 k hlt hkL
   obtain ⟨f1, f2, f3⟩ := HL.out k hkL
   obtain ⟨g1, g2⟩ := HK.out k hkL
   have hvk := HSEP.out _ (List.getElem_mem hlt)
   have hnk : ¬ ((0 < k ∧ StrF R ρ (opsB rs[k].v)) ∨ OpsIn rs k (opsB rs[k].v)) := by
    rintro (⟨_, e⟩ | ⟨i, hi, hik, e⟩)
    ·exact hvk e
    ·have h1 : i < (rs.map fun r => opsB r.v).length := by simpa using hi
     have h2 : k < (rs.map fun r => opsB r.v).length := by simpa using hlt
     have h3 : (rs.map fun r => opsB r.v)[i] = (rs.map fun r => opsB r.v)[k] := by simpa using e.symm
     exact List.pairwise_iff_getElem.1 HND.out i k h1 h2 hik h3
   have e5 := e4.stay (w' := wr) (hT.but.block _ e4.lt hnk)
   have hstr : ¬ StrF (R ++ L.take k) ρk (opsB rs[k].v) := fun e => by
    rcases hT.foot _ e with e | e | e
    ·exact hvk e
    ·exact hnk (.inr e)
    ·have := e4.lt; omega
   have hge := HGE.out _ (List.getElem_mem hlt)
   have htk : L.take (k + 1) = L.take k ++ [L[k]] := by rw [List.take_succ_eq_append_getElem hkL]
   have hsuc : ∀ b, OpsIn rs k b → OpsIn rs (k + 1) b := fun b ⟨i, hi, h1, h2⟩ => ⟨i, hi, by omega, h2⟩
   have hself : OpsIn rs (k + 1) (opsB rs[k].v) := ⟨k, hlt, by omega, rfl⟩
   clear hcc hcell hnF hbk hnk hvk hv1 hv2
   generalize L[k] = x at *
   obtain ⟨xc, xs⟩ := x
   dsimp only at *
   subst f3
   generalize rs[k] = r at *
   obtain ⟨ri, rx, ry, rv, rh⟩ := r
   dsimp only at *
   subst e1 e2 e3
   obtain ⟨va, vn, vm, rfl⟩ := e4.val
   rw [Nat.add_sub_cancel] at e5
   obtain ⟨hTs, hTb, hTf⟩ := hT
   have hk1000 : (R ++ L.take k).length ≤ 1000 := by rw [hRl]; omega
   have ec1 : (((R ++ L.take k).length + 1 : Nat) : Int) = (R.length : Int) + k + 1 := by rw [hRl]; omega
   have ec1' : ((R.length + k + 1 : Nat) : Int) = (R.length : Int) + k + 1 := by omega
   rw [← hRl] at g1 g2
   generalize hR' : R ++ L.take k = R' at *
   generalize hcs : cntR R' xc = s at *
   have ec2 : ((s + 1 : Nat) : Int) = (s : Int) + 1 := by omega
   have hW := (Below.refl wr.heap.size wr).alloc (Nat.le_refl _) (.cells #[.int .i64 ((R.length : Int) + k + 1), .int .i64 (xc : Int), .int .i64 ((s : Int) + 1), .slice (some va) vn vm, .int .i64 0] 50)
   have hS1 : StrAt _ B a R' ρk := hTs.stay hW.size (fun b hf => hW.block _ (hTs.lt hf)) (fun b hB => hW.block b (Nat.lt_of_lt_of_le hB hTs.E.base))
   have hone := str_one hS1 f1 f2 hcs.symm hk1000 (e5.below hW) hge hstr g1 g2
   rw [ec1, ec2] at hone
   rw [ec1'] at d0
   rw [ec2] at d2
   have htk' : R ++ L.take (k + 1) = R' ++ [(xc, s + 1)] := by rw [htk, ← hR', List.append_assoc]
   have HONE := Lib.hid hone
   have HW := Lib.hid hW
   have HTB := Lib.hid hTb
   have HTF := Lib.hid hTf
   have HSU := Lib.hid hsuc
   have HSE := Lib.hid hself
   have HTK := Lib.hid htk'
   have HS4 := Lib.hid e4
   clear hone hW hS1 hTs hTb hTf hsuc hself htk htk' e4 e5 hge hstr g1 g2 ec1 ec1' ec2 hk1000 hRl
   go_wp2_with fail
   generalize wr.alloc _ = w1 at *
   refine (HONE.out).mono ?_
   rintro e w3 ⟨rfl, ρ', hS3, hb3, hf3⟩
   have hbut : But (fun b => (0 < k + 1 ∧ StrF R ρ b) ∨ OpsIn rs (k + 1) b) w w3 := by
    have h1 : But (fun b => (0 < k + 1 ∧ StrF R ρ b) ∨ OpsIn rs (k + 1) b) w wr := HTB.out.mono fun b _ hb => hb.imp (fun x => ⟨by omega, x.2⟩) (HSU.out b)
    refine (h1.trans (But.of_below (F := fun _ => False) HW.out) (fun _ _ hf => hf.elim)).trans hb3 (fun b hb hf => ?_)
    rcases hf with hf | rfl
    ·rcases HTF.out b (.inl hf) with e | e | e
     ·exact .inl ⟨by omega, e⟩
     ·exact .inr (HSU.out b e)
     ·omega
    ·exact .inr HSE.out
   have hfoot : ∀ b, StrF (R ++ L.take (k + 1)) ρ' b → StrF R ρ b ∨ OpsIn rs (k + 1) b ∨ w.heap.size ≤ b := fun b hb => by
    rw [HTK.out] at hb
    rcases hf3 b hb with e | rfl | e
    ·rcases HTF.out b e with e | e | e
     ·exact .inl e
     ·exact .inr (.inl (HSU.out b e))
     ·exact .inr (.inr e)
    ·exact .inr (.inl HSE.out)
    ·exact .inr (.inr (Nat.le_trans HTB.out.size (Nat.le_trans HW.out.size e)))
   have HT3 : Hid (Taking w w3 B a R L ρ rs (k + 1) ρ') := Lib.hid ⟨by rw [HTK.out]; exact hS3, hbut, hfoot⟩
   clear hS3 hb3 hf3 hbut hfoot
   go_wp2_with fail
   go_roundw
   case rel => exact ⟨k + 1, by omega, by go_num, by go_num, ρ', HT3.out⟩
   case measure => simp [intOf]; omega
  ·obtain rfl : k = L.length := by omega
   have HT := Lib.hid hT
   clear hT
   go_wp2_with fail
   go_ret2
   exact ⟨rfl, ρk, HT.out⟩
end Go.Proofs.YtpchmdddkpocgaaGreatDoor
