/-
  No claim by itself: the document's log, by value: Put: what it makes. No condition.
-/
import Derived.Test.YtikoafjnopkoaaaP10
namespace Go.Proofs.Ytikoafjnopkoaaa
set_option linter.unusedVariables false
set_option linter.unusedSimpArgs false
open Go.ChangeShapes Go.WideShapes Go.ChangeAt Go.RowKit

def RetRPut (w : World) (s : Snp) (rv : Value) (es fs : List Ent) (e : Ending) (w' : World) : Prop :=
  Below w.heap.size w w' ∧ ∃ v, e = .returned (.tuple #[refAgg s v, .int .i64 (putP s es fs).1.1, .bool (putP s es fs).1.2]) ∧ ((v = rv ∧ (putP s es fs).2 = es) ∨ EntO w' w.heap.size v (putP s es fs).2)
theorem RetRPut.no {w w' : World} {s : Snp} {a : Option Addr} {cap : Nat} {es fs : List Ent} {b : Bool} (hb : Below w.heap.size w w') (hp : Hid (putP s es fs = ((0, b), es))) :
    RetRPut w s (.slice a es.length cap) es fs (.returned (.tuple #[refAgg s (.slice a es.length cap), .int .i64 0, .bool b])) w' :=
  ⟨hb, _, by rw [hp.out], .inl ⟨rfl, by rw [hp.out]⟩⟩
set_option maxRecDepth 100000 in
set_option maxHeartbeats 4000000 in
theorem ref_put {w : World} {s : Snp} {rv v : Value} {es fs : List Ent} (h : RefS w rv es) (hB0 : LogB s es) (hf : EntR w v fs) (hfl : fs.length ≤ 1000000) (hlo : entsLo fs) :
    Calls Try.prog 10 #[refAgg s rv, v] w fun e w' => RetRPut w s rv es fs e w' := by
  have hS0 := logS_box (s := s) h
  have hR0 := Lib.hid h
  obtain ⟨a, cap, rfl⟩ := h.r.slice
  obtain ⟨af, cf, rfl⟩ := hf.slice
  have hs1 := hB0.1
  have hs2 := hB0.2.1
  have hs3 := hB0.2.2
  have hB := Lib.hid hB0
  have HLO := Lib.hid hlo
  unfold refAgg
  unfold refCells at hS0
  have hbx0 := (Below.refl w.heap.size w).alloc (Nat.le_refl _) (.cells #[.int .i64 s.i, .int .i64 s.t, .string s.c, .string s.d, .slice a es.length cap] 32)
  generalize hw0 : w.alloc (.cells #[.int .i64 s.i, .int .i64 s.t, .string s.c, .string s.d, .slice a es.length cap] 32) = wa at *
  have hza : wa.heap.size = w.heap.size + 1 := by rw [← hw0]; simp
  have hb2 := (Below.refl wa.heap.size wa).alloc (Nat.le_refl _) (.cells #[.int .i64 0, .int .i64 0, .string ⟨#[]⟩, .string ⟨#[]⟩, .slice none 0 0] 32)
  have hR1 := logS_box (w := wa) (s := ⟨0, 0, ⟨#[]⟩, ⟨#[]⟩⟩) (rv := .slice none 0 0) (es := []) ⟨EntR.nil _ _ _ (by omega), fun g off n c e => by cases e⟩
  unfold refCells at hR1
  dsimp only at hR1
  have hS1 := hS0.below hb2
  have hbx := hbx0.trans (hb2.mono hbx0.size)
  rw [hza] at hR1
  have hF1 := hf.below hbx
  clear hS0 hb2 hbx0 h hB0 hf hlo
  go_enter Try.func10, Try.ntmps10
  go_upto_region 1 with fail
  generalize hw2 : wa.alloc _ = w1 at *
  clear hw0 hw2 hza
  have l0 := hS1.lt
  have l1 := hR1.lt
  obtain rfl | ⟨e0, fs0, hF⟩ : fs = [] ∨ ∃ e0 fs0, fs = e0 :: fs0 := by cases fs <;> simp
  · have H1 : Hid (putP s es [] = ((0, true), es)) := Lib.hid rfl
    have c0 := hS1.c0
    have c1 := hS1.c1
    have c2 := hS1.c2
    have c3 := hS1.c3
    have c4 := hS1.c4
    have q0 := hR1.c0
    have q1 := hR1.c1
    have q2 := hR1.c2
    have q3 := hR1.c3
    have q4 := hR1.c4
    have f0 := hR1.fr 0
    have f1 := hR1.fr 1
    have f2 := hR1.fr 2
    have f3 := hR1.fr 3
    have f4 := hR1.fr 4
    dsimp only at q0 q1 q2 q3
    have HB := Lib.hid fun x0 x1 x2 x3 x4 => below5 (b := w.heap.size + 1) hbx (by omega) x0 x1 x2 x3 x4
    clear hS1 hR1 hF1 hbx
    go_wp2_with fail
    exact bodyPost_ret (v := .tuple #[refAgg s (.slice a es.length cap), .int .i64 0, .bool true]) (by simp [results, Try.results10, go_sem, refAgg, q0, q1, q2, q3, q4]) rfl (RetRPut.no (HB.out _ _ _ _ _) H1)
  · have HP : Hid (putP s es (e0 :: fs0) = if lastP s es + 1 < e0.i ∨ rowP (wrap64 (e0.i - 1)) e0.t (e0 :: fs0) = false then ((0, false), es) else putRest s es ((e0 :: fs0).dropWhile (pastP s es))) := Lib.hid rfl
    have hrow0 : rowP (wrap64 (e0.i - 1)) e0.t (e0 :: fs0) = rowP e0.i e0.t fs0 := by
      have hh := HLO.out e0 (by rw [hF]; simp)
      show ((e0.i == wrap64 (wrap64 (e0.i - 1) + 1)) && decide (e0.t ≤ e0.t) && rowP e0.i e0.t fs0) = _
      rw [show (e0.i == wrap64 (wrap64 (e0.i - 1) + 1)) = true from beq_iff_eq.2 (by unfold wrap64; omega), decide_eq_true (Int.le_refl _)]
      rfl
    have hF0 : 0 < fs.length := by rw [hF]; simp
    obtain ⟨bf, off, rfl, hbf, d0, -, -, -⟩ := hF1.cells 0 hF0
    have hg0 : fs[0] = e0 := by simp [hF]
    rw [hg0] at d0
    rw [Nat.zero_mul, Nat.add_zero] at d0
    rw [hrow0] at HP
    rw [← hF] at HP
    have HF := Lib.hid hF
    clear hF hrow0
    have tne : ((fs.length : Int) == 0) = false := by rw [beq_eq_false_iff_ne]; omega
    have hL : 0 ≤ lastP s es ∧ lastP s es ≤ 4611686018427388200 := by unfold lastP; omega
    have w1q : IntKind.i64.wrap (lastP s es + 1) = lastP s es + 1 := IntWalk.i64_in _ (by omega)
    go_upto_region 3 with fail
    go_cut [25] (fun x wx => x = .bool (decide (lastP s es + 1 < e0.i)) ∧ Below w1.heap.size w1 wx)
    case first =>
      refine wp_region_sw (by rfl) (by kernel_rfl) (fun k => match k with | 5 => some (fun v _ => v = .int .i64 (lastP s es)) | _ => none) ?_ (fun vals => ?_)
      · intro k φ hk v w1 w2 h1 h2
        match k, hk with
        | 5, hk => obtain rfl := Option.some.inj hk; exact h1
      iterate 3 (refine sw_pure (by rfl) (fun K hK => ?_); go_simp; refine hK _ ?_; clear hK K)
      refine sw_at (.int .i64 e0.i) rfl rfl (fun wz hz hH => ?_) (fun K hK => ?_)
      · have h2 := (hz.cell (p := ⟨bf, off, none⟩) hbf).trans d0
        go_simp
      go_simp; refine hK _ ?_; clear hK K
      refine sw_at (refAgg s (.slice a es.length cap)) rfl rfl (fun wz hz hH => ?_) (fun K hK => ?_)
      · have hZ := hS1.below hz
        have c0 := hZ.c0
        have c1 := hZ.c1
        have c2 := hZ.c2
        have c3 := hZ.c3
        have c4 := hZ.c4
        clear hZ
        unfold refAgg
        go_simp
      go_simp; refine hK _ ?_; clear hK K
      refine sw_call _ rfl rfl (fun wz hz hH => ?_) (fun K hK => ?_)
      · have hT := ref_last (w := wz) (s := s) (a := a) (cap := cap) (es := es) hB.out
        unfold refAgg at hT ⊢
        go_simp
        go_at_call 30
        refine hT.mono ?_
        rintro e w' ⟨rfl, hb⟩
        exact ⟨_, rfl, rfl, hb⟩
      go_simp; refine hK _ ?_; clear hK K
      refine sw_at (.int .i64 (lastP s es + 1)) rfl rfl (fun wz hz hH => ?_) (fun K hK => ?_)
      · have h3 := hH _ (List.Mem.head _) rfl
        dsimp only at h3
        rw [h3]
        go_simp
      go_simp; refine hK _ ?_; clear hK K
      iterate 1 (refine sw_pure (by rfl) (fun K hK => ?_); go_simp; refine hK _ ?_; clear hK K)
      refine sw_done (fun wz hz hH => ?_)
      go_wp2_with fail
      go_meet
      exact ⟨rfl, hz⟩
    case rest =>
      obtain ⟨rfl, hz⟩ := hcut
      rename World => w2
      have hZ := hS1.below hz
      have hRz := hR1.below hz
      have hFz := hF1.below hz
      have hbz := hbx.trans (hz.mono hbx.size)
      clear hF1 d0 w1q hbf
      by_cases p1 : lastP s es + 1 < e0.i
      · have H1 : Hid (putP s es fs = ((0, false), es)) := Lib.hid (by rw [HP.out, if_pos (.inl p1)])
        have c0 := hZ.c0
        have c1 := hZ.c1
        have c2 := hZ.c2
        have c3 := hZ.c3
        have c4 := hZ.c4
        have q0 := hRz.c0
        have q1 := hRz.c1
        have q2 := hRz.c2
        have q3 := hRz.c3
        have q4 := hRz.c4
        have f0 := hRz.fr 0
        have f1 := hRz.fr 1
        have f2 := hRz.fr 2
        have f3 := hRz.fr 3
        have f4 := hRz.fr 4
        dsimp only at q0 q1 q2 q3
        have HB := Lib.hid fun x0 x1 x2 x3 x4 => below5 (b := w.heap.size + 1) hbz (by omega) x0 x1 x2 x3 x4
        clear hZ hRz hFz hbz hS1 hR1
        go_wp2_with fail
        exact bodyPost_ret (v := .tuple #[refAgg s (.slice a es.length cap), .int .i64 0, .bool false]) (by simp [results, Try.results10, go_sem, refAgg, q0, q1, q2, q3, q4]) rfl (RetRPut.no (HB.out _ _ _ _ _) H1)
      · have t1 : decide (lastP s es + 1 < e0.i) = false := decide_eq_false p1
        have HFz := Lib.hid hFz
        have HZ := Lib.hid hZ
        have HRz := Lib.hid hRz
        clear hFz hZ hRz hS1 hR1 hz hbx
        go_wp2_with fail
        go_loopw [7] (fun i wr => ∃ (k : Nat) (hk : k < fs.length), i = .int .i64 ((k : Int) + 1) ∧ Hid (rowP e0.i e0.t fs0 = rowP fs[k].i fs[k].t (fs.drop (k + 1))) ∧ Below w2.heap.size w2 wr) (fun i _ => fs.length - (intOf i).toNat)
        case atStart => exact ⟨0, hF0, rfl, Lib.hid (by simp [HF.out]), Below.refl _ _⟩
        case round =>
          obtain ⟨k, hk, rfl, HC, hbel⟩ := hrel
          have hby := hbz.trans (hbel.mono hbz.size)
          by_cases hlt : k + 1 < fs.length
          · have hE := HFz.out.below hbel
            obtain ⟨bb, oo, he, hbb, d0, d1, -, -⟩ := hE.cells (k + 1) hlt
            obtain ⟨bb2, oo2, he2, -, g0, g1, -, -⟩ := hE.cells k hk
            simp only [Option.some.injEq, Addr.mk.injEq, and_true] at he he2
            obtain ⟨rfl, rfl⟩ := he
            obtain ⟨rfl, rfl⟩ := he2
            have hrw : rowP fs[k].i fs[k].t (fs.drop (k + 1)) = ((fs[k + 1].i == wrap64 (fs[k].i + 1)) && decide (fs[k].t ≤ fs[k + 1].t) && rowP fs[k + 1].i fs[k + 1].t (fs.drop (k + 1 + 1))) := by
              rw [List.drop_eq_getElem_cons hlt]
              rfl
            have HC2 := Lib.hid (HC.out.trans hrw)
            have w1q : IntKind.i64.wrap ((k : Int) + 1 - 1) = (k : Int) := by rw [IntWalk.i64_in _ (by omega)]; omega
            rw [show (bf : Nat) = bf from rfl] at d0
            clear hrw HC hE
            generalize hA : fs[k + 1] = A at *
            generalize hBe : fs[k] = Be at *
            have HA := Lib.hid hA
            clear hA hBe
            obtain ⟨ei, et, ek, ed⟩ := A
            obtain ⟨pi, pt, pk, pd⟩ := Be
            dsimp only at d0 d1 g0 g1 HC2
            by_cases h1 : ei = wrap64 (pi + 1)
            · by_cases h2 : et < pt
              · have HT : Hid (decide (pt ≤ et) = false) := Lib.hid (decide_eq_false (by omega))
                have t0' : (ei != wrap64 (pi + 1)) = false := by rw [bne_eq_false_iff_eq]; exact h1
                have h1' := Lib.hid h1
                clear h1
                have H1 : Hid (putP s es fs = ((0, false), es)) := Lib.hid (by rw [HP.out, if_pos (.inr (by rw [HC2.out]; simp [HT.out]))])
                have hZ := HZ.out.below hbel
                have hRz := HRz.out.below hbel
                have c0 := hZ.c0
                have c1 := hZ.c1
                have c2 := hZ.c2
                have c3 := hZ.c3
                have c4 := hZ.c4
                have q0 := hRz.c0
                have q1 := hRz.c1
                have q2 := hRz.c2
                have q3 := hRz.c3
                have q4 := hRz.c4
                have f0 := hRz.fr 0
                have f1 := hRz.fr 1
                have f2 := hRz.fr 2
                have f3 := hRz.fr 3
                have f4 := hRz.fr 4
                dsimp only at q0 q1 q2 q3
                have HB := Lib.hid fun n x0 x1 x2 x3 x4 => below5 (b := w.heap.size + 1) (below_drewN hby n) (by omega) x0 x1 x2 x3 x4
                clear hZ hRz hby hbel HC2 HT
                go_wp2_with fail
                go_quiet (fail)
                go_wp2_with fail
                exact bodyPost_ret (v := .tuple #[refAgg s (.slice a es.length cap), .int .i64 0, .bool false]) (by simp [results, Try.results10, go_sem, refAgg, q0, q1, q2, q3, q4]) rfl (RetRPut.no (HB.out _ _ _ _ _ _) H1)
              · have H1 := Lib.hid (show rowP e0.i e0.t fs0 = rowP ei et (fs.drop (k + 1 + 1)) by
                  rw [HC2.out, decide_eq_true (show pt ≤ et by omega), show (ei == wrap64 (pi + 1)) = true from beq_iff_eq.2 h1]
                  rfl)
                have t0' : (ei != wrap64 (pi + 1)) = false := by rw [bne_eq_false_iff_eq]; exact h1
                have h1' := Lib.hid h1
                have HB := Lib.hid fun n => below_drewN hbel n
                clear HC2 hbel hby h1
                go_wp2_with fail
                go_quiet (fail)
                go_wp2_with fail
                go_roundw
                case rel => exact ⟨k + 1, hlt, by go_num, Lib.hid (by rw [HA.out]; exact H1.out), HB.out _⟩
                case measure => simp [intOf]; omega
            · have HT : Hid ((ei == wrap64 (pi + 1)) = false) := Lib.hid (beq_eq_false_iff_ne.2 h1)
              have t0' : (ei != wrap64 (pi + 1)) = true := by rw [bne_iff_ne]; exact h1
              clear h1
              have H1 : Hid (putP s es fs = ((0, false), es)) := Lib.hid (by rw [HP.out, if_pos (.inr (by rw [HC2.out]; simp [HT.out]))])
              have hZ := HZ.out.below hbel
              have hRz := HRz.out.below hbel
              have c0 := hZ.c0
              have c1 := hZ.c1
              have c2 := hZ.c2
              have c3 := hZ.c3
              have c4 := hZ.c4
              have q0 := hRz.c0
              have q1 := hRz.c1
              have q2 := hRz.c2
              have q3 := hRz.c3
              have q4 := hRz.c4
              have f0 := hRz.fr 0
              have f1 := hRz.fr 1
              have f2 := hRz.fr 2
              have f3 := hRz.fr 3
              have f4 := hRz.fr 4
              dsimp only at q0 q1 q2 q3
              have HB := Lib.hid fun n x0 x1 x2 x3 x4 => below5 (b := w.heap.size + 1) (below_drewN hby n) (by omega) x0 x1 x2 x3 x4
              clear hZ hRz hby hbel HC2 HT
              go_wp2_with fail
              go_quiet (fail)
              go_wp2_with fail
              exact bodyPost_ret (v := .tuple #[refAgg s (.slice a es.length cap), .int .i64 0, .bool false]) (by simp [results, Try.results10, go_sem, refAgg, q0, q1, q2, q3, q4]) rfl (RetRPut.no (HB.out _ _ _ _ _ _) H1)
          · have hkl : k + 1 = fs.length := by omega
            have hgood : rowP e0.i e0.t fs0 = true := by
              rw [HC.out, hkl, List.drop_length]
              rfl
            have HG := Lib.hid hgood
            have tlt : decide ((k : Int) + 1 < (fs.length : Int)) = false := decide_eq_false (by omega)
            clear HC hgood
            go_wp2_with fail
            have hinv : putInv s es fs := by
              refine ⟨⟨wrap64 (e0.i - 1), e0.t, ?_⟩, fun e he => ?_⟩
              · rw [HF.out]
                show ((e0.i == wrap64 (wrap64 (e0.i - 1) + 1)) && decide (e0.t ≤ e0.t) && rowP e0.i e0.t fs0) = true
                have hh := HLO.out e0 (by rw [HF.out]; simp)
                rw [show (e0.i == wrap64 (wrap64 (e0.i - 1) + 1)) = true from beq_iff_eq.2 (by unfold wrap64; omega), decide_eq_true (Int.le_refl _), HG.out]
                rfl
              · rw [HF.out] at he
                simp only [List.head?_cons, Option.mem_some] at he
                subst he
                omega
            have HINV := Lib.hid hinv
            have H1 : Hid (putP s es fs = putRest s es (fs.dropWhile (pastP s es))) := Lib.hid (by rw [HP.out, if_neg (by rw [HG.out]; simp; omega)])
            clear hinv HP HG tlt hkl hlt
            have HFr := Lib.hid (HFz.out.below hbel)
            have HZr := Lib.hid (HZ.out.below hbel)
            have HRr := Lib.hid (HRz.out.below hbel)
            clear HFz HZ HRz hbz hbel
            rename World => w3
            go_loopw [8] (fun i wr => ∃ j : Nat, j ≤ fs.length ∧ i = .int .i64 j ∧ Hid (fs.dropWhile (pastP s es) = (fs.drop j).dropWhile (pastP s es)) ∧ Hid (putInv s es (fs.drop j)) ∧ Below w3.heap.size w3 wr) (fun i _ => fs.length - (intOf i).toNat)
            case atStart => exact ⟨0, by omega, rfl, Lib.hid (by simp), Lib.hid (by simpa using HINV.out), Below.refl _ _⟩
            case round =>
              obtain ⟨j, hj, rfl, HDW, HI, hbel⟩ := hrel
              have hbw := hby.trans (hbel.mono hby.size)
              by_cases hjl : j < fs.length
              · have hE := HFr.out.below hbel
                obtain ⟨bb, oo, he, hbb, d0, d1, d2, d3⟩ := hE.cells j hjl
                simp only [Option.some.injEq, Addr.mk.injEq, and_true] at he
                obtain ⟨rfl, rfl⟩ := he
                have hS := HZr.out.below hbel
                have c0 := hS.c0
                have c1 := hS.c1
                have c2 := hS.c2
                have c3 := hS.c3
                have c4 := hS.c4
                have lb := hS.lt
                have hdr : fs.drop j = fs[j] :: fs.drop (j + 1) := List.drop_eq_getElem_cons hjl
                have hlo := HLO.out fs[j] (List.getElem_mem hjl)
                have hIn := HI.out
                rw [hdr] at hIn
                have HIn := Lib.hid hIn
                have HD2 : Hid (fs.dropWhile (pastP s es) = (fs[j] :: fs.drop (j + 1)).dropWhile (pastP s es)) := Lib.hid (by rw [← hdr]; exact HDW.out)
                have hb1 := fun o => hbw.alloc hbw.size o
                have HB1 := Lib.hid hb1
                have hb2 := fun o => hbel.alloc hbel.size o
                have HB2 := Lib.hid hb2
                have hjd : fs.length - (j + 1) = (fs.drop (j + 1)).length := by rw [List.length_drop]
                clear hE hdr hIn HDW HI hb1 hb2
                generalize hA : fs[j] = A at *
                have HA := Lib.hid hA
                clear hA
                obtain ⟨ei, et, ek, ed⟩ := A
                dsimp only at d0 d1 d2 d3 hlo
                by_cases h1 : ei ≤ s.i
                · have hp : pastP s es ⟨ei, et, ek, ed⟩ = true := by
                    show (decide (ei ≤ s.i) || fitsP s es ei et) = true
                    rw [decide_eq_true h1]
                    rfl
                  have H2 : Hid (fs.dropWhile (pastP s es) = (fs.drop (j + 1)).dropWhile (pastP s es)) := Lib.hid (by rw [HD2.out, List.dropWhile_cons_of_pos hp])
                  have H3 := Lib.hid (HIn.out.next hB.out hp hlo.1)
                  clear hS hp HD2 HIn
                  go_wp2_with fail
                  go_roundw
                  case rel => exact ⟨j + 1, by omega, by go_num, H2, H3, HB2.out _⟩
                  case measure => simp [intOf]; omega
                · have hT := ref_fits (s := s) ei et (hR0.out.below (HB1.out (.cells #[.int .i64 ei, .int .i64 et, .int .i64 ek, .string ed] 51))) hB.out
                  unfold refAgg at hT
                  have HT := Lib.hid hT
                  clear hT
                  go_wp2_with fail
                  refine HT.out.mono ?_
                  rintro e w4 ⟨rfl, hb4⟩
                  have hb5 := (HB2.out (.cells #[.int .i64 ei, .int .i64 et, .int .i64 ek, .string ed] 51)).trans (hb4.mono (HB2.out _).size)
                  cases hfit : fitsP s es ei et with
                  | true =>
                    have hp : pastP s es ⟨ei, et, ek, ed⟩ = true := by
                      show (decide (ei ≤ s.i) || fitsP s es ei et) = true
                      rw [hfit, Bool.or_true]
                    have H2 : Hid (fs.dropWhile (pastP s es) = (fs.drop (j + 1)).dropWhile (pastP s es)) := Lib.hid (by rw [HD2.out, List.dropWhile_cons_of_pos hp])
                    have H3 := Lib.hid (HIn.out.next hB.out hp hlo.1)
                    clear hS hp HD2 HIn HT hfit
                    go_wp2_with fail
                    go_roundw
                    case rel => exact ⟨j + 1, by omega, by go_num, H2, H3, hb5⟩
                    case measure => simp [intOf]; omega
                  | false =>
                    have hp : pastP s es ⟨ei, et, ek, ed⟩ = false := by
                      show (decide (ei ≤ s.i) || fitsP s es ei et) = false
                      rw [hfit, decide_eq_false (show ¬ ei ≤ s.i by omega)]
                      rfl
                    have hi2 : ei ≤ lastP s es + 1 := HIn.out.2 _ rfl
                    obtain ⟨Kn, hKn⟩ := Int.eq_ofNat_of_zero_le (show 0 ≤ ei - (s.i + 1) by omega)
                    have hKl : Kn ≤ es.length := by unfold lastP at hi2; omega
                    have hdr2 : fs.drop j = ⟨ei, et, ek, ed⟩ :: fs.drop (j + 1) := by rw [List.drop_eq_getElem_cons hjl, HA.out]
                    have HR : Hid (putP s es fs = if et < (termP s es (ei - 1)).1 ∨ 200 < (Kn : Int) + (fs.length : Int) - (j : Int) then ((0, false), es) else ((ei, true), es.take Kn ++ fs.drop j)) := Lib.hid (by
                      rw [H1.out, HD2.out, List.dropWhile_cons_of_neg (by rw [hp]; decide), hdr2]
                      show (if et < (termP s es (ei - 1)).1 ∨ 200 < ei - (s.i + 1) + (((fs.drop (j + 1)).length : Int) + 1) then ((0, false), es) else ((ei, true), es.take (ei - (s.i + 1)).toNat ++ ⟨ei, et, ek, ed⟩ :: fs.drop (j + 1))) = _
                      rw [show (ei - (s.i + 1)).toNat = Kn by omega, hKn, List.length_drop, show (Kn : Int) + (((fs.length - (j + 1) : Nat) : Int) + 1) = (Kn : Int) + (fs.length : Int) - (j : Int) by omega])
                    have hb6 := (HB1.out (.cells #[.int .i64 ei, .int .i64 et, .int .i64 ek, .string ed] 51)).trans (hb4.mono (HB1.out _).size)
                    have x0 := (hb4.cell (p := ⟨wr.heap.size, 0, none⟩) (by simp)).trans (World.cell?_alloc_new _ _ _ _)
                    have x1 := (hb4.cell (p := ⟨wr.heap.size, 1, none⟩) (by simp)).trans (World.cell?_alloc_new _ _ _ _)
                    simp only [List.getElem?_toArray, List.getElem?_cons_zero, List.getElem?_cons_succ] at x0 x1
                    have hxl : wr.heap.size < w4.heap.size := by have := hb4.size; simp at this; omega
                    have hS4 := HZr.out.below hb5
                    have hT2 := ref_term (s := s) (ei - 1) (hR0.out.below hb6) hB.out
                    unfold refAgg at hT2
                    have HT2 := Lib.hid hT2
                    have w1q : IntKind.i64.wrap (ei - 1) = ei - 1 := IntWalk.i64_in _ (by omega)
                    have w2q : IntKind.i64.wrap (ei - (s.i + 1)) = (Kn : Int) := by rw [IntWalk.i64_in _ (by omega)]; exact hKn
                    have w3q : IntKind.i64.wrap ((Kn : Int) + (fs.length : Int)) = (Kn : Int) + (fs.length : Int) := IntWalk.i64_in _ (by unfold lastP at hi2; omega)
                    have w4q : IntKind.i64.wrap ((Kn : Int) + (fs.length : Int) - (j : Int)) = (Kn : Int) + (fs.length : Int) - (j : Int) := IntWalk.i64_in _ (by unfold lastP at hi2; omega)
                    have HKN := Lib.hid hKn
                    have HX := Lib.hid hxl
                    clear hS c0 c1 c2 c3 c4 hT2 HT hp hfit hi2 hdr2 HIn HD2 hjd hKn hxl
                    have c0 := hS4.c0
                    have c1 := hS4.c1
                    have c2 := hS4.c2
                    have c3 := hS4.c3
                    have c4 := hS4.c4
                    clear hb4 hfl
                    go_wp2_with fail
                    refine HT2.out.mono ?_
                    rintro e w5 ⟨rfl, hb7⟩
                    have hS5 := hS4.below hb7
                    have hb8 := hb5.trans (hb7.mono hb5.size)
                    have hb9 := hb6.trans (hb7.mono hb6.size)
                    have hx5 := Nat.lt_of_lt_of_le HX.out hb7.size
                    have x0 := (hb7.cell (p := ⟨wr.heap.size, 0, none⟩) HX.out).trans x0
                    have x1 := (hb7.cell (p := ⟨wr.heap.size, 1, none⟩) HX.out).trans x1
                    generalize termP s es (ei - 1) = T at *
                    obtain ⟨T1, T2⟩ := T
                    clear c0 c1 c2 c3 c4 HT2 hS4 hb7
                    go_upto_region 16 with fail
                    refine wp_region_sw (by rfl) (by kernel_rfl) (fun k => match k with | 3 => some (fun v _ => v = .int .i64 (s.i + 1)) | _ => none) ?_ (fun vals => ?_)
                    · intro k φ hk v w1 w2 h1 h2
                      match k, hk with
                      | 3, hk => obtain rfl := Option.some.inj hk; exact h1
                    iterate 1 (refine sw_pure (by rfl) (fun K hK => ?_); go_simp; refine hK _ ?_; clear hK K)
                    refine sw_at (.int .i64 ei) rfl rfl (fun wz hz hH => ?_) (fun K hK => ?_)
                    · have h2 := (hz.cell (p := ⟨wr.heap.size, 0, none⟩) hx5).trans x0
                      go_simp
                    go_simp; refine hK _ ?_; clear hK K
                    refine sw_at (refAgg s (.slice a es.length cap)) rfl rfl (fun wz hz hH => ?_) (fun K hK => ?_)
                    · have hZ := hS5.below hz
                      have c0 := hZ.c0
                      have c1 := hZ.c1
                      have c2 := hZ.c2
                      have c3 := hZ.c3
                      have c4 := hZ.c4
                      clear hZ
                      unfold refAgg
                      go_simp
                    go_simp; refine hK _ ?_; clear hK K
                    refine sw_call _ rfl rfl (fun wz hz hH => ?_) (fun K hK => ?_)
                    · have hT := ref_first (w := wz) (s := s) (a := a) (n := es.length) (cap := cap) hB.out.1 hB.out.2.1
                      unfold refAgg at hT ⊢
                      go_simp
                      go_at_call 31
                      refine hT.mono ?_
                      rintro e w' ⟨rfl, hb⟩
                      exact ⟨_, rfl, rfl, hb⟩
                    go_simp; refine hK _ ?_; clear hK K
                    refine sw_at (.int .i64 Kn) rfl rfl (fun wz hz hH => ?_) (fun K hK => ?_)
                    · have h3 := hH _ (List.Mem.head _) rfl
                      dsimp only at h3
                      rw [h3]
                      go_simp
                    go_simp; refine hK _ ?_; clear hK K
                    iterate 1 (refine sw_pure (by rfl) (fun K hK => ?_); go_simp; refine hK _ ?_; clear hK K)
                    refine sw_done (fun wz hz hH => ?_)
                    have hS6 := hS5.below hz
                    have hb10 := hb8.trans (hz.mono hb8.size)
                    have hb11 := hb9.trans (hz.mono hb9.size)
                    have hR6 := HRr.out.below hb10
                    have hx6 := Nat.lt_of_lt_of_le hx5 hz.size
                    have y0 := (hz.cell (p := ⟨wr.heap.size, 0, none⟩) hx5).trans x0
                    have y1 := (hz.cell (p := ⟨wr.heap.size, 1, none⟩) hx5).trans x1
                    have HFz := Lib.hid (HFr.out.below hb10)
                    have HS6 := Lib.hid hS6
                    have HR6 := Lib.hid hR6
                    clear hH hS6 hR6 hS5 hb8 hb9 hz x0 x1 hx5 hb5 hb6
                    by_cases g1 : et < T1
                    · have H4 : Hid (putP s es fs = ((0, false), es)) := Lib.hid (by rw [HR.out, if_pos (.inl g1)])
                      have H1 := H4
                      have u1 : decide (et < T1) = true := decide_eq_true g1
                      have hZ := HS6.out
                      have hRz := HR6.out
                      have c0 := hZ.c0
                      have c1 := hZ.c1
                      have c2 := hZ.c2
                      have c3 := hZ.c3
                      have c4 := hZ.c4
                      have q0 := hRz.c0
                      have q1 := hRz.c1
                      have q2 := hRz.c2
                      have q3 := hRz.c3
                      have q4 := hRz.c4
                      have f0 := hRz.fr 0
                      have f1 := hRz.fr 1
                      have f2 := hRz.fr 2
                      have f3 := hRz.fr 3
                      have f4 := hRz.fr 4
                      dsimp only at q0 q1 q2 q3
                      have HB := Lib.hid fun x0 x1 x2 x3 x4 => below5 (b := w.heap.size + 1) hb11 (by omega) x0 x1 x2 x3 x4
                      clear hZ hRz hb10 hb11 hby hbel hbw HR x0 x1 y0 d0 d1 d2 d3 w1q w2q w3q w4q HFz HFr HZr HRr HB1 HB2 hx6
                      go_wp2_with fail
                      exact bodyPost_ret (v := .tuple #[refAgg s (.slice a es.length cap), .int .i64 0, .bool false]) (by simp [results, Try.results10, go_sem, refAgg, q0, q1, q2, q3, q4]) rfl (RetRPut.no (HB.out _ _ _ _ _) H1)
                    · have u1 : decide (et < T1) = false := decide_eq_false g1
                      by_cases g2 : 200 < (Kn : Int) + (fs.length : Int) - (j : Int)
                      · have H4 : Hid (putP s es fs = ((0, false), es)) := Lib.hid (by rw [HR.out, if_pos (.inr g2)])
                        have H1 := H4
                        have u2 : decide (200 < (Kn : Int) + (fs.length : Int) - (j : Int)) = true := decide_eq_true g2
                        have hZ := HS6.out
                        have hRz := HR6.out
                        have c0 := hZ.c0
                        have c1 := hZ.c1
                        have c2 := hZ.c2
                        have c3 := hZ.c3
                        have c4 := hZ.c4
                        have q0 := hRz.c0
                        have q1 := hRz.c1
                        have q2 := hRz.c2
                        have q3 := hRz.c3
                        have q4 := hRz.c4
                        have f0 := hRz.fr 0
                        have f1 := hRz.fr 1
                        have f2 := hRz.fr 2
                        have f3 := hRz.fr 3
                        have f4 := hRz.fr 4
                        dsimp only at q0 q1 q2 q3
                        have HB := Lib.hid fun x0 x1 x2 x3 x4 => below5 (b := w.heap.size + 1) hb11 (by omega) x0 x1 x2 x3 x4
                        clear hZ hRz hb10 hb11 hby hbel hbw HR x0 x1 y0 d0 d1 d2 d3 w1q w2q HFz HFr HZr HRr HB1 HB2 hx6
                        go_wp2_with fail
                        exact bodyPost_ret (v := .tuple #[refAgg s (.slice a es.length cap), .int .i64 0, .bool false]) (by simp [results, Try.results10, go_sem, refAgg, q0, q1, q2, q3, q4]) rfl (RetRPut.no (HB.out _ _ _ _ _) H1)
                      · have u2 : decide (200 < (Kn : Int) + (fs.length : Int) - (j : Int)) = false := decide_eq_false g2
                        have H4 : Hid (putP s es fs = ((ei, true), es.take Kn ++ fs.drop j)) := Lib.hid (by rw [HR.out, if_neg (fun h => h.elim g1 g2)])
                        have hcap : es.length ≤ cap ∧ cap ≤ 9223372036854775807 := by
                          obtain ⟨a', c', hv', h1, h2, _⟩ := HS6.out.r
                          simp only [Value.slice.injEq] at hv'
                          omega
                        have hcf : fs.length ≤ cf ∧ cf ≤ 9223372036854775807 := by
                          obtain ⟨a', c', hv', h1, h2, _⟩ := HFz.out
                          simp only [Value.slice.injEq] at hv'
                          omega
                        obtain ⟨hcap1, hcap2⟩ := hcap
                        obtain ⟨hcf1, hcf2⟩ := hcf
                        have hKc : Kn ≤ cap := by omega
                        have HT := Lib.hid (HS6.out.r.take Kn cap hKl hKc hcap2)
                        have HD := Lib.hid (HFz.out.drop j hj)
                        have hz5 : w.heap.size + 1 < wz.heap.size := HR6.out.lt
                        clear HR
                        go_upto_region 19 with fail
                        refine wp_region_cm 13 (by rfl) (by kernel_rfl) (fun u => Below wz.heap.size wz u) ⟨rfl, rfl, rfl, Nat.le_refl _, fun _ _ => rfl⟩
                          (fun k => match k with | 6 => some (fun v wx => EntO wx wz.heap.size v (es.take Kn)) | 10 => some (fun v wx => EntO wx wz.heap.size v (es.take Kn ++ fs.drop j)) | 12 => some (BoxZ wz.heap.size) | _ => none) ⟨[6, 10], [10], [(6, 10)], [12]⟩ (PlanOkM.of [6, 10, 12] (by kernel_rfl) (fun k φ hk => ?_) (fun k φ hk v w1 w2 h1 h2 => ?_)) (fun vals => ?_)
                        · split at hk
                          all_goals first | (cases hk; done) | simp
                        · split at hk
                          · cases hk; exact h1.below h2
                          · cases hk; exact h1.below h2
                          · cases hk; exact BoxZ.below h1 h2
                          · cases hk
                        dsimp only [List.take, List.drop]
                        have hI : ∀ u u', Below wz.heap.size wz u → Below u.heap.size u u' → Below wz.heap.size wz u' := fun u u' h1 h2 => h1.trans (h2.mono h1.size)
                        iterate 1 ((with_reducible refine sc_pureM ?_ (fun K hK => ?_)); (· rfl); go_simp; with_reducible refine hK _ ?_; clear hK K)
                        refine sc_atM (snpAgg s) rfl rfl (fun wx hx hH => ?_) (fun K hK => ?_)
                        · have hZ := HS6.out.below hx
                          have c0 := hZ.c0
                          have c1 := hZ.c1
                          have c2 := hZ.c2
                          have c3 := hZ.c3
                          clear hZ
                          unfold snpAgg
                          go_simp
                        go_simp; refine hK _ ?_; clear hK K
                        iterate 1 ((with_reducible refine sc_pureM ?_ (fun K hK => ?_)); (· rfl); go_simp; with_reducible refine hK _ ?_; clear hK K)
                        refine sc_atM (.slice a es.length cap) rfl rfl (fun wx hx hH => ?_) (fun K hK => ?_)
                        · have h2 := (HS6.out.below hx).c4
                          go_simp
                        go_simp; refine hK _ ?_; clear hK K
                        iterate 1 ((with_reducible refine sc_pureM ?_ (fun K hK => ?_)); (· rfl); go_simp; with_reducible refine hK _ ?_; clear hK K)
                        refine sc_atM (.slice a Kn cap) rfl rfl (fun wx hx hH => ?_) (fun K hK => ?_)
                        · go_simp
                        go_simp; refine hK _ ?_; clear hK K
                        refine sc_callM hI _ rfl rfl rfl (fun wx hx hH => ?_) (fun K hK => ?_)
                        · obtain ⟨v', w', hr, ho, hb⟩ := run_append_nilE (w := wx) 24 (HT.out.below hx) (by rw [List.length_take]; omega)
                          exact yields_append rfl rfl rfl hr ⟨ho.rebase hx.size, hb⟩
                        go_simp; refine hK _ ?_; clear hK K
                        iterate 2 ((with_reducible refine sc_pureM ?_ (fun K hK => ?_)); (· rfl); go_simp; with_reducible refine hK _ ?_; clear hK K)
                        refine sc_atM (.slice (if cf = j then some ⟨bf, off, none⟩ else Option.map (fun x => x.add (j * 4)) (some (⟨bf, off, none⟩ : Addr))) (fs.length - j) (cf - j)) rfl rfl (fun wx hx hH => ?_) (fun K hK => ?_)
                        · go_simp
                        go_simp; refine hK _ ?_; clear hK K
                        refine sc_growM _ rfl rfl rfl (fun wx hx hH => ?_) (fun K hK => ?_)
                        · have h6 := hH _ (List.Mem.head _) rfl
                          dsimp only at h6
                          obtain ⟨v', w', hr, ho, hg⟩ := run_append_ownE (w := wx) 24 h6 (HD.out.below hx) (by rw [List.length_take, List.length_drop]; omega) hx.size
                          refine yields_append (s := .tmp 118) (x := .tmp 121) rfl ?_ ?_ hr ?_
                          · rfl
                          · go_simp
                          refine ⟨ho, hx.grown hg hx.size (fun k hk => (World.ownsRow.lt h6 k hk).1), fun p hp hd hf => ?_, fun j' ψ hj' hψ u hu => ?_⟩
                          · rw [List.mem_singleton] at hp; subst hp; have hd : PlanM.dead ⟨[6, 10], [10], [(6, 10)], [12]⟩ 10 6 = false := hd; exact absurd hd (by decide)
                          · obtain rfl : j' = 12 := by simpa using hj'
                            obtain rfl := Option.some.inj hψ
                            exact BoxZ.keep hu h6 hg
                        go_simp; refine hK _ ?_; clear hK K
                        refine sc_atM (refAgg s (vals 10)) rfl rfl (fun wx hx hH => ?_) (fun K hK => ?_)
                        · have hq := hH _ (List.Mem.head _) rfl
                          dsimp only at hq
                          obtain ⟨av, cv, he⟩ := hq.r.slice
                          rw [he]
                          unfold refAgg snpAgg
                          go_simp
                        go_simp; refine hK _ ?_; clear hK K
                        refine sc_callM hI _ rfl rfl rfl (fun wx hx hH => ?_) (fun K hK => ?_)
                        · go_simp
                          exact ⟨BoxZ.fresh wx _ hx.size, (Below.refl _ _).alloc (Nat.le_refl _) _⟩
                        go_simp; refine hK _ ?_; clear hK K
                        refine sc_doneM (fun wx hx hH => ?_)
                        have h12 := hH _ (List.Mem.head _) rfl
                        have h10 := hH _ (List.Mem.tail _ (List.Mem.head _)) rfl
                        dsimp only at h12 h10
                        obtain ⟨bb, hbv, hbge, hbh⟩ := h12
                        obtain ⟨av, cv, he⟩ := h10.r.slice
                        have hbl : bb < wx.heap.size := (Array.getElem?_eq_some_iff.1 hbh).1
                        unfold tailQ refAgg
                        have hL10 : (es.take Kn ++ fs.drop j).length = Kn + (fs.length - j) := by rw [List.length_append, List.length_take, List.length_drop]; omega
                        rw [hL10] at he
                        rw [he] at h10
                        obtain ⟨hW1, hW2, hW3⟩ := box_store (s := s) h10 hbh
                        have hne1 : bb ≠ w.heap.size + 1 := by omega
                        have hne2 : bb ≠ wr.heap.size := by omega
                        have hR8 := (HR6.out.below hx).keeps hW3 (by simp; omega) (fun g off n c e => by cases e)
                        have z0 := (hW3.cell (p := ⟨wr.heap.size, 0, none⟩) (Nat.lt_of_lt_of_le hx6 hx.size) (by simp; omega)).trans ((hx.cell (p := ⟨wr.heap.size, 0, none⟩) hx6).trans y0)
                        have hb12 := (hb11.trans (hx.mono hb11.size)).trans (hW3.below (B := w.heap.size) (fun x hx' => by simp at hx'; omega) (by have := hx.size; omega))
                        have hcc : ∀ j, wx.cell? ⟨bb, j, none⟩ = #[.int .i64 0, .int .i64 0, .string ⟨#[]⟩, .string ⟨#[]⟩, .slice none 0 0][j]? := fun j => cell_of_row wx bb j _ _ (0, 0) hbh
                        have c0 := hcc 0
                        have c1 := hcc 1
                        have c2 := hcc 2
                        have c3 := hcc 3
                        have c4 := hcc 4
                        simp only [List.getElem?_toArray, List.getElem?_cons_zero, List.getElem?_cons_succ] at c0 c1 c2 c3 c4
                        have zf : ∀ j, wx.frozen? ⟨bb, j, none⟩ = false := fun j => by
                          unfold World.frozen?
                          rw [hbh]
                          simp
                        have zf0 := zf 0
                        have zf1 := zf 1
                        have zf2 := zf 2
                        have zf3 := zf 3
                        have zf4 := zf 4
                        have HW1 := Lib.hid hW1
                        have HW2 := Lib.hid hW2
                        have HR8 := Lib.hid hR8
                        have HE := Lib.hid he
                        clear hH hcc zf hW1 hW2 hW3 hR8 h10 he hbh hx hb10 hb11 hI hcf1 hcf2 hcap1 hcap2 d0 d1 d2 d3 y0 y1
                        rw [hbv, HE.out]
                        go_upto_region 20 with fail
                        generalize ((((wx.setCell ⟨bb, 0, none⟩ (.int .i64 s.i)).setCell ⟨bb, 1, none⟩ (.int .i64 s.t)).setCell ⟨bb, 2, none⟩ (.string s.c)).setCell ⟨bb, 3, none⟩ (.string s.d)).setCell ⟨bb, 4, none⟩ (.slice av (Kn + (fs.length - j)) cv) = wS at *
                        clear c0 c1 c2 c3 c4 zf0 zf1 zf2 zf3 zf4 hbv
                        have hZ := HW1.out
                        have hRz := HR8.out
                        have c0 := hZ.c0
                        have c1 := hZ.c1
                        have c2 := hZ.c2
                        have c3 := hZ.c3
                        have c4 := hZ.c4
                        have q0 := hRz.c0
                        have q1 := hRz.c1
                        have q2 := hRz.c2
                        have q3 := hRz.c3
                        have q4 := hRz.c4
                        have f0 := hRz.fr 0
                        have f1 := hRz.fr 1
                        have f2 := hRz.fr 2
                        have f3 := hRz.fr 3
                        have f4 := hRz.fr 4
                        dsimp only at q0 q1 q2 q3
                        have hwz : w.heap.size ≤ wz.heap.size := by omega
                        have hne3 : w.heap.size + 1 ≠ wr.heap.size := by have := HRr.out.lt; have := hbel.size; omega
                        have hne4 : wr.heap.size ≠ w.heap.size + 1 := fun e => hne3 e.symm
                        have hfin : Hid (Below w.heap.size w (((((wS.setCell ⟨w.heap.size + 1, 0, none⟩ (.int .i64 s.i)).setCell ⟨w.heap.size + 1, 1, none⟩ (.int .i64 s.t)).setCell ⟨w.heap.size + 1, 2, none⟩ (.string s.c)).setCell ⟨w.heap.size + 1, 3, none⟩ (.string s.d)).setCell ⟨w.heap.size + 1, 4, none⟩ (.slice av (Kn + (fs.length - j)) cv)).drew ∧
                            EntO (((((wS.setCell ⟨w.heap.size + 1, 0, none⟩ (.int .i64 s.i)).setCell ⟨w.heap.size + 1, 1, none⟩ (.int .i64 s.t)).setCell ⟨w.heap.size + 1, 2, none⟩ (.string s.c)).setCell ⟨w.heap.size + 1, 3, none⟩ (.string s.d)).setCell ⟨w.heap.size + 1, 4, none⟩ (.slice av (Kn + (fs.length - j)) cv)).drew w.heap.size (.slice av (Kn + (fs.length - j)) cv) (es.take Kn ++ fs.drop j) ∧
                            LogS (((((wS.setCell ⟨w.heap.size + 1, 0, none⟩ (.int .i64 s.i)).setCell ⟨w.heap.size + 1, 1, none⟩ (.int .i64 s.t)).setCell ⟨w.heap.size + 1, 2, none⟩ (.string s.c)).setCell ⟨w.heap.size + 1, 3, none⟩ (.string s.d)).setCell ⟨w.heap.size + 1, 4, none⟩ (.slice av (Kn + (fs.length - j)) cv)).drew (w.heap.size + 1) s (.slice av (Kn + (fs.length - j)) cv) (es.take Kn ++ fs.drop j)) := Lib.hid (by
                          have hL := (HR8.out.setAll (s' := s) HW2.out.r (fun g off n c e => by have := HW2.out.since (w0 := wz) (Nat.le_refl _) g off n c e; omega)).1
                          have hd := fun u : World => below_drewN (Below.refl u.heap.size u) 1
                          exact ⟨below_drewN (below5 (b := w.heap.size + 1) hb12 (by omega) _ _ _ _ _) 1, ((((((HW2.out.set (p := ⟨w.heap.size + 1, 0, none⟩) hz5 _).set (p := ⟨w.heap.size + 1, 1, none⟩) hz5 _).set (p := ⟨w.heap.size + 1, 2, none⟩) hz5 _).set (p := ⟨w.heap.size + 1, 3, none⟩) hz5 _).set (p := ⟨w.heap.size + 1, 4, none⟩) hz5 _).below (hd _)).rebase hwz, hL.below (hd _)⟩)
                        clear hZ hRz hb12 HW1 HW2 HR8
                        go_region
                        generalize (((((wS.setCell ⟨w.heap.size + 1, 0, none⟩ (.int .i64 s.i)).setCell ⟨w.heap.size + 1, 1, none⟩ (.int .i64 s.t)).setCell ⟨w.heap.size + 1, 2, none⟩ (.string s.c)).setCell ⟨w.heap.size + 1, 3, none⟩ (.string s.d)).setCell ⟨w.heap.size + 1, 4, none⟩ (.slice av (Kn + (fs.length - j)) cv)).drew = wf at *
                        obtain ⟨hfb, hfe, hfl⟩ := hfin.out
                        have k0 := hfl.c0
                        have k1 := hfl.c1
                        have k2 := hfl.c2
                        have k3 := hfl.c3
                        have k4 := hfl.c4
                        have HFB := Lib.hid hfb
                        have HFE := Lib.hid hfe
                        clear c0 c1 c2 c3 c4 q0 q1 q2 q3 q4 f0 f1 f2 f3 f4 z0 hfb hfe hfl hfin
                        rename_i Kx ax
                        refine ax _ _ ?_
                        refine wp_ret ?_
                        clear ax
                        refine bodyPost_ret (v := .tuple #[refAgg s (.slice av (Kn + (fs.length - j)) cv), .int .i64 ei, .bool true]) ?_ rfl ⟨HFB.out, _, by rw [H4.out], .inr (by rw [H4.out]; exact HFE.out)⟩
                        generalize Kn + (fs.length - j) = LL at *
                        clear HFB HFE H4 HE HT HD HR6 HS6 HFz HKN HX x0 x1
                        simp [results, Try.results10, go_sem, refAgg, k0, k1, k2, k3, k4]
              · obtain rfl : j = fs.length := by omega
                have H2 : Hid (putP s es fs = ((0, true), es)) := Lib.hid (by rw [H1.out, HDW.out, List.drop_length]; rfl)
                have H1 := H2
                have hZ := HZr.out.below hbel
                have hRz := HRr.out.below hbel
                have c0 := hZ.c0
                have c1 := hZ.c1
                have c2 := hZ.c2
                have c3 := hZ.c3
                have c4 := hZ.c4
                have q0 := hRz.c0
                have q1 := hRz.c1
                have q2 := hRz.c2
                have q3 := hRz.c3
                have q4 := hRz.c4
                have f0 := hRz.fr 0
                have f1 := hRz.fr 1
                have f2 := hRz.fr 2
                have f3 := hRz.fr 3
                have f4 := hRz.fr 4
                dsimp only at q0 q1 q2 q3
                have HB := Lib.hid fun x0 x1 x2 x3 x4 => below5 (b := w.heap.size + 1) hbw (by omega) x0 x1 x2 x3 x4
                clear hZ hRz hbw hbel HDW HI hby
                go_wp2_with fail
                exact bodyPost_ret (v := .tuple #[refAgg s (.slice a es.length cap), .int .i64 0, .bool true]) (by simp [results, Try.results10, go_sem, refAgg, q0, q1, q2, q3, q4]) rfl (RetRPut.no (HB.out _ _ _ _ _) H1)
end Go.Proofs.Ytikoafjnopkoaaa
