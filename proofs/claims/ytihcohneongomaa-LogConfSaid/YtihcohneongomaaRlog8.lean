/-
  No claim by itself: logs: ConfAt as of the last entry, Conf. No condition.
-/
import Derived.Test.YtihcohneongomaaRlog7
namespace Go.Proofs.Ytihcohneongomaa
open Go.ChangeShapes Go.WideShapes Go.ChangeAt Go.RowKit

def isConf (e : Ent) : Bool := (confD e.d).2 && (e.k == 3)
/-- The last configuration of the first so many entries; else the snapshot's; and where it stands. -/
def scanC (s : Snp) (es : List Ent) : Nat → List Int × Int
  | 0 => if (confD s.c).2 = true then ((confD s.c).1, s.i) else ([], 0)
  | k + 1 => match es[k]? with
    | some e => if isConf e = true then ((confD e.d).1, s.i + 1 + k) else scanC s es k
    | none => scanC s es k
theorem scanC_yes {s : Snp} {es : List Ent} {k : Nat} (h : k < es.length) (hc : isConf es[k] = true) : scanC s es (k + 1) = ((confD es[k].d).1, s.i + 1 + k) := by
  rw [scanC, List.getElem?_eq_getElem h]
  simp only []
  rw [if_pos hc]
theorem scanC_no {s : Snp} {es : List Ent} {k : Nat} (h : k < es.length) (hc : isConf es[k] = false) : scanC s es (k + 1) = scanC s es k := by
  rw [scanC, List.getElem?_eq_getElem h]
  simp only []
  rw [if_neg (by rw [hc]; decide)]
def smallD (s : Snp) (es : List Ent) : Prop := s.c.size ≤ 1000000000 ∧ ∀ e ∈ es, e.d.size ≤ 1000000000
def RetConfAt (w : World) (r : List Int × Int) (e : Ending) (w' : World) : Prop :=
  ∃ v, e = .returned (.tuple #[v, .int .i64 r.2]) ∧ RI w' v r.1 ∧ Below w.heap.size w w'

/-- A new entry of noughts, made since a world. -/
def FreshE (w0 : World) (v : Value) (wx : World) : Prop := ∃ bb, v = .pointer (some ⟨bb, 0, none⟩) ∧ w0.heap.size ≤ bb ∧ bb < wx.heap.size ∧ wx.cell? ⟨bb, 0, none⟩ = some (.int .i64 0) ∧ wx.cell? ⟨bb, 1, none⟩ = some (.int .i64 0) ∧ wx.cell? ⟨bb, 2, none⟩ = some (.int .i64 0) ∧ wx.cell? ⟨bb, 3, none⟩ = some (.string .empty) ∧ ∀ j, wx.frozen? ⟨bb, j, none⟩ = false
theorem FreshE.below {w0 : World} {v : Value} {w1 w2 : World} (h : FreshE w0 v w1) (hb : Below w1.heap.size w1 w2) : FreshE w0 v w2 := by
  obtain ⟨bb, g1, g2, g3, g4, g5, g6, g7, g8⟩ := h
  exact ⟨bb, g1, g2, Nat.lt_of_lt_of_le g3 hb.size, (hb.cell (p := ⟨bb, 0, none⟩) g3).trans g4, (hb.cell (p := ⟨bb, 1, none⟩) g3).trans g5, (hb.cell (p := ⟨bb, 2, none⟩) g3).trans g6, (hb.cell (p := ⟨bb, 3, none⟩) g3).trans g7, fun j => (hb.frozen (p := ⟨bb, j, none⟩) g3).trans (g8 j)⟩
theorem freshE_alloc {w0 w : World} (T : TypeId) (h : w0.heap.size ≤ w.heap.size) : FreshE w0 (.pointer (some ⟨w.heap.size, 0, none⟩)) (w.alloc (.cells #[.int .i64 0, .int .i64 0, .int .i64 0, .string .empty] T)) :=
  ⟨_, rfl, h, by simp, World.cell?_alloc_new _ _ _ _, World.cell?_alloc_new _ _ _ _, World.cell?_alloc_new _ _ _ _, World.cell?_alloc_new _ _ _ _, fun j => World.frozen?_alloc_new _ _ _ _⟩

set_option maxRecDepth 100000 in
set_option maxHeartbeats 4000000 in
theorem log_confAt {w : World} {b : Nat} {s : Snp} {lv : Value} {es : List Ent} (h : LogS w b s lv es) (hB : LogB s es) (hD : smallD s es) :
    Calls Try.prog 57 #[logPtr b, .int .i64 (lastP s es)] w fun e w' => RetConfAt w (scanC s es es.length) e w' := by
  have hs1 := hB.1
  have hs2 := hB.2.1
  have hs3 := hB.2.2
  have hLast := log_last h hB
  have HS := Lib.hid h
  have HB := Lib.hid hB
  have HD := Lib.hid hD
  have hL : 0 ≤ lastP s es ∧ lastP s es ≤ 4611686018427388200 := by unfold lastP; omega
  have HL : Hid (lastP s es = s.i + (es.length : Nat)) := Lib.hid rfl
  have hblt := h.lt
  clear h hB hD
  generalize lastP s es = L at *
  have hmm : min L L = L := by omega
  unfold logPtr at *
  go_enter Try.func57, Try.ntmps57
  go_wp2_with fail
  refine hLast.mono ?_
  rintro e w' ⟨rfl, n, rfl⟩
  have hb1 : Below w.heap.size w (w.drewN n) := below_drewN' n
  generalize w.drewN n = w1 at *
  clear hLast
  go_wp2_with fail
  go_loopw [6] (fun x wr => ∃ j : Nat, j ≤ es.length ∧ x = .int .i64 (s.i + j) ∧ Hid (scanC s es es.length = scanC s es j) ∧ Below w.heap.size w wr) (fun x _ => (intOf x - s.i).toNat)
  case atStart => exact ⟨es.length, by omega, by rw [HL.out], Lib.hid rfl, hb1⟩
  case round =>
    obtain ⟨j, hj, rfl, HC, hbel⟩ := hrel
    have hS := HS.out.below hbel
    have hF := log_first hS HB.out
    clear hb1
    unfold logPtr at hF
    cases j with
    | zero =>
      have t0 : decide (s.i + 1 ≤ s.i + ((0 : Nat) : Int)) = false := decide_eq_false (by omega)
      have t1 : ¬ s.i + 1 ≤ s.i := by omega
      go_wp2_with fail
      refine hF.mono ?_
      rintro e w' ⟨rfl, rfl⟩
      have c2 := hS.c2
      have lb := hS.lt
      have HD2 : Hid (scanC s es es.length = if (confD s.c).2 = true then ((confD s.c).1, s.i) else ([], 0)) := HC
      clear HC
      go_wp2_with fail
      refine (conf_decode s.c _ HD.out.1).mono ?_
      rintro e w3 ⟨v3, rfl, hr3, hb3⟩
      have c0 := (hb3.cell (p := ⟨b, 0, none⟩) lb).trans hS.c0
      have hbz := hbel.trans (hb3.mono hbel.size)
      clear c2 hb3 hbel hF
      cases hc : (confD s.c).2 with
      | true =>
        have H1 : Hid (scanC s es es.length = ((confD s.c).1, s.i)) := Lib.hid (by rw [HD2.out, if_pos hc])
        clear hc HD2
        generalize confD s.c = cd at *
        have HR := Lib.hid hr3
        have hrq := fun n => RI.drewN n hr3
        have HRQ := Lib.hid hrq
        have hbq := fun n => below_drewN hbz n
        have HBQ := Lib.hid hbq
        clear hr3 hrq hbq hS
        go_wp2_with fail
        go_quiet (fail)
        go_wp2_with fail
        go_ret2
        exact ⟨_, by rw [H1.out]; rfl, by rw [H1.out]; exact HRQ.out _, HBQ.out _⟩
      | false =>
        have H1 : Hid (scanC s es es.length = ([], 0)) := Lib.hid (by rw [HD2.out, if_neg (by rw [hc]; decide)])
        clear hc HD2 hr3 hS
        go_wp2_with fail
        go_ret2
        exact ⟨_, by rw [H1.out]; rfl, by rw [H1.out]; exact (RowI.nil _).ri, hbz⟩
    | succ k =>
      have hkl : k < es.length := by omega
      have t0 : decide (s.i + 1 ≤ s.i + ((k + 1 : Nat) : Int)) = true := decide_eq_true (by omega)
      have lb := hS.lt
      obtain ⟨aL, cL, hlv⟩ := hS.r.slice
      have hSr := hS.r
      have c4 := hS.c4
      rw [hlv] at hSr c4
      obtain ⟨bL, oL, rfl, hbL, d0, d1, d2, d3⟩ := hSr.cells k hkl
      have HE := Lib.hid (HD.out.2 es[k] (List.getElem_mem hkl))
      have HY := Lib.hid (scanC_yes (s := s) hkl)
      have HN := Lib.hid (scanC_no (s := s) hkl)
      have q1 : IntKind.i64.wrap (s.i + ((k : Int) + 1) - (s.i + 1)) = (k : Int) := by rw [IntWalk.i64_in _ (by omega)]; omega
      have hSH := Lib.hid hS
      clear hlv hSr hS
      generalize es[k] = e at *
      obtain ⟨ei, et, ek, ed⟩ := e
      dsimp only at d0 d1 d2 d3 HE HY HN
      go_wp2_with fail
      refine hF.mono ?_
      rintro e w' ⟨rfl, rfl⟩
      go_upto_region 6 with fail
      rename World => wr
      go_cut [7] (fun x wx => ∃ bb, x = .pointer (some ⟨bb, 0, none⟩) ∧ wx.cell? ⟨bb, 2, none⟩ = some (.int .i64 ek) ∧ wx.cell? ⟨bb, 3, none⟩ = some (.string ed) ∧ bb < wx.heap.size ∧ Below wr.heap.size wr wx)
      case first =>
        refine wp_region_tail 11 (by rfl) (by kernel_rfl) (fun k => match k with | 6 => some (fun v _ => v = .int .i64 (s.i + 1)) | 10 => some (FreshE wr) | _ => none) ?_ (fun vals => ?_)
        · intro k φ hk v w1 w2 h1 h2
          match k, hk with
          | 6, hk => obtain rfl := Option.some.inj hk; exact h1
          | 10, hk => obtain rfl := Option.some.inj hk; exact h1.below h2
        dsimp only [List.take, List.drop]
        iterate 3 ((with_reducible refine sw_pure ?_ (fun K hK => ?_)); (· rfl); go_simp; with_reducible refine hK _ ?_; clear hK K)
        refine sw_at (.slice (some ⟨bL, oL, none⟩) es.length cL) rfl rfl (fun wz hz' hH => ?_) (fun K hK => ?_)
        · have h2 := (hz'.cell (p := ⟨b, 4, none⟩) lb).trans c4
          go_simp
        go_simp; refine hK _ ?_; clear hK K
        iterate 2 ((with_reducible refine sw_pure ?_ (fun K hK => ?_)); (· rfl); go_simp; with_reducible refine hK _ ?_; clear hK K)
        refine sw_call _ rfl rfl (fun wz hz' hH => ?_) (fun K hK => ?_)
        · go_simp
          go_at_call 20
          refine (log_first (hSH.out.below hz') HB.out).mono ?_
          rintro e w' ⟨rfl, rfl⟩
          exact ⟨_, rfl, rfl, Below.refl _ _⟩
        go_simp; refine hK _ ?_; clear hK K
        refine sw_at (.int .i64 k) rfl rfl (fun wz hz' hH => ?_) (fun K hK => ?_)
        · have h3 := hH _ (List.Mem.head _) rfl
          dsimp only at h3
          rw [h3]
          go_simp
        go_simp; refine hK _ ?_; clear hK K
        iterate 1 ((with_reducible refine sw_pure ?_ (fun K hK => ?_)); (· rfl); go_simp; with_reducible refine hK _ ?_; clear hK K)
        refine sw_at (.agg #[.int .i64 ei, .int .i64 et, .int .i64 ek, .string ed]) rfl rfl (fun wz hz' hH => ?_) (fun K hK => ?_)
        · have g0 := (hz'.cell (p := ⟨bL, oL + k * 4, none⟩) hbL).trans d0
          have g1 := (hz'.cell (p := ⟨bL, oL + k * 4 + 1, none⟩) hbL).trans d1
          have g2 := (hz'.cell (p := ⟨bL, oL + k * 4 + 2, none⟩) hbL).trans d2
          have g3 := (hz'.cell (p := ⟨bL, oL + k * 4 + 3, none⟩) hbL).trans d3
          go_simp
        go_simp; refine hK _ ?_; clear hK K
        refine sw_call _ rfl rfl (fun wz hz' hH => ?_) (fun K hK => ?_)
        · go_simp
          exact ⟨freshE_alloc _ hz'.size, (Below.refl _ _).alloc (Nat.le_refl _) _⟩
        go_simp; refine hK _ ?_; clear hK K
        refine sw_done (fun wz hz' hH => ?_)
        have hq := hH _ (List.Mem.head _)
        dsimp only at hq
        obtain ⟨bb, g1, g2, g3, g4, g5, g6, g7, g8⟩ := hq
        have f0 := g8 0
        have f1 := g8 1
        have f2 := g8 2
        have f3 := g8 3
        rw [g1]
        unfold tailQ
        clear hH g1 g8
        go_wp2_with fail
        go_meet
        have hbz : Below wr.heap.size wr ((((wz.setCell ⟨bb, 0, none⟩ (.int .i64 ei)).setCell ⟨bb, 1, none⟩ (.int .i64 et)).setCell ⟨bb, 2, none⟩ (.int .i64 ek)).setCell ⟨bb, 3, none⟩ (.string ed)) :=
          (((hz'.setCell (by show _ ≤ bb; omega) _).setCell (by show _ ≤ bb; omega) _).setCell (by show _ ≤ bb; omega) _).setCell (by show _ ≤ bb; omega) _
        refine ⟨bb, rfl, ?_, ?_, by simpa [World.setCell] using g3, hbz⟩
        · rw [World.cell?_setCell_other (h := by simp)]
          exact World.cell?_setCell_same _ _ _ (show World.cell? _ _ = some (.int .i64 0) from by rw [World.cell?_setCell_other (h := by simp), World.cell?_setCell_other (h := by simp)]; exact g6)
        · exact World.cell?_setCell_same _ _ _ (show World.cell? _ _ = some (.string .empty) from by rw [World.cell?_setCell_other (h := by simp), World.cell?_setCell_other (h := by simp), World.cell?_setCell_other (h := by simp)]; exact g7)
      case rest =>
        obtain ⟨bb, rfl, g2, g3, hbb, hb2⟩ := hcut
        have hbz := hbel.trans (hb2.mono hbel.size)
        clear hF c4 d0 d1 d2 d3 q1 hb2 hbel hSH
        rename World => w2
        go_wp2_with fail
        refine (conf_decode ed _ HE.out).mono ?_
        rintro e w3 ⟨v3, rfl, hr3, hb3⟩
        have g2 := (hb3.cell (p := ⟨bb, 2, none⟩) hbb).trans g2
        have hby := hbz.trans (hb3.mono hbz.size)
        have HI : Hid (isConf ⟨ei, et, ek, ed⟩ = ((confD ed).2 && (ek == 3))) := Lib.hid rfl
        have HC2 : Hid (scanC s es es.length = scanC s es (k + 1)) := HC
        clear g3 hbb hb3 hbz HC
        cases hc : (confD ed).2 with
        | true =>
          cases hk3 : (ek == 3) with
          | true =>
            have H1 : Hid (scanC s es es.length = ((confD ed).1, s.i + 1 + k)) := Lib.hid (by rw [HC2.out, HY.out (by rw [HI.out, hc, hk3]; rfl)])
            have HR := Lib.hid hr3
            clear hc HY HN HI HC2 hr3
            generalize confD ed = cd at *
            go_wp2_with fail
            go_ret2
            refine ⟨_, ?_, by rw [H1.out]; exact HR.out, hby⟩
            rw [H1.out]
            show Ending.returned (.tuple #[_, .int .i64 (s.i + ((k : Int) + 1))]) = .returned (.tuple #[_, .int .i64 (s.i + 1 + (k : Int))])
            rw [show s.i + ((k : Int) + 1) = s.i + 1 + k by omega]
            rfl
          | false =>
            have H1 : Hid (scanC s es es.length = scanC s es k) := Lib.hid (by rw [HC2.out, HN.out (by rw [HI.out, hc, hk3]; rfl)])
            clear hc HY HN HI HC2 hr3
            go_wp2_with fail
            go_roundw
            case rel => exact ⟨k, by omega, by congr 1; omega, H1, hby⟩
            case measure => simp [intOf]; omega
        | false =>
          have H1 : Hid (scanC s es es.length = scanC s es k) := Lib.hid (by rw [HC2.out, HN.out (by rw [HI.out, hc]; rfl)])
          clear hc HY HN HI HC2 hr3
          go_wp2_with fail
          go_roundw
          case rel => exact ⟨k, by omega, by congr 1; omega, H1, hby⟩
          case measure => simp [intOf]; omega

theorem log_conf {w : World} {b : Nat} {s : Snp} {lv : Value} {es : List Ent} (h : LogS w b s lv es) (hB : LogB s es) (hD : smallD s es) :
    Calls Try.prog 26 #[logPtr b] w fun e w' => RetConfAt w (scanC s es es.length) e w' := by
  have hLast := log_last h hB
  have HS := Lib.hid h
  have HB := Lib.hid hB
  have HD := Lib.hid hD
  clear h hB hD
  have HF := Lib.hid (fun (w' : World) (hb : Below w.heap.size w w') => log_confAt (HS.out.below hb) HB.out HD.out)
  unfold logPtr at *
  go_enter Try.func26, Try.ntmps26
  go_wp2_with fail
  refine hLast.mono ?_
  rintro e w' ⟨rfl, n, rfl⟩
  have hb1 : Below w.heap.size w (w.drewN n) := below_drewN' n
  have hc := HF.out _ hb1
  generalize w.drewN n = w1 at *
  clear hLast
  go_wp2_with fail
  refine hc.mono ?_
  rintro e w2 ⟨v, rfl, hr, hb2⟩
  have hbz := hb1.trans (hb2.mono hb1.size)
  clear hc hb1 hb2
  go_wp2_with fail
  go_ret2
  exact ⟨v, rfl, hr, hbz⟩
end Go.Proofs.Ytihcohneongomaa
