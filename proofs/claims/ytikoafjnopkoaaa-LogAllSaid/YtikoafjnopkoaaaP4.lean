/-
  No claim by itself: logs: Put. | a law on drawn regions of which the last operations (a store, an append) wait for all others: all but they are walked once, in the text's order; then they. | logs: Pack, Set. No condition.
-/
import Derived.Test.YtikoafjnopkoaaaP3
import Derived.Test.YtikoafjnopkoaaaP2
import Derived.StillTail
namespace Go.Proofs.Ytikoafjnopkoaaa
open Go.ChangeShapes Go.WideShapes Go.ChangeAt Go.RowKit

/-- What Put goes past. -/
def pastP (s : Snp) (es : List Ent) (e : Ent) : Bool := decide (e.i ≤ s.i) || fitsP s es e.i e.t
def putRest (s : Snp) (es : List Ent) : List Ent → (Int × Bool) × List Ent
  | [] => ((0, true), es)
  | e :: fs => if e.t < (termP s es (e.i - 1)).1 ∨ 200 < e.i - (s.i + 1) + ((fs.length : Int) + 1) then ((0, false), es) else ((e.i, true), es.take (e.i - (s.i + 1)).toNat ++ e :: fs)
def putP (s : Snp) (es : List Ent) : List Ent → (Int × Bool) × List Ent
  | [] => ((0, true), es)
  | e :: fs => if lastP s es + 1 < e.i ∨ rowP (wrap64 (e.i - 1)) e.t (e :: fs) = false then ((0, false), es) else putRest s es ((e :: fs).dropWhile (pastP s es))

def pastL (s : Snp) (es : List Ent) : List Ent → Bool
  | [] => false
  | e :: _ => pastP s es e
/-- What the loop keeps. -/
def putInv (s : Snp) (es : List Ent) (fs : List Ent) : Prop := (∃ i t, rowP i t fs = true) ∧ ∀ e ∈ fs.head?, e.i ≤ lastP s es + 1
theorem term_in {s : Snp} {es : List Ent} {i : Int} (h : (termP s es i).2 = true) : s.i ≤ i ∧ i ≤ lastP s es := by
  unfold termP at h
  split at h
  · cases h
  · omega
theorem putInv.next {s : Snp} {es : List Ent} {e : Ent} {fs : List Ent} (hB : LogB s es) (h : putInv s es (e :: fs)) (hp : pastP s es e = true) (hlo : -9223372036854775808 ≤ e.i) : putInv s es fs := by
  obtain ⟨⟨i, t, hr⟩, hh⟩ := h
  obtain ⟨b0, b1, b2⟩ := hB
  simp only [rowP, Bool.and_eq_true] at hr
  refine ⟨⟨e.i, e.t, hr.2⟩, fun f hf => ?_⟩
  cases fs with
  | nil => cases hf
  | cons g fs =>
    simp only [List.head?_cons, Option.mem_some] at hf
    subst hf
    have h2 := hr.2
    simp only [rowP, Bool.and_eq_true, beq_iff_eq] at h2
    have hl : e.i ≤ lastP s es := by
      simp only [pastP, Bool.or_eq_true, decide_eq_true_eq] at hp
      rcases hp with hp | hp
      · unfold lastP; omega
      · simp only [fitsP, Bool.and_eq_true] at hp
        exact (term_in hp.1).2
    rw [h2.1.1, IntWalk.wrap64_in _ (by unfold lastP at hl; omega)]
    omega
theorem row_start {e : Ent} {fs : List Ent} (h : rowP (wrap64 (e.i - 1)) e.t (e :: fs) = true) : ∃ i t, rowP i t (e :: fs) = true := ⟨_, _, h⟩

def RetPut (w : World) (b : Nat) (s : Snp) (lv : Value) (es fs : List Ent) (e : Ending) (w' : World) : Prop :=
  ∃ lv', e = .returned (.tuple #[.int .i64 (putP s es fs).1.1, .bool (putP s es fs).1.2]) ∧ LogS w' b s lv' (putP s es fs).2 ∧ Keeps [b] w w' ∧ (lv' = lv ∨ Since w lv')

theorem LogS.setL {w w1 : World} {b : Nat} {s : Snp} {lv lv' : Value} {es es' : List Ent} (h : LogS w b s lv es) (hb : Below w.heap.size w w1) (hr : EntR w1 lv' es') (hn : Since w lv') :
    LogS (w1.setCell ⟨b, 4, none⟩ lv') b s lv' es' ∧ Keeps [b] w (w1.setCell ⟨b, 4, none⟩ lv') := by
  have h1 := h.below hb
  have hlt := h.lt
  have hne : ∀ g off n c, lv' = .slice (some ⟨g, off, none⟩) n c → g ≠ b := fun g off n c hv => by have := hn g off n c hv; omega
  have hk : Keeps [b] w1 (w1.setCell ⟨b, 4, none⟩ lv') := (Keeps.refl [b] w1).setCell (.inl (by simp)) _
  refine ⟨⟨?_, ?_, ?_, ?_, ?_, ?_, fun j => ?_, ?_, hne⟩, (Keeps.of_below hb).trans hk (fun x hx => .inl hx)⟩
  · have := h1.lt; simpa [World.setCell] using this
  · rw [World.cell?_setCell_other (h := by simp)]; exact h1.c0
  · rw [World.cell?_setCell_other (h := by simp)]; exact h1.c1
  · rw [World.cell?_setCell_other (h := by simp)]; exact h1.c2
  · rw [World.cell?_setCell_other (h := by simp)]; exact h1.c3
  · exact World.cell?_setCell_same _ _ _ h1.c4
  · rw [World.frozen?_setCell]; exact h1.fr j
  · obtain ⟨a, cap, hv, g1, g2, g3⟩ := hr
    refine ⟨a, cap, hv, g1, g2, fun k hk' => ?_⟩
    obtain ⟨bb, off, ha, hlt', hc⟩ := g3 k hk'
    have := hne bb off _ _ (by rw [hv, ha])
    refine ⟨bb, off, ha, by simpa [World.setCell] using hlt', fun j u hu => ?_⟩
    rw [World.cell?_setCell_other (h := by intro e; exact this (congrArg Addr.block e).symm)]
    exact hc j u hu

def entsLo (fs : List Ent) : Prop := ∀ e ∈ fs, -9223372036854775808 ≤ e.i ∧ e.i ≤ 9223372036854775807

set_option maxRecDepth 100000 in
set_option maxHeartbeats 4000000 in
theorem log_put {w : World} {b : Nat} {s : Snp} {lv v : Value} {es fs : List Ent} (h : LogS w b s lv es) (hB : LogB s es) (hf : EntR w v fs) (hfl : fs.length ≤ 1000000) (hlo : entsLo fs) :
    Calls Try.prog 9 #[logPtr b, v] w fun e w' => RetPut w b s lv es fs e w' := by
  obtain ⟨af, cf, rfl⟩ := hf.slice
  have hs1 := hB.1
  have hs2 := hB.2.1
  have hs3 := hB.2.2
  have HLO := Lib.hid hlo
  clear hlo
  cases fs with
  | nil =>
    have H1 : Hid (putP s es [] = ((0, true), es)) := Lib.hid rfl
    have HH := Lib.hid h
    unfold logPtr
    clear h hB hf
    go_enter Try.func9, Try.ntmps9
    go_wp2_with fail
    go_ret2
    exact ⟨lv, by rw [H1.out]; rfl, by rw [H1.out]; exact HH.out, Keeps.refl _ _, .inl rfl⟩
  | cons e0 fs0 =>
    have HP : Hid (putP s es (e0 :: fs0) = if lastP s es + 1 < e0.i ∨ rowP (wrap64 (e0.i - 1)) e0.t (e0 :: fs0) = false then ((0, false), es) else putRest s es ((e0 :: fs0).dropWhile (pastP s es))) := Lib.hid rfl
    have hrow := rowP (wrap64 (e0.i - 1)) e0.t (e0 :: fs0)
    obtain ⟨F, hF⟩ : ∃ F, F = e0 :: fs0 := ⟨_, rfl⟩
    have hF0 : 0 < F.length := by rw [hF]; simp
    have hcells := hf.cells 0 (by simp)
    obtain ⟨bf, off, rfl, hbf, d0, d1, -, -⟩ := hcells
    rw [List.getElem_cons_zero] at d0 d1
    rw [Nat.zero_mul, Nat.add_zero] at d0 d1
    have hh := HLO.out e0 (by simp)
    rw [← hF] at hf hfl HP HLO ⊢
    have HF := Lib.hid hF
    clear hF hrow
    have HS := Lib.hid h
    have HBB := Lib.hid hB
    have hblt := h.lt
    clear h hB
    have tne : ((F.length : Int) == 0) = false := by rw [beq_eq_false_iff_ne]; omega
    unfold logPtr
    go_enter Try.func9, Try.ntmps9
    go_upto_region 5 with fail
    have hE : EntR w (.slice (some ⟨bf, off, none⟩) F.length cf) F := hf
    have hL : 0 ≤ lastP s es ∧ lastP s es ≤ 4611686018427388200 := by unfold lastP; omega
    have q1 : IntKind.i64.wrap (lastP s es + 1) = lastP s es + 1 := IntWalk.i64_in _ (by omega)
    go_cut [36] (fun x wx => x = .bool (decide (lastP s es + 1 < e0.i) || !rowP (wrap64 (e0.i - 1)) e0.t F) ∧ Below w.heap.size w wx)
    case first =>
      by_cases p1 : lastP s es + 1 < e0.i
      · have t1 : decide (lastP s es + 1 < e0.i) = true := decide_eq_true p1
        refine wp_region_sw (by rfl) (by kernel_rfl) (fun k => match k with | 5 => some (fun v _ => v = .int .i64 (lastP s es)) | _ => none) ?_ (fun vals => ?_)
        · intro k φ hk v w1 w2 h1 h2
          match k, hk with
          | 5, hk => obtain rfl := Option.some.inj hk; exact h1
        iterate 3 (refine sw_pure (by rfl) (fun K hK => ?_); go_simp; refine hK _ ?_; clear hK K)
        refine sw_at (.int .i64 e0.i) rfl rfl (fun wz hz hH => ?_) (fun K hK => ?_)
        · have h2 := (hz.cell (p := ⟨bf, off, none⟩) hbf).trans d0
          go_simp
        go_simp; refine hK _ ?_; clear hK K
        iterate 1 (refine sw_pure (by rfl) (fun K hK => ?_); go_simp; refine hK _ ?_; clear hK K)
        refine sw_call _ rfl rfl (fun wz hz hH => ?_) (fun K hK => ?_)
        · go_simp
          go_at_call 25
          refine (log_last (HS.out.below hz) HBB.out).mono ?_
          rintro e w' ⟨rfl, n, rfl⟩
          exact ⟨_, rfl, rfl, below_drewN' n⟩
        go_simp; refine hK _ ?_; clear hK K
        refine sw_at (.int .i64 (lastP s es + 1)) rfl rfl (fun wz hz hH => ?_) (fun K hK => ?_)
        · have h3 := hH _ (List.Mem.head _) rfl
          dsimp only at h3
          rw [h3]
          go_simp
        go_simp; refine hK _ ?_; clear hK K
        iterate 1 (refine sw_pure (by rfl) (fun K hK => ?_); go_simp; refine hK _ ?_; clear hK K)
        iterate 14 ((with_reducible refine sw_pure ?_ (fun K hK => ?_)); (· rfl); go_simp; with_reducible refine hK _ ?_; clear hK K)
        refine sw_done (fun wz hz hH => ?_)
        go_wp2_with fail
        go_meet
        exact ⟨by rw [t1]; rfl, hz⟩
      · have t1 : decide (lastP s es + 1 < e0.i) = false := decide_eq_false p1
        refine wp_region_sw (by rfl) (by kernel_rfl) (fun k => match k with | 5 => some (fun v _ => v = .int .i64 (lastP s es)) | 19 => some (fun v _ => v = .bool (rowP (wrap64 (e0.i - 1)) e0.t F)) | _ => none) ?_ (fun vals => ?_)
        · intro k φ hk v w1 w2 h1 h2
          match k, hk with
          | 5, hk => obtain rfl := Option.some.inj hk; exact h1
          | 19, hk => obtain rfl := Option.some.inj hk; exact h1
        iterate 3 (refine sw_pure (by rfl) (fun K hK => ?_); go_simp; refine hK _ ?_; clear hK K)
        refine sw_at (.int .i64 e0.i) rfl rfl (fun wz hz hH => ?_) (fun K hK => ?_)
        · have h2 := (hz.cell (p := ⟨bf, off, none⟩) hbf).trans d0
          go_simp
        go_simp; refine hK _ ?_; clear hK K
        iterate 1 (refine sw_pure (by rfl) (fun K hK => ?_); go_simp; refine hK _ ?_; clear hK K)
        refine sw_call _ rfl rfl (fun wz hz hH => ?_) (fun K hK => ?_)
        · go_simp
          go_at_call 25
          refine (log_last (HS.out.below hz) HBB.out).mono ?_
          rintro e w' ⟨rfl, n, rfl⟩
          exact ⟨_, rfl, rfl, below_drewN' n⟩
        go_simp; refine hK _ ?_; clear hK K
        refine sw_at (.int .i64 (lastP s es + 1)) rfl rfl (fun wz hz hH => ?_) (fun K hK => ?_)
        · have h3 := hH _ (List.Mem.head _) rfl
          dsimp only at h3
          rw [h3]
          go_simp
        go_simp; refine hK _ ?_; clear hK K
        iterate 5 (refine sw_pure (by rfl) (fun K hK => ?_); go_simp; refine hK _ ?_; clear hK K)
        refine sw_at (.int .i64 e0.i) rfl rfl (fun wz hz hH => ?_) (fun K hK => ?_)
        · have h2 := (hz.cell (p := ⟨bf, off, none⟩) hbf).trans d0
          go_simp
        go_simp; refine hK _ ?_; clear hK K
        refine sw_at (.int .i64 (wrap64 (e0.i - 1))) rfl rfl (fun wz hz hH => ?_) (fun K hK => ?_)
        · go_simp
          simp only [IntKind.wrap_i64, wrap64]
        go_simp; refine hK _ ?_; clear hK K
        iterate 3 (refine sw_pure (by rfl) (fun K hK => ?_); go_simp; refine hK _ ?_; clear hK K)
        refine sw_at (.int .i64 e0.t) rfl rfl (fun wz hz hH => ?_) (fun K hK => ?_)
        · have h2 := (hz.cell (p := ⟨bf, off + 1, none⟩) hbf).trans d1
          go_simp
        go_simp; refine hK _ ?_; clear hK K
        iterate 1 (refine sw_pure (by rfl) (fun K hK => ?_); go_simp; refine hK _ ?_; clear hK K)
        refine sw_call _ rfl rfl (fun wz hz hH => ?_) (fun K hK => ?_)
        · go_simp
          go_at_call 28
          refine (rlog_row _ _ _ F _ (hE.below hz) (by omega)).mono ?_
          rintro e w' ⟨rfl, hb⟩
          exact ⟨_, rfl, rfl, hb⟩
        go_simp; refine hK _ ?_; clear hK K
        refine sw_at (.bool (!rowP (wrap64 (e0.i - 1)) e0.t F)) rfl rfl (fun wz hz hH => ?_) (fun K hK => ?_)
        · have h3 := hH _ (List.Mem.head _) rfl
          dsimp only at h3
          rw [h3]
          go_simp
        go_simp; refine hK _ ?_; clear hK K
        iterate 1 (refine sw_pure (by rfl) (fun K hK => ?_); go_simp; refine hK _ ?_; clear hK K)
        refine sw_done (fun wz hz hH => ?_)
        go_wp2_with fail
        go_meet
        exact ⟨by rw [t1]; rfl, hz⟩
    case rest =>
      obtain ⟨rfl, hb1⟩ := hcut
      rename World => w1
      by_cases hbad : lastP s es + 1 < e0.i ∨ rowP (wrap64 (e0.i - 1)) e0.t F = false
      · have H1 : Hid (putP s es F = ((0, false), es)) := Lib.hid (by rw [HP.out, if_pos hbad])
        have hc : (decide (lastP s es + 1 < e0.i) || !rowP (wrap64 (e0.i - 1)) e0.t F) = true := by
          rcases hbad with h | h
          · rw [decide_eq_true h]; rfl
          · rw [h]; simp
        rw [hc]
        have hS1 := Lib.hid (HS.out.below hb1)
        clear hc hbad HP q1
        go_wp2_with fail
        go_ret2
        exact ⟨lv, by rw [H1.out]; rfl, by rw [H1.out]; exact hS1.out, Keeps.of_below hb1, .inl rfl⟩
      · have H1 : Hid (putP s es F = putRest s es (F.dropWhile (pastP s es))) := Lib.hid (by rw [HP.out, if_neg hbad])
        have hc : (decide (lastP s es + 1 < e0.i) || !rowP (wrap64 (e0.i - 1)) e0.t F) = false := by
          rw [decide_eq_false (fun h => hbad (.inl h))]
          cases hr : rowP (wrap64 (e0.i - 1)) e0.t F with
          | true => rfl
          | false => exact absurd (.inr hr) hbad
        rw [hc]
        have hinv : putInv s es F := by
          refine ⟨⟨wrap64 (e0.i - 1), e0.t, ?_⟩, fun e he => ?_⟩
          · cases hr : rowP (wrap64 (e0.i - 1)) e0.t F with
            | true => rfl
            | false => exact absurd (.inr hr) hbad
          · rw [HF.out] at he
            simp only [List.head?_cons, Option.mem_some] at he
            subst he
            have : ¬ lastP s es + 1 < e0.i := fun h => hbad (.inl h)
            omega
        have HINV := Lib.hid hinv
        have hE1 := Lib.hid (hE.below hb1)
        clear hc hbad HP q1 hinv hf
        go_wp2_with fail
        go_loopw [1] (fun x wr => ∃ (G : List Ent) (a : Option Addr) (c : Nat), x = .slice a G.length c ∧ EntR wr (.slice a G.length c) G ∧ Hid (putInv s es G) ∧ Hid (F.dropWhile (pastP s es) = G.dropWhile (pastP s es)) ∧ Hid (entsLo G) ∧ G.length ≤ F.length ∧ Below w.heap.size w wr) (fun x _ => match x with | .slice _ n _ => n | _ => 0)
        case atStart => exact ⟨F, _, _, rfl, hE1.out, HINV, Lib.hid rfl, HLO, Nat.le_refl _, hb1⟩
        case round =>
          clear HLO HINV hE1 hE hb1 tne hF0 HF hh d0 d1
          obtain ⟨G, aG, cG, rfl, hG, GINV, GDW, GLO, hGl, hbel⟩ := hrel
          have hSr := HS.out.below hbel
          have hlr := hSr.lt
          have c0 := hSr.c0
          go_upto_region 7 with fail
          go_cut [63] (fun x wx => x = .bool (pastL s es G) ∧ Below wr.heap.size wr wx)
          case first =>
            cases G with
            | nil =>
              have HPL : Hid (pastL s es [] = false) := Lib.hid rfl
              rw [List.length_nil]
              refine wp_region_sw (by rfl) (by kernel_rfl) (fun _ => none) ?_ (fun vals => ?_)
              · intro k φ hk
                cases hk
              iterate 4 ((with_reducible refine sw_pure ?_ (fun K hK => ?_)); (· rfl); go_simp; with_reducible refine hK _ ?_; clear hK K)
              iterate 11 ((with_reducible refine sw_pure ?_ (fun K hK => ?_)); (· rfl); go_simp; with_reducible refine hK _ ?_; clear hK K)
              iterate 10 ((with_reducible refine sw_pure ?_ (fun K hK => ?_)); (· rfl); go_simp; (first | rw [if_neg (by decide)] | refine ⟨by decide, ?_⟩); with_reducible refine hK _ ?_; clear hK K)
              iterate 2 ((with_reducible refine sw_pure ?_ (fun K hK => ?_)); (· rfl); go_simp; with_reducible refine hK _ ?_; clear hK K)
              refine sw_done (fun wz hz hH => ?_)
              go_wp2_with fail
              go_meet
              exact ⟨by rw [HPL.out], hz⟩
            | cons e G =>
              obtain ⟨bg, og, rfl, hbg, d0, d1, -, -⟩ := hG.cells 0 (by simp)
              rw [List.getElem_cons_zero] at d0 d1
              rw [Nat.zero_mul, Nat.add_zero] at d0 d1
              have hn : 0 < (e :: G).length := by simp
              by_cases p1 : e.i ≤ s.i
              · have HPL : Hid (pastL s es (e :: G) = true) := Lib.hid (by show (decide (e.i ≤ s.i) || fitsP s es e.i e.t) = true; rw [decide_eq_true p1]; rfl)
                have t1 : decide (e.i ≤ s.i) = true := decide_eq_true p1
                generalize (e :: G).length = n at *
                refine wp_region_sw (by rfl) (by kernel_rfl) (fun _ => none) ?_ (fun vals => ?_)
                · intro k φ hk
                  cases hk
                iterate 7 ((with_reducible refine sw_pure ?_ (fun K hK => ?_)); (· rfl); go_simp; with_reducible refine hK _ ?_; clear hK K)
                refine sw_at (.int .i64 e.i) rfl rfl (fun wz hz hH => ?_) (fun K hK => ?_)
                · have h2 := (hz.cell (p := ⟨bg, og, none⟩) hbg).trans d0
                  go_simp
                go_simp; refine hK _ ?_; clear hK K
                iterate 4 ((with_reducible refine sw_pure ?_ (fun K hK => ?_)); (· rfl); go_simp; with_reducible refine hK _ ?_; clear hK K)
                refine sw_at (.int .i64 s.i) rfl rfl (fun wz hz hH => ?_) (fun K hK => ?_)
                · have h2 := (hz.cell (p := ⟨b, 0, none⟩) hlr).trans c0
                  go_simp
                go_simp; refine hK _ ?_; clear hK K
                iterate 2 ((with_reducible refine sw_pure ?_ (fun K hK => ?_)); (· rfl); go_simp; with_reducible refine hK _ ?_; clear hK K)
                iterate 12 ((with_reducible refine sw_pure ?_ (fun K hK => ?_)); (· rfl); go_simp; with_reducible refine hK _ ?_; clear hK K)
                refine sw_done (fun wz hz hH => ?_)
                go_wp2_with fail
                go_meet
                exact ⟨by rw [HPL.out], hz⟩
              · have HPL : Hid (pastL s es (e :: G) = fitsP s es e.i e.t) := Lib.hid (by show (decide (e.i ≤ s.i) || fitsP s es e.i e.t) = _; rw [decide_eq_false p1]; rfl)
                have t1 : decide (e.i ≤ s.i) = false := decide_eq_false p1
                generalize (e :: G).length = n at *
                refine wp_region_sw (by rfl) (by kernel_rfl) (fun k => match k with | 24 => some (fun v _ => v = .bool (fitsP s es e.i e.t)) | _ => none) ?_ (fun vals => ?_)
                · intro k φ hk v w1 w2 h1 h2
                  match k, hk with
                  | 24, hk => obtain rfl := Option.some.inj hk; exact h1
                iterate 7 ((with_reducible refine sw_pure ?_ (fun K hK => ?_)); (· rfl); go_simp; with_reducible refine hK _ ?_; clear hK K)
                refine sw_at (.int .i64 e.i) rfl rfl (fun wz hz hH => ?_) (fun K hK => ?_)
                · have h2 := (hz.cell (p := ⟨bg, og, none⟩) hbg).trans d0
                  go_simp
                go_simp; refine hK _ ?_; clear hK K
                iterate 4 ((with_reducible refine sw_pure ?_ (fun K hK => ?_)); (· rfl); go_simp; with_reducible refine hK _ ?_; clear hK K)
                refine sw_at (.int .i64 s.i) rfl rfl (fun wz hz hH => ?_) (fun K hK => ?_)
                · have h2 := (hz.cell (p := ⟨b, 0, none⟩) hlr).trans c0
                  go_simp
                go_simp; refine hK _ ?_; clear hK K
                iterate 2 ((with_reducible refine sw_pure ?_ (fun K hK => ?_)); (· rfl); go_simp; with_reducible refine hK _ ?_; clear hK K)
                iterate 4 ((with_reducible refine sw_pure ?_ (fun K hK => ?_)); (· rfl); go_simp; with_reducible refine hK _ ?_; clear hK K)
                refine sw_at (.int .i64 e.i) rfl rfl (fun wz hz hH => ?_) (fun K hK => ?_)
                · have h2 := (hz.cell (p := ⟨bg, og, none⟩) hbg).trans d0
                  go_simp
                go_simp; refine hK _ ?_; clear hK K
                iterate 3 ((with_reducible refine sw_pure ?_ (fun K hK => ?_)); (· rfl); go_simp; with_reducible refine hK _ ?_; clear hK K)
                refine sw_at (.int .i64 e.t) rfl rfl (fun wz hz hH => ?_) (fun K hK => ?_)
                · have h2 := (hz.cell (p := ⟨bg, og + 1, none⟩) hbg).trans d1
                  go_simp
                go_simp; refine hK _ ?_; clear hK K
                refine sw_call _ rfl rfl (fun wz hz hH => ?_) (fun K hK => ?_)
                · go_simp
                  go_at_call 16
                  refine (log_fits e.i e.t (hSr.below hz) HBB.out).mono ?_
                  rintro e' w' ⟨rfl, hb⟩
                  exact ⟨_, rfl, rfl, hb⟩
                go_simp; refine hK _ ?_; clear hK K
                refine sw_at (.bool (fitsP s es e.i e.t)) rfl rfl (fun wz hz hH => ?_) (fun K hK => ?_)
                · have h3 := hH _ (List.Mem.head _) rfl
                  dsimp only at h3
                  rw [h3]
                  go_simp
                go_simp; refine hK _ ?_; clear hK K
                iterate 1 ((with_reducible refine sw_pure ?_ (fun K hK => ?_)); (· rfl); go_simp; with_reducible refine hK _ ?_; clear hK K)
                refine sw_done (fun wz hz hH => ?_)
                go_wp2_with fail
                go_meet
                exact ⟨by rw [HPL.out], hz⟩
          case rest =>
            obtain ⟨rfl, hb2⟩ := hcut
            have hGx := hG.below hb2
            have hbel2 := hbel.trans (hb2.mono hbel.size)
            clear hG hSr hlr c0 hb2 hbel
            rename World => w2
            cases hp : pastL s es G with
            | true =>
              cases G with
              | nil => cases hp
              | cons e G =>
                have hpe : pastP s es e = true := hp
                have GI2 : Hid (putInv s es G) := Lib.hid (GINV.out.next HBB.out hpe (GLO.out e (by simp)).1)
                have GD2 : Hid (F.dropWhile (pastP s es) = G.dropWhile (pastP s es)) := Lib.hid (by rw [GDW.out, List.dropWhile_cons_of_pos hpe])
                have GL2 : Hid (entsLo G) := Lib.hid (fun x hx => GLO.out x (List.mem_cons_of_mem _ hx))
                have hd := hGx.drop 1 (by simp)
                rw [List.drop_succ_cons, List.drop_zero, List.length_cons, Nat.add_sub_cancel] at hd
                have hcp : G.length + 1 ≤ cG := by
                  obtain ⟨a', c', hv', h1, _⟩ := hGx
                  simp only [Value.slice.injEq, List.length_cons] at hv' h1
                  omega
                obtain ⟨bg, og, rfl, -⟩ := hGx.cells 0 (by simp)
                rw [List.length_cons] at hGl ⊢
                clear hp hpe GINV GDW GLO hGx
                by_cases h1 : cG = 1
                · subst h1
                  obtain rfl : G = [] := List.eq_nil_of_length_eq_zero (by omega)
                  rw [if_pos rfl] at hd
                  have HD := Lib.hid hd
                  clear hd hcp
                  rw [List.length_nil]
                  go_wp2_with fail
                  go_roundw
                  case rel => exact ⟨[], _, _, rfl, HD.out, GI2, GD2, GL2, by simp, hbel2⟩
                  case measure => simp
                · rw [if_neg h1] at hd
                  have HD := Lib.hid (show EntR w2 (.slice (some ⟨bg, og + 4, none⟩) G.length (cG - 1)) G from by simpa [Addr.add_lit] using hd)
                  clear hd
                  go_wp2_with fail
                  go_roundw
                  case rel => exact ⟨G, _, _, rfl, HD.out, GI2, GD2, GL2, by omega, hbel2⟩
                  case measure => simp
            | false =>
              have HDW : Hid (F.dropWhile (pastP s es) = G) := Lib.hid (by
                rw [GDW.out]
                cases G with
                | nil => rfl
                | cons e G => exact List.dropWhile_cons_of_neg (by rw [show pastP s es e = false from hp]; decide))
              have H2 : Hid (putP s es F = putRest s es G) := Lib.hid (by rw [H1.out, HDW.out])
              clear GDW HDW H1
              have hSw := HS.out.below hbel2
              cases G with
              | nil =>
                have H3 : Hid (putP s es F = ((0, true), es)) := H2
                have HSW := Lib.hid hSw
                clear hp H2 GINV GLO hGx hSw
                rw [List.length_nil]
                go_wp2_with fail
                go_ret2
                exact ⟨lv, by rw [H3.out]; rfl, by rw [H3.out]; exact HSW.out, Keeps.of_below hbel2, .inl rfl⟩
              | cons e G =>
                have hp' : (decide (e.i ≤ s.i) || fitsP s es e.i e.t) = false := hp
                rw [Bool.or_eq_false_iff, decide_eq_false_iff_not] at hp'
                have hi2 := GINV.out.2 e rfl
                obtain ⟨bg, og, rfl, hbg, d0, d1, -, -⟩ := hGx.cells 0 (by simp)
                rw [List.getElem_cons_zero] at d0 d1
                rw [Nat.zero_mul, Nat.add_zero] at d0 d1
                obtain ⟨K, hK⟩ := Int.eq_ofNat_of_zero_le (show 0 ≤ e.i - (s.i + 1) by omega)
                have hKl : K ≤ es.length := by unfold lastP at hi2; omega
                have HR : Hid (putP s es F = if e.t < (termP s es (e.i - 1)).1 ∨ 200 < e.i - (s.i + 1) + ((G.length : Int) + 1) then ((0, false), es) else ((e.i, true), es.take K ++ e :: G)) := Lib.hid (by
                  rw [H2.out]
                  show (if _ then _ else _) = _
                  rw [show (e.i - (s.i + 1)).toNat = K by omega])
                rw [List.length_cons] at hGl
                have hGlen : G.length + 1 ≤ 1000000 := by omega
                have hlen : (e :: G).length = G.length + 1 := rfl
                obtain ⟨aL, cL, hlv⟩ := hSw.r.slice
                have hSr := hSw.r
                have hcL : es.length ≤ cL := by
                  obtain ⟨a', c', hv', h1, _⟩ := hSr
                  rw [hlv] at hv'
                  simp only [Value.slice.injEq] at hv'
                  omega
                have hcLm : cL ≤ 9223372036854775807 := by
                  obtain ⟨a', c', hv', _, h1, _⟩ := hSr
                  rw [hlv] at hv'
                  simp only [Value.slice.injEq] at hv'
                  omega
                have HSW := Lib.hid hSw
                have HGX := Lib.hid hGx
                have HLV := Lib.hid hlv
                have hii : s.i < e.i := by omega
                have hF1 := log_first hSw HBB.out
                have hT1 := log_term (e.i - 1) hSw HBB.out
                rw [hlen]
                clear hp hp' H2 GINV GLO hGx hlen hSw hSr hlv hbf
                unfold logPtr at hF1 hT1
                generalize termP s es (e.i - 1) = T at *
                obtain ⟨T1, T2⟩ := T
                have HH1 := Lib.hid hK
                clear hK
                have tn : ((G.length + 1 : Nat) : Int) = (G.length : Int) + 1 := by omega
                have tz : ((G.length : Int) + 1 == 0) = false := by rw [beq_eq_false_iff_ne]; omega
                go_wp2_with fail
                refine hF1.mono ?_
                rintro e' w' ⟨rfl, rfl⟩
                rename World => w2
                have hK := HH1.out
                go_wp2_with fail
                refine hT1.mono ?_
                rintro e' w3 ⟨rfl, hb3⟩
                have d0 := (hb3.cell (p := ⟨bg, og, none⟩) hbg).trans d0
                have d1 := (hb3.cell (p := ⟨bg, og + 1, none⟩) hbg).trans d1
                have hS3 := HSW.out.below hb3
                have hG3 := HGX.out.below hb3
                have hbz := hbel2.trans (hb3.mono hbel2.size)
                clear hF1 hT1 hb3 hbel2 HSW HGX hbg
                by_cases c1 : e.t < T1
                · have H4 : Hid (putP s es F = ((0, false), es)) := Lib.hid (by rw [HR.out, if_pos (.inl c1)])
                  have t1 : decide (e.t < T1) = true := decide_eq_true c1
                  have HS3 := Lib.hid hS3
                  clear HR hS3 hG3
                  go_wp2_with fail
                  go_ret2
                  exact ⟨lv, by rw [H4.out]; rfl, by rw [H4.out]; exact HS3.out, Keeps.of_below hbz, .inl rfl⟩
                · have t1 : decide (e.t < T1) = false := decide_eq_false c1
                  by_cases c2 : 200 < (K : Int) + ((G.length : Int) + 1)
                  · have H4 : Hid (putP s es F = ((0, false), es)) := Lib.hid (by rw [HR.out, hK, if_pos (.inr c2)])
                    have t2 : decide (200 < (K : Int) + ((G.length : Int) + 1)) = true := decide_eq_true c2
                    have HS3 := Lib.hid hS3
                    clear HR hS3 hG3
                    go_wp2_with fail
                    go_ret2
                    exact ⟨lv, by rw [H4.out]; rfl, by rw [H4.out]; exact HS3.out, Keeps.of_below hbz, .inl rfl⟩
                  · have H4 : Hid (putP s es F = ((e.i, true), es.take K ++ e :: G)) := Lib.hid (by rw [HR.out, hK, if_neg (fun h => h.elim c1 c2)])
                    have t2 : decide (200 < (K : Int) + ((G.length : Int) + 1)) = false := decide_eq_false c2
                    have hlv := HLV.out
                    have c4 := hS3.c4
                    have hSr := hS3.r
                    rw [hlv] at c4 hSr
                    have hold := hSr.take K K hKl (Nat.le_refl _) (by omega)
                    have hfr4 := hS3.fr 4
                    have HS3 := Lib.hid hS3
                    have hblt3 := hS3.lt
                    have hKc : K ≤ cL := by omega
                    clear HR hS3 hSr hlv
                    go_wp2_with (at_builtin; refine wpList_append_full 24 _ Try.underlying24 info_ent rfl rfl _ _ rfl hold hG3 (by simp) rfl rfl (by rw [List.length_take]; simp; omega) ?_)
                    intro v4 w4 ho4 hb4
                    obtain ⟨a4, cc4, he4⟩ := ho4.r.slice
                    rw [show (es.take K ++ e :: G).length = K + (G.length + 1) by rw [List.length_append, List.length_take, List.length_cons]; omega] at he4
                    subst he4
                    have HN := Lib.hid (HS3.out.setL hb4 ho4.r (ho4.since (Nat.le_refl _)))
                    have HSN := Lib.hid (ho4.since (w0 := w) hbz.size)
                    have c4 := (hb4.cell (p := ⟨b, 4, none⟩) hblt3).trans c4
                    have hfr4 := (hb4.frozen (p := ⟨b, 4, none⟩) hblt3).trans hfr4
                    have HK := Lib.hid hK
                    clear ho4 hb4 hold hG3 hK
                    go_wp2_with fail
                    go_ret2
                    exact ⟨_, by rw [H4.out]; rfl, by rw [H4.out]; exact HN.out.1, (Keeps.of_below hbz).trans HN.out.2 (fun x hx => .inl hx), .inr HSN.out⟩
end Go.Proofs.Ytikoafjnopkoaaa
namespace Go.Proofs.Ytikoafjnopkoaaa
open Go.RowKit

/-- What the head of a region must reach: the tail's walk. -/
def tailQ (P : Program) (ops : Array Oper) (Q : Exit → Act → World → Prop) (tail : List Oper) : Exit → Act → World → Prop
  | .normal, a, w => wpList P ops Q tail a w
  | e, a, w => Q e a w

/-- The form: the head is one, its guards lead into it, and the tail waits for all of it. -/
def tailOk (l : List Oper) (n : Nat) : Bool :=
  regionOk (l.take n).toArray && decide (n < l.length) &&
  ((l.take n).all fun o => match o.guard with | some (g, _) => decide (g < n) | none => true) &&
  Region.sinkB .any l.toArray n && Region.chainB .any l.toArray n &&
  Region.seqB .any l.toArray (l.length - n) n (Array.replicate n true ++ Array.replicate (l.length - n) false)

section
variable {P : Program} {l : List Oper} {n : Nat} {Q : Exit → Act → World → Prop}

theorem head_at {i : Nat} (hi : i < n) : (l.take n).toArray[i]? = l.toArray[i]? := by simp [hi]

theorem upon_tail {o : Oper} {ops : Array Oper} {tail : List Oper} {K : Act → World → Prop} {a : Act} {r : Result Next} (h : o.upon P a K (tailQ P ops Q tail) r) : o.upon P a K Q r := by
  cases r with
  | halt x w =>
    cases x <;> exact h
  | ok nx w =>
    cases nx with
    | enter f args =>
      refine Calls.mono (show Calls P f args w _ from h) fun e w'' he => ?_
      cases e <;> exact he
    | _ => exact h

theorem wpOp_head {K : Act → World → Prop} {i : Nat} {a : Act} {w : World} {tail : List Oper} (hi : i < n) (hg : ((l.take n).all fun o => match o.guard with | some (g, _) => decide (g < n) | none => true) = true)
    (h : wpOp P (l.take n).toArray (tailQ P l.toArray Q tail) i K a w) : wpOp P l.toArray Q i K a w := by
  unfold wpOp at h ⊢
  rw [head_at hi] at h
  cases ho : l.toArray[i]? with
  | none => rw [ho] at h; exact h
  | some o =>
    rw [ho] at h
    simp only [] at h ⊢
    have hw : Region.wanted o (yielded (l.take n).toArray a.tmps) = Region.wanted o (yielded l.toArray a.tmps) := by
      unfold Region.wanted
      cases hgd : o.guard with
      | none => rfl
      | some g =>
        obtain ⟨j, b⟩ := g
        have hmem : o ∈ l.take n := by
          have : l[i]? = some o := by simpa using ho
          exact List.mem_of_getElem? (i := i) (by rw [List.getElem?_take, if_pos hi]; exact this)
        have := List.all_eq_true.1 hg o hmem
        rw [hgd] at this
        have hj : j < n := by simpa using this
        simp only []
        unfold yielded
        rw [head_at hj]
    rw [hw] at h
    split
    · rename_i hwt
      rw [if_pos hwt] at h
      rcases h with h | ⟨h1, h2⟩
      · exact .inl (upon_tail h)
      · exact .inr ⟨h1, h2⟩
    · rename_i hwt
      rwa [if_neg hwt] at h

theorem app_get {L : Array Bool} {g j : Nat} (hL : L.size = n) (hj : j < n) (b : Bool) : (L ++ Array.replicate g false).getD j b = L.getD j b := by
  have h1 : j < L.size := by omega
  simp [Array.getD_eq_getD_getElem?, Array.getElem?_append_left h1]
theorem app_get' {L : Array Bool} {g j : Nat} (hL : L.size = n) (hj : n ≤ j) (hj2 : j < n + g) (b : Bool) : (L ++ Array.replicate g false).getD j b = false := by
  simp only [Array.getD_eq_getD_getElem?]
  rw [Array.getElem?_append_right (by omega), Array.getElem?_replicate, if_pos (by omega)]
  rfl

theorem any_tail (hok : tailOk l n = true) : ∀ (f : Nat) (L : Array Bool) (a : Act) (w : World), L.size = n →
    (∀ j oj, j < n → l.toArray[j]? = some oj → L.getD j false = true → ∀ e ∈ oj.after, Region.binds .any e = true → L.getD e.on false = true) → L.toList.count false = f →
    wpAny P .any (l.take n).toArray (tailQ P l.toArray Q (l.drop n)) f L a w → wpAny P .any l.toArray Q (f + (l.length - n)) (L ++ Array.replicate (l.length - n) false) a w := by
  unfold tailOk at hok
  simp only [Bool.and_eq_true, decide_eq_true_eq] at hok
  obtain ⟨⟨⟨⟨⟨hreg, hn⟩, hg⟩, hs⟩, hc⟩, hseq⟩ := hok
  have F := rform_of_ok hreg
  have hsz : (l.take n).toArray.size = n := by simp; omega
  have back : ∀ j oj, j < n → l.toArray[j]? = some oj → ∀ e ∈ oj.after, Region.binds .any e = true → e.on < j := fun j oj hj ho e he hb =>
    F.back j oj (by rw [head_at hj]; exact ho) e he hb
  intro f
  induction f with
  | zero =>
    intro L a w hL hcl hcnt h
    have hall : L = Array.replicate n true := by
      apply Array.ext'
      rw [Array.toList_replicate]
      apply List.ext_getElem
      · simpa using hL
      · intro i h1 h2
        rw [List.getElem_replicate]
        have := List.count_eq_zero.1 hcnt
        cases hb : L.toList[i] with
        | true => rfl
        | false => exact absurd (hb ▸ List.getElem_mem h1) this
    subst hall
    have hq : wpList P l.toArray Q (l.drop n) a w := h.2
    have hd : (l.drop n).length = l.length - n := List.length_drop
    have := wpAny_of_seq (P := P) (md := .any) (ops := l.toArray) (Q' := Q) (l.drop n) n _ a w (fun j => by simp) (by rw [hd]; exact hseq) hq
    rw [hd] at this
    rw [Nat.zero_add]
    exact this
  | succ f ih =>
    intro L a w hL hcl hcnt h
    have hdeps : ∀ j, j < n → (j ∈ Region.ready .any l.toArray (L ++ Array.replicate (l.length - n) false) ↔ j ∈ Region.ready .any (l.take n).toArray L) := fun j hj => by
      rw [mem_ready, mem_ready, app_get hL hj, head_at hj]
      constructor
      · rintro ⟨h1, o, h2, h3⟩
        exact ⟨h1, o, h2, fun e he hb => by rw [← app_get (g := l.length - n) hL (by have := back j o hj h2 e he hb; omega)]; exact h3 e he hb⟩
      · rintro ⟨h1, o, h2, h3⟩
        exact ⟨h1, o, h2, fun e he hb => by rw [app_get hL (by have := back j o hj h2 e he hb; omega)]; exact h3 e he hb⟩
    have inv : HeadInv .any l.toArray n (L ++ Array.replicate (l.length - n) false) := by
      refine ⟨by simp; omega, fun j oj ho hl e he hb => ?_, fun t h1 h2 => app_get' hL h1 (by simp at h2; omega) _⟩
      have hjs := (Array.getElem?_eq_some_iff.1 ho).1
      rcases Nat.lt_or_ge j n with hj | hj
      · rw [app_get hL hj] at hl
        rw [app_get hL (by have := back j oj hj ho e he hb; omega)]
        exact hcl j oj hj ho hl e he hb
      · rw [app_get' hL hj (by simp at hjs; omega)] at hl
        cases hl
    have some_un : ∃ i, i < n ∧ L.getD i false = false := by
      have : false ∈ L.toList := by
        rw [← List.count_pos_iff]
        omega
      obtain ⟨i, hi, he⟩ := List.mem_iff_getElem.1 this
      have hi' : i < L.size := by simpa using hi
      exact ⟨i, by omega, by simpa [hi'] using he⟩
    obtain ⟨i0, hi0, hu0⟩ := some_un
    have least : ∃ j, j ∈ Region.ready .any (l.take n).toArray L := by
      have key : ∀ m i, i < m → i < n → L.getD i false = false → ∃ j, j ∈ Region.ready .any (l.take n).toArray L := by
        intro m
        induction m with
        | zero => intro i hi; omega
        | succ m ihm =>
          intro i hi hin hun
          by_cases hex : ∃ k, k < i ∧ L.getD k false = false
          · obtain ⟨k, hk, hku⟩ := hex
            exact ihm k (by omega) (by omega) hku
          · refine ⟨i, mem_ready.2 ⟨getD_in (by omega) hun, ?_⟩⟩
            have his : i < (l.take n).toArray.size := by omega
            refine ⟨_, Array.getElem?_eq_getElem his, fun e he hb => ?_⟩
            have := F.back i _ (Array.getElem?_eq_getElem his) e he hb
            cases hl : L.getD e.on false with
            | true => rfl
            | false => exact absurd ⟨e.on, this, hl⟩ hex
      exact key (i0 + 1) i0 (by omega) hi0 hu0
    obtain ⟨j0, hj0⟩ := least
    have hj0n : j0 < n := by
      obtain ⟨_, o, ho, _⟩ := mem_ready.1 hj0
      have := (Array.getElem?_eq_some_iff.1 ho).1
      omega
    rw [Nat.add_right_comm]
    refine ⟨fun hr => ?_, fun i hi => ?_⟩
    · have := (hdeps j0 hj0n).2 hj0
      rw [hr] at this
      cases this
    · have hin : i < n := by
        rcases Nat.lt_or_ge i n with h1 | h1
        · exact h1
        · exact absurd hi (tail_waits hs hc (by simpa using hn) inv (n - i0) i0 rfl hi0 (by rw [app_get hL hi0]; exact getD_in (by omega) hu0) i h1)
      have hih := (hdeps i hin).1 hi
      obtain ⟨hiu, oi, hoi, hdi⟩ := mem_ready.1 hih
      refine wpOp_mono (fun a' w' h' => ?_) (wpOp_head hin hg (h.2 i hih))
      have hset : (L ++ Array.replicate (l.length - n) false).setIfInBounds i true = L.setIfInBounds i true ++ Array.replicate (l.length - n) false := by
        rw [Array.setIfInBounds_append_left (by omega)]
      rw [hset]
      refine ih (L.setIfInBounds i true) a' w' (by simpa using hL) (fun j oj hj ho hl e he hb => ?_) ?_ h'
      · by_cases hij : i = j
        · subst hij
          rw [head_at hin] at hoi
          obtain rfl : oj = oi := Option.some.inj (ho.symm.trans hoi)
          exact getD_set_true (hdi e he hb)
        · rw [getD_set_ne false hij] at hl
          exact getD_set_true (hcl j oj hj ho hl e he hb)
      · have hiL : i < L.toList.length := by simp; omega
        have hib : L.toList[i] = false := by
          have : i < L.size := by omega
          simpa [this] using hiu
        rw [Array.toList_setIfInBounds, List.count_set hiL, hcnt, hib]
        simp

theorem any_of_tail {w : World} {a0 : Act} (n : Nat) (hok : tailOk l n = true) (Φ : Nat → Option (Value → World → Prop))
    (hst : ∀ k φ, Φ k = some φ → ∀ v w w', φ v w → Below w.heap.size w w' → φ v w') (h : ∀ vals, wpSW (l.take n).toArray Φ w (tailQ P l.toArray Q (l.drop n)) vals P (l.take n) 0 a0 []) : wpAny P .any l.toArray Q l.toArray.size (Array.replicate l.toArray.size false) a0 { w with drawn := w.drawn + 1 } := by
  have hok' := hok
  unfold tailOk at hok'
  simp only [Bool.and_eq_true, decide_eq_true_eq] at hok'
  obtain ⟨⟨⟨⟨⟨hreg, hn⟩, _⟩, _⟩, _⟩, _⟩ := hok'
  have F := rform_of_ok hreg
  have hsz : (l.take n).toArray.size = n := by simp; omega
  have H : ∀ vals, ∃ cs, SeqV P (l.take n).toArray Φ w (tailQ P l.toArray Q (l.drop n)) a0 vals cs := fun vals => seqV_of_walk (by simpa using h vals)
  obtain ⟨cs, S⟩ := H (fun _ => undef)
  have hrep : ∀ j, (Array.replicate n false).getD j false = false := fun j => by
    simp only [Array.getD_eq_getD_getElem?, Array.getElem?_replicate]
    split <;> rfl
  have hA := any_of_seq F hst H (l.take n).toArray.size (List.range (l.take n).toArray.size) (Array.replicate n false) a0 { w with drawn := w.drawn + 1 } (fun _ => undef) cs (by simp) List.nodup_range (by simp; omega) (fun j hj => by rw [hrep j]; simpa using hj) (fun j k hj => by rw [hrep j] at hj; cases hj) ⟨rfl, rfl, rfl, Nat.le_refl _, fun _ _ => rfl⟩ S
    (fun j φ hj => by rw [hrep j] at hj; cases hj) ⟨rfl, rfl, fun j d hj => (by rw [hrep j] at hj; cases hj), fun s _ => rfl⟩
  rw [hsz] at hA
  have := any_tail hok n (Array.replicate n false) a0 _ (by simp) (fun j oj _ _ hl => by rw [hrep j] at hl; cases hl) (by simp) hA
  have e1 : n + (l.length - n) = l.toArray.size := by simp; omega
  have e2 : Array.replicate n false ++ Array.replicate (l.length - n) false = Array.replicate l.toArray.size false := by
    apply Array.ext'
    simp
    omega
  rw [e1, e2] at this
  exact this

/-- THE LAW. -/
theorem wp_region_tail {id : Nat} {w : World} {a0 : Act} (n : Nat) (hm : P.follows .mixedOrders = true) (hok : tailOk l n = true) (Φ : Nat → Option (Value → World → Prop))
    (hst : ∀ k φ, Φ k = some φ → ∀ v w w', φ v w → Below w.heap.size w w' → φ v w') (h : ∀ vals, wpSW (l.take n).toArray Φ w (tailQ P l.toArray Q (l.drop n)) vals P (l.take n) 0 a0 []) : (Code.region id l.toArray true).wp P Q a0 w :=
  wp_region_any hm (any_of_tail n hok Φ hst h)
end
end Go.Proofs.Ytikoafjnopkoaaa
namespace Go.Proofs.Ytikoafjnopkoaaa
open Go.ChangeShapes Go.WideShapes Go.ChangeAt Go.RowKit

def packOk (s : Snp) (es : List Ent) (n : Snp) : Bool := !decide (n.i < s.i + 1) && fitsP s es n.i n.t
theorem term_in' {s : Snp} {es : List Ent} {i : Int} (h : (termP s es i).2 = true) : s.i ≤ i ∧ i ≤ lastP s es := by
  unfold termP at h
  split at h
  · cases h
  · omega
def RetPack (w : World) (b : Nat) (s : Snp) (lv : Value) (es : List Ent) (n : Snp) (e : Ending) (w' : World) : Prop :=
  ∃ lv', e = .returned (.bool (packOk s es n)) ∧ Keeps [b] w w' ∧ (lv' = lv ∨ Since w lv') ∧
    if packOk s es n = true then LogS w' b n lv' (es.drop (n.i - s.i).toNat) else LogS w' b s lv' es

theorem LogS.setS {w w1 : World} {b : Nat} {s n : Snp} {lv : Value} {es : List Ent} (h : LogS w b s lv es) (hw : w1 = (((w.setCell ⟨b, 0, none⟩ (.int .i64 n.i)).setCell ⟨b, 1, none⟩ (.int .i64 n.t)).setCell ⟨b, 2, none⟩ (.string n.c)).setCell ⟨b, 3, none⟩ (.string n.d)) :
    LogS w1 b n lv es ∧ Keeps [b] w w1 := by
  subst hw
  have hk : Keeps [b] w ((((w.setCell ⟨b, 0, none⟩ (.int .i64 n.i)).setCell ⟨b, 1, none⟩ (.int .i64 n.t)).setCell ⟨b, 2, none⟩ (.string n.c)).setCell ⟨b, 3, none⟩ (.string n.d)) :=
    ((((Keeps.refl [b] w).setCell (.inl (by simp)) _).setCell (.inl (by simp)) _).setCell (.inl (by simp)) _).setCell (.inl (by simp)) _
  refine ⟨⟨Nat.lt_of_lt_of_le h.lt hk.size, ?_, ?_, ?_, ?_, ?_, fun j => ?_, ?_, h.ne⟩, hk⟩
  · rw [World.cell?_setCell_other (h := by simp), World.cell?_setCell_other (h := by simp), World.cell?_setCell_other (h := by simp)]
    exact World.cell?_setCell_same _ _ _ h.c0
  · rw [World.cell?_setCell_other (h := by simp), World.cell?_setCell_other (h := by simp)]
    exact World.cell?_setCell_same _ _ _ (show World.cell? _ _ = some (.int .i64 s.t) from by rw [World.cell?_setCell_other (h := by simp)]; exact h.c1)
  · rw [World.cell?_setCell_other (h := by simp)]
    exact World.cell?_setCell_same _ _ _ (show World.cell? _ _ = some (.string s.c) from by rw [World.cell?_setCell_other (h := by simp), World.cell?_setCell_other (h := by simp)]; exact h.c2)
  · exact World.cell?_setCell_same _ _ _ (show World.cell? _ _ = some (.string s.d) from by rw [World.cell?_setCell_other (h := by simp), World.cell?_setCell_other (h := by simp), World.cell?_setCell_other (h := by simp)]; exact h.c3)
  · rw [World.cell?_setCell_other (h := by simp), World.cell?_setCell_other (h := by simp), World.cell?_setCell_other (h := by simp), World.cell?_setCell_other (h := by simp)]
    exact h.c4
  · rw [World.frozen?_setCell, World.frozen?_setCell, World.frozen?_setCell, World.frozen?_setCell]; exact h.fr j
  · obtain ⟨a, cap, hv, g1, g2, g3⟩ := h.r
    refine ⟨a, cap, hv, g1, g2, fun k hk' => ?_⟩
    obtain ⟨bb, off, ha, hlt', hc⟩ := g3 k hk'
    have hne := h.ne bb off _ _ (by rw [hv, ha])
    refine ⟨bb, off, ha, Nat.lt_of_lt_of_le hlt' hk.size, fun j u hu => ?_⟩
    rw [hk.cell (p := ⟨bb, off + k * 4 + j, none⟩) hlt' (by simpa using hne)]
    exact hc j u hu

set_option maxRecDepth 100000 in
set_option maxHeartbeats 4000000 in
theorem log_pack {w : World} {b : Nat} {s n : Snp} {lv : Value} {es : List Ent} (h : LogS w b s lv es) (hB : LogB s es) :
    Calls Try.prog 12 #[logPtr b, snpAgg n] w fun e w' => RetPack w b s lv es n e w' := by
  have hs1 := hB.1
  have hs2 := hB.2.1
  have hs3 := hB.2.2
  have HP : Hid (packOk s es n = (!decide (n.i < s.i + 1) && fitsP s es n.i n.t)) := Lib.hid rfl
  have hb1 := (Below.refl w.heap.size w).alloc (Nat.le_refl _) (.cells #[.int .i64 n.i, .int .i64 n.t, .string n.c, .string n.d] 23)
  have hS1 := h.below hb1
  have hd : ∀ j, (w.alloc (.cells #[.int .i64 n.i, .int .i64 n.t, .string n.c, .string n.d] 23)).cell? ⟨w.heap.size, j, none⟩ = #[.int .i64 n.i, .int .i64 n.t, .string n.c, .string n.d][j]? := fun j => World.cell?_alloc_new _ _ _ _
  have d0 := hd 0
  have d1 := hd 1
  have d2 := hd 2
  have d3 := hd 3
  simp only [List.getElem?_toArray, List.getElem?_cons_zero, List.getElem?_cons_succ] at d0 d1 d2 d3
  have hz : w.heap.size < (w.alloc (.cells #[.int .i64 n.i, .int .i64 n.t, .string n.c, .string n.d] 23)).heap.size := by simp
  have hne : b ≠ w.heap.size := by have := h.lt; omega
  have HBB := Lib.hid hB
  clear hd h hB
  unfold snpAgg logPtr
  go_enter Try.func12, Try.ntmps12
  go_upto_region 1 with fail
  generalize w.alloc (.cells #[.int .i64 n.i, .int .i64 n.t, .string n.c, .string n.d] 23) = w1 at *
  have N0 : w.heap.size = w.heap.size := rfl
  go_cut [22] (fun x wx => x = .bool (!packOk s es n) ∧ Below w1.heap.size w1 wx)
  case first =>
    have l1 := hS1.lt
    by_cases p1 : n.i < s.i + 1
    · have HQ : Hid (packOk s es n = false) := Lib.hid (by rw [HP.out, decide_eq_true p1]; rfl)
      have t1 : decide (n.i < s.i + 1) = true := decide_eq_true p1
      refine wp_region_sw (by rfl) (by kernel_rfl) (fun k => match k with | 6 => some (fun v _ => v = .int .i64 (s.i + 1)) | _ => none) ?_ (fun vals => ?_)
      · intro k φ hk v w1 w2 h1 h2
        match k, hk with
        | 6, hk => obtain rfl := Option.some.inj hk; exact h1
      iterate 4 ((with_reducible refine sw_pure ?_ (fun K hK => ?_)); (· rfl); go_simp; with_reducible refine hK _ ?_; clear hK K)
      refine sw_at (.int .i64 n.i) rfl rfl (fun wz hz' hH => ?_) (fun K hK => ?_)
      · have h2 := (hz'.cell (p := ⟨w.heap.size, 0, none⟩) hz).trans d0
        go_simp
      go_simp; refine hK _ ?_; clear hK K
      iterate 1 ((with_reducible refine sw_pure ?_ (fun K hK => ?_)); (· rfl); go_simp; with_reducible refine hK _ ?_; clear hK K)
      refine sw_call _ rfl rfl (fun wz hz' hH => ?_) (fun K hK => ?_)
      · go_simp
        go_at_call 24
        refine (log_first (hS1.below hz') HBB.out).mono ?_
        rintro e w' ⟨rfl, rfl⟩
        exact ⟨_, rfl, rfl, Below.refl _ _⟩
      go_simp; refine hK _ ?_; clear hK K
      refine sw_at (.bool true) rfl rfl (fun wz hz' hH => ?_) (fun K hK => ?_)
      · have h3 := hH _ (List.Mem.head _) rfl
        dsimp only at h3
        rw [h3]
        go_simp
      go_simp; refine hK _ ?_; clear hK K
      iterate 10 ((with_reducible refine sw_pure ?_ (fun K hK => ?_)); (· rfl); go_simp; with_reducible refine hK _ ?_; clear hK K)
      refine sw_done (fun wz hz hH => ?_)
      go_wp2_with fail
      go_meet
      exact ⟨by rw [HQ.out]; rfl, hz⟩
    · have HQ : Hid (packOk s es n = fitsP s es n.i n.t) := Lib.hid (by rw [HP.out, decide_eq_false p1]; rfl)
      have t1 : decide (n.i < s.i + 1) = false := decide_eq_false p1
      refine wp_region_sw (by rfl) (by kernel_rfl) (fun k => match k with | 6 => some (fun v _ => v = .int .i64 (s.i + 1)) | 15 => some (fun v _ => v = .bool (fitsP s es n.i n.t)) | _ => none) ?_ (fun vals => ?_)
      · intro k φ hk v w1 w2 h1 h2
        match k, hk with
        | 6, hk => obtain rfl := Option.some.inj hk; exact h1
        | 15, hk => obtain rfl := Option.some.inj hk; exact h1
      iterate 4 ((with_reducible refine sw_pure ?_ (fun K hK => ?_)); (· rfl); go_simp; with_reducible refine hK _ ?_; clear hK K)
      refine sw_at (.int .i64 n.i) rfl rfl (fun wz hz' hH => ?_) (fun K hK => ?_)
      · have h2 := (hz'.cell (p := ⟨w.heap.size, 0, none⟩) hz).trans d0
        go_simp
      go_simp; refine hK _ ?_; clear hK K
      iterate 1 ((with_reducible refine sw_pure ?_ (fun K hK => ?_)); (· rfl); go_simp; with_reducible refine hK _ ?_; clear hK K)
      refine sw_call _ rfl rfl (fun wz hz' hH => ?_) (fun K hK => ?_)
      · go_simp
        go_at_call 24
        refine (log_first (hS1.below hz') HBB.out).mono ?_
        rintro e w' ⟨rfl, rfl⟩
        exact ⟨_, rfl, rfl, Below.refl _ _⟩
      go_simp; refine hK _ ?_; clear hK K
      refine sw_at (.bool false) rfl rfl (fun wz hz' hH => ?_) (fun K hK => ?_)
      · have h3 := hH _ (List.Mem.head _) rfl
        dsimp only at h3
        rw [h3]
        go_simp
      go_simp; refine hK _ ?_; clear hK K
      iterate 4 ((with_reducible refine sw_pure ?_ (fun K hK => ?_)); (· rfl); go_simp; with_reducible refine hK _ ?_; clear hK K)
      refine sw_at (.int .i64 n.i) rfl rfl (fun wz hz' hH => ?_) (fun K hK => ?_)
      · have h2 := (hz'.cell (p := ⟨w.heap.size, 0, none⟩) hz).trans d0
        go_simp
      go_simp; refine hK _ ?_; clear hK K
      iterate 1 ((with_reducible refine sw_pure ?_ (fun K hK => ?_)); (· rfl); go_simp; with_reducible refine hK _ ?_; clear hK K)
      refine sw_at (.int .i64 n.t) rfl rfl (fun wz hz' hH => ?_) (fun K hK => ?_)
      · have h2 := (hz'.cell (p := ⟨w.heap.size, 1, none⟩) hz).trans d1
        go_simp
      go_simp; refine hK _ ?_; clear hK K
      refine sw_call _ rfl rfl (fun wz hz' hH => ?_) (fun K hK => ?_)
      · go_simp
        go_at_call 16
        refine (log_fits n.i n.t (hS1.below hz') HBB.out).mono ?_
        rintro e w' ⟨rfl, hb⟩
        exact ⟨_, rfl, rfl, hb⟩
      go_simp; refine hK _ ?_; clear hK K
      refine sw_at (.bool (!fitsP s es n.i n.t)) rfl rfl (fun wz hz' hH => ?_) (fun K hK => ?_)
      · have h3 := hH _ (List.Mem.head _) rfl
        dsimp only at h3
        rw [h3]
        go_simp
      go_simp; refine hK _ ?_; clear hK K
      iterate 1 ((with_reducible refine sw_pure ?_ (fun K hK => ?_)); (· rfl); go_simp; with_reducible refine hK _ ?_; clear hK K)
      refine sw_done (fun wz hz hH => ?_)
      go_wp2_with fail
      go_meet
      exact ⟨by rw [HQ.out], hz⟩
  case rest =>
    obtain ⟨rfl, hb2⟩ := hcut
    have hS2 := hS1.below hb2
    have hbz := hb1.trans (hb2.mono hb1.size)
    have d0 := (hb2.cell (p := ⟨w.heap.size, 0, none⟩) hz).trans d0
    have d1 := (hb2.cell (p := ⟨w.heap.size, 1, none⟩) hz).trans d1
    have d2 := (hb2.cell (p := ⟨w.heap.size, 2, none⟩) hz).trans d2
    have d3 := (hb2.cell (p := ⟨w.heap.size, 3, none⟩) hz).trans d3
    have hz := Nat.lt_of_lt_of_le hz hb2.size
    clear hb1 hb2 hS1
    rename World => w2
    cases hp : packOk s es n with
    | false =>
      have H1 := Lib.hid hp
      have HS := Lib.hid hS2
      clear hp hS2 HP
      go_wp2_with fail
      go_ret
      exact ⟨lv, by rw [H1.out]; rfl, Keeps.of_below hbz, .inl rfl, by rw [H1.out, if_neg (by decide)]; exact HS.out⟩
    | true =>
      have H1 := Lib.hid hp
      rw [HP.out, Bool.and_eq_true] at hp
      obtain ⟨hp1, hp2⟩ := hp
      have hp1 : ¬ n.i < s.i + 1 := by simpa using hp1
      have hp2 := (term_in' (by unfold fitsP at hp2; rw [Bool.and_eq_true] at hp2; exact hp2.1)).2
      obtain ⟨K, hK⟩ := Int.eq_ofNat_of_zero_le (show 0 ≤ n.i - s.i by omega)
      have hKl : K ≤ es.length := by unfold lastP at hp2; omega
      obtain ⟨aL, cL, hlv⟩ := hS2.r.slice
      have hSr := hS2.r
      have c4 := hS2.c4
      have c0 := hS2.c0
      rw [hlv] at hSr c4
      have hcL : es.length ≤ cL ∧ cL ≤ 9223372036854775807 := by
        obtain ⟨a', c', hv', h1, h2, _⟩ := hSr
        simp only [Value.slice.injEq] at hv'
        omega
      have hd := hSr.drop K hKl
      have HS := Lib.hid hS2
      have lb := hS2.lt
      have HD := Lib.hid hd
      have HKN := Lib.hid hK
      have q1 : IntKind.i64.wrap (n.i - s.i) = (K : Int) := by rw [IntWalk.i64_in _ (by omega)]; exact hK
      clear hlv hSr hd hS2 HP hK hp1
      go_upto_region 3 with fail
      rename World => w2
      go_cut [] (fun wx => ∃ lv', LogS wx b s lv' (es.drop K) ∧ Keeps [b] w2 wx ∧ Since w2 lv')
      case first =>
        refine wp_region_tail 17 (by rfl) (by kernel_rfl) (fun k => match k with | 14 => some (fun v wx => EntO wx w2.heap.size v (es.drop K)) | _ => none) ?_ (fun vals => ?_)
        · intro k φ hk v w1 w2 h1 h2
          match k, hk with
          | 14, hk => obtain rfl := Option.some.inj hk; exact h1.below h2
        dsimp only [List.take, List.drop]
        iterate 4 ((with_reducible refine sw_pure ?_ (fun K hK => ?_)); (· rfl); go_simp; with_reducible refine hK _ ?_; clear hK K)
        refine sw_at (.slice aL es.length cL) rfl rfl (fun wz hz' hH => ?_) (fun K hK => ?_)
        · have h2 := (hz'.cell (p := ⟨b, 4, none⟩) lb).trans c4
          go_simp
        go_simp; refine hK _ ?_; clear hK K
        iterate 1 ((with_reducible refine sw_pure ?_ (fun K hK => ?_)); (· rfl); go_simp; with_reducible refine hK _ ?_; clear hK K)
        refine sw_at (.int .i64 n.i) rfl rfl (fun wz hz' hH => ?_) (fun K hK => ?_)
        · have h2 := (hz'.cell (p := ⟨w.heap.size, 0, none⟩) hz).trans d0
          go_simp
        go_simp; refine hK _ ?_; clear hK K
        iterate 4 ((with_reducible refine sw_pure ?_ (fun K hK => ?_)); (· rfl); go_simp; with_reducible refine hK _ ?_; clear hK K)
        refine sw_at (.int .i64 s.i) rfl rfl (fun wz hz' hH => ?_) (fun K hK => ?_)
        · have h2 := (hz'.cell (p := ⟨b, 0, none⟩) lb).trans c0
          go_simp
        go_simp; refine hK _ ?_; clear hK K
        refine sw_at (.int .i64 K) rfl rfl (fun wz hz' hH => ?_) (fun K hK => ?_)
        · go_simp
        go_simp; refine hK _ ?_; clear hK K
        refine sw_at (.slice (if cL = K then aL else Option.map (fun x => x.add (K * 4)) aL) (es.length - K) (cL - K)) rfl rfl (fun wz hz' hH => ?_) (fun K hK => ?_)
        · go_simp
        go_simp; refine hK _ ?_; clear hK K
        refine sw_call _ rfl rfl (fun wz hz' hH => ?_) (fun K hK => ?_)
        · go_simp
          go_at_call 29
          refine (sl_cloneE _ (es.drop K) _ (HD.out.below hz') (by rw [List.length_drop]; omega)).mono ?_
          rintro e w' ⟨v, rfl, hv, hb⟩
          exact ⟨v, rfl, hv.rebase hz'.size, hb⟩
        go_simp; refine hK _ ?_; clear hK K
        iterate 2 ((with_reducible refine sw_pure ?_ (fun K hK => ?_)); (· rfl); go_simp; with_reducible refine hK _ ?_; clear hK K)
        refine sw_done (fun wz hz' hH => ?_)
        have hq := hH _ (List.Mem.head _)
        dsimp only at hq
        obtain ⟨av, cv, he⟩ := hq.r.slice
        rw [List.length_drop] at he
        have HN := Lib.hid (HS.out.setL hz' hq.r (hq.since (Nat.le_refl _)))
        have HSN := Lib.hid (hq.since (w0 := w2) (Nat.le_refl _))
        have c4z := (hz'.cell (p := ⟨b, 4, none⟩) lb).trans c4
        have f4z := (hz'.frozen (p := ⟨b, 4, none⟩) lb).trans (HS.out.fr 4)
        rw [he] at HN HSN ⊢
        unfold tailQ
        clear hq he hH
        go_wp2_with fail
        all_goals (go_meet; exact ⟨_, HN.out.1, HN.out.2, HSN.out⟩)
      case rest =>
        obtain ⟨lv', hS3, hk3, hs3'⟩ := hcut
        have hw3 : w.heap.size < wc.heap.size := Nat.lt_of_lt_of_le hz hk3.size
        have e0 := (hk3.cell (p := ⟨w.heap.size, 0, none⟩) hz (by simpa using fun h => hne h.symm)).trans d0
        have e1 := (hk3.cell (p := ⟨w.heap.size, 1, none⟩) hz (by simpa using fun h => hne h.symm)).trans d1
        have e2 := (hk3.cell (p := ⟨w.heap.size, 2, none⟩) hz (by simpa using fun h => hne h.symm)).trans d2
        have e3 := (hk3.cell (p := ⟨w.heap.size, 3, none⟩) hz (by simpa using fun h => hne h.symm)).trans d3
        have f0 := hS3.fr 0
        have f1 := hS3.fr 1
        have f2 := hS3.fr 2
        have f3 := hS3.fr 3
        have g0 := hS3.c0
        have g1 := hS3.c1
        have g2 := hS3.c2
        have g3 := hS3.c3
        have lb3 := hS3.lt
        have HS3 := Lib.hid hS3
        have HK3 := Lib.hid hk3
        clear hS3 hk3 d0 d1 d2 d3 c0 c4 q1
        have HSI : Hid (Since w lv') := Lib.hid (fun g off n c hv => Nat.le_trans hbz.size (hs3' g off n c hv))
        clear hs3'
        go_wp2_with fail
        go_ret
        obtain ⟨j1, j2⟩ := HS3.out.setS (n := n) rfl
        refine ⟨lv', by rw [H1.out]; rfl, (Keeps.of_below hbz).trans (HK3.out.trans j2 (fun x hx => .inl hx)) (fun x hx => .inl hx), .inr HSI.out, ?_⟩
        rw [H1.out, if_pos rfl, HKN.out]
        exact j1

theorem log_set {w : World} {b : Nat} {s n : Snp} {lv : Value} {es : List Ent} (h : LogS w b s lv es) :
    Calls Try.prog 13 #[logPtr b, snpAgg n] w fun e w' => e = .returned (.tuple #[]) ∧ LogS w' b n (.slice none 0 0) [] ∧ Keeps [b] w w' := by
  have hb1 := (Below.refl w.heap.size w).alloc (Nat.le_refl _) (.cells #[.int .i64 n.i, .int .i64 n.t, .string n.c, .string n.d] 23)
  have hS1 := h.below hb1
  have g0 := hS1.c0
  have g1 := hS1.c1
  have g2 := hS1.c2
  have g3 := hS1.c3
  have g4 := hS1.c4
  have f0 := hS1.fr 0
  have f1 := hS1.fr 1
  have f2 := hS1.fr 2
  have f3 := hS1.fr 3
  have f4 := hS1.fr 4
  have lb := hS1.lt
  have hne : b ≠ w.heap.size := by have := h.lt; omega
  have HS := Lib.hid hS1
  have HB := Lib.hid hb1
  clear h hS1 hb1
  unfold snpAgg logPtr
  go_enter Try.func13, Try.ntmps13
  go_wp2_with fail
  go_end0
  obtain ⟨j1, j2⟩ := HS.out.setS (n := n) rfl
  obtain ⟨k1, k2⟩ := j1.setL (Below.refl _ _) (EntR.nil _ none 0 (by omega)) (fun g off n c h => by cases h)
  exact ⟨rfl, k1, ((Keeps.of_below HB.out).trans j2 (fun x hx => .inl hx)).trans k2 (fun x hx => .inl hx)⟩
end Go.Proofs.Ytikoafjnopkoaaa
