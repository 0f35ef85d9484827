/-
  No claim by itself: logs: Put. No condition.
-/
import Derived.Test.YtihcohneongomaaRlog4
namespace Go.Proofs.Ytihcohneongomaa
open Go.ChangeShapes Go.WideShapes Go.ChangeAt Go.RowKit

/-- What Put goes past. -/
def pastP (s : Snp) (es : List Ent) (e : Ent) : Bool := decide (e.i ≤ s.i) || fitsP s es e.i e.t
def putRest (s : Snp) (es : List Ent) : List Ent → (Int × Bool) × List Ent
  | [] => ((0, true), es)
  | e :: fs => if e.t < (termP s es (e.i - 1)).1 ∨ 200 < e.i - (s.i + 1) + ((fs.length : Int) + 1) then ((0, false), es) else ((e.i, true), es.take (e.i - (s.i + 1)).toNat ++ e :: fs)
def putP (s : Snp) (es : List Ent) : List Ent → (Int × Bool) × List Ent
  | [] => ((0, true), es)
  | e :: fs => if lastP s es + 1 < e.i ∨ rowP (wrap64 (e.i - 1)) e.t (e :: fs) = false then ((0, false), es) else putRest s es ((e :: fs).dropWhile (pastP s es))

def pastL (s : Snp) (es : List Ent) : List Ent → Bool
  | [] => false
  | e :: _ => pastP s es e
/-- What the loop keeps. -/
def putInv (s : Snp) (es : List Ent) (fs : List Ent) : Prop := (∃ i t, rowP i t fs = true) ∧ ∀ e ∈ fs.head?, e.i ≤ lastP s es + 1
theorem term_in {s : Snp} {es : List Ent} {i : Int} (h : (termP s es i).2 = true) : s.i ≤ i ∧ i ≤ lastP s es := by
  unfold termP at h
  split at h
  · cases h
  · omega
theorem putInv.next {s : Snp} {es : List Ent} {e : Ent} {fs : List Ent} (hB : LogB s es) (h : putInv s es (e :: fs)) (hp : pastP s es e = true) (hlo : -9223372036854775808 ≤ e.i) : putInv s es fs := by
  obtain ⟨⟨i, t, hr⟩, hh⟩ := h
  obtain ⟨b0, b1, b2⟩ := hB
  simp only [rowP, Bool.and_eq_true] at hr
  refine ⟨⟨e.i, e.t, hr.2⟩, fun f hf => ?_⟩
  cases fs with
  | nil => cases hf
  | cons g fs =>
    simp only [List.head?_cons, Option.mem_some] at hf
    subst hf
    have h2 := hr.2
    simp only [rowP, Bool.and_eq_true, beq_iff_eq] at h2
    have hl : e.i ≤ lastP s es := by
      simp only [pastP, Bool.or_eq_true, decide_eq_true_eq] at hp
      rcases hp with hp | hp
      · unfold lastP; omega
      · simp only [fitsP, Bool.and_eq_true] at hp
        exact (term_in hp.1).2
    rw [h2.1.1, IntWalk.wrap64_in _ (by unfold lastP at hl; omega)]
    omega
theorem row_start {e : Ent} {fs : List Ent} (h : rowP (wrap64 (e.i - 1)) e.t (e :: fs) = true) : ∃ i t, rowP i t (e :: fs) = true := ⟨_, _, h⟩

def RetPut (w : World) (b : Nat) (s : Snp) (lv : Value) (es fs : List Ent) (e : Ending) (w' : World) : Prop :=
  ∃ lv', e = .returned (.tuple #[.int .i64 (putP s es fs).1.1, .bool (putP s es fs).1.2]) ∧ LogS w' b s lv' (putP s es fs).2 ∧ Keeps [b] w w' ∧ (lv' = lv ∨ Since w lv')

theorem LogS.setL {w w1 : World} {b : Nat} {s : Snp} {lv lv' : Value} {es es' : List Ent} (h : LogS w b s lv es) (hb : Below w.heap.size w w1) (hr : EntR w1 lv' es') (hn : Since w lv') :
    LogS (w1.setCell ⟨b, 4, none⟩ lv') b s lv' es' ∧ Keeps [b] w (w1.setCell ⟨b, 4, none⟩ lv') := by
  have h1 := h.below hb
  have hlt := h.lt
  have hne : ∀ g off n c, lv' = .slice (some ⟨g, off, none⟩) n c → g ≠ b := fun g off n c hv => by have := hn g off n c hv; omega
  have hk : Keeps [b] w1 (w1.setCell ⟨b, 4, none⟩ lv') := (Keeps.refl [b] w1).setCell (.inl (by simp)) _
  refine ⟨⟨?_, ?_, ?_, ?_, ?_, ?_, fun j => ?_, ?_, hne⟩, (Keeps.of_below hb).trans hk (fun x hx => .inl hx)⟩
  · have := h1.lt; simpa [World.setCell] using this
  · rw [World.cell?_setCell_other (h := by simp)]; exact h1.c0
  · rw [World.cell?_setCell_other (h := by simp)]; exact h1.c1
  · rw [World.cell?_setCell_other (h := by simp)]; exact h1.c2
  · rw [World.cell?_setCell_other (h := by simp)]; exact h1.c3
  · exact World.cell?_setCell_same _ _ _ h1.c4
  · rw [World.frozen?_setCell]; exact h1.fr j
  · obtain ⟨a, cap, hv, g1, g2, g3⟩ := hr
    refine ⟨a, cap, hv, g1, g2, fun k hk' => ?_⟩
    obtain ⟨bb, off, ha, hlt', hc⟩ := g3 k hk'
    have := hne bb off _ _ (by rw [hv, ha])
    refine ⟨bb, off, ha, by simpa [World.setCell] using hlt', fun j u hu => ?_⟩
    rw [World.cell?_setCell_other (h := by intro e; exact this (congrArg Addr.block e).symm)]
    exact hc j u hu

def entsLo (fs : List Ent) : Prop := ∀ e ∈ fs, -9223372036854775808 ≤ e.i ∧ e.i ≤ 9223372036854775807

set_option maxRecDepth 100000 in
set_option maxHeartbeats 4000000 in
theorem log_put {w : World} {b : Nat} {s : Snp} {lv v : Value} {es fs : List Ent} (h : LogS w b s lv es) (hB : LogB s es) (hf : EntR w v fs) (hfl : fs.length ≤ 1000000) (hlo : entsLo fs) :
    Calls Try.prog 21 #[logPtr b, v] w fun e w' => RetPut w b s lv es fs e w' := by
  obtain ⟨af, cf, rfl⟩ := hf.slice
  have hs1 := hB.1
  have hs2 := hB.2.1
  have hs3 := hB.2.2
  have HLO := Lib.hid hlo
  clear hlo
  cases fs with
  | nil =>
    have H1 : Hid (putP s es [] = ((0, true), es)) := Lib.hid rfl
    have HH := Lib.hid h
    unfold logPtr
    clear h hB hf
    go_enter Try.func21, Try.ntmps21
    go_wp2_with fail
    go_ret2
    exact ⟨lv, by rw [H1.out]; rfl, by rw [H1.out]; exact HH.out, Keeps.refl _ _, .inl rfl⟩
  | cons e0 fs0 =>
    have HP : Hid (putP s es (e0 :: fs0) = if lastP s es + 1 < e0.i ∨ rowP (wrap64 (e0.i - 1)) e0.t (e0 :: fs0) = false then ((0, false), es) else putRest s es ((e0 :: fs0).dropWhile (pastP s es))) := Lib.hid rfl
    have hrow := rowP (wrap64 (e0.i - 1)) e0.t (e0 :: fs0)
    obtain ⟨F, hF⟩ : ∃ F, F = e0 :: fs0 := ⟨_, rfl⟩
    have hF0 : 0 < F.length := by rw [hF]; simp
    have hcells := hf.cells 0 (by simp)
    obtain ⟨bf, off, rfl, hbf, d0, d1, -, -⟩ := hcells
    rw [List.getElem_cons_zero] at d0 d1
    rw [Nat.zero_mul, Nat.add_zero] at d0 d1
    have hh := HLO.out e0 (by simp)
    rw [← hF] at hf hfl HP HLO ⊢
    have HF := Lib.hid hF
    clear hF hrow
    have HS := Lib.hid h
    have HBB := Lib.hid hB
    have hblt := h.lt
    clear h hB
    have tne : ((F.length : Int) == 0) = false := by rw [beq_eq_false_iff_ne]; omega
    unfold logPtr
    go_enter Try.func21, Try.ntmps21
    go_upto_region 5 with fail
    have hE : EntR w (.slice (some ⟨bf, off, none⟩) F.length cf) F := hf
    have hL : 0 ≤ lastP s es ∧ lastP s es ≤ 4611686018427388200 := by unfold lastP; omega
    have q1 : IntKind.i64.wrap (lastP s es + 1) = lastP s es + 1 := IntWalk.i64_in _ (by omega)
    go_cut [36] (fun x wx => x = .bool (decide (lastP s es + 1 < e0.i) || !rowP (wrap64 (e0.i - 1)) e0.t F) ∧ Below w.heap.size w wx)
    case first =>
      by_cases p1 : lastP s es + 1 < e0.i
      · have t1 : decide (lastP s es + 1 < e0.i) = true := decide_eq_true p1
        refine wp_region_sw (by rfl) (by kernel_rfl) (fun k => match k with | 5 => some (fun v _ => v = .int .i64 (lastP s es)) | _ => none) ?_ (fun vals => ?_)
        · intro k φ hk v w1 w2 h1 h2
          match k, hk with
          | 5, hk => obtain rfl := Option.some.inj hk; exact h1
        iterate 3 (refine sw_pure (by rfl) (fun K hK => ?_); go_simp; refine hK _ ?_; clear hK K)
        refine sw_at (.int .i64 e0.i) rfl rfl (fun wz hz hH => ?_) (fun K hK => ?_)
        · have h2 := (hz.cell (p := ⟨bf, off, none⟩) hbf).trans d0
          go_simp
        go_simp; refine hK _ ?_; clear hK K
        iterate 1 (refine sw_pure (by rfl) (fun K hK => ?_); go_simp; refine hK _ ?_; clear hK K)
        refine sw_call _ rfl rfl (fun wz hz hH => ?_) (fun K hK => ?_)
        · go_simp
          go_at_call 22
          refine (log_last (HS.out.below hz) HBB.out).mono ?_
          rintro e w' ⟨rfl, n, rfl⟩
          exact ⟨_, rfl, rfl, below_drewN' n⟩
        go_simp; refine hK _ ?_; clear hK K
        refine sw_at (.int .i64 (lastP s es + 1)) rfl rfl (fun wz hz hH => ?_) (fun K hK => ?_)
        · have h3 := hH _ (List.Mem.head _) rfl
          dsimp only at h3
          rw [h3]
          go_simp
        go_simp; refine hK _ ?_; clear hK K
        iterate 1 (refine sw_pure (by rfl) (fun K hK => ?_); go_simp; refine hK _ ?_; clear hK K)
        iterate 14 ((with_reducible refine sw_pure ?_ (fun K hK => ?_)); (· rfl); go_simp; with_reducible refine hK _ ?_; clear hK K)
        refine sw_done (fun wz hz hH => ?_)
        go_wp2_with fail
        go_meet
        exact ⟨by rw [t1]; rfl, hz⟩
      · have t1 : decide (lastP s es + 1 < e0.i) = false := decide_eq_false p1
        refine wp_region_sw (by rfl) (by kernel_rfl) (fun k => match k with | 5 => some (fun v _ => v = .int .i64 (lastP s es)) | 19 => some (fun v _ => v = .bool (rowP (wrap64 (e0.i - 1)) e0.t F)) | _ => none) ?_ (fun vals => ?_)
        · intro k φ hk v w1 w2 h1 h2
          match k, hk with
          | 5, hk => obtain rfl := Option.some.inj hk; exact h1
          | 19, hk => obtain rfl := Option.some.inj hk; exact h1
        iterate 3 (refine sw_pure (by rfl) (fun K hK => ?_); go_simp; refine hK _ ?_; clear hK K)
        refine sw_at (.int .i64 e0.i) rfl rfl (fun wz hz hH => ?_) (fun K hK => ?_)
        · have h2 := (hz.cell (p := ⟨bf, off, none⟩) hbf).trans d0
          go_simp
        go_simp; refine hK _ ?_; clear hK K
        iterate 1 (refine sw_pure (by rfl) (fun K hK => ?_); go_simp; refine hK _ ?_; clear hK K)
        refine sw_call _ rfl rfl (fun wz hz hH => ?_) (fun K hK => ?_)
        · go_simp
          go_at_call 22
          refine (log_last (HS.out.below hz) HBB.out).mono ?_
          rintro e w' ⟨rfl, n, rfl⟩
          exact ⟨_, rfl, rfl, below_drewN' n⟩
        go_simp; refine hK _ ?_; clear hK K
        refine sw_at (.int .i64 (lastP s es + 1)) rfl rfl (fun wz hz hH => ?_) (fun K hK => ?_)
        · have h3 := hH _ (List.Mem.head _) rfl
          dsimp only at h3
          rw [h3]
          go_simp
        go_simp; refine hK _ ?_; clear hK K
        iterate 5 (refine sw_pure (by rfl) (fun K hK => ?_); go_simp; refine hK _ ?_; clear hK K)
        refine sw_at (.int .i64 e0.i) rfl rfl (fun wz hz hH => ?_) (fun K hK => ?_)
        · have h2 := (hz.cell (p := ⟨bf, off, none⟩) hbf).trans d0
          go_simp
        go_simp; refine hK _ ?_; clear hK K
        refine sw_at (.int .i64 (wrap64 (e0.i - 1))) rfl rfl (fun wz hz hH => ?_) (fun K hK => ?_)
        · go_simp
          simp only [IntKind.wrap_i64, wrap64]
        go_simp; refine hK _ ?_; clear hK K
        iterate 3 (refine sw_pure (by rfl) (fun K hK => ?_); go_simp; refine hK _ ?_; clear hK K)
        refine sw_at (.int .i64 e0.t) rfl rfl (fun wz hz hH => ?_) (fun K hK => ?_)
        · have h2 := (hz.cell (p := ⟨bf, off + 1, none⟩) hbf).trans d1
          go_simp
        go_simp; refine hK _ ?_; clear hK K
        iterate 1 (refine sw_pure (by rfl) (fun K hK => ?_); go_simp; refine hK _ ?_; clear hK K)
        refine sw_call _ rfl rfl (fun wz hz hH => ?_) (fun K hK => ?_)
        · go_simp
          go_at_call 54
          refine (rlog_row _ _ _ F _ (hE.below hz) (by omega)).mono ?_
          rintro e w' ⟨rfl, hb⟩
          exact ⟨_, rfl, rfl, hb⟩
        go_simp; refine hK _ ?_; clear hK K
        refine sw_at (.bool (!rowP (wrap64 (e0.i - 1)) e0.t F)) rfl rfl (fun wz hz hH => ?_) (fun K hK => ?_)
        · have h3 := hH _ (List.Mem.head _) rfl
          dsimp only at h3
          rw [h3]
          go_simp
        go_simp; refine hK _ ?_; clear hK K
        iterate 1 (refine sw_pure (by rfl) (fun K hK => ?_); go_simp; refine hK _ ?_; clear hK K)
        refine sw_done (fun wz hz hH => ?_)
        go_wp2_with fail
        go_meet
        exact ⟨by rw [t1]; rfl, hz⟩
    case rest =>
      obtain ⟨rfl, hb1⟩ := hcut
      rename World => w1
      by_cases hbad : lastP s es + 1 < e0.i ∨ rowP (wrap64 (e0.i - 1)) e0.t F = false
      · have H1 : Hid (putP s es F = ((0, false), es)) := Lib.hid (by rw [HP.out, if_pos hbad])
        have hc : (decide (lastP s es + 1 < e0.i) || !rowP (wrap64 (e0.i - 1)) e0.t F) = true := by
          rcases hbad with h | h
          · rw [decide_eq_true h]; rfl
          · rw [h]; simp
        rw [hc]
        have hS1 := Lib.hid (HS.out.below hb1)
        clear hc hbad HP q1
        go_wp2_with fail
        go_ret2
        exact ⟨lv, by rw [H1.out]; rfl, by rw [H1.out]; exact hS1.out, Keeps.of_below hb1, .inl rfl⟩
      · have H1 : Hid (putP s es F = putRest s es (F.dropWhile (pastP s es))) := Lib.hid (by rw [HP.out, if_neg hbad])
        have hc : (decide (lastP s es + 1 < e0.i) || !rowP (wrap64 (e0.i - 1)) e0.t F) = false := by
          rw [decide_eq_false (fun h => hbad (.inl h))]
          cases hr : rowP (wrap64 (e0.i - 1)) e0.t F with
          | true => rfl
          | false => exact absurd (.inr hr) hbad
        rw [hc]
        have hinv : putInv s es F := by
          refine ⟨⟨wrap64 (e0.i - 1), e0.t, ?_⟩, fun e he => ?_⟩
          · cases hr : rowP (wrap64 (e0.i - 1)) e0.t F with
            | true => rfl
            | false => exact absurd (.inr hr) hbad
          · rw [HF.out] at he
            simp only [List.head?_cons, Option.mem_some] at he
            subst he
            have : ¬ lastP s es + 1 < e0.i := fun h => hbad (.inl h)
            omega
        have HINV := Lib.hid hinv
        have hE1 := Lib.hid (hE.below hb1)
        clear hc hbad HP q1 hinv hf
        go_wp2_with fail
        go_loopw [1] (fun x wr => ∃ (G : List Ent) (a : Option Addr) (c : Nat), x = .slice a G.length c ∧ EntR wr (.slice a G.length c) G ∧ Hid (putInv s es G) ∧ Hid (F.dropWhile (pastP s es) = G.dropWhile (pastP s es)) ∧ Hid (entsLo G) ∧ G.length ≤ F.length ∧ Below w.heap.size w wr) (fun x _ => match x with | .slice _ n _ => n | _ => 0)
        case atStart => exact ⟨F, _, _, rfl, hE1.out, HINV, Lib.hid rfl, HLO, Nat.le_refl _, hb1⟩
        case round =>
          clear HLO HINV hE1 hE hb1 tne hF0 HF hh d0 d1
          obtain ⟨G, aG, cG, rfl, hG, GINV, GDW, GLO, hGl, hbel⟩ := hrel
          have hSr := HS.out.below hbel
          have hlr := hSr.lt
          have c0 := hSr.c0
          go_upto_region 7 with fail
          go_cut [63] (fun x wx => x = .bool (pastL s es G) ∧ Below wr.heap.size wr wx)
          case first =>
            cases G with
            | nil =>
              have HPL : Hid (pastL s es [] = false) := Lib.hid rfl
              rw [List.length_nil]
              refine wp_region_sw (by rfl) (by kernel_rfl) (fun _ => none) ?_ (fun vals => ?_)
              · intro k φ hk
                cases hk
              iterate 4 ((with_reducible refine sw_pure ?_ (fun K hK => ?_)); (· rfl); go_simp; with_reducible refine hK _ ?_; clear hK K)
              iterate 11 ((with_reducible refine sw_pure ?_ (fun K hK => ?_)); (· rfl); go_simp; with_reducible refine hK _ ?_; clear hK K)
              iterate 10 ((with_reducible refine sw_pure ?_ (fun K hK => ?_)); (· rfl); go_simp; (first | rw [if_neg (by decide)] | refine ⟨by decide, ?_⟩); with_reducible refine hK _ ?_; clear hK K)
              iterate 2 ((with_reducible refine sw_pure ?_ (fun K hK => ?_)); (· rfl); go_simp; with_reducible refine hK _ ?_; clear hK K)
              refine sw_done (fun wz hz hH => ?_)
              go_wp2_with fail
              go_meet
              exact ⟨by rw [HPL.out], hz⟩
            | cons e G =>
              obtain ⟨bg, og, rfl, hbg, d0, d1, -, -⟩ := hG.cells 0 (by simp)
              rw [List.getElem_cons_zero] at d0 d1
              rw [Nat.zero_mul, Nat.add_zero] at d0 d1
              have hn : 0 < (e :: G).length := by simp
              by_cases p1 : e.i ≤ s.i
              · have HPL : Hid (pastL s es (e :: G) = true) := Lib.hid (by show (decide (e.i ≤ s.i) || fitsP s es e.i e.t) = true; rw [decide_eq_true p1]; rfl)
                have t1 : decide (e.i ≤ s.i) = true := decide_eq_true p1
                generalize (e :: G).length = n at *
                refine wp_region_sw (by rfl) (by kernel_rfl) (fun _ => none) ?_ (fun vals => ?_)
                · intro k φ hk
                  cases hk
                iterate 7 ((with_reducible refine sw_pure ?_ (fun K hK => ?_)); (· rfl); go_simp; with_reducible refine hK _ ?_; clear hK K)
                refine sw_at (.int .i64 e.i) rfl rfl (fun wz hz hH => ?_) (fun K hK => ?_)
                · have h2 := (hz.cell (p := ⟨bg, og, none⟩) hbg).trans d0
                  go_simp
                go_simp; refine hK _ ?_; clear hK K
                iterate 4 ((with_reducible refine sw_pure ?_ (fun K hK => ?_)); (· rfl); go_simp; with_reducible refine hK _ ?_; clear hK K)
                refine sw_at (.int .i64 s.i) rfl rfl (fun wz hz hH => ?_) (fun K hK => ?_)
                · have h2 := (hz.cell (p := ⟨b, 0, none⟩) hlr).trans c0
                  go_simp
                go_simp; refine hK _ ?_; clear hK K
                iterate 2 ((with_reducible refine sw_pure ?_ (fun K hK => ?_)); (· rfl); go_simp; with_reducible refine hK _ ?_; clear hK K)
                iterate 12 ((with_reducible refine sw_pure ?_ (fun K hK => ?_)); (· rfl); go_simp; with_reducible refine hK _ ?_; clear hK K)
                refine sw_done (fun wz hz hH => ?_)
                go_wp2_with fail
                go_meet
                exact ⟨by rw [HPL.out], hz⟩
              · have HPL : Hid (pastL s es (e :: G) = fitsP s es e.i e.t) := Lib.hid (by show (decide (e.i ≤ s.i) || fitsP s es e.i e.t) = _; rw [decide_eq_false p1]; rfl)
                have t1 : decide (e.i ≤ s.i) = false := decide_eq_false p1
                generalize (e :: G).length = n at *
                refine wp_region_sw (by rfl) (by kernel_rfl) (fun k => match k with | 24 => some (fun v _ => v = .bool (fitsP s es e.i e.t)) | _ => none) ?_ (fun vals => ?_)
                · intro k φ hk v w1 w2 h1 h2
                  match k, hk with
                  | 24, hk => obtain rfl := Option.some.inj hk; exact h1
                iterate 7 ((with_reducible refine sw_pure ?_ (fun K hK => ?_)); (· rfl); go_simp; with_reducible refine hK _ ?_; clear hK K)
                refine sw_at (.int .i64 e.i) rfl rfl (fun wz hz hH => ?_) (fun K hK => ?_)
                · have h2 := (hz.cell (p := ⟨bg, og, none⟩) hbg).trans d0
                  go_simp
                go_simp; refine hK _ ?_; clear hK K
                iterate 4 ((with_reducible refine sw_pure ?_ (fun K hK => ?_)); (· rfl); go_simp; with_reducible refine hK _ ?_; clear hK K)
                refine sw_at (.int .i64 s.i) rfl rfl (fun wz hz hH => ?_) (fun K hK => ?_)
                · have h2 := (hz.cell (p := ⟨b, 0, none⟩) hlr).trans c0
                  go_simp
                go_simp; refine hK _ ?_; clear hK K
                iterate 2 ((with_reducible refine sw_pure ?_ (fun K hK => ?_)); (· rfl); go_simp; with_reducible refine hK _ ?_; clear hK K)
                iterate 4 ((with_reducible refine sw_pure ?_ (fun K hK => ?_)); (· rfl); go_simp; with_reducible refine hK _ ?_; clear hK K)
                refine sw_at (.int .i64 e.i) rfl rfl (fun wz hz hH => ?_) (fun K hK => ?_)
                · have h2 := (hz.cell (p := ⟨bg, og, none⟩) hbg).trans d0
                  go_simp
                go_simp; refine hK _ ?_; clear hK K
                iterate 3 ((with_reducible refine sw_pure ?_ (fun K hK => ?_)); (· rfl); go_simp; with_reducible refine hK _ ?_; clear hK K)
                refine sw_at (.int .i64 e.t) rfl rfl (fun wz hz hH => ?_) (fun K hK => ?_)
                · have h2 := (hz.cell (p := ⟨bg, og + 1, none⟩) hbg).trans d1
                  go_simp
                go_simp; refine hK _ ?_; clear hK K
                refine sw_call _ rfl rfl (fun wz hz hH => ?_) (fun K hK => ?_)
                · go_simp
                  go_at_call 33
                  refine (log_fits e.i e.t (hSr.below hz) HBB.out).mono ?_
                  rintro e' w' ⟨rfl, hb⟩
                  exact ⟨_, rfl, rfl, hb⟩
                go_simp; refine hK _ ?_; clear hK K
                refine sw_at (.bool (fitsP s es e.i e.t)) rfl rfl (fun wz hz hH => ?_) (fun K hK => ?_)
                · have h3 := hH _ (List.Mem.head _) rfl
                  dsimp only at h3
                  rw [h3]
                  go_simp
                go_simp; refine hK _ ?_; clear hK K
                iterate 1 ((with_reducible refine sw_pure ?_ (fun K hK => ?_)); (· rfl); go_simp; with_reducible refine hK _ ?_; clear hK K)
                refine sw_done (fun wz hz hH => ?_)
                go_wp2_with fail
                go_meet
                exact ⟨by rw [HPL.out], hz⟩
          case rest =>
            obtain ⟨rfl, hb2⟩ := hcut
            have hGx := hG.below hb2
            have hbel2 := hbel.trans (hb2.mono hbel.size)
            clear hG hSr hlr c0 hb2 hbel
            rename World => w2
            cases hp : pastL s es G with
            | true =>
              cases G with
              | nil => cases hp
              | cons e G =>
                have hpe : pastP s es e = true := hp
                have GI2 : Hid (putInv s es G) := Lib.hid (GINV.out.next HBB.out hpe (GLO.out e (by simp)).1)
                have GD2 : Hid (F.dropWhile (pastP s es) = G.dropWhile (pastP s es)) := Lib.hid (by rw [GDW.out, List.dropWhile_cons_of_pos hpe])
                have GL2 : Hid (entsLo G) := Lib.hid (fun x hx => GLO.out x (List.mem_cons_of_mem _ hx))
                have hd := hGx.drop 1 (by simp)
                rw [List.drop_succ_cons, List.drop_zero, List.length_cons, Nat.add_sub_cancel] at hd
                have hcp : G.length + 1 ≤ cG := by
                  obtain ⟨a', c', hv', h1, _⟩ := hGx
                  simp only [Value.slice.injEq, List.length_cons] at hv' h1
                  omega
                obtain ⟨bg, og, rfl, -⟩ := hGx.cells 0 (by simp)
                rw [List.length_cons] at hGl ⊢
                clear hp hpe GINV GDW GLO hGx
                by_cases h1 : cG = 1
                · subst h1
                  obtain rfl : G = [] := List.eq_nil_of_length_eq_zero (by omega)
                  rw [if_pos rfl] at hd
                  have HD := Lib.hid hd
                  clear hd hcp
                  rw [List.length_nil]
                  go_wp2_with fail
                  go_roundw
                  case rel => exact ⟨[], _, _, rfl, HD.out, GI2, GD2, GL2, by simp, hbel2⟩
                  case measure => simp
                · rw [if_neg h1] at hd
                  have HD := Lib.hid (show EntR w2 (.slice (some ⟨bg, og + 4, none⟩) G.length (cG - 1)) G from by simpa [Addr.add_lit] using hd)
                  clear hd
                  go_wp2_with fail
                  go_roundw
                  case rel => exact ⟨G, _, _, rfl, HD.out, GI2, GD2, GL2, by omega, hbel2⟩
                  case measure => simp
            | false =>
              have HDW : Hid (F.dropWhile (pastP s es) = G) := Lib.hid (by
                rw [GDW.out]
                cases G with
                | nil => rfl
                | cons e G => exact List.dropWhile_cons_of_neg (by rw [show pastP s es e = false from hp]; decide))
              have H2 : Hid (putP s es F = putRest s es G) := Lib.hid (by rw [H1.out, HDW.out])
              clear GDW HDW H1
              have hSw := HS.out.below hbel2
              cases G with
              | nil =>
                have H3 : Hid (putP s es F = ((0, true), es)) := H2
                have HSW := Lib.hid hSw
                clear hp H2 GINV GLO hGx hSw
                rw [List.length_nil]
                go_wp2_with fail
                go_ret2
                exact ⟨lv, by rw [H3.out]; rfl, by rw [H3.out]; exact HSW.out, Keeps.of_below hbel2, .inl rfl⟩
              | cons e G =>
                have hp' : (decide (e.i ≤ s.i) || fitsP s es e.i e.t) = false := hp
                rw [Bool.or_eq_false_iff, decide_eq_false_iff_not] at hp'
                have hi2 := GINV.out.2 e rfl
                obtain ⟨bg, og, rfl, hbg, d0, d1, -, -⟩ := hGx.cells 0 (by simp)
                rw [List.getElem_cons_zero] at d0 d1
                rw [Nat.zero_mul, Nat.add_zero] at d0 d1
                obtain ⟨K, hK⟩ := Int.eq_ofNat_of_zero_le (show 0 ≤ e.i - (s.i + 1) by omega)
                have hKl : K ≤ es.length := by unfold lastP at hi2; omega
                have HR : Hid (putP s es F = if e.t < (termP s es (e.i - 1)).1 ∨ 200 < e.i - (s.i + 1) + ((G.length : Int) + 1) then ((0, false), es) else ((e.i, true), es.take K ++ e :: G)) := Lib.hid (by
                  rw [H2.out]
                  show (if _ then _ else _) = _
                  rw [show (e.i - (s.i + 1)).toNat = K by omega])
                rw [List.length_cons] at hGl
                have hGlen : G.length + 1 ≤ 1000000 := by omega
                have hlen : (e :: G).length = G.length + 1 := rfl
                obtain ⟨aL, cL, hlv⟩ := hSw.r.slice
                have hSr := hSw.r
                have hcL : es.length ≤ cL := by
                  obtain ⟨a', c', hv', h1, _⟩ := hSr
                  rw [hlv] at hv'
                  simp only [Value.slice.injEq] at hv'
                  omega
                have hcLm : cL ≤ 9223372036854775807 := by
                  obtain ⟨a', c', hv', _, h1, _⟩ := hSr
                  rw [hlv] at hv'
                  simp only [Value.slice.injEq] at hv'
                  omega
                have HSW := Lib.hid hSw
                have HGX := Lib.hid hGx
                have HLV := Lib.hid hlv
                have hii : s.i < e.i := by omega
                have hF1 := log_first hSw HBB.out
                have hT1 := log_term (e.i - 1) hSw HBB.out
                rw [hlen]
                clear hp hp' H2 GINV GLO hGx hlen hSw hSr hlv hbf
                unfold logPtr at hF1 hT1
                generalize termP s es (e.i - 1) = T at *
                obtain ⟨T1, T2⟩ := T
                have HH1 := Lib.hid hK
                clear hK
                have tn : ((G.length + 1 : Nat) : Int) = (G.length : Int) + 1 := by omega
                have tz : ((G.length : Int) + 1 == 0) = false := by rw [beq_eq_false_iff_ne]; omega
                go_wp2_with fail
                refine hF1.mono ?_
                rintro e' w' ⟨rfl, rfl⟩
                rename World => w2
                have hK := HH1.out
                go_wp2_with fail
                refine hT1.mono ?_
                rintro e' w3 ⟨rfl, hb3⟩
                have d0 := (hb3.cell (p := ⟨bg, og, none⟩) hbg).trans d0
                have d1 := (hb3.cell (p := ⟨bg, og + 1, none⟩) hbg).trans d1
                have hS3 := HSW.out.below hb3
                have hG3 := HGX.out.below hb3
                have hbz := hbel2.trans (hb3.mono hbel2.size)
                clear hF1 hT1 hb3 hbel2 HSW HGX hbg
                by_cases c1 : e.t < T1
                · have H4 : Hid (putP s es F = ((0, false), es)) := Lib.hid (by rw [HR.out, if_pos (.inl c1)])
                  have t1 : decide (e.t < T1) = true := decide_eq_true c1
                  have HS3 := Lib.hid hS3
                  clear HR hS3 hG3
                  go_wp2_with fail
                  go_ret2
                  exact ⟨lv, by rw [H4.out]; rfl, by rw [H4.out]; exact HS3.out, Keeps.of_below hbz, .inl rfl⟩
                · have t1 : decide (e.t < T1) = false := decide_eq_false c1
                  by_cases c2 : 200 < (K : Int) + ((G.length : Int) + 1)
                  · have H4 : Hid (putP s es F = ((0, false), es)) := Lib.hid (by rw [HR.out, hK, if_pos (.inr c2)])
                    have t2 : decide (200 < (K : Int) + ((G.length : Int) + 1)) = true := decide_eq_true c2
                    have HS3 := Lib.hid hS3
                    clear HR hS3 hG3
                    go_wp2_with fail
                    go_ret2
                    exact ⟨lv, by rw [H4.out]; rfl, by rw [H4.out]; exact HS3.out, Keeps.of_below hbz, .inl rfl⟩
                  · have H4 : Hid (putP s es F = ((e.i, true), es.take K ++ e :: G)) := Lib.hid (by rw [HR.out, hK, if_neg (fun h => h.elim c1 c2)])
                    have t2 : decide (200 < (K : Int) + ((G.length : Int) + 1)) = false := decide_eq_false c2
                    have hlv := HLV.out
                    have c4 := hS3.c4
                    have hSr := hS3.r
                    rw [hlv] at c4 hSr
                    have hold := hSr.take K K hKl (Nat.le_refl _) (by omega)
                    have hfr4 := hS3.fr 4
                    have HS3 := Lib.hid hS3
                    have hblt3 := hS3.lt
                    have hKc : K ≤ cL := by omega
                    clear HR hS3 hSr hlv
                    go_wp2_with (at_builtin; refine wpList_append_full 24 _ Try.underlying24 info_ent rfl rfl _ _ rfl hold hG3 (by simp) rfl rfl (by rw [List.length_take]; simp; omega) ?_)
                    intro v4 w4 ho4 hb4
                    obtain ⟨a4, cc4, he4⟩ := ho4.r.slice
                    rw [show (es.take K ++ e :: G).length = K + (G.length + 1) by rw [List.length_append, List.length_take, List.length_cons]; omega] at he4
                    subst he4
                    have HN := Lib.hid (HS3.out.setL hb4 ho4.r (ho4.since (Nat.le_refl _)))
                    have HSN := Lib.hid (ho4.since (w0 := w) hbz.size)
                    have c4 := (hb4.cell (p := ⟨b, 4, none⟩) hblt3).trans c4
                    have hfr4 := (hb4.frozen (p := ⟨b, 4, none⟩) hblt3).trans hfr4
                    have HK := Lib.hid hK
                    clear ho4 hb4 hold hG3 hK
                    go_wp2_with fail
                    go_ret2
                    exact ⟨_, by rw [H4.out]; rfl, by rw [H4.out]; exact HN.out.1, (Keeps.of_below hbz).trans HN.out.2 (fun x hx => .inl hx), .inr HSN.out⟩
end Go.Proofs.Ytihcohneongomaa
