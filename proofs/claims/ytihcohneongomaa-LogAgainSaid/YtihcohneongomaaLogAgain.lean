/-
  Entries that are put again change nothing: of any snapshot, entries, place and number. No condition.
-/
import Derived.Test.YtihcohneongomaaLogLaw
import Derived.Test.YtihcohneongomaaLogPlain
import Derived.Test.YtihcohneongomaaOpenEnt
import Derived.Test.YtihcohneongomaaEqEnt
namespace Go.Proofs.Ytihcohneongomaa
open Go.ChangeShapes Go.WideShapes Go.ChangeAt Go.RowKit

def logAgain_wit0 : Value := snpAgg (snpA 0 0)
def logAgain_wit1 : Value := .slice none 0 0
set_option maxRecDepth 100000 in
theorem logAgain_open0 {H : Type} {enc : TypeId × Value → H} {W : World} {base base' : Nat} {r : Reach} {v : Value} {d : DataW H} {ps : List MemPlace}
    (hv : Value.okWide Try.prog W r base' 23 v) (h : DataW.Trod enc Try.prog W base (fun _ => true) true 23 v d ps) : ∃ s : Snp, v = snpAgg s ∧ s.wf := open_snap hv h
set_option maxRecDepth 100000 in
theorem logAgain_open1 {H : Type} {enc : TypeId × Value → H} {W : World} {base base' : Nat} {r : Reach} {v : Value} {d : DataW H} {ps : List MemPlace}
    (hv : Value.okWide Try.prog W r base' 24 v) (h : DataW.Trod enc Try.prog W base (fun _ => true) true 24 v d ps) : ∃ es : List Ent, EntR W v es ∧ ∀ e ∈ es, e.wf := open_ents hv h

theorem takeB_size (s : ByteArray) (n : Nat) : (takeB s n).size ≤ n := by
  show (List.toArray _).size ≤ n
  simp
  omega
theorem cutEnts_len (es : List Ent) (n : Nat) : (cutEnts es n).length ≤ n := by
  unfold cutEnts
  rw [List.length_map]
  exact List.length_take_le _ _
theorem cutEnts_lo (es : List Ent) (n : Nat) (h : ∀ e ∈ es, e.wf) : entsLo (cutEnts es n) := by
  intro e he
  unfold cutEnts at he
  obtain ⟨x, hx, rfl⟩ := List.mem_map.1 he
  exact (h x (List.mem_of_mem_take hx)).1

/-- A snapshot in a block of its own. -/
structure SnapS (w : World) (b : Nat) (s : Snp) : Prop where
  lt : b < w.heap.size
  c0 : w.cell? ⟨b, 0, none⟩ = some (.int .i64 s.i)
  c1 : w.cell? ⟨b, 1, none⟩ = some (.int .i64 s.t)
  c2 : w.cell? ⟨b, 2, none⟩ = some (.string s.c)
  c3 : w.cell? ⟨b, 3, none⟩ = some (.string s.d)
  fr : ∀ j, w.frozen? ⟨b, j, none⟩ = false
theorem SnapS.below {w w' : World} {b : Nat} {s : Snp} (h : SnapS w b s) (hb : Below w.heap.size w w') : SnapS w' b s :=
  ⟨Nat.lt_of_lt_of_le h.lt hb.size, (hb.cell (p := ⟨b, 0, none⟩) h.lt).trans h.c0, (hb.cell (p := ⟨b, 1, none⟩) h.lt).trans h.c1, (hb.cell (p := ⟨b, 2, none⟩) h.lt).trans h.c2, (hb.cell (p := ⟨b, 3, none⟩) h.lt).trans h.c3, fun j => (hb.frozen (p := ⟨b, j, none⟩) h.lt).trans (h.fr j)⟩
theorem SnapS.keeps {w w' : World} {b : Nat} {s : Snp} {F : List Nat} (h : SnapS w b s) (hk : Keeps F w w') (hF : b ∉ F) : SnapS w' b s :=
  ⟨Nat.lt_of_lt_of_le h.lt hk.size, (hk.cell (p := ⟨b, 0, none⟩) h.lt hF).trans h.c0, (hk.cell (p := ⟨b, 1, none⟩) h.lt hF).trans h.c1, (hk.cell (p := ⟨b, 2, none⟩) h.lt hF).trans h.c2, (hk.cell (p := ⟨b, 3, none⟩) h.lt hF).trans h.c3, fun j => (hk.frozen (p := ⟨b, j, none⟩) h.lt hF).trans (h.fr j)⟩
theorem snapS_box (w : World) (s : Snp) (T : TypeId) : SnapS (w.alloc (.cells #[.int .i64 s.i, .int .i64 s.t, .string s.c, .string s.d] T)) w.heap.size s :=
  ⟨by simp, World.cell?_alloc_new _ _ _ _, World.cell?_alloc_new _ _ _ _, World.cell?_alloc_new _ _ _ _, World.cell?_alloc_new _ _ _ _, fun j => World.frozen?_alloc_new _ _ _ _⟩
theorem SnapS.set {w : World} {b : Nat} {s n : Snp} (h : SnapS w b s) : SnapS ((((w.setCell ⟨b, 0, none⟩ (.int .i64 n.i)).setCell ⟨b, 1, none⟩ (.int .i64 n.t)).setCell ⟨b, 2, none⟩ (.string n.c)).setCell ⟨b, 3, none⟩ (.string n.d)) b n ∧
    Keeps [b] w ((((w.setCell ⟨b, 0, none⟩ (.int .i64 n.i)).setCell ⟨b, 1, none⟩ (.int .i64 n.t)).setCell ⟨b, 2, none⟩ (.string n.c)).setCell ⟨b, 3, none⟩ (.string n.d)) := by
  have hk : Keeps [b] w ((((w.setCell ⟨b, 0, none⟩ (.int .i64 n.i)).setCell ⟨b, 1, none⟩ (.int .i64 n.t)).setCell ⟨b, 2, none⟩ (.string n.c)).setCell ⟨b, 3, none⟩ (.string n.d)) :=
    ((((Keeps.refl [b] w).setCell (.inl (by simp)) _).setCell (.inl (by simp)) _).setCell (.inl (by simp)) _).setCell (.inl (by simp)) _
  refine ⟨⟨Nat.lt_of_lt_of_le h.lt hk.size, ?_, ?_, ?_, ?_, fun j => ?_⟩, hk⟩
  · rw [World.cell?_setCell_other (h := by simp), World.cell?_setCell_other (h := by simp), World.cell?_setCell_other (h := by simp)]
    exact World.cell?_setCell_same _ _ _ h.c0
  · rw [World.cell?_setCell_other (h := by simp), World.cell?_setCell_other (h := by simp)]
    exact World.cell?_setCell_same _ _ _ (show World.cell? _ _ = some (.int .i64 s.t) from by rw [World.cell?_setCell_other (h := by simp)]; exact h.c1)
  · rw [World.cell?_setCell_other (h := by simp)]
    exact World.cell?_setCell_same _ _ _ (show World.cell? _ _ = some (.string s.c) from by rw [World.cell?_setCell_other (h := by simp), World.cell?_setCell_other (h := by simp)]; exact h.c2)
  · exact World.cell?_setCell_same _ _ _ (show World.cell? _ _ = some (.string s.d) from by rw [World.cell?_setCell_other (h := by simp), World.cell?_setCell_other (h := by simp), World.cell?_setCell_other (h := by simp)]; exact h.c3)
  · rw [World.frozen?_setCell, World.frozen?_setCell, World.frozen?_setCell, World.frozen?_setCell]; exact h.fr j

theorem EntR.keeps {w w' : World} {v : Value} {es : List Ent} {F : List Nat} (h : EntR w v es) (hk : Keeps F w w') (hF : ∀ g off n c, v = .slice (some ⟨g, off, none⟩) n c → g ∉ F) : EntR w' v es := by
  obtain ⟨a, cap, hv, h1, h2, h3⟩ := h
  refine ⟨a, cap, hv, h1, h2, fun k hk' => ?_⟩
  obtain ⟨b, off, ha, hlt, hc⟩ := h3 k hk'
  exact ⟨b, off, ha, Nat.lt_of_lt_of_le hlt hk.size, fun j u hu => by rw [hk.cell (p := ⟨b, off + k * 4 + j, none⟩) hlt (hF b off _ _ (by rw [hv, ha]))]; exact hc j u hu⟩

theorem getP_at (s : Snp) (L : List Ent) (A : Nat) (n : Int) (hA : A < L.length) (hn : 0 ≤ n) : getP s L (s.i + 1 + A) n = (L.drop A).take n.toNat := by
  unfold getP lastP
  by_cases h : n < 1
  · rw [if_pos (.inr (.inr h)), show n.toNat = 0 by omega, List.take_zero]
  · rw [if_neg (by omega), show (s.i + 1 + (A : Int) - (s.i + 1)).toNat = A by omega]

set_option maxRecDepth 100000 in
set_option maxHeartbeats 4000000 in
theorem logAgain_walk (v0 : Value) (s0 : Snp) (v1 : Value) (l0 : List Ent) (a n : Int) (w : World) (h0 : v0 = snpAgg s0 ∧ s0.wf) (h1 : EntR w v1 l0 ∧ ∀ e ∈ l0, e.wf) (wa : (Lit.int .i64 a).wf = true) (wn : (Lit.int .i64 n).wf = true) :
    Calls Try.prog 3 #[v0, v1, .int .i64 a, .int .i64 n] w fun e w' => e = .returned (.bool true) ∧ Below w.heap.size w w' := by
  have wa := wf_i64 wa
  have wn := wf_i64 wn
  obtain ⟨rfl, hs0⟩ := h0
  obtain ⟨hE, hwf⟩ := h1
  have HW := Lib.hid hwf
  have hB0 := snapS_box w s0 23
  have hb0 := (Below.refl w.heap.size w).alloc (Nat.le_refl _) (.cells #[.int .i64 s0.i, .int .i64 s0.t, .string s0.c, .string s0.d] 23)
  have hE0 := hE.below hb0
  obtain ⟨-, -, hc0, hd0⟩ := hs0
  unfold maxLen at hc0 hd0
  clear hE hwf
  unfold snpAgg
  go_enter Try.func3, Try.ntmps3
  go_wp2_with fail
  refine (log_begun _).mono ?_
  rintro e w1 ⟨rfl, hb1⟩
  have hB1 := hB0.below hb1
  have hE1 := hE0.below hb1
  have hbw := hb0.trans (hb1.mono hb0.size)
  clear hb1 hb0 hB0 hE0
  generalize hN : w.heap.size = N at *
  have c0 := hB1.c0
  have c1 := hB1.c1
  have c2 := hB1.c2
  have c3 := hB1.c3
  go_wp2_with fail
  refine (law_snap s0 _ hc0 hd0).mono ?_
  rintro e w2 ⟨rfl, hb2⟩
  have hB2 := hB1.below hb2
  have hE2 := hE1.below hb2
  have hbw2 := hbw.trans (hb2.mono (by have := hbw.size; omega))
  clear hb2 hB1 hE1 c0 c1 c2 c3 hbw
  have hcs : (cutSnap s0).c.size ≤ 60 ∧ (cutSnap s0).d.size ≤ 100 := ⟨takeB_size _ _, takeB_size _ _⟩
  generalize cutSnap s0 = sn at *
  obtain ⟨ni, nt, nc, nd⟩ := sn
  unfold snpAgg
  dsimp only at hcs ⊢
  go_wp2_with fail
  have hlen : l0.length ≤ 9223372036854775807 := by obtain ⟨a1, cap, h1, h2, h3, -⟩ := hE2; exact Nat.le_trans h2 h3
  refine (law_entries v1 l0 12 _ hE2 hlen (by decide) (fun e he => by have := (HW.out e he).2; unfold maxLen at this; omega)).mono ?_
  rintro e w3 ⟨v3, rfl, ho3, hb3⟩
  have hB3 := hB2.below hb3
  have hbw3 := hbw2.trans (hb3.mono (by have := hbw2.size; omega))
  have hN3 : N < w2.heap.size := hB2.lt
  clear hb3 hB2 hE2 hbw2
  have c0 := hB3.c0
  have c1 := hB3.c1
  have c2 := hB3.c2
  have c3 := hB3.c3
  have fr := hB3.fr
  go_wp2_with fail
  have hset := hB3.set (n := ⟨ni, nt, nc, nd⟩)
  dsimp only at hset
  have hLn : (cutEnts l0 12).length ≤ 12 := cutEnts_len _ _
  have hlo := cutEnts_lo l0 12 HW.out
  have hr4 := EntR.keeps ho3.r hset.2 (fun g off n c hg hm => by
    have := ho3.since (w0 := w2) (Nat.le_refl _) g off n c hg
    simp only [List.mem_singleton] at hm
    omega)
  have hv3 := ho3.lt
  have hz34 := hset.2.size
  have hS4 := hset.1
  have hbw4 := hbw3.trans (hset.2.below (B := N) (by simp) (by have := hbw3.size; omega))
  clear ho3 hset hbw3 hB3 c0 c1 c2 c3 fr HW hN3 hlen
  generalize (((w3.setCell ⟨N, 0, none⟩ (.int .i64 ni)).setCell ⟨N, 1, none⟩ (.int .i64 nt)).setCell ⟨N, 2, none⟩ (.string nc)).setCell ⟨N, 3, none⟩ (.string nd) = w4 at *
  generalize cutEnts l0 12 = L at *
  obtain ⟨a3, cap3, rfl⟩ := hr4.slice
  have hbw4z : N ≤ w4.heap.size := by have := hbw4.size; omega
  refine (log_new ⟨ni, nt, nc, nd⟩ _ L _ hr4 (by omega)).mono ?_
  intro e w5 hn
  unfold RetNewL at hn
  by_cases hok : newOk ⟨ni, nt, nc, nd⟩ L = true
  · rw [if_pos hok] at hn
    obtain ⟨b, lv, rfl, hSL, hb5, hbb, -⟩ := hn
    have hG := Lib.hid (Good.of_new hok)
    have hB5 := hS4.below hb5
    have hr5 := hr4.below hb5
    have hbw5 := hbw4.trans (hb5.mono hbw4z)
    have hNb : N < b := Nat.lt_of_lt_of_le hS4.lt hbb
    clear hok hb5 hr4 hS4 hbw4
    unfold logPtr
    by_cases m0 : L.length = 0
    · go_wp2_with fail
      go_ret
      exact ⟨rfl, by rw [hN]; exact hbw5⟩
    · by_cases m1 : a < 0
      · go_wp2_with fail
        go_ret
        exact ⟨rfl, by rw [hN]; exact hbw5⟩
      · by_cases m2 : n < 0
        · go_wp2_with fail
          go_ret
          exact ⟨rfl, by rw [hN]; exact hbw5⟩
        · by_cases m3 : (L.length : Int) ≤ a
          · go_wp2_with fail
            go_ret
            exact ⟨rfl, by rw [hN]; exact hbw5⟩
          · have t0 : ((L.length : Int) == 0) = false := by simpa using m0
            have t1 : decide (a < 0) = false := decide_eq_false m1
            have t2 : decide (n < 0) = false := decide_eq_false m2
            have t3 : decide ((L.length : Int) ≤ a) = false := decide_eq_false m3
            go_wp2_with fail
            obtain ⟨g0, g1, g2⟩ := hG.out.b
            dsimp only at g0 g1
            obtain ⟨A, rfl⟩ := Int.eq_ofNat_of_zero_le m1
            refine (log_first hSL hG.out.b).mono ?_
            rintro e w5 ⟨rfl, rfl⟩
            dsimp only
            go_wp2_with fail
            refine (log_get (ni + 1 + (A : Int)) n hSL hG.out.b).mono ?_
            intro e w6 hg
            have hgp := getP_at ⟨ni, nt, nc, nd⟩ L A n (by omega) m2
            dsimp only at hgp
            rw [hgp] at hg
            obtain ⟨v6, rfl, ho6, hb6⟩ := hg
            have hS6 := hSL.below hb6
            have hB6 := hB5.below hb6
            have hr6 := hr5.below hb6
            have hbw6 := hbw5.trans (hb6.mono (by have := hbw5.size; omega))
            have hbw6z : b < w6.heap.size := hS6.lt
            clear hb6 hSL hB5 hr5 hbw5 hgp
            go_wp2_with fail
            refine (log_put (s := ⟨ni, nt, nc, nd⟩) (es := L) (fs := (L.drop A).take n.toNat) hS6 hG.out.b ho6.r (by rw [List.length_take, List.length_drop]; omega) (fun e he => hlo e (List.mem_of_mem_drop (List.mem_of_mem_take he)))).mono ?_
            rintro e w7 ⟨lv2, rfl, hS7, hk7, -⟩
            rw [hG.out.again A n.toNat] at hS7 ⊢
            dsimp only at hS7 ⊢
            have hB7 := hB6.keeps hk7 (by simp only [List.mem_singleton]; omega)
            have hr7 := hr6.keeps hk7 (fun g off n c hg hm => by
              have := hv3 g off n c hg
              simp only [List.mem_singleton] at hm
              omega)
            have hbw7 := hbw6.trans (hk7.below (B := N) (fun x hx => by simp only [List.mem_singleton] at hx; omega) (by omega))
            have c0 := hB7.c0
            dsimp only at c0
            have hNlt := hB7.lt
            clear hS6 hB6 hr6 hbw6 hk7 ho6 hB7
            have H7 := Lib.hid hr7
            have HS7 := Lib.hid hS7
            clear hr7 hS7
            go_upto_region 10 with fail
            go_cut [8] (fun x wx => x = .bool true ∧ Below w7.heap.size w7 wx)
            case first =>
              refine wp_region_sw (by rfl) (by kernel_rfl) (fun k => match k with | 7 => some (fun v _ => v = .int .i64 (ni + L.length)) | 18 => some (fun v _ => v = .int .i64 (ni + 1)) | 19 => some (fun v w => EntR w v L) | 21 => some (fun v _ => v = .bool true) | _ => none) ?_ (fun vals => ?_)
              · intro k φ hk v w1 w2 h1 h2
                match k, hk with
                | 7, hk => obtain rfl := Option.some.inj hk; exact h1
                | 18, hk => obtain rfl := Option.some.inj hk; exact h1
                | 19, hk => obtain rfl := Option.some.inj hk; exact EntR.below h1 h2
                | 21, hk => obtain rfl := Option.some.inj hk; exact h1
              iterate 7 ((with_reducible refine sw_pure ?_ (fun K hK => ?_)); (· rfl); go_simp; with_reducible refine hK _ ?_; clear hK K)
              refine sw_call _ rfl rfl (fun wz hz' hH => ?_) (fun K hK => ?_)
              · go_simp
                go_at_call 22
                refine (log_last (HS7.out.below hz') hG.out.b).mono ?_
                rintro e w' ⟨rfl, k, rfl⟩
                exact ⟨_, rfl, rfl, below_drewN (Below.refl _ _) k⟩
              go_simp; refine hK _ ?_; clear hK K
              iterate 1 ((with_reducible refine sw_pure ?_ (fun K hK => ?_)); (· rfl); go_simp; with_reducible refine hK _ ?_; clear hK K)
              refine sw_at (.int .i64 ni) rfl rfl (fun wz hz' hH => ?_) (fun K hK => ?_)
              · have h2 := (hz'.cell (p := ⟨N, 0, none⟩) hNlt).trans c0
                go_simp
              go_simp; refine hK _ ?_; clear hK K
              iterate 3 ((with_reducible refine sw_pure ?_ (fun K hK => ?_)); (· rfl); go_simp; with_reducible refine hK _ ?_; clear hK K)
              refine sw_at (.bool true) rfl rfl (fun wz hz' hH => ?_) (fun K hK => ?_)
              · have e := hH _ (List.Mem.head _) (by rfl)
                dsimp only at e
                rw [e]
                go_simp
                simp only [IntKind.wrap_i64]
                omega
              go_simp; refine hK _ ?_; clear hK K
              iterate 4 ((with_reducible refine sw_pure ?_ (fun K hK => ?_)); (· rfl); go_simp; with_reducible refine hK _ ?_; clear hK K)
              refine sw_call _ rfl rfl (fun wz hz' hH => ?_) (fun K hK => ?_)
              · go_simp
                go_at_call 20
                refine (log_first (HS7.out.below hz') hG.out.b).mono ?_
                rintro e w' ⟨rfl, rfl⟩
                exact ⟨_, rfl, rfl, Below.refl _ _⟩
              go_simp; refine hK _ ?_; clear hK K
              refine sw_call _ rfl rfl (fun wz hz' hH => ?_) (fun K hK => ?_)
              · have e := hH _ (List.Mem.head _) (by rfl)
                dsimp only at e
                rw [e]
                go_simp
                go_at_call 19
                refine (log_get (ni + 1) 50 (HS7.out.below hz') hG.out.b).mono ?_
                intro e w' hg
                have hga := hG.out.getAll 50 (by omega)
                dsimp only at hga
                rw [hga] at hg
                obtain ⟨v, rfl, ho, hb⟩ := hg
                exact ⟨_, rfl, ho.r, hb⟩
              go_simp; refine hK _ ?_; clear hK K
              iterate 1 ((with_reducible refine sw_pure ?_ (fun K hK => ?_)); (· rfl); go_simp; with_reducible refine hK _ ?_; clear hK K)
              refine sw_call _ rfl rfl (fun wz hz' hH => ?_) (fun K hK => ?_)
              · have e := hH _ (List.Mem.head _) (by rfl)
                dsimp only at e
                go_simp
                go_at_call 23
                refine (eq_entries _ _ L _ e (H7.out.below hz') (by omega)).mono ?_
                rintro e w' ⟨rfl, hb⟩
                exact ⟨_, rfl, rfl, hb⟩
              go_simp; refine hK _ ?_; clear hK K
              iterate 2 ((with_reducible refine sw_pure ?_ (fun K hK => ?_)); (· rfl); go_simp; with_reducible refine hK _ ?_; clear hK K)
              refine sw_done (fun wz hz hH => ?_)
              have e := hH _ (List.Mem.head _)
              dsimp only at e
              rw [e]
              go_wp2_with fail
              go_meet
              exact ⟨rfl, hz⟩
            case rest =>
              obtain ⟨rfl, hz⟩ := hcut
              go_wp2_with fail
              go_ret
              exact ⟨rfl, by first | (rw [hN]; exact hbw7.trans (hz.mono (by omega))) | exact hbw7.trans (hz.mono (by omega))⟩
  · rw [if_neg hok] at hn
    obtain ⟨rfl, hb5⟩ := hn
    have hbw5 := hbw4.trans (hb5.mono hbw4z)
    go_wp2_with fail
    go_ret
    exact ⟨rfl, by rw [hN]; exact hbw5⟩
/-! ### From the row to the walk -/
namespace logAgainF
set_option linter.unusedVariables false
theorem own : ownKnob Try.prog.godebug = none := by kernel_rfl
theorem laidOut : laidOutB Try.prog = true := by kernel_rfl
set_option maxRecDepth 100000 in
theorem lifted (os : Os) (started : os.Started) (H : Type) (enc : TypeId × Value → H) :
    ReturnsInHanded {} Try.checked os 3 .any (Rows.logAgainSpec.pre6 enc Try.prog Try.f3 Rows.logAgainRow.domain false) (Rows.logAgainSpec.post enc Try.prog Try.f3 false true false false) := by
  refine returnsInHanded_of_change (C := Try.checked) own started (by kernel_rfl) Try.func3
    (ChangeSpec.witness6 (enc := enc) (C := Try.checked) false ⟨#[], #[logAgain_wit0, logAgain_wit1, .int .i64 0, .int .i64 0], []⟩ 8 (by kernel_rfl) (by kernel_rfl) (by kernel_rfl) (by kernel_rfl)) ?_
  intro W base args ds gs before hval0 hW hcnd _
  have hval : ∀ (j : Nat) t v, Try.f3.params[j]? = some t → args[j]? = some v → Value.okWide Try.prog W .any base t v := hval0
  have hW' := hW
  obtain ⟨p, q, hA0, hV, rfl, hfz, hnd⟩ := hW
  have hA : DataW.TrodAll enc Try.prog W 0 (fun _ => true) true Try.f3.params.toList args.toList ds p := hA0
  rw [Try.params3] at hA hval
  obtain ⟨v0, vs0, d0, ds0, p0, q0, hargs, rfl, rfl, h0, r0⟩ := trodAll_cons hA
  obtain ⟨v1, vs1, d1, ds1, p1, q1, rfl, rfl, rfl, h1, r1⟩ := trodAll_cons r0
  obtain ⟨v2, vs2, d2, ds2, p2, q2, rfl, rfl, rfl, h2, r2⟩ := trodAll_cons r1
  obtain ⟨v3, vs3, d3, ds3, p3, q3, rfl, rfl, rfl, h3, r3⟩ := trodAll_cons r2
  obtain ⟨rfl, rfl, rfl⟩ := trodAll_nil r3
  obtain rfl : args = #[v0, v1, v2, v3] := by cases args; simp_all
  obtain ⟨rfl, rfl⟩ := trodVars_none hV
  have k0 := h0
  have lt0 : ∀ x ∈ p0, x.block < W.heap.size := by obtain ⟨m, hm⟩ := k0; exact DataW.trod_lt m _ _ _ hm
  obtain ⟨x0, w0⟩ := logAgain_open0 (hval 0 23 v0 rfl rfl) h0
  have k1 := h1
  have lt1 : ∀ x ∈ p1, x.block < W.heap.size := by obtain ⟨m, hm⟩ := k1; exact DataW.trod_lt m _ _ _ hm
  obtain ⟨x1, w1⟩ := logAgain_open1 (hval 1 24 v1 rfl rfl) h1
  have k2 := h2
  have lt2 : ∀ x ∈ p2, x.block < W.heap.size := by obtain ⟨m, hm⟩ := k2; exact DataW.trod_lt m _ _ _ hm
  obtain ⟨a2, rfl, hd2, hp2, w2⟩ := open_int Try.underlying3 (hval 2 3 v2 rfl rfl) h2
  have k3 := h3
  have lt3 : ∀ x ∈ p3, x.block < W.heap.size := by obtain ⟨m, hm⟩ := k3; exact DataW.trod_lt m _ _ _ hm
  obtain ⟨a3, rfl, hd3, hp3, w3⟩ := open_int Try.underlying3 (hval 3 3 v3 rfl rfl) h3
  clear hA0 hval0
  refine (logAgain_walk v0 x0 v1 x1 a2 a3 W w0 w1 w2 w3).mono fun e W' ⟨he, bel⟩ => ?_
  subst he
  exact ⟨_, rfl, _, _, _, [], _, [], hW', trodAll_mk1 (shut_bool Try.underlying4 _), (trodAll_cons_mk (Below.trod laidOut (by kernel_rfl) (of_decide_eq_true (by kernel_rfl)) k0 bel lt0) (trodAll_cons_mk (Below.trod laidOut (by kernel_rfl) (of_decide_eq_true (by kernel_rfl)) k1 bel lt1) (trodAll_cons_mk (Below.trod laidOut (by kernel_rfl) (of_decide_eq_true (by kernel_rfl)) k2 bel lt2) (trodAll_cons_mk (Below.trod laidOut (by kernel_rfl) (of_decide_eq_true (by kernel_rfl)) k3 bel lt3) trodAll_mk0)))), rfl, bel.frame _, fun h => by cases h⟩
theorem over : Rows.logAgainRow.holds Try.pinned (OpenSpec.ofChange Rows.logAgainSpec) :=
  OpenClaim.holds_of_wide 3 Try.f3 rfl rfl rfl rfl rfl rfl rfl ⟨rfl, rfl, rfl, rfl, rfl⟩ rfl rfl rfl rfl rfl (by kernel_rfl) Try.func3 (by kernel_rfl)
    (of_decide_eq_true (by kernel_rfl)) (by unfold Func.isWrapper; first | (rw [if_pos (by decide +kernel)]; kernel_rfl) | (rw [if_neg (by decide +kernel)]; exact ⟨rfl, rfl⟩))
    (fun os started H enc _ => lifted os started H enc)
end logAgainF
theorem logAgain_holds : Rows.LogAgainSaid := logAgainF.over
#print axioms logAgain_holds
end Go.Proofs.Ytihcohneongomaa
