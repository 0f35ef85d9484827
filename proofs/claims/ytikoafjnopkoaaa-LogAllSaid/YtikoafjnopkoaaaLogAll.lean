/-
  A log is put to, packed, set, asked: of any snapshot, entries and operations. No condition.
-/
import Derived.Test.YtikoafjnopkoaaaP12
namespace Go.Proofs.Ytikoafjnopkoaaa
set_option linter.unusedVariables false
set_option linter.unusedSimpArgs false
open Go.ChangeShapes Go.WideShapes Go.ChangeAt Go.RowKit

def logAll_wit0 : Value := snpAgg (snpA 0 0)
def logAll_wit1 : Value := .slice none 0 0
def logAll_wit2 : Value := .slice none 0 0
set_option maxRecDepth 100000 in
theorem logAll_open0 {H : Type} {enc : TypeId × Value → H} {W : World} {base base' : Nat} {r : Reach} {v : Value} {d : DataW H} {ps : List MemPlace}
    (hv : Value.okWide Try.prog W r base' 23 v) (h : DataW.Trod enc Try.prog W base (fun _ => true) true 23 v d ps) : ∃ s : Snp, v = snpAgg s ∧ s.wf := open_snap hv h
set_option maxRecDepth 100000 in
theorem logAll_open1 {H : Type} {enc : TypeId × Value → H} {W : World} {base base' : Nat} {r : Reach} {v : Value} {d : DataW H} {ps : List MemPlace}
    (hv : Value.okWide Try.prog W r base' 24 v) (h : DataW.Trod enc Try.prog W base (fun _ => true) true 24 v d ps) : ∃ es : List Ent, EntR W v es ∧ ∀ e ∈ es, e.wf := open_ents hv h
set_option maxRecDepth 100000 in
theorem logAll_open2 {H : Type} {enc : TypeId × Value → H} {W : World} {base base' : Nat} {r : Reach} {v : Value} {d : DataW H} {ps : List MemPlace}
    (hv : Value.okWide Try.prog W r base' 25 v) (h : DataW.Trod enc Try.prog W base (fun _ => true) true 25 v d ps) : ∃ ops : List LopV, Recs 9 lopCells W v ops ∧ ∀ o ∈ ops, o.good W := open_lops hv h

set_option maxRecDepth 100000 in
set_option maxHeartbeats 16000000 in
theorem logAll_walk (v0 : Value) (s0 : Snp) (v1 : Value) (l0 : List Ent) (v2 : Value) (ops : List LopV) (w : World) (h0 : v0 = snpAgg s0 ∧ s0.wf) (h1 : EntR w v1 l0 ∧ ∀ e ∈ l0, e.wf) (h2 : Recs 9 lopCells w v2 ops ∧ ∀ o ∈ ops, o.good w) :
    Calls Try.prog 3 #[v0, v1, v2] w fun e w' => e = .returned (.bool true) ∧ Below w.heap.size w w' := by
  obtain ⟨rfl, hs0⟩ := h0
  obtain ⟨hE, hwf⟩ := h1
  obtain ⟨hR, hgood⟩ := h2
  have HW := Lib.hid hwf
  have HGO := Lib.hid hgood
  have HR := Lib.hid hR
  obtain ⟨a2, cap2, rfl, hcap2, hcm2, -⟩ := hR
  have hlen2 : ops.length ≤ 9223372036854775807 := by omega
  have hB0 := snapS_box w s0 23
  have hb0 := (Below.refl w.heap.size w).alloc (Nat.le_refl _) (.cells #[.int .i64 s0.i, .int .i64 s0.t, .string s0.c, .string s0.d] 23)
  have hE0 := hE.below hb0
  have hcw : (cutSnap s0).wf := cutSnap_wf hs0
  obtain ⟨-, -, hc0, hd0⟩ := hs0
  unfold maxLen at hc0 hd0
  clear hE hwf hgood
  unfold snpAgg
  go_enter Try.func3, Try.ntmps3
  go_wp2_with fail
  refine (log_begun _).mono ?_
  rintro e w1 ⟨rfl, hb1⟩
  have hB1 := hB0.below hb1
  have hE1 := hE0.below hb1
  have hbw := hb0.trans (hb1.mono hb0.size)
  clear hb1 hb0 hB0 hE0
  generalize hN : w.heap.size = N at *
  have c0 := hB1.c0
  have c1 := hB1.c1
  have c2 := hB1.c2
  have c3 := hB1.c3
  go_wp2_with fail
  refine (law_snap s0 _ hc0 hd0).mono ?_
  rintro e w2 ⟨rfl, hb2⟩
  have hB2 := hB1.below hb2
  have hE2 := hE1.below hb2
  have hbw2 := hbw.trans (hb2.mono (by have := hbw.size; omega))
  clear hb2 hB1 hE1 c0 c1 c2 c3 hbw
  have hcs : (cutSnap s0).c.size ≤ 60 ∧ (cutSnap s0).d.size ≤ 100 := ⟨takeB_size _ _, takeB_size _ _⟩
  generalize cutSnap s0 = sn at *
  obtain ⟨ni, nt, nc, nd⟩ := sn
  unfold snpAgg
  dsimp only at hcs ⊢
  go_wp2_with fail
  have hlen : l0.length ≤ 9223372036854775807 := by obtain ⟨a1, cap, h1, h2, h3, -⟩ := hE2; exact Nat.le_trans h2 h3
  refine (law_entries v1 l0 12 _ hE2 hlen (by decide) (fun e he => by have := (HW.out e he).2; unfold maxLen at this; omega)).mono ?_
  rintro e w3 ⟨v3, rfl, ho3, hb3⟩
  have hB3 := hB2.below hb3
  have hbw3 := hbw2.trans (hb3.mono (by have := hbw2.size; omega))
  have hN3 : N < w2.heap.size := hB2.lt
  clear hb3 hB2 hE2 hbw2
  have c0 := hB3.c0
  have c1 := hB3.c1
  have c2 := hB3.c2
  have c3 := hB3.c3
  have fr := hB3.fr
  go_wp2_with fail
  have hset := hB3.set (n := ⟨ni, nt, nc, nd⟩)
  dsimp only at hset
  have hLn : (cutEnts l0 12).length ≤ 12 := cutEnts_len _ _
  have hLd := Lib.hid (cutEnts_d l0 12)
  have hr4 := EntR.keeps ho3.r hset.2 (fun g off n c hg hm => by
    have := ho3.since (w0 := w2) (Nat.le_refl _) g off n c hg
    simp only [List.mem_singleton] at hm
    omega)
  have hS4 := hset.1
  have hbw4 := hbw3.trans (hset.2.below (B := N) (by simp) (by have := hbw3.size; omega))
  clear ho3 hset hbw3 hB3 c0 c1 c2 c3 fr HW hN3 hlen
  generalize (((w3.setCell ⟨N, 0, none⟩ (.int .i64 ni)).setCell ⟨N, 1, none⟩ (.int .i64 nt)).setCell ⟨N, 2, none⟩ (.string nc)).setCell ⟨N, 3, none⟩ (.string nd) = w4 at *
  generalize cutEnts l0 12 = L at *
  obtain ⟨a3, cap3, rfl⟩ := hr4.slice
  have hbw4z : N ≤ w4.heap.size := by have := hbw4.size; omega
  refine (log_new ⟨ni, nt, nc, nd⟩ _ L _ hr4 (by omega)).mono ?_
  intro e w5 hn
  unfold RetNewL at hn
  by_cases hok : newOk ⟨ni, nt, nc, nd⟩ L = true
  · rw [if_pos hok] at hn
    obtain ⟨b, lv, rfl, hSL, hb5, hbb, hsn⟩ := hn
    have hGd := Lib.hid (Good.of_new hok)
    have hB5 := hS4.below hb5
    have hr5 := hr4.below hb5
    have hbw5 := hbw4.trans (hb5.mono hbw4z)
    have hNb : N < b := Nat.lt_of_lt_of_le hS4.lt hbb
    have hnum := Lib.hid (newOk_i hok)
    clear hb5 hr4 hS4 hbw4 hbb hsn
    have hT := ref_new ⟨ni, nt, nc, nd⟩ _ L w5 hr5 (by omega) hcw
    have c0 := hB5.c0
    have c1 := hB5.c1
    have c2 := hB5.c2
    have c3 := hB5.c3
    dsimp only at c0 c1 c2 c3
    unfold logPtr
    unfold snpAgg at hT
    clear hB5 hr5
    go_wp2_with fail
    refine hT.mono ?_
    intro e w6 hn2
    unfold RetRNew at hn2
    rw [if_pos hok] at hn2
    obtain ⟨hb6, v6, rfl, ho6⟩ := hn2
    have hSL6 := hSL.below hb6
    have hbw6 := hbw5.trans (hb6.mono (by have := hbw5.size; omega))
    have hlt6 := ho6.lt
    have hsi6 := ho6.since (w0 := w5) (Nat.le_refl _)
    have hbz := hb6.size
    have hb5z := hSL.lt
    obtain ⟨a6, cap6, rfl⟩ := ho6.r.slice
    have hRb := logS_box (w := w6) (s := ⟨ni, nt, nc, nd⟩) (rv := .slice a6 L.length cap6) (es := L) ⟨ho6.r, hlt6⟩
    have hba := (Below.refl w6.heap.size w6).alloc (Nat.le_refl _) (.cells (refCells ⟨ni, nt, nc, nd⟩ (.slice a6 L.length cap6)) 32)
    have hSL7 := hSL6.below hba
    have hbw7 := hbw6.trans (hba.mono (by have := hbw6.size; omega))
    have h67 := hba.size
    have hP : Hid (Situ w (w6.alloc (.cells (refCells ⟨ni, nt, nc, nd⟩ (.slice a6 L.length cap6)) 32)) b w6.heap.size ⟨ni, nt, nc, nd⟩ lv (.slice a6 L.length cap6) L 0) := Lib.hid
      ⟨⟨hSL7, hRb, by omega, fun g off n c e hne => by
          have h8 := hSL6.rowLt g off n c e hne
          omega,
        fun g off n c e => by
          have h8 := hsi6 g off n c e
          have h9 := hlt6 g off n c e
          exact ⟨by omega, by omega⟩, by rw [hN]; exact hbw7, by omega, by have := hbw6.size; omega⟩,
        hGd.out.b, ⟨by show nc.size ≤ _; omega, hLd.out⟩, hGd.out.idx, by have := hnum.out; dsimp only at this ⊢; omega⟩
    unfold refAgg
    unfold refCells at hP
    dsimp only at hP ⊢
    clear hT hSL hSL6 hSL7 hb6 hbw5 hbw6 hbw7 ho6 hlt6 hsi6 hRb hba hGd hnum hLd c0 c1 c2 c3 h67 hcw hok hcs hd0 hc0
    go_wp2_with fail
    generalize hwB : w6.alloc _ = w7 at *
    generalize w6.heap.size = B at *
    clear hwB
    go_loopw [11] (fun i wr => ∃ (k : Nat) (s : Snp) (lv rv : Value) (es : List Ent), k ≤ ops.length ∧ k ≤ 30 ∧ i = .int .i64 k ∧ Hid (Situ w wr b B s lv rv es k)) (fun i _ => ops.length - (intOf i).toNat)
    case atStart => exact ⟨0, _, _, _, _, by omega, by omega, rfl, hP⟩
    case round =>
      clear hP
      obtain ⟨k, s, lv, rv, es, hk, hk30, rfl, HS⟩ := hrel
      have hT0 := law_same HS.out.p.l HS.out.p.refS HS.out.n HS.out.d HS.out.i
      have hbW := HS.out.p.bel
      have hSz := HS.out.p.r
      have z0 := hSz.c0
      have z1 := hSz.c1
      have z2 := hSz.c2
      have z3 := hSz.c3
      have z4 := hSz.c4
      obtain ⟨ar, cr, rfl⟩ := hSz.r.slice
      clear hSz
      unfold refAgg logPtr at hT0
      by_cases hlt : k < ops.length
      · by_cases h30 : k < 30
        · clear hT0 z0 z1 z2 z3 z4
          obtain ⟨bo, oo, e2, hbo, hcell⟩ : ∃ bo oo, a2 = some ⟨bo, oo, none⟩ ∧ bo < w.heap.size ∧ ∀ j u, (lopCells ops[k])[j]? = some u → w.cell? ⟨bo, oo + k * 9 + j, none⟩ = some u := by
            obtain ⟨a', c', hv, -, -, hc⟩ := HR.out
            simp only [Value.slice.injEq] at hv
            obtain ⟨rfl, -, -⟩ := hv
            exact hc k hlt
          subst e2
          have hgo := HGO.out ops[k] (List.getElem_mem hlt)
          generalize ops[k] = o at *
          obtain ⟨xk, xev, xes, xs, xi, xt, xn⟩ := o
          obtain ⟨hoE, hoW, hoS⟩ := hgo
          dsimp only at hoE hoW hoS
          have hd : ∀ j u, (lopCells ⟨xk, xev, xes, xs, xi, xt, xn⟩)[j]? = some u → wr.cell? ⟨bo, oo + k * 9 + j, none⟩ = some u := fun j u hu => (hbW.cell (p := ⟨bo, oo + k * 9 + j, none⟩) hbo).trans (hcell j u hu)
          have d0 : wr.cell? ⟨bo, oo + k * 9, none⟩ = some (.int .i64 xk) := hd 0 _ rfl
          have d1 := hd 1 _ rfl
          have d2 : wr.cell? ⟨bo, oo + k * 9 + 2, none⟩ = some (.int .i64 xs.i) := hd 2 _ rfl
          have d3 : wr.cell? ⟨bo, oo + k * 9 + 3, none⟩ = some (.int .i64 xs.t) := hd 3 _ rfl
          have d4 : wr.cell? ⟨bo, oo + k * 9 + 4, none⟩ = some (.string xs.c) := hd 4 _ rfl
          have d5 : wr.cell? ⟨bo, oo + k * 9 + 5, none⟩ = some (.string xs.d) := hd 5 _ rfl
          have d6 : wr.cell? ⟨bo, oo + k * 9 + 6, none⟩ = some (.int .i64 xi) := hd 6 _ rfl
          have d7 : wr.cell? ⟨bo, oo + k * 9 + 7, none⟩ = some (.int .i64 xt) := hd 7 _ rfl
          have d8 : wr.cell? ⟨bo, oo + k * 9 + 8, none⟩ = some (.int .i64 xn) := hd 8 _ rfl
          obtain ⟨ae, ce, rfl⟩ := hoE.slice
          have hEl : xes.length ≤ 9223372036854775807 := by obtain ⟨a1, c1, h1, h2, h3, -⟩ := hoE; exact Nat.le_trans h2 h3
          have hO := lopB_box wr xk (.slice ae xes.length ce) xs xi xt xn 36
          have hbA := (Below.refl wr.heap.size wr).alloc (Nat.le_refl _) (.cells #[.int .i64 xk, .slice ae xes.length ce, .int .i64 xs.i, .int .i64 xs.t, .string xs.c, .string xs.d, .int .i64 xi, .int .i64 xt, .int .i64 xn] 36)
          have hEA := Lib.hid ((hoE.below hbW).below hbA)
          have HW := Lib.hid hoW
          obtain ⟨hS1, hS2, hS3, hS4⟩ := hoS
          unfold maxLen at hS3 hS4
          have hcsz : (cutSnap xs).c.size ≤ 60 := takeB_size _ _
          have hlo := Lib.hid (cutEnts_lo xes 12 hoW)
          have hcl : (cutEnts xes 12).length ≤ 12 := cutEnts_len _ _
          have hcd := Lib.hid (cutEnts_d xes 12)
          clear hd hcell hoE hoW hbW hS1 hS2
          go_upto_region 15 with fail
          generalize hwA : wr.alloc _ = wA at *
          have hXA : wr.heap.size < wA.heap.size := hO.lt
          clear d0 d1 d2 d3 d4 d5 d6 d7 d8 hwA
          go_cut [] (fun wx => ∃ ev', LopB wx wr.heap.size xk ev' (cutSnap xs) xi xt xn ∧ EntO wx wA.heap.size ev' (cutEnts xes 12) ∧ Keeps [wr.heap.size] wA wx)
          case first =>
            generalize hcsn : cutSnap xs = cs at *
            refine wp_region_tail 7 (by rfl) (by kernel_rfl) (fun k => match k with | 2 => some (fun v wx => EntO wx wA.heap.size v (cutEnts xes 12)) | 5 => some (fun v _ => v = snpAgg cs) | _ => none) ?_ (fun vals => ?_)
            · intro k φ hk v w1 w2 h1 h2
              match k, hk with
              | 2, hk => obtain rfl := Option.some.inj hk; exact EntO.below h1 h2
              | 5, hk => obtain rfl := Option.some.inj hk; exact h1
            dsimp only [List.take, List.drop]
            iterate 1 ((with_reducible refine sw_pure ?_ (fun K hK => ?_)); (· rfl); go_simp; with_reducible refine hK _ ?_; clear hK K)
            refine sw_at (.slice ae xes.length ce) rfl rfl (fun wz hz' hH => ?_) (fun K hK => ?_)
            · have h2 := (hO.below hz').c1
              go_simp
            go_simp; refine hK _ ?_; clear hK K
            refine sw_call _ rfl rfl (fun wz hz' hH => ?_) (fun K hK => ?_)
            · have hT := law_entries _ xes 12 _ (hEA.out.below hz') hEl (by decide) (fun e he => by have := (HW.out e he).2; unfold maxLen at this; omega)
              go_simp
              go_at_call 6
              refine hT.mono ?_
              rintro e w' ⟨v, rfl, ho, hb⟩
              exact ⟨_, rfl, ho.rebase hz'.size, hb⟩
            go_simp; refine hK _ ?_; clear hK K
            iterate 1 ((with_reducible refine sw_pure ?_ (fun K hK => ?_)); (· rfl); go_simp; with_reducible refine hK _ ?_; clear hK K)
            refine sw_at (snpAgg xs) rfl rfl (fun wz hz' hH => ?_) (fun K hK => ?_)
            · have hZ := hO.below hz'
              have c2 := hZ.c2
              have c3 := hZ.c3
              have c4 := hZ.c4
              have c5 := hZ.c5
              clear hZ
              unfold snpAgg
              go_simp
            go_simp; refine hK _ ?_; clear hK K
            refine sw_call _ rfl rfl (fun wz hz' hH => ?_) (fun K hK => ?_)
            · have hT := law_snap xs wz hS3 hS4
              rw [hcsn] at hT
              unfold snpAgg at hT ⊢
              go_simp
              go_at_call 5
              refine hT.mono ?_
              rintro e w' ⟨rfl, hb⟩
              exact ⟨_, rfl, rfl, hb⟩
            go_simp; refine hK _ ?_; clear hK K
            iterate 1 ((with_reducible refine sw_pure ?_ (fun K hK => ?_)); (· rfl); go_simp; with_reducible refine hK _ ?_; clear hK K)
            refine sw_done (fun wz hz' hH => ?_)
            have e5 := hH _ (List.Mem.head _)
            have e2 := hH _ (List.Mem.tail _ (List.Mem.head _))
            dsimp only at e5 e2
            obtain ⟨av, cv, he⟩ := e2.r.slice
            rw [he] at e2
            have hOz := hO.below hz'
            have y1 := hOz.c1
            have y2 := hOz.c2
            have y3 := hOz.c3
            have y4 := hOz.c4
            have y5 := hOz.c5
            have f1 := hOz.fr 1
            have f2 := hOz.fr 2
            have f3 := hOz.fr 3
            have f4 := hOz.fr 4
            have f5 := hOz.fr 5
            have HOZ := Lib.hid ((hOz.setE (.slice av (cutEnts xes 12).length cv)).1.setS cs).1
            have HEZ := Lib.hid (((((e2.set (p := ⟨wr.heap.size, 1, none⟩) hXA (.slice av (cutEnts xes 12).length cv)).set (p := ⟨wr.heap.size, 2, none⟩) hXA (.int .i64 cs.i)).set (p := ⟨wr.heap.size, 3, none⟩) hXA (.int .i64 cs.t)).set (p := ⟨wr.heap.size, 4, none⟩) hXA (.string cs.c)).set (p := ⟨wr.heap.size, 5, none⟩) hXA (.string cs.d))
            have HKZ := Lib.hid ((Keeps.of_below (F := [wr.heap.size]) hz'))
            rw [e5, he]
            unfold tailQ snpAgg
            clear hH e5 e2 he hOz hz'
            go_wp2_with fail
            go_meet
            exact ⟨_, HOZ.out, HEZ.out, ((((HKZ.out.setCell (.inl (by simp)) _).setCell (.inl (by simp)) _).setCell (.inl (by simp)) _).setCell (.inl (by simp)) _).setCell (.inl (by simp)) _⟩
          case rest =>
            obtain ⟨ev2, hO2, hE2, hK2⟩ := hcut
            have hb2 : Below wr.heap.size wr wc := hbA.trans (hK2.below (B := wr.heap.size) (fun x hx => by simp at hx; omega) hbA.size)
            have HS2 := Lib.hid (HS.out.below hb2)
            have hbX : b < wr.heap.size := HS.out.p.l.lt
            have hBX : B < wr.heap.size := HS.out.p.r.lt
            have hXz : wr.heap.size < wc.heap.size := hO2.lt
            have hAz : wA.heap.size ≤ wc.heap.size := hK2.size
            obtain ⟨ae2, ce2, rfl⟩ := hE2.r.slice
            have o0 := hO2.c0
            clear hK2 hb2 HS hO hbA hEA hS3 hS4 HW HGO
            generalize wr.heap.size = X at *
            generalize cutSnap xs = cs at *
            generalize cutEnts xes 12 = fs at *
            by_cases m0 : xk = 0
            · obtain rfl := m0
              have hT := log_put HS2.out.p.l HS2.out.n hE2.r (by omega) hlo.out
              unfold logPtr at hT
              have o1 := hO2.c1
              go_wp2_with fail
              refine hT.mono ?_
              rintro e w8 ⟨lv8, rfl, hL8, hK8, hv8⟩
              have P8 := HS2.out.p.stepL hL8 hK8 hv8
              have hO8 := hO2.keeps hK8 (by simp; omega)
              have hE8 := hE2.r.keeps hK8 (fun g off n c e => by have := hE2.since (w0 := wA) (Nat.le_refl _) g off n c e; simp; omega)
              have hT2 := ref_put P8.refS HS2.out.n hE8 (by omega) hlo.out
              have HPUT := Lib.hid (fun w' lv' rv' => HS2.out.put (w' := w') (lv' := lv') (rv' := rv') hlo.out hcd.out)
              unfold RetRPut refAgg at hT2
              generalize putP s es fs = R at *
              obtain ⟨⟨p1, p2⟩, es'⟩ := R
              dsimp only at P8 hT2 HPUT ⊢
              have y1 := hO8.c1
              have z0 := P8.r.c0
              have z1 := P8.r.c1
              have z2 := P8.r.c2
              have z3 := P8.r.c3
              have z4 := P8.r.c4
              have h8z : wc.heap.size ≤ w8.heap.size := hK8.size
              have HP8 := Lib.hid P8
              clear hT o0 o1 hL8 hK8 hv8 hO8 hE8 P8 hO2 hE2
              go_wp2_with fail
              refine hT2.mono ?_
              rintro e w9 ⟨hb9, v9, rfl, hv9⟩
              have P9 := HP8.out.below hb9
              have hr9 : EntR w9 v9 es' ∧ (v9 = .slice ar es.length cr ∨ v9 = .slice none 0 0 ∨ EntO w9 w8.heap.size v9 es') := by
                rcases hv9 with ⟨h1, h2⟩ | h
                · subst h2
                  exact ⟨by rw [h1]; exact P9.r.r, .inl h1⟩
                · exact ⟨h.r, .inr (.inr h)⟩
              obtain ⟨a9, c9, rfl⟩ := hr9.1.slice
              obtain ⟨hr9, ho9⟩ := hr9
              have hba := (Below.refl w9.heap.size w9).alloc (Nat.le_refl _) (.cells #[.int .i64 s.i, .int .i64 s.t, .string s.c, .string s.d, .slice a9 es'.length c9] 32)
              have P10 := P9.below hba
              have HP11 := Lib.hid (HPUT.out _ _ _ (P10.store (w0 := w8) (t' := s) (hr9.below hba) (ho9.imp id (Or.imp id (fun h => EntO.below h hba))) (by omega) (by omega)))
              have z0 := P10.r.c0
              have z1 := P10.r.c1
              have z2 := P10.r.c2
              have z3 := P10.r.c3
              have z4 := P10.r.c4
              have f0 := P10.r.fr 0
              have f1 := P10.r.fr 1
              have f2 := P10.r.fr 2
              have f3 := P10.r.fr 3
              have f4 := P10.r.fr 4
              have hBne : B ≠ w9.heap.size := by have := P9.r.lt; omega
              have hBne' : w9.heap.size ≠ B := fun e => hBne e.symm
              clear hT2 hv9 P9 ho9 hr9 hba P10 hb9 HP8 HPUT y1
              go_upto_region 25 with fail
              generalize ((((World.setCell _ ⟨B, 0, none⟩ _).setCell _ _).setCell _ _).setCell _ _).setCell _ _ = w11 at *
              have HS9 := HP11
              have hT9 := law_same HS9.out.p.l HS9.out.p.refS HS9.out.n HS9.out.d HS9.out.i
              unfold refAgg logPtr at hT9
              have z0 := HS9.out.p.r.c0
              have z1 := HS9.out.p.r.c1
              have z2 := HS9.out.p.r.c2
              have z3 := HS9.out.p.r.c3
              have z4 := HS9.out.p.r.c4
              clear f0 f1 f2 f3 f4 HP11 hBne hBne'
              go_wp2_with fail
              refine hT9.mono ?_
              rintro e w12 ⟨rfl, hb12⟩
              have HF := Lib.hid (HS9.out.below hb12)
              clear hT9 hb12 z0 z1 z2 z3 z4
              go_wp2_with fail
              go_roundw
              case rel => exact ⟨k + 1, _, _, _, _, by omega, by omega, by go_num, HF⟩
              case measure => simp [intOf]; omega
            · by_cases m1 : xk = 1
              · obtain rfl := m1
                have o2 := hO2.c2
                have o3 := hO2.c3
                have o4 := hO2.c4
                have o5 := hO2.c5
                have z0 := HS2.out.p.r.c0
                have z1 := HS2.out.p.r.c1
                have z2 := HS2.out.p.r.c2
                have z3 := HS2.out.p.r.c3
                have z4 := HS2.out.p.r.c4
                cases hp : packOk s es cs with
                | true =>
                  have hT := ref_pack (n := cs) HS2.out.p.refS HS2.out.n
                  unfold RetRPack refAgg snpAgg at hT
                  rw [hp] at hT
                  go_wp2_with fail
                  refine hT.mono ?_
                  rintro e w8 ⟨hb8, hv8⟩
                  have P8 := HS2.out.p.below hb8
                  have hO8 := hO2.below hb8
                  have h8z : wc.heap.size ≤ w8.heap.size := hb8.size
                  clear z0 z1 z2 z3 z4
                  first | rw [if_pos rfl] at hv8 | rw [if_pos trivial] at hv8
                  obtain ⟨v8, rfl, ho8⟩ := hv8
                  have HPK := Lib.hid (fun w' lv' rv' => HS2.out.pack (w' := w') (lv' := lv') (rv' := rv') h30 hp (by omega))
                  have hPL := Lib.hid hp
                  have HPP := Lib.hid (fun (u : World) (lu : Value) (h : LogS u b s lu es) => log_pack (n := cs) h HS2.out.n)
                  clear hp
                  generalize hes : es.drop (cs.i - s.i).toNat = es' at *
                  have HES := Lib.hid hes
                  clear hes
                  obtain ⟨a8, c8, rfl⟩ := ho8.r.slice
                  have hba := (Below.refl w8.heap.size w8).alloc (Nat.le_refl _) (.cells #[.int .i64 cs.i, .int .i64 cs.t, .string cs.c, .string cs.d, (.slice a8 es'.length c8)] 32)
                  have P10 := P8.below hba
                  have hO10 := hO8.below hba
                  have HP11 := Lib.hid (P10.store (w0 := wc) (t' := cs) (ho8.r.below hba) (.inr (.inr (EntO.below ho8 hba))) (by omega) (by omega))
                  have HK11 := Lib.hid (keeps5 (w8.alloc (.cells #[.int .i64 cs.i, .int .i64 cs.t, .string cs.c, .string cs.d, (.slice a8 es'.length c8)] 32)) B (.int .i64 cs.i) (.int .i64 cs.t) (.string cs.c) (.string cs.d) (.slice a8 es'.length c8))
                  have HO11 := Lib.hid (hO10.keeps HK11.out (by simp; omega))
                  have z0 := P10.r.c0
                  have z1 := P10.r.c1
                  have z2 := P10.r.c2
                  have z3 := P10.r.c3
                  have z4 := P10.r.c4
                  have f0 := P10.r.fr 0
                  have f1 := P10.r.fr 1
                  have f2 := P10.r.fr 2
                  have f3 := P10.r.fr 3
                  have f4 := P10.r.fr 4
                  have hBne : B ≠ w8.heap.size := by have := P8.r.lt; omega
                  have hBne' : w8.heap.size ≠ B := fun e => hBne e.symm
                  clear hT P8 hba P10 hb8 hO8 hO10 HK11 o0 o2 o3 o4 o5 ho8
                  go_upto_region 29 with fail
                  generalize ((((World.setCell _ ⟨B, 0, none⟩ _).setCell _ _).setCell _ _).setCell _ _).setCell _ _ = w11 at *
                  have hT3 := HPP.out _ _ HP11.out.l
                  unfold RetPack logPtr snpAgg at hT3
                  rw [hPL.out] at hT3
                  have y2 := HO11.out.c2
                  have y3 := HO11.out.c3
                  have y4 := HO11.out.c4
                  have y5 := HO11.out.c5
                  clear f0 f1 f2 f3 f4 hBne hBne' z0 z1 z2 z3 z4
                  go_wp2_with fail
                  refine hT3.mono ?_
                  rintro e w12 ⟨lv12, rfl, hK12, hv12, hL12⟩
                  first | rw [if_pos rfl] at hL12 | rw [if_pos trivial] at hL12
                  rw [HES.out] at hL12
                  have HP11 := Lib.hid (HPK.out _ _ _ (HP11.out.stepL hL12 hK12 hv12))
                  have HS9 := HP11
                  have hT9 := law_same HS9.out.p.l HS9.out.p.refS HS9.out.n HS9.out.d HS9.out.i
                  unfold refAgg logPtr at hT9
                  have z0 := HS9.out.p.r.c0
                  have z1 := HS9.out.p.r.c1
                  have z2 := HS9.out.p.r.c2
                  have z3 := HS9.out.p.r.c3
                  have z4 := HS9.out.p.r.c4
                  clear hT3 y2 y3 y4 y5 hL12 hK12 hv12 HPP
                  go_wp2_with fail
                  refine hT9.mono ?_
                  rintro e w19 ⟨rfl, hb12⟩
                  have HF := Lib.hid (HS9.out.below hb12)
                  clear hT9 hb12 z0 z1 z2 z3 z4
                  go_wp2_with fail
                  go_roundw
                  case rel => exact ⟨k + 1, _, _, _, _, by omega, by omega, by go_num, HF⟩
                  case measure => simp [intOf]; omega
                | false =>
                  have hT := ref_pack (n := cs) HS2.out.p.refS HS2.out.n
                  unfold RetRPack refAgg snpAgg at hT
                  rw [hp] at hT
                  go_wp2_with fail
                  refine hT.mono ?_
                  rintro e w8 ⟨hb8, hv8⟩
                  have P8 := HS2.out.p.below hb8
                  have hO8 := hO2.below hb8
                  have h8z : wc.heap.size ≤ w8.heap.size := hb8.size
                  clear z0 z1 z2 z3 z4
                  rw [if_neg (by decide)] at hv8
                  subst hv8
                  have hPL := Lib.hid hp
                  have HPP := Lib.hid (fun (u : World) (lu : Value) (h : LogS u b s lu es) => log_pack (n := cs) h HS2.out.n)
                  clear hp
                  have hba := (Below.refl w8.heap.size w8).alloc (Nat.le_refl _) (.cells #[.int .i64 s.i, .int .i64 s.t, .string s.c, .string s.d, (.slice ar es.length cr)] 32)
                  have P10 := P8.below hba
                  have hO10 := hO8.below hba
                  have HP11 := Lib.hid (P10.store (w0 := wc) (t' := s) (P10.r.r) (.inl rfl) (by omega) (by omega))
                  have HK11 := Lib.hid (keeps5 (w8.alloc (.cells #[.int .i64 s.i, .int .i64 s.t, .string s.c, .string s.d, (.slice ar es.length cr)] 32)) B (.int .i64 s.i) (.int .i64 s.t) (.string s.c) (.string s.d) (.slice ar es.length cr))
                  have HO11 := Lib.hid (hO10.keeps HK11.out (by simp; omega))
                  have z0 := P10.r.c0
                  have z1 := P10.r.c1
                  have z2 := P10.r.c2
                  have z3 := P10.r.c3
                  have z4 := P10.r.c4
                  have f0 := P10.r.fr 0
                  have f1 := P10.r.fr 1
                  have f2 := P10.r.fr 2
                  have f3 := P10.r.fr 3
                  have f4 := P10.r.fr 4
                  have hBne : B ≠ w8.heap.size := by have := P8.r.lt; omega
                  have hBne' : w8.heap.size ≠ B := fun e => hBne e.symm
                  clear hT P8 hba P10 hb8 hO8 hO10 HK11 o0 o2 o3 o4 o5
                  go_upto_region 29 with fail
                  generalize ((((World.setCell _ ⟨B, 0, none⟩ _).setCell _ _).setCell _ _).setCell _ _).setCell _ _ = w11 at *
                  have hT3 := HPP.out _ _ HP11.out.l
                  unfold RetPack logPtr snpAgg at hT3
                  rw [hPL.out] at hT3
                  have y2 := HO11.out.c2
                  have y3 := HO11.out.c3
                  have y4 := HO11.out.c4
                  have y5 := HO11.out.c5
                  clear f0 f1 f2 f3 f4 hBne hBne' z0 z1 z2 z3 z4
                  go_wp2_with fail
                  refine hT3.mono ?_
                  rintro e w12 ⟨lv12, rfl, hK12, hv12, hL12⟩
                  rw [if_neg (by decide)] at hL12
                  have HP11 := Lib.hid (Situ.next (⟨HP11.out.stepL hL12 hK12 hv12, HS2.out.n, HS2.out.d, HS2.out.i, HS2.out.num⟩ : Situ w w12 b B s lv12 (.slice ar es.length cr) es k))
                  have HS9 := HP11
                  have hT9 := law_same HS9.out.p.l HS9.out.p.refS HS9.out.n HS9.out.d HS9.out.i
                  unfold refAgg logPtr at hT9
                  have z0 := HS9.out.p.r.c0
                  have z1 := HS9.out.p.r.c1
                  have z2 := HS9.out.p.r.c2
                  have z3 := HS9.out.p.r.c3
                  have z4 := HS9.out.p.r.c4
                  clear hT3 y2 y3 y4 y5 hL12 hK12 hv12 HPP
                  go_wp2_with fail
                  refine hT9.mono ?_
                  rintro e w19 ⟨rfl, hb12⟩
                  have HF := Lib.hid (HS9.out.below hb12)
                  clear hT9 hb12 z0 z1 z2 z3 z4
                  go_wp2_with fail
                  go_roundw
                  case rel => exact ⟨k + 1, _, _, _, _, by omega, by omega, by go_num, HF⟩
                  case measure => simp [intOf]; omega
              · by_cases m2 : xk = 2
                · obtain rfl := m2
                  have o2 := hO2.c2
                  by_cases n0 : cs.i < 0
                  · have t4 : decide (cs.i < 0) = true := decide_eq_true n0
                    have HF := Lib.hid HS2.out.next
                    go_wp2_with fail
                    go_roundw
                    case rel => exact ⟨k + 1, _, _, _, _, by omega, by omega, by go_num, HF⟩
                    case measure => simp [intOf]; omega
                  · have t4 : decide (cs.i < 0) = false := decide_eq_false n0
                    by_cases n1 : 1099511627776 < cs.i
                    · have t5 : decide (1099511627776 < cs.i) = true := decide_eq_true n1
                      have HF := Lib.hid HS2.out.next
                      go_wp2_with fail
                      go_roundw
                      case rel => exact ⟨k + 1, _, _, _, _, by omega, by omega, by go_num, HF⟩
                      case measure => simp [intOf]; omega
                    · have t5 : decide (1099511627776 < cs.i) = false := decide_eq_false n1
                      have o3 := hO2.c3
                      have o4 := hO2.c4
                      have o5 := hO2.c5
                      have hT := log_set (n := cs) HS2.out.p.l
                      unfold logPtr snpAgg at hT
                      go_wp2_with fail
                      refine hT.mono ?_
                      rintro e w8 ⟨rfl, hL8, hK8⟩
                      have P10 := HS2.out.p.stepL hL8 hK8 (.inr (fun g off n c e => by cases e))
                      have hO8 := hO2.keeps hK8 (by simp; omega)
                      have y2 := hO8.c2
                      have y3 := hO8.c3
                      have y4 := hO8.c4
                      have y5 := hO8.c5
                      have HP11 := Lib.hid (Situ.set (k := k) (by omega) (by omega) (by omega) (P10.store (w0 := wc) (t' := cs) (rv' := .slice none 0 0) (fs' := []) (EntR.nil _ _ _ (by omega)) (.inr (.inl rfl)) (by omega) (by omega)))
                      have z0 := P10.r.c0
                      have z1 := P10.r.c1
                      have z2 := P10.r.c2
                      have z3 := P10.r.c3
                      have z4 := P10.r.c4
                      have f0 := P10.r.fr 0
                      have f1 := P10.r.fr 1
                      have f2 := P10.r.fr 2
                      have f3 := P10.r.fr 3
                      have f4 := P10.r.fr 4
                      clear hT hL8 hK8 P10 hO8 o0 o2 o3 o4 o5
                      go_upto_region 34 with fail
                      generalize ((((World.setCell _ ⟨B, 0, none⟩ _).setCell _ _).setCell _ _).setCell _ _).setCell _ _ = w11 at *
                      clear f0 f1 f2 f3 f4 z0 z1 z2 z3 z4 y2 y3 y4 y5
                      have HS9 := HP11
                      have hT9 := law_same HS9.out.p.l HS9.out.p.refS HS9.out.n HS9.out.d HS9.out.i
                      unfold refAgg logPtr at hT9
                      have z0 := HS9.out.p.r.c0
                      have z1 := HS9.out.p.r.c1
                      have z2 := HS9.out.p.r.c2
                      have z3 := HS9.out.p.r.c3
                      have z4 := HS9.out.p.r.c4
                      go_wp2_with fail
                      refine hT9.mono ?_
                      rintro e w19 ⟨rfl, hb12⟩
                      have HF := Lib.hid (HS9.out.below hb12)
                      clear hT9 hb12 z0 z1 z2 z3 z4
                      go_wp2_with fail
                      go_roundw
                      case rel => exact ⟨k + 1, _, _, _, _, by omega, by omega, by go_num, HF⟩
                      case measure => simp [intOf]; omega
                · have t0 : (xk == 0) = false := beq_eq_false_iff_ne.2 m0
                  have t1 : (xk == 1) = false := beq_eq_false_iff_ne.2 m1
                  have t2 : (xk == 2) = false := beq_eq_false_iff_ne.2 m2
                  have o6 := hO2.c6
                  have hT := log_term xi HS2.out.p.l HS2.out.n
                  unfold logPtr at hT
                  go_wp2_with fail
                  refine hT.mono ?_
                  rintro e w8 ⟨rfl, hb8⟩
                  have S8 := HS2.out.below hb8
                  have O8 := hO2.below hb8
                  have hT2 := ref_term xi S8.p.refS S8.n
                  unfold refAgg at hT2
                  have z0 := S8.p.r.c0
                  have z1 := S8.p.r.c1
                  have z2 := S8.p.r.c2
                  have z3 := S8.p.r.c3
                  have z4 := S8.p.r.c4
                  have y6 := O8.c6
                  have HS8 := Lib.hid S8
                  have HO8 := Lib.hid O8
                  clear hT S8 O8 o0 o6 hb8
                  go_wp2_with fail
                  refine hT2.mono ?_
                  rintro e w9 ⟨rfl, hb9⟩
                  have HS9 := Lib.hid (HS8.out.below hb9)
                  have HO9 := Lib.hid (HO8.out.below hb9)
                  have hgl : (getP s es xi xn).length ≤ 1000000000000 := by
                    have := HS9.out.n.2.2
                    unfold getP
                    split
                    · simp
                    · rw [List.length_take, List.length_drop]; omega
                  clear hT2 hb9 HS8 HO8 z0 z1 z2 z3 z4 y6
                  generalize termP s es xi = T at *
                  obtain ⟨T1, T2⟩ := T
                  dsimp only
                  go_upto_region 20 with fail
                  refine wp_region_sw (by rfl) (by kernel_rfl) (fun k => match k with | 14 => some (fun v _ => v = .bool (fitsP s es xi xt)) | 20 => some (fun v _ => v = .bool (fitsP s es xi xt)) | 29 => some (fun v _ => v = .bool (newerP s es xi xt)) | 35 => some (fun v _ => v = .bool (newerP s es xi xt)) | 44 => some (fun v w => EntR w v (getP s es xi xn)) | 50 => some (fun v w => EntR w v (getP s es xi xn)) | 51 => some (fun v _ => v = .bool true) | _ => none) ?_ (fun vals => ?_)
                  · intro k φ hk v w1 w2 h1 h2
                    match k, hk with
                    | 14, hk => obtain rfl := Option.some.inj hk; exact h1
                    | 20, hk => obtain rfl := Option.some.inj hk; exact h1
                    | 29, hk => obtain rfl := Option.some.inj hk; exact h1
                    | 35, hk => obtain rfl := Option.some.inj hk; exact h1
                    | 44, hk => obtain rfl := Option.some.inj hk; exact EntR.below h1 h2
                    | 50, hk => obtain rfl := Option.some.inj hk; exact EntR.below h1 h2
                    | 51, hk => obtain rfl := Option.some.inj hk; exact h1
                  iterate 11 ((with_reducible refine sw_pure ?_ (fun K hK => ?_)); (· rfl); go_simp; with_reducible refine hK _ ?_; clear hK K)
                  refine sw_at (.int .i64 xi) rfl rfl (fun wz hz hH => ?_) (fun K hK => ?_)
                  · have h2 := (HO9.out.below hz).c6
                    go_simp
                  go_simp; refine hK _ ?_; clear hK K
                  iterate 1 ((with_reducible refine sw_pure ?_ (fun K hK => ?_)); (· rfl); go_simp; with_reducible refine hK _ ?_; clear hK K)
                  refine sw_at (.int .i64 xt) rfl rfl (fun wz hz hH => ?_) (fun K hK => ?_)
                  · have h2 := (HO9.out.below hz).c7
                    go_simp
                  go_simp; refine hK _ ?_; clear hK K
                  refine sw_call _ rfl rfl (fun wz hz hH => ?_) (fun K hK => ?_)
                  · have hT := log_fits xi xt (HS9.out.p.l.below hz) HS9.out.n
                    unfold logPtr at hT
                    go_simp
                    go_at_call 16
                    refine hT.mono ?_
                    rintro e w' ⟨rfl, hb⟩
                    exact ⟨_, rfl, rfl, hb⟩
                  go_simp; refine hK _ ?_; clear hK K
                  refine sw_at (.agg #[.int .i64 s.i, .int .i64 s.t, .string s.c, .string s.d, .slice ar es.length cr]) rfl rfl (fun wz hz hH => ?_) (fun K hK => ?_)
                  · have hZ := HS9.out.p.r.below hz
                    have c0 := hZ.c0
                    have c1 := hZ.c1
                    have c2 := hZ.c2
                    have c3 := hZ.c3
                    have c4 := hZ.c4
                    clear hZ
                    go_simp
                  go_simp; refine hK _ ?_; clear hK K
                  iterate 1 ((with_reducible refine sw_pure ?_ (fun K hK => ?_)); (· rfl); go_simp; with_reducible refine hK _ ?_; clear hK K)
                  refine sw_at (.int .i64 xi) rfl rfl (fun wz hz hH => ?_) (fun K hK => ?_)
                  · have h2 := (HO9.out.below hz).c6
                    go_simp
                  go_simp; refine hK _ ?_; clear hK K
                  iterate 1 ((with_reducible refine sw_pure ?_ (fun K hK => ?_)); (· rfl); go_simp; with_reducible refine hK _ ?_; clear hK K)
                  refine sw_at (.int .i64 xt) rfl rfl (fun wz hz hH => ?_) (fun K hK => ?_)
                  · have h2 := (HO9.out.below hz).c7
                    go_simp
                  go_simp; refine hK _ ?_; clear hK K
                  refine sw_call _ rfl rfl (fun wz hz hH => ?_) (fun K hK => ?_)
                  · have hT := ref_fits xi xt (HS9.out.p.refS.below hz) HS9.out.n
                    unfold refAgg at hT
                    go_simp
                    go_at_call 17
                    refine hT.mono ?_
                    rintro e w' ⟨rfl, hb⟩
                    exact ⟨_, rfl, rfl, hb⟩
                  go_simp; refine hK _ ?_; clear hK K
                  refine sw_at (.bool true) rfl rfl (fun wz hz hH => ?_) (fun K hK => ?_)
                  · have h3 := hH _ (List.Mem.head _) rfl
                    have h4 := hH _ (List.Mem.tail _ (List.Mem.head _)) rfl
                    dsimp only at h3 h4
                    rw [h3, h4]
                    go_simp
                  go_simp; refine hK _ ?_; clear hK K
                  iterate 4 ((with_reducible refine sw_pure ?_ (fun K hK => ?_)); (· rfl); go_simp; with_reducible refine hK _ ?_; clear hK K)
                  refine sw_at (.int .i64 xi) rfl rfl (fun wz hz hH => ?_) (fun K hK => ?_)
                  · have h2 := (HO9.out.below hz).c6
                    go_simp
                  go_simp; refine hK _ ?_; clear hK K
                  iterate 1 ((with_reducible refine sw_pure ?_ (fun K hK => ?_)); (· rfl); go_simp; with_reducible refine hK _ ?_; clear hK K)
                  refine sw_at (.int .i64 xt) rfl rfl (fun wz hz hH => ?_) (fun K hK => ?_)
                  · have h2 := (HO9.out.below hz).c7
                    go_simp
                  go_simp; refine hK _ ?_; clear hK K
                  refine sw_call _ rfl rfl (fun wz hz hH => ?_) (fun K hK => ?_)
                  · have hT := log_newer xi xt (HS9.out.p.l.below hz) HS9.out.n
                    unfold logPtr at hT
                    go_simp
                    go_at_call 18
                    refine hT.mono ?_
                    rintro e w' ⟨rfl, hb⟩
                    exact ⟨_, rfl, rfl, hb⟩
                  go_simp; refine hK _ ?_; clear hK K
                  refine sw_at (.agg #[.int .i64 s.i, .int .i64 s.t, .string s.c, .string s.d, .slice ar es.length cr]) rfl rfl (fun wz hz hH => ?_) (fun K hK => ?_)
                  · have hZ := HS9.out.p.r.below hz
                    have c0 := hZ.c0
                    have c1 := hZ.c1
                    have c2 := hZ.c2
                    have c3 := hZ.c3
                    have c4 := hZ.c4
                    clear hZ
                    go_simp
                  go_simp; refine hK _ ?_; clear hK K
                  iterate 1 ((with_reducible refine sw_pure ?_ (fun K hK => ?_)); (· rfl); go_simp; with_reducible refine hK _ ?_; clear hK K)
                  refine sw_at (.int .i64 xi) rfl rfl (fun wz hz hH => ?_) (fun K hK => ?_)
                  · have h2 := (HO9.out.below hz).c6
                    go_simp
                  go_simp; refine hK _ ?_; clear hK K
                  iterate 1 ((with_reducible refine sw_pure ?_ (fun K hK => ?_)); (· rfl); go_simp; with_reducible refine hK _ ?_; clear hK K)
                  refine sw_at (.int .i64 xt) rfl rfl (fun wz hz hH => ?_) (fun K hK => ?_)
                  · have h2 := (HO9.out.below hz).c7
                    go_simp
                  go_simp; refine hK _ ?_; clear hK K
                  refine sw_call _ rfl rfl (fun wz hz hH => ?_) (fun K hK => ?_)
                  · have hT := ref_newer xi xt (HS9.out.p.refS.below hz) HS9.out.n
                    unfold refAgg at hT
                    go_simp
                    go_at_call 19
                    refine hT.mono ?_
                    rintro e w' ⟨rfl, hb⟩
                    exact ⟨_, rfl, rfl, hb⟩
                  go_simp; refine hK _ ?_; clear hK K
                  refine sw_at (.bool true) rfl rfl (fun wz hz hH => ?_) (fun K hK => ?_)
                  · have h3 := hH _ (List.Mem.head _) rfl
                    have h4 := hH _ (List.Mem.tail _ (List.Mem.head _)) rfl
                    dsimp only at h3 h4
                    rw [h3, h4]
                    go_simp
                  go_simp; refine hK _ ?_; clear hK K
                  iterate 4 ((with_reducible refine sw_pure ?_ (fun K hK => ?_)); (· rfl); go_simp; with_reducible refine hK _ ?_; clear hK K)
                  refine sw_at (.int .i64 xi) rfl rfl (fun wz hz hH => ?_) (fun K hK => ?_)
                  · have h2 := (HO9.out.below hz).c6
                    go_simp
                  go_simp; refine hK _ ?_; clear hK K
                  iterate 1 ((with_reducible refine sw_pure ?_ (fun K hK => ?_)); (· rfl); go_simp; with_reducible refine hK _ ?_; clear hK K)
                  refine sw_at (.int .i64 xn) rfl rfl (fun wz hz hH => ?_) (fun K hK => ?_)
                  · have h2 := (HO9.out.below hz).c8
                    go_simp
                  go_simp; refine hK _ ?_; clear hK K
                  refine sw_call _ rfl rfl (fun wz hz hH => ?_) (fun K hK => ?_)
                  · have hT := log_get xi xn (HS9.out.p.l.below hz) HS9.out.n
                    unfold logPtr at hT
                    go_simp
                    go_at_call 21
                    refine hT.mono ?_
                    rintro e w' ⟨v, rfl, ho, hb⟩
                    exact ⟨_, rfl, ho.r, hb⟩
                  go_simp; refine hK _ ?_; clear hK K
                  refine sw_at (.agg #[.int .i64 s.i, .int .i64 s.t, .string s.c, .string s.d, .slice ar es.length cr]) rfl rfl (fun wz hz hH => ?_) (fun K hK => ?_)
                  · have hZ := HS9.out.p.r.below hz
                    have c0 := hZ.c0
                    have c1 := hZ.c1
                    have c2 := hZ.c2
                    have c3 := hZ.c3
                    have c4 := hZ.c4
                    clear hZ
                    go_simp
                  go_simp; refine hK _ ?_; clear hK K
                  iterate 1 ((with_reducible refine sw_pure ?_ (fun K hK => ?_)); (· rfl); go_simp; with_reducible refine hK _ ?_; clear hK K)
                  refine sw_at (.int .i64 xi) rfl rfl (fun wz hz hH => ?_) (fun K hK => ?_)
                  · have h2 := (HO9.out.below hz).c6
                    go_simp
                  go_simp; refine hK _ ?_; clear hK K
                  iterate 1 ((with_reducible refine sw_pure ?_ (fun K hK => ?_)); (· rfl); go_simp; with_reducible refine hK _ ?_; clear hK K)
                  refine sw_at (.int .i64 xn) rfl rfl (fun wz hz hH => ?_) (fun K hK => ?_)
                  · have h2 := (HO9.out.below hz).c8
                    go_simp
                  go_simp; refine hK _ ?_; clear hK K
                  refine sw_call _ rfl rfl (fun wz hz hH => ?_) (fun K hK => ?_)
                  · have hT := ref_get xi xn (HS9.out.p.refS.below hz) HS9.out.n
                    unfold refAgg at hT
                    go_simp
                    go_at_call 22
                    refine hT.mono ?_
                    rintro e w' ⟨v, rfl, ho, hb⟩
                    exact ⟨_, rfl, ho.r, hb⟩
                  go_simp; refine hK _ ?_; clear hK K
                  refine sw_call _ rfl rfl (fun wz hz hH => ?_) (fun K hK => ?_)
                  · have h3 := hH _ (List.Mem.head _) rfl
                    have h4 := hH _ (List.Mem.tail _ (List.Mem.head _)) rfl
                    dsimp only at h3 h4
                    go_simp
                    go_at_call 20
                    refine (eq_entries _ _ (getP s es xi xn) _ h4 h3 hgl).mono ?_
                    rintro e w' ⟨rfl, hb⟩
                    exact ⟨_, rfl, rfl, hb⟩
                  go_simp; refine hK _ ?_; clear hK K
                  refine sw_at (.bool true) rfl rfl (fun wz hz hH => ?_) (fun K hK => ?_)
                  · have h3 := hH _ (List.Mem.head _) rfl
                    dsimp only at h3
                    rw [h3]
                    go_simp
                  go_simp; refine hK _ ?_; clear hK K
                  iterate 1 ((with_reducible refine sw_pure ?_ (fun K hK => ?_)); (· rfl); go_simp; with_reducible refine hK _ ?_; clear hK K)
                  refine sw_done (fun wz hz hH => ?_)
                  have HP11 := Lib.hid (HS9.out.below hz).next
                  clear HS9
                  have HS9 := HP11
                  have hT9 := law_same HS9.out.p.l HS9.out.p.refS HS9.out.n HS9.out.d HS9.out.i
                  unfold refAgg logPtr at hT9
                  have z0 := HS9.out.p.r.c0
                  have z1 := HS9.out.p.r.c1
                  have z2 := HS9.out.p.r.c2
                  have z3 := HS9.out.p.r.c3
                  have z4 := HS9.out.p.r.c4
                  go_wp2_with fail
                  refine hT9.mono ?_
                  rintro e w19 ⟨rfl, hb12⟩
                  have HF := Lib.hid (HS9.out.below hb12)
                  clear hT9 hb12 z0 z1 z2 z3 z4
                  go_wp2_with fail
                  go_roundw
                  case rel => exact ⟨k + 1, _, _, _, _, by omega, by omega, by go_num, HF⟩
                  case measure => simp [intOf]; omega
        · have t30 : decide ((k : Int) < 30) = false := decide_eq_false (by omega)
          go_wp2_with fail
          refine hT0.mono ?_
          rintro e w8 ⟨rfl, hb8⟩
          go_wp2_with fail
          go_ret
          exact ⟨rfl, hbW.trans (hb8.mono hbW.size)⟩
      · have tlt : decide ((k : Int) < (ops.length : Int)) = false := decide_eq_false (by omega)
        go_wp2_with fail
        refine hT0.mono ?_
        rintro e w8 ⟨rfl, hb8⟩
        go_wp2_with fail
        go_ret
        exact ⟨rfl, hbW.trans (hb8.mono hbW.size)⟩
  · rw [if_neg hok] at hn
    obtain ⟨rfl, hb5⟩ := hn
    have hbw5 := hbw4.trans (hb5.mono hbw4z)
    have hB5 := hS4.below hb5
    have hr5 := hr4.below hb5
    have hT := ref_new ⟨ni, nt, nc, nd⟩ _ L w5 hr5 (by omega) hcw
    have c0 := hB5.c0
    have c1 := hB5.c1
    have c2 := hB5.c2
    have c3 := hB5.c3
    dsimp only at c0 c1 c2 c3
    unfold snpAgg at hT
    clear hB5 hr5
    go_wp2_with fail
    refine hT.mono ?_
    intro e w6 hn2
    unfold RetRNew at hn2
    rw [if_neg hok] at hn2
    obtain ⟨hb6, rfl⟩ := hn2
    have hbw6 := hbw5.trans (hb6.mono (by have := hbw5.size; omega))
    have hbw7 := fun o => hbw6.alloc (by have := hbw6.size; omega) o
    unfold zLog
    clear hbw6 hbw5 hT c0 c1 c2 c3
    go_wp2_with fail
    go_ret
    exact ⟨rfl, by rw [hN]; exact hbw7 _⟩
/-! ### From the row to the walk -/
namespace logAllF
set_option linter.unusedVariables false
theorem own : ownKnob Try.prog.godebug = none := by kernel_rfl
theorem laidOut : laidOutB Try.prog = true := by kernel_rfl
set_option maxRecDepth 100000 in
theorem lifted (os : Os) (started : os.Started) (H : Type) (enc : TypeId × Value → H) :
    ReturnsInHanded {} Try.checked os 3 .any (Rows.logAllSpec.pre6 enc Try.prog Try.f3 Rows.logAllRow.domain false) (Rows.logAllSpec.post enc Try.prog Try.f3 false true false false) := by
  refine returnsInHanded_of_change (C := Try.checked) own started (by kernel_rfl) Try.func3
    (ChangeSpec.witness6 (enc := enc) (C := Try.checked) false ⟨#[], #[logAll_wit0, logAll_wit1, logAll_wit2], []⟩ 8 (by kernel_rfl) (by kernel_rfl) (by kernel_rfl) (by kernel_rfl)) ?_
  intro W base args ds gs before hval0 hW hcnd _
  have hval : ∀ (j : Nat) t v, Try.f3.params[j]? = some t → args[j]? = some v → Value.okWide Try.prog W .any base t v := hval0
  have hW' := hW
  obtain ⟨p, q, hA0, hV, rfl, hfz, hnd⟩ := hW
  have hA : DataW.TrodAll enc Try.prog W 0 (fun _ => true) true Try.f3.params.toList args.toList ds p := hA0
  rw [Try.params3] at hA hval
  obtain ⟨v0, vs0, d0, ds0, p0, q0, hargs, rfl, rfl, h0, r0⟩ := trodAll_cons hA
  obtain ⟨v1, vs1, d1, ds1, p1, q1, rfl, rfl, rfl, h1, r1⟩ := trodAll_cons r0
  obtain ⟨v2, vs2, d2, ds2, p2, q2, rfl, rfl, rfl, h2, r2⟩ := trodAll_cons r1
  obtain ⟨rfl, rfl, rfl⟩ := trodAll_nil r2
  obtain rfl : args = #[v0, v1, v2] := by cases args; simp_all
  obtain ⟨rfl, rfl⟩ := trodVars_none hV
  have k0 := h0
  have lt0 : ∀ x ∈ p0, x.block < W.heap.size := by obtain ⟨m, hm⟩ := k0; exact DataW.trod_lt m _ _ _ hm
  obtain ⟨x0, w0⟩ := logAll_open0 (hval 0 23 v0 rfl rfl) h0
  have k1 := h1
  have lt1 : ∀ x ∈ p1, x.block < W.heap.size := by obtain ⟨m, hm⟩ := k1; exact DataW.trod_lt m _ _ _ hm
  obtain ⟨x1, w1⟩ := logAll_open1 (hval 1 24 v1 rfl rfl) h1
  have k2 := h2
  have lt2 : ∀ x ∈ p2, x.block < W.heap.size := by obtain ⟨m, hm⟩ := k2; exact DataW.trod_lt m _ _ _ hm
  obtain ⟨x2, w2⟩ := logAll_open2 (hval 2 25 v2 rfl rfl) h2
  clear hA0 hval0
  refine (logAll_walk v0 x0 v1 x1 v2 x2 W w0 w1 w2).mono fun e W' ⟨he, bel⟩ => ?_
  subst he
  exact ⟨_, rfl, _, _, _, [], _, [], hW', trodAll_mk1 (shut_bool Try.underlying4 _), (trodAll_cons_mk (Below.trod laidOut (by kernel_rfl) (of_decide_eq_true (by kernel_rfl)) k0 bel lt0) (trodAll_cons_mk (Below.trod laidOut (by kernel_rfl) (of_decide_eq_true (by kernel_rfl)) k1 bel lt1) (trodAll_cons_mk (Below.trod laidOut (by kernel_rfl) (of_decide_eq_true (by kernel_rfl)) k2 bel lt2) trodAll_mk0))), rfl, bel.frame _, fun h => by cases h⟩
theorem over : Rows.logAllRow.holds Try.pinned (OpenSpec.ofChange Rows.logAllSpec) :=
  OpenClaim.holds_of_wide 3 Try.f3 rfl rfl rfl rfl rfl rfl rfl ⟨rfl, rfl, rfl, rfl, rfl⟩ rfl rfl rfl rfl rfl (by kernel_rfl) Try.func3 (by kernel_rfl)
    (of_decide_eq_true (by kernel_rfl)) (by unfold Func.isWrapper; first | (rw [if_pos (by decide +kernel)]; kernel_rfl) | (rw [if_neg (by decide +kernel)]; exact ⟨rfl, rfl⟩))
    (fun os started H enc _ => lifted os started H enc)
end logAllF
theorem logAll_holds : Rows.LogAllSaid := logAllF.over
#print axioms logAll_holds
end Go.Proofs.Ytikoafjnopkoaaa
