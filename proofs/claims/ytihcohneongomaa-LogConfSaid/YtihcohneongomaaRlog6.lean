/-
  No claim by itself: logs: Pack, Set. No condition.
-/
import Derived.Test.YtihcohneongomaaRlog5
import Derived.Test.YtihcohneongomaaRegionT
namespace Go.Proofs.Ytihcohneongomaa
open Go.ChangeShapes Go.WideShapes Go.ChangeAt Go.RowKit

def packOk (s : Snp) (es : List Ent) (n : Snp) : Bool := !decide (n.i < s.i + 1) && fitsP s es n.i n.t
theorem term_in' {s : Snp} {es : List Ent} {i : Int} (h : (termP s es i).2 = true) : s.i ≤ i ∧ i ≤ lastP s es := by
  unfold termP at h
  split at h
  · cases h
  · omega
def RetPack (w : World) (b : Nat) (s : Snp) (lv : Value) (es : List Ent) (n : Snp) (e : Ending) (w' : World) : Prop :=
  ∃ lv', e = .returned (.bool (packOk s es n)) ∧ Keeps [b] w w' ∧ (lv' = lv ∨ Since w lv') ∧
    if packOk s es n = true then LogS w' b n lv' (es.drop (n.i - s.i).toNat) else LogS w' b s lv' es

theorem LogS.setS {w w1 : World} {b : Nat} {s n : Snp} {lv : Value} {es : List Ent} (h : LogS w b s lv es) (hw : w1 = (((w.setCell ⟨b, 0, none⟩ (.int .i64 n.i)).setCell ⟨b, 1, none⟩ (.int .i64 n.t)).setCell ⟨b, 2, none⟩ (.string n.c)).setCell ⟨b, 3, none⟩ (.string n.d)) :
    LogS w1 b n lv es ∧ Keeps [b] w w1 := by
  subst hw
  have hk : Keeps [b] w ((((w.setCell ⟨b, 0, none⟩ (.int .i64 n.i)).setCell ⟨b, 1, none⟩ (.int .i64 n.t)).setCell ⟨b, 2, none⟩ (.string n.c)).setCell ⟨b, 3, none⟩ (.string n.d)) :=
    ((((Keeps.refl [b] w).setCell (.inl (by simp)) _).setCell (.inl (by simp)) _).setCell (.inl (by simp)) _).setCell (.inl (by simp)) _
  refine ⟨⟨Nat.lt_of_lt_of_le h.lt hk.size, ?_, ?_, ?_, ?_, ?_, fun j => ?_, ?_, h.ne⟩, hk⟩
  · rw [World.cell?_setCell_other (h := by simp), World.cell?_setCell_other (h := by simp), World.cell?_setCell_other (h := by simp)]
    exact World.cell?_setCell_same _ _ _ h.c0
  · rw [World.cell?_setCell_other (h := by simp), World.cell?_setCell_other (h := by simp)]
    exact World.cell?_setCell_same _ _ _ (show World.cell? _ _ = some (.int .i64 s.t) from by rw [World.cell?_setCell_other (h := by simp)]; exact h.c1)
  · rw [World.cell?_setCell_other (h := by simp)]
    exact World.cell?_setCell_same _ _ _ (show World.cell? _ _ = some (.string s.c) from by rw [World.cell?_setCell_other (h := by simp), World.cell?_setCell_other (h := by simp)]; exact h.c2)
  · exact World.cell?_setCell_same _ _ _ (show World.cell? _ _ = some (.string s.d) from by rw [World.cell?_setCell_other (h := by simp), World.cell?_setCell_other (h := by simp), World.cell?_setCell_other (h := by simp)]; exact h.c3)
  · rw [World.cell?_setCell_other (h := by simp), World.cell?_setCell_other (h := by simp), World.cell?_setCell_other (h := by simp), World.cell?_setCell_other (h := by simp)]
    exact h.c4
  · rw [World.frozen?_setCell, World.frozen?_setCell, World.frozen?_setCell, World.frozen?_setCell]; exact h.fr j
  · obtain ⟨a, cap, hv, g1, g2, g3⟩ := h.r
    refine ⟨a, cap, hv, g1, g2, fun k hk' => ?_⟩
    obtain ⟨bb, off, ha, hlt', hc⟩ := g3 k hk'
    have hne := h.ne bb off _ _ (by rw [hv, ha])
    refine ⟨bb, off, ha, Nat.lt_of_lt_of_le hlt' hk.size, fun j u hu => ?_⟩
    rw [hk.cell (p := ⟨bb, off + k * 4 + j, none⟩) hlt' (by simpa using hne)]
    exact hc j u hu

set_option maxRecDepth 100000 in
set_option maxHeartbeats 4000000 in
theorem log_pack {w : World} {b : Nat} {s n : Snp} {lv : Value} {es : List Ent} (h : LogS w b s lv es) (hB : LogB s es) :
    Calls Try.prog 30 #[logPtr b, snpAgg n] w fun e w' => RetPack w b s lv es n e w' := by
  have hs1 := hB.1
  have hs2 := hB.2.1
  have hs3 := hB.2.2
  have HP : Hid (packOk s es n = (!decide (n.i < s.i + 1) && fitsP s es n.i n.t)) := Lib.hid rfl
  have hb1 := (Below.refl w.heap.size w).alloc (Nat.le_refl _) (.cells #[.int .i64 n.i, .int .i64 n.t, .string n.c, .string n.d] 23)
  have hS1 := h.below hb1
  have hd : ∀ j, (w.alloc (.cells #[.int .i64 n.i, .int .i64 n.t, .string n.c, .string n.d] 23)).cell? ⟨w.heap.size, j, none⟩ = #[.int .i64 n.i, .int .i64 n.t, .string n.c, .string n.d][j]? := fun j => World.cell?_alloc_new _ _ _ _
  have d0 := hd 0
  have d1 := hd 1
  have d2 := hd 2
  have d3 := hd 3
  simp only [List.getElem?_toArray, List.getElem?_cons_zero, List.getElem?_cons_succ] at d0 d1 d2 d3
  have hz : w.heap.size < (w.alloc (.cells #[.int .i64 n.i, .int .i64 n.t, .string n.c, .string n.d] 23)).heap.size := by simp
  have hne : b ≠ w.heap.size := by have := h.lt; omega
  have HBB := Lib.hid hB
  clear hd h hB
  unfold snpAgg logPtr
  go_enter Try.func30, Try.ntmps30
  go_upto_region 1 with fail
  generalize w.alloc (.cells #[.int .i64 n.i, .int .i64 n.t, .string n.c, .string n.d] 23) = w1 at *
  have N0 : w.heap.size = w.heap.size := rfl
  go_cut [22] (fun x wx => x = .bool (!packOk s es n) ∧ Below w1.heap.size w1 wx)
  case first =>
    have l1 := hS1.lt
    by_cases p1 : n.i < s.i + 1
    · have HQ : Hid (packOk s es n = false) := Lib.hid (by rw [HP.out, decide_eq_true p1]; rfl)
      have t1 : decide (n.i < s.i + 1) = true := decide_eq_true p1
      refine wp_region_sw (by rfl) (by kernel_rfl) (fun k => match k with | 6 => some (fun v _ => v = .int .i64 (s.i + 1)) | _ => none) ?_ (fun vals => ?_)
      · intro k φ hk v w1 w2 h1 h2
        match k, hk with
        | 6, hk => obtain rfl := Option.some.inj hk; exact h1
      iterate 4 ((with_reducible refine sw_pure ?_ (fun K hK => ?_)); (· rfl); go_simp; with_reducible refine hK _ ?_; clear hK K)
      refine sw_at (.int .i64 n.i) rfl rfl (fun wz hz' hH => ?_) (fun K hK => ?_)
      · have h2 := (hz'.cell (p := ⟨w.heap.size, 0, none⟩) hz).trans d0
        go_simp
      go_simp; refine hK _ ?_; clear hK K
      iterate 1 ((with_reducible refine sw_pure ?_ (fun K hK => ?_)); (· rfl); go_simp; with_reducible refine hK _ ?_; clear hK K)
      refine sw_call _ rfl rfl (fun wz hz' hH => ?_) (fun K hK => ?_)
      · go_simp
        go_at_call 20
        refine (log_first (hS1.below hz') HBB.out).mono ?_
        rintro e w' ⟨rfl, rfl⟩
        exact ⟨_, rfl, rfl, Below.refl _ _⟩
      go_simp; refine hK _ ?_; clear hK K
      refine sw_at (.bool true) rfl rfl (fun wz hz' hH => ?_) (fun K hK => ?_)
      · have h3 := hH _ (List.Mem.head _) rfl
        dsimp only at h3
        rw [h3]
        go_simp
      go_simp; refine hK _ ?_; clear hK K
      iterate 10 ((with_reducible refine sw_pure ?_ (fun K hK => ?_)); (· rfl); go_simp; with_reducible refine hK _ ?_; clear hK K)
      refine sw_done (fun wz hz hH => ?_)
      go_wp2_with fail
      go_meet
      exact ⟨by rw [HQ.out]; rfl, hz⟩
    · have HQ : Hid (packOk s es n = fitsP s es n.i n.t) := Lib.hid (by rw [HP.out, decide_eq_false p1]; rfl)
      have t1 : decide (n.i < s.i + 1) = false := decide_eq_false p1
      refine wp_region_sw (by rfl) (by kernel_rfl) (fun k => match k with | 6 => some (fun v _ => v = .int .i64 (s.i + 1)) | 15 => some (fun v _ => v = .bool (fitsP s es n.i n.t)) | _ => none) ?_ (fun vals => ?_)
      · intro k φ hk v w1 w2 h1 h2
        match k, hk with
        | 6, hk => obtain rfl := Option.some.inj hk; exact h1
        | 15, hk => obtain rfl := Option.some.inj hk; exact h1
      iterate 4 ((with_reducible refine sw_pure ?_ (fun K hK => ?_)); (· rfl); go_simp; with_reducible refine hK _ ?_; clear hK K)
      refine sw_at (.int .i64 n.i) rfl rfl (fun wz hz' hH => ?_) (fun K hK => ?_)
      · have h2 := (hz'.cell (p := ⟨w.heap.size, 0, none⟩) hz).trans d0
        go_simp
      go_simp; refine hK _ ?_; clear hK K
      iterate 1 ((with_reducible refine sw_pure ?_ (fun K hK => ?_)); (· rfl); go_simp; with_reducible refine hK _ ?_; clear hK K)
      refine sw_call _ rfl rfl (fun wz hz' hH => ?_) (fun K hK => ?_)
      · go_simp
        go_at_call 20
        refine (log_first (hS1.below hz') HBB.out).mono ?_
        rintro e w' ⟨rfl, rfl⟩
        exact ⟨_, rfl, rfl, Below.refl _ _⟩
      go_simp; refine hK _ ?_; clear hK K
      refine sw_at (.bool false) rfl rfl (fun wz hz' hH => ?_) (fun K hK => ?_)
      · have h3 := hH _ (List.Mem.head _) rfl
        dsimp only at h3
        rw [h3]
        go_simp
      go_simp; refine hK _ ?_; clear hK K
      iterate 4 ((with_reducible refine sw_pure ?_ (fun K hK => ?_)); (· rfl); go_simp; with_reducible refine hK _ ?_; clear hK K)
      refine sw_at (.int .i64 n.i) rfl rfl (fun wz hz' hH => ?_) (fun K hK => ?_)
      · have h2 := (hz'.cell (p := ⟨w.heap.size, 0, none⟩) hz).trans d0
        go_simp
      go_simp; refine hK _ ?_; clear hK K
      iterate 1 ((with_reducible refine sw_pure ?_ (fun K hK => ?_)); (· rfl); go_simp; with_reducible refine hK _ ?_; clear hK K)
      refine sw_at (.int .i64 n.t) rfl rfl (fun wz hz' hH => ?_) (fun K hK => ?_)
      · have h2 := (hz'.cell (p := ⟨w.heap.size, 1, none⟩) hz).trans d1
        go_simp
      go_simp; refine hK _ ?_; clear hK K
      refine sw_call _ rfl rfl (fun wz hz' hH => ?_) (fun K hK => ?_)
      · go_simp
        go_at_call 33
        refine (log_fits n.i n.t (hS1.below hz') HBB.out).mono ?_
        rintro e w' ⟨rfl, hb⟩
        exact ⟨_, rfl, rfl, hb⟩
      go_simp; refine hK _ ?_; clear hK K
      refine sw_at (.bool (!fitsP s es n.i n.t)) rfl rfl (fun wz hz' hH => ?_) (fun K hK => ?_)
      · have h3 := hH _ (List.Mem.head _) rfl
        dsimp only at h3
        rw [h3]
        go_simp
      go_simp; refine hK _ ?_; clear hK K
      iterate 1 ((with_reducible refine sw_pure ?_ (fun K hK => ?_)); (· rfl); go_simp; with_reducible refine hK _ ?_; clear hK K)
      refine sw_done (fun wz hz hH => ?_)
      go_wp2_with fail
      go_meet
      exact ⟨by rw [HQ.out], hz⟩
  case rest =>
    obtain ⟨rfl, hb2⟩ := hcut
    have hS2 := hS1.below hb2
    have hbz := hb1.trans (hb2.mono hb1.size)
    have d0 := (hb2.cell (p := ⟨w.heap.size, 0, none⟩) hz).trans d0
    have d1 := (hb2.cell (p := ⟨w.heap.size, 1, none⟩) hz).trans d1
    have d2 := (hb2.cell (p := ⟨w.heap.size, 2, none⟩) hz).trans d2
    have d3 := (hb2.cell (p := ⟨w.heap.size, 3, none⟩) hz).trans d3
    have hz := Nat.lt_of_lt_of_le hz hb2.size
    clear hb1 hb2 hS1
    rename World => w2
    cases hp : packOk s es n with
    | false =>
      have H1 := Lib.hid hp
      have HS := Lib.hid hS2
      clear hp hS2 HP
      go_wp2_with fail
      go_ret
      exact ⟨lv, by rw [H1.out]; rfl, Keeps.of_below hbz, .inl rfl, by rw [H1.out, if_neg (by decide)]; exact HS.out⟩
    | true =>
      have H1 := Lib.hid hp
      rw [HP.out, Bool.and_eq_true] at hp
      obtain ⟨hp1, hp2⟩ := hp
      have hp1 : ¬ n.i < s.i + 1 := by simpa using hp1
      have hp2 := (term_in' (by unfold fitsP at hp2; rw [Bool.and_eq_true] at hp2; exact hp2.1)).2
      obtain ⟨K, hK⟩ := Int.eq_ofNat_of_zero_le (show 0 ≤ n.i - s.i by omega)
      have hKl : K ≤ es.length := by unfold lastP at hp2; omega
      obtain ⟨aL, cL, hlv⟩ := hS2.r.slice
      have hSr := hS2.r
      have c4 := hS2.c4
      have c0 := hS2.c0
      rw [hlv] at hSr c4
      have hcL : es.length ≤ cL ∧ cL ≤ 9223372036854775807 := by
        obtain ⟨a', c', hv', h1, h2, _⟩ := hSr
        simp only [Value.slice.injEq] at hv'
        omega
      have hd := hSr.drop K hKl
      have HS := Lib.hid hS2
      have lb := hS2.lt
      have HD := Lib.hid hd
      have HKN := Lib.hid hK
      have q1 : IntKind.i64.wrap (n.i - s.i) = (K : Int) := by rw [IntWalk.i64_in _ (by omega)]; exact hK
      clear hlv hSr hd hS2 HP hK hp1
      go_upto_region 3 with fail
      rename World => w2
      go_cut [] (fun wx => ∃ lv', LogS wx b s lv' (es.drop K) ∧ Keeps [b] w2 wx ∧ Since w2 lv')
      case first =>
        refine wp_region_tail 17 (by rfl) (by kernel_rfl) (fun k => match k with | 14 => some (fun v wx => EntO wx w2.heap.size v (es.drop K)) | _ => none) ?_ (fun vals => ?_)
        · intro k φ hk v w1 w2 h1 h2
          match k, hk with
          | 14, hk => obtain rfl := Option.some.inj hk; exact h1.below h2
        dsimp only [List.take, List.drop]
        iterate 4 ((with_reducible refine sw_pure ?_ (fun K hK => ?_)); (· rfl); go_simp; with_reducible refine hK _ ?_; clear hK K)
        refine sw_at (.slice aL es.length cL) rfl rfl (fun wz hz' hH => ?_) (fun K hK => ?_)
        · have h2 := (hz'.cell (p := ⟨b, 4, none⟩) lb).trans c4
          go_simp
        go_simp; refine hK _ ?_; clear hK K
        iterate 1 ((with_reducible refine sw_pure ?_ (fun K hK => ?_)); (· rfl); go_simp; with_reducible refine hK _ ?_; clear hK K)
        refine sw_at (.int .i64 n.i) rfl rfl (fun wz hz' hH => ?_) (fun K hK => ?_)
        · have h2 := (hz'.cell (p := ⟨w.heap.size, 0, none⟩) hz).trans d0
          go_simp
        go_simp; refine hK _ ?_; clear hK K
        iterate 4 ((with_reducible refine sw_pure ?_ (fun K hK => ?_)); (· rfl); go_simp; with_reducible refine hK _ ?_; clear hK K)
        refine sw_at (.int .i64 s.i) rfl rfl (fun wz hz' hH => ?_) (fun K hK => ?_)
        · have h2 := (hz'.cell (p := ⟨b, 0, none⟩) lb).trans c0
          go_simp
        go_simp; refine hK _ ?_; clear hK K
        refine sw_at (.int .i64 K) rfl rfl (fun wz hz' hH => ?_) (fun K hK => ?_)
        · go_simp
        go_simp; refine hK _ ?_; clear hK K
        refine sw_at (.slice (if cL = K then aL else Option.map (fun x => x.add (K * 4)) aL) (es.length - K) (cL - K)) rfl rfl (fun wz hz' hH => ?_) (fun K hK => ?_)
        · go_simp
        go_simp; refine hK _ ?_; clear hK K
        refine sw_call _ rfl rfl (fun wz hz' hH => ?_) (fun K hK => ?_)
        · go_simp
          go_at_call 55
          refine (sl_cloneE _ (es.drop K) _ (HD.out.below hz') (by rw [List.length_drop]; omega)).mono ?_
          rintro e w' ⟨v, rfl, hv, hb⟩
          exact ⟨v, rfl, hv.rebase hz'.size, hb⟩
        go_simp; refine hK _ ?_; clear hK K
        iterate 2 ((with_reducible refine sw_pure ?_ (fun K hK => ?_)); (· rfl); go_simp; with_reducible refine hK _ ?_; clear hK K)
        refine sw_done (fun wz hz' hH => ?_)
        have hq := hH _ (List.Mem.head _)
        dsimp only at hq
        obtain ⟨av, cv, he⟩ := hq.r.slice
        rw [List.length_drop] at he
        have HN := Lib.hid (HS.out.setL hz' hq.r (hq.since (Nat.le_refl _)))
        have HSN := Lib.hid (hq.since (w0 := w2) (Nat.le_refl _))
        have c4z := (hz'.cell (p := ⟨b, 4, none⟩) lb).trans c4
        have f4z := (hz'.frozen (p := ⟨b, 4, none⟩) lb).trans (HS.out.fr 4)
        rw [he] at HN HSN ⊢
        unfold tailQ
        clear hq he hH
        go_wp2_with fail
        all_goals (go_meet; exact ⟨_, HN.out.1, HN.out.2, HSN.out⟩)
      case rest =>
        obtain ⟨lv', hS3, hk3, hs3'⟩ := hcut
        have hw3 : w.heap.size < wc.heap.size := Nat.lt_of_lt_of_le hz hk3.size
        have e0 := (hk3.cell (p := ⟨w.heap.size, 0, none⟩) hz (by simpa using fun h => hne h.symm)).trans d0
        have e1 := (hk3.cell (p := ⟨w.heap.size, 1, none⟩) hz (by simpa using fun h => hne h.symm)).trans d1
        have e2 := (hk3.cell (p := ⟨w.heap.size, 2, none⟩) hz (by simpa using fun h => hne h.symm)).trans d2
        have e3 := (hk3.cell (p := ⟨w.heap.size, 3, none⟩) hz (by simpa using fun h => hne h.symm)).trans d3
        have f0 := hS3.fr 0
        have f1 := hS3.fr 1
        have f2 := hS3.fr 2
        have f3 := hS3.fr 3
        have g0 := hS3.c0
        have g1 := hS3.c1
        have g2 := hS3.c2
        have g3 := hS3.c3
        have lb3 := hS3.lt
        have HS3 := Lib.hid hS3
        have HK3 := Lib.hid hk3
        clear hS3 hk3 d0 d1 d2 d3 c0 c4 q1
        have HSI : Hid (Since w lv') := Lib.hid (fun g off n c hv => Nat.le_trans hbz.size (hs3' g off n c hv))
        clear hs3'
        go_wp2_with fail
        go_ret
        obtain ⟨j1, j2⟩ := HS3.out.setS (n := n) rfl
        refine ⟨lv', by rw [H1.out]; rfl, (Keeps.of_below hbz).trans (HK3.out.trans j2 (fun x hx => .inl hx)) (fun x hx => .inl hx), .inr HSI.out, ?_⟩
        rw [H1.out, if_pos rfl, HKN.out]
        exact j1

theorem log_set {w : World} {b : Nat} {s n : Snp} {lv : Value} {es : List Ent} (h : LogS w b s lv es) :
    Calls Try.prog 31 #[logPtr b, snpAgg n] w fun e w' => e = .returned (.tuple #[]) ∧ LogS w' b n (.slice none 0 0) [] ∧ Keeps [b] w w' := by
  have hb1 := (Below.refl w.heap.size w).alloc (Nat.le_refl _) (.cells #[.int .i64 n.i, .int .i64 n.t, .string n.c, .string n.d] 23)
  have hS1 := h.below hb1
  have g0 := hS1.c0
  have g1 := hS1.c1
  have g2 := hS1.c2
  have g3 := hS1.c3
  have g4 := hS1.c4
  have f0 := hS1.fr 0
  have f1 := hS1.fr 1
  have f2 := hS1.fr 2
  have f3 := hS1.fr 3
  have f4 := hS1.fr 4
  have lb := hS1.lt
  have hne : b ≠ w.heap.size := by have := h.lt; omega
  have HS := Lib.hid hS1
  have HB := Lib.hid hb1
  clear h hS1 hb1
  unfold snpAgg logPtr
  go_enter Try.func31, Try.ntmps31
  go_wp2_with fail
  go_end0
  obtain ⟨j1, j2⟩ := HS.out.setS (n := n) rfl
  obtain ⟨k1, k2⟩ := j1.setL (Below.refl _ _) (EntR.nil _ none 0 (by omega)) (fun g off n c h => by cases h)
  exact ⟨rfl, k1, ((Keeps.of_below HB.out).trans j2 (fun x hx => .inl hx)).trans k2 (fun x hx => .inl hx)⟩
end Go.Proofs.Ytihcohneongomaa
