/-
  No claim by itself: Same: of a log and the document's log that hold the same it says so. | plain facts on logs: what Put and Pack make is a log whose numbers say where its entries stand. | how a list of operations on a log is opened. | where the law on logs stands: a log, the document's log beside it. No condition.
-/
import Derived.Test.YtikoafjnopkoaaaP6
import Derived.Test.YtikoafjnopkoaaaP7
import Derived.Test.YtikoafjnopkoaaaP1
import Derived.Test.YtikoafjnopkoaaaP11
namespace Go.Proofs.Ytikoafjnopkoaaa
set_option linter.unusedVariables false
set_option linter.unusedSimpArgs false
open Go.ChangeShapes Go.WideShapes Go.ChangeAt Go.RowKit

theorem RI.below' {w w' : World} {v : Value} {l : List Int} (h : RI w v l) (hb : Below w.heap.size w w') : RI w' v l := Reads.below h hb rfl
theorem getP_all {s : Snp} {L : List Ent} (n : Int) (hn : (L.length : Int) ≤ n) : getP s L (s.i + 1) n = L := by
  unfold getP lastP
  by_cases h0 : L = []
  · subst h0
    split <;> simp
  · have hl : 0 < L.length := by cases L with | nil => exact absurd rfl h0 | cons _ _ => simp
    rw [if_neg (by omega)]
    rw [show (s.i + 1 - (s.i + 1)).toNat = 0 by omega, List.drop_zero, List.take_of_length_le (by omega)]

set_option maxRecDepth 100000 in
set_option maxHeartbeats 4000000 in
theorem law_same {w : World} {b : Nat} {s : Snp} {lv rv : Value} {es : List Ent} (hL : LogS w b s lv es) (hR : RefS w rv es) (hB0 : LogB s es) (hD : smallD s es) (hI : idxOk s es) :
    Calls Try.prog 23 #[logPtr b, refAgg s rv] w fun e w' => e = .returned (.bool true) ∧ Below w.heap.size w w' := by
  have hB := Lib.hid hB0
  have HD := Lib.hid hD
  have HI := Lib.hid hI
  have hS := logS_box (s := s) hR
  obtain ⟨a, cap, rfl⟩ := hR.r.slice
  have hbx := (Below.refl w.heap.size w).alloc (Nat.le_refl _) (.cells (refCells s (.slice a es.length cap)) 32)
  have hL0 := hL.below hbx
  have hR0 := Lib.hid (hR.below hbx)
  have hn := hB0.2.2
  clear hB0 hD hI hL hR
  unfold refAgg logPtr
  unfold refCells at hbx hS hL0 hR0
  go_enter Try.func23, Try.ntmps23
  go_upto_region 1 with fail
  generalize hw : w.alloc _ = w1 at *
  clear hw
  have hS0 := Lib.hid hS
  have hL1 := Lib.hid hL0
  clear hS hL0
  go_cut [33] (fun x wx => x = .bool false ∧ Below w1.heap.size w1 wx)
  case first =>
    refine wp_region_sw (by rfl) (by kernel_rfl) (fun k => match k with | 4 => some (fun v _ => v = .int .i64 (s.i + 1)) | 6 => some (fun v _ => v = .int .i64 (s.i + 1)) | 11 => some (fun v _ => v = .int .i64 (lastP s es)) | 13 => some (fun v _ => v = .int .i64 (lastP s es)) | 18 => some (fun v _ => v = snpAgg s) | 21 => some (fun v _ => v = .bool true) | _ => none) ?_ (fun vals => ?_)
    · intro k φ hk v w1 w2 h1 h2
      match k, hk with
      | 4, hk => obtain rfl := Option.some.inj hk; exact h1
      | 6, hk => obtain rfl := Option.some.inj hk; exact h1
      | 11, hk => obtain rfl := Option.some.inj hk; exact h1
      | 13, hk => obtain rfl := Option.some.inj hk; exact h1
      | 18, hk => obtain rfl := Option.some.inj hk; exact h1
      | 21, hk => obtain rfl := Option.some.inj hk; exact h1
    iterate 4 ((with_reducible refine sw_pure ?_ (fun K hK => ?_)); (· rfl); go_simp; with_reducible refine hK _ ?_; clear hK K)
    refine sw_call _ rfl rfl (fun wz hz hH => ?_) (fun K hK => ?_)
    · have hT := log_first (hL1.out.below hz) hB.out
      unfold logPtr at hT
      go_simp
      go_at_call 24
      refine hT.mono ?_
      rintro e w' ⟨rfl, rfl⟩
      exact ⟨_, rfl, rfl, Below.refl _ _⟩
    go_simp; refine hK _ ?_; clear hK K
    refine sw_at (refAgg s (.slice a es.length cap)) rfl rfl (fun wz hz hH => ?_) (fun K hK => ?_)
    · have hZ := hS0.out.below hz
      have c0 := hZ.c0
      have c1 := hZ.c1
      have c2 := hZ.c2
      have c3 := hZ.c3
      have c4 := hZ.c4
      clear hZ
      unfold refAgg
      go_simp
    go_simp; refine hK _ ?_; clear hK K
    refine sw_call _ rfl rfl (fun wz hz hH => ?_) (fun K hK => ?_)
    · have hT := ref_first (w := wz) (s := s) (a := a) (n := es.length) (cap := cap) hB.out.1 hB.out.2.1
      unfold refAgg at hT ⊢
      go_simp
      go_at_call 31
      refine hT.mono ?_
      rintro e w' ⟨rfl, hb⟩
      exact ⟨_, rfl, rfl, hb⟩
    go_simp; refine hK _ ?_; clear hK K
    refine sw_at (.bool false) rfl rfl (fun wz hz hH => ?_) (fun K hK => ?_)
    · have h3 := hH _ (List.Mem.head _) rfl
      have h4 := hH _ (List.Mem.tail _ (List.Mem.head _)) rfl
      dsimp only at h3 h4
      rw [h3, h4]
      go_simp
    go_simp; refine hK _ ?_; clear hK K
    iterate 3 ((with_reducible refine sw_pure ?_ (fun K hK => ?_)); (· rfl); go_simp; with_reducible refine hK _ ?_; clear hK K)
    refine sw_call _ rfl rfl (fun wz hz hH => ?_) (fun K hK => ?_)
    · have hT := log_last (hL1.out.below hz) hB.out
      unfold logPtr at hT
      go_simp
      go_at_call 25
      refine hT.mono ?_
      rintro e w' ⟨rfl, n, rfl⟩
      exact ⟨_, rfl, rfl, below_drewN' n⟩
    go_simp; refine hK _ ?_; clear hK K
    refine sw_at (refAgg s (.slice a es.length cap)) rfl rfl (fun wz hz hH => ?_) (fun K hK => ?_)
    · have hZ := hS0.out.below hz
      have c0 := hZ.c0
      have c1 := hZ.c1
      have c2 := hZ.c2
      have c3 := hZ.c3
      have c4 := hZ.c4
      clear hZ
      unfold refAgg
      go_simp
    go_simp; refine hK _ ?_; clear hK K
    refine sw_call _ rfl rfl (fun wz hz hH => ?_) (fun K hK => ?_)
    · have hT := ref_last (w := wz) (s := s) (a := a) (cap := cap) (es := es) hB.out
      unfold refAgg at hT ⊢
      go_simp
      go_at_call 30
      refine hT.mono ?_
      rintro e w' ⟨rfl, hb⟩
      exact ⟨_, rfl, rfl, hb⟩
    go_simp; refine hK _ ?_; clear hK K
    refine sw_at (.bool false) rfl rfl (fun wz hz hH => ?_) (fun K hK => ?_)
    · have h3 := hH _ (List.Mem.head _) rfl
      have h4 := hH _ (List.Mem.tail _ (List.Mem.head _)) rfl
      dsimp only at h3 h4
      rw [h3, h4]
      go_simp
    go_simp; refine hK _ ?_; clear hK K
    iterate 3 ((with_reducible refine sw_pure ?_ (fun K hK => ?_)); (· rfl); go_simp; with_reducible refine hK _ ?_; clear hK K)
    refine sw_call _ rfl rfl (fun wz hz hH => ?_) (fun K hK => ?_)
    · have hT := log_snap (hL1.out.below hz)
      unfold logPtr at hT
      go_simp
      go_at_call 35
      refine hT.mono ?_
      rintro e w' ⟨rfl, hb⟩
      exact ⟨_, rfl, rfl, hb⟩
    go_simp; refine hK _ ?_; clear hK K
    iterate 1 ((with_reducible refine sw_pure ?_ (fun K hK => ?_)); (· rfl); go_simp; with_reducible refine hK _ ?_; clear hK K)
    refine sw_at (snpAgg s) rfl rfl (fun wz hz hH => ?_) (fun K hK => ?_)
    · have hZ := hS0.out.below hz
      have c0 := hZ.c0
      have c1 := hZ.c1
      have c2 := hZ.c2
      have c3 := hZ.c3
      clear hZ
      unfold snpAgg
      go_simp
    go_simp; refine hK _ ?_; clear hK K
    refine sw_call _ rfl rfl (fun wz hz hH => ?_) (fun K hK => ?_)
    · have h3 := hH _ (List.Mem.head _) rfl
      dsimp only at h3
      have hT := eq_snap s wz
      unfold snpAgg at hT h3 ⊢
      rw [h3]
      go_simp
      go_at_call 34
      refine hT.mono ?_
      rintro e w' ⟨rfl, hb⟩
      exact ⟨_, rfl, rfl, hb⟩
    go_simp; refine hK _ ?_; clear hK K
    refine sw_at (.bool false) rfl rfl (fun wz hz hH => ?_) (fun K hK => ?_)
    · have h3 := hH _ (List.Mem.head _) rfl
      dsimp only at h3
      rw [h3]
      go_simp
    go_simp; refine hK _ ?_; clear hK K
    iterate 1 ((with_reducible refine sw_pure ?_ (fun K hK => ?_)); (· rfl); go_simp; with_reducible refine hK _ ?_; clear hK K)
    refine sw_done (fun wz hz hH => ?_)
    go_wp2_with fail
    go_meet
    exact ⟨rfl, hz⟩
  case rest =>
    obtain ⟨rfl, hz⟩ := hcut
    rename World => w2
    have hL2 := hL1.out.below hz
    have hS2 := hS0.out.below hz
    have hR2 := hR0.out.below hz
    have hb2 := hbx.trans (hz.mono hbx.size)
    have hC := log_conf hL2 hB.out HD.out
    unfold logPtr at hC
    clear hz hbx
    have HL2 := Lib.hid hL2
    have HS2 := Lib.hid hS2
    have HR2 := Lib.hid hR2
    clear hL2 hS2 hR2 hR0 hL1 hS0
    go_wp2_with fail
    refine hC.mono ?_
    rintro e w3 ⟨v1, rfl, hr1, hb3⟩
    have hL3 := HL2.out.below hb3
    have hS3 := HS2.out.below hb3
    have hR3 := HR2.out.below hb3
    have hbz3 := hb2.trans (hb3.mono hb2.size)
    have hD3 := ref_conf hR3 hB.out HD.out HI.out
    unfold refAgg at hD3
    clear hb2 hb3 HL2 HS2 HR2 hC
    have c0 := hS3.c0
    have c1 := hS3.c1
    have c2 := hS3.c2
    have c3 := hS3.c3
    have c4 := hS3.c4
    have HL3 := Lib.hid hL3
    have HS3 := Lib.hid hS3
    have HR3 := Lib.hid hR3
    clear hL3 hS3 hR3
    go_wp2_with fail
    refine hD3.mono ?_
    rintro e w4 ⟨v2, rfl, hr2, hb4⟩
    have hr1 := RI.below' hr1 hb4
    have hL4 := Lib.hid (HL3.out.below hb4)
    have hS4 := Lib.hid (HS3.out.below hb4)
    have hR4 := Lib.hid (HR3.out.below hb4)
    have hbz4 := hbz3.trans (hb4.mono hbz3.size)
    clear hbz3 hb4 HL3 HS3 HR3 hD3 c0 c1 c2 c3 c4
    generalize scanC s es es.length = sc at *
    obtain ⟨l, at_⟩ := sc
    dsimp only at hr1 hr2
    have H1 := Lib.hid hr1
    have H2 := Lib.hid hr2
    obtain ⟨a1, p1, rfl, q1, q2, -⟩ := hr1.open_
    have hll : l.length ≤ 9223372036854775807 := Nat.le_trans q1 q2
    clear q1 q2
    obtain ⟨a2, p2, rfl, -, -, -⟩ := hr2.open_
    clear hr1 hr2
    dsimp only
    go_wp2_with fail
    go_loopw [9] (fun i wr => ∃ k : Nat, k ≤ l.length ∧ i = .int .i64 k ∧ Below w4.heap.size w4 wr) (fun i _ => l.length - (intOf i).toNat)
    case atStart => exact ⟨0, by omega, rfl, Below.refl _ _⟩
    case round =>
      obtain ⟨k, hk, rfl, hbel⟩ := hrel
      by_cases hlt : k < l.length
      · obtain ⟨a1', p1', e1, -, -, d1⟩ := (RI.below' H1.out hbel).open_
        obtain ⟨a2', p2', e2, -, -, d2⟩ := (RI.below' H2.out hbel).open_
        simp only [Value.slice.injEq, true_and] at e1 e2
        obtain ⟨rfl, rfl⟩ := e1
        obtain ⟨rfl, rfl⟩ := e2
        obtain ⟨b1, o1, rfl, -, g1⟩ := d1.out k hlt
        obtain ⟨b2, o2, rfl, -, g2⟩ := d2.out k hlt
        generalize l[k]'hlt = x at g1 g2
        have HB := Lib.hid fun n => below_drewN hbel n
        clear d1 d2 hbel
        go_wp2_with fail
        go_quiet (fail)
        go_wp2_with fail
        go_roundw
        case rel => exact ⟨k + 1, by omega, by go_num, HB.out _⟩
        case measure => simp [intOf]; omega
      · have tlt : decide ((k : Int) < (l.length : Int)) = false := decide_eq_false (by omega)
        go_wp2_with fail
        have hbz5 := hbz4.trans (hbel.mono hbz4.size)
        have HG : Hid (getP s es (s.i + 1) 300 = es) := Lib.hid (getP_all 300 (by omega))
        have hL5 := Lib.hid (hL4.out.below hbel)
        have hS5 := Lib.hid (hS4.out.below hbel)
        have hR5 := Lib.hid (hR4.out.below hbel)
        clear hL4 hS4 hR4 hbel hbz4
        refine wp_region_sw (by rfl) (by kernel_rfl) (fun k => match k with | 2 => some (fun v _ => v = .int .i64 (s.i + 1)) | 3 => some (fun v w => EntR w v es) | 6 => some (fun v _ => v = .int .i64 (s.i + 1)) | 7 => some (fun v w => EntR w v es) | 8 => some (fun v _ => v = .bool true) | _ => none) ?_ (fun vals => ?_)
        · intro k φ hk v w1 w2 h1 h2
          match k, hk with
          | 2, hk => obtain rfl := Option.some.inj hk; exact h1
          | 3, hk => obtain rfl := Option.some.inj hk; exact EntR.below h1 h2
          | 6, hk => obtain rfl := Option.some.inj hk; exact h1
          | 7, hk => obtain rfl := Option.some.inj hk; exact EntR.below h1 h2
          | 8, hk => obtain rfl := Option.some.inj hk; exact h1
        iterate 1 ((with_reducible refine sw_pure ?_ (fun K hK => ?_)); (· rfl); go_simp; with_reducible refine hK _ ?_; clear hK K)
        refine sw_at (refAgg s (.slice a es.length cap)) rfl rfl (fun wz hz hH => ?_) (fun K hK => ?_)
        · have hZ := hS5.out.below hz
          have c0 := hZ.c0
          have c1 := hZ.c1
          have c2 := hZ.c2
          have c3 := hZ.c3
          have c4 := hZ.c4
          clear hZ
          unfold refAgg
          go_simp
        go_simp; refine hK _ ?_; clear hK K
        refine sw_call _ rfl rfl (fun wz hz hH => ?_) (fun K hK => ?_)
        · have hT := ref_first (w := wz) (s := s) (a := a) (n := es.length) (cap := cap) hB.out.1 hB.out.2.1
          unfold refAgg at hT ⊢
          go_simp
          go_at_call 31
          refine hT.mono ?_
          rintro e w' ⟨rfl, hb⟩
          exact ⟨_, rfl, rfl, hb⟩
        go_simp; refine hK _ ?_; clear hK K
        refine sw_call _ rfl rfl (fun wz hz hH => ?_) (fun K hK => ?_)
        · have h3 := hH _ (List.Mem.head _) rfl
          dsimp only at h3
          have hT := log_get (s.i + 1) 300 (hL5.out.below hz) hB.out
          rw [HG.out] at hT
          unfold logPtr at hT
          rw [h3]
          go_simp
          go_at_call 21
          refine hT.mono ?_
          rintro e w' ⟨v, rfl, ho, hb⟩
          exact ⟨_, rfl, ho.r, hb⟩
        go_simp; refine hK _ ?_; clear hK K
        refine sw_at (refAgg s (.slice a es.length cap)) rfl rfl (fun wz hz hH => ?_) (fun K hK => ?_)
        · have hZ := hS5.out.below hz
          have c0 := hZ.c0
          have c1 := hZ.c1
          have c2 := hZ.c2
          have c3 := hZ.c3
          have c4 := hZ.c4
          clear hZ
          unfold refAgg
          go_simp
        go_simp; refine hK _ ?_; clear hK K
        refine sw_at (refAgg s (.slice a es.length cap)) rfl rfl (fun wz hz hH => ?_) (fun K hK => ?_)
        · have hZ := hS5.out.below hz
          have c0 := hZ.c0
          have c1 := hZ.c1
          have c2 := hZ.c2
          have c3 := hZ.c3
          have c4 := hZ.c4
          clear hZ
          unfold refAgg
          go_simp
        go_simp; refine hK _ ?_; clear hK K
        refine sw_call _ rfl rfl (fun wz hz hH => ?_) (fun K hK => ?_)
        · have hT := ref_first (w := wz) (s := s) (a := a) (n := es.length) (cap := cap) hB.out.1 hB.out.2.1
          unfold refAgg at hT ⊢
          go_simp
          go_at_call 31
          refine hT.mono ?_
          rintro e w' ⟨rfl, hb⟩
          exact ⟨_, rfl, rfl, hb⟩
        go_simp; refine hK _ ?_; clear hK K
        refine sw_call _ rfl rfl (fun wz hz hH => ?_) (fun K hK => ?_)
        · have h3 := hH _ (List.Mem.head _) rfl
          dsimp only at h3
          have hT := ref_get (s.i + 1) 300 (hR5.out.below hz) hB.out
          rw [HG.out] at hT
          unfold refAgg at hT ⊢
          rw [h3]
          go_simp
          go_at_call 22
          refine hT.mono ?_
          rintro e w' ⟨v, rfl, ho, hb⟩
          exact ⟨_, rfl, ho.r, hb⟩
        go_simp; refine hK _ ?_; clear hK K
        refine sw_call _ rfl rfl (fun wz hz hH => ?_) (fun K hK => ?_)
        · have h3 := hH _ (List.Mem.head _) rfl
          have h4 := hH _ (List.Mem.tail _ (List.Mem.tail _ (List.Mem.head _))) rfl
          dsimp only at h3 h4
          go_simp
          go_at_call 20
          refine (eq_entries _ _ es _ h4 h3 (by omega)).mono ?_
          rintro e w' ⟨rfl, hb⟩
          exact ⟨_, rfl, rfl, hb⟩
        go_simp; refine hK _ ?_; clear hK K
        iterate 1 ((with_reducible refine sw_pure ?_ (fun K hK => ?_)); (· rfl); go_simp; with_reducible refine hK _ ?_; clear hK K)
        refine sw_done (fun wz hz hH => ?_)
        have h3 := hH _ (List.Mem.head _)
        dsimp only at h3
        rw [h3]
        go_wp2_with fail
        go_ret
        exact ⟨rfl, hbz5.trans (hz.mono hbz5.size)⟩
end Go.Proofs.Ytikoafjnopkoaaa
namespace Go.Proofs.Ytikoafjnopkoaaa
set_option linter.unusedVariables false
set_option linter.unusedSimpArgs false
open Go.RowKit

theorem Good.idx {s : Snp} {L : List Ent} (h : Good s L) : idxOk s L := fun k hk => (h.at_ k hk).1
theorem drop_put {s : Snp} {es : List Ent} (hB : LogB s es) : ∀ G : List Ent, putInv s es G → entsLo G →
    putInv s es (G.dropWhile (pastP s es)) ∧ (∀ e ∈ G.dropWhile (pastP s es), e ∈ G) ∧ ∀ e ∈ (G.dropWhile (pastP s es)).head?, pastP s es e = false := by
  intro G
  induction G with
  | nil => intro h _; exact ⟨h, by simp, by simp⟩
  | cons e G ih =>
    intro h hlo
    by_cases hp : pastP s es e = true
    · rw [List.dropWhile_cons_of_pos hp]
      obtain ⟨h1, h2, h3⟩ := ih (h.next hB hp (hlo e (by simp)).1) (fun x hx => hlo x (by simp [hx]))
      exact ⟨h1, fun x hx => by simp [h2 x hx], h3⟩
    · rw [List.dropWhile_cons_of_neg hp]
      refine ⟨h, fun x hx => hx, fun x hx => ?_⟩
      simp only [List.head?_cons, Option.mem_some] at hx
      subst hx
      simpa using hp
theorem putP_ok {s : Snp} {es fs : List Ent} (hB : LogB s es) (hI : idxOk s es) (hlo : entsLo fs) :
    LogB s (putP s es fs).2 ∧ idxOk s (putP s es fs).2 ∧ ∀ e ∈ (putP s es fs).2, e ∈ es ∨ e ∈ fs := by
  have same : LogB s es ∧ idxOk s es ∧ ∀ e ∈ es, e ∈ es ∨ e ∈ fs := ⟨hB, hI, fun e he => .inl he⟩
  obtain ⟨b0, b1, b2⟩ := hB
  cases fs with
  | nil => exact same
  | cons e0 fs0 =>
    have hu : putP s es (e0 :: fs0) = if lastP s es + 1 < e0.i ∨ rowP (wrap64 (e0.i - 1)) e0.t (e0 :: fs0) = false then ((0, false), es) else putRest s es ((e0 :: fs0).dropWhile (pastP s es)) := rfl
    rw [hu]
    clear hu
    by_cases hbad : lastP s es + 1 < e0.i ∨ rowP (wrap64 (e0.i - 1)) e0.t (e0 :: fs0) = false
    · rw [if_pos hbad]; exact same
    · rw [if_neg hbad]
      have hbad : e0.i ≤ lastP s es + 1 ∧ rowP (wrap64 (e0.i - 1)) e0.t (e0 :: fs0) = true := by
        refine ⟨by have := fun h => hbad (.inl h); omega, ?_⟩
        cases hr : rowP (wrap64 (e0.i - 1)) e0.t (e0 :: fs0) with
        | true => rfl
        | false => exact absurd (.inr hr) hbad
      have hinv : putInv s es (e0 :: fs0) := ⟨⟨_, _, hbad.2⟩, fun e he => by
        simp only [List.head?_cons, Option.mem_some] at he
        subst he
        exact hbad.1⟩
      obtain ⟨h1, h2, h3⟩ := drop_put ⟨b0, b1, b2⟩ _ hinv hlo
      generalize (e0 :: fs0).dropWhile (pastP s es) = D at *
      cases D with
      | nil => exact same
      | cons e D =>
        have hu : putRest s es (e :: D) = if e.t < (termP s es (e.i - 1)).1 ∨ 200 < e.i - (s.i + 1) + ((D.length : Int) + 1) then ((0, false), es) else ((e.i, true), es.take (e.i - (s.i + 1)).toNat ++ e :: D) := rfl
        rw [hu]
        clear hu
        by_cases hc : e.t < (termP s es (e.i - 1)).1 ∨ 200 < e.i - (s.i + 1) + ((D.length : Int) + 1)
        · rw [if_pos hc]; exact same
        · rw [if_neg hc]
          have hp := h3 e rfl
          unfold pastP at hp
          rw [Bool.or_eq_false_iff, decide_eq_false_iff_not] at hp
          have hi2 := h1.2 e rfl
          unfold lastP at hi2
          obtain ⟨⟨i, t, hr⟩, -⟩ := h1
          simp only [rowP, Bool.and_eq_true] at hr
          obtain ⟨K, hK⟩ := Int.eq_ofNat_of_zero_le (show 0 ≤ e.i - (s.i + 1) by omega)
          have hKl : K ≤ es.length := by omega
          rw [show (e.i - (s.i + 1)).toNat = K by omega]
          have hlen : K + (D.length + 1) ≤ 200 := by
            have : ¬ (200 < e.i - (s.i + 1) + ((D.length : Int) + 1)) := fun h => hc (.inr h)
            omega
          have htl : (es.take K).length = K := by rw [List.length_take]; omega
          refine ⟨⟨b0, b1, by rw [List.length_append, htl, List.length_cons]; exact hlen⟩, fun k hk => ?_, fun x hx => ?_⟩
          · rw [List.length_append, htl, List.length_cons] at hk
            by_cases hkK : k < K
            · rw [List.getElem_append_left (by omega), List.getElem_take]
              exact hI k (by omega)
            · rw [List.getElem_append_right (by omega)]
              by_cases hk0 : k = K
              · subst hk0
                simp only [htl, Nat.sub_self, List.getElem_cons_zero]
                omega
              · obtain ⟨m, rfl⟩ : ∃ m, k = K + 1 + m := ⟨k - (K + 1), by omega⟩
                have hat := (row_at D e.i e.t hr.2 (by omega) (by omega) m (by omega)).1
                simp only [htl, show K + 1 + m - K = m + 1 by omega, List.getElem_cons_succ]
                omega
          · rcases List.mem_append.1 hx with hx | hx
            · exact .inl (List.mem_of_mem_take hx)
            · exact .inr (h2 x hx)
theorem pack_le {s n : Snp} {es : List Ent} (h : packOk s es n = true) : s.i + 1 ≤ n.i ∧ n.i ≤ s.i + es.length := by
  unfold packOk at h
  simp only [Bool.and_eq_true, Bool.not_eq_true', decide_eq_false_iff_not] at h
  obtain ⟨h1, h2⟩ := h
  unfold fitsP at h2
  simp only [Bool.and_eq_true] at h2
  have := (term_in h2.1).2
  unfold lastP at this
  exact ⟨by omega, this⟩
theorem pack_ok {s n : Snp} {es : List Ent} (hB : LogB s es) (hI : idxOk s es) (h : packOk s es n = true) : idxOk n (es.drop (n.i - s.i).toNat) ∧ (es.drop (n.i - s.i).toNat).length ≤ 200 := by
  obtain ⟨h1, h2⟩ := pack_le h
  obtain ⟨m, hm⟩ := Int.eq_ofNat_of_zero_le (show 0 ≤ n.i - s.i by omega)
  rw [show (n.i - s.i).toNat = m by omega]
  refine ⟨fun k hk => ?_, ?_⟩
  · rw [List.length_drop] at hk
    rw [List.getElem_drop, hI (m + k) (by omega)]
    omega
  · rw [List.length_drop]
    have := hB.2.2
    omega
end Go.Proofs.Ytikoafjnopkoaaa
namespace Go.Proofs.Ytikoafjnopkoaaa
set_option linter.unusedVariables false
set_option linter.unusedSimpArgs false
open Go.ChangeShapes Go.WideShapes Go.ChangeAt Go.RowKit Go.Deep

/-- An operation as it came in: its kind, the value of its entries, they, its snapshot, its numbers. -/
structure LopV where
  k : Int
  ev : Value
  es : List Ent
  s : Snp
  i : Int
  t : Int
  n : Int
def lopCells (o : LopV) : List Value := [.int .i64 o.k, o.ev, .int .i64 o.s.i, .int .i64 o.s.t, .string o.s.c, .string o.s.d, .int .i64 o.i, .int .i64 o.t, .int .i64 o.n]
def LopV.good (W : World) (o : LopV) : Prop := EntR W o.ev o.es ∧ (∀ e ∈ o.es, e.wf) ∧ o.s.wf
section
variable {H : Type} {enc : TypeId × Value → H} {W : World} {base base' : Nat} {r : Reach}

/-- From the reading of a field to its records: elements of whatever fields. -/
theorem recs_of_trodL {α : Type} {P : Program} (f : α → List Value) (good : α → Prop) (m0 : Nat) {t e : TypeId} {v : Value} {fuel : Nat} {y : DataW H × List MemPlace} (ht : P.underlying t = some (.slice e))
    (hC : P.cellsOf e = m0) (hpos : 0 < m0)
    (hel : ∀ vs : List Value, vs.length = m0 → (∃ n y, DataW.trod enc P W base (fun _ => true) true n e vs = some y) → ∃ x, f x = vs ∧ good x)
    (hf : DataW.trod enc P W base (fun _ => true) true fuel t [v] = some y) : ∃ l, Recs m0 f W v l ∧ ∀ x ∈ l, good x := by
  rcases open_slice ht hf with ⟨hcs, _⟩ | ⟨a, len0, cap, m, n, D, Pl, hcs, hb, hl, hm, hmm, hx, hi⟩
  · simp only [List.cons.injEq, and_true] at hcs
    subst hcs
    exact ⟨[], ⟨none, 0, rfl, by simp, by omega, fun k hk => by simp at hk⟩, by simp⟩
  · simp only [List.cons.injEq, and_true] at hcs
    subst hcs
    have hm' : m = cap := by simpa using hmm
    subst hm'
    have all : ∀ i, i < len0 → ∃ x, good x ∧ (f x).length = m0 ∧ ∀ j u, (f x)[j]? = some u → W.cell? (a.add (i * m0 + j)) = some u := by
      intro i hi'
      obtain ⟨cs', hc, ht'⟩ := hi i (by omega)
      rw [hC] at hc
      obtain ⟨_, hcl, hat⟩ := World.cells?_some hc
      obtain ⟨x, hx1, hx2⟩ := hel cs' hcl ⟨_, _, ht'⟩
      refine ⟨x, hx2, by rw [hx1, hcl], fun j u hu => ?_⟩
      rw [hx1] at hu
      have hjl : j < m0 := by rw [← hcl]; exact (List.getElem?_eq_some_iff.1 hu).1
      have := hat j hjl
      rw [hu] at this
      rw [← Go.Deep.add_add]
      exact this
    obtain ⟨l, hll, hlr⟩ := list_of_all len0 all
    have hla : ∀ x ∈ l, good x := fun x hx => by
      obtain ⟨i, hi, rfl⟩ := List.mem_iff_getElem.1 hx
      exact (hlr i hi).1
    by_cases h0 : len0 = 0
    · subst h0
      have : l = [] := List.eq_nil_of_length_eq_zero hll
      subst this
      exact ⟨[], ⟨some a, m, rfl, by simp, hm, fun k hk => by simp at hk⟩, by simp⟩
    refine ⟨l, ⟨some a, m, by rw [hll], by omega, hm, fun k hk => ?_⟩, hla⟩
    obtain ⟨_, h2, h3⟩ := hlr k hk
    obtain ⟨_, g2, g3⟩ := hlr 0 (by omega)
    have g0 := g3 0 _ (List.getElem?_eq_getElem (show 0 < (f l[0]).length by omega))
    have h0 := h3 0 _ (List.getElem?_eq_getElem (show 0 < (f l[k]).length by omega))
    obtain ⟨b, off, spot⟩ := a
    have hspot : spot = none := by simpa [Addr.add] using World.cell?_spot g0
    subst hspot
    refine ⟨b, off, rfl, ?_, fun j u hu => ?_⟩
    · rw [Addr.add_lit] at h0
      exact World.block_lt_of_cell? W _ h0
    · have := h3 j u hu
      rw [Addr.add_lit] at this
      rw [Nat.add_assoc]
      exact this

set_option maxRecDepth 100000 in
theorem ent_of_trodL {n : Nat} {cs : List Value} {x : DataW H × List MemPlace} (h : DataW.trod enc Try.prog W base (fun _ => true) true n 51 cs = some x) (hl : cs.length = 4) : ∃ e : Ent, entCells e = cs ∧ e.wf := by
  have k2 : Try.prog.cellsOf 2 = 1 := by kernel_rfl
  have k3 : Try.prog.cellsOf 3 = 1 := by kernel_rfl
  have k9 : Try.prog.cellsOf 9 = 1 := by kernel_rfl
  match cs, hl with
  | [c3, c4, c5, c6], _ =>
    obtain ⟨z3, z4, z5, z6, n3, -, -, g3, g4, g5, g6⟩ := Go.Joins.trod_struct4 Try.underlying51 h
    simp only [k2, k3, k9, List.drop, List.take] at g3 g4 g5 g6
    obtain ⟨x3, e3, _, w3⟩ := DataW.trod_int Try.underlying2 g3
    obtain ⟨x4, e4, _, w4⟩ := DataW.trod_int Try.underlying2 g4
    obtain ⟨x5, e5, _, w5⟩ := DataW.trod_int Try.underlying3 g5
    obtain ⟨x6, e6, _, w6⟩ := DataW.trod_string Try.underlying9 g6
    simp only [List.cons.injEq, and_true] at e3 e4 e5 e6
    subst e3 e4 e5 e6
    exact ⟨⟨x3, x4, x5, x6⟩, rfl, wf_i64 w3, wf_i64 w4, wf_i64 w5, w6⟩

set_option maxRecDepth 100000 in
set_option maxHeartbeats 1000000 in
theorem lop_of_trod {n : Nat} {cs : List Value} {x : DataW H × List MemPlace} (h : DataW.trod enc Try.prog W base (fun _ => true) true n 36 cs = some x) (hl : cs.length = 9) :
    ∃ o : LopV, lopCells o = cs ∧ o.good W := by
  have k2 : Try.prog.cellsOf 2 = 1 := by kernel_rfl
  have k3 : Try.prog.cellsOf 3 = 1 := by kernel_rfl
  have k9 : Try.prog.cellsOf 9 = 1 := by kernel_rfl
  have kL : Try.prog.cellsOf 24 = 1 := by kernel_rfl
  have kE : Try.prog.cellsOf 51 = 4 := by kernel_rfl
  have kS : Try.prog.cellsOf 23 = 4 := by kernel_rfl
  match cs, hl with
  | [c0, c1, c2, c3, c4, c5, c6, c7, c8], _ =>
    obtain ⟨xs, n1, -, -, -, hxl, hf⟩ := DataW.trod_struct Try.underlying36 h
    have hx : ∀ i, i < 6 → ∃ y, xs[i]? = some y := fun i hi => ⟨_, List.getElem?_eq_getElem (show i < xs.length by rw [hxl]; exact hi)⟩
    obtain ⟨y0, q0⟩ := hx 0 (by decide)
    have f0 : DataW.trod enc Try.prog W base (fun _ => true) true n1 3 (([c0, c1, c2, c3, c4, c5, c6, c7, c8].drop 0).take (Try.prog.cellsOf 3)) = some y0 := (hf 0 _ rfl).trans q0
    obtain ⟨y1, q1⟩ := hx 1 (by decide)
    have f1 : DataW.trod enc Try.prog W base (fun _ => true) true n1 24 (([c0, c1, c2, c3, c4, c5, c6, c7, c8].drop 1).take (Try.prog.cellsOf 24)) = some y1 := (hf 1 _ rfl).trans q1
    obtain ⟨y2, q2⟩ := hx 2 (by decide)
    have f2 : DataW.trod enc Try.prog W base (fun _ => true) true n1 23 (([c0, c1, c2, c3, c4, c5, c6, c7, c8].drop 2).take (Try.prog.cellsOf 23)) = some y2 := (hf 2 _ rfl).trans q2
    obtain ⟨y3, q3⟩ := hx 3 (by decide)
    have f3 : DataW.trod enc Try.prog W base (fun _ => true) true n1 2 (([c0, c1, c2, c3, c4, c5, c6, c7, c8].drop 6).take (Try.prog.cellsOf 2)) = some y3 := (hf 3 _ rfl).trans q3
    obtain ⟨y4, q4⟩ := hx 4 (by decide)
    have f4 : DataW.trod enc Try.prog W base (fun _ => true) true n1 2 (([c0, c1, c2, c3, c4, c5, c6, c7, c8].drop 7).take (Try.prog.cellsOf 2)) = some y4 := (hf 4 _ rfl).trans q4
    obtain ⟨y5, q5⟩ := hx 5 (by decide)
    have f5 : DataW.trod enc Try.prog W base (fun _ => true) true n1 3 (([c0, c1, c2, c3, c4, c5, c6, c7, c8].drop 8).take (Try.prog.cellsOf 3)) = some y5 := (hf 5 _ rfl).trans q5
    clear hf hx
    simp only [k2, k3, kL, kS, List.drop, List.take] at f0 f1 f2 f3 f4 f5
    obtain ⟨z9, z10, z11, z12, n3, -, -, g9, g10, g11, g12⟩ := Go.Joins.trod_struct4 Try.underlying23 f2
    simp only [k2, k9, List.drop, List.take] at g9 g10 g11 g12
    obtain ⟨x0, e0, _, _⟩ := DataW.trod_int Try.underlying3 f0
    obtain ⟨x3, e3, _, _⟩ := DataW.trod_int Try.underlying2 f3
    obtain ⟨x4, e4, _, _⟩ := DataW.trod_int Try.underlying2 f4
    obtain ⟨x5, e5, _, _⟩ := DataW.trod_int Try.underlying3 f5
    obtain ⟨x9, e9, _, w9⟩ := DataW.trod_int Try.underlying2 g9
    obtain ⟨x10, e10, _, w10⟩ := DataW.trod_int Try.underlying2 g10
    obtain ⟨x11, e11, _, w11⟩ := DataW.trod_string Try.underlying9 g11
    obtain ⟨x12, e12, _, w12⟩ := DataW.trod_string Try.underlying9 g12
    simp only [List.cons.injEq, and_true] at e0 e3 e4 e5 e9 e10 e11 e12
    subst e0 e3 e4 e5 e9 e10 e11 e12
    obtain ⟨es, hE, hes⟩ := recs_of_trodL entCells Ent.wf 4 Try.underlying24 kE (by decide) (fun vs hl ⟨_, _, h⟩ => ent_of_trodL h hl) f1
    exact ⟨⟨x0, c1, es, ⟨x9, x10, x11, x12⟩, x3, x4, x5⟩, rfl, hE, hes, wf_i64 w9, wf_i64 w10, w11, w12⟩
set_option maxRecDepth 100000 in
theorem open_lops {v : Value} {d : DataW H} {ps : List MemPlace} (hv : Value.okWide Try.prog W r base' 25 v) (h : DataW.Trod enc Try.prog W base (fun _ => true) true 25 v d ps) :
    ∃ ops : List LopV, Recs 9 lopCells W v ops ∧ ∀ o ∈ ops, o.good W := by
  obtain ⟨a, n, c, rfl⟩ := okWide_slice Try.underlying25 hv
  obtain ⟨fuel, hf⟩ := h
  exact recs_of_trodL lopCells (LopV.good W) 9 Try.underlying25 (by kernel_rfl) (by decide) (fun vs hl ⟨_, _, h⟩ => lop_of_trod h hl) hf
end
/-- A box that holds an operation. -/
structure LopB (w : World) (b : Nat) (k : Int) (ev : Value) (s : Snp) (i t n : Int) : Prop where
  lt : b < w.heap.size
  c0 : w.cell? ⟨b, 0, none⟩ = some (.int .i64 k)
  c1 : w.cell? ⟨b, 1, none⟩ = some ev
  c2 : w.cell? ⟨b, 2, none⟩ = some (.int .i64 s.i)
  c3 : w.cell? ⟨b, 3, none⟩ = some (.int .i64 s.t)
  c4 : w.cell? ⟨b, 4, none⟩ = some (.string s.c)
  c5 : w.cell? ⟨b, 5, none⟩ = some (.string s.d)
  c6 : w.cell? ⟨b, 6, none⟩ = some (.int .i64 i)
  c7 : w.cell? ⟨b, 7, none⟩ = some (.int .i64 t)
  c8 : w.cell? ⟨b, 8, none⟩ = some (.int .i64 n)
  fr : ∀ j, w.frozen? ⟨b, j, none⟩ = false
section
variable {w w' : World} {b : Nat} {k : Int} {ev : Value} {s : Snp} {i t n : Int}
theorem LopB.keeps {F : List Nat} (h : LopB w b k ev s i t n) (hk : Keeps F w w') (hF : b ∉ F) : LopB w' b k ev s i t n := by
  have g : ∀ j, w'.cell? ⟨b, j, none⟩ = w.cell? ⟨b, j, none⟩ := fun j => hk.cell (p := ⟨b, j, none⟩) h.lt hF
  exact ⟨Nat.lt_of_lt_of_le h.lt hk.size, (g 0).trans h.c0, (g 1).trans h.c1, (g 2).trans h.c2, (g 3).trans h.c3, (g 4).trans h.c4, (g 5).trans h.c5, (g 6).trans h.c6, (g 7).trans h.c7, (g 8).trans h.c8, fun j => (hk.frozen (p := ⟨b, j, none⟩) h.lt hF).trans (h.fr j)⟩
theorem LopB.below (h : LopB w b k ev s i t n) (hb : Below w.heap.size w w') : LopB w' b k ev s i t n := h.keeps (F := []) (Keeps.of_below hb) (by simp)
theorem lopB_box (w : World) (k : Int) (ev : Value) (s : Snp) (i t n : Int) (T : TypeId) : LopB (w.alloc (.cells #[.int .i64 k, ev, .int .i64 s.i, .int .i64 s.t, .string s.c, .string s.d, .int .i64 i, .int .i64 t, .int .i64 n] T)) w.heap.size k ev s i t n :=
  ⟨by simp, World.cell?_alloc_new _ _ _ _, World.cell?_alloc_new _ _ _ _, World.cell?_alloc_new _ _ _ _, World.cell?_alloc_new _ _ _ _, World.cell?_alloc_new _ _ _ _, World.cell?_alloc_new _ _ _ _, World.cell?_alloc_new _ _ _ _, World.cell?_alloc_new _ _ _ _, World.cell?_alloc_new _ _ _ _, fun j => World.frozen?_alloc_new _ _ _ _⟩
theorem LopB.setE (h : LopB w b k ev s i t n) (ev' : Value) : LopB (w.setCell ⟨b, 1, none⟩ ev') b k ev' s i t n ∧ Keeps [b] w (w.setCell ⟨b, 1, none⟩ ev') := by
  have hk : Keeps [b] w (w.setCell ⟨b, 1, none⟩ ev') := (Keeps.refl [b] w).setCell (.inl (by simp)) _
  refine ⟨⟨Nat.lt_of_lt_of_le h.lt hk.size, ?_, World.cell?_setCell_same _ _ _ h.c1, ?_, ?_, ?_, ?_, ?_, ?_, ?_, fun j => ?_⟩, hk⟩
  · rw [World.cell?_setCell_other (h := by simp)]; exact h.c0
  · rw [World.cell?_setCell_other (h := by simp)]; exact h.c2
  · rw [World.cell?_setCell_other (h := by simp)]; exact h.c3
  · rw [World.cell?_setCell_other (h := by simp)]; exact h.c4
  · rw [World.cell?_setCell_other (h := by simp)]; exact h.c5
  · rw [World.cell?_setCell_other (h := by simp)]; exact h.c6
  · rw [World.cell?_setCell_other (h := by simp)]; exact h.c7
  · rw [World.cell?_setCell_other (h := by simp)]; exact h.c8
  · rw [World.frozen?_setCell]; exact h.fr j
theorem LopB.setS (h : LopB w b k ev s i t n) (m : Snp) : LopB ((((w.setCell ⟨b, 2, none⟩ (.int .i64 m.i)).setCell ⟨b, 3, none⟩ (.int .i64 m.t)).setCell ⟨b, 4, none⟩ (.string m.c)).setCell ⟨b, 5, none⟩ (.string m.d)) b k ev m i t n ∧
    Keeps [b] w ((((w.setCell ⟨b, 2, none⟩ (.int .i64 m.i)).setCell ⟨b, 3, none⟩ (.int .i64 m.t)).setCell ⟨b, 4, none⟩ (.string m.c)).setCell ⟨b, 5, none⟩ (.string m.d)) := by
  have hk : Keeps [b] w ((((w.setCell ⟨b, 2, none⟩ (.int .i64 m.i)).setCell ⟨b, 3, none⟩ (.int .i64 m.t)).setCell ⟨b, 4, none⟩ (.string m.c)).setCell ⟨b, 5, none⟩ (.string m.d)) :=
    ((((Keeps.refl [b] w).setCell (.inl (by simp)) _).setCell (.inl (by simp)) _).setCell (.inl (by simp)) _).setCell (.inl (by simp)) _
  have o : ∀ j, j ≠ 2 → j ≠ 3 → j ≠ 4 → j ≠ 5 → ((((w.setCell ⟨b, 2, none⟩ (.int .i64 m.i)).setCell ⟨b, 3, none⟩ (.int .i64 m.t)).setCell ⟨b, 4, none⟩ (.string m.c)).setCell ⟨b, 5, none⟩ (.string m.d)).cell? ⟨b, j, none⟩ = w.cell? ⟨b, j, none⟩ := fun j h2 h3 h4 h5 => by
    rw [World.cell?_setCell_other (h := by simp [h2, h3, h4, h5]), World.cell?_setCell_other (h := by simp [h2, h3, h4, h5]), World.cell?_setCell_other (h := by simp [h2, h3, h4, h5]), World.cell?_setCell_other (h := by simp [h2, h3, h4, h5])]
  refine ⟨⟨Nat.lt_of_lt_of_le h.lt hk.size, (o 0 (by decide) (by decide) (by decide) (by decide)).trans h.c0, (o 1 (by decide) (by decide) (by decide) (by decide)).trans h.c1, ?_, ?_, ?_, ?_, (o 6 (by decide) (by decide) (by decide) (by decide)).trans h.c6, (o 7 (by decide) (by decide) (by decide) (by decide)).trans h.c7, (o 8 (by decide) (by decide) (by decide) (by decide)).trans h.c8, fun j => ?_⟩, hk⟩
  · rw [World.cell?_setCell_other (h := by simp), World.cell?_setCell_other (h := by simp), World.cell?_setCell_other (h := by simp)]
    exact World.cell?_setCell_same _ _ _ h.c2
  · rw [World.cell?_setCell_other (h := by simp), World.cell?_setCell_other (h := by simp)]
    exact World.cell?_setCell_same _ _ _ (show World.cell? _ _ = some (.int .i64 s.t) from by rw [World.cell?_setCell_other (h := by simp)]; exact h.c3)
  · rw [World.cell?_setCell_other (h := by simp)]
    exact World.cell?_setCell_same _ _ _ (show World.cell? _ _ = some (.string s.c) from by rw [World.cell?_setCell_other (h := by simp), World.cell?_setCell_other (h := by simp)]; exact h.c4)
  · exact World.cell?_setCell_same _ _ _ (show World.cell? _ _ = some (.string s.d) from by rw [World.cell?_setCell_other (h := by simp), World.cell?_setCell_other (h := by simp), World.cell?_setCell_other (h := by simp)]; exact h.c5)
  · rw [World.frozen?_setCell, World.frozen?_setCell, World.frozen?_setCell, World.frozen?_setCell]; exact h.fr j
end
end Go.Proofs.Ytikoafjnopkoaaa
namespace Go.Proofs.Ytikoafjnopkoaaa
set_option linter.unusedVariables false
set_option linter.unusedSimpArgs false
open Go.ChangeShapes Go.WideShapes Go.ChangeAt Go.RowKit

theorem cutSnap_wf {s : Snp} (h : s.wf) : (cutSnap s).wf := by
  obtain ⟨h1, h2, h3, h4⟩ := h
  have h5 : (cutSnap s).c.size ≤ 60 := takeB_size _ _
  have h6 : (cutSnap s).d.size ≤ 100 := takeB_size _ _
  exact ⟨h1, h2, by unfold maxLen; omega, by unfold maxLen; omega⟩
theorem cutEnts_d (es : List Ent) (n : Nat) : ∀ e ∈ cutEnts es n, e.d.size ≤ 1000000000 := by
  intro e he
  unfold cutEnts at he
  obtain ⟨x, hx, rfl⟩ := List.mem_map.1 he
  have : (cutEnt x).d.size ≤ 60 := takeB_size _ _
  omega
theorem newOk_i {s : Snp} {L : List Ent} (h : newOk s L = true) : s.i ≤ 1099511627776 := by
  unfold newOk inP okN at h
  simp only [List.all_cons, List.all_nil, Bool.and_eq_true, decide_eq_true_eq, Bool.and_true] at h
  exact h.1.1.1.2
theorem LogS.keepsE {w w' : World} {b : Nat} {s : Snp} {lv : Value} {es : List Ent} {F : List Nat} (h : LogS w b s lv es) (hk : Keeps F w w') (hF : b ∉ F) (hG : ∀ g off n c, lv = .slice (some ⟨g, off, none⟩) n c → es ≠ [] → g ∉ F) : LogS w' b s lv es := by
  have g : ∀ j, w'.cell? ⟨b, j, none⟩ = w.cell? ⟨b, j, none⟩ := fun j => hk.cell (p := ⟨b, j, none⟩) h.lt hF
  refine ⟨Nat.lt_of_lt_of_le h.lt hk.size, (g 0).trans h.c0, (g 1).trans h.c1, (g 2).trans h.c2, (g 3).trans h.c3, (g 4).trans h.c4, fun j => (hk.frozen (p := ⟨b, j, none⟩) h.lt hF).trans (h.fr j), ?_, h.ne⟩
  by_cases he : es = []
  · subst he
    obtain ⟨a, cap, hv, -, h2, -⟩ := h.r
    rw [hv]
    exact EntR.nil _ _ _ h2
  · exact EntR.keeps h.r hk (fun g off n c e => hG g off n c e he)
theorem LogS.rowLt {w : World} {b : Nat} {s : Snp} {lv : Value} {es : List Ent} (h : LogS w b s lv es) : ∀ g off n c, lv = .slice (some ⟨g, off, none⟩) n c → es ≠ [] → g < w.heap.size := by
  intro g off n c e hne
  obtain ⟨a, cap, hv, -, -, hc⟩ := h.r
  have hp : 0 < es.length := by cases es with | nil => exact absurd rfl hne | cons _ _ => simp
  obtain ⟨b', off', ha, hlt, -⟩ := hc 0 hp
  rw [e] at hv
  simp only [Value.slice.injEq] at hv
  rw [ha] at hv
  simp only [Option.some.injEq, Addr.mk.injEq, and_true] at hv
  omega
theorem keeps5 (w : World) (B : Nat) (x0 x1 x2 x3 x4 : Value) : Keeps [B] w (((((w.setCell ⟨B, 0, none⟩ x0).setCell ⟨B, 1, none⟩ x1).setCell ⟨B, 2, none⟩ x2).setCell ⟨B, 3, none⟩ x3).setCell ⟨B, 4, none⟩ x4) :=
  (((((Keeps.refl [B] w).setCell (.inl (by simp)) _).setCell (.inl (by simp)) _).setCell (.inl (by simp)) _).setCell (.inl (by simp)) _).setCell (.inl (by simp)) _
/-- A log, and the document's log in a box. -/
structure Pair (W w : World) (b B : Nat) (s : Snp) (lv : Value) (es : List Ent) (t : Snp) (rv : Value) (fs : List Ent) : Prop where
  l : LogS w b s lv es
  r : LogS w B t rv fs
  bB : b ≠ B
  lo : ∀ g off n c, lv = .slice (some ⟨g, off, none⟩) n c → es ≠ [] → g ≠ B
  ro : ∀ g off n c, rv = .slice (some ⟨g, off, none⟩) n c → g ≠ b ∧ g < w.heap.size
  bel : Below W.heap.size W w
  bW : W.heap.size ≤ b
  BW : W.heap.size ≤ B
section
variable {W w w' : World} {b B : Nat} {s s' t t' : Snp} {lv rv lv' rv' : Value} {es es' fs fs' : List Ent} {k : Nat}
theorem Pair.refS (S : Pair W w b B s lv es t rv fs) : RefS w rv fs := ⟨S.r.r, fun g off n c e => (S.ro g off n c e).2⟩
theorem Pair.below (S : Pair W w b B s lv es t rv fs) (hb : Below w.heap.size w w') : Pair W w' b B s lv es t rv fs :=
  ⟨S.l.below hb, S.r.below hb, S.bB, S.lo, fun g off n c e => ⟨(S.ro g off n c e).1, Nat.lt_of_lt_of_le (S.ro g off n c e).2 hb.size⟩, S.bel.trans (hb.mono S.bel.size), S.bW, S.BW⟩
theorem Since.ne {lv : Value} {B : Nat} (h : Since w lv) (hB : B < w.heap.size) : ∀ g off n c, lv = .slice (some ⟨g, off, none⟩) n c → g ≠ B := fun g off n c e => by
  have := h g off n c e
  omega
/-- The log goes on. -/
theorem Pair.stepL (S : Pair W w b B s lv es t rv fs) (hl : LogS w' b s' lv' es') (hk : Keeps [b] w w') (hv : lv' = lv ∨ Since w lv') : Pair W w' b B s' lv' es' t rv fs :=
  ⟨hl, S.r.keeps hk (by simp; exact fun e => S.bB e.symm) (fun g off n c e => by have := (S.ro g off n c e).1; simpa using this), S.bB,
    fun g off n c e hne => by
      rcases hv with rfl | hv
      · refine S.lo g off n c e (fun h0 => hne ?_)
        obtain ⟨a1, cap1, h1, -⟩ := hl.r
        obtain ⟨a2, cap2, h2, -⟩ := S.l.r
        rw [h1] at h2
        simp only [Value.slice.injEq] at h2
        exact List.eq_nil_of_length_eq_zero (by rw [h2.2.1, h0]; rfl)
      · exact hv.ne S.r.lt g off n c e,
    fun g off n c e => ⟨(S.ro g off n c e).1, Nat.lt_of_lt_of_le (S.ro g off n c e).2 hk.size⟩, S.bel.trans (hk.below (B := W.heap.size) (fun x hx => by simp at hx; have := S.bW; omega) S.bel.size), S.bW, S.BW⟩
/-- The document's log goes on. -/
theorem Pair.stepR (S : Pair W w b B s lv es t rv fs) (hk : Keeps [B] w w') (hr : LogS w' B t' rv' fs') (hro : ∀ g off n c, rv' = .slice (some ⟨g, off, none⟩) n c → g ≠ b ∧ g < w'.heap.size) : Pair W w' b B s lv es t' rv' fs' :=
  ⟨S.l.keepsE hk (by simp; exact S.bB) (fun g off n c e hne => by have := S.lo g off n c e hne; simpa using this), hr, S.bB, S.lo, hro, S.bel.trans (hk.below (B := W.heap.size) (fun x hx => by simp at hx; have := S.BW; omega) S.bel.size), S.bW, S.BW⟩
/-- The document's log is written: to the row it had, or to a row of its own. -/
theorem Pair.store {w0 : World} (S : Pair W w b B s lv es t rv fs) (hr : EntR w rv' fs') (ho : rv' = rv ∨ rv' = .slice none 0 0 ∨ EntO w w0.heap.size rv' fs') (hb : b < w0.heap.size) (hB : B < w0.heap.size) :
    Pair W (((((w.setCell ⟨B, 0, none⟩ (.int .i64 t'.i)).setCell ⟨B, 1, none⟩ (.int .i64 t'.t)).setCell ⟨B, 2, none⟩ (.string t'.c)).setCell ⟨B, 3, none⟩ (.string t'.d)).setCell ⟨B, 4, none⟩ rv') b B s lv es t' rv' fs' := by
  have hro : ∀ g off n c, rv' = .slice (some ⟨g, off, none⟩) n c → g ≠ b ∧ g < w.heap.size ∧ g ≠ B := fun g off n c e => by
    rcases ho with ho | ho | ho
    · rw [ho] at e
      exact ⟨(S.ro g off n c e).1, (S.ro g off n c e).2, S.r.ne g off n c e⟩
    · rw [ho] at e; cases e
    · have h1 := ho.since (w0 := w0) (Nat.le_refl _) g off n c e
      have h2 := ho.lt g off n c e
      exact ⟨by omega, h2, by omega⟩
  obtain ⟨h1, h2⟩ := S.r.setAll (s' := t') (rv := rv') hr (fun g off n c e => (hro g off n c e).2.2)
  exact S.stepR h2 h1 (fun g off n c e => ⟨(hro g off n c e).1, Nat.lt_of_lt_of_le (hro g off n c e).2.1 h2.size⟩)

/-- Where the law stands: both logs hold the same. -/
structure Situ (W w : World) (b B : Nat) (s : Snp) (lv rv : Value) (es : List Ent) (k : Nat) : Prop where
  p : Pair W w b B s lv es s rv es
  n : LogB s es
  d : smallD s es
  i : idxOk s es
  num : s.i ≤ 1099511627776 + 200 * k
theorem Situ.below (S : Situ W w b B s lv rv es k) (hb : Below w.heap.size w w') : Situ W w' b B s lv rv es k := ⟨S.p.below hb, S.n, S.d, S.i, S.num⟩
theorem Situ.next (S : Situ W w b B s lv rv es k) : Situ W w b B s lv rv es (k + 1) := ⟨S.p, S.n, S.d, S.i, by have := S.num; omega⟩
theorem Situ.put (S : Situ W w b B s lv rv es k) (hlo : entsLo fs) (hd : ∀ e ∈ fs, e.d.size ≤ 1000000000) (P : Pair W w' b B s lv' (putP s es fs).2 s rv' (putP s es fs).2) : Situ W w' b B s lv' rv' (putP s es fs).2 (k + 1) := by
  obtain ⟨h1, h2, h3⟩ := putP_ok S.n S.i hlo
  exact ⟨P, h1, ⟨S.d.1, fun e he => (h3 e he).elim (S.d.2 e) (hd e)⟩, h2, by have := S.num; omega⟩
theorem Situ.pack (S : Situ W w b B s lv rv es k) (hk : k < 30) (hp : packOk s es t = true) (hd : t.c.size ≤ 1000000000) (P : Pair W w' b B t lv' (es.drop (t.i - s.i).toNat) t rv' (es.drop (t.i - s.i).toNat)) : Situ W w' b B t lv' rv' (es.drop (t.i - s.i).toNat) (k + 1) := by
  obtain ⟨h1, h2⟩ := pack_ok S.n S.i hp
  obtain ⟨h3, h4⟩ := pack_le hp
  have h5 := S.num
  have h6 := S.n.1
  have h7 := S.n.2.2
  exact ⟨P, ⟨by omega, by omega, h2⟩, ⟨hd, fun e he => S.d.2 e (List.mem_of_mem_drop he)⟩, h1, by omega⟩
theorem Situ.set (hi0 : 0 ≤ t.i) (hi1 : t.i ≤ 1099511627776) (hd : t.c.size ≤ 1000000000) (P : Pair W w' b B t lv' [] t rv' []) : Situ W w' b B t lv' rv' [] (k + 1) :=
  ⟨P, ⟨hi0, by omega, by simp⟩, ⟨hd, fun e he => by simp at he⟩, fun j hj => by simp at hj, by omega⟩
end
end Go.Proofs.Ytikoafjnopkoaaa
