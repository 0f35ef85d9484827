/-
  No claim by itself: the document's log, by value: Pack: what it makes. No condition.
-/
import Derived.Test.YtikoafjnopkoaaaP8
namespace Go.Proofs.Ytikoafjnopkoaaa
set_option linter.unusedVariables false
set_option linter.unusedSimpArgs false
open Go.ChangeShapes Go.WideShapes Go.ChangeAt Go.RowKit

def RetRPack (w : World) (s : Snp) (rv : Value) (es : List Ent) (n : Snp) (e : Ending) (w' : World) : Prop :=
  Below w.heap.size w w' ∧ if packOk s es n = true then ∃ v, e = .returned (.tuple #[refAgg n v, .bool true]) ∧ EntO w' w.heap.size v (es.drop (n.i - s.i).toNat) else e = .returned (.tuple #[refAgg s rv, .bool false])
set_option maxRecDepth 100000 in
set_option maxHeartbeats 4000000 in
theorem ref_pack {w : World} {s n : Snp} {rv : Value} {es : List Ent} (h : RefS w rv es) (hB0 : LogB s es) :
    Calls Try.prog 11 #[refAgg s rv, snpAgg n] w fun e w' => RetRPack w s rv es n e w' := by
  have hS0 := logS_box (s := s) h
  have hR0 := Lib.hid h
  obtain ⟨a, cap, rfl⟩ := h.r.slice
  have hs1 := hB0.1
  have hs2 := hB0.2.1
  have hs3 := hB0.2.2
  have hB := Lib.hid hB0
  have HP : Hid (packOk s es n = (!decide (n.i < s.i + 1) && fitsP s es n.i n.t)) := Lib.hid rfl
  have hcap : es.length ≤ cap ∧ cap ≤ 9223372036854775807 := by
    obtain ⟨a', c', hv', h1, h2, _⟩ := h.r
    simp only [Value.slice.injEq] at hv'
    omega
  obtain ⟨hcap, hcm⟩ := hcap
  unfold refAgg snpAgg
  unfold refCells at hS0
  have hbx0 := (Below.refl w.heap.size w).alloc (Nat.le_refl _) (.cells #[.int .i64 s.i, .int .i64 s.t, .string s.c, .string s.d, .slice a es.length cap] 32)
  generalize hw0 : w.alloc (.cells #[.int .i64 s.i, .int .i64 s.t, .string s.c, .string s.d, .slice a es.length cap] 32) = w0 at *
  have hz0 : w0.heap.size = w.heap.size + 1 := by rw [← hw0]; simp
  have hN := snapS_box w0 n 23
  have hb1 := (Below.refl w0.heap.size w0).alloc (Nat.le_refl _) (.cells #[.int .i64 n.i, .int .i64 n.t, .string n.c, .string n.d] 23)
  have hS0' := hS0.below hb1
  have hbx1 := hbx0.trans (hb1.mono hbx0.size)
  generalize hw1 : w0.alloc (.cells #[.int .i64 n.i, .int .i64 n.t, .string n.c, .string n.d] 23) = wa at *
  have hza : wa.heap.size = w.heap.size + 2 := by rw [← hw1]; simp [hz0]
  rw [hz0] at hN
  have hb2 := (Below.refl wa.heap.size wa).alloc (Nat.le_refl _) (.cells #[.int .i64 0, .int .i64 0, .string ⟨#[]⟩, .string ⟨#[]⟩, .slice none 0 0] 32)
  have hR1 := logS_box (w := wa) (s := ⟨0, 0, ⟨#[]⟩, ⟨#[]⟩⟩) (rv := .slice none 0 0) (es := []) ⟨EntR.nil _ _ _ (by omega), fun g off n c e => by cases e⟩
  unfold refCells at hR1
  have hS1 := hS0'.below hb2
  have hN1 := hN.below hb2
  have hbx := hbx1.trans (hb2.mono hbx1.size)
  rw [hza] at hR1
  clear hS0 hS0' hN hb1 hb2 hbx0 hbx1 h hB0
  go_enter Try.func11, Try.ntmps11
  go_upto_region 1 with fail
  dsimp only at hR1
  generalize hw2 : wa.alloc _ = w1 at *
  clear hw0 hw1 hw2 hz0 hza
  have l0 := hS1.lt
  have l1 := hN1.lt
  have l2 := hR1.lt
  go_cut [26] (fun x wx => x = .bool (!packOk s es n) ∧ Below w1.heap.size w1 wx)
  case first =>
    by_cases p1 : n.i < s.i + 1
    · have HQ : Hid (packOk s es n = false) := Lib.hid (by rw [HP.out, decide_eq_true p1]; rfl)
      have t1 : decide (n.i < s.i + 1) = true := decide_eq_true p1
      refine wp_region_sw (by rfl) (by kernel_rfl) (fun k => match k with | 3 => some (fun v _ => v = .int .i64 (s.i + 1)) | _ => none) ?_ (fun vals => ?_)
      · intro k φ hk v w1 w2 h1 h2
        match k, hk with
        | 3, hk => obtain rfl := Option.some.inj hk; exact h1
      iterate 1 ((with_reducible refine sw_pure ?_ (fun K hK => ?_)); (· rfl); go_simp; with_reducible refine hK _ ?_; clear hK K)
      refine sw_at (.int .i64 n.i) rfl rfl (fun wz hz hH => ?_) (fun K hK => ?_)
      · have h2 := (hN1.below hz).c0
        go_simp
      go_simp; refine hK _ ?_; clear hK K
      refine sw_at (refAgg s (.slice a es.length cap)) rfl rfl (fun wz hz hH => ?_) (fun K hK => ?_)
      · have hZ := hS1.below hz
        have c0 := hZ.c0
        have c1 := hZ.c1
        have c2 := hZ.c2
        have c3 := hZ.c3
        have c4 := hZ.c4
        clear hZ
        unfold refAgg
        go_simp
      go_simp; refine hK _ ?_; clear hK K
      refine sw_call _ rfl rfl (fun wz hz hH => ?_) (fun K hK => ?_)
      · have hT := ref_first (w := wz) (s := s) (a := a) (n := es.length) (cap := cap) hB.out.1 hB.out.2.1
        unfold refAgg at hT ⊢
        go_simp
        go_at_call 31
        refine hT.mono ?_
        rintro e w' ⟨rfl, hb⟩
        exact ⟨_, rfl, rfl, hb⟩
      go_simp; refine hK _ ?_; clear hK K
      refine sw_at (.bool true) rfl rfl (fun wz hz hH => ?_) (fun K hK => ?_)
      · have h3 := hH _ (List.Mem.head _) rfl
        dsimp only at h3
        rw [h3]
        go_simp
      go_simp; refine hK _ ?_; clear hK K
      iterate 16 ((with_reducible refine sw_pure ?_ (fun K hK => ?_)); (· rfl); go_simp; with_reducible refine hK _ ?_; clear hK K)
      refine sw_done (fun wz hz hH => ?_)
      go_wp2_with fail
      go_meet
      exact ⟨by rw [HQ.out]; rfl, hz⟩
    · have t1 : decide (n.i < s.i + 1) = false := decide_eq_false p1
      by_cases p2 : lastP s es < n.i
      · have HQ : Hid (packOk s es n = false) := Lib.hid (by
          rw [HP.out]
          unfold fitsP termP
          rw [if_pos (.inr p2)]
          simp)
        have t2 : decide (lastP s es < n.i) = true := decide_eq_true p2
        refine wp_region_sw (by rfl) (by kernel_rfl) (fun k => match k with | 3 => some (fun v _ => v = .int .i64 (s.i + 1)) | 9 => some (fun v _ => v = .int .i64 (lastP s es)) | _ => none) ?_ (fun vals => ?_)
        · intro k φ hk v w1 w2 h1 h2
          match k, hk with
          | 3, hk => obtain rfl := Option.some.inj hk; exact h1
          | 9, hk => obtain rfl := Option.some.inj hk; exact h1
        iterate 1 ((with_reducible refine sw_pure ?_ (fun K hK => ?_)); (· rfl); go_simp; with_reducible refine hK _ ?_; clear hK K)
        refine sw_at (.int .i64 n.i) rfl rfl (fun wz hz hH => ?_) (fun K hK => ?_)
        · have h2 := (hN1.below hz).c0
          go_simp
        go_simp; refine hK _ ?_; clear hK K
        refine sw_at (refAgg s (.slice a es.length cap)) rfl rfl (fun wz hz hH => ?_) (fun K hK => ?_)
        · have hZ := hS1.below hz
          have c0 := hZ.c0
          have c1 := hZ.c1
          have c2 := hZ.c2
          have c3 := hZ.c3
          have c4 := hZ.c4
          clear hZ
          unfold refAgg
          go_simp
        go_simp; refine hK _ ?_; clear hK K
        refine sw_call _ rfl rfl (fun wz hz hH => ?_) (fun K hK => ?_)
        · have hT := ref_first (w := wz) (s := s) (a := a) (n := es.length) (cap := cap) hB.out.1 hB.out.2.1
          unfold refAgg at hT ⊢
          go_simp
          go_at_call 31
          refine hT.mono ?_
          rintro e w' ⟨rfl, hb⟩
          exact ⟨_, rfl, rfl, hb⟩
        go_simp; refine hK _ ?_; clear hK K
        refine sw_at (.bool false) rfl rfl (fun wz hz hH => ?_) (fun K hK => ?_)
        · have h3 := hH _ (List.Mem.head _) rfl
          dsimp only at h3
          rw [h3]
          go_simp
        go_simp; refine hK _ ?_; clear hK K
        iterate 2 ((with_reducible refine sw_pure ?_ (fun K hK => ?_)); (· rfl); go_simp; with_reducible refine hK _ ?_; clear hK K)
        refine sw_at (.int .i64 n.i) rfl rfl (fun wz hz hH => ?_) (fun K hK => ?_)
        · have h2 := (hN1.below hz).c0
          go_simp
        go_simp; refine hK _ ?_; clear hK K
        refine sw_at (refAgg s (.slice a es.length cap)) rfl rfl (fun wz hz hH => ?_) (fun K hK => ?_)
        · have hZ := hS1.below hz
          have c0 := hZ.c0
          have c1 := hZ.c1
          have c2 := hZ.c2
          have c3 := hZ.c3
          have c4 := hZ.c4
          clear hZ
          unfold refAgg
          go_simp
        go_simp; refine hK _ ?_; clear hK K
        refine sw_call _ rfl rfl (fun wz hz hH => ?_) (fun K hK => ?_)
        · have hT := ref_last (w := wz) (s := s) (a := a) (cap := cap) (es := es) hB.out
          unfold refAgg at hT ⊢
          go_simp
          go_at_call 30
          refine hT.mono ?_
          rintro e w' ⟨rfl, hb⟩
          exact ⟨_, rfl, rfl, hb⟩
        go_simp; refine hK _ ?_; clear hK K
        refine sw_at (.bool true) rfl rfl (fun wz hz hH => ?_) (fun K hK => ?_)
        · have h3 := hH _ (List.Mem.head _) rfl
          dsimp only at h3
          rw [h3]
          go_simp
        go_simp; refine hK _ ?_; clear hK K
        iterate 10 ((with_reducible refine sw_pure ?_ (fun K hK => ?_)); (· rfl); go_simp; with_reducible refine hK _ ?_; clear hK K)
        refine sw_done (fun wz hz hH => ?_)
        go_wp2_with fail
        go_meet
        exact ⟨by rw [HQ.out]; rfl, hz⟩
      · have HQ : Hid (packOk s es n = fitsP s es n.i n.t) := Lib.hid (by rw [HP.out, decide_eq_false p1]; rfl)
        have t2 : decide (lastP s es < n.i) = false := decide_eq_false p2
        refine wp_region_sw (by rfl) (by kernel_rfl) (fun k => match k with | 3 => some (fun v _ => v = .int .i64 (s.i + 1)) | 9 => some (fun v _ => v = .int .i64 (lastP s es)) | 18 => some (fun v _ => v = .bool (fitsP s es n.i n.t)) | _ => none) ?_ (fun vals => ?_)
        · intro k φ hk v w1 w2 h1 h2
          match k, hk with
          | 3, hk => obtain rfl := Option.some.inj hk; exact h1
          | 9, hk => obtain rfl := Option.some.inj hk; exact h1
          | 18, hk => obtain rfl := Option.some.inj hk; exact h1
        iterate 1 ((with_reducible refine sw_pure ?_ (fun K hK => ?_)); (· rfl); go_simp; with_reducible refine hK _ ?_; clear hK K)
        refine sw_at (.int .i64 n.i) rfl rfl (fun wz hz hH => ?_) (fun K hK => ?_)
        · have h2 := (hN1.below hz).c0
          go_simp
        go_simp; refine hK _ ?_; clear hK K
        refine sw_at (refAgg s (.slice a es.length cap)) rfl rfl (fun wz hz hH => ?_) (fun K hK => ?_)
        · have hZ := hS1.below hz
          have c0 := hZ.c0
          have c1 := hZ.c1
          have c2 := hZ.c2
          have c3 := hZ.c3
          have c4 := hZ.c4
          clear hZ
          unfold refAgg
          go_simp
        go_simp; refine hK _ ?_; clear hK K
        refine sw_call _ rfl rfl (fun wz hz hH => ?_) (fun K hK => ?_)
        · have hT := ref_first (w := wz) (s := s) (a := a) (n := es.length) (cap := cap) hB.out.1 hB.out.2.1
          unfold refAgg at hT ⊢
          go_simp
          go_at_call 31
          refine hT.mono ?_
          rintro e w' ⟨rfl, hb⟩
          exact ⟨_, rfl, rfl, hb⟩
        go_simp; refine hK _ ?_; clear hK K
        refine sw_at (.bool false) rfl rfl (fun wz hz hH => ?_) (fun K hK => ?_)
        · have h3 := hH _ (List.Mem.head _) rfl
          dsimp only at h3
          rw [h3]
          go_simp
        go_simp; refine hK _ ?_; clear hK K
        iterate 2 ((with_reducible refine sw_pure ?_ (fun K hK => ?_)); (· rfl); go_simp; with_reducible refine hK _ ?_; clear hK K)
        refine sw_at (.int .i64 n.i) rfl rfl (fun wz hz hH => ?_) (fun K hK => ?_)
        · have h2 := (hN1.below hz).c0
          go_simp
        go_simp; refine hK _ ?_; clear hK K
        refine sw_at (refAgg s (.slice a es.length cap)) rfl rfl (fun wz hz hH => ?_) (fun K hK => ?_)
        · have hZ := hS1.below hz
          have c0 := hZ.c0
          have c1 := hZ.c1
          have c2 := hZ.c2
          have c3 := hZ.c3
          have c4 := hZ.c4
          clear hZ
          unfold refAgg
          go_simp
        go_simp; refine hK _ ?_; clear hK K
        refine sw_call _ rfl rfl (fun wz hz hH => ?_) (fun K hK => ?_)
        · have hT := ref_last (w := wz) (s := s) (a := a) (cap := cap) (es := es) hB.out
          unfold refAgg at hT ⊢
          go_simp
          go_at_call 30
          refine hT.mono ?_
          rintro e w' ⟨rfl, hb⟩
          exact ⟨_, rfl, rfl, hb⟩
        go_simp; refine hK _ ?_; clear hK K
        refine sw_at (.bool false) rfl rfl (fun wz hz hH => ?_) (fun K hK => ?_)
        · have h3 := hH _ (List.Mem.head _) rfl
          dsimp only at h3
          rw [h3]
          go_simp
        go_simp; refine hK _ ?_; clear hK K
        iterate 2 ((with_reducible refine sw_pure ?_ (fun K hK => ?_)); (· rfl); go_simp; with_reducible refine hK _ ?_; clear hK K)
        refine sw_at (refAgg s (.slice a es.length cap)) rfl rfl (fun wz hz hH => ?_) (fun K hK => ?_)
        · have hZ := hS1.below hz
          have c0 := hZ.c0
          have c1 := hZ.c1
          have c2 := hZ.c2
          have c3 := hZ.c3
          have c4 := hZ.c4
          clear hZ
          unfold refAgg
          go_simp
        go_simp; refine hK _ ?_; clear hK K
        iterate 1 ((with_reducible refine sw_pure ?_ (fun K hK => ?_)); (· rfl); go_simp; with_reducible refine hK _ ?_; clear hK K)
        refine sw_at (.int .i64 n.i) rfl rfl (fun wz hz hH => ?_) (fun K hK => ?_)
        · have h2 := (hN1.below hz).c0
          go_simp
        go_simp; refine hK _ ?_; clear hK K
        iterate 1 ((with_reducible refine sw_pure ?_ (fun K hK => ?_)); (· rfl); go_simp; with_reducible refine hK _ ?_; clear hK K)
        refine sw_at (.int .i64 n.t) rfl rfl (fun wz hz hH => ?_) (fun K hK => ?_)
        · have h2 := (hN1.below hz).c1
          go_simp
        go_simp; refine hK _ ?_; clear hK K
        refine sw_call _ rfl rfl (fun wz hz hH => ?_) (fun K hK => ?_)
        · have hT := ref_fits (w := wz) (s := s) n.i n.t (hR0.out.below (hbx.trans (hz.mono hbx.size))) hB.out
          unfold refAgg at hT ⊢
          go_simp
          go_at_call 17
          refine hT.mono ?_
          rintro e w' ⟨rfl, hb⟩
          exact ⟨_, rfl, rfl, hb⟩
        go_simp; refine hK _ ?_; clear hK K
        refine sw_at (.bool (!fitsP s es n.i n.t)) rfl rfl (fun wz hz hH => ?_) (fun K hK => ?_)
        · have h3 := hH _ (List.Mem.head _) rfl
          dsimp only at h3
          rw [h3]
          go_simp
        go_simp; refine hK _ ?_; clear hK K
        iterate 1 ((with_reducible refine sw_pure ?_ (fun K hK => ?_)); (· rfl); go_simp; with_reducible refine hK _ ?_; clear hK K)
        refine sw_done (fun wz hz hH => ?_)
        go_wp2_with fail
        go_meet
        exact ⟨by rw [HQ.out], hz⟩
  case rest =>
    obtain ⟨rfl, hz⟩ := hcut
    have hSz := hS1.below hz
    have hNz := hN1.below hz
    have hRz := hR1.below hz
    have hbz := hbx.trans (hz.mono hbx.size)
    have q0 := hRz.c0
    have q1 := hRz.c1
    have q2 := hRz.c2
    have q3 := hRz.c3
    have q4 := hRz.c4
    have f0 := hRz.fr 0
    have f1 := hRz.fr 1
    have f2 := hRz.fr 2
    have f3 := hRz.fr 3
    have f4 := hRz.fr 4
    dsimp only at q0 q1 q2 q3
    cases hp : packOk s es n with
    | false =>
      have HQ := Lib.hid hp
      have c0 := hSz.c0
      have c1 := hSz.c1
      have c2 := hSz.c2
      have c3 := hSz.c3
      have c4 := hSz.c4
      have HB := Lib.hid fun x0 x1 x2 x3 x4 => below5 (b := w.heap.size + 2) hbz (by omega) x0 x1 x2 x3 x4
      clear hSz hNz hRz hbz hp
      go_wp2_with fail
      exact bodyPost_ret (v := .tuple #[refAgg s (.slice a es.length cap), .bool false]) (by simp [results, Try.results11, go_sem, refAgg, q0, q1, q2, q3, q4]) rfl ⟨HB.out _ _ _ _ _, by rw [if_neg (by rw [HQ.out]; decide)]⟩
    | true =>
      have HQ := Lib.hid hp
      have hfit : fitsP s es n.i n.t = true ∧ s.i + 1 ≤ n.i := by
        rw [HP.out] at hp
        simp only [Bool.and_eq_true, Bool.not_eq_true', decide_eq_false_iff_not] at hp
        exact ⟨hp.2, by omega⟩
      have hni : n.i ≤ lastP s es := by
        have := hfit.1
        unfold fitsP at this
        exact (term_in' (s := s) (es := es) (i := n.i) (by simp only [Bool.and_eq_true] at this; exact this.1)).2
      obtain ⟨K, hK⟩ : ∃ K, K = (n.i - s.i).toNat := ⟨_, rfl⟩
      have hKn : n.i = s.i + K := by have := hfit.2; omega
      have hKl : K ≤ es.length := by unfold lastP at hni; omega
      have hd := hSz.r.drop K hKl
      have HD := Lib.hid hd
      have HKN := Lib.hid hK
      have w1q : IntKind.i64.wrap (n.i - s.i) = (K : Int) := by rw [IntWalk.i64_in _ (by omega)]; omega
      have hKc : K ≤ cap := by omega
      have lb2 : w.heap.size + 2 < wc.heap.size := hRz.lt
      clear hd hp hfit hni hK hKn
      go_wp2_with fail
      refine wp_region_tail 12 (by rfl) (by kernel_rfl) (fun k => match k with | 10 => some (fun v wx => EntO wx wc.heap.size v (es.drop K)) | _ => none) ?_ (fun vals => ?_)
      · intro k φ hk v w1 w2 h1 h2
        match k, hk with
        | 10, hk => obtain rfl := Option.some.inj hk; exact h1.below h2
      dsimp only [List.take, List.drop]
      refine sw_at (snpAgg n) rfl rfl (fun wz hz hH => ?_) (fun K hK => ?_)
      · have hZ := hNz.below hz
        have c0 := hZ.c0
        have c1 := hZ.c1
        have c2 := hZ.c2
        have c3 := hZ.c3
        clear hZ
        unfold snpAgg
        go_simp
      go_simp; refine hK _ ?_; clear hK K
      iterate 1 ((with_reducible refine sw_pure ?_ (fun K hK => ?_)); (· rfl); go_simp; with_reducible refine hK _ ?_; clear hK K)
      refine sw_at (.slice a es.length cap) rfl rfl (fun wz hz hH => ?_) (fun K hK => ?_)
      · have h2 := (hSz.below hz).c4
        go_simp
      go_simp; refine hK _ ?_; clear hK K
      iterate 1 ((with_reducible refine sw_pure ?_ (fun K hK => ?_)); (· rfl); go_simp; with_reducible refine hK _ ?_; clear hK K)
      refine sw_at (.int .i64 n.i) rfl rfl (fun wz hz hH => ?_) (fun K hK => ?_)
      · have h2 := (hNz.below hz).c0
        go_simp
      go_simp; refine hK _ ?_; clear hK K
      iterate 2 ((with_reducible refine sw_pure ?_ (fun K hK => ?_)); (· rfl); go_simp; with_reducible refine hK _ ?_; clear hK K)
      refine sw_at (.int .i64 s.i) rfl rfl (fun wz hz hH => ?_) (fun K hK => ?_)
      · have h2 := (hSz.below hz).c0
        go_simp
      go_simp; refine hK _ ?_; clear hK K
      refine sw_at (.int .i64 K) rfl rfl (fun wz hz hH => ?_) (fun K hK => ?_)
      · go_simp
      go_simp; refine hK _ ?_; clear hK K
      refine sw_at (.slice (if cap = K then a else Option.map (fun x => x.add (K * 4)) a) (es.length - K) (cap - K)) rfl rfl (fun wz hz hH => ?_) (fun K hK => ?_)
      · go_simp
      go_simp; refine hK _ ?_; clear hK K
      refine sw_call _ rfl rfl (fun wz hz hH => ?_) (fun K hK => ?_)
      · obtain ⟨v', w', hr, ho, hb⟩ := run_append_nilE (w := wz) 24 (HD.out.below hz) (by rw [List.length_drop]; omega)
        exact yields_append rfl rfl rfl hr ⟨ho.rebase hz.size, hb⟩
      go_simp; refine hK _ ?_; clear hK K
      refine sw_at (refAgg n (vals 10)) rfl rfl (fun wz hz hH => ?_) (fun K hK => ?_)
      · have hq := hH _ (List.Mem.head _) rfl
        dsimp only at hq
        obtain ⟨av, cv, he⟩ := hq.r.slice
        rw [he]
        unfold refAgg snpAgg
        go_simp
      go_simp; refine hK _ ?_; clear hK K
      refine sw_done (fun wz hz hH => ?_)
      have hq := hH _ (List.Mem.head _)
      dsimp only at hq
      obtain ⟨av, cv, he⟩ := hq.r.slice
      rw [he] at hq ⊢
      have hRw := hRz.below hz
      have q0 := hRw.c0
      have q1 := hRw.c1
      have q2 := hRw.c2
      have q3 := hRw.c3
      have q4 := hRw.c4
      have f0 := hRw.fr 0
      have f1 := hRw.fr 1
      have f2 := hRw.fr 2
      have f3 := hRw.fr 3
      have f4 := hRw.fr 4
      dsimp only at q0 q1 q2 q3
      have HB := Lib.hid fun x0 x1 x2 x3 x4 => below5 (b := w.heap.size + 2) (hbz.trans (hz.mono hbz.size)) (by omega) x0 x1 x2 x3 x4
      have HO := Lib.hid fun x0 x1 x2 x3 x4 => ((((hq.set (p := ⟨w.heap.size + 2, 0, none⟩) lb2 x0).set (p := ⟨w.heap.size + 2, 1, none⟩) lb2 x1).set (p := ⟨w.heap.size + 2, 2, none⟩) lb2 x2).set (p := ⟨w.heap.size + 2, 3, none⟩) lb2 x3).set (p := ⟨w.heap.size + 2, 4, none⟩) lb2 x4
      unfold tailQ refAgg
      clear hq he hH hRw hRz hSz hNz
      generalize (if cap = K then a else Option.map (fun x => x.add (K * 4)) a) = ax at *
      go_wp2_with fail
      exact bodyPost_ret (v := .tuple #[refAgg n (.slice av (es.drop K).length cv), .bool true]) (by simp [results, Try.results11, go_sem, refAgg, q0, q1, q2, q3, q4]) rfl ⟨HB.out _ _ _ _ _, by rw [if_pos HQ.out, ← HKN.out]; exact ⟨_, rfl, (HO.out _ _ _ _ _).rebase hbz.size⟩⟩
end Go.Proofs.Ytikoafjnopkoaaa
