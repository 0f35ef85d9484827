/-
  No claim by itself: logs: Fits, Newer, Get, Snap: what each tells. No condition.
-/
import Derived.Test.YtihcohneongomaaRlog2
import Derived.WalkLawsBesides
namespace Go.Proofs.Ytihcohneongomaa
open Go.ChangeShapes Go.WideShapes Go.ChangeAt Go.RowKit

theorem log_fits {w : World} {b : Nat} {s : Snp} {lv : Value} {es : List Ent} (i t : Int) (h : LogS w b s lv es) (hB : LogB s es) :
    Calls Try.prog 33 #[logPtr b, .int .i64 i, .int .i64 t] w fun e w' => e = .returned (.bool (fitsP s es i t)) ∧ Below w.heap.size w w' := by
  have hT := log_term i h hB
  have HF : Hid (fitsP s es i t = ((termP s es i).2 && ((termP s es i).1 == t))) := Lib.hid rfl
  clear h hB
  unfold logPtr at *
  go_enter Try.func33, Try.ntmps33
  go_wp2_with fail
  refine hT.mono ?_
  rintro e w' ⟨rfl, hb⟩
  generalize termP s es i = r at *
  obtain ⟨x, y⟩ := r
  dsimp only at HF ⊢
  cases y
  · go_wp2_with fail
    go_ret
    exact ⟨by rw [HF.out]; rfl, hb⟩
  · go_wp2_with fail
    go_ret
    exact ⟨by rw [HF.out]; rfl, hb⟩

theorem log_newer {w : World} {b : Nat} {s : Snp} {lv : Value} {es : List Ent} (i t : Int) (h : LogS w b s lv es) (hB : LogB s es) :
    Calls Try.prog 25 #[logPtr b, .int .i64 i, .int .i64 t] w fun e w' => e = .returned (.bool (newerP s es i t)) ∧ Below w.heap.size w w' := by
  have HF : Hid (newerP s es i t = (decide ((termP s es (lastP s es)).1 < t) || (t == (termP s es (lastP s es)).1 && decide (lastP s es ≤ i)))) := Lib.hid rfl
  have hL := log_last h hB
  have HS := Lib.hid h
  have HB := Lib.hid hB
  clear h hB
  unfold logPtr at *
  go_enter Try.func25, Try.ntmps25
  go_wp2_with fail
  refine hL.mono ?_
  rintro e w' ⟨rfl, n, rfl⟩
  have hS1 := HS.out.below (below_drewN' (w := w) n)
  have hb1 : Below w.heap.size w (w.drewN n) := below_drewN' n
  have hT := log_term (lastP s es) hS1 HB.out
  clear hL
  generalize w.drewN n = w1 at *
  unfold logPtr at *
  go_wp2_with fail
  refine hT.mono ?_
  rintro e w2 ⟨rfl, hb2⟩
  have hS2 := hS1.below hb2
  have hL2 := log_last hS2 HB.out
  have hb3 := hb1.trans (hb2.mono hb1.size)
  clear hT hS1 hb1 hb2
  unfold logPtr at *
  generalize (termP s es (lastP s es)).1 = x at *
  generalize (termP s es (lastP s es)).2 = y at *
  generalize lastP s es = L at *
  clear hS2
  by_cases h1 : x < t
  · have t1 : decide (x < t) = true := decide_eq_true h1
    go_wp2_with fail
    go_ret
    exact ⟨by rw [HF.out, t1]; rfl, hb3⟩
  · have t1 : decide (x < t) = false := decide_eq_false h1
    by_cases h2 : t = x
    · have t2 : (t == x) = true := by rw [h2]; exact beq_self_eq_true _
      have H2 := Lib.hid h2
      clear h2 h1
      go_wp2_with fail
      refine hL2.mono ?_
      rintro e w3 ⟨rfl, n, rfl⟩
      have hb4 := below_drewN hb3 n
      clear hL2 hb3
      go_wp2_with fail
      go_ret
      exact ⟨by rw [HF.out, t1, t2]; rfl, hb4⟩
    · have t2 : (t == x) = false := beq_eq_false_iff_ne.2 h2
      clear h2 h1
      go_wp2_with fail
      go_ret
      exact ⟨by rw [HF.out, t1, t2]; rfl, hb3⟩

theorem log_snap {w : World} {b : Nat} {s : Snp} {lv : Value} {es : List Ent} (h : LogS w b s lv es) :
    Calls Try.prog 38 #[logPtr b] w fun e w' => e = .returned (snpAgg s) ∧ Below w.heap.size w w' := by
  have hb := fun o => (Below.refl w.heap.size w).alloc (Nat.le_refl _) o
  have c0 := h.c0
  have c1 := h.c1
  have c2 := h.c2
  have c3 := h.c3
  have HB := Lib.hid hb
  have hlt := h.lt
  have hne : b ≠ w.heap.size := by omega
  clear h hb
  unfold logPtr
  go_enter Try.func38, Try.ntmps38
  go_wp2_with fail
  exact bodyPost_ret (v := snpAgg s) (by simp [results, Try.results38, go_sem, snpAgg]) rfl ⟨rfl, HB.out _⟩

theorem log_get {w : World} {b : Nat} {s : Snp} {lv : Value} {es : List Ent} (i n : Int) (h : LogS w b s lv es) (hB : LogB s es) :
    Calls Try.prog 19 #[logPtr b, .int .i64 i, .int .i64 n] w fun e w' => RetEnts w (getP s es i n) e w' := by
  have hLast := log_last h hB
  have hFirst := log_first h hB
  have hs1 := hB.1
  have hs2 := hB.2.1
  have hs3 := hB.2.2
  by_cases h1 : i < s.i + 1
  · have H1 : Hid (getP s es i n = []) := Lib.hid (by unfold getP; rw [if_pos (.inl h1)])
    unfold logPtr at *
    clear h hB hLast
    go_enter Try.func19, Try.ntmps19
    go_wp2_with fail
    refine hFirst.mono ?_
    rintro e w' ⟨rfl, rfl⟩
    go_wp2_with fail
    go_ret
    exact ⟨_, rfl, by rw [H1.out]; exact EntO.nil _ _, Below.refl _ _⟩
  · by_cases h2 : lastP s es < i
    · have H1 : Hid (getP s es i n = []) := Lib.hid (by unfold getP; rw [if_pos (.inr (.inl h2))])
      unfold logPtr at *
      clear h hB
      go_enter Try.func19, Try.ntmps19
      go_wp2_with fail
      refine hFirst.mono ?_
      rintro e w' ⟨rfl, rfl⟩
      go_wp2_with fail
      refine hLast.mono ?_
      rintro e w2 ⟨rfl, m, rfl⟩
      go_wp2_with fail
      go_ret
      exact ⟨_, rfl, by rw [H1.out]; exact EntO.nil _ _, below_drewN' _⟩
    · by_cases h3 : n < 1
      · have H1 : Hid (getP s es i n = []) := Lib.hid (by unfold getP; rw [if_pos (.inr (.inr h3))])
        unfold logPtr at *
        clear h hB
        go_enter Try.func19, Try.ntmps19
        go_wp2_with fail
        refine hFirst.mono ?_
        rintro e w' ⟨rfl, rfl⟩
        go_wp2_with fail
        refine hLast.mono ?_
        rintro e w2 ⟨rfl, m, rfl⟩
        go_wp2_with fail
        go_ret
        exact ⟨_, rfl, by rw [H1.out]; exact EntO.nil _ _, below_drewN' _⟩
      · obtain ⟨k, hkk⟩ : ∃ k, k = (i - (s.i + 1)).toNat := ⟨_, rfl⟩
        have hik : i = s.i + 1 + k := by omega
        have hkl : k < es.length := by unfold lastP at h2; omega
        obtain ⟨m, rfl⟩ := Int.eq_ofNat_of_zero_le (show 0 ≤ n by omega)
        have H1 : Hid (getP s es i m = (es.drop k).take m) := Lib.hid (by unfold getP; rw [if_neg (by omega), ← hkk]; rfl)
        have hH := Lib.hid h
        have hBB := Lib.hid hB
        have hblog := h.lt
        obtain ⟨a, cap, hv⟩ := h.r.slice
        have c4 := h.c4
        have hr := h.r
        rw [hv] at c4 hr
        have hcap : es.length ≤ cap ∧ cap ≤ 9223372036854775807 := by
          obtain ⟨a', c', hv', h1, h2, _⟩ := hr
          simp only [Value.slice.injEq] at hv'
          omega
        obtain ⟨hcap, hcm⟩ := hcap
        obtain ⟨bb, off, rfl, hblt, -⟩ := hr.cells k hkl
        have hd := hr.drop k (by omega)
        rw [if_neg (by omega)] at hd
        have hd : EntR w (.slice (some ⟨bb, off + k * 4, none⟩) (es.length - k) (cap - k)) (es.drop k) := by simpa [Addr.add_lit] using hd
        have HI := Lib.hid hik
        clear h hB hkk hv hr hik
        have HLast := Lib.hid hLast
        have HFirst := Lib.hid hFirst
        clear hLast hFirst
        unfold logPtr at *
        go_enter Try.func19, Try.ntmps19
        go_wp2_with fail
        refine HFirst.out.mono ?_
        rintro e w' ⟨rfl, rfl⟩
        go_wp2_with fail
        refine HLast.out.mono ?_
        rintro e w' ⟨rfl, q, rfl⟩
        rename World => w
        have hS := hH.out.below (below_drewN' (w := w) q)
        have hb1 : Below w.heap.size w (w.drewN q) := below_drewN' q
        clear HLast HFirst hH
        generalize w.drewN q = w1 at *
        go_upto_region 3 with fail
        rename World => w1
        have c4 := (hb1.cell (p := ⟨b, 4, none⟩) hblog).trans c4
        have hd := hd.below hb1
        have l1 := Nat.lt_of_lt_of_le hblog hb1.size
        go_cut [7] (fun x wx => x = .slice (some ⟨bb, off + k * 4, none⟩) (es.length - k) (cap - k) ∧ Below w1.heap.size w1 wx)
        case first =>
          have hi := HI.out
          have q1 : IntKind.i64.wrap (i - (s.i + 1)) = (k : Int) := by rw [IntWalk.i64_in _ (by omega)]; omega
          have u1 : k ≤ es.length := by omega
          have u2 : ¬ cap = k := by omega
          clear hi
          refine wp_region_sw (by rfl) (by kernel_rfl) (fun k => match k with | 6 => some (fun v _ => v = .int .i64 (s.i + 1)) | _ => none) ?_ (fun vals => ?_)
          · intro k φ hk v w1 w2 h1 h2
            match k, hk with
            | 6, hk => obtain rfl := Option.some.inj hk; exact h1
          iterate 3 (refine sw_pure (by rfl) (fun K hK => ?_); go_simp; refine hK _ ?_; clear hK K)
          refine sw_at (.slice (some ⟨bb, off, none⟩) es.length cap) rfl rfl (fun wz hz hH => ?_) (fun K hK => ?_)
          · have h2 := (hz.cell (p := ⟨b, 4, none⟩) l1).trans c4
            go_simp
          go_simp; refine hK _ ?_; clear hK K
          iterate 2 (refine sw_pure (by rfl) (fun K hK => ?_); go_simp; refine hK _ ?_; clear hK K)
          refine sw_call _ rfl rfl (fun wz hz hH => ?_) (fun K hK => ?_)
          · go_simp
            go_at_call 20
            refine (log_first (hS.below hz) hBB.out).mono ?_
            rintro e w' ⟨rfl, rfl⟩
            exact ⟨_, rfl, rfl, Below.refl _ _⟩
          go_simp; refine hK _ ?_; clear hK K
          refine sw_at (.int .i64 k) rfl rfl (fun wz hz hH => ?_) (fun K hK => ?_)
          · have h3 := hH _ (List.Mem.head _) rfl
            dsimp only at h3
            rw [h3]
            go_simp
          go_simp; refine hK _ ?_; clear hK K
          refine sw_at (.slice (some ⟨bb, off + k * 4, none⟩) (es.length - k) (cap - k)) rfl rfl (fun wz hz hH => ?_) (fun K hK => ?_)
          · go_simp
          go_simp; refine hK _ ?_; clear hK K
          iterate 1 (refine sw_pure (by rfl) (fun K hK => ?_); go_simp; refine hK _ ?_; clear hK K)
          refine sw_done (fun wz hz hH => ?_)
          go_wp2_with fail
          go_meet
          exact ⟨rfl, hz⟩
        case rest =>
          obtain ⟨rfl, hz⟩ := hcut
          have hdz := hd.below hz
          have hbz := hb1.trans (hz.mono hb1.size)
          clear hz c4 hd hb1 hS
          have hlen : (es.drop k).length = es.length - k := by rw [List.length_drop]
          by_cases hm : m ≤ es.length - k
          · have hT := hdz.take m (cap - k) (by rw [hlen]; exact hm) (by omega) (by omega)
            have HLE := Lib.hid hlen
            clear hlen
            have q1 : min (m : Int) ((es.length - k : Nat) : Int) = m := by omega
            go_wp2_with fail
            refine (sl_cloneE _ ((es.drop k).take m) _ hT (by rw [List.length_take]; omega)).mono ?_
            rintro e w3 ⟨v3, rfl, ho, hb3⟩
            have hby := hbz.trans (hb3.mono hbz.size)
            have hoo := ho.rebase hbz.size
            clear hT hb3 ho
            go_wp2_with fail
            go_ret
            exact ⟨_, rfl, by rw [H1.out]; exact hoo, hby⟩
          · have q1 : min (m : Int) ((es.length - k : Nat) : Int) = ((es.length - k : Nat) : Int) := by omega
            have H2 : Hid ((es.drop k).take m = es.drop k) := Lib.hid (List.take_of_length_le (by omega))
            have HLE := Lib.hid hlen
            have hm3 : es.length - k < m := by omega
            clear hlen
            go_wp2_with fail
            refine (sl_cloneE _ (es.drop k) _ hdz (by rw [HLE.out]; omega)).mono ?_
            rintro e w3 ⟨v3, rfl, ho, hb3⟩
            have hby := hbz.trans (hb3.mono hbz.size)
            have hoo := ho.rebase hbz.size
            clear hdz hb3 ho
            go_wp2_with fail
            go_ret
            exact ⟨_, rfl, by rw [H1.out, H2.out]; exact hoo, hby⟩
end Go.Proofs.Ytihcohneongomaa
