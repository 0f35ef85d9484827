/-
  No claim by itself: logs: Term, Fits, Get, Newer: what each tells. No condition.
-/
import Derived.Test.YtihcohneongomaaRlog
namespace Go.Proofs.Ytihcohneongomaa
open Go.ChangeShapes Go.WideShapes Go.ChangeAt Go.RowKit

theorem below_drewN' {w : World} (n : Nat) : Below w.heap.size w (w.drewN n) := below_drewN (Below.refl _ _) n

theorem log_term {w : World} {b : Nat} {s : Snp} {lv : Value} {es : List Ent} (i : Int) (h : LogS w b s lv es) (hB : LogB s es) :
    Calls Try.prog 24 #[logPtr b, .int .i64 i] w fun e w' => e = .returned (.tuple #[.int .i64 (termP s es i).1, .bool (termP s es i).2]) ∧ Below w.heap.size w w' := by
  have c0 := h.c0
  have c1 := h.c1
  have hLast := log_last h hB
  have hs1 := hB.1
  have hs2 := hB.2.1
  have hs3 := hB.2.2
  by_cases h1 : i < s.i
  · have H1 : Hid (termP s es i = (0, false)) := Lib.hid (by unfold termP; rw [if_pos (.inl h1)])
    unfold logPtr at *
    clear h hB hLast
    go_enter Try.func24, Try.ntmps24
    go_wp2_with fail
    go_ret2
    rw [H1.out]
    exact ⟨rfl, Below.refl _ _⟩
  · by_cases h2 : lastP s es < i
    · have H1 : Hid (termP s es i = (0, false)) := Lib.hid (by unfold termP; rw [if_pos (.inr h2)])
      have HL := Lib.hid hLast
      clear hLast
      unfold logPtr at *
      go_enter Try.func24, Try.ntmps24
      go_wp2_with fail
      refine HL.out.mono ?_
      rintro e w' ⟨rfl, n, rfl⟩
      go_wp2_with fail
      go_ret2
      rw [H1.out]
      exact ⟨rfl, below_drewN' _⟩
    · by_cases h3 : i = s.i
      · have H1 : Hid (termP s es i = (s.t, true)) := Lib.hid (by unfold termP; rw [if_neg (by omega), if_pos h3])
        have HL := Lib.hid hLast
        subst h3
        clear hLast
        unfold logPtr at *
        go_enter Try.func24, Try.ntmps24
        go_wp2_with fail
        refine HL.out.mono ?_
        rintro e w' ⟨rfl, n, rfl⟩
        go_wp2_with fail
        go_ret2
        rw [H1.out]
        exact ⟨rfl, below_drewN' _⟩
      · obtain ⟨k, hkk⟩ : ∃ k, k = (i - s.i - 1).toNat := ⟨_, rfl⟩
        have hik : i = s.i + 1 + k := by omega
        have hkl : k < es.length := by unfold lastP at h2; omega
        have H1 : Hid (termP s es i = (es[k].t, true)) := Lib.hid (by unfold termP; rw [if_neg (by omega), if_neg h3, ← hkk, List.getElem?_eq_getElem hkl]; rfl)
        have HL := Lib.hid hLast
        have hH := Lib.hid h
        have hBB := Lib.hid hB
        have c4 := h.c4
        have hblog := h.lt
        obtain ⟨a, cap, hv⟩ := h.r.slice
        have hr := h.r
        rw [hv] at c4 hr
        have hcap : es.length ≤ cap := by
          obtain ⟨a', c', hv', h1, _⟩ := hr
          simp only [Value.slice.injEq] at hv'
          omega
        obtain ⟨bb, off, rfl, hblt, e0, e1, e2, e3⟩ := hr.cells k hkl
        have HI := Lib.hid hik
        clear hLast h hB hkk hv hr hik
        have t3 : (i == s.i) = false := beq_eq_false_iff_ne.2 h3
        unfold logPtr at *
        go_enter Try.func24, Try.ntmps24
        go_wp2_with fail
        refine HL.out.mono ?_
        rintro e w' ⟨rfl, n, rfl⟩
        have hS := hH.out.below (below_drewN' (w := w) n)
        have hb1 : Below w.heap.size w (w.drewN n) := below_drewN' n
        generalize w.drewN n = w1 at *
        have c0 := (hb1.cell (p := ⟨b, 0, none⟩) hblog).trans c0
        go_upto_region 5 with fail
        rename World => w1
        have c4 := (hb1.cell (p := ⟨b, 4, none⟩) hblog).trans c4
        have e1 := (hb1.cell (p := ⟨bb, off + k * 4 + 1, none⟩) hblt).trans e1
        have l1 := Nat.lt_of_lt_of_le hblog hb1.size
        have l2 := Nat.lt_of_lt_of_le hblt hb1.size
        go_cut [4, 5] (fun x y wx => x = .int .i64 (es[k].t) ∧ y = .bool true ∧ Below w1.heap.size w1 wx)
        case first =>
          have hi := HI.out
          have q1 : IntKind.i64.wrap (i - (s.i + 1)) = (k : Int) := by rw [IntWalk.i64_in _ (by omega)]; omega
          clear hi
          refine wp_region_sw (by rfl) (by kernel_rfl) (fun k => match k with | 6 => some (fun v _ => v = .int .i64 (s.i + 1)) | _ => none) ?_ (fun vals => ?_)
          · intro k φ hk v w1 w2 h1 h2
            match k, hk with
            | 6, hk => obtain rfl := Option.some.inj hk; exact h1
          iterate 3 (refine sw_pure (by rfl) (fun K hK => ?_); go_simp; refine hK _ ?_; clear hK K)
          refine sw_at (.slice (some ⟨bb, off, none⟩) es.length cap) rfl rfl (fun wz hz hH => ?_) (fun K hK => ?_)
          · have h2 := (hz.cell (p := ⟨b, 4, none⟩) l1).trans c4
            go_simp
          go_simp; refine hK _ ?_; clear hK K
          iterate 2 (refine sw_pure (by rfl) (fun K hK => ?_); go_simp; refine hK _ ?_; clear hK K)
          refine sw_call _ rfl rfl (fun wz hz hH => ?_) (fun K hK => ?_)
          · go_simp
            go_at_call 20
            refine (log_first (hS.below hz) hBB.out).mono ?_
            rintro e w' ⟨rfl, rfl⟩
            exact ⟨_, rfl, rfl, Below.refl _ _⟩
          go_simp; refine hK _ ?_; clear hK K
          refine sw_at (.int .i64 k) rfl rfl (fun wz hz hH => ?_) (fun K hK => ?_)
          · have h3 := hH _ (List.Mem.head _) rfl
            dsimp only at h3
            rw [h3]
            go_simp
          go_simp; refine hK _ ?_; clear hK K
          iterate 2 (refine sw_pure (by rfl) (fun K hK => ?_); go_simp; refine hK _ ?_; clear hK K)
          refine sw_at (.int .i64 es[k].t) rfl rfl (fun wz hz hH => ?_) (fun K hK => ?_)
          · have h2 := (hz.cell (p := ⟨bb, off + k * 4 + 1, none⟩) l2).trans e1
            go_simp
          go_simp; refine hK _ ?_; clear hK K
          iterate 2 (refine sw_pure (by rfl) (fun K hK => ?_); go_simp; refine hK _ ?_; clear hK K)
          refine sw_done (fun wz hz hH => ?_)
          go_wp2_with fail
          go_meet
          exact ⟨rfl, rfl, hz⟩
        case rest =>
          obtain ⟨rfl, rfl, hz⟩ := hcut
          have hbz := hb1.trans (hz.mono hb1.size)
          clear hz c4 e1
          go_wp2_with fail
          go_ret2
          rw [H1.out]
          exact ⟨rfl, hbz⟩
end Go.Proofs.Ytihcohneongomaa
