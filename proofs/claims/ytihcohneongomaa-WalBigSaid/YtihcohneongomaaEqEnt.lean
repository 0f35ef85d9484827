/-
  No claim by itself: the document's EqEntry, EqEntries, EqSnap: of what is the same they say so. No condition.
-/
import Derived.Test.YtihcohneongomaaEnt
import Derived.Test.YtihcohneongomaaRegion
import Derived.Deep.QuietTactic
import Derived.Deep.DeepCutAuto
import Derived.Deep.Cut
import Derived.WalkSmall
namespace Go.Proofs.Ytihcohneongomaa
open Go.ChangeShapes Go.WideShapes Go.ChangeAt Go.RowKit

set_option maxRecDepth 100000 in
theorem eq_entry (e : Ent) (w : World) : Calls Try.prog 56 #[entAgg e, entAgg e] w fun x w' => x = .returned (.bool true) ∧ Below w.heap.size w w' := by
  have hb : ∀ a b, Below w.heap.size w ((w.alloc a).alloc b) := fun a b => ((Below.refl w.heap.size w).alloc (Nat.le_refl _) _).alloc (by simp) _
  have HB := Lib.hid hb
  clear hb
  unfold entAgg
  go_enter Try.func56, Try.ntmps56
  go_wp2_with fail
  go_ret
  exact ⟨rfl, HB.out _ _⟩

set_option maxRecDepth 100000 in
theorem eq_snap (e : Snp) (w : World) : Calls Try.prog 44 #[snpAgg e, snpAgg e] w fun x w' => x = .returned (.bool true) ∧ Below w.heap.size w w' := by
  have hb : ∀ a b, Below w.heap.size w ((w.alloc a).alloc b) := fun a b => ((Below.refl w.heap.size w).alloc (Nat.le_refl _) _).alloc (by simp) _
  have HB := Lib.hid hb
  clear hb
  unfold snpAgg
  go_enter Try.func44, Try.ntmps44
  go_wp2_with fail
  go_ret
  exact ⟨rfl, HB.out _ _⟩

set_option maxRecDepth 100000 in
set_option maxHeartbeats 1000000 in
theorem eq_entries (v1 v2 : Value) (es : List Ent) (w : World) (h1 : EntR w v1 es) (h2 : EntR w v2 es) (hl : es.length ≤ 1000000000000) :
    Calls Try.prog 23 #[v1, v2] w fun e w' => e = .returned (.bool true) ∧ Below w.heap.size w w' := by
  obtain ⟨a1, cap1, rfl⟩ := h1.slice
  obtain ⟨a2, cap2, rfl⟩ := h2.slice
  have HR1 := Lib.hid h1
  have HR2 := Lib.hid h2
  clear h1 h2
  go_enter Try.func23, Try.ntmps23
  go_wp2_with fail
  go_loopw [5] (fun i wr => ∃ k : Nat, k ≤ es.length ∧ i = .int .i64 k ∧ Below w.heap.size w wr) (fun i _ => es.length - (intOf i).toNat)
  case atStart => exact ⟨0, by omega, rfl, Below.refl _ _⟩
  case round =>
    obtain ⟨k, hk, rfl, hbel⟩ := hrel
    by_cases hlt : k < es.length
    · obtain ⟨b1, o1, rfl, hb1, c0, c1, c2, c3⟩ := (HR1.out.below hbel).cells k hlt
      obtain ⟨b2, o2, rfl, hb2, d0, d1, d2, d3⟩ := (HR2.out.below hbel).cells k hlt
      generalize es[k] = e at *
      go_upto_region 6 with fail
      go_cut [26] (fun x wx => x = .bool false ∧ Below wr.heap.size wr wx)
      case first =>
        refine wp_region_sw (by rfl) (by kernel_rfl) (fun k => match k with | 8 => some (fun v _ => v = .bool true) | _ => none) ?_ (fun vals => ?_)
        · intro k φ hk v w1 w2 h1 h2
          match k, hk with
          | 8, hk => obtain rfl := Option.some.inj hk; exact h1
        iterate 3 ((with_reducible refine sw_pure ?_ (fun K hK => ?_)); (· rfl); go_simp; with_reducible refine hK _ ?_; clear hK K)
        refine sw_at (entAgg e) rfl rfl (fun wz hz' hH => ?_) (fun K hK => ?_)
        · have g0 := (hz'.cell (p := ⟨b1, o1 + k * 4, none⟩) hb1).trans c0
          have g1 := (hz'.cell (p := ⟨b1, o1 + k * 4 + 1, none⟩) hb1).trans c1
          have g2 := (hz'.cell (p := ⟨b1, o1 + k * 4 + 2, none⟩) hb1).trans c2
          have g3 := (hz'.cell (p := ⟨b1, o1 + k * 4 + 3, none⟩) hb1).trans c3
          unfold entAgg
          go_simp
        go_simp; refine hK _ ?_; clear hK K
        iterate 3 ((with_reducible refine sw_pure ?_ (fun K hK => ?_)); (· rfl); go_simp; with_reducible refine hK _ ?_; clear hK K)
        refine sw_at (entAgg e) rfl rfl (fun wz hz' hH => ?_) (fun K hK => ?_)
        · have g0 := (hz'.cell (p := ⟨b2, o2 + k * 4, none⟩) hb2).trans d0
          have g1 := (hz'.cell (p := ⟨b2, o2 + k * 4 + 1, none⟩) hb2).trans d1
          have g2 := (hz'.cell (p := ⟨b2, o2 + k * 4 + 2, none⟩) hb2).trans d2
          have g3 := (hz'.cell (p := ⟨b2, o2 + k * 4 + 3, none⟩) hb2).trans d3
          unfold entAgg
          go_simp
        go_simp; refine hK _ ?_; clear hK K
        refine sw_call _ rfl rfl (fun wz hz' hH => ?_) (fun K hK => ?_)
        · go_simp
          go_at_call 56
          refine (eq_entry e _).mono ?_
          rintro x w' ⟨rfl, hb⟩
          exact ⟨_, rfl, rfl, hb⟩
        go_simp; refine hK _ ?_; clear hK K
        refine sw_at (.bool false) rfl rfl (fun wz hz' hH => ?_) (fun K hK => ?_)
        · have h3 := hH _ (List.Mem.head _) rfl
          dsimp only at h3
          rw [h3]
          go_simp
        go_simp; refine hK _ ?_; clear hK K
        refine sw_done (fun wz hz hH => ?_)
        go_wp2_with fail
        go_meet
        exact ⟨rfl, hz⟩
      case rest =>
        obtain ⟨rfl, hz⟩ := hcut
        have hbz := hbel.trans (hz.mono hbel.size)
        clear hz hbel c0 c1 c2 c3 d0 d1 d2 d3
        go_wp2_with fail
        go_roundw
        case rel => exact ⟨k + 1, by omega, by go_num, hbz⟩
        case measure => simp [intOf]; omega
    · obtain rfl : k = es.length := by omega
      go_wp2_with fail
      go_ret
      exact ⟨rfl, hbel⟩
end Go.Proofs.Ytihcohneongomaa
