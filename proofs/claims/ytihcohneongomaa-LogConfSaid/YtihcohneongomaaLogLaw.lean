/-
  No claim by itself: what the laws on logs make of their arguments: Snap, Entries. No condition.
-/
import Derived.Test.YtihcohneongomaaLogB
import Derived.Test.YtihcohneongomaaNum3
import Derived.Test.YtihcohneongomaaRegionT
namespace Go.Proofs.Ytihcohneongomaa
open Go.ChangeShapes Go.WideShapes Go.ChangeAt Go.RowKit

def takeB (s : ByteArray) (n : Nat) : ByteArray := ⟨(s.data.toList.take n).toArray⟩
def cutSnap (s : Snp) : Snp := ⟨s.i, s.t, takeB s.c 60, takeB s.d 100⟩
def cutEnt (e : Ent) : Ent := ⟨e.i, e.t, e.k, takeB e.d 60⟩

set_option maxRecDepth 100000 in
set_option maxHeartbeats 1000000 in
theorem law_snap (s : Snp) (w : World) (h1 : s.c.size ≤ 9223372036854775807) (h2 : s.d.size ≤ 9223372036854775807) :
    Calls Try.prog 16 #[snpAgg s] w fun e w' => e = .returned (snpAgg (cutSnap s)) ∧ Below w.heap.size w w' := by
  have hcell : ∀ j, ((w.alloc (.cells #[.int .i64 s.i, .int .i64 s.t, .string s.c, .string s.d] 23)).alloc (.cells #[.int .i64 0, .int .i64 0, .string ⟨#[]⟩, .string ⟨#[]⟩] 23)).cell? ⟨w.heap.size, j, none⟩ = #[.int .i64 s.i, .int .i64 s.t, .string s.c, .string s.d][j]? := fun j => by
    have h2 := (Below.refl (w.alloc (.cells #[.int .i64 s.i, .int .i64 s.t, .string s.c, .string s.d] 23)).heap.size (w.alloc (.cells #[.int .i64 s.i, .int .i64 s.t, .string s.c, .string s.d] 23))).alloc (Nat.le_refl _) (.cells #[.int .i64 0, .int .i64 0, .string ⟨#[]⟩, .string ⟨#[]⟩] 23)
    rw [h2.cell (p := ⟨w.heap.size, j, none⟩) (by simp), World.cell?_alloc_new]
  have hfro : ∀ j, ((w.alloc (.cells #[.int .i64 s.i, .int .i64 s.t, .string s.c, .string s.d] 23)).alloc (.cells #[.int .i64 0, .int .i64 0, .string ⟨#[]⟩, .string ⟨#[]⟩] 23)).frozen? ⟨w.heap.size, j, none⟩ = false := fun j => by
    have h2 := (Below.refl (w.alloc (.cells #[.int .i64 s.i, .int .i64 s.t, .string s.c, .string s.d] 23)).heap.size (w.alloc (.cells #[.int .i64 s.i, .int .i64 s.t, .string s.c, .string s.d] 23))).alloc (Nat.le_refl _) (.cells #[.int .i64 0, .int .i64 0, .string ⟨#[]⟩, .string ⟨#[]⟩] 23)
    rw [h2.frozen (p := ⟨w.heap.size, j, none⟩) (by simp), World.frozen?_alloc_new]
  have hcell2 : ∀ j, ((w.alloc (.cells #[.int .i64 s.i, .int .i64 s.t, .string s.c, .string s.d] 23)).alloc (.cells #[.int .i64 0, .int .i64 0, .string ⟨#[]⟩, .string ⟨#[]⟩] 23)).cell? ⟨w.heap.size + 1, j, none⟩ = #[.int .i64 0, .int .i64 0, .string ⟨#[]⟩, .string ⟨#[]⟩][j]? := fun j => by
    have := World.cell?_alloc_new (w.alloc (.cells #[.int .i64 s.i, .int .i64 s.t, .string s.c, .string s.d] 23)) #[.int .i64 0, .int .i64 0, .string ⟨#[]⟩, .string ⟨#[]⟩] 23 j
    rwa [show (w.alloc (.cells #[.int .i64 s.i, .int .i64 s.t, .string s.c, .string s.d] 23)).heap.size = w.heap.size + 1 from by simp] at this
  have hfro2 : ∀ j, ((w.alloc (.cells #[.int .i64 s.i, .int .i64 s.t, .string s.c, .string s.d] 23)).alloc (.cells #[.int .i64 0, .int .i64 0, .string ⟨#[]⟩, .string ⟨#[]⟩] 23)).frozen? ⟨w.heap.size + 1, j, none⟩ = false := fun j => by
    have := World.frozen?_alloc_new (w.alloc (.cells #[.int .i64 s.i, .int .i64 s.t, .string s.c, .string s.d] 23)) #[.int .i64 0, .int .i64 0, .string ⟨#[]⟩, .string ⟨#[]⟩] 23 j
    rwa [show (w.alloc (.cells #[.int .i64 s.i, .int .i64 s.t, .string s.c, .string s.d] 23)).heap.size = w.heap.size + 1 from by simp] at this
  have hb1 : Below w.heap.size w ((w.alloc (.cells #[.int .i64 s.i, .int .i64 s.t, .string s.c, .string s.d] 23)).alloc (.cells #[.int .i64 0, .int .i64 0, .string ⟨#[]⟩, .string ⟨#[]⟩] 23)) := ((Below.refl w.heap.size w).alloc (Nat.le_refl _) _).alloc (by simp) _
  have hsz : w.heap.size + 1 < ((w.alloc (.cells #[.int .i64 s.i, .int .i64 s.t, .string s.c, .string s.d] 23)).alloc (.cells #[.int .i64 0, .int .i64 0, .string ⟨#[]⟩, .string ⟨#[]⟩] 23)).heap.size := by simp
  unfold snpAgg
  have HC := Lib.hid hcell
  have HF := Lib.hid hfro
  have HC2 := Lib.hid hcell2
  have HF2 := Lib.hid hfro2
  clear hcell hfro hcell2 hfro2
  go_enter Try.func16, Try.ntmps16
  go_upto_region 1 with fail
  generalize (w.alloc (.cells #[.int .i64 s.i, .int .i64 s.t, .string s.c, .string s.d] 23)).alloc (.cells #[.int .i64 0, .int .i64 0, .string ⟨#[]⟩, .string ⟨#[]⟩] 23) = w1 at *
  generalize hN : w.heap.size = N at *
  have hlt : N < w1.heap.size := by omega
  have c0 := HC.out 0
  have c1 := HC.out 1
  have c2 := HC.out 2
  have c3 := HC.out 3
  simp only [List.getElem?_toArray, List.getElem?_cons_zero, List.getElem?_cons_succ] at c0 c1 c2 c3
  go_cut [] (fun wx => wx.cell? ⟨N, 0, none⟩ = some (.int .i64 s.i) ∧ wx.cell? ⟨N, 1, none⟩ = some (.int .i64 s.t) ∧ wx.cell? ⟨N, 2, none⟩ = some (.string (takeB s.c 60)) ∧ wx.cell? ⟨N, 3, none⟩ = some (.string (takeB s.d 100)) ∧ Keeps [N] w1 wx)
  case first =>
    refine wp_region_tail 7 (by rfl) (by kernel_rfl) (fun k => match k with | 2 => some (fun v _ => v = .string (takeB s.c 60)) | 5 => some (fun v _ => v = .string (takeB s.d 100)) | _ => none) ?_ (fun vals => ?_)
    · intro k φ hk v w1 w2 h1 h2
      match k, hk with
      | 2, hk => obtain rfl := Option.some.inj hk; exact h1
      | 5, hk => obtain rfl := Option.some.inj hk; exact h1
    dsimp only [List.take, List.drop]
    iterate 1 ((with_reducible refine sw_pure ?_ (fun K hK => ?_)); (· rfl); go_simp; with_reducible refine hK _ ?_; clear hK K)
    refine sw_at (.string s.c) rfl rfl (fun wz hz' hH => ?_) (fun K hK => ?_)
    · have h2 := (hz'.cell (p := ⟨N, 2, none⟩) hlt).trans c2
      go_simp
    go_simp; refine hK _ ?_; clear hK K
    refine sw_call _ rfl rfl (fun wz hz' hH => ?_) (fun K hK => ?_)
    · go_simp
      go_at_call 52
      refine (cut_any s.c 60 _ (by decide) h1).mono ?_
      rintro e w' ⟨rfl, rfl⟩
      exact ⟨_, rfl, rfl, Below.refl _ _⟩
    go_simp; refine hK _ ?_; clear hK K
    iterate 1 ((with_reducible refine sw_pure ?_ (fun K hK => ?_)); (· rfl); go_simp; with_reducible refine hK _ ?_; clear hK K)
    refine sw_at (.string s.d) rfl rfl (fun wz hz' hH => ?_) (fun K hK => ?_)
    · have h2 := (hz'.cell (p := ⟨N, 3, none⟩) hlt).trans c3
      go_simp
    go_simp; refine hK _ ?_; clear hK K
    refine sw_call _ rfl rfl (fun wz hz' hH => ?_) (fun K hK => ?_)
    · go_simp
      go_at_call 52
      refine (cut_any s.d 100 _ (by decide) h2).mono ?_
      rintro e w' ⟨rfl, rfl⟩
      exact ⟨_, rfl, rfl, Below.refl _ _⟩
    go_simp; refine hK _ ?_; clear hK K
    iterate 1 ((with_reducible refine sw_pure ?_ (fun K hK => ?_)); (· rfl); go_simp; with_reducible refine hK _ ?_; clear hK K)
    refine sw_done (fun wz hz' hH => ?_)
    have e5 := hH _ (List.Mem.head _)
    have e2 := hH _ (List.Mem.tail _ (List.Mem.head _))
    dsimp only at e5 e2
    have g0 := (hz'.cell (p := ⟨N, 0, none⟩) hlt).trans c0
    have g1 := (hz'.cell (p := ⟨N, 1, none⟩) hlt).trans c1
    have g2 := (hz'.cell (p := ⟨N, 2, none⟩) hlt).trans c2
    have g3 := (hz'.cell (p := ⟨N, 3, none⟩) hlt).trans c3
    have f2 := (hz'.frozen (p := ⟨N, 2, none⟩) hlt).trans (HF.out 2)
    have f3 := (hz'.frozen (p := ⟨N, 3, none⟩) hlt).trans (HF.out 3)
    rw [e5, e2]
    unfold tailQ
    have hz2 := Lib.hid hz'
    clear hH e5 e2 c0 c1 c2 c3
    go_wp2_with fail
    go_meet
    refine ⟨?_, ?_, ?_, ?_, ((Keeps.of_below hz2.out).setCell (.inl (by simp)) _).setCell (.inl (by simp)) _⟩
    · rw [World.cell?_setCell_other (h := by simp), World.cell?_setCell_other (h := by simp)]; exact g0
    · rw [World.cell?_setCell_other (h := by simp), World.cell?_setCell_other (h := by simp)]; exact g1
    · rw [World.cell?_setCell_other (h := by simp)]; exact World.cell?_setCell_same _ _ _ g2
    · exact World.cell?_setCell_same _ _ _ (show World.cell? _ _ = some (.string s.d) from by rw [World.cell?_setCell_other (h := by simp)]; exact g3)
  case rest =>
    obtain ⟨d0, d1, d2, d3, hk⟩ := hcut
    have e0 := HC2.out 0
    have e1 := HC2.out 1
    have e2 := HC2.out 2
    have e3 := HC2.out 3
    simp only [List.getElem?_toArray, List.getElem?_cons_zero, List.getElem?_cons_succ] at e0 e1 e2 e3
    have e0 := (hk.cell (p := ⟨N + 1, 0, none⟩) hsz (by simp)).trans e0
    have e1 := (hk.cell (p := ⟨N + 1, 1, none⟩) hsz (by simp)).trans e1
    have e2 := (hk.cell (p := ⟨N + 1, 2, none⟩) hsz (by simp)).trans e2
    have e3 := (hk.cell (p := ⟨N + 1, 3, none⟩) hsz (by simp)).trans e3
    have f0 := (hk.frozen (p := ⟨N + 1, 0, none⟩) hsz (by simp)).trans (HF2.out 0)
    have f1 := (hk.frozen (p := ⟨N + 1, 1, none⟩) hsz (by simp)).trans (HF2.out 1)
    have f2 := (hk.frozen (p := ⟨N + 1, 2, none⟩) hsz (by simp)).trans (HF2.out 2)
    have f3 := (hk.frozen (p := ⟨N + 1, 3, none⟩) hsz (by simp)).trans (HF2.out 3)
    have hbz : Below N w wc := by subst hN; exact hb1.trans (hk.below (B := w.heap.size) (by simp) (by omega))
    have HB := Lib.hid hbz
    clear hk c0 c1 c2 c3 hb1 hbz
    go_wp2_with fail
    have hbf : Below N w ((((wc.setCell ⟨N + 1, 0, none⟩ (.int .i64 s.i)).setCell ⟨N + 1, 1, none⟩ (.int .i64 s.t)).setCell ⟨N + 1, 2, none⟩ (.string (takeB s.c 60))).setCell ⟨N + 1, 3, none⟩ (.string (takeB s.d 100))) :=
      (((HB.out.setCell (by show N ≤ N + 1; omega) _).setCell (by show N ≤ N + 1; omega) _).setCell (by show N ≤ N + 1; omega) _).setCell (by show N ≤ N + 1; omega) _
    have k0 : ((((wc.setCell ⟨N + 1, 0, none⟩ (.int .i64 s.i)).setCell ⟨N + 1, 1, none⟩ (.int .i64 s.t)).setCell ⟨N + 1, 2, none⟩ (.string (takeB s.c 60))).setCell ⟨N + 1, 3, none⟩ (.string (takeB s.d 100))).cell? ⟨N + 1, 0, none⟩ = some (.int .i64 s.i) := by
      rw [World.cell?_setCell_other (h := by simp), World.cell?_setCell_other (h := by simp), World.cell?_setCell_other (h := by simp)]
      exact World.cell?_setCell_same _ _ _ e0
    have k1 : ((((wc.setCell ⟨N + 1, 0, none⟩ (.int .i64 s.i)).setCell ⟨N + 1, 1, none⟩ (.int .i64 s.t)).setCell ⟨N + 1, 2, none⟩ (.string (takeB s.c 60))).setCell ⟨N + 1, 3, none⟩ (.string (takeB s.d 100))).cell? ⟨N + 1, 1, none⟩ = some (.int .i64 s.t) := by
      rw [World.cell?_setCell_other (h := by simp), World.cell?_setCell_other (h := by simp)]
      exact World.cell?_setCell_same _ _ _ (show World.cell? _ _ = some (.int .i64 0) from by rw [World.cell?_setCell_other (h := by simp)]; exact e1)
    have k2 : ((((wc.setCell ⟨N + 1, 0, none⟩ (.int .i64 s.i)).setCell ⟨N + 1, 1, none⟩ (.int .i64 s.t)).setCell ⟨N + 1, 2, none⟩ (.string (takeB s.c 60))).setCell ⟨N + 1, 3, none⟩ (.string (takeB s.d 100))).cell? ⟨N + 1, 2, none⟩ = some (.string (takeB s.c 60)) := by
      rw [World.cell?_setCell_other (h := by simp)]
      exact World.cell?_setCell_same _ _ _ (show World.cell? _ _ = some (.string ⟨#[]⟩) from by rw [World.cell?_setCell_other (h := by simp), World.cell?_setCell_other (h := by simp)]; exact e2)
    have k3 : ((((wc.setCell ⟨N + 1, 0, none⟩ (.int .i64 s.i)).setCell ⟨N + 1, 1, none⟩ (.int .i64 s.t)).setCell ⟨N + 1, 2, none⟩ (.string (takeB s.c 60))).setCell ⟨N + 1, 3, none⟩ (.string (takeB s.d 100))).cell? ⟨N + 1, 3, none⟩ = some (.string (takeB s.d 100)) :=
      World.cell?_setCell_same _ _ _ (show World.cell? _ _ = some (.string ⟨#[]⟩) from by rw [World.cell?_setCell_other (h := by simp), World.cell?_setCell_other (h := by simp), World.cell?_setCell_other (h := by simp)]; exact e3)
    generalize (((wc.setCell ⟨N + 1, 0, none⟩ (.int .i64 s.i)).setCell ⟨N + 1, 1, none⟩ (.int .i64 s.t)).setCell ⟨N + 1, 2, none⟩ (.string (takeB s.c 60))).setCell ⟨N + 1, 3, none⟩ (.string (takeB s.d 100)) = W at *
    exact bodyPost_ret (v := snpAgg (cutSnap s)) (by simp [results, Try.results16, go_sem, k0, k1, k2, k3, snpAgg, cutSnap]) rfl ⟨rfl, by rw [hN]; exact hbf⟩

def cutEnts (es : List Ent) (n : Nat) : List Ent := (es.take n).map cutEnt
theorem cutEnts_snoc (es : List Ent) (k : Nat) (h : k < es.length) : cutEnts es (k + 1) = cutEnts es k ++ [cutEnt es[k]] := by
  unfold cutEnts
  rw [List.take_succ_eq_append_getElem h, List.map_append]
  rfl

set_option maxRecDepth 100000 in
set_option maxHeartbeats 1000000 in
theorem law_entries (v : Value) (es : List Ent) (n : Nat) (w : World) (h : EntR w v es) (hl : es.length ≤ 9223372036854775807) (hn : n ≤ 1000) (hd : ∀ e ∈ es, e.d.size ≤ 9223372036854775807) :
    Calls Try.prog 17 #[v, .int .i64 n] w fun e w' => RetEnts w (cutEnts es n) e w' := by
  obtain ⟨a, cap, rfl⟩ := h.slice
  have HR := Lib.hid h
  have HD := Lib.hid hd
  clear h hd
  go_enter Try.func17, Try.ntmps17
  go_wp2_with fail
  go_loopw [5, 6] (fun s i wr => ∃ k : Nat, k ≤ es.length ∧ k ≤ n ∧ i = .int .i64 k ∧ EntO wr w.heap.size s (cutEnts es k) ∧ Below w.heap.size w wr) (fun _ i _ => es.length - (intOf i).toNat)
  case atStart => exact ⟨0, by omega, by omega, rfl, EntO.nil _ _, Below.refl _ _⟩
  case round =>
    obtain ⟨k, hk, hkn, rfl, ho, hbel⟩ := hrel
    by_cases hlt : k < es.length
    · by_cases hlt2 : k < n
      · have hrr := HR.out.below hbel
        obtain ⟨b, off, rfl, hblt, c0, c1, c2, c3⟩ := hrr.cells k hlt
        have HU := Lib.hid (cutEnts_snoc es k hlt)
        have hed := HD.out es[k] (List.getElem_mem hlt)
        have hcl : (cutEnts es k).length ≤ 1000 := by unfold cutEnts; rw [List.length_map, List.length_take]; omega
        clear hrr
        generalize es[k] = e at *
        obtain ⟨ei, et, ek, ed⟩ := e
        dsimp only at c0 c1 c2 c3 hed
        generalize cutEnts es k = Y at *
        go_wp2_with fail
        refine (cut_any ed 60 _ (by decide) hed).mono ?_
        rintro e w' ⟨rfl, rfl⟩
        rw [show (⟨(ed.data.toList.take 60).toArray⟩ : ByteArray) = takeB ed 60 from rfl]
        have hE := EntR.fresh (wr.alloc (.cells #[.int .i64 ei, .int .i64 et, .int .i64 ek, .string (takeB ed 60)] 37)) [cutEnt ⟨ei, et, ek, ed⟩] 37 (0, 0) #[.int .i64 ei, .int .i64 et, .int .i64 ek, .string (takeB ed 60)] 1 rfl rfl (by simp)
        rw [show (wr.alloc (.cells #[.int .i64 ei, .int .i64 et, .int .i64 ek, .string (takeB ed 60)] 37)).heap.size = wr.heap.size + 1 from by simp] at hE
        have hb1 : Below wr.heap.size wr ((wr.alloc (.cells #[.int .i64 ei, .int .i64 et, .int .i64 ek, .string (takeB ed 60)] 37)).alloc (.cells #[.int .i64 ei, .int .i64 et, .int .i64 ek, .string (takeB ed 60)] 37)) := ((Below.refl wr.heap.size wr).alloc (Nat.le_refl _) _).alloc (by simp) _
        have ho2 := ho.below hb1
        have hbz := hbel.trans (hb1.mono hbel.size)
        clear ho hb1 hbel c0 c1 c2 c3
        go_wp2_with (at_builtin; refine wpList_append_ents 24 w.heap.size _ Try.underlying24 info_ent rfl rfl _ _ rfl ho2 hE rfl rfl (by simp; omega) hbz.size ?_)
        intro v2 w2 ho3 hg3 hk3
        have hb3 : Below w.heap.size w w2 := hbz.grown hg3 hbz.size (fun k hk => (World.ownsRow.lt ho2 k hk).1)
        clear ho2 hE hg3 hk3 hbz
        go_wp2_with fail
        go_roundw
        case rel => exact ⟨k + 1, by omega, by omega, by go_num, by rw [HU.out]; exact ho3, hb3⟩
        case measure => simp [intOf]; omega
      · obtain rfl : k = n := by omega
        go_wp2_with fail
        go_ret
        exact ⟨_, rfl, ho, hbel⟩
    · obtain rfl : k = es.length := by omega
      have HU : Hid (cutEnts es n = cutEnts es es.length) := Lib.hid (by unfold cutEnts; rw [List.take_of_length_le (by omega), List.take_length])
      go_wp2_with fail
      go_ret
      exact ⟨_, rfl, by rw [HU.out]; exact ho, hbel⟩
end Go.Proofs.Ytihcohneongomaa
