/-
  No claim by itself: what the laws on logs make of their arguments: Snap, Entries. | plain facts on logs: rows, Put of what is there. | how a snapshot and a slice of entries that came in are opened. | the document's EqEntry, EqEntries, EqSnap: of what is the same they say so. | a snapshot in a block of its own. | a snapshot in a box, entries behind a change elsewhere, what Get tells at a place. | the document's log, by value: First, Last, Term, Fits, end, Newer: what each tells. | the document's log, by value: Fits, end, Newer, Get: what each tells. | the document's log, by value: Get: what it tells. No condition.
-/
import Derived.Test.YtikoafjnopkoaaaP5
import Derived.Test.YtikoafjnopkoaaaP4
import Derived.Test.YtikoafjnopkoaaaP2
import Derived.Lib.SmallJoins
import Derived.Deep.QuietTactic
import Derived.Deep.DeepCutAuto
import Derived.Deep.Cut
import Derived.WalkSmall
import Derived.Test.YtikoafjnopkoaaaP1
import Derived.Test.YtikoafjnopkoaaaP3
namespace Go.Proofs.Ytikoafjnopkoaaa
open Go.ChangeShapes Go.WideShapes Go.ChangeAt Go.RowKit

def takeB (s : ByteArray) (n : Nat) : ByteArray := ⟨(s.data.toList.take n).toArray⟩
def cutSnap (s : Snp) : Snp := ⟨s.i, s.t, takeB s.c 60, takeB s.d 100⟩
def cutEnt (e : Ent) : Ent := ⟨e.i, e.t, e.k, takeB e.d 60⟩

set_option maxRecDepth 100000 in
set_option maxHeartbeats 1000000 in
theorem law_snap (s : Snp) (w : World) (h1 : s.c.size ≤ 9223372036854775807) (h2 : s.d.size ≤ 9223372036854775807) :
    Calls Try.prog 5 #[snpAgg s] w fun e w' => e = .returned (snpAgg (cutSnap s)) ∧ Below w.heap.size w w' := by
  have hcell : ∀ j, ((w.alloc (.cells #[.int .i64 s.i, .int .i64 s.t, .string s.c, .string s.d] 23)).alloc (.cells #[.int .i64 0, .int .i64 0, .string ⟨#[]⟩, .string ⟨#[]⟩] 23)).cell? ⟨w.heap.size, j, none⟩ = #[.int .i64 s.i, .int .i64 s.t, .string s.c, .string s.d][j]? := fun j => by
    have h2 := (Below.refl (w.alloc (.cells #[.int .i64 s.i, .int .i64 s.t, .string s.c, .string s.d] 23)).heap.size (w.alloc (.cells #[.int .i64 s.i, .int .i64 s.t, .string s.c, .string s.d] 23))).alloc (Nat.le_refl _) (.cells #[.int .i64 0, .int .i64 0, .string ⟨#[]⟩, .string ⟨#[]⟩] 23)
    rw [h2.cell (p := ⟨w.heap.size, j, none⟩) (by simp), World.cell?_alloc_new]
  have hfro : ∀ j, ((w.alloc (.cells #[.int .i64 s.i, .int .i64 s.t, .string s.c, .string s.d] 23)).alloc (.cells #[.int .i64 0, .int .i64 0, .string ⟨#[]⟩, .string ⟨#[]⟩] 23)).frozen? ⟨w.heap.size, j, none⟩ = false := fun j => by
    have h2 := (Below.refl (w.alloc (.cells #[.int .i64 s.i, .int .i64 s.t, .string s.c, .string s.d] 23)).heap.size (w.alloc (.cells #[.int .i64 s.i, .int .i64 s.t, .string s.c, .string s.d] 23))).alloc (Nat.le_refl _) (.cells #[.int .i64 0, .int .i64 0, .string ⟨#[]⟩, .string ⟨#[]⟩] 23)
    rw [h2.frozen (p := ⟨w.heap.size, j, none⟩) (by simp), World.frozen?_alloc_new]
  have hcell2 : ∀ j, ((w.alloc (.cells #[.int .i64 s.i, .int .i64 s.t, .string s.c, .string s.d] 23)).alloc (.cells #[.int .i64 0, .int .i64 0, .string ⟨#[]⟩, .string ⟨#[]⟩] 23)).cell? ⟨w.heap.size + 1, j, none⟩ = #[.int .i64 0, .int .i64 0, .string ⟨#[]⟩, .string ⟨#[]⟩][j]? := fun j => by
    have := World.cell?_alloc_new (w.alloc (.cells #[.int .i64 s.i, .int .i64 s.t, .string s.c, .string s.d] 23)) #[.int .i64 0, .int .i64 0, .string ⟨#[]⟩, .string ⟨#[]⟩] 23 j
    rwa [show (w.alloc (.cells #[.int .i64 s.i, .int .i64 s.t, .string s.c, .string s.d] 23)).heap.size = w.heap.size + 1 from by simp] at this
  have hfro2 : ∀ j, ((w.alloc (.cells #[.int .i64 s.i, .int .i64 s.t, .string s.c, .string s.d] 23)).alloc (.cells #[.int .i64 0, .int .i64 0, .string ⟨#[]⟩, .string ⟨#[]⟩] 23)).frozen? ⟨w.heap.size + 1, j, none⟩ = false := fun j => by
    have := World.frozen?_alloc_new (w.alloc (.cells #[.int .i64 s.i, .int .i64 s.t, .string s.c, .string s.d] 23)) #[.int .i64 0, .int .i64 0, .string ⟨#[]⟩, .string ⟨#[]⟩] 23 j
    rwa [show (w.alloc (.cells #[.int .i64 s.i, .int .i64 s.t, .string s.c, .string s.d] 23)).heap.size = w.heap.size + 1 from by simp] at this
  have hb1 : Below w.heap.size w ((w.alloc (.cells #[.int .i64 s.i, .int .i64 s.t, .string s.c, .string s.d] 23)).alloc (.cells #[.int .i64 0, .int .i64 0, .string ⟨#[]⟩, .string ⟨#[]⟩] 23)) := ((Below.refl w.heap.size w).alloc (Nat.le_refl _) _).alloc (by simp) _
  have hsz : w.heap.size + 1 < ((w.alloc (.cells #[.int .i64 s.i, .int .i64 s.t, .string s.c, .string s.d] 23)).alloc (.cells #[.int .i64 0, .int .i64 0, .string ⟨#[]⟩, .string ⟨#[]⟩] 23)).heap.size := by simp
  unfold snpAgg
  have HC := Lib.hid hcell
  have HF := Lib.hid hfro
  have HC2 := Lib.hid hcell2
  have HF2 := Lib.hid hfro2
  clear hcell hfro hcell2 hfro2
  go_enter Try.func5, Try.ntmps5
  go_upto_region 1 with fail
  generalize (w.alloc (.cells #[.int .i64 s.i, .int .i64 s.t, .string s.c, .string s.d] 23)).alloc (.cells #[.int .i64 0, .int .i64 0, .string ⟨#[]⟩, .string ⟨#[]⟩] 23) = w1 at *
  generalize hN : w.heap.size = N at *
  have hlt : N < w1.heap.size := by omega
  have c0 := HC.out 0
  have c1 := HC.out 1
  have c2 := HC.out 2
  have c3 := HC.out 3
  simp only [List.getElem?_toArray, List.getElem?_cons_zero, List.getElem?_cons_succ] at c0 c1 c2 c3
  go_cut [] (fun wx => wx.cell? ⟨N, 0, none⟩ = some (.int .i64 s.i) ∧ wx.cell? ⟨N, 1, none⟩ = some (.int .i64 s.t) ∧ wx.cell? ⟨N, 2, none⟩ = some (.string (takeB s.c 60)) ∧ wx.cell? ⟨N, 3, none⟩ = some (.string (takeB s.d 100)) ∧ Keeps [N] w1 wx)
  case first =>
    refine wp_region_tail 7 (by rfl) (by kernel_rfl) (fun k => match k with | 2 => some (fun v _ => v = .string (takeB s.c 60)) | 5 => some (fun v _ => v = .string (takeB s.d 100)) | _ => none) ?_ (fun vals => ?_)
    · intro k φ hk v w1 w2 h1 h2
      match k, hk with
      | 2, hk => obtain rfl := Option.some.inj hk; exact h1
      | 5, hk => obtain rfl := Option.some.inj hk; exact h1
    dsimp only [List.take, List.drop]
    iterate 1 ((with_reducible refine sw_pure ?_ (fun K hK => ?_)); (· rfl); go_simp; with_reducible refine hK _ ?_; clear hK K)
    refine sw_at (.string s.c) rfl rfl (fun wz hz' hH => ?_) (fun K hK => ?_)
    · have h2 := (hz'.cell (p := ⟨N, 2, none⟩) hlt).trans c2
      go_simp
    go_simp; refine hK _ ?_; clear hK K
    refine sw_call _ rfl rfl (fun wz hz' hH => ?_) (fun K hK => ?_)
    · go_simp
      go_at_call 26
      refine (cut_any s.c 60 _ (by decide) h1).mono ?_
      rintro e w' ⟨rfl, rfl⟩
      exact ⟨_, rfl, rfl, Below.refl _ _⟩
    go_simp; refine hK _ ?_; clear hK K
    iterate 1 ((with_reducible refine sw_pure ?_ (fun K hK => ?_)); (· rfl); go_simp; with_reducible refine hK _ ?_; clear hK K)
    refine sw_at (.string s.d) rfl rfl (fun wz hz' hH => ?_) (fun K hK => ?_)
    · have h2 := (hz'.cell (p := ⟨N, 3, none⟩) hlt).trans c3
      go_simp
    go_simp; refine hK _ ?_; clear hK K
    refine sw_call _ rfl rfl (fun wz hz' hH => ?_) (fun K hK => ?_)
    · go_simp
      go_at_call 26
      refine (cut_any s.d 100 _ (by decide) h2).mono ?_
      rintro e w' ⟨rfl, rfl⟩
      exact ⟨_, rfl, rfl, Below.refl _ _⟩
    go_simp; refine hK _ ?_; clear hK K
    iterate 1 ((with_reducible refine sw_pure ?_ (fun K hK => ?_)); (· rfl); go_simp; with_reducible refine hK _ ?_; clear hK K)
    refine sw_done (fun wz hz' hH => ?_)
    have e5 := hH _ (List.Mem.head _)
    have e2 := hH _ (List.Mem.tail _ (List.Mem.head _))
    dsimp only at e5 e2
    have g0 := (hz'.cell (p := ⟨N, 0, none⟩) hlt).trans c0
    have g1 := (hz'.cell (p := ⟨N, 1, none⟩) hlt).trans c1
    have g2 := (hz'.cell (p := ⟨N, 2, none⟩) hlt).trans c2
    have g3 := (hz'.cell (p := ⟨N, 3, none⟩) hlt).trans c3
    have f2 := (hz'.frozen (p := ⟨N, 2, none⟩) hlt).trans (HF.out 2)
    have f3 := (hz'.frozen (p := ⟨N, 3, none⟩) hlt).trans (HF.out 3)
    rw [e5, e2]
    unfold tailQ
    have hz2 := Lib.hid hz'
    clear hH e5 e2 c0 c1 c2 c3
    go_wp2_with fail
    go_meet
    refine ⟨?_, ?_, ?_, ?_, ((Keeps.of_below hz2.out).setCell (.inl (by simp)) _).setCell (.inl (by simp)) _⟩
    · rw [World.cell?_setCell_other (h := by simp), World.cell?_setCell_other (h := by simp)]; exact g0
    · rw [World.cell?_setCell_other (h := by simp), World.cell?_setCell_other (h := by simp)]; exact g1
    · rw [World.cell?_setCell_other (h := by simp)]; exact World.cell?_setCell_same _ _ _ g2
    · exact World.cell?_setCell_same _ _ _ (show World.cell? _ _ = some (.string s.d) from by rw [World.cell?_setCell_other (h := by simp)]; exact g3)
  case rest =>
    obtain ⟨d0, d1, d2, d3, hk⟩ := hcut
    have e0 := HC2.out 0
    have e1 := HC2.out 1
    have e2 := HC2.out 2
    have e3 := HC2.out 3
    simp only [List.getElem?_toArray, List.getElem?_cons_zero, List.getElem?_cons_succ] at e0 e1 e2 e3
    have e0 := (hk.cell (p := ⟨N + 1, 0, none⟩) hsz (by simp)).trans e0
    have e1 := (hk.cell (p := ⟨N + 1, 1, none⟩) hsz (by simp)).trans e1
    have e2 := (hk.cell (p := ⟨N + 1, 2, none⟩) hsz (by simp)).trans e2
    have e3 := (hk.cell (p := ⟨N + 1, 3, none⟩) hsz (by simp)).trans e3
    have f0 := (hk.frozen (p := ⟨N + 1, 0, none⟩) hsz (by simp)).trans (HF2.out 0)
    have f1 := (hk.frozen (p := ⟨N + 1, 1, none⟩) hsz (by simp)).trans (HF2.out 1)
    have f2 := (hk.frozen (p := ⟨N + 1, 2, none⟩) hsz (by simp)).trans (HF2.out 2)
    have f3 := (hk.frozen (p := ⟨N + 1, 3, none⟩) hsz (by simp)).trans (HF2.out 3)
    have hbz : Below N w wc := by subst hN; exact hb1.trans (hk.below (B := w.heap.size) (by simp) (by omega))
    have HB := Lib.hid hbz
    clear hk c0 c1 c2 c3 hb1 hbz
    go_wp2_with fail
    have hbf : Below N w ((((wc.setCell ⟨N + 1, 0, none⟩ (.int .i64 s.i)).setCell ⟨N + 1, 1, none⟩ (.int .i64 s.t)).setCell ⟨N + 1, 2, none⟩ (.string (takeB s.c 60))).setCell ⟨N + 1, 3, none⟩ (.string (takeB s.d 100))) :=
      (((HB.out.setCell (by show N ≤ N + 1; omega) _).setCell (by show N ≤ N + 1; omega) _).setCell (by show N ≤ N + 1; omega) _).setCell (by show N ≤ N + 1; omega) _
    have k0 : ((((wc.setCell ⟨N + 1, 0, none⟩ (.int .i64 s.i)).setCell ⟨N + 1, 1, none⟩ (.int .i64 s.t)).setCell ⟨N + 1, 2, none⟩ (.string (takeB s.c 60))).setCell ⟨N + 1, 3, none⟩ (.string (takeB s.d 100))).cell? ⟨N + 1, 0, none⟩ = some (.int .i64 s.i) := by
      rw [World.cell?_setCell_other (h := by simp), World.cell?_setCell_other (h := by simp), World.cell?_setCell_other (h := by simp)]
      exact World.cell?_setCell_same _ _ _ e0
    have k1 : ((((wc.setCell ⟨N + 1, 0, none⟩ (.int .i64 s.i)).setCell ⟨N + 1, 1, none⟩ (.int .i64 s.t)).setCell ⟨N + 1, 2, none⟩ (.string (takeB s.c 60))).setCell ⟨N + 1, 3, none⟩ (.string (takeB s.d 100))).cell? ⟨N + 1, 1, none⟩ = some (.int .i64 s.t) := by
      rw [World.cell?_setCell_other (h := by simp), World.cell?_setCell_other (h := by simp)]
      exact World.cell?_setCell_same _ _ _ (show World.cell? _ _ = some (.int .i64 0) from by rw [World.cell?_setCell_other (h := by simp)]; exact e1)
    have k2 : ((((wc.setCell ⟨N + 1, 0, none⟩ (.int .i64 s.i)).setCell ⟨N + 1, 1, none⟩ (.int .i64 s.t)).setCell ⟨N + 1, 2, none⟩ (.string (takeB s.c 60))).setCell ⟨N + 1, 3, none⟩ (.string (takeB s.d 100))).cell? ⟨N + 1, 2, none⟩ = some (.string (takeB s.c 60)) := by
      rw [World.cell?_setCell_other (h := by simp)]
      exact World.cell?_setCell_same _ _ _ (show World.cell? _ _ = some (.string ⟨#[]⟩) from by rw [World.cell?_setCell_other (h := by simp), World.cell?_setCell_other (h := by simp)]; exact e2)
    have k3 : ((((wc.setCell ⟨N + 1, 0, none⟩ (.int .i64 s.i)).setCell ⟨N + 1, 1, none⟩ (.int .i64 s.t)).setCell ⟨N + 1, 2, none⟩ (.string (takeB s.c 60))).setCell ⟨N + 1, 3, none⟩ (.string (takeB s.d 100))).cell? ⟨N + 1, 3, none⟩ = some (.string (takeB s.d 100)) :=
      World.cell?_setCell_same _ _ _ (show World.cell? _ _ = some (.string ⟨#[]⟩) from by rw [World.cell?_setCell_other (h := by simp), World.cell?_setCell_other (h := by simp), World.cell?_setCell_other (h := by simp)]; exact e3)
    generalize (((wc.setCell ⟨N + 1, 0, none⟩ (.int .i64 s.i)).setCell ⟨N + 1, 1, none⟩ (.int .i64 s.t)).setCell ⟨N + 1, 2, none⟩ (.string (takeB s.c 60))).setCell ⟨N + 1, 3, none⟩ (.string (takeB s.d 100)) = W at *
    exact bodyPost_ret (v := snpAgg (cutSnap s)) (by simp [results, Try.results5, go_sem, k0, k1, k2, k3, snpAgg, cutSnap]) rfl ⟨rfl, by rw [hN]; exact hbf⟩

def cutEnts (es : List Ent) (n : Nat) : List Ent := (es.take n).map cutEnt
theorem cutEnts_snoc (es : List Ent) (k : Nat) (h : k < es.length) : cutEnts es (k + 1) = cutEnts es k ++ [cutEnt es[k]] := by
  unfold cutEnts
  rw [List.take_succ_eq_append_getElem h, List.map_append]
  rfl

set_option maxRecDepth 100000 in
set_option maxHeartbeats 1000000 in
theorem law_entries (v : Value) (es : List Ent) (n : Nat) (w : World) (h : EntR w v es) (hl : es.length ≤ 9223372036854775807) (hn : n ≤ 1000) (hd : ∀ e ∈ es, e.d.size ≤ 9223372036854775807) :
    Calls Try.prog 6 #[v, .int .i64 n] w fun e w' => RetEnts w (cutEnts es n) e w' := by
  obtain ⟨a, cap, rfl⟩ := h.slice
  have HR := Lib.hid h
  have HD := Lib.hid hd
  clear h hd
  go_enter Try.func6, Try.ntmps6
  go_wp2_with fail
  go_loopw [5, 6] (fun s i wr => ∃ k : Nat, k ≤ es.length ∧ k ≤ n ∧ i = .int .i64 k ∧ EntO wr w.heap.size s (cutEnts es k) ∧ Below w.heap.size w wr) (fun _ i _ => es.length - (intOf i).toNat)
  case atStart => exact ⟨0, by omega, by omega, rfl, EntO.nil _ _, Below.refl _ _⟩
  case round =>
    obtain ⟨k, hk, hkn, rfl, ho, hbel⟩ := hrel
    by_cases hlt : k < es.length
    · by_cases hlt2 : k < n
      · have hrr := HR.out.below hbel
        obtain ⟨b, off, rfl, hblt, c0, c1, c2, c3⟩ := hrr.cells k hlt
        have HU := Lib.hid (cutEnts_snoc es k hlt)
        have hed := HD.out es[k] (List.getElem_mem hlt)
        have hcl : (cutEnts es k).length ≤ 1000 := by unfold cutEnts; rw [List.length_map, List.length_take]; omega
        clear hrr
        generalize es[k] = e at *
        obtain ⟨ei, et, ek, ed⟩ := e
        dsimp only at c0 c1 c2 c3 hed
        generalize cutEnts es k = Y at *
        go_wp2_with fail
        refine (cut_any ed 60 _ (by decide) hed).mono ?_
        rintro e w' ⟨rfl, rfl⟩
        rw [show (⟨(ed.data.toList.take 60).toArray⟩ : ByteArray) = takeB ed 60 from rfl]
        have hE := EntR.fresh (wr.alloc (.cells #[.int .i64 ei, .int .i64 et, .int .i64 ek, .string (takeB ed 60)] 51)) [cutEnt ⟨ei, et, ek, ed⟩] 51 (0, 0) #[.int .i64 ei, .int .i64 et, .int .i64 ek, .string (takeB ed 60)] 1 rfl rfl (by simp)
        rw [show (wr.alloc (.cells #[.int .i64 ei, .int .i64 et, .int .i64 ek, .string (takeB ed 60)] 51)).heap.size = wr.heap.size + 1 from by simp] at hE
        have hb1 : Below wr.heap.size wr ((wr.alloc (.cells #[.int .i64 ei, .int .i64 et, .int .i64 ek, .string (takeB ed 60)] 51)).alloc (.cells #[.int .i64 ei, .int .i64 et, .int .i64 ek, .string (takeB ed 60)] 51)) := ((Below.refl wr.heap.size wr).alloc (Nat.le_refl _) _).alloc (by simp) _
        have ho2 := ho.below hb1
        have hbz := hbel.trans (hb1.mono hbel.size)
        clear ho hb1 hbel c0 c1 c2 c3
        go_wp2_with (at_builtin; refine wpList_append_ents 24 w.heap.size _ Try.underlying24 info_ent rfl rfl _ _ rfl ho2 hE rfl rfl (by simp; omega) hbz.size ?_)
        intro v2 w2 ho3 hg3 hk3
        have hb3 : Below w.heap.size w w2 := hbz.grown hg3 hbz.size (fun k hk => (World.ownsRow.lt ho2 k hk).1)
        clear ho2 hE hg3 hk3 hbz
        go_wp2_with fail
        go_roundw
        case rel => exact ⟨k + 1, by omega, by omega, by go_num, by rw [HU.out]; exact ho3, hb3⟩
        case measure => simp [intOf]; omega
      · obtain rfl : k = n := by omega
        go_wp2_with fail
        go_ret
        exact ⟨_, rfl, ho, hbel⟩
    · obtain rfl : k = es.length := by omega
      have HU : Hid (cutEnts es n = cutEnts es es.length) := Lib.hid (by unfold cutEnts; rw [List.take_of_length_le (by omega), List.take_length])
      go_wp2_with fail
      go_ret
      exact ⟨_, rfl, by rw [HU.out]; exact ho, hbel⟩
end Go.Proofs.Ytikoafjnopkoaaa
namespace Go.Proofs.Ytikoafjnopkoaaa
open Go.RowKit

theorem row_take (L : List Ent) : ∀ (i t : Int) (n : Nat), rowP i t L = true → rowP i t (L.take n) = true := by
  induction L with
  | nil => intro i t n h; simpa using h
  | cons e L ih =>
    intro i t n h
    cases n with
    | zero => rfl
    | succ n =>
      rw [List.take_succ_cons]
      simp only [rowP, Bool.and_eq_true] at h ⊢
      exact ⟨h.1, ih _ _ n h.2⟩
theorem row_drop (L : List Ent) : ∀ (i t : Int) (n : Nat), rowP i t L = true → ∃ i' t', rowP i' t' (L.drop n) = true := by
  induction L with
  | nil => intro i t n h; exact ⟨i, t, by simpa using h⟩
  | cons e L ih =>
    intro i t n h
    cases n with
    | zero => exact ⟨i, t, h⟩
    | succ n =>
      rw [List.drop_succ_cons]
      simp only [rowP, Bool.and_eq_true] at h
      exact ih _ _ n h.2
theorem row_at (L : List Ent) : ∀ (i t : Int), rowP i t L = true → 0 ≤ i → i + L.length ≤ 9000000000000000000 → ∀ k (h : k < L.length), L[k].i = i + 1 + k ∧ t ≤ L[k].t := by
  induction L with
  | nil => intro i t _ _ _ k h; simp at h
  | cons e L ih =>
    intro i t h h0 h1 k hk
    simp only [rowP, Bool.and_eq_true, beq_iff_eq, decide_eq_true_eq, List.length_cons] at h h1
    obtain ⟨⟨he, ht⟩, hr⟩ := h
    rw [IntWalk.wrap64_in _ (by omega)] at he
    cases k with
    | zero => exact ⟨by rw [List.getElem_cons_zero, he]; omega, ht⟩
    | succ k =>
      rw [List.getElem_cons_succ]
      have := ih e.i e.t hr (by omega) (by omega) k (by simpa using hk)
      exact ⟨by omega, by omega⟩
theorem row_self {i t : Int} {e : Ent} {L : List Ent} (h : rowP i t (e :: L) = true) (h0 : -9223372036854775808 ≤ e.i ∧ e.i ≤ 9223372036854775807) : rowP (wrap64 (e.i - 1)) e.t (e :: L) = true := by
  simp only [rowP, Bool.and_eq_true, beq_iff_eq, decide_eq_true_eq] at h ⊢
  refine ⟨⟨?_, Int.le_refl _⟩, h.2⟩
  unfold wrap64
  omega

/-- A good log. -/
structure Good (s : Snp) (L : List Ent) : Prop where
  b : LogB s L
  r : rowP s.i s.t L = true
theorem Good.of_new {s : Snp} {L : List Ent} (h : newOk s L = true) : Good s L := by
  unfold newOk inP at h
  simp only [List.all_cons, List.all_nil, Bool.and_eq_true, decide_eq_true_eq, Bool.and_true] at h
  obtain ⟨⟨⟨h1, h2⟩, h3⟩, h4⟩ := h
  unfold okN at h1
  simp only [Bool.and_eq_true, decide_eq_true_eq] at h1
  exact ⟨⟨h1.1, by omega, h3⟩, h4⟩
theorem Good.at_ {s : Snp} {L : List Ent} (h : Good s L) (k : Nat) (hk : k < L.length) : L[k].i = s.i + 1 + k ∧ s.t ≤ L[k].t :=
  row_at L s.i s.t h.r h.b.1 (by have := h.b.2.1; have := h.b.2.2; omega) k hk
theorem Good.term {s : Snp} {L : List Ent} (_h : Good s L) (k : Nat) (hk : k < L.length) : termP s L (s.i + 1 + k) = (L[k].t, true) := by
  unfold termP lastP
  rw [if_neg (by omega), if_neg (by omega), show (s.i + 1 + (k : Int) - s.i - 1).toNat = k by omega, List.getElem?_eq_getElem hk]
  rfl
theorem Good.fits {s : Snp} {L : List Ent} (h : Good s L) (k : Nat) (hk : k < L.length) : fitsP s L L[k].i L[k].t = true := by
  unfold fitsP
  rw [(h.at_ k hk).1, h.term k hk]
  simp

theorem dropWhile_all {α : Type} (p : α → Bool) (l : List α) (h : ∀ x ∈ l, p x = true) : l.dropWhile p = [] := by
  induction l with
  | nil => rfl
  | cons x l ih => rw [List.dropWhile_cons_of_pos (h x (by simp))]; exact ih fun y hy => h y (by simp [hy])

/-- Entries that are there are put again: nothing changes. -/
theorem Good.again {s : Snp} {L : List Ent} (h : Good s L) (a n : Nat) : putP s L ((L.drop a).take n) = ((0, true), L) := by
  have hall : ∀ e ∈ (L.drop a).take n, pastP s L e = true := fun e he => by
    obtain ⟨k, hk, rfl⟩ := List.mem_iff_getElem.1 (List.mem_of_mem_drop (List.mem_of_mem_take he))
    unfold pastP
    rw [h.fits k hk]
    simp
  obtain ⟨i', t', hr⟩ := row_drop L s.i s.t a h.r
  have hr := row_take _ _ _ n hr
  cases hE : (L.drop a).take n with
  | nil => rfl
  | cons e E =>
    rw [hE] at hall hr
    have hm : e ∈ L := List.mem_of_mem_drop (List.mem_of_mem_take (by rw [hE]; simp))
    obtain ⟨k, hk, he⟩ := List.mem_iff_getElem.1 hm
    have hi := (h.at_ k hk).1
    rw [he] at hi
    have hB := h.b
    obtain ⟨b0, b1, b2⟩ := hB
    show (if lastP s L + 1 < e.i ∨ rowP (wrap64 (e.i - 1)) e.t (e :: E) = false then _ else _) = _
    rw [if_neg (by
      rintro (h1 | h1)
      · unfold lastP at h1; omega
      · rw [row_self hr (by omega)] at h1; cases h1)]
    rw [dropWhile_all _ _ hall]
    rfl
theorem Good.getAll {s : Snp} {L : List Ent} (h : Good s L) (n : Int) (hn : (L.length : Int) ≤ n) : getP s L (s.i + 1) n = L := by
  unfold getP lastP
  by_cases h0 : L = []
  · subst h0
    split <;> simp
  · have hl : 0 < L.length := by cases L with | nil => exact absurd rfl h0 | cons _ _ => simp
    rw [if_neg (by omega)]
    rw [show (s.i + 1 - (s.i + 1)).toNat = 0 by omega, List.drop_zero, List.take_of_length_le (by omega)]
end Go.Proofs.Ytikoafjnopkoaaa
namespace Go.Proofs.Ytikoafjnopkoaaa
open Go.ChangeShapes Go.WideShapes Go.ChangeAt Go.RowKit Go.Deep

section
variable {H : Type} {enc : TypeId × Value → H} {W : World} {base base' : Nat} {r : Reach}

set_option maxRecDepth 100000 in
theorem open_snap {v : Value} {d : DataW H} {ps : List MemPlace} (hv : Value.okWide Try.prog W r base' 23 v) (h : DataW.Trod enc Try.prog W base (fun _ => true) true 23 v d ps) : ∃ s : Snp, v = snpAgg s ∧ s.wf := by
  obtain ⟨v0, v1, v2, v3, y0, y1, y2, y3, n, rfl, _, _, h0, h1, h2, h3⟩ := Go.Joins.open_agg4 Try.underlying23 (by kernel_rfl) (by kernel_rfl) hv h
  obtain ⟨x0, e0, _, g0⟩ := DataW.trod_int Try.underlying2 h0
  obtain ⟨x1, e1, _, g1⟩ := DataW.trod_int Try.underlying2 h1
  obtain ⟨x2, e2, _, g2⟩ := DataW.trod_string Try.underlying9 h2
  obtain ⟨x3, e3, _, g3⟩ := DataW.trod_string Try.underlying9 h3
  simp only [List.cons.injEq, and_true] at e0 e1 e2 e3
  subst e0 e1 e2 e3
  exact ⟨⟨x0, x1, x2, x3⟩, rfl, wf_i64 g0, wf_i64 g1, g2, g3⟩

set_option maxRecDepth 100000 in
theorem open_ents {v : Value} {d : DataW H} {ps : List MemPlace} (hv : Value.okWide Try.prog W r base' 24 v) (h : DataW.Trod enc Try.prog W base (fun _ => true) true 24 v d ps) : ∃ es : List Ent, EntR W v es ∧ ∀ e ∈ es, e.wf := by
  exact open_recs (f := entCells) (good := Ent.wf) Try.underlying24 Try.underlying51 (by kernel_rfl) (by kernel_rfl) (by decide) hv (fun vs hvs hf => by
    obtain ⟨n0, y0, u0, e0, t0⟩ := hf 0 _ rfl
    obtain ⟨n1, y1, u1, e1, t1⟩ := hf 1 _ rfl
    obtain ⟨n2, y2, u2, e2, t2⟩ := hf 2 _ rfl
    obtain ⟨n3, y3, u3, e3, t3⟩ := hf 3 _ rfl
    obtain ⟨x0, g0, _, k0⟩ := DataW.trod_int Try.underlying2 t0
    obtain ⟨x1, g1, _, k1⟩ := DataW.trod_int Try.underlying2 t1
    obtain ⟨x2, g2, _, k2⟩ := DataW.trod_int Try.underlying3 t2
    obtain ⟨x3, g3, _, k3⟩ := DataW.trod_string Try.underlying9 t3
    simp only [List.cons.injEq, and_true] at g0 g1 g2 g3
    subst g0 g1 g2 g3
    refine ⟨⟨x0, x1, x2, x3⟩, ?_, wf_i64 k0, wf_i64 k1, wf_i64 k2, k3⟩
    match vs, hvs with
    | [a, b, c, d], _ =>
      simp only [List.getElem?_cons_zero, List.getElem?_cons_succ, Option.some.injEq] at e0 e1 e2 e3
      subst e0 e1 e2 e3
      rfl) h
end
end Go.Proofs.Ytikoafjnopkoaaa
namespace Go.Proofs.Ytikoafjnopkoaaa
open Go.ChangeShapes Go.WideShapes Go.ChangeAt Go.RowKit

set_option maxRecDepth 100000 in
theorem eq_entry (e : Ent) (w : World) : Calls Try.prog 33 #[entAgg e, entAgg e] w fun x w' => x = .returned (.bool true) ∧ Below w.heap.size w w' := by
  have hb : ∀ a b, Below w.heap.size w ((w.alloc a).alloc b) := fun a b => ((Below.refl w.heap.size w).alloc (Nat.le_refl _) _).alloc (by simp) _
  have HB := Lib.hid hb
  clear hb
  unfold entAgg
  go_enter Try.func33, Try.ntmps33
  go_wp2_with fail
  go_ret
  exact ⟨rfl, HB.out _ _⟩

set_option maxRecDepth 100000 in
theorem eq_snap (e : Snp) (w : World) : Calls Try.prog 34 #[snpAgg e, snpAgg e] w fun x w' => x = .returned (.bool true) ∧ Below w.heap.size w w' := by
  have hb : ∀ a b, Below w.heap.size w ((w.alloc a).alloc b) := fun a b => ((Below.refl w.heap.size w).alloc (Nat.le_refl _) _).alloc (by simp) _
  have HB := Lib.hid hb
  clear hb
  unfold snpAgg
  go_enter Try.func34, Try.ntmps34
  go_wp2_with fail
  go_ret
  exact ⟨rfl, HB.out _ _⟩

set_option maxRecDepth 100000 in
set_option maxHeartbeats 1000000 in
theorem eq_entries (v1 v2 : Value) (es : List Ent) (w : World) (h1 : EntR w v1 es) (h2 : EntR w v2 es) (hl : es.length ≤ 1000000000000) :
    Calls Try.prog 20 #[v1, v2] w fun e w' => e = .returned (.bool true) ∧ Below w.heap.size w w' := by
  obtain ⟨a1, cap1, rfl⟩ := h1.slice
  obtain ⟨a2, cap2, rfl⟩ := h2.slice
  have HR1 := Lib.hid h1
  have HR2 := Lib.hid h2
  clear h1 h2
  go_enter Try.func20, Try.ntmps20
  go_wp2_with fail
  go_loopw [5] (fun i wr => ∃ k : Nat, k ≤ es.length ∧ i = .int .i64 k ∧ Below w.heap.size w wr) (fun i _ => es.length - (intOf i).toNat)
  case atStart => exact ⟨0, by omega, rfl, Below.refl _ _⟩
  case round =>
    obtain ⟨k, hk, rfl, hbel⟩ := hrel
    by_cases hlt : k < es.length
    · obtain ⟨b1, o1, rfl, hb1, c0, c1, c2, c3⟩ := (HR1.out.below hbel).cells k hlt
      obtain ⟨b2, o2, rfl, hb2, d0, d1, d2, d3⟩ := (HR2.out.below hbel).cells k hlt
      generalize es[k] = e at *
      go_upto_region 6 with fail
      go_cut [26] (fun x wx => x = .bool false ∧ Below wr.heap.size wr wx)
      case first =>
        refine wp_region_sw (by rfl) (by kernel_rfl) (fun k => match k with | 8 => some (fun v _ => v = .bool true) | _ => none) ?_ (fun vals => ?_)
        · intro k φ hk v w1 w2 h1 h2
          match k, hk with
          | 8, hk => obtain rfl := Option.some.inj hk; exact h1
        iterate 3 ((with_reducible refine sw_pure ?_ (fun K hK => ?_)); (· rfl); go_simp; with_reducible refine hK _ ?_; clear hK K)
        refine sw_at (entAgg e) rfl rfl (fun wz hz' hH => ?_) (fun K hK => ?_)
        · have g0 := (hz'.cell (p := ⟨b1, o1 + k * 4, none⟩) hb1).trans c0
          have g1 := (hz'.cell (p := ⟨b1, o1 + k * 4 + 1, none⟩) hb1).trans c1
          have g2 := (hz'.cell (p := ⟨b1, o1 + k * 4 + 2, none⟩) hb1).trans c2
          have g3 := (hz'.cell (p := ⟨b1, o1 + k * 4 + 3, none⟩) hb1).trans c3
          unfold entAgg
          go_simp
        go_simp; refine hK _ ?_; clear hK K
        iterate 3 ((with_reducible refine sw_pure ?_ (fun K hK => ?_)); (· rfl); go_simp; with_reducible refine hK _ ?_; clear hK K)
        refine sw_at (entAgg e) rfl rfl (fun wz hz' hH => ?_) (fun K hK => ?_)
        · have g0 := (hz'.cell (p := ⟨b2, o2 + k * 4, none⟩) hb2).trans d0
          have g1 := (hz'.cell (p := ⟨b2, o2 + k * 4 + 1, none⟩) hb2).trans d1
          have g2 := (hz'.cell (p := ⟨b2, o2 + k * 4 + 2, none⟩) hb2).trans d2
          have g3 := (hz'.cell (p := ⟨b2, o2 + k * 4 + 3, none⟩) hb2).trans d3
          unfold entAgg
          go_simp
        go_simp; refine hK _ ?_; clear hK K
        refine sw_call _ rfl rfl (fun wz hz' hH => ?_) (fun K hK => ?_)
        · go_simp
          go_at_call 33
          refine (eq_entry e _).mono ?_
          rintro x w' ⟨rfl, hb⟩
          exact ⟨_, rfl, rfl, hb⟩
        go_simp; refine hK _ ?_; clear hK K
        refine sw_at (.bool false) rfl rfl (fun wz hz' hH => ?_) (fun K hK => ?_)
        · have h3 := hH _ (List.Mem.head _) rfl
          dsimp only at h3
          rw [h3]
          go_simp
        go_simp; refine hK _ ?_; clear hK K
        refine sw_done (fun wz hz hH => ?_)
        go_wp2_with fail
        go_meet
        exact ⟨rfl, hz⟩
      case rest =>
        obtain ⟨rfl, hz⟩ := hcut
        have hbz := hbel.trans (hz.mono hbel.size)
        clear hz hbel c0 c1 c2 c3 d0 d1 d2 d3
        go_wp2_with fail
        go_roundw
        case rel => exact ⟨k + 1, by omega, by go_num, hbz⟩
        case measure => simp [intOf]; omega
    · obtain rfl : k = es.length := by omega
      go_wp2_with fail
      go_ret
      exact ⟨rfl, hbel⟩
end Go.Proofs.Ytikoafjnopkoaaa
namespace Go.Proofs.Ytikoafjnopkoaaa
open Go.ChangeShapes Go.WideShapes Go.ChangeAt Go.RowKit

/-- A snapshot in a block of its own. -/
structure SnapS (w : World) (b : Nat) (s : Snp) : Prop where
  lt : b < w.heap.size
  c0 : w.cell? ⟨b, 0, none⟩ = some (.int .i64 s.i)
  c1 : w.cell? ⟨b, 1, none⟩ = some (.int .i64 s.t)
  c2 : w.cell? ⟨b, 2, none⟩ = some (.string s.c)
  c3 : w.cell? ⟨b, 3, none⟩ = some (.string s.d)
  fr : ∀ j, w.frozen? ⟨b, j, none⟩ = false
theorem SnapS.below {w w' : World} {b : Nat} {s : Snp} (h : SnapS w b s) (hb : Below w.heap.size w w') : SnapS w' b s :=
  ⟨Nat.lt_of_lt_of_le h.lt hb.size, (hb.cell (p := ⟨b, 0, none⟩) h.lt).trans h.c0, (hb.cell (p := ⟨b, 1, none⟩) h.lt).trans h.c1, (hb.cell (p := ⟨b, 2, none⟩) h.lt).trans h.c2, (hb.cell (p := ⟨b, 3, none⟩) h.lt).trans h.c3, fun j => (hb.frozen (p := ⟨b, j, none⟩) h.lt).trans (h.fr j)⟩
theorem SnapS.keeps {w w' : World} {b : Nat} {s : Snp} {F : List Nat} (h : SnapS w b s) (hk : Keeps F w w') (hF : b ∉ F) : SnapS w' b s :=
  ⟨Nat.lt_of_lt_of_le h.lt hk.size, (hk.cell (p := ⟨b, 0, none⟩) h.lt hF).trans h.c0, (hk.cell (p := ⟨b, 1, none⟩) h.lt hF).trans h.c1, (hk.cell (p := ⟨b, 2, none⟩) h.lt hF).trans h.c2, (hk.cell (p := ⟨b, 3, none⟩) h.lt hF).trans h.c3, fun j => (hk.frozen (p := ⟨b, j, none⟩) h.lt hF).trans (h.fr j)⟩
theorem snapS_box (w : World) (s : Snp) (T : TypeId) : SnapS (w.alloc (.cells #[.int .i64 s.i, .int .i64 s.t, .string s.c, .string s.d] T)) w.heap.size s :=
  ⟨by simp, World.cell?_alloc_new _ _ _ _, World.cell?_alloc_new _ _ _ _, World.cell?_alloc_new _ _ _ _, World.cell?_alloc_new _ _ _ _, fun j => World.frozen?_alloc_new _ _ _ _⟩
theorem SnapS.set {w : World} {b : Nat} {s n : Snp} (h : SnapS w b s) : SnapS ((((w.setCell ⟨b, 0, none⟩ (.int .i64 n.i)).setCell ⟨b, 1, none⟩ (.int .i64 n.t)).setCell ⟨b, 2, none⟩ (.string n.c)).setCell ⟨b, 3, none⟩ (.string n.d)) b n ∧
    Keeps [b] w ((((w.setCell ⟨b, 0, none⟩ (.int .i64 n.i)).setCell ⟨b, 1, none⟩ (.int .i64 n.t)).setCell ⟨b, 2, none⟩ (.string n.c)).setCell ⟨b, 3, none⟩ (.string n.d)) := by
  have hk : Keeps [b] w ((((w.setCell ⟨b, 0, none⟩ (.int .i64 n.i)).setCell ⟨b, 1, none⟩ (.int .i64 n.t)).setCell ⟨b, 2, none⟩ (.string n.c)).setCell ⟨b, 3, none⟩ (.string n.d)) :=
    ((((Keeps.refl [b] w).setCell (.inl (by simp)) _).setCell (.inl (by simp)) _).setCell (.inl (by simp)) _).setCell (.inl (by simp)) _
  refine ⟨⟨Nat.lt_of_lt_of_le h.lt hk.size, ?_, ?_, ?_, ?_, fun j => ?_⟩, hk⟩
  · rw [World.cell?_setCell_other (h := by simp), World.cell?_setCell_other (h := by simp), World.cell?_setCell_other (h := by simp)]
    exact World.cell?_setCell_same _ _ _ h.c0
  · rw [World.cell?_setCell_other (h := by simp), World.cell?_setCell_other (h := by simp)]
    exact World.cell?_setCell_same _ _ _ (show World.cell? _ _ = some (.int .i64 s.t) from by rw [World.cell?_setCell_other (h := by simp)]; exact h.c1)
  · rw [World.cell?_setCell_other (h := by simp)]
    exact World.cell?_setCell_same _ _ _ (show World.cell? _ _ = some (.string s.c) from by rw [World.cell?_setCell_other (h := by simp), World.cell?_setCell_other (h := by simp)]; exact h.c2)
  · exact World.cell?_setCell_same _ _ _ (show World.cell? _ _ = some (.string s.d) from by rw [World.cell?_setCell_other (h := by simp), World.cell?_setCell_other (h := by simp), World.cell?_setCell_other (h := by simp)]; exact h.c3)
  · rw [World.frozen?_setCell, World.frozen?_setCell, World.frozen?_setCell, World.frozen?_setCell]; exact h.fr j

end Go.Proofs.Ytikoafjnopkoaaa
namespace Go.Proofs.Ytikoafjnopkoaaa
open Go.ChangeShapes Go.WideShapes Go.ChangeAt Go.RowKit

theorem takeB_size (s : ByteArray) (n : Nat) : (takeB s n).size ≤ n := by
  show (List.toArray _).size ≤ n
  simp
  omega
theorem cutEnts_len (es : List Ent) (n : Nat) : (cutEnts es n).length ≤ n := by
  unfold cutEnts
  rw [List.length_map]
  exact List.length_take_le _ _
theorem cutEnts_lo (es : List Ent) (n : Nat) (h : ∀ e ∈ es, e.wf) : entsLo (cutEnts es n) := by
  intro e he
  unfold cutEnts at he
  obtain ⟨x, hx, rfl⟩ := List.mem_map.1 he
  exact (h x (List.mem_of_mem_take hx)).1

theorem EntR.keeps {w w' : World} {v : Value} {es : List Ent} {F : List Nat} (h : EntR w v es) (hk : Keeps F w w') (hF : ∀ g off n c, v = .slice (some ⟨g, off, none⟩) n c → g ∉ F) : EntR w' v es := by
  obtain ⟨a, cap, hv, h1, h2, h3⟩ := h
  refine ⟨a, cap, hv, h1, h2, fun k hk' => ?_⟩
  obtain ⟨b, off, ha, hlt, hc⟩ := h3 k hk'
  exact ⟨b, off, ha, Nat.lt_of_lt_of_le hlt hk.size, fun j u hu => by rw [hk.cell (p := ⟨b, off + k * 4 + j, none⟩) hlt (hF b off _ _ (by rw [hv, ha]))]; exact hc j u hu⟩

theorem getP_at (s : Snp) (L : List Ent) (A : Nat) (n : Int) (hA : A < L.length) (hn : 0 ≤ n) : getP s L (s.i + 1 + A) n = (L.drop A).take n.toNat := by
  unfold getP lastP
  by_cases h : n < 1
  · rw [if_pos (.inr (.inr h)), show n.toNat = 0 by omega, List.take_zero]
  · rw [if_neg (by omega), show (s.i + 1 + (A : Int) - (s.i + 1)).toNat = A by omega]

/-- A row of one's own whose kinds may be written. -/
structure Kinds (w : World) (g n : Nat) : Prop where
  lt : g < w.heap.size
  c : ∀ k, k < n → ∃ u, w.cell? ⟨g, k * 4 + 2, none⟩ = some u
  fr : ∀ j, w.frozen? ⟨g, j, none⟩ = false
theorem Kinds.set {w : World} {g n : Nat} (h : Kinds w g n) (k : Nat) (u : Value) : Kinds (w.setCell ⟨g, k * 4 + 2, none⟩ u) g n := by
  refine ⟨Nat.lt_of_lt_of_le h.lt ((Keeps.refl [g] w).setCell (p := ⟨g, k * 4 + 2, none⟩) (.inl (by simp)) u).size, fun j hj => ?_, fun j => ?_⟩
  · obtain ⟨v, hv⟩ := h.c j hj
    by_cases e : j = k
    · subst e
      exact ⟨u, World.cell?_setCell_same _ _ _ hv⟩
    · exact ⟨v, by rw [World.cell?_setCell_other (h := by simp <;> omega)]; exact hv⟩
  · rw [World.frozen?_setCell]
    exact h.fr j
theorem Kinds.keeps {w w' : World} {g n : Nat} {F : List Nat} (h : Kinds w g n) (hk : Keeps F w w') (hF : g ∉ F) : Kinds w' g n :=
  ⟨Nat.lt_of_lt_of_le h.lt hk.size, fun j hj => by obtain ⟨v, hv⟩ := h.c j hj; exact ⟨v, (hk.cell (p := ⟨g, j * 4 + 2, none⟩) h.lt hF).trans hv⟩, fun j => (hk.frozen (p := ⟨g, j, none⟩) h.lt hF).trans (h.fr j)⟩
theorem EntO.kinds {w : World} {base : Nat} {v : Value} {es : List Ent} (h : EntO w base v es) (hne : es ≠ []) : ∃ g cap, v = .slice (some ⟨g, 0, none⟩) es.length cap ∧ base ≤ g ∧ Kinds w g es.length := by
  have hr := h.r
  rcases h.2 with ⟨_, hx⟩ | ⟨g, cap, cur, rfl, hb, hg, hnc, hcm, hcs, htake⟩
  · exact absurd (List.eq_nil_of_length_eq_zero hx) hne
  · refine ⟨g, cap, rfl, hb, (Array.getElem?_eq_some_iff.1 hg).1, fun k hk => ?_, fun j => ?_⟩
    · obtain ⟨b, off, he, _, c0, c1, c2, c3⟩ := hr.cells k hk
      simp only [Option.some.injEq, Addr.mk.injEq] at he
      obtain ⟨rfl, rfl, _⟩ := he
      exact ⟨_, by simpa using c2⟩
    · unfold World.frozen?
      rw [hg]
      simp
theorem EntO.kinds' {w : World} {base : Nat} {v : Value} {es : List Ent} (h : EntO w base v es) : ∃ a cap, ∃ F : List Nat, v = .slice a es.length cap ∧ (∀ x ∈ F, base ≤ x ∧ x < w.heap.size) ∧ ∀ k, k < es.length → ∃ g, F = [g] ∧ a = some ⟨g, 0, none⟩ ∧ Kinds w g es.length := by
  by_cases hne : es = []
  · obtain ⟨a, cap, hv⟩ := h.r.slice
    exact ⟨a, cap, [], hv, fun x hx => by simp at hx, fun k hk => by subst hne; simp at hk⟩
  · obtain ⟨g, cap, hv, hb, hK⟩ := h.kinds hne
    exact ⟨_, cap, [g], hv, fun x hx => by simp only [List.mem_singleton] at hx; subst hx; exact ⟨hb, hK.lt⟩, fun k hk => ⟨g, rfl, rfl, hK⟩⟩
theorem LogS.keeps {w w' : World} {b : Nat} {s : Snp} {lv : Value} {es : List Ent} {F : List Nat} (h : LogS w b s lv es) (hk : Keeps F w w') (hb : b ∉ F) (hF : ∀ g off n c, lv = .slice (some ⟨g, off, none⟩) n c → g ∉ F) : LogS w' b s lv es :=
  ⟨Nat.lt_of_lt_of_le h.lt hk.size, (hk.cell (p := ⟨b, 0, none⟩) h.lt hb).trans h.c0, (hk.cell (p := ⟨b, 1, none⟩) h.lt hb).trans h.c1, (hk.cell (p := ⟨b, 2, none⟩) h.lt hb).trans h.c2, (hk.cell (p := ⟨b, 3, none⟩) h.lt hb).trans h.c3, (hk.cell (p := ⟨b, 4, none⟩) h.lt hb).trans h.c4,
    fun j => (hk.frozen (p := ⟨b, j, none⟩) h.lt hb).trans (h.fr j), h.r.keeps hk hF, h.ne⟩
end Go.Proofs.Ytikoafjnopkoaaa
namespace Go.Proofs.Ytikoafjnopkoaaa
open Go.ChangeShapes Go.WideShapes Go.ChangeAt Go.RowKit

def refAgg (s : Snp) (rv : Value) : Value := .agg #[.int .i64 s.i, .int .i64 s.t, .string s.c, .string s.d, rv]
def refCells (s : Snp) (rv : Value) : Array Value := #[.int .i64 s.i, .int .i64 s.t, .string s.c, .string s.d, rv]
theorem ref_first {w : World} {s : Snp} {a : Option Addr} {n cap : Nat} (h0 : 0 ≤ s.i) (h1 : s.i ≤ 4611686018427387904) : Calls Try.prog 31 #[refAgg s (.slice a n cap)] w fun e w' => e = .returned (.int .i64 (s.i + 1)) ∧ Below w.heap.size w w' := by
  have hb := (Below.refl w.heap.size w).alloc (Nat.le_refl _) (.cells (refCells s (.slice a n cap)) 32)
  unfold refAgg
  unfold refCells at hb
  go_enter Try.func31, Try.ntmps31
  go_wp2_with fail
  go_ret
  exact ⟨rfl, hb⟩
theorem ref_last {w : World} {s : Snp} {a : Option Addr} {cap : Nat} {es : List Ent} (hB : LogB s es) : Calls Try.prog 30 #[refAgg s (.slice a es.length cap)] w fun e w' => e = .returned (.int .i64 (lastP s es)) ∧ Below w.heap.size w w' := by
  have hb := (Below.refl w.heap.size w).alloc (Nat.le_refl _) (.cells (refCells s (.slice a es.length cap)) 32)
  obtain ⟨b0, b1, b2⟩ := hB
  have HL : Hid (lastP s es = s.i + es.length) := Lib.hid rfl
  generalize es.length = n at *
  have s1 : IntKind.i64.wrap (s.i + (n : Int)) = s.i + n := IntWalk.i64_in _ (by omega)
  unfold refAgg
  unfold refCells at hb
  go_enter Try.func30, Try.ntmps30
  go_wp2_with fail
  go_ret
  exact ⟨by rw [HL.out]; rfl, hb⟩
/-- The document's log in memory: its entries; their row is there. -/
structure RefS (w : World) (rv : Value) (es : List Ent) : Prop where
  r : EntR w rv es
  old : ∀ g off n c, rv = .slice (some ⟨g, off, none⟩) n c → g < w.heap.size
theorem RefS.below {w w' : World} {rv : Value} {es : List Ent} (h : RefS w rv es) (hb : Below w.heap.size w w') : RefS w' rv es :=
  ⟨h.r.below hb, fun g off n c e => Nat.lt_of_lt_of_le (h.old g off n c e) hb.size⟩
/-- A log by value in a box. -/
theorem logS_box {w : World} {s : Snp} {rv : Value} {es : List Ent} (h : RefS w rv es) : LogS (w.alloc (.cells (refCells s rv) 32)) w.heap.size s rv es := by
  refine ⟨by simp, ?_, ?_, ?_, ?_, ?_, fun j => ?_, h.r.below ((Below.refl _ w).alloc (Nat.le_refl _) _), fun g off n c hv => ?_⟩
  · simp [refCells]
  · simp [refCells]
  · simp [refCells]
  · simp [refCells]
  · simp [refCells]
  · unfold World.frozen?
    rw [heap_alloc_new]
    simp
  · have := h.old g off n c hv
    omega

set_option maxRecDepth 100000 in
theorem ref_term {w : World} {s : Snp} {rv : Value} {es : List Ent} (i : Int) (h : RefS w rv es) (hB : LogB s es) :
    Calls Try.prog 15 #[refAgg s rv, .int .i64 i] w fun e w' => e = .returned (.tuple #[.int .i64 (termP s es i).1, .bool (termP s es i).2]) ∧ Below w.heap.size w w' := by
  have hbx := (Below.refl w.heap.size w).alloc (Nat.le_refl _) (.cells (refCells s rv) 32)
  have hS := logS_box (s := s) h
  obtain ⟨a, cap, rfl⟩ := h.r.slice
  have hLast := fun w => ref_last (w := w) (a := a) (cap := cap) hB
  have HL := Lib.hid hLast
  have hs1 := hB.1
  have hs2 := hB.2.1
  have hs3 := hB.2.2
  clear hLast
  by_cases h1 : i = s.i
  · have H1 : Hid (termP s es i = (s.t, true)) := Lib.hid (by unfold termP lastP; rw [if_neg (by omega), if_pos h1])
    subst h1
    unfold refAgg
    unfold refCells at hbx
    clear hS h hB
    go_enter Try.func15, Try.ntmps15
    go_wp2_with fail
    go_ret2
    rw [H1.out]
    exact ⟨rfl, hbx⟩
  · have t3 : (i == s.i) = false := beq_eq_false_iff_ne.2 h1
    by_cases h2 : i < s.i
    · have H1 : Hid (termP s es i = (0, false)) := Lib.hid (by unfold termP; rw [if_pos (.inl h2)])
      unfold refAgg
      unfold refCells at hbx
      clear hS h hB h1
      go_enter Try.func15, Try.ntmps15
      go_wp2_with fail
      go_ret2
      rw [H1.out]
      exact ⟨rfl, hbx⟩
    · by_cases h4 : lastP s es < i
      · have H1 : Hid (termP s es i = (0, false)) := Lib.hid (by unfold termP; rw [if_pos (.inr h4)])
        unfold refAgg at HL ⊢
        unfold refCells at hbx
        clear hS h hB h1
        go_enter Try.func15, Try.ntmps15
        go_wp2_with fail
        refine (HL.out _).mono ?_
        rintro e w' ⟨rfl, hb2⟩
        have hb3 := hbx.trans (hb2.mono hbx.size)
        go_wp2_with fail
        go_ret2
        rw [H1.out]
        exact ⟨rfl, hb3⟩
      · obtain ⟨k, hkk⟩ : ∃ k, k = (i - s.i - 1).toNat := ⟨_, rfl⟩
        have hik : i = s.i + 1 + k := by omega
        have hkl : k < es.length := by unfold lastP at h4; omega
        have H1 : Hid (termP s es i = (es[k].t, true)) := Lib.hid (by unfold termP; rw [if_neg (by omega), if_neg h1, ← hkk, List.getElem?_eq_getElem hkl]; rfl)
        have q1 : IntKind.i64.wrap (i - s.i) = (k : Int) + 1 := by rw [IntWalk.i64_in _ (by omega)]; omega
        have q2 : IntKind.i64.wrap ((k : Int) + 1 - 1) = (k : Int) := by rw [IntWalk.i64_in _ (by omega)]; omega
        have hSS := Lib.hid hS
        have hcap : es.length ≤ cap := by
          obtain ⟨a', c', hv', h1, _⟩ := h.r
          simp only [Value.slice.injEq] at hv'
          omega
        obtain ⟨bb, off, rfl, hblt, -⟩ := h.r.cells k hkl
        unfold refAgg at HL ⊢
        clear hS h hB h1 hkk hik
        have hkl' := Lib.hid hkl
        go_enter Try.func15, Try.ntmps15
        go_wp2_with fail
        refine (HL.out _).mono ?_
        rintro e w2 ⟨rfl, hb2⟩
        have hb3 := hbx.trans (hb2.mono hbx.size)
        have hS2 := hSS.out.below hb2
        have c0 := hS2.c0
        have c4 := hS2.c4
        obtain ⟨bb', off', he, -, e0, e1, e2, e3⟩ := hS2.r.cells k hkl
        simp only [Option.some.injEq, Addr.mk.injEq, and_true] at he
        obtain ⟨rfl, rfl⟩ := he
        clear hS2 hSS hbx hb2 HL e0 e2 e3
        go_wp2_with fail
        go_ret2
        rw [H1.out]
        exact ⟨rfl, hb3⟩
end Go.Proofs.Ytikoafjnopkoaaa
namespace Go.Proofs.Ytikoafjnopkoaaa
open Go.ChangeShapes Go.WideShapes Go.ChangeAt Go.RowKit

set_option maxRecDepth 100000 in
theorem ref_fits {w : World} {s : Snp} {rv : Value} {es : List Ent} (i t : Int) (h : RefS w rv es) (hB : LogB s es) :
    Calls Try.prog 17 #[refAgg s rv, .int .i64 i, .int .i64 t] w fun e w' => e = .returned (.bool (fitsP s es i t)) ∧ Below w.heap.size w w' := by
  have hbx := (Below.refl w.heap.size w).alloc (Nat.le_refl _) (.cells (refCells s rv) 32)
  have hT := ref_term i (h.below hbx) hB
  have HF : Hid (fitsP s es i t = ((termP s es i).2 && ((termP s es i).1 == t))) := Lib.hid rfl
  obtain ⟨a, cap, rfl⟩ := h.r.slice
  have HT := Lib.hid hT
  unfold refAgg refCells at HT
  unfold refCells at hbx
  unfold refAgg
  clear h hB hT
  go_enter Try.func17, Try.ntmps17
  go_wp2_with fail
  refine HT.out.mono ?_
  rintro e w' ⟨rfl, hb⟩
  have hb := hbx.trans (hb.mono hbx.size)
  clear HT hbx
  generalize termP s es i = r at *
  obtain ⟨x, y⟩ := r
  dsimp only at HF ⊢
  cases y
  · go_wp2_with fail
    go_ret
    exact ⟨by rw [HF.out]; rfl, hb⟩
  · go_wp2_with fail
    go_ret
    exact ⟨by rw [HF.out]; rfl, hb⟩
set_option maxRecDepth 100000 in
theorem ref_end {w : World} {s : Snp} {rv : Value} {es : List Ent} (h : RefS w rv es) (hB : LogB s es) :
    Calls Try.prog 32 #[refAgg s rv] w fun e w' => e = .returned (.int .i64 (termP s es (lastP s es)).1) ∧ Below w.heap.size w w' := by
  have hbx := (Below.refl w.heap.size w).alloc (Nat.le_refl _) (.cells (refCells s rv) 32)
  have hH := Lib.hid (h.below hbx)
  have hB' := Lib.hid hB
  have hR := Lib.hid h
  obtain ⟨a, cap, rfl⟩ := h.r.slice
  have HL := Lib.hid fun w => ref_last (w := w) (a := a) (cap := cap) hB
  unfold refAgg at HL
  unfold refCells at hbx hH
  unfold refAgg
  clear h hB
  go_enter Try.func32, Try.ntmps32
  go_wp2_with fail
  have hS := logS_box (s := s) hR.out
  unfold refCells at hS
  generalize hw1 : w.alloc _ = w1 at *
  have hbl : w.heap.size < w1.heap.size := hS.lt
  clear hw1
  go_cut [3] (fun x wx => x = .int .i64 (termP s es (lastP s es)).1 ∧ Below w1.heap.size w1 wx)
  case first =>
    refine wp_region_sw (by rfl) (by kernel_rfl) (fun k => match k with | 2 => some (fun v _ => v = .int .i64 (lastP s es)) | 3 => some (fun v _ => v = .tuple #[.int .i64 (termP s es (lastP s es)).1, .bool (termP s es (lastP s es)).2]) | _ => none) ?_ (fun vals => ?_)
    · intro k φ hk v w1 w2 h1 h2
      match k, hk with
      | 2, hk => obtain rfl := Option.some.inj hk; exact h1
      | 3, hk => obtain rfl := Option.some.inj hk; exact h1
    iterate 2
      refine sw_at (refAgg s (.slice a es.length cap)) rfl rfl (fun wz hz hH => ?_) (fun K hK => ?_)
      · have hZ := hS.below hz
        have c0 := hZ.c0
        have c1 := hZ.c1
        have c2 := hZ.c2
        have c3 := hZ.c3
        have c4 := hZ.c4
        clear hZ
        unfold refAgg
        go_simp
      go_simp; refine hK _ ?_; clear hK K
    refine sw_call _ rfl rfl (fun wz hz hH => ?_) (fun K hK => ?_)
    · unfold refAgg
      go_simp
      go_at_call 30
      refine (HL.out _).mono ?_
      rintro e w' ⟨rfl, hb⟩
      exact ⟨_, rfl, rfl, hb⟩
    go_simp; refine hK _ ?_; clear hK K
    refine sw_call _ rfl rfl (fun wz hz hH => ?_) (fun K hK => ?_)
    · have h3 := hH _ (List.Mem.head _) rfl
      dsimp only at h3
      rw [h3]
      have hT := ref_term (lastP s es) (hR.out.below (hbx.trans (hz.mono hbx.size))) hB'.out
      unfold refAgg at hT ⊢
      go_simp
      go_at_call 15
      refine hT.mono ?_
      rintro e w' ⟨rfl, hb⟩
      exact ⟨_, rfl, rfl, hb⟩
    go_simp; refine hK _ ?_; clear hK K
    refine sw_at (.tuple #[.int .i64 (termP s es (lastP s es)).1, .bool (termP s es (lastP s es)).2]) rfl rfl (fun wz hz hH => ?_) (fun K hK => ?_)
    · have h3 := hH _ (List.Mem.head _) rfl
      dsimp only at h3
      rw [h3]
      go_simp
    go_simp; refine hK _ ?_; clear hK K
    iterate 4 (refine sw_pure (by rfl) (fun K hK => ?_); go_simp; refine hK _ ?_; clear hK K)
    refine sw_done (fun wz hz hH => ?_)
    go_wp2_with fail
    go_meet
    exact ⟨rfl, hz⟩
  case rest =>
    obtain ⟨rfl, hz⟩ := hcut
    go_wp2_with fail
    go_ret
    exact ⟨rfl, hbx.trans (hz.mono hbx.size)⟩

set_option maxRecDepth 100000 in
theorem ref_newer {w : World} {s : Snp} {rv : Value} {es : List Ent} (i t : Int) (h : RefS w rv es) (hB : LogB s es) :
    Calls Try.prog 19 #[refAgg s rv, .int .i64 i, .int .i64 t] w fun e w' => e = .returned (.bool (newerP s es i t)) ∧ Below w.heap.size w w' := by
  have HF : Hid (newerP s es i t = (decide ((termP s es (lastP s es)).1 < t) || (t == (termP s es (lastP s es)).1 && decide (lastP s es ≤ i)))) := Lib.hid rfl
  have hbx := (Below.refl w.heap.size w).alloc (Nat.le_refl _) (.cells (refCells s rv) 32)
  have hS := logS_box (s := s) h
  have hR := Lib.hid h
  have hB' := Lib.hid hB
  obtain ⟨a, cap, rfl⟩ := h.r.slice
  have HL := Lib.hid fun w => ref_last (w := w) (a := a) (cap := cap) hB
  have HE := Lib.hid (ref_end (s := s) (h.below hbx) hB)
  unfold refAgg refCells at HE
  unfold refAgg at HL
  unfold refCells at hbx hS
  unfold refAgg
  have hbl := hS.lt
  clear h hB
  go_enter Try.func19, Try.ntmps19
  go_wp2_with fail
  refine HE.out.mono ?_
  rintro e w2 ⟨rfl, hb2⟩
  have hb3 := hbx.trans (hb2.mono hbx.size)
  have hS2 := hS.below hb2
  have HE2 := Lib.hid (ref_end (s := s) (hR.out.below hb3) hB'.out)
  unfold refAgg at HE2
  have c0 := hS2.c0
  have c1 := hS2.c1
  have c2 := hS2.c2
  have c3 := hS2.c3
  have c4 := hS2.c4
  have hbl2 := hS2.lt
  clear HE hbx hb2 hS
  by_cases h1 : (termP s es (lastP s es)).1 < t
  · have t1 : decide ((termP s es (lastP s es)).1 < t) = true := decide_eq_true h1
    go_wp2_with fail
    go_ret
    exact ⟨by rw [HF.out, t1]; rfl, hb3⟩
  · have t1 : decide ((termP s es (lastP s es)).1 < t) = false := decide_eq_false h1
    go_wp2_with fail
    refine HE2.out.mono ?_
    rintro e w3 ⟨rfl, hb4⟩
    have hb5 := hb3.trans (hb4.mono hb3.size)
    have hS3 := hS2.below hb4
    clear c0 c1 c2 c3 c4
    have c0 := hS3.c0
    have c1 := hS3.c1
    have c2 := hS3.c2
    have c3 := hS3.c3
    have c4 := hS3.c4
    clear hS2 hb3 hb4 HE2
    by_cases h2 : t = (termP s es (lastP s es)).1
    · have t2 : (t == (termP s es (lastP s es)).1) = true := by rw [← h2]; exact beq_self_eq_true _
      have H2 := Lib.hid h2
      clear h2 h1
      go_wp2_with fail
      refine (HL.out _).mono ?_
      rintro e w4 ⟨rfl, hb6⟩
      have hb7 := hb5.trans (hb6.mono hb5.size)
      clear hS3 hb5 hb6
      go_wp2_with fail
      go_ret
      exact ⟨by rw [HF.out, t1, t2]; rfl, hb7⟩
    · have t2 : (t == (termP s es (lastP s es)).1) = false := beq_eq_false_iff_ne.2 h2
      clear h2 h1 hS3
      go_wp2_with fail
      go_ret
      exact ⟨by rw [HF.out, t1, t2]; rfl, hb5⟩
end Go.Proofs.Ytikoafjnopkoaaa
namespace Go.Proofs.Ytikoafjnopkoaaa
open Go.ChangeShapes Go.WideShapes Go.ChangeAt Go.RowKit

set_option maxRecDepth 100000 in
set_option maxHeartbeats 1000000 in
theorem ref_get {w : World} {s : Snp} {rv : Value} {es : List Ent} (i n : Int) (h : RefS w rv es) (hB : LogB s es) :
    Calls Try.prog 22 #[refAgg s rv, .int .i64 i, .int .i64 n] w fun e w' => RetEnts w (getP s es i n) e w' := by
  have hbx := (Below.refl w.heap.size w).alloc (Nat.le_refl _) (.cells (refCells s rv) 32)
  have hS := logS_box (s := s) h
  have hRR := Lib.hid h
  obtain ⟨a, cap, rfl⟩ := h.r.slice
  have HF := Lib.hid fun w => ref_first (w := w) (a := a) (n := es.length) (cap := cap) hB.1 hB.2.1
  have HL := Lib.hid fun w => ref_last (w := w) (a := a) (cap := cap) hB
  unfold refAgg at HF HL ⊢
  unfold refCells at hbx hS
  have hs1 := hB.1
  have hs2 := hB.2.1
  have hs3 := hB.2.2
  have hbl := hS.lt
  have hcap : es.length ≤ cap ∧ cap ≤ 9223372036854775807 := by
    obtain ⟨a', c', hv', h1, h2, _⟩ := h.r
    simp only [Value.slice.injEq] at hv'
    omega
  obtain ⟨hcap, hcm⟩ := hcap
  by_cases h1 : i < s.i + 1
  · have H1 : Hid (getP s es i n = []) := Lib.hid (by unfold getP; rw [if_pos (.inl h1)])
    clear hS h hB
    go_enter Try.func22, Try.ntmps22
    go_wp2_with fail
    refine (HF.out _).mono ?_
    rintro e w' ⟨rfl, hb2⟩
    have hb3 := hbx.trans (hb2.mono hbx.size)
    clear hb2 hbx
    go_wp2_with fail
    go_ret
    exact ⟨_, rfl, by rw [H1.out]; exact EntO.nil _ _, hb3⟩
  · have hno : lastP s es < i ∨ n < 1 ∨ (i ≤ lastP s es ∧ 1 ≤ n) := by omega
    go_enter Try.func22, Try.ntmps22
    go_wp2_with fail
    refine (HF.out _).mono ?_
    rintro e w2 ⟨rfl, hb2⟩
    have hb3 := hbx.trans (hb2.mono hbx.size)
    have hS2 := hS.below hb2
    clear hb2 hbx hS h hB
    have c0 := hS2.c0
    have c1 := hS2.c1
    have c2 := hS2.c2
    have c3 := hS2.c3
    have c4 := hS2.c4
    go_wp2_with fail
    refine (HL.out _).mono ?_
    rintro e w3 ⟨rfl, hb4⟩
    have hb5 := hb3.trans (hb4.mono hb3.size)
    have hS3 := hS2.below hb4
    clear hb3 hb4 hS2 c0 c1 c2 c3 c4
    by_cases h2 : lastP s es < i
    · have H1 : Hid (getP s es i n = []) := Lib.hid (by unfold getP; rw [if_pos (.inr (.inl h2))])
      go_wp2_with fail
      go_ret
      exact ⟨_, rfl, by rw [H1.out]; exact EntO.nil _ _, hb5⟩
    · by_cases h3 : n < 1
      · have H1 : Hid (getP s es i n = []) := Lib.hid (by unfold getP; rw [if_pos (.inr (.inr h3))])
        go_wp2_with fail
        go_ret
        exact ⟨_, rfl, by rw [H1.out]; exact EntO.nil _ _, hb5⟩
      · obtain ⟨k, hkk⟩ : ∃ k, k = (i - (s.i + 1)).toNat := ⟨_, rfl⟩
        have hik : i = s.i + 1 + k := by omega
        have hkl : k < es.length := by unfold lastP at h2; omega
        obtain ⟨m, rfl⟩ := Int.eq_ofNat_of_zero_le (show 0 ≤ n by omega)
        have H1 : Hid (getP s es i m = (es.drop k).take m) := Lib.hid (by unfold getP; rw [if_neg (by omega), ← hkk]; rfl)
        have hr := hS3.r
        obtain ⟨bb, off, rfl, hblt, -⟩ := hr.cells k hkl
        have hd := hr.drop k (by omega)
        rw [if_neg (by omega)] at hd
        have hd : EntR w3 (.slice (some ⟨bb, off + k * 4, none⟩) (es.length - k) (cap - k)) (es.drop k) := by simpa [Addr.add_lit] using hd
        have HI := Lib.hid hik
        have HLk := Lib.hid hkl
        clear hkk hr hik hno
        go_upto_region 3 with fail
        rename World => w3
        have l1 := hS3.lt
        go_cut [7] (fun x wx => x = .slice (some ⟨bb, off + k * 4, none⟩) (es.length - k) (cap - k) ∧ Below w3.heap.size w3 wx)
        case first =>
          have hi := HI.out
          have q1 : IntKind.i64.wrap (i - (s.i + 1)) = (k : Int) := by rw [IntWalk.i64_in _ (by omega)]; omega
          have u1 : k ≤ es.length := by omega
          have u2 : ¬ cap = k := by omega
          clear hi
          refine wp_region_sw (by rfl) (by kernel_rfl) (fun k => match k with | 4 => some (fun v _ => v = .int .i64 (s.i + 1)) | _ => none) ?_ (fun vals => ?_)
          · intro k φ hk v w1 w2 h1 h2
            match k, hk with
            | 4, hk => obtain rfl := Option.some.inj hk; exact h1
          iterate 1 (refine sw_pure (by rfl) (fun K hK => ?_); go_simp; refine hK _ ?_; clear hK K)
          refine sw_at (.slice (some ⟨bb, off, none⟩) es.length cap) rfl rfl (fun wz hz hH => ?_) (fun K hK => ?_)
          · have h2 := (hz.cell (p := ⟨w.heap.size, 4, none⟩) l1).trans hS3.c4
            go_simp
          go_simp; refine hK _ ?_; clear hK K
          iterate 1 (refine sw_pure (by rfl) (fun K hK => ?_); go_simp; refine hK _ ?_; clear hK K)
          refine sw_at (refAgg s (.slice (some ⟨bb, off, none⟩) es.length cap)) rfl rfl (fun wz hz hH => ?_) (fun K hK => ?_)
          · have hZ := hS3.below hz
            have c0 := hZ.c0
            have c1 := hZ.c1
            have c2 := hZ.c2
            have c3 := hZ.c3
            have c4 := hZ.c4
            clear hZ
            unfold refAgg
            go_simp
          go_simp; refine hK _ ?_; clear hK K
          refine sw_call _ rfl rfl (fun wz hz hH => ?_) (fun K hK => ?_)
          · unfold refAgg
            go_simp
            go_at_call 31
            refine (HF.out _).mono ?_
            rintro e w' ⟨rfl, hb⟩
            exact ⟨_, rfl, rfl, hb⟩
          go_simp; refine hK _ ?_; clear hK K
          refine sw_at (.int .i64 k) rfl rfl (fun wz hz hH => ?_) (fun K hK => ?_)
          · have h3 := hH _ (List.Mem.head _) rfl
            dsimp only at h3
            rw [h3]
            go_simp
          go_simp; refine hK _ ?_; clear hK K
          refine sw_at (.slice (some ⟨bb, off + k * 4, none⟩) (es.length - k) (cap - k)) rfl rfl (fun wz hz hH => ?_) (fun K hK => ?_)
          · go_simp
          go_simp; refine hK _ ?_; clear hK K
          iterate 1 (refine sw_pure (by rfl) (fun K hK => ?_); go_simp; refine hK _ ?_; clear hK K)
          refine sw_done (fun wz hz hH => ?_)
          go_wp2_with fail
          go_meet
          exact ⟨rfl, hz⟩
        case rest =>
          obtain ⟨rfl, hz⟩ := hcut
          have hdz := hd.below hz
          have hbz := hb5.trans (hz.mono hb5.size)
          clear hz hd hb5 hS3
          have hlen : (es.drop k).length = es.length - k := by rw [List.length_drop]
          by_cases hm : m ≤ es.length - k
          · have hT := hdz.take m (cap - k) (by rw [hlen]; exact hm) (by omega) (by omega)
            have HLE := Lib.hid hlen
            clear hlen
            have q1 : min (m : Int) ((es.length - k : Nat) : Int) = m := by omega
            have hTl : ((es.drop k).take m).length ≤ 200 := by rw [List.length_take]; omega
            go_wp2_with (at_builtin; refine wpList_append_ents 24 w.heap.size _ Try.underlying24 info_ent rfl rfl _ _ rfl (EntO.nil _ _) hT rfl rfl (by simp only [List.length_nil]; omega) hbz.size ?_)
            intro v' w' ho hg hk'
            have hby := hbz.grown hg hbz.size (fun k hk => by cases hk)
            clear hT hg hk'
            go_wp2_with fail
            go_ret
            exact ⟨_, rfl, by rw [H1.out]; exact ho, hby⟩
          · have q1 : min (m : Int) ((es.length - k : Nat) : Int) = ((es.length - k : Nat) : Int) := by omega
            have H2 : Hid ((es.drop k).take m = es.drop k) := Lib.hid (List.take_of_length_le (by omega))
            have hTl : (es.drop k).length ≤ 200 := by omega
            have hm3 : es.length - k < m := by omega
            clear hlen
            go_wp2_with (at_builtin; refine wpList_append_ents 24 w.heap.size _ Try.underlying24 info_ent rfl rfl _ _ rfl (EntO.nil _ _) hdz rfl rfl (by simp only [List.length_nil]; omega) hbz.size ?_)
            intro v' w' ho hg hk'
            have hby := hbz.grown hg hbz.size (fun k hk => by cases hk)
            clear hdz hg hk'
            go_wp2_with fail
            go_ret
            exact ⟨_, rfl, by rw [H1.out, H2.out]; exact ho, hby⟩
end Go.Proofs.Ytikoafjnopkoaaa
