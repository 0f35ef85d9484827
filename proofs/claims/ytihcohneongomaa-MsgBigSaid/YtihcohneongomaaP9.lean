/-
  No claim by itself: what the laws on logs make of their arguments: Snap, Entries. | plain facts on logs: rows, Put of what is there. | how a snapshot and a slice of entries that came in are opened. | the document's EqEntry, EqEntries, EqSnap: of what is the same they say so. | a snapshot in a block of its own. | a snapshot in a box, entries behind a change elsewhere, what Get tells at a place. | which messages may be, told by the program. No condition.
-/
import Derived.Test.YtihcohneongomaaP8
import Derived.Test.YtihcohneongomaaP3
import Derived.Test.YtihcohneongomaaP7
import Derived.Lib.SmallJoins
import Derived.Test.YtihcohneongomaaP4
import Derived.Deep.QuietTactic
import Derived.Deep.DeepCutAuto
import Derived.Deep.Cut
import Derived.WalkSmall
import Derived.Test.YtihcohneongomaaP2
namespace Go.Proofs.Ytihcohneongomaa
open Go.ChangeShapes Go.WideShapes Go.ChangeAt Go.RowKit

def takeB (s : ByteArray) (n : Nat) : ByteArray := ⟨(s.data.toList.take n).toArray⟩
def cutSnap (s : Snp) : Snp := ⟨s.i, s.t, takeB s.c 60, takeB s.d 100⟩
def cutEnt (e : Ent) : Ent := ⟨e.i, e.t, e.k, takeB e.d 60⟩

set_option maxRecDepth 100000 in
set_option maxHeartbeats 1000000 in
theorem law_snap (s : Snp) (w : World) (h1 : s.c.size ≤ 9223372036854775807) (h2 : s.d.size ≤ 9223372036854775807) :
    Calls Try.prog 16 #[snpAgg s] w fun e w' => e = .returned (snpAgg (cutSnap s)) ∧ Below w.heap.size w w' := by
  have hcell : ∀ j, ((w.alloc (.cells #[.int .i64 s.i, .int .i64 s.t, .string s.c, .string s.d] 23)).alloc (.cells #[.int .i64 0, .int .i64 0, .string ⟨#[]⟩, .string ⟨#[]⟩] 23)).cell? ⟨w.heap.size, j, none⟩ = #[.int .i64 s.i, .int .i64 s.t, .string s.c, .string s.d][j]? := fun j => by
    have h2 := (Below.refl (w.alloc (.cells #[.int .i64 s.i, .int .i64 s.t, .string s.c, .string s.d] 23)).heap.size (w.alloc (.cells #[.int .i64 s.i, .int .i64 s.t, .string s.c, .string s.d] 23))).alloc (Nat.le_refl _) (.cells #[.int .i64 0, .int .i64 0, .string ⟨#[]⟩, .string ⟨#[]⟩] 23)
    rw [h2.cell (p := ⟨w.heap.size, j, none⟩) (by simp), World.cell?_alloc_new]
  have hfro : ∀ j, ((w.alloc (.cells #[.int .i64 s.i, .int .i64 s.t, .string s.c, .string s.d] 23)).alloc (.cells #[.int .i64 0, .int .i64 0, .string ⟨#[]⟩, .string ⟨#[]⟩] 23)).frozen? ⟨w.heap.size, j, none⟩ = false := fun j => by
    have h2 := (Below.refl (w.alloc (.cells #[.int .i64 s.i, .int .i64 s.t, .string s.c, .string s.d] 23)).heap.size (w.alloc (.cells #[.int .i64 s.i, .int .i64 s.t, .string s.c, .string s.d] 23))).alloc (Nat.le_refl _) (.cells #[.int .i64 0, .int .i64 0, .string ⟨#[]⟩, .string ⟨#[]⟩] 23)
    rw [h2.frozen (p := ⟨w.heap.size, j, none⟩) (by simp), World.frozen?_alloc_new]
  have hcell2 : ∀ j, ((w.alloc (.cells #[.int .i64 s.i, .int .i64 s.t, .string s.c, .string s.d] 23)).alloc (.cells #[.int .i64 0, .int .i64 0, .string ⟨#[]⟩, .string ⟨#[]⟩] 23)).cell? ⟨w.heap.size + 1, j, none⟩ = #[.int .i64 0, .int .i64 0, .string ⟨#[]⟩, .string ⟨#[]⟩][j]? := fun j => by
    have := World.cell?_alloc_new (w.alloc (.cells #[.int .i64 s.i, .int .i64 s.t, .string s.c, .string s.d] 23)) #[.int .i64 0, .int .i64 0, .string ⟨#[]⟩, .string ⟨#[]⟩] 23 j
    rwa [show (w.alloc (.cells #[.int .i64 s.i, .int .i64 s.t, .string s.c, .string s.d] 23)).heap.size = w.heap.size + 1 from by simp] at this
  have hfro2 : ∀ j, ((w.alloc (.cells #[.int .i64 s.i, .int .i64 s.t, .string s.c, .string s.d] 23)).alloc (.cells #[.int .i64 0, .int .i64 0, .string ⟨#[]⟩, .string ⟨#[]⟩] 23)).frozen? ⟨w.heap.size + 1, j, none⟩ = false := fun j => by
    have := World.frozen?_alloc_new (w.alloc (.cells #[.int .i64 s.i, .int .i64 s.t, .string s.c, .string s.d] 23)) #[.int .i64 0, .int .i64 0, .string ⟨#[]⟩, .string ⟨#[]⟩] 23 j
    rwa [show (w.alloc (.cells #[.int .i64 s.i, .int .i64 s.t, .string s.c, .string s.d] 23)).heap.size = w.heap.size + 1 from by simp] at this
  have hb1 : Below w.heap.size w ((w.alloc (.cells #[.int .i64 s.i, .int .i64 s.t, .string s.c, .string s.d] 23)).alloc (.cells #[.int .i64 0, .int .i64 0, .string ⟨#[]⟩, .string ⟨#[]⟩] 23)) := ((Below.refl w.heap.size w).alloc (Nat.le_refl _) _).alloc (by simp) _
  have hsz : w.heap.size + 1 < ((w.alloc (.cells #[.int .i64 s.i, .int .i64 s.t, .string s.c, .string s.d] 23)).alloc (.cells #[.int .i64 0, .int .i64 0, .string ⟨#[]⟩, .string ⟨#[]⟩] 23)).heap.size := by simp
  unfold snpAgg
  have HC := Lib.hid hcell
  have HF := Lib.hid hfro
  have HC2 := Lib.hid hcell2
  have HF2 := Lib.hid hfro2
  clear hcell hfro hcell2 hfro2
  go_enter Try.func16, Try.ntmps16
  go_upto_region 1 with fail
  generalize (w.alloc (.cells #[.int .i64 s.i, .int .i64 s.t, .string s.c, .string s.d] 23)).alloc (.cells #[.int .i64 0, .int .i64 0, .string ⟨#[]⟩, .string ⟨#[]⟩] 23) = w1 at *
  generalize hN : w.heap.size = N at *
  have hlt : N < w1.heap.size := by omega
  have c0 := HC.out 0
  have c1 := HC.out 1
  have c2 := HC.out 2
  have c3 := HC.out 3
  simp only [List.getElem?_toArray, List.getElem?_cons_zero, List.getElem?_cons_succ] at c0 c1 c2 c3
  go_cut [] (fun wx => wx.cell? ⟨N, 0, none⟩ = some (.int .i64 s.i) ∧ wx.cell? ⟨N, 1, none⟩ = some (.int .i64 s.t) ∧ wx.cell? ⟨N, 2, none⟩ = some (.string (takeB s.c 60)) ∧ wx.cell? ⟨N, 3, none⟩ = some (.string (takeB s.d 100)) ∧ Keeps [N] w1 wx)
  case first =>
    refine wp_region_tail 7 (by rfl) (by kernel_rfl) (fun k => match k with | 2 => some (fun v _ => v = .string (takeB s.c 60)) | 5 => some (fun v _ => v = .string (takeB s.d 100)) | _ => none) ?_ (fun vals => ?_)
    · intro k φ hk v w1 w2 h1 h2
      match k, hk with
      | 2, hk => obtain rfl := Option.some.inj hk; exact h1
      | 5, hk => obtain rfl := Option.some.inj hk; exact h1
    dsimp only [List.take, List.drop]
    iterate 1 ((with_reducible refine sw_pure ?_ (fun K hK => ?_)); (· rfl); go_simp; with_reducible refine hK _ ?_; clear hK K)
    refine sw_at (.string s.c) rfl rfl (fun wz hz' hH => ?_) (fun K hK => ?_)
    · have h2 := (hz'.cell (p := ⟨N, 2, none⟩) hlt).trans c2
      go_simp
    go_simp; refine hK _ ?_; clear hK K
    refine sw_call _ rfl rfl (fun wz hz' hH => ?_) (fun K hK => ?_)
    · go_simp
      go_at_call 52
      refine (cut_any s.c 60 _ (by decide) h1).mono ?_
      rintro e w' ⟨rfl, rfl⟩
      exact ⟨_, rfl, rfl, Below.refl _ _⟩
    go_simp; refine hK _ ?_; clear hK K
    iterate 1 ((with_reducible refine sw_pure ?_ (fun K hK => ?_)); (· rfl); go_simp; with_reducible refine hK _ ?_; clear hK K)
    refine sw_at (.string s.d) rfl rfl (fun wz hz' hH => ?_) (fun K hK => ?_)
    · have h2 := (hz'.cell (p := ⟨N, 3, none⟩) hlt).trans c3
      go_simp
    go_simp; refine hK _ ?_; clear hK K
    refine sw_call _ rfl rfl (fun wz hz' hH => ?_) (fun K hK => ?_)
    · go_simp
      go_at_call 52
      refine (cut_any s.d 100 _ (by decide) h2).mono ?_
      rintro e w' ⟨rfl, rfl⟩
      exact ⟨_, rfl, rfl, Below.refl _ _⟩
    go_simp; refine hK _ ?_; clear hK K
    iterate 1 ((with_reducible refine sw_pure ?_ (fun K hK => ?_)); (· rfl); go_simp; with_reducible refine hK _ ?_; clear hK K)
    refine sw_done (fun wz hz' hH => ?_)
    have e5 := hH _ (List.Mem.head _)
    have e2 := hH _ (List.Mem.tail _ (List.Mem.head _))
    dsimp only at e5 e2
    have g0 := (hz'.cell (p := ⟨N, 0, none⟩) hlt).trans c0
    have g1 := (hz'.cell (p := ⟨N, 1, none⟩) hlt).trans c1
    have g2 := (hz'.cell (p := ⟨N, 2, none⟩) hlt).trans c2
    have g3 := (hz'.cell (p := ⟨N, 3, none⟩) hlt).trans c3
    have f2 := (hz'.frozen (p := ⟨N, 2, none⟩) hlt).trans (HF.out 2)
    have f3 := (hz'.frozen (p := ⟨N, 3, none⟩) hlt).trans (HF.out 3)
    rw [e5, e2]
    unfold tailQ
    have hz2 := Lib.hid hz'
    clear hH e5 e2 c0 c1 c2 c3
    go_wp2_with fail
    go_meet
    refine ⟨?_, ?_, ?_, ?_, ((Keeps.of_below hz2.out).setCell (.inl (by simp)) _).setCell (.inl (by simp)) _⟩
    · rw [World.cell?_setCell_other (h := by simp), World.cell?_setCell_other (h := by simp)]; exact g0
    · rw [World.cell?_setCell_other (h := by simp), World.cell?_setCell_other (h := by simp)]; exact g1
    · rw [World.cell?_setCell_other (h := by simp)]; exact World.cell?_setCell_same _ _ _ g2
    · exact World.cell?_setCell_same _ _ _ (show World.cell? _ _ = some (.string s.d) from by rw [World.cell?_setCell_other (h := by simp)]; exact g3)
  case rest =>
    obtain ⟨d0, d1, d2, d3, hk⟩ := hcut
    have e0 := HC2.out 0
    have e1 := HC2.out 1
    have e2 := HC2.out 2
    have e3 := HC2.out 3
    simp only [List.getElem?_toArray, List.getElem?_cons_zero, List.getElem?_cons_succ] at e0 e1 e2 e3
    have e0 := (hk.cell (p := ⟨N + 1, 0, none⟩) hsz (by simp)).trans e0
    have e1 := (hk.cell (p := ⟨N + 1, 1, none⟩) hsz (by simp)).trans e1
    have e2 := (hk.cell (p := ⟨N + 1, 2, none⟩) hsz (by simp)).trans e2
    have e3 := (hk.cell (p := ⟨N + 1, 3, none⟩) hsz (by simp)).trans e3
    have f0 := (hk.frozen (p := ⟨N + 1, 0, none⟩) hsz (by simp)).trans (HF2.out 0)
    have f1 := (hk.frozen (p := ⟨N + 1, 1, none⟩) hsz (by simp)).trans (HF2.out 1)
    have f2 := (hk.frozen (p := ⟨N + 1, 2, none⟩) hsz (by simp)).trans (HF2.out 2)
    have f3 := (hk.frozen (p := ⟨N + 1, 3, none⟩) hsz (by simp)).trans (HF2.out 3)
    have hbz : Below N w wc := by subst hN; exact hb1.trans (hk.below (B := w.heap.size) (by simp) (by omega))
    have HB := Lib.hid hbz
    clear hk c0 c1 c2 c3 hb1 hbz
    go_wp2_with fail
    have hbf : Below N w ((((wc.setCell ⟨N + 1, 0, none⟩ (.int .i64 s.i)).setCell ⟨N + 1, 1, none⟩ (.int .i64 s.t)).setCell ⟨N + 1, 2, none⟩ (.string (takeB s.c 60))).setCell ⟨N + 1, 3, none⟩ (.string (takeB s.d 100))) :=
      (((HB.out.setCell (by show N ≤ N + 1; omega) _).setCell (by show N ≤ N + 1; omega) _).setCell (by show N ≤ N + 1; omega) _).setCell (by show N ≤ N + 1; omega) _
    have k0 : ((((wc.setCell ⟨N + 1, 0, none⟩ (.int .i64 s.i)).setCell ⟨N + 1, 1, none⟩ (.int .i64 s.t)).setCell ⟨N + 1, 2, none⟩ (.string (takeB s.c 60))).setCell ⟨N + 1, 3, none⟩ (.string (takeB s.d 100))).cell? ⟨N + 1, 0, none⟩ = some (.int .i64 s.i) := by
      rw [World.cell?_setCell_other (h := by simp), World.cell?_setCell_other (h := by simp), World.cell?_setCell_other (h := by simp)]
      exact World.cell?_setCell_same _ _ _ e0
    have k1 : ((((wc.setCell ⟨N + 1, 0, none⟩ (.int .i64 s.i)).setCell ⟨N + 1, 1, none⟩ (.int .i64 s.t)).setCell ⟨N + 1, 2, none⟩ (.string (takeB s.c 60))).setCell ⟨N + 1, 3, none⟩ (.string (takeB s.d 100))).cell? ⟨N + 1, 1, none⟩ = some (.int .i64 s.t) := by
      rw [World.cell?_setCell_other (h := by simp), World.cell?_setCell_other (h := by simp)]
      exact World.cell?_setCell_same _ _ _ (show World.cell? _ _ = some (.int .i64 0) from by rw [World.cell?_setCell_other (h := by simp)]; exact e1)
    have k2 : ((((wc.setCell ⟨N + 1, 0, none⟩ (.int .i64 s.i)).setCell ⟨N + 1, 1, none⟩ (.int .i64 s.t)).setCell ⟨N + 1, 2, none⟩ (.string (takeB s.c 60))).setCell ⟨N + 1, 3, none⟩ (.string (takeB s.d 100))).cell? ⟨N + 1, 2, none⟩ = some (.string (takeB s.c 60)) := by
      rw [World.cell?_setCell_other (h := by simp)]
      exact World.cell?_setCell_same _ _ _ (show World.cell? _ _ = some (.string ⟨#[]⟩) from by rw [World.cell?_setCell_other (h := by simp), World.cell?_setCell_other (h := by simp)]; exact e2)
    have k3 : ((((wc.setCell ⟨N + 1, 0, none⟩ (.int .i64 s.i)).setCell ⟨N + 1, 1, none⟩ (.int .i64 s.t)).setCell ⟨N + 1, 2, none⟩ (.string (takeB s.c 60))).setCell ⟨N + 1, 3, none⟩ (.string (takeB s.d 100))).cell? ⟨N + 1, 3, none⟩ = some (.string (takeB s.d 100)) :=
      World.cell?_setCell_same _ _ _ (show World.cell? _ _ = some (.string ⟨#[]⟩) from by rw [World.cell?_setCell_other (h := by simp), World.cell?_setCell_other (h := by simp), World.cell?_setCell_other (h := by simp)]; exact e3)
    generalize (((wc.setCell ⟨N + 1, 0, none⟩ (.int .i64 s.i)).setCell ⟨N + 1, 1, none⟩ (.int .i64 s.t)).setCell ⟨N + 1, 2, none⟩ (.string (takeB s.c 60))).setCell ⟨N + 1, 3, none⟩ (.string (takeB s.d 100)) = W at *
    exact bodyPost_ret (v := snpAgg (cutSnap s)) (by simp [results, Try.results16, go_sem, k0, k1, k2, k3, snpAgg, cutSnap]) rfl ⟨rfl, by rw [hN]; exact hbf⟩

def cutEnts (es : List Ent) (n : Nat) : List Ent := (es.take n).map cutEnt
theorem cutEnts_snoc (es : List Ent) (k : Nat) (h : k < es.length) : cutEnts es (k + 1) = cutEnts es k ++ [cutEnt es[k]] := by
  unfold cutEnts
  rw [List.take_succ_eq_append_getElem h, List.map_append]
  rfl

set_option maxRecDepth 100000 in
set_option maxHeartbeats 1000000 in
theorem law_entries (v : Value) (es : List Ent) (n : Nat) (w : World) (h : EntR w v es) (hl : es.length ≤ 9223372036854775807) (hn : n ≤ 1000) (hd : ∀ e ∈ es, e.d.size ≤ 9223372036854775807) :
    Calls Try.prog 17 #[v, .int .i64 n] w fun e w' => RetEnts w (cutEnts es n) e w' := by
  obtain ⟨a, cap, rfl⟩ := h.slice
  have HR := Lib.hid h
  have HD := Lib.hid hd
  clear h hd
  go_enter Try.func17, Try.ntmps17
  go_wp2_with fail
  go_loopw [5, 6] (fun s i wr => ∃ k : Nat, k ≤ es.length ∧ k ≤ n ∧ i = .int .i64 k ∧ EntO wr w.heap.size s (cutEnts es k) ∧ Below w.heap.size w wr) (fun _ i _ => es.length - (intOf i).toNat)
  case atStart => exact ⟨0, by omega, by omega, rfl, EntO.nil _ _, Below.refl _ _⟩
  case round =>
    obtain ⟨k, hk, hkn, rfl, ho, hbel⟩ := hrel
    by_cases hlt : k < es.length
    · by_cases hlt2 : k < n
      · have hrr := HR.out.below hbel
        obtain ⟨b, off, rfl, hblt, c0, c1, c2, c3⟩ := hrr.cells k hlt
        have HU := Lib.hid (cutEnts_snoc es k hlt)
        have hed := HD.out es[k] (List.getElem_mem hlt)
        have hcl : (cutEnts es k).length ≤ 1000 := by unfold cutEnts; rw [List.length_map, List.length_take]; omega
        clear hrr
        generalize es[k] = e at *
        obtain ⟨ei, et, ek, ed⟩ := e
        dsimp only at c0 c1 c2 c3 hed
        generalize cutEnts es k = Y at *
        go_wp2_with fail
        refine (cut_any ed 60 _ (by decide) hed).mono ?_
        rintro e w' ⟨rfl, rfl⟩
        rw [show (⟨(ed.data.toList.take 60).toArray⟩ : ByteArray) = takeB ed 60 from rfl]
        have hE := EntR.fresh (wr.alloc (.cells #[.int .i64 ei, .int .i64 et, .int .i64 ek, .string (takeB ed 60)] 37)) [cutEnt ⟨ei, et, ek, ed⟩] 37 (0, 0) #[.int .i64 ei, .int .i64 et, .int .i64 ek, .string (takeB ed 60)] 1 rfl rfl (by simp)
        rw [show (wr.alloc (.cells #[.int .i64 ei, .int .i64 et, .int .i64 ek, .string (takeB ed 60)] 37)).heap.size = wr.heap.size + 1 from by simp] at hE
        have hb1 : Below wr.heap.size wr ((wr.alloc (.cells #[.int .i64 ei, .int .i64 et, .int .i64 ek, .string (takeB ed 60)] 37)).alloc (.cells #[.int .i64 ei, .int .i64 et, .int .i64 ek, .string (takeB ed 60)] 37)) := ((Below.refl wr.heap.size wr).alloc (Nat.le_refl _) _).alloc (by simp) _
        have ho2 := ho.below hb1
        have hbz := hbel.trans (hb1.mono hbel.size)
        clear ho hb1 hbel c0 c1 c2 c3
        go_wp2_with (at_builtin; refine wpList_append_ents 24 w.heap.size _ Try.underlying24 info_ent rfl rfl _ _ rfl ho2 hE rfl rfl (by simp; omega) hbz.size ?_)
        intro v2 w2 ho3 hg3 hk3
        have hb3 : Below w.heap.size w w2 := hbz.grown hg3 hbz.size (fun k hk => (World.ownsRow.lt ho2 k hk).1)
        clear ho2 hE hg3 hk3 hbz
        go_wp2_with fail
        go_roundw
        case rel => exact ⟨k + 1, by omega, by omega, by go_num, by rw [HU.out]; exact ho3, hb3⟩
        case measure => simp [intOf]; omega
      · obtain rfl : k = n := by omega
        go_wp2_with fail
        go_ret
        exact ⟨_, rfl, ho, hbel⟩
    · obtain rfl : k = es.length := by omega
      have HU : Hid (cutEnts es n = cutEnts es es.length) := Lib.hid (by unfold cutEnts; rw [List.take_of_length_le (by omega), List.take_length])
      go_wp2_with fail
      go_ret
      exact ⟨_, rfl, by rw [HU.out]; exact ho, hbel⟩
end Go.Proofs.Ytihcohneongomaa
namespace Go.Proofs.Ytihcohneongomaa
open Go.RowKit

theorem row_take (L : List Ent) : ∀ (i t : Int) (n : Nat), rowP i t L = true → rowP i t (L.take n) = true := by
  induction L with
  | nil => intro i t n h; simpa using h
  | cons e L ih =>
    intro i t n h
    cases n with
    | zero => rfl
    | succ n =>
      rw [List.take_succ_cons]
      simp only [rowP, Bool.and_eq_true] at h ⊢
      exact ⟨h.1, ih _ _ n h.2⟩
theorem row_drop (L : List Ent) : ∀ (i t : Int) (n : Nat), rowP i t L = true → ∃ i' t', rowP i' t' (L.drop n) = true := by
  induction L with
  | nil => intro i t n h; exact ⟨i, t, by simpa using h⟩
  | cons e L ih =>
    intro i t n h
    cases n with
    | zero => exact ⟨i, t, h⟩
    | succ n =>
      rw [List.drop_succ_cons]
      simp only [rowP, Bool.and_eq_true] at h
      exact ih _ _ n h.2
theorem row_at (L : List Ent) : ∀ (i t : Int), rowP i t L = true → 0 ≤ i → i + L.length ≤ 9000000000000000000 → ∀ k (h : k < L.length), L[k].i = i + 1 + k ∧ t ≤ L[k].t := by
  induction L with
  | nil => intro i t _ _ _ k h; simp at h
  | cons e L ih =>
    intro i t h h0 h1 k hk
    simp only [rowP, Bool.and_eq_true, beq_iff_eq, decide_eq_true_eq, List.length_cons] at h h1
    obtain ⟨⟨he, ht⟩, hr⟩ := h
    rw [IntWalk.wrap64_in _ (by omega)] at he
    cases k with
    | zero => exact ⟨by rw [List.getElem_cons_zero, he]; omega, ht⟩
    | succ k =>
      rw [List.getElem_cons_succ]
      have := ih e.i e.t hr (by omega) (by omega) k (by simpa using hk)
      exact ⟨by omega, by omega⟩
theorem row_self {i t : Int} {e : Ent} {L : List Ent} (h : rowP i t (e :: L) = true) (h0 : -9223372036854775808 ≤ e.i ∧ e.i ≤ 9223372036854775807) : rowP (wrap64 (e.i - 1)) e.t (e :: L) = true := by
  simp only [rowP, Bool.and_eq_true, beq_iff_eq, decide_eq_true_eq] at h ⊢
  refine ⟨⟨?_, Int.le_refl _⟩, h.2⟩
  unfold wrap64
  omega

/-- A good log. -/
structure Good (s : Snp) (L : List Ent) : Prop where
  b : LogB s L
  r : rowP s.i s.t L = true
theorem Good.of_new {s : Snp} {L : List Ent} (h : newOk s L = true) : Good s L := by
  unfold newOk inP at h
  simp only [List.all_cons, List.all_nil, Bool.and_eq_true, decide_eq_true_eq, Bool.and_true] at h
  obtain ⟨⟨⟨h1, h2⟩, h3⟩, h4⟩ := h
  unfold okN at h1
  simp only [Bool.and_eq_true, decide_eq_true_eq] at h1
  exact ⟨⟨h1.1, by omega, h3⟩, h4⟩
theorem Good.at_ {s : Snp} {L : List Ent} (h : Good s L) (k : Nat) (hk : k < L.length) : L[k].i = s.i + 1 + k ∧ s.t ≤ L[k].t :=
  row_at L s.i s.t h.r h.b.1 (by have := h.b.2.1; have := h.b.2.2; omega) k hk
theorem Good.term {s : Snp} {L : List Ent} (_h : Good s L) (k : Nat) (hk : k < L.length) : termP s L (s.i + 1 + k) = (L[k].t, true) := by
  unfold termP lastP
  rw [if_neg (by omega), if_neg (by omega), show (s.i + 1 + (k : Int) - s.i - 1).toNat = k by omega, List.getElem?_eq_getElem hk]
  rfl
theorem Good.fits {s : Snp} {L : List Ent} (h : Good s L) (k : Nat) (hk : k < L.length) : fitsP s L L[k].i L[k].t = true := by
  unfold fitsP
  rw [(h.at_ k hk).1, h.term k hk]
  simp

theorem dropWhile_all {α : Type} (p : α → Bool) (l : List α) (h : ∀ x ∈ l, p x = true) : l.dropWhile p = [] := by
  induction l with
  | nil => rfl
  | cons x l ih => rw [List.dropWhile_cons_of_pos (h x (by simp))]; exact ih fun y hy => h y (by simp [hy])

/-- Entries that are there are put again: nothing changes. -/
theorem Good.again {s : Snp} {L : List Ent} (h : Good s L) (a n : Nat) : putP s L ((L.drop a).take n) = ((0, true), L) := by
  have hall : ∀ e ∈ (L.drop a).take n, pastP s L e = true := fun e he => by
    obtain ⟨k, hk, rfl⟩ := List.mem_iff_getElem.1 (List.mem_of_mem_drop (List.mem_of_mem_take he))
    unfold pastP
    rw [h.fits k hk]
    simp
  obtain ⟨i', t', hr⟩ := row_drop L s.i s.t a h.r
  have hr := row_take _ _ _ n hr
  cases hE : (L.drop a).take n with
  | nil => rfl
  | cons e E =>
    rw [hE] at hall hr
    have hm : e ∈ L := List.mem_of_mem_drop (List.mem_of_mem_take (by rw [hE]; simp))
    obtain ⟨k, hk, he⟩ := List.mem_iff_getElem.1 hm
    have hi := (h.at_ k hk).1
    rw [he] at hi
    have hB := h.b
    obtain ⟨b0, b1, b2⟩ := hB
    show (if lastP s L + 1 < e.i ∨ rowP (wrap64 (e.i - 1)) e.t (e :: E) = false then _ else _) = _
    rw [if_neg (by
      rintro (h1 | h1)
      · unfold lastP at h1; omega
      · rw [row_self hr (by omega)] at h1; cases h1)]
    rw [dropWhile_all _ _ hall]
    rfl
theorem Good.getAll {s : Snp} {L : List Ent} (h : Good s L) (n : Int) (hn : (L.length : Int) ≤ n) : getP s L (s.i + 1) n = L := by
  unfold getP lastP
  by_cases h0 : L = []
  · subst h0
    split <;> simp
  · have hl : 0 < L.length := by cases L with | nil => exact absurd rfl h0 | cons _ _ => simp
    rw [if_neg (by omega)]
    rw [show (s.i + 1 - (s.i + 1)).toNat = 0 by omega, List.drop_zero, List.take_of_length_le (by omega)]
end Go.Proofs.Ytihcohneongomaa
namespace Go.Proofs.Ytihcohneongomaa
open Go.ChangeShapes Go.WideShapes Go.ChangeAt Go.RowKit Go.Deep

section
variable {H : Type} {enc : TypeId × Value → H} {W : World} {base base' : Nat} {r : Reach}

set_option maxRecDepth 100000 in
theorem open_snap {v : Value} {d : DataW H} {ps : List MemPlace} (hv : Value.okWide Try.prog W r base' 23 v) (h : DataW.Trod enc Try.prog W base (fun _ => true) true 23 v d ps) : ∃ s : Snp, v = snpAgg s ∧ s.wf := by
  obtain ⟨v0, v1, v2, v3, y0, y1, y2, y3, n, rfl, _, _, h0, h1, h2, h3⟩ := Go.Joins.open_agg4 Try.underlying23 (by kernel_rfl) (by kernel_rfl) hv h
  obtain ⟨x0, e0, _, g0⟩ := DataW.trod_int Try.underlying2 h0
  obtain ⟨x1, e1, _, g1⟩ := DataW.trod_int Try.underlying2 h1
  obtain ⟨x2, e2, _, g2⟩ := DataW.trod_string Try.underlying9 h2
  obtain ⟨x3, e3, _, g3⟩ := DataW.trod_string Try.underlying9 h3
  simp only [List.cons.injEq, and_true] at e0 e1 e2 e3
  subst e0 e1 e2 e3
  exact ⟨⟨x0, x1, x2, x3⟩, rfl, wf_i64 g0, wf_i64 g1, g2, g3⟩

set_option maxRecDepth 100000 in
theorem open_ents {v : Value} {d : DataW H} {ps : List MemPlace} (hv : Value.okWide Try.prog W r base' 24 v) (h : DataW.Trod enc Try.prog W base (fun _ => true) true 24 v d ps) : ∃ es : List Ent, EntR W v es ∧ ∀ e ∈ es, e.wf := by
  exact open_recs (f := entCells) (good := Ent.wf) Try.underlying24 Try.underlying37 (by kernel_rfl) (by kernel_rfl) (by decide) hv (fun vs hvs hf => by
    obtain ⟨n0, y0, u0, e0, t0⟩ := hf 0 _ rfl
    obtain ⟨n1, y1, u1, e1, t1⟩ := hf 1 _ rfl
    obtain ⟨n2, y2, u2, e2, t2⟩ := hf 2 _ rfl
    obtain ⟨n3, y3, u3, e3, t3⟩ := hf 3 _ rfl
    obtain ⟨x0, g0, _, k0⟩ := DataW.trod_int Try.underlying2 t0
    obtain ⟨x1, g1, _, k1⟩ := DataW.trod_int Try.underlying2 t1
    obtain ⟨x2, g2, _, k2⟩ := DataW.trod_int Try.underlying3 t2
    obtain ⟨x3, g3, _, k3⟩ := DataW.trod_string Try.underlying9 t3
    simp only [List.cons.injEq, and_true] at g0 g1 g2 g3
    subst g0 g1 g2 g3
    refine ⟨⟨x0, x1, x2, x3⟩, ?_, wf_i64 k0, wf_i64 k1, wf_i64 k2, k3⟩
    match vs, hvs with
    | [a, b, c, d], _ =>
      simp only [List.getElem?_cons_zero, List.getElem?_cons_succ, Option.some.injEq] at e0 e1 e2 e3
      subst e0 e1 e2 e3
      rfl) h
end
end Go.Proofs.Ytihcohneongomaa
namespace Go.Proofs.Ytihcohneongomaa
open Go.ChangeShapes Go.WideShapes Go.ChangeAt Go.RowKit

set_option maxRecDepth 100000 in
theorem eq_entry (e : Ent) (w : World) : Calls Try.prog 56 #[entAgg e, entAgg e] w fun x w' => x = .returned (.bool true) ∧ Below w.heap.size w w' := by
  have hb : ∀ a b, Below w.heap.size w ((w.alloc a).alloc b) := fun a b => ((Below.refl w.heap.size w).alloc (Nat.le_refl _) _).alloc (by simp) _
  have HB := Lib.hid hb
  clear hb
  unfold entAgg
  go_enter Try.func56, Try.ntmps56
  go_wp2_with fail
  go_ret
  exact ⟨rfl, HB.out _ _⟩

set_option maxRecDepth 100000 in
theorem eq_snap (e : Snp) (w : World) : Calls Try.prog 44 #[snpAgg e, snpAgg e] w fun x w' => x = .returned (.bool true) ∧ Below w.heap.size w w' := by
  have hb : ∀ a b, Below w.heap.size w ((w.alloc a).alloc b) := fun a b => ((Below.refl w.heap.size w).alloc (Nat.le_refl _) _).alloc (by simp) _
  have HB := Lib.hid hb
  clear hb
  unfold snpAgg
  go_enter Try.func44, Try.ntmps44
  go_wp2_with fail
  go_ret
  exact ⟨rfl, HB.out _ _⟩

set_option maxRecDepth 100000 in
set_option maxHeartbeats 1000000 in
theorem eq_entries (v1 v2 : Value) (es : List Ent) (w : World) (h1 : EntR w v1 es) (h2 : EntR w v2 es) (hl : es.length ≤ 1000000000000) :
    Calls Try.prog 23 #[v1, v2] w fun e w' => e = .returned (.bool true) ∧ Below w.heap.size w w' := by
  obtain ⟨a1, cap1, rfl⟩ := h1.slice
  obtain ⟨a2, cap2, rfl⟩ := h2.slice
  have HR1 := Lib.hid h1
  have HR2 := Lib.hid h2
  clear h1 h2
  go_enter Try.func23, Try.ntmps23
  go_wp2_with fail
  go_loopw [5] (fun i wr => ∃ k : Nat, k ≤ es.length ∧ i = .int .i64 k ∧ Below w.heap.size w wr) (fun i _ => es.length - (intOf i).toNat)
  case atStart => exact ⟨0, by omega, rfl, Below.refl _ _⟩
  case round =>
    obtain ⟨k, hk, rfl, hbel⟩ := hrel
    by_cases hlt : k < es.length
    · obtain ⟨b1, o1, rfl, hb1, c0, c1, c2, c3⟩ := (HR1.out.below hbel).cells k hlt
      obtain ⟨b2, o2, rfl, hb2, d0, d1, d2, d3⟩ := (HR2.out.below hbel).cells k hlt
      generalize es[k] = e at *
      go_upto_region 6 with fail
      go_cut [26] (fun x wx => x = .bool false ∧ Below wr.heap.size wr wx)
      case first =>
        refine wp_region_sw (by rfl) (by kernel_rfl) (fun k => match k with | 8 => some (fun v _ => v = .bool true) | _ => none) ?_ (fun vals => ?_)
        · intro k φ hk v w1 w2 h1 h2
          match k, hk with
          | 8, hk => obtain rfl := Option.some.inj hk; exact h1
        iterate 3 ((with_reducible refine sw_pure ?_ (fun K hK => ?_)); (· rfl); go_simp; with_reducible refine hK _ ?_; clear hK K)
        refine sw_at (entAgg e) rfl rfl (fun wz hz' hH => ?_) (fun K hK => ?_)
        · have g0 := (hz'.cell (p := ⟨b1, o1 + k * 4, none⟩) hb1).trans c0
          have g1 := (hz'.cell (p := ⟨b1, o1 + k * 4 + 1, none⟩) hb1).trans c1
          have g2 := (hz'.cell (p := ⟨b1, o1 + k * 4 + 2, none⟩) hb1).trans c2
          have g3 := (hz'.cell (p := ⟨b1, o1 + k * 4 + 3, none⟩) hb1).trans c3
          unfold entAgg
          go_simp
        go_simp; refine hK _ ?_; clear hK K
        iterate 3 ((with_reducible refine sw_pure ?_ (fun K hK => ?_)); (· rfl); go_simp; with_reducible refine hK _ ?_; clear hK K)
        refine sw_at (entAgg e) rfl rfl (fun wz hz' hH => ?_) (fun K hK => ?_)
        · have g0 := (hz'.cell (p := ⟨b2, o2 + k * 4, none⟩) hb2).trans d0
          have g1 := (hz'.cell (p := ⟨b2, o2 + k * 4 + 1, none⟩) hb2).trans d1
          have g2 := (hz'.cell (p := ⟨b2, o2 + k * 4 + 2, none⟩) hb2).trans d2
          have g3 := (hz'.cell (p := ⟨b2, o2 + k * 4 + 3, none⟩) hb2).trans d3
          unfold entAgg
          go_simp
        go_simp; refine hK _ ?_; clear hK K
        refine sw_call _ rfl rfl (fun wz hz' hH => ?_) (fun K hK => ?_)
        · go_simp
          go_at_call 56
          refine (eq_entry e _).mono ?_
          rintro x w' ⟨rfl, hb⟩
          exact ⟨_, rfl, rfl, hb⟩
        go_simp; refine hK _ ?_; clear hK K
        refine sw_at (.bool false) rfl rfl (fun wz hz' hH => ?_) (fun K hK => ?_)
        · have h3 := hH _ (List.Mem.head _) rfl
          dsimp only at h3
          rw [h3]
          go_simp
        go_simp; refine hK _ ?_; clear hK K
        refine sw_done (fun wz hz hH => ?_)
        go_wp2_with fail
        go_meet
        exact ⟨rfl, hz⟩
      case rest =>
        obtain ⟨rfl, hz⟩ := hcut
        have hbz := hbel.trans (hz.mono hbel.size)
        clear hz hbel c0 c1 c2 c3 d0 d1 d2 d3
        go_wp2_with fail
        go_roundw
        case rel => exact ⟨k + 1, by omega, by go_num, hbz⟩
        case measure => simp [intOf]; omega
    · obtain rfl : k = es.length := by omega
      go_wp2_with fail
      go_ret
      exact ⟨rfl, hbel⟩
end Go.Proofs.Ytihcohneongomaa
namespace Go.Proofs.Ytihcohneongomaa
open Go.ChangeShapes Go.WideShapes Go.ChangeAt Go.RowKit

/-- A snapshot in a block of its own. -/
structure SnapS (w : World) (b : Nat) (s : Snp) : Prop where
  lt : b < w.heap.size
  c0 : w.cell? ⟨b, 0, none⟩ = some (.int .i64 s.i)
  c1 : w.cell? ⟨b, 1, none⟩ = some (.int .i64 s.t)
  c2 : w.cell? ⟨b, 2, none⟩ = some (.string s.c)
  c3 : w.cell? ⟨b, 3, none⟩ = some (.string s.d)
  fr : ∀ j, w.frozen? ⟨b, j, none⟩ = false
theorem SnapS.below {w w' : World} {b : Nat} {s : Snp} (h : SnapS w b s) (hb : Below w.heap.size w w') : SnapS w' b s :=
  ⟨Nat.lt_of_lt_of_le h.lt hb.size, (hb.cell (p := ⟨b, 0, none⟩) h.lt).trans h.c0, (hb.cell (p := ⟨b, 1, none⟩) h.lt).trans h.c1, (hb.cell (p := ⟨b, 2, none⟩) h.lt).trans h.c2, (hb.cell (p := ⟨b, 3, none⟩) h.lt).trans h.c3, fun j => (hb.frozen (p := ⟨b, j, none⟩) h.lt).trans (h.fr j)⟩
theorem SnapS.keeps {w w' : World} {b : Nat} {s : Snp} {F : List Nat} (h : SnapS w b s) (hk : Keeps F w w') (hF : b ∉ F) : SnapS w' b s :=
  ⟨Nat.lt_of_lt_of_le h.lt hk.size, (hk.cell (p := ⟨b, 0, none⟩) h.lt hF).trans h.c0, (hk.cell (p := ⟨b, 1, none⟩) h.lt hF).trans h.c1, (hk.cell (p := ⟨b, 2, none⟩) h.lt hF).trans h.c2, (hk.cell (p := ⟨b, 3, none⟩) h.lt hF).trans h.c3, fun j => (hk.frozen (p := ⟨b, j, none⟩) h.lt hF).trans (h.fr j)⟩
theorem snapS_box (w : World) (s : Snp) (T : TypeId) : SnapS (w.alloc (.cells #[.int .i64 s.i, .int .i64 s.t, .string s.c, .string s.d] T)) w.heap.size s :=
  ⟨by simp, World.cell?_alloc_new _ _ _ _, World.cell?_alloc_new _ _ _ _, World.cell?_alloc_new _ _ _ _, World.cell?_alloc_new _ _ _ _, fun j => World.frozen?_alloc_new _ _ _ _⟩
theorem SnapS.set {w : World} {b : Nat} {s n : Snp} (h : SnapS w b s) : SnapS ((((w.setCell ⟨b, 0, none⟩ (.int .i64 n.i)).setCell ⟨b, 1, none⟩ (.int .i64 n.t)).setCell ⟨b, 2, none⟩ (.string n.c)).setCell ⟨b, 3, none⟩ (.string n.d)) b n ∧
    Keeps [b] w ((((w.setCell ⟨b, 0, none⟩ (.int .i64 n.i)).setCell ⟨b, 1, none⟩ (.int .i64 n.t)).setCell ⟨b, 2, none⟩ (.string n.c)).setCell ⟨b, 3, none⟩ (.string n.d)) := by
  have hk : Keeps [b] w ((((w.setCell ⟨b, 0, none⟩ (.int .i64 n.i)).setCell ⟨b, 1, none⟩ (.int .i64 n.t)).setCell ⟨b, 2, none⟩ (.string n.c)).setCell ⟨b, 3, none⟩ (.string n.d)) :=
    ((((Keeps.refl [b] w).setCell (.inl (by simp)) _).setCell (.inl (by simp)) _).setCell (.inl (by simp)) _).setCell (.inl (by simp)) _
  refine ⟨⟨Nat.lt_of_lt_of_le h.lt hk.size, ?_, ?_, ?_, ?_, fun j => ?_⟩, hk⟩
  · rw [World.cell?_setCell_other (h := by simp), World.cell?_setCell_other (h := by simp), World.cell?_setCell_other (h := by simp)]
    exact World.cell?_setCell_same _ _ _ h.c0
  · rw [World.cell?_setCell_other (h := by simp), World.cell?_setCell_other (h := by simp)]
    exact World.cell?_setCell_same _ _ _ (show World.cell? _ _ = some (.int .i64 s.t) from by rw [World.cell?_setCell_other (h := by simp)]; exact h.c1)
  · rw [World.cell?_setCell_other (h := by simp)]
    exact World.cell?_setCell_same _ _ _ (show World.cell? _ _ = some (.string s.c) from by rw [World.cell?_setCell_other (h := by simp), World.cell?_setCell_other (h := by simp)]; exact h.c2)
  · exact World.cell?_setCell_same _ _ _ (show World.cell? _ _ = some (.string s.d) from by rw [World.cell?_setCell_other (h := by simp), World.cell?_setCell_other (h := by simp), World.cell?_setCell_other (h := by simp)]; exact h.c3)
  · rw [World.frozen?_setCell, World.frozen?_setCell, World.frozen?_setCell, World.frozen?_setCell]; exact h.fr j

end Go.Proofs.Ytihcohneongomaa
namespace Go.Proofs.Ytihcohneongomaa
open Go.ChangeShapes Go.WideShapes Go.ChangeAt Go.RowKit

theorem takeB_size (s : ByteArray) (n : Nat) : (takeB s n).size ≤ n := by
  show (List.toArray _).size ≤ n
  simp
  omega
theorem cutEnts_len (es : List Ent) (n : Nat) : (cutEnts es n).length ≤ n := by
  unfold cutEnts
  rw [List.length_map]
  exact List.length_take_le _ _
theorem cutEnts_lo (es : List Ent) (n : Nat) (h : ∀ e ∈ es, e.wf) : entsLo (cutEnts es n) := by
  intro e he
  unfold cutEnts at he
  obtain ⟨x, hx, rfl⟩ := List.mem_map.1 he
  exact (h x (List.mem_of_mem_take hx)).1

theorem EntR.keeps {w w' : World} {v : Value} {es : List Ent} {F : List Nat} (h : EntR w v es) (hk : Keeps F w w') (hF : ∀ g off n c, v = .slice (some ⟨g, off, none⟩) n c → g ∉ F) : EntR w' v es := by
  obtain ⟨a, cap, hv, h1, h2, h3⟩ := h
  refine ⟨a, cap, hv, h1, h2, fun k hk' => ?_⟩
  obtain ⟨b, off, ha, hlt, hc⟩ := h3 k hk'
  exact ⟨b, off, ha, Nat.lt_of_lt_of_le hlt hk.size, fun j u hu => by rw [hk.cell (p := ⟨b, off + k * 4 + j, none⟩) hlt (hF b off _ _ (by rw [hv, ha]))]; exact hc j u hu⟩

theorem getP_at (s : Snp) (L : List Ent) (A : Nat) (n : Int) (hA : A < L.length) (hn : 0 ≤ n) : getP s L (s.i + 1 + A) n = (L.drop A).take n.toNat := by
  unfold getP lastP
  by_cases h : n < 1
  · rw [if_pos (.inr (.inr h)), show n.toNat = 0 by omega, List.take_zero]
  · rw [if_neg (by omega), show (s.i + 1 + (A : Int) - (s.i + 1)).toNat = A by omega]

/-- A row of one's own whose kinds may be written. -/
structure Kinds (w : World) (g n : Nat) : Prop where
  lt : g < w.heap.size
  c : ∀ k, k < n → ∃ u, w.cell? ⟨g, k * 4 + 2, none⟩ = some u
  fr : ∀ j, w.frozen? ⟨g, j, none⟩ = false
theorem Kinds.set {w : World} {g n : Nat} (h : Kinds w g n) (k : Nat) (u : Value) : Kinds (w.setCell ⟨g, k * 4 + 2, none⟩ u) g n := by
  refine ⟨Nat.lt_of_lt_of_le h.lt ((Keeps.refl [g] w).setCell (p := ⟨g, k * 4 + 2, none⟩) (.inl (by simp)) u).size, fun j hj => ?_, fun j => ?_⟩
  · obtain ⟨v, hv⟩ := h.c j hj
    by_cases e : j = k
    · subst e
      exact ⟨u, World.cell?_setCell_same _ _ _ hv⟩
    · exact ⟨v, by rw [World.cell?_setCell_other (h := by simp <;> omega)]; exact hv⟩
  · rw [World.frozen?_setCell]
    exact h.fr j
theorem Kinds.keeps {w w' : World} {g n : Nat} {F : List Nat} (h : Kinds w g n) (hk : Keeps F w w') (hF : g ∉ F) : Kinds w' g n :=
  ⟨Nat.lt_of_lt_of_le h.lt hk.size, fun j hj => by obtain ⟨v, hv⟩ := h.c j hj; exact ⟨v, (hk.cell (p := ⟨g, j * 4 + 2, none⟩) h.lt hF).trans hv⟩, fun j => (hk.frozen (p := ⟨g, j, none⟩) h.lt hF).trans (h.fr j)⟩
theorem EntO.kinds {w : World} {base : Nat} {v : Value} {es : List Ent} (h : EntO w base v es) (hne : es ≠ []) : ∃ g cap, v = .slice (some ⟨g, 0, none⟩) es.length cap ∧ base ≤ g ∧ Kinds w g es.length := by
  have hr := h.r
  rcases h.2 with ⟨_, hx⟩ | ⟨g, cap, cur, rfl, hb, hg, hnc, hcm, hcs, htake⟩
  · exact absurd (List.eq_nil_of_length_eq_zero hx) hne
  · refine ⟨g, cap, rfl, hb, (Array.getElem?_eq_some_iff.1 hg).1, fun k hk => ?_, fun j => ?_⟩
    · obtain ⟨b, off, he, _, c0, c1, c2, c3⟩ := hr.cells k hk
      simp only [Option.some.injEq, Addr.mk.injEq] at he
      obtain ⟨rfl, rfl, _⟩ := he
      exact ⟨_, by simpa using c2⟩
    · unfold World.frozen?
      rw [hg]
      simp
theorem EntO.kinds' {w : World} {base : Nat} {v : Value} {es : List Ent} (h : EntO w base v es) : ∃ a cap, ∃ F : List Nat, v = .slice a es.length cap ∧ (∀ x ∈ F, base ≤ x ∧ x < w.heap.size) ∧ ∀ k, k < es.length → ∃ g, F = [g] ∧ a = some ⟨g, 0, none⟩ ∧ Kinds w g es.length := by
  by_cases hne : es = []
  · obtain ⟨a, cap, hv⟩ := h.r.slice
    exact ⟨a, cap, [], hv, fun x hx => by simp at hx, fun k hk => by subst hne; simp at hk⟩
  · obtain ⟨g, cap, hv, hb, hK⟩ := h.kinds hne
    exact ⟨_, cap, [g], hv, fun x hx => by simp only [List.mem_singleton] at hx; subst hx; exact ⟨hb, hK.lt⟩, fun k hk => ⟨g, rfl, rfl, hK⟩⟩
theorem LogS.keeps {w w' : World} {b : Nat} {s : Snp} {lv : Value} {es : List Ent} {F : List Nat} (h : LogS w b s lv es) (hk : Keeps F w w') (hb : b ∉ F) (hF : ∀ g off n c, lv = .slice (some ⟨g, off, none⟩) n c → g ∉ F) : LogS w' b s lv es :=
  ⟨Nat.lt_of_lt_of_le h.lt hk.size, (hk.cell (p := ⟨b, 0, none⟩) h.lt hb).trans h.c0, (hk.cell (p := ⟨b, 1, none⟩) h.lt hb).trans h.c1, (hk.cell (p := ⟨b, 2, none⟩) h.lt hb).trans h.c2, (hk.cell (p := ⟨b, 3, none⟩) h.lt hb).trans h.c3, (hk.cell (p := ⟨b, 4, none⟩) h.lt hb).trans h.c4,
    fun j => (hk.frozen (p := ⟨b, j, none⟩) h.lt hb).trans (h.fr j), h.r.keeps hk hF, h.ne⟩
end Go.Proofs.Ytihcohneongomaa
namespace Go.Proofs.Ytihcohneongomaa
open Go.ChangeShapes Go.WideShapes Go.ChangeAt Go.RowKit

def msgAgg (v : Value) (m : Msg) : Value := .agg #[.int .i64 m.k, .int .i64 m.f, .int .i64 m.o, .int .i64 m.t, .int .i64 m.i, .int .i64 m.l, .int .i64 m.c, .bool m.y, v, .int .i64 m.s.i, .int .i64 m.s.t, .string m.s.c, .string m.s.d]
/-- A message in a block of its own. -/
structure MsgS (w : World) (b : Nat) (v : Value) (m : Msg) : Prop where
  lt : b < w.heap.size
  c0 : w.cell? ⟨b, 0, none⟩ = some (.int .i64 m.k)
  c1 : w.cell? ⟨b, 1, none⟩ = some (.int .i64 m.f)
  c2 : w.cell? ⟨b, 2, none⟩ = some (.int .i64 m.o)
  c3 : w.cell? ⟨b, 3, none⟩ = some (.int .i64 m.t)
  c4 : w.cell? ⟨b, 4, none⟩ = some (.int .i64 m.i)
  c5 : w.cell? ⟨b, 5, none⟩ = some (.int .i64 m.l)
  c6 : w.cell? ⟨b, 6, none⟩ = some (.int .i64 m.c)
  c7 : w.cell? ⟨b, 7, none⟩ = some (.bool m.y)
  c8 : w.cell? ⟨b, 8, none⟩ = some v
  c9 : w.cell? ⟨b, 9, none⟩ = some (.int .i64 m.s.i)
  c10 : w.cell? ⟨b, 10, none⟩ = some (.int .i64 m.s.t)
  c11 : w.cell? ⟨b, 11, none⟩ = some (.string m.s.c)
  c12 : w.cell? ⟨b, 12, none⟩ = some (.string m.s.d)
  fr : ∀ j, w.frozen? ⟨b, j, none⟩ = false
theorem MsgS.keeps {w w' : World} {b : Nat} {v : Value} {m : Msg} {F : List Nat} (h : MsgS w b v m) (hk : Keeps F w w') (hF : b ∉ F) : MsgS w' b v m := by
  have g : ∀ j, w'.cell? ⟨b, j, none⟩ = w.cell? ⟨b, j, none⟩ := fun j => hk.cell (p := ⟨b, j, none⟩) h.lt hF
  exact ⟨Nat.lt_of_lt_of_le h.lt hk.size, (g 0).trans h.c0, (g 1).trans h.c1, (g 2).trans h.c2, (g 3).trans h.c3, (g 4).trans h.c4, (g 5).trans h.c5, (g 6).trans h.c6, (g 7).trans h.c7, (g 8).trans h.c8, (g 9).trans h.c9, (g 10).trans h.c10, (g 11).trans h.c11, (g 12).trans h.c12,
    fun j => (hk.frozen (p := ⟨b, j, none⟩) h.lt hF).trans (h.fr j)⟩
theorem MsgS.below {w w' : World} {b : Nat} {v : Value} {m : Msg} (h : MsgS w b v m) (hb : Below w.heap.size w w') : MsgS w' b v m := h.keeps (F := []) (Keeps.of_below hb) (by simp)
theorem msgS_box (w : World) (v : Value) (m : Msg) (T : TypeId) : MsgS (w.alloc (.cells #[.int .i64 m.k, .int .i64 m.f, .int .i64 m.o, .int .i64 m.t, .int .i64 m.i, .int .i64 m.l, .int .i64 m.c, .bool m.y, v, .int .i64 m.s.i, .int .i64 m.s.t, .string m.s.c, .string m.s.d] T)) w.heap.size v m :=
  ⟨by simp, World.cell?_alloc_new _ _ _ _, World.cell?_alloc_new _ _ _ _, World.cell?_alloc_new _ _ _ _, World.cell?_alloc_new _ _ _ _, World.cell?_alloc_new _ _ _ _, World.cell?_alloc_new _ _ _ _, World.cell?_alloc_new _ _ _ _, World.cell?_alloc_new _ _ _ _, World.cell?_alloc_new _ _ _ _, World.cell?_alloc_new _ _ _ _, World.cell?_alloc_new _ _ _ _, World.cell?_alloc_new _ _ _ _, World.cell?_alloc_new _ _ _ _, fun j => World.frozen?_alloc_new _ _ _ _⟩

set_option maxHeartbeats 1000000 in
theorem raft_in (lo : Int) (v : Value) (l : List Int) (w : World) (h : RI w v l) :
    Calls Try.prog 94 #[.int .i64 lo, v] w fun e w' => e = .returned (.bool (inN lo 1099511627776 l)) ∧ w' = w := by
  obtain ⟨a, cap, rfl, hcap, hcm, hc⟩ := h.open_
  clear h
  go_enter Try.func94, Try.ntmps94
  go_wp2_with fail
  go_loop [6, 9] (fun _ i => ∃ k : Nat, k ≤ l.length ∧ i = .int .i64 k ∧ Hid (∀ j (h : j < l.length), j < k → lo ≤ l[j] ∧ l[j] ≤ 1099511627776)) (fun _ i => l.length - (intOf i).toNat)
  case atStart => exact ⟨0, by omega, rfl, Lib.hid (by intro j _ hj; omega)⟩
  case round =>
    obtain ⟨k, hk, rfl, hx⟩ := hrel
    by_cases hlt : k < l.length
    · obtain ⟨b, off, rfl, hbl, hcj⟩ := hc.out k hlt
      by_cases h1 : l[k] < lo
      · have H := Lib.hid (inN_no hlt (lo := lo) (hi := 1099511627776) (by omega))
        go_wp2_with fail
        go_ret
        rw [H.out]; exact ⟨rfl, rfl⟩
      · by_cases h2 : 1099511627776 < l[k]
        · have H := Lib.hid (inN_no hlt (lo := lo) (hi := 1099511627776) (by omega))
          go_wp2_with fail
          go_ret
          rw [H.out]; exact ⟨rfl, rfl⟩
        · go_wp2_with fail
          go_roundw
          case rel => exact ⟨k + 1, by omega, by go_num, Lib.hid fun j h hj => by
            by_cases e : j = k
            · subst e; omega
            · exact hx.out j h (by omega)⟩
          case measure => simp [intOf]; omega
    · have H := Lib.hid (inN_yes (lo := lo) (hi := 1099511627776) (fun j h => hx.out j h (by omega)))
      go_wp2_with fail
      go_ret
      rw [H.out]; exact ⟨rfl, rfl⟩
def serverB (x : Int) : Bool := decide (1 ≤ x ∧ x ≤ 7)
theorem raft_server (x : Int) (w : World) : Calls Try.prog 93 #[.int .i64 x] w fun e w' => e = .returned (.bool (serverB x)) ∧ w' = w := by
  have H0 : Hid (serverB x = decide (1 ≤ x ∧ x ≤ 7)) := Lib.hid rfl
  go_enter Try.func93, Try.ntmps93
  by_cases h1 : 1 ≤ x
  · by_cases h2 : x ≤ 7
    · have t2 := decide_eq_true h2
      go_wp2_with fail
      go_ret
      exact ⟨by rw [H0.out, decide_eq_true (⟨h1, h2⟩ : 1 ≤ x ∧ x ≤ 7)]; first | rfl | (rw [t2]; rfl), rfl⟩
    · have t2 := decide_eq_false h2
      go_wp2_with fail
      go_ret
      exact ⟨by rw [H0.out, decide_eq_false (by omega : ¬ (1 ≤ x ∧ x ≤ 7))]; first | rfl | (rw [t2]; rfl), rfl⟩
  · go_wp2_with fail
    go_ret
    exact ⟨by rw [H0.out, decide_eq_false (by omega : ¬ (1 ≤ x ∧ x ≤ 7))]; rfl, rfl⟩

theorem entsM_cons (T i t : Int) (e : Ent) (es : List Ent) : entsM T i t (e :: es) = (((e.i == i + 1) && decide (t ≤ e.t) && decide (e.t ≤ T) && mayR (recE e)) && entsM T e.i e.t es) := rfl
theorem recE_i {e : Ent} (h : mayR (recE e) = true) : 1 ≤ e.i ∧ e.i ≤ 1099511627776 := by
  have := (mayR_en (r := recE e) rfl).1 h
  exact ⟨this.2.2.1, this.2.2.2.1⟩
def entsB (m : Msg) : Bool := entsM m.t m.i m.l m.es && decide (m.es.length ≤ 8 ∧ (m.es.length = 0 ∨ m.k = 3))

set_option maxRecDepth 100000 in
set_option maxHeartbeats 2000000 in
theorem raft_entries (v : Value) (m : Msg) (w : World) (h : EntR w v m.es) (hi0 : 0 ≤ m.i) (hi1 : m.i ≤ 1099511627776) (hl : m.es.length ≤ 1000000000000) :
    Calls Try.prog 95 #[msgAgg v m] w fun e w' => e = .returned (.bool (entsB m)) ∧ Below w.heap.size w w' := by
  obtain ⟨a, cap, rfl⟩ := h.slice
  obtain ⟨mk, mf, mo, mt, mi, ml, mc, my, es, ms⟩ := m
  dsimp only at h hi0 hi1 hl
  have hS := msgS_box w (.slice a es.length cap) ⟨mk, mf, mo, mt, mi, ml, mc, my, es, ms⟩ 76
  have hbx := (Below.refl w.heap.size w).alloc (Nat.le_refl _) (.cells #[.int .i64 mk, .int .i64 mf, .int .i64 mo, .int .i64 mt, .int .i64 mi, .int .i64 ml, .int .i64 mc, .bool my, .slice a es.length cap, .int .i64 ms.i, .int .i64 ms.t, .string ms.c, .string ms.d] 76)
  have hE := h.below hbx
  have c0 := hS.c0
  have c3 := hS.c3
  have c4 := hS.c4
  have c5 := hS.c5
  have c8 := hS.c8
  dsimp only at hS c0 c3 c4 c5 c8
  unfold msgAgg
  dsimp only
  have HB : Hid (entsB ⟨mk, mf, mo, mt, mi, ml, mc, my, es, ms⟩ = (entsM mt mi ml es && decide (es.length ≤ 8 ∧ (es.length = 0 ∨ mk = 3)))) := Lib.hid rfl
  generalize entsB ⟨mk, mf, mo, mt, mi, ml, mc, my, es, ms⟩ = R at *
  clear h
  go_enter Try.func95, Try.ntmps95
  go_wp2_with fail
  go_quiet (fail)
  go_wp2_with fail
  generalize w.alloc _ = w0 at *
  have hb0 := hS.lt
  go_loopw [3, 4, 6, 14] (fun x y _ i wr => ∃ (k : Nat) (p q : Int), k ≤ es.length ∧ i = .int .i64 k ∧ x = .int .i64 p ∧ y = .int .i64 q ∧ 0 ≤ p ∧ p ≤ 1099511627776 ∧ Below w0.heap.size w0 wr ∧ Hid (entsM mt mi ml es = entsM mt p q (es.drop k))) (fun _ _ _ i _ => es.length - (intOf i).toNat)
  case atStart => exact ⟨0, _, _, by omega, rfl, rfl, rfl, hi0, hi1, below_drewN (Below.refl _ _) _, Lib.hid (by rw [List.drop_zero])⟩
  case round =>
    obtain ⟨k, p, q, hk, rfl, rfl, rfl, hp0, hp1, hbel, hM⟩ := hrel
    have hSr := hS.below hbel
    have d0 := hSr.c0
    have d3 := hSr.c3
    have d8 := hSr.c8
    dsimp only at d0 d3 d8
    have hbw := hbx.trans (hbel.mono hbx.size)
    by_cases hlt : k < es.length
    · obtain ⟨b, off, rfl, hb1, e0, e1, e2, e3⟩ := (hE.below hbel).cells k hlt
      have hM1 := hM.out
      rw [List.drop_eq_getElem_cons hlt, entsM_cons] at hM1
      generalize es[k] = e at *
      obtain ⟨ei, et, ek, ed⟩ := e
      dsimp only at e0 e1 e2 e3 hM1
      have HM1 := Lib.hid hM1
      clear hM hM1
      have hbx1 := hbel.alloc hbel.size (.cells #[.int .i64 ei, .int .i64 et, .int .i64 ek, .string ed] 37)
      have hbw1 := hbw.alloc hbw.size (.cells #[.int .i64 ei, .int .i64 et, .int .i64 ek, .string ed] 37)
      have hS1 := hS.below hbx1
      have f3 := hS1.c3
      dsimp only at f3
      by_cases h1 : ei = p + 1
      case neg =>
        have HR : Hid (R = false) := Lib.hid (by rw [HB.out, HM1.out, show (ei == p + 1) = false from beq_eq_false_iff_ne.2 h1]; rfl)
        go_wp2_with fail
        go_ret
        rw [HR.out]
        exact ⟨rfl, hbw1⟩
      subst h1
      by_cases h2 : q ≤ et
      case neg =>
        have t2 : decide (et < q) = true := decide_eq_true (by omega)
        have HR : Hid (R = false) := Lib.hid (by rw [HB.out, HM1.out, decide_eq_false h2]; simp)
        go_wp2_with fail
        go_ret
        rw [HR.out]
        exact ⟨rfl, hbw1⟩
      have t2 : decide (et < q) = false := decide_eq_false (by omega)
      by_cases h3 : et ≤ mt
      case neg =>
        have t3 : decide (mt < et) = true := decide_eq_true (by omega)
        have HR : Hid (R = false) := Lib.hid (by rw [HB.out, HM1.out, decide_eq_false h3]; simp)
        go_wp2_with fail
        go_ret
        rw [HR.out]
        exact ⟨rfl, hbw1⟩
      have t3 : decide (mt < et) = false := decide_eq_false (by omega)
      go_wp2_with fail
      refine (wal_may (recE ⟨p + 1, et, ek, ed⟩) _).mono ?_
      rintro e w2 ⟨rfl, hb2⟩
      have hw2 := hbw1.trans (hb2.mono hbw1.size)
      cases hm : mayR (recE ⟨p + 1, et, ek, ed⟩) with
      | false =>
        have HR : Hid (R = false) := Lib.hid (by rw [HB.out, HM1.out, hm]; simp)
        go_wp2_with fail
        go_ret
        rw [HR.out]
        exact ⟨rfl, hw2⟩
      | true =>
        have hir := recE_i hm
        dsimp only at hir
        have hM2 : Hid (entsM mt mi ml es = entsM mt (p + 1) et (es.drop (k + 1))) := Lib.hid (by rw [HM1.out, hm, decide_eq_true h2, decide_eq_true h3]; simp)
        have hbz := hbx1.trans (hb2.mono hbx1.size)
        have hbA := (Below.refl wr.heap.size wr).alloc (Nat.le_refl _) (.cells #[.int .i64 (p + 1), .int .i64 et, .int .i64 ek, .string ed] 37)
        have g0 : (wr.alloc (.cells #[.int .i64 (p + 1), .int .i64 et, .int .i64 ek, .string ed] 37)).cell? ⟨wr.heap.size, 0, none⟩ = some (.int .i64 (p + 1)) := World.cell?_alloc_new _ _ _ _
        have g1 : (wr.alloc (.cells #[.int .i64 (p + 1), .int .i64 et, .int .i64 ek, .string ed] 37)).cell? ⟨wr.heap.size, 1, none⟩ = some (.int .i64 et) := World.cell?_alloc_new _ _ _ _
        have g0 := (hb2.cell (p := ⟨wr.heap.size, 0, none⟩) (by simp)).trans g0
        have g1 := (hb2.cell (p := ⟨wr.heap.size, 1, none⟩) (by simp)).trans g1
        clear hm HM1 hSr hS1 f3 d0 d3 d8 hbx1 hbw1 hbel hbw hb2 hw2 e0 e1 e2 e3 hbA
        go_wp2_with fail
        go_quiet (fail)
        go_wp2_with fail
        go_roundw
        case rel => exact ⟨k + 1, _, _, by omega, by go_num, rfl, rfl, by omega, by omega, below_drewN hbz _, hM2⟩
        case measure => simp [intOf]; omega
    · obtain rfl : k = es.length := by omega
      have HE : Hid (entsM mt mi ml es = true) := Lib.hid (by rw [hM.out, List.drop_length]; rfl)
      by_cases h8 : es.length ≤ 8
      case neg =>
        have HR : Hid (R = false) := Lib.hid (by rw [HB.out, decide_eq_false (fun h => h8 h.1)]; simp)
        have t8 : decide ((es.length : Int) ≤ 8) = false := decide_eq_false (by omega)
        go_wp2_with fail
        go_ret
        rw [HR.out]
        exact ⟨rfl, hbw⟩
      have t8 : decide ((es.length : Int) ≤ 8) = true := decide_eq_true (by omega)
      by_cases h0 : es.length = 0
      · have HR : Hid (R = true) := Lib.hid (by rw [HB.out, HE.out, decide_eq_true (⟨h8, .inl h0⟩ : es.length ≤ 8 ∧ (es.length = 0 ∨ mk = 3))]; rfl)
        have t0 : ((es.length : Int) == 0) = true := by rw [h0]; rfl
        go_wp2_with fail
        go_ret
        rw [HR.out]
        exact ⟨rfl, hbw⟩
      have t0 : ((es.length : Int) == 0) = false := beq_eq_false_iff_ne.2 (by omega)
      by_cases h3 : mk = 3
      · have HR : Hid (R = true) := Lib.hid (by rw [HB.out, HE.out, decide_eq_true (⟨h8, .inr h3⟩ : es.length ≤ 8 ∧ (es.length = 0 ∨ mk = 3))]; rfl)
        have t3 : (mk == 3) = true := by rw [h3]; rfl
        go_wp2_with fail
        go_ret
        rw [HR.out]
        first | exact ⟨rfl, hbw⟩ | exact ⟨by rw [t3]; rfl, hbw⟩
      · have HR : Hid (R = false) := Lib.hid (by rw [HB.out, decide_eq_false (fun h => h.2.elim h0 h3)]; simp)
        have t3 : (mk == 3) = false := beq_eq_false_iff_ne.2 h3
        go_wp2_with fail
        go_ret
        rw [HR.out]
        first | exact ⟨rfl, hbw⟩ | exact ⟨by rw [t3]; rfl, hbw⟩
end Go.Proofs.Ytihcohneongomaa
