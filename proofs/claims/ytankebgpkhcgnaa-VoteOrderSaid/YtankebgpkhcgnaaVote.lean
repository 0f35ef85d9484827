/-
  No claim by itself: votes: New, may, Yes, No, Won, Lost: what each tells and turns. No condition.
-/
import Derived.Test.YtankebgpkhcgnaaClone
import Derived.IntWalk
namespace Go.Proofs.Ytankebgpkhcgnaa
open Go.ChangeShapes Go.WideShapes Go.ChangeAt Go.RowKit

/-- A pointer to votes, and what they hold; F: the blocks that are theirs. -/
structure VoteS (w : World) (b : Nat) (vl vy vn : Value) (l yes no : List Int) : Prop where
  lt : b < w.heap.size
  c0 : w.cell? ⟨b, 0, none⟩ = some vl
  c1 : w.cell? ⟨b, 1, none⟩ = some vy
  c2 : w.cell? ⟨b, 2, none⟩ = some vn
  f1 : w.frozen? ⟨b, 1, none⟩ = false
  f2 : w.frozen? ⟨b, 2, none⟩ = false
  rl : RowI w vl l
  ry : RowI w vy yes
  rn : RowI w vn no
  nd : ([b] ++ vl.ownBlock.toList ++ vy.ownBlock.toList ++ vn.ownBlock.toList).Nodup

def votePtr (b : Nat) : Value := .pointer (some ⟨b, 0, none⟩)

def RetVote (w : World) (l : List Int) (e : Ending) (w' : World) : Prop :=
  ∃ b vl vy vn, e = .returned (votePtr b) ∧ VoteS w' b vl vy vn l [] [] ∧ Below w.heap.size w w' ∧
      ∀ k ∈ [b] ++ vl.ownBlock.toList ++ vy.ownBlock.toList ++ vn.ownBlock.toList, w.heap.size ≤ k

theorem voteS_fresh {w : World} {vl : Value} {l : List Int} (h : RowI w vl l) (T : TypeId) : VoteS (w.alloc (.cells #[vl, .slice none 0 0, .slice none 0 0] T)) w.heap.size vl (.slice none 0 0) (.slice none 0 0) l [] [] := by
  have hn := heap_alloc_new w (.cells #[vl, .slice none 0 0, .slice none 0 0] T)
  have hb := (Below.refl w.heap.size w).alloc (Nat.le_refl _) (.cells #[vl, .slice none 0 0, .slice none 0 0] T)
  refine ⟨?_, ?_, ?_, ?_, ?_, ?_, ?_, RowI.nil _, RowI.nil _, ?_⟩
  · show w.heap.size < (w.heap.push _).size; simp
  · rw [cell_of_row _ w.heap.size 0 _ T (0, 0) hn]; rfl
  · rw [cell_of_row _ w.heap.size 1 _ T (0, 0) hn]; rfl
  · rw [cell_of_row _ w.heap.size 2 _ T (0, 0) hn]; rfl
  · exact World.frozen?_alloc_new w _ _ 1
  · exact World.frozen?_alloc_new w _ _ 2
  · exact RowI.keeps h (Keeps.of_below (F := []) hb) (by simp)
  · have := Row.lt h
    cases ho : vl.ownBlock with
    | none => simp [Value.ownBlock]
    | some g => have := this g ho; simp [Value.ownBlock]; omega

theorem vote_new (v : Value) (l : List Int) (w : World) (h : RI w v l) (hl : l.length ≤ 1000000000) :
    Calls Try.prog 15 #[v] w fun e w' => RetVote w (if mayC l then l else []) e w' := by
  obtain ⟨L, hL⟩ : ∃ L, L = if mayC l then l else [] := ⟨_, rfl⟩
  rw [← hL]
  have hLH := Lib.hid hL
  clear hL
  go_enter Try.func15, Try.ntmps15
  go_wp2_with fail
  refine (conf_may _ _ _ h).mono ?_
  rintro e w' ⟨rfl, rfl⟩
  by_cases hm : mayC l = true
  · obtain rfl : L = l := by rw [hLH.out, if_pos hm]
    rw [hm]
    go_wp2_with fail
    refine (sl_clone _ _ _ h hl).mono ?_
    rintro e w1 ⟨v1, rfl, hr, hb, hk⟩
    obtain ⟨a1, c1, rfl⟩ := Row.shape hr
    rw [List.length_map] at *
    have hK := Lib.hid hk
    have hR := Lib.hid hr
    clear hk hr
    go_wp2_with fail
    go_ret
    exact ⟨w1.heap.size, _, _, _, rfl, voteS_fresh hR.out _, hb.alloc hb.size _, by
      have h1 := hb.size
      intro k hk
      simp only [List.append_assoc, List.mem_append, List.mem_singleton, Option.mem_toList] at hk
      rcases hk with rfl | hk | hk | hk
      · exact h1
      · exact hK.out k hk
      · cases hk
      · cases hk⟩
  · have hm : mayC l = false := by simpa using hm
    obtain rfl : L = [] := by rw [hLH.out, hm]; rfl
    rw [hm]
    go_wp2_with fail
    refine (sl_clone _ [] _ (RowI.nil _).ri (by simp)).mono ?_
    rintro e w1 ⟨v1, rfl, hr, hb, hk⟩
    obtain ⟨a1, c1, rfl⟩ := Row.shape hr
    rw [List.length_map] at *
    have hK := Lib.hid hk
    have hR := Lib.hid hr
    clear hk hr
    go_wp2_with fail
    go_ret
    exact ⟨w1.heap.size, _, _, _, rfl, voteS_fresh hR.out _, hb.alloc hb.size _, by
      have h1 := hb.size
      intro k hk
      simp only [List.append_assoc, List.mem_append, List.mem_singleton, Option.mem_toList] at hk
      rcases hk with rfl | hk | hk | hk
      · exact h1
      · exact hK.out k hk
      · cases hk
      · cases hk⟩

def canC (l yes no : List Int) (x : Int) : Bool := decide (x ∈ l) && !decide (x ∈ yes) && !decide (x ∈ no)

theorem vote_may {w : World} {b : Nat} {vl vy vn : Value} {l yes no : List Int} (x : Int) (h : VoteS w b vl vy vn l yes no) :
    Calls Try.prog 51 #[votePtr b, .int .i64 x] w fun e w' => e = .returned (.bool (canC l yes no x)) ∧ w' = w := by
  have c0 := h.c0
  have c1 := h.c1
  have c2 := h.c2
  have rl := h.rl.ri
  have ry := h.ry.ri
  have rn := h.rn.ri
  unfold votePtr
  have HC : Hid (canC l yes no x = (decide (x ∈ l) && !decide (x ∈ yes) && !decide (x ∈ no))) := Lib.hid rfl
  clear h
  go_enter Try.func51, Try.ntmps51
  go_wp2_with fail
  refine (conf_has _ _ _ _ rl).mono ?_
  rintro e w' ⟨rfl, rfl⟩
  by_cases hA : x ∈ l
  · rw [decide_eq_true hA] at HC ⊢
    go_wp2_with fail
    refine (conf_has _ _ _ _ ry).mono ?_
    rintro e w' ⟨rfl, rfl⟩
    by_cases hB : x ∈ yes
    · rw [decide_eq_true hB] at HC ⊢
      go_wp2_with fail
      go_ret
      exact ⟨by rw [HC.out]; rfl, rfl⟩
    · rw [decide_eq_false hB] at HC ⊢
      go_wp2_with fail
      refine (conf_has _ _ _ _ rn).mono ?_
      rintro e w' ⟨rfl, rfl⟩
      by_cases hD : x ∈ no
      · rw [decide_eq_true hD] at HC ⊢
        go_wp2_with fail
        go_ret
        exact ⟨by rw [HC.out]; rfl, rfl⟩
      · rw [decide_eq_false hD] at HC ⊢
        go_wp2_with fail
        go_ret
        exact ⟨by rw [HC.out]; rfl, rfl⟩
  · rw [decide_eq_false hA] at HC ⊢
    go_wp2_with fail
    go_ret
    exact ⟨by rw [HC.out]; rfl, rfl⟩

def own3 (b : Nat) (vl vy vn : Value) : List Nat := [b] ++ vl.ownBlock.toList ++ vy.ownBlock.toList ++ vn.ownBlock.toList

theorem mem_own3 {b : Nat} {vl vy vn : Value} {k : Nat} : k ∈ own3 b vl vy vn ↔ k = b ∨ vl.ownBlock = some k ∨ vy.ownBlock = some k ∨ vn.ownBlock = some k := by
  simp [own3, or_assoc]

theorem nodup3 {b : Nat} {o1 o2 o3 : Option Nat} : ([b] ++ o1.toList ++ o2.toList ++ o3.toList).Nodup ↔
    (∀ k, o1 = some k → k ≠ b) ∧ (∀ k, o2 = some k → k ≠ b) ∧ (∀ k, o3 = some k → k ≠ b) ∧ (∀ k, o1 = some k → o2 ≠ some k) ∧ (∀ k, o1 = some k → o3 ≠ some k) ∧ (∀ k, o2 = some k → o3 ≠ some k) := by
  cases o1 <;> cases o2 <;> cases o3 <;> simp <;> omega

theorem VoteS.own_lt {w : World} {b : Nat} {vl vy vn : Value} {l yes no : List Int} (h : VoteS w b vl vy vn l yes no) : ∀ k ∈ own3 b vl vy vn, k < w.heap.size := by
  intro k hk
  rcases mem_own3.1 hk with rfl | hk | hk | hk
  · exact h.lt
  · exact Row.lt h.rl k hk
  · exact Row.lt h.ry k hk
  · exact Row.lt h.rn k hk

theorem VoteS.keeps {w w' : World} {b : Nat} {vl vy vn : Value} {l yes no : List Int} {F : List Nat} (h : VoteS w b vl vy vn l yes no) (hk : Keeps F w w') (hF : ∀ k ∈ own3 b vl vy vn, k ∉ F) : VoteS w' b vl vy vn l yes no := by
  have hb := hF b (mem_own3.2 (.inl rfl))
  refine ⟨Nat.lt_of_lt_of_le h.lt hk.size, ?_, ?_, ?_, ?_, ?_, h.rl.keeps hk fun k e => hF k (mem_own3.2 (.inr (.inl e))), h.ry.keeps hk fun k e => hF k (mem_own3.2 (.inr (.inr (.inl e)))), h.rn.keeps hk fun k e => hF k (mem_own3.2 (.inr (.inr (.inr e)))), h.nd⟩
  · rw [hk.cell (p := ⟨b, 0, none⟩) h.lt hb]; exact h.c0
  · rw [hk.cell (p := ⟨b, 1, none⟩) h.lt hb]; exact h.c1
  · rw [hk.cell (p := ⟨b, 2, none⟩) h.lt hb]; exact h.c2
  · rw [hk.frozen (p := ⟨b, 1, none⟩) h.lt hb]; exact h.f1
  · rw [hk.frozen (p := ⟨b, 2, none⟩) h.lt hb]; exact h.f2

/-- A vote was counted: one list has another row. -/
theorem VoteS.setYes {w w1 : World} {b : Nat} {vl vy vn vy' : Value} {l yes no yes' : List Int} (h : VoteS w b vl vy vn l yes no) (hk : Keeps vy.ownBlock.toList w w1) (hr : RowI w1 vy' yes')
    (hn : ∀ k, vy'.ownBlock = some k → vy.ownBlock = some k ∨ w.heap.size ≤ k) :
    VoteS (w1.setCell ⟨b, 1, none⟩ vy') b vl vy' vn l yes' no ∧ Keeps (own3 b vl vy vn) w (w1.setCell ⟨b, 1, none⟩ vy') := by
  obtain ⟨n1, n2, n3, n4, n5, n6⟩ := nodup3.1 h.nd
  have ol : ∀ k, vl.ownBlock = some k → k < w.heap.size := Row.lt h.rl
  have oy : ∀ k, vn.ownBlock = some k → k < w.heap.size := Row.lt h.rn
  have hlt := h.lt
  have hbk : b ∉ vy.ownBlock.toList := by simp only [Option.mem_toList]; intro e; exact n2 b e rfl
  have c0 := (hk.cell (p := ⟨b, 0, none⟩) h.lt hbk).trans h.c0
  have c1 := (hk.cell (p := ⟨b, 1, none⟩) h.lt hbk).trans h.c1
  have c2 := (hk.cell (p := ⟨b, 2, none⟩) h.lt hbk).trans h.c2
  have y' : ∀ k, vy'.ownBlock = some k → k ≠ b := fun k e => (hn k e).elim (fun e => n2 k e) (fun e => by omega)
  have hs : Keeps [b] w1 (w1.setCell ⟨b, 1, none⟩ vy') := (Keeps.refl [b] w1).setCell (.inl (by simp)) _
  refine ⟨⟨?_, ?_, ?_, ?_, ?_, ?_, ?_, ?_, ?_, ?_⟩, ?_⟩
  · have := hk.size; simp [World.setCell]; omega
  · rw [World.cell?_setCell_other (h := by simp)]; exact c0
  · exact World.cell?_setCell_same _ _ _ c1
  · rw [World.cell?_setCell_other (h := by simp)]; exact c2
  · rw [World.frozen?_setCell]; exact (hk.frozen (p := ⟨b, 1, none⟩) h.lt hbk).trans h.f1
  · rw [World.frozen?_setCell]; exact (hk.frozen (p := ⟨b, 2, none⟩) h.lt hbk).trans h.f2
  · exact (h.rl.keeps hk fun k e => by simp only [Option.mem_toList]; exact n4 k e).keeps hs fun k e => by simp only [List.mem_singleton]; exact n1 k e
  · exact hr.keeps hs fun k e => by simp only [List.mem_singleton]; exact y' k e
  · exact (h.rn.keeps hk fun k e => by simp only [Option.mem_toList]; exact fun e' => n6 k e' e).keeps hs fun k e => by simp only [List.mem_singleton]; exact n3 k e
  · refine nodup3.2 ⟨n1, y', n3, fun k e e' => (hn k e').elim (fun h => n4 k e h) (fun h => by have := ol k e; omega), n5, fun k e e' => (hn k e).elim (fun h => n6 k h e') (fun h => by have := oy k e'; omega)⟩
  · refine (hk.mono fun x hx _ => ?_).trans hs fun x hx => .inl ?_
    · simp only [Option.mem_toList] at hx; exact mem_own3.2 (.inr (.inr (.inl hx)))
    · simp only [List.mem_singleton] at hx; exact mem_own3.2 (.inl hx)

def VotedYes (w : World) (b : Nat) (vl vy vn : Value) (l yes no : List Int) (x : Int) (e : Ending) (w' : World) : Prop :=
  ∃ vy', e = .returned (.bool (canC l yes no x)) ∧ VoteS w' b vl vy' vn l (if canC l yes no x then yes ++ [x] else yes) no ∧ Keeps (own3 b vl vy vn) w w' ∧ ∀ k, vy'.ownBlock = some k → vy.ownBlock = some k ∨ w.heap.size ≤ k

theorem vote_yes {w : World} {b : Nat} {vl vy vn : Value} {l yes no : List Int} (x : Int) (h : VoteS w b vl vy vn l yes no) (hl : yes.length ≤ 1000000) :
    Calls Try.prog 17 #[votePtr b, .int .i64 x] w fun e w' => VotedYes w b vl vy vn l yes no x e w' := by
  have hM := vote_may x h
  have HV : Hid (VotedYes w b vl vy vn l yes no x = VotedYes w b vl vy vn l yes no x) := Lib.hid rfl
  unfold votePtr at hM ⊢
  obtain ⟨c, hc⟩ : ∃ c, c = canC l yes no x := ⟨_, rfl⟩
  rw [← hc] at hM
  have HC := Lib.hid hc
  clear hc
  have HS := Lib.hid h
  have c1 := h.c1
  have f1 := h.f1
  have hlt := h.lt
  have n2 := (nodup3.1 h.nd).2.1
  have hbk : b ∉ vy.ownBlock.toList := by simp only [Option.mem_toList]; intro e; exact n2 b e rfl
  have hbk := Lib.hid hbk
  clear n2 h
  go_enter Try.func17, Try.ntmps17
  go_wp2_with fail
  refine hM.mono ?_
  rintro e w' ⟨rfl, rfl⟩
  cases c
  · go_wp2_with fail
    go_ret
    refine ⟨vy, by rw [← HC.out]; rfl, by rw [← HC.out]; exact HS.out, Keeps.refl _ _, fun k e => .inl e⟩
  · have hb := (Below.refl w'.heap.size w').alloc (Nat.le_refl _) (.cells #[Value.int .i64 x] 3)
    have hown : Row (w'.alloc (.cells #[Value.int .i64 x] 3)) 3 vy (yes.map (Value.int .i64)) := RowI.keeps HS.out.ry (Keeps.of_below (F := []) hb) (by simp)
    have hsrc := Reads.fresh w' ([x].map (Value.int .i64)) 3 (0, 0) #[.int .i64 x] 1 rfl rfl (by simp)
    go_wp2_with (at_builtin; refine wpList_append_row 27 3 (.int .i64 0) 8 Try.underlying27 info_i64 rfl rfl _ _ rfl hown hsrc (ints_oneCell [x]) rfl rfl (by simp [maxLen]; omega) (by simp; omega) ?_)
    intro v2 w2 ho hg hk
    obtain ⟨sa, sn, sc, rfl⟩ := Row.slice ho
    have hK1 : Keeps vy.ownBlock.toList w' w2 := (Keeps.of_below hb).trans (Keeps.of_grown hg) (fun x hx => .inl hx)
    have hk2 : ∀ k, (Value.slice sa sn sc).ownBlock = some k → vy.ownBlock = some k ∨ w'.heap.size ≤ k := fun k e => (hk k e).imp id fun h => by omega
    have HN := Lib.hid (HS.out.setYes hK1 (show RowI w2 (.slice sa sn sc) (yes ++ [x]) by unfold RowI; rw [List.map_append]; exact ho) hk2)
    have HK2 := Lib.hid hk2
    rw [← hK1.cell (p := ⟨b, 1, none⟩) hlt hbk.out] at c1
    rw [← hK1.frozen (p := ⟨b, 1, none⟩) hlt hbk.out] at f1
    clear hk hk2 hg ho hown hsrc hb hK1
    go_wp2_with fail
    go_ret
    refine ⟨_, by rw [← HC.out]; rfl, by rw [← HC.out]; exact HN.out.1, HN.out.2, HK2.out⟩
/-- The same of a no. -/
theorem VoteS.setNo {w w1 : World} {b : Nat} {vl vy vn vn' : Value} {l yes no no' : List Int} (h : VoteS w b vl vy vn l yes no) (hk : Keeps vn.ownBlock.toList w w1) (hr : RowI w1 vn' no')
    (hn : ∀ k, vn'.ownBlock = some k → vn.ownBlock = some k ∨ w.heap.size ≤ k) :
    VoteS (w1.setCell ⟨b, 2, none⟩ vn') b vl vy vn' l yes no' ∧ Keeps (own3 b vl vy vn) w (w1.setCell ⟨b, 2, none⟩ vn') := by
  obtain ⟨n1, n2, n3, n4, n5, n6⟩ := nodup3.1 h.nd
  have ol : ∀ k, vl.ownBlock = some k → k < w.heap.size := Row.lt h.rl
  have oy : ∀ k, vy.ownBlock = some k → k < w.heap.size := Row.lt h.ry
  have hlt := h.lt
  have hbk : b ∉ vn.ownBlock.toList := by simp only [Option.mem_toList]; intro e; exact n3 b e rfl
  have c0 := (hk.cell (p := ⟨b, 0, none⟩) h.lt hbk).trans h.c0
  have c1 := (hk.cell (p := ⟨b, 1, none⟩) h.lt hbk).trans h.c1
  have c2 := (hk.cell (p := ⟨b, 2, none⟩) h.lt hbk).trans h.c2
  have y' : ∀ k, vn'.ownBlock = some k → k ≠ b := fun k e => (hn k e).elim (fun e => n3 k e) (fun e => by omega)
  have hs : Keeps [b] w1 (w1.setCell ⟨b, 2, none⟩ vn') := (Keeps.refl [b] w1).setCell (.inl (by simp)) _
  refine ⟨⟨?_, ?_, ?_, ?_, ?_, ?_, ?_, ?_, ?_, ?_⟩, ?_⟩
  · have := hk.size; simp [World.setCell]; omega
  · rw [World.cell?_setCell_other (h := by simp)]; exact c0
  · rw [World.cell?_setCell_other (h := by simp)]; exact c1
  · exact World.cell?_setCell_same _ _ _ c2
  · rw [World.frozen?_setCell]; exact (hk.frozen (p := ⟨b, 1, none⟩) h.lt hbk).trans h.f1
  · rw [World.frozen?_setCell]; exact (hk.frozen (p := ⟨b, 2, none⟩) h.lt hbk).trans h.f2
  · exact (h.rl.keeps hk fun k e => by simp only [Option.mem_toList]; exact n5 k e).keeps hs fun k e => by simp only [List.mem_singleton]; exact n1 k e
  · exact (h.ry.keeps hk fun k e => by simp only [Option.mem_toList]; exact n6 k e).keeps hs fun k e => by simp only [List.mem_singleton]; exact n2 k e
  · exact hr.keeps hs fun k e => by simp only [List.mem_singleton]; exact y' k e
  · refine nodup3.2 ⟨n1, n2, y', n4, fun k e e' => (hn k e').elim (fun h => n5 k e h) (fun h => by have := ol k e; omega), fun k e e' => (hn k e').elim (fun h => n6 k e h) (fun h => by have := oy k e; omega)⟩
  · refine (hk.mono fun x hx _ => ?_).trans hs fun x hx => .inl ?_
    · simp only [Option.mem_toList] at hx; exact mem_own3.2 (.inr (.inr (.inr hx)))
    · simp only [List.mem_singleton] at hx; exact mem_own3.2 (.inl hx)

def VotedNo (w : World) (b : Nat) (vl vy vn : Value) (l yes no : List Int) (x : Int) (e : Ending) (w' : World) : Prop :=
  ∃ vn', e = .returned (.bool (canC l yes no x)) ∧ VoteS w' b vl vy vn' l yes (if canC l yes no x then no ++ [x] else no) ∧ Keeps (own3 b vl vy vn) w w' ∧ ∀ k, vn'.ownBlock = some k → vn.ownBlock = some k ∨ w.heap.size ≤ k

theorem vote_no {w : World} {b : Nat} {vl vy vn : Value} {l yes no : List Int} (x : Int) (h : VoteS w b vl vy vn l yes no) (hl : no.length ≤ 1000000) :
    Calls Try.prog 18 #[votePtr b, .int .i64 x] w fun e w' => VotedNo w b vl vy vn l yes no x e w' := by
  have hM := vote_may x h
  have HV : Hid (VotedNo w b vl vy vn l yes no x = VotedNo w b vl vy vn l yes no x) := Lib.hid rfl
  unfold votePtr at hM ⊢
  obtain ⟨c, hc⟩ : ∃ c, c = canC l yes no x := ⟨_, rfl⟩
  rw [← hc] at hM
  have HC := Lib.hid hc
  clear hc
  have HS := Lib.hid h
  have c1 := h.c2
  have f1 := h.f2
  have hlt := h.lt
  have n2 := (nodup3.1 h.nd).2.2.1
  have hbk : b ∉ vn.ownBlock.toList := by simp only [Option.mem_toList]; intro e; exact n2 b e rfl
  have hbk := Lib.hid hbk
  clear n2 h
  go_enter Try.func18, Try.ntmps18
  go_wp2_with fail
  refine hM.mono ?_
  rintro e w' ⟨rfl, rfl⟩
  cases c
  · go_wp2_with fail
    go_ret
    refine ⟨vn, by rw [← HC.out]; rfl, by rw [← HC.out]; exact HS.out, Keeps.refl _ _, fun k e => .inl e⟩
  · have hb := (Below.refl w'.heap.size w').alloc (Nat.le_refl _) (.cells #[Value.int .i64 x] 3)
    have hown : Row (w'.alloc (.cells #[Value.int .i64 x] 3)) 3 vn (no.map (Value.int .i64)) := RowI.keeps HS.out.rn (Keeps.of_below (F := []) hb) (by simp)
    have hsrc := Reads.fresh w' ([x].map (Value.int .i64)) 3 (0, 0) #[.int .i64 x] 1 rfl rfl (by simp)
    go_wp2_with (at_builtin; refine wpList_append_row 27 3 (.int .i64 0) 8 Try.underlying27 info_i64 rfl rfl _ _ rfl hown hsrc (ints_oneCell [x]) rfl rfl (by simp [maxLen]; omega) (by simp; omega) ?_)
    intro v2 w2 ho hg hk
    obtain ⟨sa, sn, sc, rfl⟩ := Row.slice ho
    have hK1 : Keeps vn.ownBlock.toList w' w2 := (Keeps.of_below hb).trans (Keeps.of_grown hg) (fun x hx => .inl hx)
    have hk2 : ∀ k, (Value.slice sa sn sc).ownBlock = some k → vn.ownBlock = some k ∨ w'.heap.size ≤ k := fun k e => (hk k e).imp id fun h => by omega
    have HN := Lib.hid (HS.out.setNo hK1 (show RowI w2 (.slice sa sn sc) (no ++ [x]) by unfold RowI; rw [List.map_append]; exact ho) hk2)
    have HK2 := Lib.hid hk2
    rw [← hK1.cell (p := ⟨b, 2, none⟩) hlt hbk.out] at c1
    rw [← hK1.frozen (p := ⟨b, 2, none⟩) hlt hbk.out] at f1
    clear hk hk2 hg ho hown hsrc hb hK1
    go_wp2_with fail
    go_ret
    refine ⟨_, by rw [← HC.out]; rfl, by rw [← HC.out]; exact HN.out.1, HN.out.2, HK2.out⟩

theorem vote_won {w : World} {b : Nat} {vl vy vn : Value} {l yes no : List Int} (h : VoteS w b vl vy vn l yes no) (hl : l.length ≤ 1000000) :
    Calls Try.prog 19 #[votePtr b] w fun e w' => e = .returned (.bool (majC l yes)) ∧ ∃ n, w' = w.drewN n := by
  have c0 := h.c0
  have c1 := h.c1
  have rl := h.rl.ri
  have ry := h.ry.ri
  unfold votePtr
  clear h
  go_enter Try.func19, Try.ntmps19
  go_wp2_with fail
  go_quiet ((go_at_call 52; exact Calls.quiet_of_same (conf_majority _ _ _ _ _ (rl.drewN _) (ry.drewN _) (by omega))))
  go_wp2_with fail
  go_ret
  exact ⟨rfl, _, rfl⟩

def lostC (l no : List Int) : Bool := decide (0 < l.length) && decide (2 * ((l.length : Int) - no.length) ≤ l.length)

theorem vote_lost {w : World} {b : Nat} {vl vy vn : Value} {l yes no : List Int} (h : VoteS w b vl vy vn l yes no) (hl : l.length ≤ 1000000) (hn : no.length ≤ 1000000) :
    Calls Try.prog 20 #[votePtr b] w fun e w' => e = .returned (.bool (lostC l no)) ∧ ∃ n, w' = w.drewN n := by
  have c0 := h.c0
  have c2 := h.c2
  obtain ⟨al, cl, hvl⟩ := Row.shape h.rl
  obtain ⟨an, cn, hvn⟩ := Row.shape h.rn
  rw [List.length_map] at hvl hvn
  rw [hvl] at c0
  rw [hvn] at c2
  unfold votePtr
  have HL : Hid (lostC l no = (decide (0 < l.length) && decide (2 * ((l.length : Int) - no.length) ≤ l.length))) := Lib.hid rfl
  clear h hvl hvn
  generalize l.length = x at *
  generalize no.length = y at *
  by_cases h0 : x = 0
  · subst h0
    have t1 : decide ((0 : Int) < ((0 : Nat) : Int)) = false := rfl
    go_enter Try.func20, Try.ntmps20
    go_wp2_with fail
    go_quiet (fail)
    go_wp2_with fail
    go_ret
    exact ⟨by rw [HL.out]; rfl, _, rfl⟩
  · have t1 : decide ((0 : Int) < (x : Int)) = true := decide_eq_true (by omega)
    have t2 : decide (0 < x) = true := decide_eq_true (by omega)
    have t3 : 0 < x := by omega
    have s1 : IntKind.i64.wrap ((x : Int) - y) = (x : Int) - y := IntWalk.i64_in _ (by omega)
    have s2 : IntKind.i64.wrap (2 * ((x : Int) - y)) = 2 * ((x : Int) - y) := IntWalk.i64_in _ (by omega)
    go_enter Try.func20, Try.ntmps20
    go_wp2_with fail
    go_quiet (fail)
    go_wp2_with fail
    go_ret
    refine ⟨?_, _, rfl⟩
    rw [HL.out, decide_eq_true (show 0 < x by omega), Bool.true_and]
    rfl
end Go.Proofs.Ytankebgpkhcgnaa
