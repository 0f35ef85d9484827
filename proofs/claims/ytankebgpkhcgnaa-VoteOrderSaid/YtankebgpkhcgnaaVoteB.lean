/-
  No claim by itself: three voters vote: what the laws of votes begin with. No condition.
-/
import Derived.Test.YtankebgpkhcgnaaVote
namespace Go.Proofs.Ytankebgpkhcgnaa
open Go.ChangeShapes Go.WideShapes Go.ChangeAt Go.RowKit

/-- All that was made since a world, and a vote of it. -/
structure VoteB (W w : World) (b : Nat) (vl vy vn : Value) (l yes no : List Int) : Prop where
  s : VoteS w b vl vy vn l yes no
  below : Below W.heap.size W w
  own : ∀ k ∈ own3 b vl vy vn, W.heap.size ≤ k

theorem VoteB.drewN {W w : World} {b : Nat} {vl vy vn : Value} {l yes no : List Int} (h : VoteB W w b vl vy vn l yes no) (n : Nat) : VoteB W (w.drewN n) b vl vy vn l yes no :=
  ⟨h.s.keeps (Keeps.of_below (F := []) (below_drewN (Below.refl _ _) n)) (by simp), below_drewN h.below n, h.own⟩

theorem VoteB.yes {W w w' : World} {b : Nat} {vl vy vn : Value} {l yes no : List Int} {x : Int} {e : Ending} (h : VoteB W w b vl vy vn l yes no) (hv : VotedYes w b vl vy vn l yes no x e w') :
    e = .returned (.bool (canC l yes no x)) ∧ ∃ vy', VoteB W w' b vl vy' vn l (if canC l yes no x then yes ++ [x] else yes) no := by
  obtain ⟨vy', he, hs, hk, hn⟩ := hv
  have hsz := h.below.size
  refine ⟨he, vy', hs, h.below.trans (hk.below (B := W.heap.size) h.own hsz), fun k hk => ?_⟩
  rcases mem_own3.1 hk with h1 | h1 | h1 | h1
  · exact h.own k (mem_own3.2 (.inl h1))
  · exact h.own k (mem_own3.2 (.inr (.inl h1)))
  · rcases hn k h1 with h2 | h2
    · exact h.own k (mem_own3.2 (.inr (.inr (.inl h2))))
    · omega
  · exact h.own k (mem_own3.2 (.inr (.inr (.inr h1))))

theorem VoteB.no {W w w' : World} {b : Nat} {vl vy vn : Value} {l yes no : List Int} {x : Int} {e : Ending} (h : VoteB W w b vl vy vn l yes no) (hv : VotedNo w b vl vy vn l yes no x e w') :
    e = .returned (.bool (canC l yes no x)) ∧ ∃ vn', VoteB W w' b vl vy vn' l yes (if canC l yes no x then no ++ [x] else no) := by
  obtain ⟨vn', he, hs, hk, hn⟩ := hv
  have hsz := h.below.size
  refine ⟨he, vn', hs, h.below.trans (hk.below (B := W.heap.size) h.own hsz), fun k hk => ?_⟩
  rcases mem_own3.1 hk with h1 | h1 | h1 | h1
  · exact h.own k (mem_own3.2 (.inl h1))
  · exact h.own k (mem_own3.2 (.inr (.inl h1)))
  · exact h.own k (mem_own3.2 (.inr (.inr (.inl h1))))
  · rcases hn k h1 with h2 | h2
    · exact h.own k (mem_own3.2 (.inr (.inr (.inr h2))))
    · omega

theorem vote_begun (w : World) : Calls Try.prog 16 #[] w fun e w' => e = .returned (.bool true) ∧ Below w.heap.size w w' := by
  have hr := Reads.fresh w ([1, 2, 3].map (Value.int .i64)) 3 (0, 0) #[.int .i64 1, .int .i64 2, .int .i64 3] 3 rfl rfl (by simp)
  have hb0 := (Below.refl w.heap.size w).alloc (Nat.le_refl _) (.cells #[.int .i64 1, .int .i64 2, .int .i64 3] 3)
  go_enter Try.func16, Try.ntmps16
  go_wp2_with fail
  refine (vote_new _ [1, 2, 3] _ hr (by simp)).mono ?_
  rintro e w1 ⟨b, vl, vy, vn, rfl, hs, hb, ho⟩
  have hm : mayC [1, 2, 3] = true := by decide
  rw [hm, if_pos rfl] at hs
  have hV : VoteB w w1 b vl vy vn [1, 2, 3] [] [] := ⟨hs, hb0.trans (hb.mono hb0.size), fun k hk => Nat.le_trans hb0.size (ho k hk)⟩
  clear hr hb0 hs hb ho hm
  unfold votePtr
  go_wp2_with fail
  refine (vote_yes 1 hV.s (by simp)).mono ?_
  intro e w2 hv
  obtain ⟨rfl, vy1, hV1⟩ := hV.yes hv
  clear hv hV
  rw [show canC [1, 2, 3] [] [] 1 = true from by decide] at hV1 ⊢
  rw [if_pos rfl] at hV1
  go_wp2_with fail
  refine (vote_yes 1 hV1.s (by simp)).mono ?_
  intro e w3 hv
  obtain ⟨rfl, vy2, hV2⟩ := hV1.yes hv
  clear hv hV1
  rw [show canC [1, 2, 3] ([] ++ [1]) [] 1 = false from by decide] at hV2 ⊢
  rw [if_neg (by decide)] at hV2
  go_wp2_with fail
  refine (vote_won hV2.s (by simp)).mono ?_
  rintro e w4 ⟨rfl, n4, rfl⟩
  have hV3 := hV2.drewN n4
  clear hV2
  rw [show majC [1, 2, 3] ([] ++ [1]) = false from by decide]
  generalize w3.drewN n4 = w4 at *
  go_wp2_with fail
  refine (vote_no 2 hV3.s (by simp)).mono ?_
  intro e w5 hv
  obtain ⟨rfl, vn1, hV4⟩ := hV3.no hv
  clear hv hV3
  rw [show canC [1, 2, 3] ([] ++ [1]) [] 2 = true from by decide] at hV4 ⊢
  rw [if_pos rfl] at hV4
  go_wp2_with fail
  refine (vote_lost hV4.s (by simp) (by simp)).mono ?_
  rintro e w6 ⟨rfl, n6, rfl⟩
  have hV5 := hV4.drewN n6
  clear hV4
  rw [show lostC [1, 2, 3] ([] ++ [2]) = false from by decide]
  generalize w5.drewN n6 = w6 at *
  go_wp2_with fail
  refine (vote_yes 3 hV5.s (by simp)).mono ?_
  intro e w7 hv
  obtain ⟨rfl, vy3, hV6⟩ := hV5.yes hv
  clear hv hV5
  rw [show canC [1, 2, 3] ([] ++ [1]) ([] ++ [2]) 3 = true from by decide] at hV6 ⊢
  rw [if_pos rfl] at hV6
  go_wp2_with fail
  refine (vote_won hV6.s (by simp)).mono ?_
  rintro e w8 ⟨rfl, n8, rfl⟩
  have hV7 := hV6.drewN n8
  clear hV6
  rw [show majC [1, 2, 3] ([] ++ [1] ++ [3]) = true from by decide]
  generalize w7.drewN n8 = w8 at *
  go_wp2_with fail
  refine (vote_yes 9 hV7.s (by simp)).mono ?_
  intro e w9 hv
  obtain ⟨rfl, vy4, hV8⟩ := hV7.yes hv
  clear hv hV7
  rw [show canC [1, 2, 3] ([] ++ [1] ++ [3]) ([] ++ [2]) 9 = false from by decide] at hV8 ⊢
  go_wp2_with fail
  go_ret
  exact ⟨rfl, hV8.below⟩
end Go.Proofs.Ytankebgpkhcgnaa
