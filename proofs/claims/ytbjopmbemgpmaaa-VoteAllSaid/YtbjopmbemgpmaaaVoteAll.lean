/-
  Each votes once; it is won by more than half, lost when it can't be any more; of any voters and any votes. No condition.
-/
import Derived.Test.YtbjopmbemgpmaaaVoteB
import Derived.Test.YtbjopmbemgpmaaaConfRef
import Derived.Test.YtbjopmbemgpmaaaRecs
import Derived.Deep.DeepCutAuto
import Derived.Deep.Cut
namespace Go.Proofs.Ytbjopmbemgpmaaa
open Go.ChangeShapes Go.WideShapes Go.ChangeAt Go.RowKit

def voteOp (o : Int × Bool) : List Value := [.int .i64 o.1, .bool o.2]

def voteAll_wit1 : Value := .slice none 0 0
theorem voteAll_open1 {H : Type} {enc : TypeId × Value → H} {W : World} {base base' : Nat} {r : Reach} {v : Value} {d : DataW H} {ps : List MemPlace}
    (hv : Value.okWide Try.prog W r base' 52 v) (h : DataW.Trod enc Try.prog W base (fun _ => true) true 52 v d ps) : ∃ l, Recs 2 voteOp W v l := by
  obtain ⟨l, hl, _⟩ := open_recs (f := voteOp) (good := fun _ => True) Try.underlying52 Try.underlying57 (by kernel_rfl) (by kernel_rfl) (by decide) hv (fun vs hvs hf => by
    obtain ⟨n0, y0, u0, e0, t0⟩ := hf 0 _ rfl
    obtain ⟨n1, y1, u1, e1, t1⟩ := hf 1 _ rfl
    obtain ⟨x, hx, _, _⟩ := DataW.trod_int Try.underlying3 t0
    obtain ⟨b, hb, _⟩ := DataW.trod_bool Try.underlying4 t1
    simp only [List.cons.injEq, and_true] at hx hb
    subst hx hb
    refine ⟨(x, b), ?_, trivial⟩
    match vs, hvs with
    | [a, b'], _ =>
      simp only [List.getElem?_cons_zero, List.getElem?_cons_succ, Option.some.injEq] at e0 e1
      subst e0 e1
      rfl) h
  exact ⟨l, hl⟩

theorem majC_LL (L ya : List Int) : majC (if mayC L then L else []) ya = majC L ya := by
  by_cases h : mayC L = true
  · rw [if_pos h]
  · rw [if_neg h]
    unfold majC
    rw [show mayC L = false by simpa using h]
    rfl
theorem lostC_LL (L na : List Int) : lostC (if mayC L then L else []) na = (mayC L && decide (2 * ((L.length : Int) - na.length) ≤ L.length)) := by
  by_cases h : mayC L = true
  · rw [if_pos h, h]
    have h0 : 0 < L.length := by
      unfold mayC at h
      rw [Bool.and_eq_true, decide_eq_true_eq] at h
      exact h.2
    unfold lostC
    rw [decide_eq_true h0]
  · rw [if_neg h, show mayC L = false by simpa using h]
    rfl

/-- What the law holds at each round: the votes, and its own two lists, each in blocks of its own. -/
structure VA (W w : World) (b : Nat) (l yv nv yl nl : List Int) (s8 s9 : Value) (vl vy vn : Value) : Prop where
  v : VoteB W w b vl vy vn l yv nv
  r8 : RowI w s8 yl
  r9 : RowI w s9 nl
  o8 : ∀ k, s8.ownBlock = some k → W.heap.size ≤ k ∧ k ∉ own3 b vl vy vn ∧ s9.ownBlock ≠ some k
  o9 : ∀ k, s9.ownBlock = some k → W.heap.size ≤ k ∧ k ∉ own3 b vl vy vn

section
variable {W w w' : World} {b : Nat} {l yv nv yl nl : List Int} {s8 s9 vl vy vn : Value}
theorem VA.grow (h : VA W w b l yv nv yl nl s8 s9 vl vy vn) (hb : Below w.heap.size w w') : VA W w' b l yv nv yl nl s8 s9 vl vy vn :=
  ⟨⟨h.v.s.keeps (Keeps.of_below (F := []) hb) (by simp), h.v.below.trans (hb.mono h.v.below.size), h.v.own⟩, h.r8.keeps (Keeps.of_below (F := []) hb) (by simp), h.r9.keeps (Keeps.of_below (F := []) hb) (by simp), h.o8, h.o9⟩

theorem VA.yes {x : Int} {e : Ending} (h : VA W w b l yv nv yl nl s8 s9 vl vy vn) (hv : VotedYes w b vl vy vn l yv nv x e w') :
    e = .returned (.bool (canC l yv nv x)) ∧ ∃ vy', VA W w' b l (if canC l yv nv x then yv ++ [x] else yv) nv yl nl s8 s9 vl vy' vn ∧ ∀ N, N < w.heap.size → N ∉ own3 b vl vy vn → w'.heap[N]? = w.heap[N]? := by
  have h8 := Row.lt h.r8
  have h9 := Row.lt h.r9
  obtain ⟨vy', he, hs, hk, hn⟩ := hv
  have new : ∀ k ∈ own3 b vl vy' vn, k ∈ own3 b vl vy vn ∨ w.heap.size ≤ k := fun k hk => by
    rcases mem_own3.1 hk with h1 | h1 | h1 | h1
    · exact .inl (mem_own3.2 (.inl h1))
    · exact .inl (mem_own3.2 (.inr (.inl h1)))
    · exact (hn k h1).imp (fun h2 => mem_own3.2 (.inr (.inr (.inl h2)))) id
    · exact .inl (mem_own3.2 (.inr (.inr (.inr h1))))
  have hsz := h.v.below.size
  refine ⟨he, vy', ⟨⟨hs, h.v.below.trans (hk.below (B := W.heap.size) h.v.own hsz), fun k hk => (new k hk).elim (h.v.own k) fun h => by omega⟩, h.r8.keeps hk fun k e => (h.o8 k e).2.1, h.r9.keeps hk fun k e => (h.o9 k e).2, fun k e => ?_, fun k e => ?_⟩, hk.block⟩
  · obtain ⟨p1, p2, p3⟩ := h.o8 k e
    exact ⟨p1, fun hm => (new k hm).elim p2 fun h => by have := h8 k e; omega, p3⟩
  · obtain ⟨p1, p2⟩ := h.o9 k e
    exact ⟨p1, fun hm => (new k hm).elim p2 fun h => by have := h9 k e; omega⟩

theorem VA.no {x : Int} {e : Ending} (h : VA W w b l yv nv yl nl s8 s9 vl vy vn) (hv : VotedNo w b vl vy vn l yv nv x e w') :
    e = .returned (.bool (canC l yv nv x)) ∧ ∃ vn', VA W w' b l yv (if canC l yv nv x then nv ++ [x] else nv) yl nl s8 s9 vl vy vn' ∧ ∀ N, N < w.heap.size → N ∉ own3 b vl vy vn → w'.heap[N]? = w.heap[N]? := by
  have h8 := Row.lt h.r8
  have h9 := Row.lt h.r9
  obtain ⟨vn', he, hs, hk, hn⟩ := hv
  have new : ∀ k ∈ own3 b vl vy vn', k ∈ own3 b vl vy vn ∨ w.heap.size ≤ k := fun k hk => by
    rcases mem_own3.1 hk with h1 | h1 | h1 | h1
    · exact .inl (mem_own3.2 (.inl h1))
    · exact .inl (mem_own3.2 (.inr (.inl h1)))
    · exact .inl (mem_own3.2 (.inr (.inr (.inl h1))))
    · exact (hn k h1).imp (fun h2 => mem_own3.2 (.inr (.inr (.inr h2)))) id
  have hsz := h.v.below.size
  refine ⟨he, vn', ⟨⟨hs, h.v.below.trans (hk.below (B := W.heap.size) h.v.own hsz), fun k hk => (new k hk).elim (h.v.own k) fun h => by omega⟩, h.r8.keeps hk fun k e => (h.o8 k e).2.1, h.r9.keeps hk fun k e => (h.o9 k e).2, fun k e => ?_, fun k e => ?_⟩, hk.block⟩
  · obtain ⟨p1, p2, p3⟩ := h.o8 k e
    exact ⟨p1, fun hm => (new k hm).elim p2 fun h => by have := h8 k e; omega, p3⟩
  · obtain ⟨p1, p2⟩ := h.o9 k e
    exact ⟨p1, fun hm => (new k hm).elim p2 fun h => by have := h9 k e; omega⟩

theorem VA.app8 {s8' : Value} {yl' : List Int} (h : VA W w b l yv nv yl nl s8 s9 vl vy vn) (hr : RowI w' s8' yl') (hg : w.grownBy w' s8.ownBlock) (hn : ∀ k, s8'.ownBlock = some k → s8.ownBlock = some k ∨ w.heap.size ≤ k) :
    VA W w' b l yv nv yl' nl s8' s9 vl vy vn := by
  have hk := Keeps.of_grown hg
  have hsz := h.v.below.size
  have h9 := Row.lt h.r9
  have hlt := h.v.s.own_lt
  have ap : ∀ k ∈ own3 b vl vy vn, k ∉ s8.ownBlock.toList := fun k hk he => by
    simp only [Option.mem_toList] at he
    exact (h.o8 k he).2.1 hk
  refine ⟨⟨h.v.s.keeps hk ap, h.v.below.trans (hk.below (B := W.heap.size) (fun x hx => by simp only [Option.mem_toList] at hx; exact (h.o8 x hx).1) hsz), h.v.own⟩, hr, h.r9.keeps hk fun k e he => ?_, fun k e => ?_, h.o9⟩
  · simp only [Option.mem_toList] at he
    exact (h.o8 k he).2.2 e
  · rcases hn k e with h1 | h1
    · exact h.o8 k h1
    · exact ⟨by omega, fun hm => by have := hlt k hm; omega, fun h2 => by have := h9 k h2; omega⟩

theorem VA.app9 {s9' : Value} {nl' : List Int} (h : VA W w b l yv nv yl nl s8 s9 vl vy vn) (hr : RowI w' s9' nl') (hg : w.grownBy w' s9.ownBlock) (hn : ∀ k, s9'.ownBlock = some k → s9.ownBlock = some k ∨ w.heap.size ≤ k) :
    VA W w' b l yv nv yl nl' s8 s9' vl vy vn := by
  have hk := Keeps.of_grown hg
  have hsz := h.v.below.size
  have h8 := Row.lt h.r8
  have hlt := h.v.s.own_lt
  have ap : ∀ k ∈ own3 b vl vy vn, k ∉ s9.ownBlock.toList := fun k hk he => by
    simp only [Option.mem_toList] at he
    exact (h.o9 k he).2 hk
  refine ⟨⟨h.v.s.keeps hk ap, h.v.below.trans (hk.below (B := W.heap.size) (fun x hx => by simp only [Option.mem_toList] at hx; exact (h.o9 x hx).1) hsz), h.v.own⟩, h.r8.keeps hk fun k e he => ?_, hr, fun k e => ?_, fun k e => ?_⟩
  · simp only [Option.mem_toList] at he
    exact (h.o8 k e).2.2 he
  · obtain ⟨p1, p2, p3⟩ := h.o8 k e
    exact ⟨p1, p2, fun h2 => (hn k h2).elim p3 fun h => by have := h8 k e; omega⟩
  · rcases hn k e with h1 | h1
    · exact h.o9 k h1
    · exact ⟨by omega, fun hm => by have := hlt k hm; omega⟩
end

set_option maxRecDepth 100000 in
set_option maxHeartbeats 4000000 in
theorem voteAll_walk (v0 : Value) (l0 : List Int) (v1 : Value) (ops : List (Int × Bool)) (w : World) (w0 : Ints .i64 w v0 l0) (w1 : Recs 2 voteOp w v1 ops) :
    Calls Try.prog 14 #[v0, v1] w fun e w' => e = .returned (.bool true) ∧ Below w.heap.size w w' := by
  obtain ⟨hr0, hw0⟩ := w0
  clear hw0
  go_enter Try.func14, Try.ntmps14
  go_wp2_with fail
  refine (vote_begun _).mono ?_
  rintro e w2 ⟨rfl, hb⟩
  have hr0 : RI w2 v0 l0 := hr0.below hb rfl
  have w1 := w1.keeps hb
  have hr := hr0
  obtain ⟨a, cap, rfl, hcap, hcm, hc⟩ := hr0
  rw [List.length_map] at *
  clear hc
  go_upto_if 19 with fail
  go_cut [0] (fun s wx => ∃ L : List Int, RI w2 s L ∧ L.length ≤ 10 ∧ wx = w2)
  case first =>
    go_wp2
    · go_meet
      exact ⟨l0.take 10, by unfold RI; rw [List.map_take]; exact Reads.take hr 10 (by rw [List.length_map]; omega), by simp; omega, rfl⟩
    · go_meet
      exact ⟨l0, hr, by omega, rfl⟩
  case rest =>
    obtain ⟨L, hL, hl, rfl⟩ := hcut
    rename World => W0
    have hLs := hL
    obtain ⟨aL, capL, rfl, hcapL, hcmL, -⟩ := hLs
    rw [List.length_map] at *
    clear hr hcap hcm
    go_wp2_with fail
    refine (vote_new _ L _ hL (by omega)).mono ?_
    rintro e w3 ⟨b, vl, vy, vn, rfl, hs, hb3, ho⟩
    have hV : VA W0 w3 b (if mayC L then L else []) [] [] [] [] (.slice none 0 0) (.slice none 0 0) vl vy vn := ⟨⟨hs, hb3, ho⟩, RowI.nil _, RowI.nil _, (fun k e => by cases e), fun k e => by cases e⟩
    have hL3 : RI w3 _ L := Reads.below hL hb3 rfl
    clear hs ho hb3
    go_wp2_with fail
    refine (ref_may _ _ _ hL3).mono ?_
    rintro e w4 ⟨rfl, n4, rfl⟩
    have hV5 := hV.grow (below_drewN (Below.refl _ _) n4)
    clear hV hL3
    generalize w3.drewN n4 = w5 at *
    obtain ⟨LL, hLL⟩ : ∃ LL, LL = if mayC L then L else [] := ⟨_, rfl⟩
    rw [← hLL] at hV5
    have HLL := Lib.hid hLL
    clear hLL
    have hO := w1
    obtain ⟨a1, cap1, rfl, hcap1, hcm1, -⟩ := w1
    generalize hm : mayC L = m at *
    have HM := Lib.hid hm
    clear hm
    unfold votePtr
    go_wp2_with fail
    go_loopw [8, 9, 10] (fun s8 s9 i wr => ∃ (k : Nat) (yl nl : List Int) (vl vy vn : Value), k ≤ ops.length ∧ k ≤ 20 ∧ i = .int .i64 k ∧ VA W0 wr b LL yl nl yl nl s8 s9 vl vy vn ∧ yl.length ≤ k ∧ nl.length ≤ k) (fun _ _ i _ => ops.length - (intOf i).toNat)
    case atStart => exact ⟨0, [], [], vl, vy, vn, by omega, by omega, rfl, hV5, by simp, by simp⟩
    case round =>
      obtain ⟨k, yl, nl, vl, vy, vn, hk1, hk2, rfl, hV, hy, hn⟩ := hrel
      have hbel := hV.v.below
      by_cases hlt : k < ops.length
      · by_cases h20 : k < 20
        · obtain ⟨a1', cap1', hv1, -, -, hel⟩ := hO.keeps hbel
          simp only [Value.slice.injEq, true_and] at hv1
          obtain ⟨rfl, rfl⟩ := hv1
          obtain ⟨bo, off, hao, hbo, hcell⟩ := hel k hlt
          subst hao
          have cx := hcell 0 (.int .i64 ops[k].1) rfl
          have cy := hcell 1 (.bool ops[k].2) rfl
          clear hcell hel
          generalize ops[k]'hlt = o at cx cy
          obtain ⟨x, y⟩ := o
          dsimp only at cx cy
          rw [Nat.add_zero] at cx
          have hLr : RI wr _ L := Reads.below hL hbel rfl
          go_upto_region 13 with fail
          have hN : wr.heap.size ∉ own3 b vl vy vn := fun h => absurd (hV.v.s.own_lt _ h) (by omega)
          have n8 : ∀ k, Value.ownBlock _ = some k → k ≠ wr.heap.size := fun k e => Nat.ne_of_lt (Row.lt hV.r8 k e)
          have n9 : ∀ k, Value.ownBlock _ = some k → k ≠ wr.heap.size := fun k e => Nat.ne_of_lt (Row.lt hV.r9 k e)
          have N8 := Lib.hid n8
          have N9 := Lib.hid n9
          clear n8 n9
          have hba := (Below.refl wr.heap.size wr).alloc (Nat.le_refl _) (.cells #[Value.int .i64 x, Value.bool y] 57)
          have e0 : (wr.alloc (.cells #[Value.int .i64 x, Value.bool y] 57)).cell? ⟨wr.heap.size, 0, none⟩ = some (.int .i64 x) := World.cell?_alloc_new wr _ _ 0
          have e1 : (wr.alloc (.cells #[Value.int .i64 x, Value.bool y] 57)).cell? ⟨wr.heap.size, 1, none⟩ = some (.bool y) := World.cell?_alloc_new wr _ _ 1
          have hNs : wr.heap.size < (wr.alloc (.cells #[Value.int .i64 x, Value.bool y] 57)).heap.size := by show wr.heap.size < (wr.heap.push _).size; simp
          have hV6 := hV.grow hba
          have hL6 : RI _ _ L := Reads.below hLr hba rfl
          clear hba hV hbel hLr cx cy
          generalize wr.alloc (.cells #[Value.int .i64 x, Value.bool y] 57) = w6 at *
          generalize wr.heap.size = N at *
          go_cut [12] (fun s wx => s = .bool (canC LL yl nl x) ∧ wx = w6)
          case first =>
            have HC : Hid (canC LL yl nl x = (m && decide (x ∈ L) && !decide (x ∈ yl) && !decide (x ∈ nl))) := Lib.hid (by
              rw [HLL.out]
              unfold canC
              cases m <;> simp)
            have r8 := hV6.r8.ri
            have r9 := hV6.r9.ri
            cases m
            · go_wp2_with fail
              go_meet
              exact ⟨by rw [HC.out]; rfl, rfl⟩
            · go_wp2_with fail
              refine (ref_has _ _ _ _ hL6).mono ?_
              rintro e w' ⟨rfl, rfl⟩
              by_cases hA : x ∈ L
              · rw [decide_eq_true hA] at HC ⊢
                go_wp2_with fail
                refine (ref_has _ _ _ _ r8).mono ?_
                rintro e w' ⟨rfl, rfl⟩
                by_cases hB : x ∈ yl
                · rw [decide_eq_true hB] at HC ⊢
                  go_wp2_with fail
                  go_meet
                  exact ⟨by rw [HC.out]; rfl, rfl⟩
                · rw [decide_eq_false hB] at HC ⊢
                  go_wp2_with fail
                  refine (ref_has _ _ _ _ r9).mono ?_
                  rintro e w' ⟨rfl, rfl⟩
                  by_cases hD : x ∈ nl
                  · rw [decide_eq_true hD] at HC ⊢
                    go_wp2_with fail
                    go_meet
                    exact ⟨by rw [HC.out]; rfl, rfl⟩
                  · rw [decide_eq_false hD] at HC ⊢
                    go_wp2_with fail
                    go_meet
                    exact ⟨by rw [HC.out]; rfl, rfl⟩
              · rw [decide_eq_false hA] at HC ⊢
                go_wp2_with fail
                go_meet
                exact ⟨by rw [HC.out]; rfl, rfl⟩
          case rest =>
            obtain ⟨rfl, rfl⟩ := hcut
            generalize hcan : canC LL yl nl x = can
            have HCAN := Lib.hid hcan
            clear hcan
            rename World => w7
            go_upto_if 62 with fail
            go_cut [8, 9, 13] (fun s8 s9 s wx => ∃ vy' vn', s = .bool can ∧ VA W0 wx b LL (if can && y then yl ++ [x] else yl) (if can && !y then nl ++ [x] else nl) yl nl s8 s9 vl vy' vn' ∧ wx.cell? ⟨N, 0, none⟩ = some (.int .i64 x) ∧ wx.cell? ⟨N, 1, none⟩ = some (.bool y) ∧ N < wx.heap.size ∧
              (∀ k, s8.ownBlock = some k → k ≠ N) ∧ (∀ k, s9.ownBlock = some k → k ≠ N))
            case first =>
              cases y
              · go_wp2_with fail
                refine (vote_no x hV6.v.s (by omega)).mono ?_
                intro e w8 hv
                obtain ⟨rfl, v', hV8, hk⟩ := hV6.no hv
                have hkN := hk N hNs hN
                have f0 := (World.cell?_of_block (a := ⟨N, 0, none⟩) hkN).trans e0
                have f1 := (World.cell?_of_block (a := ⟨N, 1, none⟩) hkN).trans e1
                rw [HCAN.out] at hV8 ⊢
                have hlt8 : N < w8.heap.size := by
                  rcases Nat.lt_or_ge N w8.heap.size with h | h
                  · exact h
                  · rw [Array.getElem?_eq_none h, Array.getElem?_eq_getElem hNs] at hkN; cases hkN
                clear hkN hk hv
                go_wp2_with fail
                go_meet
                refine ⟨vy, v', rfl, ?_, f0, f1, hlt8, N8.out, N9.out⟩
                cases can <;> exact hV8
              · go_wp2_with fail
                refine (vote_yes x hV6.v.s (by omega)).mono ?_
                intro e w8 hv
                obtain ⟨rfl, v', hV8, hk⟩ := hV6.yes hv
                have hkN := hk N hNs hN
                have f0 := (World.cell?_of_block (a := ⟨N, 0, none⟩) hkN).trans e0
                have f1 := (World.cell?_of_block (a := ⟨N, 1, none⟩) hkN).trans e1
                rw [HCAN.out] at hV8 ⊢
                have hlt8 : N < w8.heap.size := by
                  rcases Nat.lt_or_ge N w8.heap.size with h | h
                  · exact h
                  · rw [Array.getElem?_eq_none h, Array.getElem?_eq_getElem hNs] at hkN; cases hkN
                clear hkN hk hv
                go_wp2_with fail
                go_meet
                refine ⟨v', vn, rfl, ?_, f0, f1, hlt8, N8.out, N9.out⟩
                cases can <;> exact hV8
            case rest =>
              obtain ⟨vy', vn', rfl, hV9, g0, g1, hN9, h8, h9⟩ := hcut
              have H8 := Lib.hid h8
              have H9 := Lib.hid h9
              clear h8 h9 hV6 hL6 e0 e1 hNs hN
              rename World => w9
              have HMJ : Hid (∀ ya, majC LL ya = majC L ya) := Lib.hid fun ya => by rw [HLL.out, ← HM.out]; exact majC_LL L ya
              have HLO : Hid (∀ na, lostC LL na = (m && decide (2 * ((L.length : Int) - (na : List Int).length) ≤ L.length))) := Lib.hid fun na => by rw [HLL.out, ← HM.out]; exact lostC_LL L na
              have hLLl : LL.length ≤ 10 := by
                rw [HLL.out]
                split
                · exact hl
                · simp
              cases can
              · have hV10 := hV9
                simp only [Bool.false_and, Bool.false_eq_true, if_false] at hV10
                clear hV9
                rename World => w10
                go_upto_region 24 with fail
                have hV10 : VA W0 w10 b LL (yl) (nl) (yl) (nl) _ _ _ _ _ := hV10
                have hya : (yl).length ≤ k + 1 := by first | omega | (simp; omega)
                have hna : (nl).length ≤ k + 1 := by first | omega | (simp; omega)
                have hmj : majC LL (yl) = majC L (yl) := HMJ.out _
                have hlo : lostC LL (nl) = (m && decide (2 * ((L.length : Int) - (nl).length) ≤ L.length)) := HLO.out _
                generalize yl = ya at *
                generalize nl = na at *
                have HMJ1 := Lib.hid hmj
                have HLO1 := Lib.hid hlo
                clear hmj hlo
                go_wp2_with fail
                refine (vote_won hV10.v.s (by omega)).mono ?_
                rintro e w11 ⟨rfl, n11, rfl⟩
                rw [HMJ1.out]
                have hV11 := hV10.grow (below_drewN (Below.refl _ _) n11)
                clear hV10
                generalize w10.drewN n11 = w11 at *
                go_wp2_with fail
                refine (ref_majority _ _ L ya _ (Reads.below hL hV11.v.below rfl) hV11.r8.ri (by omega)).mono ?_
                rintro e w12 ⟨rfl, n12, rfl⟩
                have hV12 := hV11.grow (below_drewN (Below.refl _ _) n12)
                clear hV11
                generalize w11.drewN n12 = w12 at *
                generalize majC L ya = q at *
                have hqq : (q != q) = false := by cases q <;> rfl
                have ⟨a9, c9, h9s⟩ := Row.shape hV12.r9
                rw [List.length_map] at h9s
                subst h9s
                go_wp2_with fail
                refine (vote_lost hV12.v.s (by omega) (by omega)).mono ?_
                rintro e w13 ⟨rfl, n13, rfl⟩
                rw [HLO1.out]
                have hV13 := hV12.grow (below_drewN (Below.refl _ _) n13)
                clear hV12
                generalize w12.drewN n13 = w13 at *
                have s1 : IntKind.i64.wrap ((L.length : Int) - na.length) = (L.length : Int) - na.length := IntWalk.i64_in _ (by omega)
                have s2 : IntKind.i64.wrap (2 * ((L.length : Int) - na.length)) = 2 * ((L.length : Int) - na.length) := IntWalk.i64_in _ (by omega)
                cases m
                · rw [Bool.false_and]
                  go_wp2_with fail
                  go_roundw
                  case rel => exact ⟨k + 1, ya, na, _, _, _, by omega, by omega, by go_num, hV13, hya, hna⟩
                  case measure => simp [intOf]; omega
                · rw [Bool.true_and]
                  by_cases hA : 2 * ((L.length : Int) - na.length) ≤ L.length
                  · rw [decide_eq_true hA]
                    go_wp2_with fail
                    go_roundw
                    case rel => exact ⟨k + 1, ya, na, _, _, _, by omega, by omega, by go_num, hV13, hya, hna⟩
                    case measure => simp [intOf]; omega
                  · rw [decide_eq_false hA]
                    go_wp2_with fail
                    go_roundw
                    case rel => exact ⟨k + 1, ya, na, _, _, _, by omega, by omega, by go_num, hV13, hya, hna⟩
                    case measure => simp [intOf]; omega
              · cases y
                · simp only [Bool.true_and, Bool.not_false, Bool.false_eq_true, if_false, if_true, Bool.and_false] at hV9
                  have hb10 := (Below.refl w9.heap.size w9).alloc (Nat.le_refl _) (.cells #[Value.int .i64 x] 3)
                  have hVb := hV9.grow hb10
                  have hown : Row (w9.alloc (.cells #[Value.int .i64 x] 3)) 3 _ (nl.map (Value.int .i64)) := hVb.r9
                  have hsrc := Reads.fresh w9 ([x].map (Value.int .i64)) 3 (0, 0) #[.int .i64 x] 1 rfl rfl (by simp)
                  go_wp2_with (at_builtin; refine wpList_append_row 22 3 (.int .i64 0) 8 Try.underlying22 info_i64 rfl rfl _ _ rfl hown hsrc (ints_oneCell [x]) rfl rfl (by simp [maxLen]; omega) (by simp; omega) ?_)
                  intro v10 w10 ho10 hg10 hk10
                  have hV10 := hVb.app9 (show RowI w10 v10 (nl ++ [x]) by unfold RowI; rw [List.map_append]; exact ho10) hg10 (fun k e => (hk10 k e).imp id fun h => by show (w9.heap.push _).size ≤ k; simpa using h)
                  clear ho10 hg10 hk10 hown hsrc hVb hb10
                  go_upto_region 24 with fail
                  have hV10 : VA W0 w10 b LL (yl) (nl ++ [x]) (yl) (nl ++ [x]) _ _ _ _ _ := hV10
                  have hya : (yl).length ≤ k + 1 := by first | omega | (simp; omega)
                  have hna : (nl ++ [x]).length ≤ k + 1 := by first | omega | (simp; omega)
                  have hmj : majC LL (yl) = majC L (yl) := HMJ.out _
                  have hlo : lostC LL (nl ++ [x]) = (m && decide (2 * ((L.length : Int) - (nl ++ [x]).length) ≤ L.length)) := HLO.out _
                  generalize yl = ya at *
                  generalize nl ++ [x] = na at *
                  have HMJ1 := Lib.hid hmj
                  have HLO1 := Lib.hid hlo
                  clear hmj hlo
                  go_wp2_with fail
                  refine (vote_won hV10.v.s (by omega)).mono ?_
                  rintro e w11 ⟨rfl, n11, rfl⟩
                  rw [HMJ1.out]
                  have hV11 := hV10.grow (below_drewN (Below.refl _ _) n11)
                  clear hV10
                  generalize w10.drewN n11 = w11 at *
                  go_wp2_with fail
                  refine (ref_majority _ _ L ya _ (Reads.below hL hV11.v.below rfl) hV11.r8.ri (by omega)).mono ?_
                  rintro e w12 ⟨rfl, n12, rfl⟩
                  have hV12 := hV11.grow (below_drewN (Below.refl _ _) n12)
                  clear hV11
                  generalize w11.drewN n12 = w12 at *
                  generalize majC L ya = q at *
                  have hqq : (q != q) = false := by cases q <;> rfl
                  have ⟨a9, c9, h9s⟩ := Row.shape hV12.r9
                  rw [List.length_map] at h9s
                  subst h9s
                  go_wp2_with fail
                  refine (vote_lost hV12.v.s (by omega) (by omega)).mono ?_
                  rintro e w13 ⟨rfl, n13, rfl⟩
                  rw [HLO1.out]
                  have hV13 := hV12.grow (below_drewN (Below.refl _ _) n13)
                  clear hV12
                  generalize w12.drewN n13 = w13 at *
                  have s1 : IntKind.i64.wrap ((L.length : Int) - na.length) = (L.length : Int) - na.length := IntWalk.i64_in _ (by omega)
                  have s2 : IntKind.i64.wrap (2 * ((L.length : Int) - na.length)) = 2 * ((L.length : Int) - na.length) := IntWalk.i64_in _ (by omega)
                  cases m
                  · rw [Bool.false_and]
                    go_wp2_with fail
                    go_roundw
                    case rel => exact ⟨k + 1, ya, na, _, _, _, by omega, by omega, by go_num, hV13, hya, hna⟩
                    case measure => simp [intOf]; omega
                  · rw [Bool.true_and]
                    by_cases hA : 2 * ((L.length : Int) - na.length) ≤ L.length
                    · rw [decide_eq_true hA]
                      go_wp2_with fail
                      go_roundw
                      case rel => exact ⟨k + 1, ya, na, _, _, _, by omega, by omega, by go_num, hV13, hya, hna⟩
                      case measure => simp [intOf]; omega
                    · rw [decide_eq_false hA]
                      go_wp2_with fail
                      go_roundw
                      case rel => exact ⟨k + 1, ya, na, _, _, _, by omega, by omega, by go_num, hV13, hya, hna⟩
                      case measure => simp [intOf]; omega
                · simp only [Bool.true_and, Bool.not_true, Bool.false_eq_true, if_false, if_true, Bool.and_false] at hV9
                  have hb10 := (Below.refl w9.heap.size w9).alloc (Nat.le_refl _) (.cells #[Value.int .i64 x] 3)
                  have hVb := hV9.grow hb10
                  have hown : Row (w9.alloc (.cells #[Value.int .i64 x] 3)) 3 _ (yl.map (Value.int .i64)) := hVb.r8
                  have hsrc := Reads.fresh w9 ([x].map (Value.int .i64)) 3 (0, 0) #[.int .i64 x] 1 rfl rfl (by simp)
                  go_wp2_with (at_builtin; refine wpList_append_row 22 3 (.int .i64 0) 8 Try.underlying22 info_i64 rfl rfl _ _ rfl hown hsrc (ints_oneCell [x]) rfl rfl (by simp [maxLen]; omega) (by simp; omega) ?_)
                  intro v10 w10 ho10 hg10 hk10
                  have hV10 := hVb.app8 (show RowI w10 v10 (yl ++ [x]) by unfold RowI; rw [List.map_append]; exact ho10) hg10 (fun k e => (hk10 k e).imp id fun h => by show (w9.heap.push _).size ≤ k; simpa using h)
                  clear ho10 hg10 hk10 hown hsrc hVb hb10
                  go_upto_region 24 with fail
                  have hV10 : VA W0 w10 b LL (yl ++ [x]) (nl) (yl ++ [x]) (nl) _ _ _ _ _ := hV10
                  have hya : (yl ++ [x]).length ≤ k + 1 := by first | omega | (simp; omega)
                  have hna : (nl).length ≤ k + 1 := by first | omega | (simp; omega)
                  have hmj : majC LL (yl ++ [x]) = majC L (yl ++ [x]) := HMJ.out _
                  have hlo : lostC LL (nl) = (m && decide (2 * ((L.length : Int) - (nl).length) ≤ L.length)) := HLO.out _
                  generalize yl ++ [x] = ya at *
                  generalize nl = na at *
                  have HMJ1 := Lib.hid hmj
                  have HLO1 := Lib.hid hlo
                  clear hmj hlo
                  go_wp2_with fail
                  refine (vote_won hV10.v.s (by omega)).mono ?_
                  rintro e w11 ⟨rfl, n11, rfl⟩
                  rw [HMJ1.out]
                  have hV11 := hV10.grow (below_drewN (Below.refl _ _) n11)
                  clear hV10
                  generalize w10.drewN n11 = w11 at *
                  go_wp2_with fail
                  refine (ref_majority _ _ L ya _ (Reads.below hL hV11.v.below rfl) hV11.r8.ri (by omega)).mono ?_
                  rintro e w12 ⟨rfl, n12, rfl⟩
                  have hV12 := hV11.grow (below_drewN (Below.refl _ _) n12)
                  clear hV11
                  generalize w11.drewN n12 = w12 at *
                  generalize majC L ya = q at *
                  have hqq : (q != q) = false := by cases q <;> rfl
                  have ⟨a9, c9, h9s⟩ := Row.shape hV12.r9
                  rw [List.length_map] at h9s
                  subst h9s
                  go_wp2_with fail
                  refine (vote_lost hV12.v.s (by omega) (by omega)).mono ?_
                  rintro e w13 ⟨rfl, n13, rfl⟩
                  rw [HLO1.out]
                  have hV13 := hV12.grow (below_drewN (Below.refl _ _) n13)
                  clear hV12
                  generalize w12.drewN n13 = w13 at *
                  have s1 : IntKind.i64.wrap ((L.length : Int) - na.length) = (L.length : Int) - na.length := IntWalk.i64_in _ (by omega)
                  have s2 : IntKind.i64.wrap (2 * ((L.length : Int) - na.length)) = 2 * ((L.length : Int) - na.length) := IntWalk.i64_in _ (by omega)
                  cases m
                  · rw [Bool.false_and]
                    go_wp2_with fail
                    go_roundw
                    case rel => exact ⟨k + 1, ya, na, _, _, _, by omega, by omega, by go_num, hV13, hya, hna⟩
                    case measure => simp [intOf]; omega
                  · rw [Bool.true_and]
                    by_cases hA : 2 * ((L.length : Int) - na.length) ≤ L.length
                    · rw [decide_eq_true hA]
                      go_wp2_with fail
                      go_roundw
                      case rel => exact ⟨k + 1, ya, na, _, _, _, by omega, by omega, by go_num, hV13, hya, hna⟩
                      case measure => simp [intOf]; omega
                    · rw [decide_eq_false hA]
                      go_wp2_with fail
                      go_roundw
                      case rel => exact ⟨k + 1, ya, na, _, _, _, by omega, by omega, by go_num, hV13, hya, hna⟩
                      case measure => simp [intOf]; omega
        · go_wp2_with fail
          go_ret
          exact ⟨rfl, hb.trans (hV.v.below.mono hb.size)⟩
      · go_wp2_with fail
        go_ret
        exact ⟨rfl, hb.trans (hV.v.below.mono hb.size)⟩
/-! ### From the row to the walk -/
namespace voteAllF
set_option linter.unusedVariables false
theorem own : ownKnob Try.prog.godebug = none := by kernel_rfl
theorem laidOut : laidOutB Try.prog = true := by kernel_rfl
set_option maxRecDepth 100000 in
theorem lifted (os : Os) (started : os.Started) (H : Type) (enc : TypeId × Value → H) :
    ReturnsInHanded {} Try.checked os 14 .any (Rows.voteAllSpec.pre6 enc Try.prog Try.f14 Rows.voteAllRow.domain false) (Rows.voteAllSpec.post enc Try.prog Try.f14 false true false false) := by
  refine returnsInHanded_of_change (C := Try.checked) own started (by kernel_rfl) Try.func14
    (ChangeSpec.witness6 (enc := enc) (C := Try.checked) false ⟨#[], #[.slice none 0 0, voteAll_wit1], []⟩ 8 (by kernel_rfl) (by kernel_rfl) (by kernel_rfl) (by kernel_rfl)) ?_
  intro W base args ds gs before hval0 hW hcnd _
  have hval : ∀ (j : Nat) t v, Try.f14.params[j]? = some t → args[j]? = some v → Value.okWide Try.prog W .any base t v := hval0
  have hW' := hW
  obtain ⟨p, q, hA0, hV, rfl, hfz, hnd⟩ := hW
  have hA : DataW.TrodAll enc Try.prog W 0 (fun _ => true) true Try.f14.params.toList args.toList ds p := hA0
  rw [Try.params14] at hA hval
  obtain ⟨v0, vs0, d0, ds0, p0, q0, hargs, rfl, rfl, h0, r0⟩ := trodAll_cons hA
  obtain ⟨v1, vs1, d1, ds1, p1, q1, rfl, rfl, rfl, h1, r1⟩ := trodAll_cons r0
  obtain ⟨rfl, rfl, rfl⟩ := trodAll_nil r1
  obtain rfl : args = #[v0, v1] := by cases args; simp_all
  obtain ⟨rfl, rfl⟩ := trodVars_none hV
  have k0 := h0
  have lt0 : ∀ x ∈ p0, x.block < W.heap.size := by obtain ⟨m, hm⟩ := k0; exact DataW.trod_lt m _ _ _ hm
  obtain ⟨l0, w0⟩ := open_intsR (k := .i64) Try.underlying22 Try.underlying3 (by kernel_rfl) (hval 0 22 v0 rfl rfl) h0
  have k1 := h1
  have lt1 : ∀ x ∈ p1, x.block < W.heap.size := by obtain ⟨m, hm⟩ := k1; exact DataW.trod_lt m _ _ _ hm
  obtain ⟨x1, w1⟩ := voteAll_open1 (hval 1 52 v1 rfl rfl) h1
  clear hA0 hval0
  refine (voteAll_walk v0 l0 v1 x1 W w0 w1).mono fun e W' ⟨he, bel⟩ => ?_
  subst he
  exact ⟨_, rfl, _, _, _, [], _, [], hW', trodAll_mk1 (shut_bool Try.underlying4 _), (trodAll_cons_mk (Below.trod laidOut (by kernel_rfl) (of_decide_eq_true (by kernel_rfl)) k0 bel lt0) (trodAll_cons_mk (Below.trod laidOut (by kernel_rfl) (of_decide_eq_true (by kernel_rfl)) k1 bel lt1) trodAll_mk0)), rfl, bel.frame _, fun h => by cases h⟩
theorem over : Rows.voteAllRow.holds Try.pinned (OpenSpec.ofChange Rows.voteAllSpec) :=
  OpenClaim.holds_of_wide 14 Try.f14 rfl rfl rfl rfl rfl rfl rfl ⟨rfl, rfl, rfl, rfl, rfl⟩ rfl rfl rfl rfl rfl (by kernel_rfl) Try.func14 (by kernel_rfl)
    (of_decide_eq_true (by kernel_rfl)) (by unfold Func.isWrapper; first | (rw [if_pos (by decide +kernel)]; kernel_rfl) | (rw [if_neg (by decide +kernel)]; exact ⟨rfl, rfl⟩))
    (fun os started H enc _ => lifted os started H enc)
end voteAllF
theorem voteAll_holds : Rows.VoteAllSaid := voteAllF.over
#print axioms voteAll_holds
end Go.Proofs.Ytbjopmbemgpmaaa
