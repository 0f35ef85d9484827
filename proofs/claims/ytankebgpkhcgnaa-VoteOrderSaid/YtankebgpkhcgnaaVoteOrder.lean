/-
  In whatever order votes come, they are won or lost alike: of any number of voters, any votes and any turn. No condition.
-/
import Derived.Test.YtankebgpkhcgnaaVoteB
import Derived.Test.YtankebgpkhcgnaaVotePlain2
import Derived.Test.YtankebgpkhcgnaaOnes
import Derived.Deep.DeepCutAuto
import Derived.Deep.Cut
namespace Go.Proofs.Ytankebgpkhcgnaa
open Go.ChangeShapes Go.WideShapes Go.ChangeAt Go.RowKit

def voteOrder_wit1 : Value := .slice none 0 0
set_option maxRecDepth 100000 in
theorem voteOrder_open1 {H : Type} {enc : TypeId × Value → H} {W : World} {base base' : Nat} {r : Reach} {v : Value} {d : DataW H} {ps : List MemPlace}
    (hv : Value.okWide Try.prog W r base' 26 v) (h : DataW.Trod enc Try.prog W base (fun _ => true) true 26 v d ps) : ∃ l : List Bool, Reads W v (l.map Value.bool) := by
  obtain ⟨l, hl, _⟩ := open_ones (f := Value.bool) (good := fun _ => True) Try.underlying26 (by kernel_rfl) hv (fun n V d hd => by
    obtain ⟨b, hb, _⟩ := DataW.trod_bool Try.underlying4 hd
    exact ⟨b, by simpa using hb, trivial⟩) h
  exact ⟨l, hl⟩

/-- A vote of yes or no was counted. -/
def VotedOne (w : World) (b : Nat) (vl vy vn : Value) (l yes no : List Int) (c : Bool) (x : Int) (w' : World) : Prop :=
  if c then ∃ e, VotedYes w b vl vy vn l yes no x e w' else ∃ e, VotedNo w b vl vy vn l yes no x e w'

theorem one_vote {w : World} {b : Nat} {vl vy vn v : Value} {l yes no : List Int} {Y : List Bool} (i : Nat) (hi : i ≤ 1000) (hY : Reads w v (Y.map Value.bool)) (h : VoteS w b vl vy vn l yes no) (hy : yes.length ≤ 1000000) (hn : no.length ≤ 1000000) :
    Calls Try.prog 21 #[votePtr b, .int .i64 i, v] w fun e w' => e = .returned (.tuple #[]) ∧ VotedOne w b vl vy vn l yes no (Y.getD i false) ((i : Int) + 1) w' := by
  have hY1 := vote_yes ((i : Int) + 1) h hy
  have hY2 := vote_no ((i : Int) + 1) h hn
  obtain ⟨a, cap, rfl, hcap, hcm, hc⟩ := hY
  rw [List.length_map] at *
  unfold votePtr at *
  by_cases hlt : i < Y.length
  · obtain ⟨bb, off, rfl, hcell⟩ := hc (by intro e; rw [List.map_eq_nil_iff] at e; subst e; simp at hlt)
    have hci := hcell i (by rw [List.length_map]; exact hlt)
    rw [List.getElem_map] at hci
    have hg : Hid (Y.getD i false = Y[i]) := Lib.hid (by rw [List.getD_eq_getElem?_getD, List.getElem?_eq_getElem hlt]; rfl)
    clear hcell hc h
    cases hyi : Y[i] with
    | false =>
      rw [hyi] at hci
      have HG : Hid (Y.getD i false = false) := Lib.hid (hg.out.trans hyi)
      clear hyi hg
      go_enter Try.func21, Try.ntmps21
      go_wp2_with fail
      refine hY2.mono ?_
      intro e w' hv
      obtain ⟨vn', rfl, hv'⟩ := id hv
      clear hv'
      have HV := Lib.hid hv
      clear hv
      go_wp2_with fail
      go_end0
      exact ⟨rfl, by unfold VotedOne; rw [HG.out]; exact ⟨_, HV.out⟩⟩
    | true =>
      rw [hyi] at hci
      have HG : Hid (Y.getD i false = true) := Lib.hid (hg.out.trans hyi)
      clear hyi hg
      go_enter Try.func21, Try.ntmps21
      go_wp2_with fail
      refine hY1.mono ?_
      intro e w' hv
      obtain ⟨vn', rfl, hv'⟩ := id hv
      clear hv'
      have HV := Lib.hid hv
      clear hv
      go_wp2_with fail
      go_end0
      exact ⟨rfl, by unfold VotedOne; rw [HG.out]; exact ⟨_, HV.out⟩⟩
  · have HG : Hid (Y.getD i false = false) := Lib.hid (by rw [List.getD_eq_getElem?_getD, List.getElem?_eq_none (by omega)]; rfl)
    clear hc h
    go_enter Try.func21, Try.ntmps21
    go_wp2_with fail
    refine hY2.mono ?_
    intro e w' hv
    obtain ⟨vn', rfl, hv'⟩ := id hv
    clear hv'
    have HV := Lib.hid hv
    clear hv
    go_wp2_with fail
    go_end0
    exact ⟨rfl, by unfold VotedOne; rw [HG.out]; exact ⟨_, HV.out⟩⟩

/-- Two votes, apart, made since a world. -/
structure V2 (W w : World) (l : List Int) (b1 : Nat) (vl1 vy1 vn1 : Value) (y1 n1 : List Int) (b2 : Nat) (vl2 vy2 vn2 : Value) (y2 n2 : List Int) : Prop where
  a : VoteB W w b1 vl1 vy1 vn1 l y1 n1
  b : VoteB W w b2 vl2 vy2 vn2 l y2 n2
  dis : ∀ k ∈ own3 b1 vl1 vy1 vn1, k ∉ own3 b2 vl2 vy2 vn2

theorem V2.swap {W w : World} {l : List Int} {b1 : Nat} {vl1 vy1 vn1 : Value} {y1 n1 : List Int} {b2 : Nat} {vl2 vy2 vn2 : Value} {y2 n2 : List Int} (h : V2 W w l b1 vl1 vy1 vn1 y1 n1 b2 vl2 vy2 vn2 y2 n2) : V2 W w l b2 vl2 vy2 vn2 y2 n2 b1 vl1 vy1 vn1 y1 n1 :=
  ⟨h.b, h.a, fun k h1 h2 => h.dis k h2 h1⟩

theorem V2.one {W w w' : World} {l : List Int} {b1 : Nat} {vl1 vy1 vn1 : Value} {y1 n1 : List Int} {b2 : Nat} {vl2 vy2 vn2 : Value} {y2 n2 : List Int} {c : Bool} {x : Int} (h : V2 W w l b1 vl1 vy1 vn1 y1 n1 b2 vl2 vy2 vn2 y2 n2)
    (hc : canC l y1 n1 x = true) (hv : VotedOne w b1 vl1 vy1 vn1 l y1 n1 c x w') : ∃ vy1' vn1', V2 W w' l b1 vl1 vy1' vn1' (if c then y1 ++ [x] else y1) (if c then n1 else n1 ++ [x]) b2 vl2 vy2 vn2 y2 n2 := by
  have hlt2 := h.b.s.own_lt
  have hsz := h.a.below.size
  cases c with
  | true =>
    obtain ⟨e, he⟩ : ∃ e, VotedYes w b1 vl1 vy1 vn1 l y1 n1 x e w' := hv
    obtain ⟨vy', _, hs, hk, hn⟩ := he
    rw [hc, if_pos rfl] at hs
    have own : ∀ k ∈ own3 b1 vl1 vy' vn1, k ∈ own3 b1 vl1 vy1 vn1 ∨ w.heap.size ≤ k := fun k hk => by
      rcases mem_own3.1 hk with h1 | h1 | h1 | h1
      · exact .inl (mem_own3.2 (.inl h1))
      · exact .inl (mem_own3.2 (.inr (.inl h1)))
      · exact (hn k h1).imp (fun h2 => mem_own3.2 (.inr (.inr (.inl h2)))) id
      · exact .inl (mem_own3.2 (.inr (.inr (.inr h1))))
    refine ⟨vy', vn1, ⟨hs, h.a.below.trans (hk.below (B := W.heap.size) h.a.own hsz), fun k hk => (own k hk).elim (h.a.own k) (fun h => by omega)⟩, ⟨h.b.s.keeps hk (fun k h2 h1 => h.dis k h1 h2), h.a.below.trans (hk.below (B := W.heap.size) h.a.own hsz), h.b.own⟩, fun k h1 h2 => ?_⟩
    rcases own k h1 with h3 | h3
    · exact h.dis k h3 h2
    · have := hlt2 k h2; omega
  | false =>
    obtain ⟨e, he⟩ : ∃ e, VotedNo w b1 vl1 vy1 vn1 l y1 n1 x e w' := hv
    obtain ⟨vn', _, hs, hk, hn⟩ := he
    rw [hc, if_pos rfl] at hs
    have own : ∀ k ∈ own3 b1 vl1 vy1 vn', k ∈ own3 b1 vl1 vy1 vn1 ∨ w.heap.size ≤ k := fun k hk => by
      rcases mem_own3.1 hk with h1 | h1 | h1 | h1
      · exact .inl (mem_own3.2 (.inl h1))
      · exact .inl (mem_own3.2 (.inr (.inl h1)))
      · exact .inl (mem_own3.2 (.inr (.inr (.inl h1))))
      · exact (hn k h1).imp (fun h2 => mem_own3.2 (.inr (.inr (.inr h2)))) id
    refine ⟨vy1, vn', ⟨hs, h.a.below.trans (hk.below (B := W.heap.size) h.a.own hsz), fun k hk => (own k hk).elim (h.a.own k) (fun h => by omega)⟩, ⟨h.b.s.keeps hk (fun k h2 h1 => h.dis k h1 h2), h.a.below.trans (hk.below (B := W.heap.size) h.a.own hsz), h.b.own⟩, fun k h1 h2 => ?_⟩
    rcases own k h1 with h3 | h3
    · exact h.dis k h3 h2
    · have := hlt2 k h2; omega

theorem V2.drewN {W w : World} {l : List Int} {b1 : Nat} {vl1 vy1 vn1 : Value} {y1 n1 : List Int} {b2 : Nat} {vl2 vy2 vn2 : Value} {y2 n2 : List Int} (h : V2 W w l b1 vl1 vy1 vn1 y1 n1 b2 vl2 vy2 vn2 y2 n2) (n : Nat) : V2 W (w.drewN n) l b1 vl1 vy1 vn1 y1 n1 b2 vl2 vy2 vn2 y2 n2 :=
  ⟨h.a.drewN n, h.b.drewN n, h.dis⟩

set_option maxRecDepth 100000 in
set_option maxHeartbeats 4000000 in
theorem voteOrder_walk (n : Int) (v : Value) (Y : List Bool) (turn : Int) (w : World) (wn : (Lit.int .i64 n).wf = true) (hY : Reads w v (Y.map Value.bool)) (wt : (Lit.int .i64 turn).wf = true) :
    Calls Try.prog 4 #[.int .i64 n, v, .int .i64 turn] w fun e w' => e = .returned (.bool true) ∧ Below w.heap.size w w' := by
  have wn := wf_i64 wn
  have wt := wf_i64 wt
  go_enter Try.func4, Try.ntmps4
  go_wp2_with fail
  refine (vote_begun _).mono ?_
  rintro e w1 ⟨rfl, hb1⟩
  have hY1 := hY.below hb1 rfl
  clear hY
  by_cases m0 : n < 1
  · have t0 : decide (n < 1) = true := decide_eq_true m0
    go_wp2_with fail
    go_ret
    exact ⟨rfl, hb1⟩
  · have t0 : decide (n < 1) = false := decide_eq_false m0
    by_cases m1 : 7 < n
    · have t1 : decide (7 < n) = true := decide_eq_true m1
      go_wp2_with fail
      go_ret
      exact ⟨rfl, hb1⟩
    · have t1 : decide (7 < n) = false := decide_eq_false m1
      by_cases m2 : turn < 0
      · have t2 : decide (turn < 0) = true := decide_eq_true m2
        go_wp2_with fail
        go_ret
        exact ⟨rfl, hb1⟩
      · have t2 : decide (turn < 0) = false := decide_eq_false m2
        obtain ⟨N, rfl⟩ := Int.eq_ofNat_of_zero_le (show 0 ≤ n by omega)
        obtain ⟨T, rfl⟩ := Int.eq_ofNat_of_zero_le (show 0 ≤ turn by omega)
        go_wp2_with fail
        go_loopw [8, 9] (fun s i wr => ∃ k : Nat, k ≤ N ∧ i = .int .i64 ((k : Int) + 1) ∧ RowI wr s (upTo k) ∧ (∀ g, s.ownBlock = some g → w1.heap.size ≤ g) ∧ Below w1.heap.size w1 wr) (fun _ i _ => N + 1 - (intOf i).toNat)
        case atStart => exact ⟨0, by omega, rfl, RowI.nil _, (fun g h => by cases h), Below.refl _ _⟩
        case round =>
          obtain ⟨k, hk, rfl, hr, hg, hbel⟩ := hrel
          by_cases hlt : k < N
          · have hb := (Below.refl wr.heap.size wr).alloc (Nat.le_refl _) (.cells #[Value.int .i64 ((k : Int) + 1)] 3)
            have hown : Row (wr.alloc (.cells #[Value.int .i64 ((k : Int) + 1)] 3)) 3 _ ((upTo k).map (Value.int .i64)) := RowI.keeps hr (Keeps.of_below (F := []) hb) (by simp)
            have hsrc := Reads.fresh wr ([(k : Int) + 1].map (Value.int .i64)) 3 (0, 0) #[.int .i64 ((k : Int) + 1)] 1 rfl rfl (by simp)
            have hul := upTo_len k
            have hll : (upTo k).length ≤ 7 := by omega
            have HU := Lib.hid (upTo_succ k)
            have HG := Lib.hid hg
            clear hul hg hr
            go_wp2_with (at_builtin; refine wpList_append_row 27 3 (.int .i64 0) 8 Try.underlying27 info_i64 rfl rfl _ _ rfl hown hsrc (ints_oneCell [(k : Int) + 1]) rfl rfl (by simp [maxLen]; omega) (by simp; omega) ?_)
            intro v2 w2 ho hg2 hk2
            have hbz : Below w1.heap.size w1 w2 := (hbel.alloc hbel.size _).grown hg2 (by have := hbel.size; simp; omega) HG.out
            have hoo : RowI w2 v2 (upTo (k + 1)) := by unfold RowI; rw [HU.out, List.map_append]; exact ho
            have hgz : ∀ g, v2.ownBlock = some g → w1.heap.size ≤ g := fun g h => (hk2 g h).elim (HG.out g) (fun h => by have := hbel.size; omega)
            clear ho hg2 hk2 hown hsrc hb
            go_wp2_with fail
            go_roundw
            case rel => exact ⟨k + 1, by omega, by go_num, hoo, hgz, hbz⟩
            case measure => simp [intOf]; omega
          · obtain rfl : k = N := by omega
            have hRI := hr.ri
            have hul := upTo_len k
            have hm := upTo_may k (by omega) (by omega)
            obtain ⟨a8, n8, c8, he⟩ := Row.slice hr
            rename Value => s8
            rw [he] at hRI ⊢
            have HUL := Lib.hid hul
            have HM := Lib.hid hm
            clear hg he hr hul hm hlt hk
            have hY2 := hY1.below hbel rfl
            have hbelW : Below w.heap.size w wr := hb1.trans (hbel.mono hb1.size)
            rename World => W0
            go_wp2_with fail
            refine (vote_new _ (upTo k) _ hRI (by rw [HUL.out]; omega)).mono ?_
            rintro e w3 ⟨ba, vla, vya, vna, rfl, hsa, hba, hoa⟩
            rw [HM.out, if_pos rfl] at hsa
            have hRI3 : RI w3 _ (upTo k) := Reads.below hRI hba rfl
            have hY3 := hY2.below hba rfl
            unfold votePtr
            go_wp2_with fail
            refine (vote_new _ (upTo k) _ hRI3 (by rw [HUL.out]; omega)).mono ?_
            rintro e w4 ⟨bb, vlb, vyb, vnb, rfl, hsb, hbb, hob⟩
            rw [HM.out, if_pos rfl] at hsb
            have h34 := hba.trans (hbb.mono hba.size)
            have hltA := hsa.own_lt
            have hV : V2 W0 w4 (upTo k) ba vla vya vna [] [] bb vlb vyb vnb [] [] :=
              ⟨⟨hsa.keeps (Keeps.of_below (F := []) hbb) (by simp), h34, hoa⟩, ⟨hsb, h34, fun k hk => by have := hob k hk; have := hba.size; omega⟩, fun k h1 h2 => by
                have := hltA k h1
                have := hob k h2
                omega⟩
            clear hsa hsb hba hbb hoa hob h34 hltA hRI3 hY3 hRI
            clear hbel hb1
            obtain ⟨P, hP⟩ : ∃ P, P = pad7 Y := ⟨_, rfl⟩
            have ht : T % k < k := Nat.mod_lt _ (by omega)
            have hOK := votes_ok k (T % k) Y (by omega) (by omega) ht
            have hPY : Hid (∀ i, i < 7 → P.getD i false = Y.getD i false) := Lib.hid (by rw [hP]; exact fun i hi => pad7_get Y i hi)
            have hPN : Hid (yesN P k = yesN Y k) := Lib.hid (by rw [hP]; exact yesN_pad Y k (by omega))
            rw [← hP] at hOK
            unfold votesOk at hOK
            simp only [Bool.and_eq_true, beq_iff_eq, List.all_eq_true, List.mem_range] at hOK
            obtain ⟨⟨⟨⟨h1, h2⟩, h3⟩, h4⟩, h5⟩ := hOK
            have H1 := Lib.hid h1
            have H2 := Lib.hid h2
            have H3 := Lib.hid h3
            have H4 := Lib.hid h4
            have H5 := Lib.hid h5
            clear h1 h2 h3 h4 h5 hP
            have HF := Lib.hid (show ∀ i, turnF k (T % k) i = (i + T % k) % k from fun _ => rfl)
            unfold votePtr
            go_wp2_with fail
            go_loopw [12] (fun i wq => ∃ (j : Nat) (vya vna vyb vnb : Value), j ≤ k ∧ i = .int .i64 j ∧
              V2 W0 wq (upTo k) ba vla vya vna (votesOf P id j true) (votesOf P id j false) bb vlb vyb vnb (votesOf P (turnF k (T % k)) j true) (votesOf P (turnF k (T % k)) j false)) (fun i _ => k - (intOf i).toNat)
            case atStart => exact ⟨0, vya, vna, vyb, vnb, by omega, rfl, hV⟩
            case round =>
              obtain ⟨j, vya, vna, vyb, vnb, hj, rfl, hV⟩ := hrel
              by_cases hlt : j < k
              · have hYr := hY2.below hV.a.below rfl
                have l1 := votesOf_len P id j true
                have l2 := votesOf_len P id j false
                have l3 := votesOf_len P (turnF k (T % k)) j true
                have l4 := votesOf_len P (turnF k (T % k)) j false
                go_wp2_with fail
                refine (one_vote j (by omega) hYr hV.a.s (by omega) (by omega)).mono ?_
                rintro e w5 ⟨rfl, hv⟩
                obtain ⟨vya', vna', hV2⟩ := hV.one (H1.out j hlt).1 hv
                have e1 : (if Y.getD j false then votesOf P id j true ++ [(j : Int) + 1] else votesOf P id j true) = votesOf P id (j + 1) true := by
                  rw [votesOf_succ, show P.getD (id j) false = Y.getD j false from hPY.out j (by omega)]
                  cases Y.getD j false <;> rfl
                have e2 : (if Y.getD j false then votesOf P id j false else votesOf P id j false ++ [(j : Int) + 1]) = votesOf P id (j + 1) false := by
                  rw [votesOf_succ, show P.getD (id j) false = Y.getD j false from hPY.out j (by omega)]
                  cases Y.getD j false <;> rfl
                rw [e1, e2] at hV2
                clear hv hV e1 e2 hYr l1 l2
                have hYr := hY2.below hV2.a.below rfl
                obtain ⟨m, hm⟩ : ∃ m, m = turnF k (T % k) j := ⟨_, rfl⟩
                have hmk : m < k := by rw [hm, HF.out]; exact Nat.mod_lt _ (by omega)
                have HMM := Lib.hid hm
                clear hm
                go_wp2_with fail
                rw [show ((j : Int) + T) % k = ((m : Nat) : Int) from by rw [HMM.out, HF.out, Nat.add_mod_mod, Int.natCast_emod, Int.natCast_add]]
                have l3 := votesOf_len P (turnF k (T % k)) j true
                have l4 := votesOf_len P (turnF k (T % k)) j false
                refine (one_vote m (by omega) hYr hV2.b.s (by omega) (by omega)).mono ?_
                rintro e w6 ⟨rfl, hv⟩
                have hcan := (H1.out j hlt).2
                rw [← HMM.out] at hcan
                obtain ⟨vyb', vnb', hV3⟩ := hV2.swap.one hcan hv
                have e1 : (if Y.getD m false then votesOf P (turnF k (T % k)) j true ++ [(m : Int) + 1] else votesOf P (turnF k (T % k)) j true) = votesOf P (turnF k (T % k)) (j + 1) true := by
                  rw [votesOf_succ, ← HMM.out, hPY.out m (by omega)]
                  cases Y.getD m false <;> rfl
                have e2 : (if Y.getD m false then votesOf P (turnF k (T % k)) j false else votesOf P (turnF k (T % k)) j false ++ [(m : Int) + 1]) = votesOf P (turnF k (T % k)) (j + 1) false := by
                  rw [votesOf_succ, ← HMM.out, hPY.out m (by omega)]
                  cases Y.getD m false <;> rfl
                rw [e1, e2] at hV3
                have hV4 := hV3.swap
                clear hv hV2 hV3 e1 e2 hYr hcan l3 l4
                go_wp2_with fail
                go_roundw
                case rel => exact ⟨j + 1, _, _, _, _, by omega, by go_num, hV4⟩
                case measure => simp [intOf]; omega
              · obtain rfl : j = k := by omega
                have hYr := hY2.below hV.a.below rfl
                have HPN := hPN
                clear hlt hj hPN H1 hPY HF
                rename World => w5
                go_wp2_with fail
                obtain ⟨av, capv, rfl, hcapv, hcmv, hcv⟩ := hYr
                rw [List.length_map] at *
                have HCV : Hid (∀ i (h : i < Y.length), ∃ b off, av = some ⟨b, off, none⟩ ∧ w5.cell? ⟨b, off + i, none⟩ = some (.bool Y[i])) := Lib.hid (by
                  intro i h
                  obtain ⟨b, off, rfl, hcell⟩ := hcv (by intro e; rw [List.map_eq_nil_iff] at e; subst e; simp at h)
                  have hc := hcell i (by rw [List.length_map]; exact h)
                  rw [List.getElem_map] at hc
                  exact ⟨b, off, rfl, hc⟩)
                clear hcv
                go_loopw [13, 14] (fun c i wq => ∃ i' : Nat, i' ≤ j ∧ i = .int .i64 i' ∧ c = .int .i64 (yesN Y i') ∧ wq = w5) (fun _ i _ => j - (intOf i).toNat)
                case atStart => exact ⟨0, by omega, rfl, rfl, rfl⟩
                case round =>
                  obtain ⟨i, hi, rfl, rfl, rfl⟩ := hrel
                  rename World => w5
                  by_cases h1 : i < j
                  · by_cases h2 : i < Y.length
                    · obtain ⟨bv, off, rfl, hc⟩ := HCV.out i h2
                      have hle := yesN_le Y i
                      have HS : Hid (yesN Y (i + 1) = yesN Y i + if Y[i] then 1 else 0) := Lib.hid (by rw [yesN_succ, List.getD_eq_getElem?_getD, List.getElem?_eq_getElem h2]; rfl)
                      generalize Y[i] = y at *
                      generalize yesN Y i = q at *
                      cases y
                      · go_wp2_with fail
                        go_roundw
                        case rel => exact ⟨i + 1, by omega, by go_num, by rw [HS.out]; rfl, trivial⟩
                        case measure => simp [intOf]; omega
                      · go_wp2_with fail
                        go_roundw
                        case rel => exact ⟨i + 1, by omega, by go_num, by rw [HS.out]; rfl, trivial⟩
                        case measure => simp [intOf]; omega
                    · have hq : yesN Y i = yesN P j := by rw [HPN.out, yesN_end Y i j (by omega) hi]
                      have l2 := votesOf_len P id j false
                      have l4 := votesOf_len P (turnF j (T % j)) j false
                      have hql := yesN_le Y i
                      generalize yesN Y i = q at *
                      by_cases hd : j < 2 * q
                      · have hdd : decide (j < 2 * yesN P j) = true := by rw [← hq]; exact decide_eq_true hd
                        have td : decide ((j : Int) < 2 * (q : Int)) = true := decide_eq_true (by omega)
                        have A2 : Hid (majC (upTo j) (votesOf P id j true) = true) := Lib.hid (by rw [H2.out, hdd])
                        have A3 : Hid (majC (upTo j) (votesOf P (turnF j (T % j)) j true) = true) := Lib.hid (by rw [H3.out, hdd])
                        have A4 : Hid (lostC (upTo j) (votesOf P id j false) = false) := Lib.hid (by rw [H4.out, hdd]; rfl)
                        have A5 : Hid (lostC (upTo j) (votesOf P (turnF j (T % j)) j false) = false) := Lib.hid (by rw [H5.out, hdd]; rfl)
                        clear hdd hd hq H2 H3 H4 H5 HCV
                        go_wp2_with fail
                        refine (vote_won hV.a.s (by rw [HUL.out]; omega)).mono ?_
                        rintro e w6 ⟨rfl, n6, rfl⟩
                        rw [A2.out]
                        have hV := hV.drewN n6
                        generalize World.drewN _ n6 = w6 at *
                        go_wp2_with fail
                        refine (vote_won hV.b.s (by rw [HUL.out]; omega)).mono ?_
                        rintro e w6 ⟨rfl, n6, rfl⟩
                        rw [A3.out]
                        have hV := hV.drewN n6
                        generalize World.drewN _ n6 = w6 at *
                        go_wp2_with fail
                        refine (vote_lost hV.a.s (by rw [HUL.out]; omega) (by omega)).mono ?_
                        rintro e w6 ⟨rfl, n6, rfl⟩
                        rw [A4.out]
                        have hV := hV.drewN n6
                        generalize World.drewN _ n6 = w6 at *
                        go_wp2_with fail
                        refine (vote_lost hV.b.s (by rw [HUL.out]; omega) (by omega)).mono ?_
                        rintro e w6 ⟨rfl, n6, rfl⟩
                        rw [A5.out]
                        have hV := hV.drewN n6
                        generalize World.drewN _ n6 = w6 at *
                        go_wp2_with fail
                        refine (vote_won hV.a.s (by rw [HUL.out]; omega)).mono ?_
                        rintro e w6 ⟨rfl, n6, rfl⟩
                        rw [A2.out]
                        have hV := hV.drewN n6
                        generalize World.drewN _ n6 = w6 at *
                        go_wp2_with fail
                        refine (vote_lost hV.a.s (by rw [HUL.out]; omega) (by omega)).mono ?_
                        rintro e w6 ⟨rfl, n6, rfl⟩
                        rw [A4.out]
                        have hV := hV.drewN n6
                        generalize World.drewN _ n6 = w6 at *
                        go_wp2_with fail
                        refine (vote_won hV.a.s (by rw [HUL.out]; omega)).mono ?_
                        rintro e w6 ⟨rfl, n6, rfl⟩
                        rw [A2.out]
                        have hV := hV.drewN n6
                        generalize World.drewN _ n6 = w6 at *
                        go_wp2_with fail
                        go_ret
                        exact ⟨rfl, hbelW.trans (hV.a.below.mono hbelW.size)⟩
                      · have hdd : decide (j < 2 * yesN P j) = false := by rw [← hq]; exact decide_eq_false hd
                        have td : decide ((j : Int) < 2 * (q : Int)) = false := decide_eq_false (by omega)
                        have A2 : Hid (majC (upTo j) (votesOf P id j true) = false) := Lib.hid (by rw [H2.out, hdd])
                        have A3 : Hid (majC (upTo j) (votesOf P (turnF j (T % j)) j true) = false) := Lib.hid (by rw [H3.out, hdd])
                        have A4 : Hid (lostC (upTo j) (votesOf P id j false) = true) := Lib.hid (by rw [H4.out, hdd]; rfl)
                        have A5 : Hid (lostC (upTo j) (votesOf P (turnF j (T % j)) j false) = true) := Lib.hid (by rw [H5.out, hdd]; rfl)
                        clear hdd hd hq H2 H3 H4 H5 HCV
                        go_wp2_with fail
                        refine (vote_won hV.a.s (by rw [HUL.out]; omega)).mono ?_
                        rintro e w6 ⟨rfl, n6, rfl⟩
                        rw [A2.out]
                        have hV := hV.drewN n6
                        generalize World.drewN _ n6 = w6 at *
                        go_wp2_with fail
                        refine (vote_won hV.b.s (by rw [HUL.out]; omega)).mono ?_
                        rintro e w6 ⟨rfl, n6, rfl⟩
                        rw [A3.out]
                        have hV := hV.drewN n6
                        generalize World.drewN _ n6 = w6 at *
                        go_wp2_with fail
                        refine (vote_lost hV.a.s (by rw [HUL.out]; omega) (by omega)).mono ?_
                        rintro e w6 ⟨rfl, n6, rfl⟩
                        rw [A4.out]
                        have hV := hV.drewN n6
                        generalize World.drewN _ n6 = w6 at *
                        go_wp2_with fail
                        refine (vote_lost hV.b.s (by rw [HUL.out]; omega) (by omega)).mono ?_
                        rintro e w6 ⟨rfl, n6, rfl⟩
                        rw [A5.out]
                        have hV := hV.drewN n6
                        generalize World.drewN _ n6 = w6 at *
                        go_wp2_with fail
                        refine (vote_won hV.a.s (by rw [HUL.out]; omega)).mono ?_
                        rintro e w6 ⟨rfl, n6, rfl⟩
                        rw [A2.out]
                        have hV := hV.drewN n6
                        generalize World.drewN _ n6 = w6 at *
                        go_wp2_with fail
                        refine (vote_lost hV.a.s (by rw [HUL.out]; omega) (by omega)).mono ?_
                        rintro e w6 ⟨rfl, n6, rfl⟩
                        rw [A4.out]
                        have hV := hV.drewN n6
                        generalize World.drewN _ n6 = w6 at *
                        go_wp2_with fail
                        refine (vote_won hV.a.s (by rw [HUL.out]; omega)).mono ?_
                        rintro e w6 ⟨rfl, n6, rfl⟩
                        rw [A2.out]
                        have hV := hV.drewN n6
                        generalize World.drewN _ n6 = w6 at *
                        go_wp2_with fail
                        go_ret
                        exact ⟨rfl, hbelW.trans (hV.a.below.mono hbelW.size)⟩
                  · obtain rfl : i = j := by omega
                    have hq : yesN Y i = yesN P i := HPN.out.symm
                    have l2 := votesOf_len P id i false
                    have l4 := votesOf_len P (turnF i (T % i)) i false
                    have hql := yesN_le Y i
                    generalize yesN Y i = q at *
                    by_cases hd : i < 2 * q
                    · have hdd : decide (i < 2 * yesN P i) = true := by rw [← hq]; exact decide_eq_true hd
                      have td : decide ((i : Int) < 2 * (q : Int)) = true := decide_eq_true (by omega)
                      have A2 : Hid (majC (upTo i) (votesOf P id i true) = true) := Lib.hid (by rw [H2.out, hdd])
                      have A3 : Hid (majC (upTo i) (votesOf P (turnF i (T % i)) i true) = true) := Lib.hid (by rw [H3.out, hdd])
                      have A4 : Hid (lostC (upTo i) (votesOf P id i false) = false) := Lib.hid (by rw [H4.out, hdd]; rfl)
                      have A5 : Hid (lostC (upTo i) (votesOf P (turnF i (T % i)) i false) = false) := Lib.hid (by rw [H5.out, hdd]; rfl)
                      clear hdd hd hq H2 H3 H4 H5 HCV
                      go_wp2_with fail
                      refine (vote_won hV.a.s (by rw [HUL.out]; omega)).mono ?_
                      rintro e w6 ⟨rfl, n6, rfl⟩
                      rw [A2.out]
                      have hV := hV.drewN n6
                      generalize World.drewN _ n6 = w6 at *
                      go_wp2_with fail
                      refine (vote_won hV.b.s (by rw [HUL.out]; omega)).mono ?_
                      rintro e w6 ⟨rfl, n6, rfl⟩
                      rw [A3.out]
                      have hV := hV.drewN n6
                      generalize World.drewN _ n6 = w6 at *
                      go_wp2_with fail
                      refine (vote_lost hV.a.s (by rw [HUL.out]; omega) (by omega)).mono ?_
                      rintro e w6 ⟨rfl, n6, rfl⟩
                      rw [A4.out]
                      have hV := hV.drewN n6
                      generalize World.drewN _ n6 = w6 at *
                      go_wp2_with fail
                      refine (vote_lost hV.b.s (by rw [HUL.out]; omega) (by omega)).mono ?_
                      rintro e w6 ⟨rfl, n6, rfl⟩
                      rw [A5.out]
                      have hV := hV.drewN n6
                      generalize World.drewN _ n6 = w6 at *
                      go_wp2_with fail
                      refine (vote_won hV.a.s (by rw [HUL.out]; omega)).mono ?_
                      rintro e w6 ⟨rfl, n6, rfl⟩
                      rw [A2.out]
                      have hV := hV.drewN n6
                      generalize World.drewN _ n6 = w6 at *
                      go_wp2_with fail
                      refine (vote_lost hV.a.s (by rw [HUL.out]; omega) (by omega)).mono ?_
                      rintro e w6 ⟨rfl, n6, rfl⟩
                      rw [A4.out]
                      have hV := hV.drewN n6
                      generalize World.drewN _ n6 = w6 at *
                      go_wp2_with fail
                      refine (vote_won hV.a.s (by rw [HUL.out]; omega)).mono ?_
                      rintro e w6 ⟨rfl, n6, rfl⟩
                      rw [A2.out]
                      have hV := hV.drewN n6
                      generalize World.drewN _ n6 = w6 at *
                      go_wp2_with fail
                      go_ret
                      exact ⟨rfl, hbelW.trans (hV.a.below.mono hbelW.size)⟩
                    · have hdd : decide (i < 2 * yesN P i) = false := by rw [← hq]; exact decide_eq_false hd
                      have td : decide ((i : Int) < 2 * (q : Int)) = false := decide_eq_false (by omega)
                      have A2 : Hid (majC (upTo i) (votesOf P id i true) = false) := Lib.hid (by rw [H2.out, hdd])
                      have A3 : Hid (majC (upTo i) (votesOf P (turnF i (T % i)) i true) = false) := Lib.hid (by rw [H3.out, hdd])
                      have A4 : Hid (lostC (upTo i) (votesOf P id i false) = true) := Lib.hid (by rw [H4.out, hdd]; rfl)
                      have A5 : Hid (lostC (upTo i) (votesOf P (turnF i (T % i)) i false) = true) := Lib.hid (by rw [H5.out, hdd]; rfl)
                      clear hdd hd hq H2 H3 H4 H5 HCV
                      go_wp2_with fail
                      refine (vote_won hV.a.s (by rw [HUL.out]; omega)).mono ?_
                      rintro e w6 ⟨rfl, n6, rfl⟩
                      rw [A2.out]
                      have hV := hV.drewN n6
                      generalize World.drewN _ n6 = w6 at *
                      go_wp2_with fail
                      refine (vote_won hV.b.s (by rw [HUL.out]; omega)).mono ?_
                      rintro e w6 ⟨rfl, n6, rfl⟩
                      rw [A3.out]
                      have hV := hV.drewN n6
                      generalize World.drewN _ n6 = w6 at *
                      go_wp2_with fail
                      refine (vote_lost hV.a.s (by rw [HUL.out]; omega) (by omega)).mono ?_
                      rintro e w6 ⟨rfl, n6, rfl⟩
                      rw [A4.out]
                      have hV := hV.drewN n6
                      generalize World.drewN _ n6 = w6 at *
                      go_wp2_with fail
                      refine (vote_lost hV.b.s (by rw [HUL.out]; omega) (by omega)).mono ?_
                      rintro e w6 ⟨rfl, n6, rfl⟩
                      rw [A5.out]
                      have hV := hV.drewN n6
                      generalize World.drewN _ n6 = w6 at *
                      go_wp2_with fail
                      refine (vote_won hV.a.s (by rw [HUL.out]; omega)).mono ?_
                      rintro e w6 ⟨rfl, n6, rfl⟩
                      rw [A2.out]
                      have hV := hV.drewN n6
                      generalize World.drewN _ n6 = w6 at *
                      go_wp2_with fail
                      refine (vote_lost hV.a.s (by rw [HUL.out]; omega) (by omega)).mono ?_
                      rintro e w6 ⟨rfl, n6, rfl⟩
                      rw [A4.out]
                      have hV := hV.drewN n6
                      generalize World.drewN _ n6 = w6 at *
                      go_wp2_with fail
                      refine (vote_won hV.a.s (by rw [HUL.out]; omega)).mono ?_
                      rintro e w6 ⟨rfl, n6, rfl⟩
                      rw [A2.out]
                      have hV := hV.drewN n6
                      generalize World.drewN _ n6 = w6 at *
                      go_wp2_with fail
                      go_ret
                      exact ⟨rfl, hbelW.trans (hV.a.below.mono hbelW.size)⟩
/-! ### From the row to the walk -/
namespace voteOrderF
set_option linter.unusedVariables false
theorem own : ownKnob Try.prog.godebug = none := by kernel_rfl
theorem laidOut : laidOutB Try.prog = true := by kernel_rfl
set_option maxRecDepth 100000 in
theorem lifted (os : Os) (started : os.Started) (H : Type) (enc : TypeId × Value → H) :
    ReturnsInHanded {} Try.checked os 4 .any (Rows.voteOrderSpec.pre6 enc Try.prog Try.f4 Rows.voteOrderRow.domain false) (Rows.voteOrderSpec.post enc Try.prog Try.f4 false true false false) := by
  refine returnsInHanded_of_change (C := Try.checked) own started (by kernel_rfl) Try.func4
    (ChangeSpec.witness6 (enc := enc) (C := Try.checked) false ⟨#[], #[.int .i64 0, voteOrder_wit1, .int .i64 0], []⟩ 8 (by kernel_rfl) (by kernel_rfl) (by kernel_rfl) (by kernel_rfl)) ?_
  intro W base args ds gs before hval0 hW hcnd _
  have hval : ∀ (j : Nat) t v, Try.f4.params[j]? = some t → args[j]? = some v → Value.okWide Try.prog W .any base t v := hval0
  have hW' := hW
  obtain ⟨p, q, hA0, hV, rfl, hfz, hnd⟩ := hW
  have hA : DataW.TrodAll enc Try.prog W 0 (fun _ => true) true Try.f4.params.toList args.toList ds p := hA0
  rw [Try.params4] at hA hval
  obtain ⟨v0, vs0, d0, ds0, p0, q0, hargs, rfl, rfl, h0, r0⟩ := trodAll_cons hA
  obtain ⟨v1, vs1, d1, ds1, p1, q1, rfl, rfl, rfl, h1, r1⟩ := trodAll_cons r0
  obtain ⟨v2, vs2, d2, ds2, p2, q2, rfl, rfl, rfl, h2, r2⟩ := trodAll_cons r1
  obtain ⟨rfl, rfl, rfl⟩ := trodAll_nil r2
  obtain rfl : args = #[v0, v1, v2] := by cases args; simp_all
  obtain ⟨rfl, rfl⟩ := trodVars_none hV
  have k0 := h0
  have lt0 : ∀ x ∈ p0, x.block < W.heap.size := by obtain ⟨m, hm⟩ := k0; exact DataW.trod_lt m _ _ _ hm
  obtain ⟨a0, rfl, hd0, hp0, w0⟩ := open_int Try.underlying3 (hval 0 3 v0 rfl rfl) h0
  have k1 := h1
  have lt1 : ∀ x ∈ p1, x.block < W.heap.size := by obtain ⟨m, hm⟩ := k1; exact DataW.trod_lt m _ _ _ hm
  obtain ⟨x1, w1⟩ := voteOrder_open1 (hval 1 26 v1 rfl rfl) h1
  have k2 := h2
  have lt2 : ∀ x ∈ p2, x.block < W.heap.size := by obtain ⟨m, hm⟩ := k2; exact DataW.trod_lt m _ _ _ hm
  obtain ⟨a2, rfl, hd2, hp2, w2⟩ := open_int Try.underlying3 (hval 2 3 v2 rfl rfl) h2
  clear hA0 hval0
  refine (voteOrder_walk a0 v1 x1 a2 W w0 w1 w2).mono fun e W' ⟨he, bel⟩ => ?_
  subst he
  exact ⟨_, rfl, _, _, _, [], _, [], hW', trodAll_mk1 (shut_bool Try.underlying4 _), (trodAll_cons_mk (Below.trod laidOut (by kernel_rfl) (of_decide_eq_true (by kernel_rfl)) k0 bel lt0) (trodAll_cons_mk (Below.trod laidOut (by kernel_rfl) (of_decide_eq_true (by kernel_rfl)) k1 bel lt1) (trodAll_cons_mk (Below.trod laidOut (by kernel_rfl) (of_decide_eq_true (by kernel_rfl)) k2 bel lt2) trodAll_mk0))), rfl, bel.frame _, fun h => by cases h⟩
theorem over : Rows.voteOrderRow.holds Try.pinned (OpenSpec.ofChange Rows.voteOrderSpec) :=
  OpenClaim.holds_of_wide 4 Try.f4 rfl rfl rfl rfl rfl rfl rfl ⟨rfl, rfl, rfl, rfl, rfl⟩ rfl rfl rfl rfl rfl (by kernel_rfl) Try.func4 (by kernel_rfl)
    (of_decide_eq_true (by kernel_rfl)) (by unfold Func.isWrapper; first | (rw [if_pos (by decide +kernel)]; kernel_rfl) | (rw [if_neg (by decide +kernel)]; exact ⟨rfl, rfl⟩))
    (fun os started H enc _ => lifted os started H enc)
end voteOrderF
theorem voteOrder_holds : Rows.VoteOrderSaid := voteOrderF.over
#print axioms voteOrder_holds
end Go.Proofs.Ytankebgpkhcgnaa
