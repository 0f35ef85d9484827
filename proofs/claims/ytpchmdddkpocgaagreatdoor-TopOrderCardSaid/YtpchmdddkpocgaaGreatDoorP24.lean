/-
  No claim by itself: TopOrder: the first world whole. | TopOrder: packs, pairs. | TopOrder: each client and each server. | TopOrder: the plain law: turns of pushes and pulls come to rest. | TopOrder: all comes to rest. | TopOrder: a round; rest. | TopOrder: the law's T: must, quiet, push, pull, rest. No condition.
-/
import Derived.Test.YtpchmdddkpocgaaGreatDoorP23
namespace Go.Proofs.YtpchmdddkpocgaaGreatDoor
set_option maxRecDepth 100000
set_option linter.unusedVariables false
set_option linter.unusedSimpArgs false
open Go.ChangeShapes Go.WideShapes Go.ChangeAt Go.RowKit
theorem nd_apart : ∀ {A T : List (Q × SB)}, ndS (A ++ T) = true → ∀ e ∈ A, ∀ e' ∈ T, e.1 ≠ e'.1
 | [], _, _, e, he, _, _ => by cases he
 | a :: A, T, h, e, he, e', he' => by
  obtain ⟨h1, h2⟩ := andB_spec (show andB ((A ++ T).all fun x => !(Q.eq a.1 x.1)) (ndS (A ++ T)) = true from h)
  rcases List.mem_cons.1 he with he | he
  ·intro e2
   have := List.all_eq_true.1 h1 e' (List.mem_append_right _ he')
   rw [← e2, he, Q.eq_rfl] at this
   cases this
  ·exact nd_apart h2 e he e' he'
theorem nd_tail : ∀ {A T : List (Q × SB)}, ndS (A ++ T) = true → ndS T = true
 | [], _, h => h
 | a :: A, T, h => by
  obtain ⟨_, h2⟩ := andB_spec (show andB ((A ++ T).all fun x => !(Q.eq a.1 x.1)) (ndS (A ++ T)) = true from h)
  exact nd_tail h2
theorem nd_head : ∀ {A T : List (Q × SB)}, ndS (A ++ T) = true → ndS A = true
 | [], _, _ => rfl
 | a :: A, T, h => by
  obtain ⟨h1, h2⟩ := andB_spec (show andB ((A ++ T).all fun x => !(Q.eq a.1 x.1)) (ndS (A ++ T)) = true from h)
  show andB (A.all fun x => !(Q.eq a.1 x.1)) (ndS A) = true
  have e1 : (A.all fun x => !(Q.eq a.1 x.1)) = true := List.all_eq_true.2 fun x hx => List.all_eq_true.1 h1 x (List.mem_append_left _ hx)
  rw [e1, nd_head h2]
  rfl
section
variable {w : World} {B n : Nat} {ρ : Q → Loc}
theorem im_apart {S A T : List (Q × SB)} {nx : Q} (E : EmbS Tryz.prog ρ S nx w B) (hnd : ndS S = true) (hA : A ⊆ S) (hT : T ⊆ S) (hne : ∀ e ∈ A, ∀ e' ∈ T, e.1 ≠ e'.1) {b : Nat} (h1 : Im ρ A b) (h2 : Im ρ T b) : False := by
 obtain ⟨e, he, e1⟩ := h1
 obtain ⟨e', he', e2⟩ := h2
 exact hne e he e' he' (live_inj E (live_mem hnd (hA he) rfl) (live_mem hnd (hT he') rfl) (e1.trans e2.symm))
theorem im_ge {S : List (Q × SB)} {nx : Q} (E : EmbS Tryz.prog ρ S nx w B) (hnd : ndS S = true) {b : Nat} (h : Im ρ S b) : B ≤ b := by
 obtain ⟨e, he, e1⟩ := h
 rw [← e1]
 exact E.ge _ (live_mem hnd he rfl)
theorem EmbS.renamed5 {S T : List (Q × SB)} {nx nx0 q1 q2 q3 q4 q5 r1 r2 r3 r4 r5 : Q} {N : Nat} (E : EmbS Tryz.prog ρ S nx0 w B) (hf : okK N [(q1, r1), (q2, r2), (q3, r3), (q4, r4), (q5, r5)] = true) (hN : 0 < N) (hnx : nx.num = N) (hm : matchS N (.mk (mkT (mkS S)) nx0) T [(q1, r1), (q2, r2), (q3, r3), (q4, r4), (q5, r5)] = true) :
  ∃ ρ', EmbS Tryz.prog ρ' T nx w B ∧ (ρ' q1 = ρ r1 ∧ ρ' q2 = ρ r2 ∧ ρ' q3 = ρ r3 ∧ ρ' q4 = ρ r4 ∧ ρ' q5 = ρ r5) ∧ (∀ b, Blk ρ' T b → Im ρ S b) := by
 obtain ⟨ρ', h1, h2, h3, _⟩ := EmbS.renamed E hf hN hnx hm
 exact ⟨ρ', h1, ⟨h2 (q1, r1) (by simp), h2 (q2, r2) (by simp), h2 (q3, r3) (by simp), h2 (q4, r4) (by simp), h2 (q5, r5) (by simp)⟩, h3⟩
theorem first_wld (E : EmbS Tryz.prog ρ wldN (qn 600) w B) : ∃ ρ', WldAt w B (locOf ρ (qn 102)) (locOf ρ (qn 201)) (fun c => locOf ρ (oN (kC c) 31)) ρ' ∧ ∀ b, Blk ρ' wldW b → Im ρ wldN b := by
 obtain ⟨ρ', E', ⟨h1, h2, h3, h4, h5⟩, hi⟩ := EmbS.renamed5 (nx := qn 120) E (by kernel_rfl) (by decide) (by rw [qn_num]) wldM_ok
 refine ⟨ρ', ⟨E', ?_, ?_, ?_, ?_, ?_⟩, hi⟩
 ·rw [h1]; exact ⟨rfl, rfl⟩
 ·rw [h2]; exact ⟨rfl, rfl⟩
 ·rw [h3]; exact ⟨rfl, rfl⟩
 ·rw [h4]; exact ⟨rfl, rfl⟩
 ·rw [h5]; exact ⟨rfl, rfl⟩
theorem first_T (E : EmbS Tryz.prog ρ wldT (qn 600) w B) : TAt w (locOf ρ (qn 101)) (locOf ρ (qn 102)) := by
 have hnd : ndS wldT = true := by kernel_rfl
 have hm : (qn 101, SB.bk 42 [.p (qn 102) 0, iN 1, iN 3, .b true]) ∈ wldT := by simp [wldT]
 obtain ⟨v0, g0, r0, _⟩ := EmbS.atq E hnd hm (i := 0) (y := .p (qn 102) 0) rfl
 have e0 := rel_loc r0
 subst e0
 obtain ⟨v3, g3, r3, _⟩ := EmbS.atq E hnd hm (i := 3) (y := .b true) rfl
 have e3 : v3 = .bool true := by
  revert r3
  generalize (qn 600).num = N
  intro r3
  cases r3
  rfl
 subst e3
 obtain ⟨sz, r1, r2, _, r4⟩ := (row_of E hnd hm).at_
 have r2 : (ρ (qn 101)).base + 4 ≤ sz := r2
 exact ⟨World.block_lt_of_cell? w _ g0, g0, g3, r4 _ (by show (ρ (qn 101)).base + 3 < sz; omega)⟩
set_option maxHeartbeats 600000 in
theorem first_all {w0 : World} (E : EmbS Tryz.prog ρ (allN n) (qn 600) w B) (hbel : Below B w0 w) (hn1 : 1 ≤ n) (hn8 : n ≤ 8) : ∃ g : Geo, g.t = locOf ρ (qn 101) ∧ g.o = w0 ∧ WS w B n g [] (fun _ => 0) := by
 have hnd := allN_nd n hn1 hn8
 have n1 := nd_tail hnd
 have n2 := nd_tail n1
 have n3 := nd_tail n2
 have n4 := nd_tail n3
 have n5 := nd_tail n4
 have s5 : wldT ⊆ allN n := List.subset_append_left _ _
 have t1 : wldN ++ (srvN (oN 200) ++ (cliN (kC 1) 1 n ++ (cliN (kC 2) 2 n ++ cliN (kC 3) 3 n))) ⊆ allN n := List.subset_append_right _ _
 have s0 : wldN ⊆ allN n := fun e he => t1 (List.mem_append_left _ he)
 have t2 : srvN (oN 200) ++ (cliN (kC 1) 1 n ++ (cliN (kC 2) 2 n ++ cliN (kC 3) 3 n)) ⊆ allN n := fun e he => t1 (List.mem_append_right _ he)
 have s4 : srvN (oN 200) ⊆ allN n := fun e he => t2 (List.mem_append_left _ he)
 have t3 : cliN (kC 1) 1 n ++ (cliN (kC 2) 2 n ++ cliN (kC 3) 3 n) ⊆ allN n := fun e he => t2 (List.mem_append_right _ he)
 have s1 : cliN (kC 1) 1 n ⊆ allN n := fun e he => t3 (List.mem_append_left _ he)
 have t4 : cliN (kC 2) 2 n ++ cliN (kC 3) 3 n ⊆ allN n := fun e he => t3 (List.mem_append_right _ he)
 have s2 : cliN (kC 2) 2 n ⊆ allN n := fun e he => t4 (List.mem_append_left _ he)
 have s3 : cliN (kC 3) 3 n ⊆ allN n := fun e he => t4 (List.mem_append_right _ he)
 obtain ⟨ρw, hW, iW⟩ := first_wld (EmbS.sub E hnd s0)
 obtain ⟨ρs, hS, iS⟩ := first_srv (EmbS.sub E hnd s4)
 have hT := first_T (EmbS.sub E hnd s5)
 obtain ⟨x1, hC1, iC1⟩ := first_cli (EmbS.sub E hnd s1) (nd_head n3) (cliM_ok 1 n (by omega) (by omega) hn1 hn8) hn1 hn8 (by decide)
 obtain ⟨x2, hC2, iC2⟩ := first_cli (EmbS.sub E hnd s2) (nd_head n4) (cliM_ok 2 n (by omega) (by omega) hn1 hn8) hn1 hn8 (by decide)
 obtain ⟨x3, hC3, iC3⟩ := first_cli (EmbS.sub E hnd s3) n5 (cliM_ok 3 n (by omega) (by omega) hn1 hn8) hn1 hn8 (by decide)
 let y : Sub := ⟨ρw, ρs, fun c => if c = 1 then x1 else if c = 2 then x2 else x3⟩
 let g : Geo := ⟨locOf ρ (qn 101), locOf ρ (qn 102), locOf ρ (qn 201), fun c => locOf ρ (oN (kC c) 31), w0⟩
 let part : Nat → List (Q × SB) := fun i => if i = 0 then wldN else if i = 1 then cliN (kC 1) 1 n else if i = 2 then cliN (kC 2) 2 n else if i = 3 then cliN (kC 3) 3 n else if i = 4 then srvN (oN 200) else wldT
 have hft : ∀ i, i ≤ 5 → ∀ b, Ft g y [] (fun _ => 0) i b → Im ρ (part i) b := fun i hi b hb => by
  have : i = 0 ∨ i = 1 ∨ i = 2 ∨ i = 3 ∨ i = 4 ∨ i = 5 := by omega
  rcases this with e | e | e | e | e | e <;> subst e
  ·rw [Ft_0] at hb; exact iW b hb
  ·rw [Ft_c (by omega) (by omega)] at hb; exact iC1 b hb
  ·rw [Ft_c (by omega) (by omega)] at hb; exact iC2 b hb
  ·rw [Ft_c (by omega) (by omega)] at hb; exact iC3 b hb
  ·rw [Ft_4] at hb; exact iS b hb
  ·rw [Ft_5] at hb
   rw [hb]
   exact ⟨(qn 101, SB.bk 42 [.p (qn 102) 0, iN 1, iN 3, .b true]), by simp [part, wldT], rfl⟩
 have hsub : ∀ i, i ≤ 5 → part i ⊆ allN n := fun i hi => by
  have : i = 0 ∨ i = 1 ∨ i = 2 ∨ i = 3 ∨ i = 4 ∨ i = 5 := by omega
  rcases this with e | e | e | e | e | e <;> subst e
  ·exact s0
  ·exact s1
  ·exact s2
  ·exact s3
  ·exact s4
  ·exact s5
 have hap : ∀ i j, i ≤ 5 → j ≤ 5 → i ≠ j → ∀ e ∈ part i, ∀ e' ∈ part j, e.1 ≠ e'.1 := by
  have lt : ∀ i j, i ≤ 5 → j ≤ 5 → (i = 5 ∧ j ≠ 5) ∨ (i = 0 ∧ j ≠ 5 ∧ j ≠ 0) ∨ (i = 4 ∧ 1 ≤ j ∧ j ≤ 3) ∨ (1 ≤ i ∧ i < j ∧ j ≤ 3) → ∀ e ∈ part i, ∀ e' ∈ part j, e.1 ≠ e'.1 := fun i j hi hj h e he e' he' => by
   have a0 : ∀ x ∈ wldN, x ∈ wldN ++ (srvN (oN 200) ++ (cliN (kC 1) 1 n ++ (cliN (kC 2) 2 n ++ cliN (kC 3) 3 n))) := fun x hx => List.mem_append_left _ hx
   have b4 : ∀ x ∈ srvN (oN 200), x ∈ srvN (oN 200) ++ (cliN (kC 1) 1 n ++ (cliN (kC 2) 2 n ++ cliN (kC 3) 3 n)) := fun x hx => List.mem_append_left _ hx
   have c1 : ∀ x ∈ cliN (kC 1) 1 n, x ∈ cliN (kC 1) 1 n ++ (cliN (kC 2) 2 n ++ cliN (kC 3) 3 n) := fun x hx => List.mem_append_left _ hx
   have d2 : ∀ x ∈ cliN (kC 2) 2 n, x ∈ cliN (kC 2) 2 n ++ cliN (kC 3) 3 n := fun x hx => List.mem_append_left _ hx
   have d3 : ∀ x ∈ cliN (kC 3) 3 n, x ∈ cliN (kC 2) 2 n ++ cliN (kC 3) 3 n := fun x hx => List.mem_append_right _ hx
   have hj' : j = 0 ∨ j = 1 ∨ j = 2 ∨ j = 3 ∨ j = 4 ∨ j = 5 := by omega
   rcases h with ⟨h1, h2⟩ | ⟨h1, h2, h3⟩ | ⟨h1, h2, h3⟩ | ⟨h1, h2, h3⟩
   ·subst h1
    refine nd_apart hnd e he e' ?_
    rcases hj' with e2 | e2 | e2 | e2 | e2 | e2 <;> subst e2
    ·exact a0 _ he'
    ·exact List.mem_append_right _ (List.mem_append_right _ (c1 _ he'))
    ·exact List.mem_append_right _ (List.mem_append_right _ (List.mem_append_right _ (d2 _ he')))
    ·exact List.mem_append_right _ (List.mem_append_right _ (List.mem_append_right _ (d3 _ he')))
    ·exact List.mem_append_right _ (b4 _ he')
    ·exact (h2 rfl).elim
   ·subst h1
    refine nd_apart n1 e he e' ?_
    rcases hj' with e2 | e2 | e2 | e2 | e2 | e2 <;> subst e2
    ·exact (h3 rfl).elim
    ·exact List.mem_append_right _ (c1 _ he')
    ·exact List.mem_append_right _ (List.mem_append_right _ (d2 _ he'))
    ·exact List.mem_append_right _ (List.mem_append_right _ (d3 _ he'))
    ·exact b4 _ he'
    ·exact (h2 rfl).elim
   ·subst h1
    refine nd_apart n2 e he e' ?_
    have : j = 1 ∨ j = 2 ∨ j = 3 := by omega
    rcases this with e2 | e2 | e2 <;> subst e2
    ·exact c1 _ he'
    ·exact List.mem_append_right _ (d2 _ he')
    ·exact List.mem_append_right _ (d3 _ he')
   ·have : (i = 1 ∧ j = 2) ∨ (i = 1 ∧ j = 3) ∨ (i = 2 ∧ j = 3) := by omega
    rcases this with ⟨e1, e2⟩ | ⟨e1, e2⟩ | ⟨e1, e2⟩ <;> subst e1 e2
    ·exact nd_apart n3 e he e' (d2 _ he')
    ·exact nd_apart n3 e he e' (d3 _ he')
    ·exact nd_apart n4 e he e' he'
  intro i j hi hj hij e he e' he'
  by_cases h : (i = 5 ∧ j ≠ 5) ∨ (i = 0 ∧ j ≠ 5 ∧ j ≠ 0) ∨ (i = 4 ∧ 1 ≤ j ∧ j ≤ 3) ∨ (1 ≤ i ∧ i < j ∧ j ≤ 3)
  ·exact lt i j hi hj h e he e' he'
  ·exact Ne.symm (lt j i hj hi (by omega) e' he' e he)
 refine ⟨g, rfl, rfl, y, hT, hW, hS, fun c h1 h3 => ?_, fun i hi b hb => ?_, fun i j hi hj hij b hb hb' => ?_, hbel⟩
 ·have : c = 1 ∨ c = 2 ∨ c = 3 := by omega
  rcases this with e | e | e <;> subst e
  ·exact hC1
  ·exact hC2
  ·exact hC3
 ·exact im_ge E hnd ((hft i hi b hb).mono (hsub i hi))
 ·exact im_apart E hnd (hsub i hi) (hsub j hj) (hap i j hi hj hij) (hft i hi b hb) (hft j hj b hb')
end
theorem srvV_nil (sa : Nat × Nat) {k : Nat} (h : k ≠ 1) : srvV sa k = .pointer none := if_neg h
theorem cliV_nil (ca : Nat → Nat × Nat) {k : Nat} (h : ¬ k ≤ 3) : cliV ca k = .pointer none := if_neg h
set_option maxHeartbeats 4000000 in
theorem calm_pack {w : World} {B n : Nat} {g : Geo} {R : List (Nat × Nat)} {p : Nat → Nat} (hG : ∀ k, k ≤ 24 → getK k = true) (h : WS w B n g R p) (hl : R.length ≤ 24) :
  Calls Tryz.prog 87 #[adr g.wl] w fun e w' => e = .returned (.tuple #[]) ∧ WS w' B n g R p := by
 have H := Lib.hid h
 clear h
 have HW := Lib.hid (fun (u : World) (k : Nat) (y : Sub) (hA : All u B n g R p y) (h1 : 1 ≤ k) (h7 : k ≤ 7) => wld_server hA.W h1 h7)
 have HGT := Lib.hid hG
 clear hG
 generalize hwv : adr g.wl = wv at *
 clear hwv
 go_enter Tryz.func87, Tryz.ntmps87
 go_wp2_with fail
 go_loopw [2] (fun i wr => ∃ k : Nat, 1 ≤ k ∧ k ≤ 8 ∧ i = .int .i64 k ∧ Hid (WS wr B n g R p)) (fun i _ => 8 - (intOf i).toNat)
 case atStart => exact ⟨1, by omega, by omega, rfl, H⟩
 case round =>
  obtain ⟨k, hk1, hk8, rfl, hI⟩ := hrel
  by_cases hlt : k ≤ 7
  ·obtain ⟨y, hA⟩ := hI.out
   have HA := Lib.hid hA
   clear hA hI
   have tk : decide ((k : Int) ≤ 7) = true := decide_eq_true (by omega)
   have HS := Lib.hid (HW.out wr k y HA.out hk1 hlt)
   go_wp2_with fail
   refine (HS.out).mono ?_
   rintro e w' ⟨rfl, rfl⟩
   rename World => wr
   by_cases hk : k = 1
   ·subst hk
    rw [srvV_one]
    have hne := fun u => nil_srv u ⟨g.sa.1, g.sa.2, none⟩
    have hne' : ∀ u : World, (binOp .neq 54 (.pointer (some ⟨g.sa.1, g.sa.2, none⟩)) (.pointer none)).run Tryz.prog u = .ok (.bool true) u := fun u => by go_simp
    have R1 := Lib.hid (srv_raft HA.out.S)
    have R2 := Lib.hid (raft_log HA.out.S)
    have R3 := Lib.hid (log_first HA.out.S)
    have R4 := Lib.hid (log_get HA.out.S (HGT.out _ hl))
    unfold adr at R1 R2 R3 R4
    generalize locOf y.ρs (qn 3) = l3 at *
    generalize locOf y.ρs (qn 7) = l7 at *
    go_wp2_with fail
    refine (R1.out).mono ?_
    rintro e w' ⟨rfl, rfl⟩
    go_wp2_with fail
    refine (R2.out).mono ?_
    rintro e w' ⟨rfl, rfl⟩
    go_wp2_with fail
    refine (R1.out).mono ?_
    rintro e w' ⟨rfl, rfl⟩
    go_wp2_with fail
    refine (R2.out).mono ?_
    rintro e w' ⟨rfl, rfl⟩
    go_wp2_with fail
    refine (R3.out).mono ?_
    rintro e w' ⟨rfl, rfl⟩
    go_wp2_with fail
    refine (R4.out).mono ?_
    rintro e w2 ⟨⟨l, c, rfl⟩, ρ', hS, hb, hf⟩
    have HN : Hid (WS w2 B n g R p) := Lib.hid ⟨_, HA.out.srv hS hb hf (fun _ _ _ => rfl)⟩
    have t100 : decide ((100 : Int) < ((R.length + 1 : Nat) : Int)) = false := decide_eq_false (by omega)
    have t101 : decide ((100 : Int) < (R.length : Int) + 1) = false := decide_eq_false (by omega)
    clear hS hb hf
    go_wp2_with fail
    go_roundw
    case rel => exact ⟨2, by omega, by omega, by go_num, HN⟩
    case measure => simp [intOf]
   ·rw [srvV_nil _ hk]
    have HN : Hid (WS wr B n g R p) := Lib.hid ⟨y, HA.out⟩
    go_wp2_with fail
    go_roundw
    case rel => exact ⟨k + 1, by omega, by omega, by go_num, HN⟩
    case measure => simp [intOf]; omega
  ·obtain rfl : k = 8 := by omega
   go_wp2_with fail
   go_end0
   exact ⟨rfl, hI.out⟩
set_option maxHeartbeats 4000000 in
theorem pairs_push {w : World} {B n : Nat} {g : Geo} (J : Nat → World → Prop) (hJ : ∀ k u, J k u → ∃ R p, WS u B n g R p) (step : ∀ c u, 1 ≤ c → c ≤ 3 → J (c - 1) u → Calls Tryz.prog 25 #[adr g.wl, .int .i64 c, .int .i64 1] u fun e w' => (∃ v, e = .returned v) ∧ J c w') (h0 : J 0 w) :
  Calls Tryz.prog 88 #[adr g.wl, .func (.func 25) #[adr g.wl] #[]] w fun e w' => e = .returned (.tuple #[]) ∧ J 3 w' := by
 have HW := Lib.hid (fun (u : World) (k : Nat) (R : List (Nat × Nat)) (p : Nat → Nat) (y : Sub) (hA : All u B n g R p y) (h1 : 1 ≤ k) (h7 : k ≤ 7) => wld_server hA.W h1 h7)
 have HC := Lib.hid (fun (u : World) (k : Nat) (R : List (Nat × Nat)) (p : Nat → Nat) (y : Sub) (hA : All u B n g R p y) (h1 : 1 ≤ k) (h7 : k ≤ 10) => wld_client hA.W h1 h7)
 have HJ := Lib.hid hJ
 have HST := Lib.hid step
 have H0 := Lib.hid h0
 clear hJ step h0
 generalize hwv : adr g.wl = wv at *
 clear hwv
 go_enter Tryz.func88, Tryz.ntmps88
 go_wp2_with fail
 go_loopw [4, 5] (fun i _ wr => ∃ c : Nat, 1 ≤ c ∧ c ≤ 6 ∧ i = .int .i64 c ∧ Hid (J (min (c - 1) 3) wr)) (fun i _ _ => 6 - (intOf i).toNat)
 case atStart => exact ⟨1, by omega, by omega, rfl, H0⟩
 case round =>
  obtain ⟨c, hc1, hc6, rfl, hI⟩ := hrel
  by_cases hlt : c ≤ 5
  ·have tk : decide ((c : Int) ≤ 5) = true := decide_eq_true (by omega)
   go_wp2_with fail
   go_loopw [5] (fun i wr2 => ∃ s : Nat, 1 ≤ s ∧ s ≤ 8 ∧ i = .int .i64 s ∧ Hid (J (if s = 1 then min (c - 1) 3 else min c 3) wr2)) (fun i _ => 8 - (intOf i).toNat)
   case atStart => exact ⟨1, by omega, by omega, rfl, by rw [if_pos rfl]; exact hI⟩
   case round =>
    obtain ⟨s, hs1, hs8, rfl, hI2⟩ := hrel
    by_cases hls : s ≤ 7
    ·have ts : decide ((s : Int) ≤ 7) = true := decide_eq_true (by omega)
     obtain ⟨R, p, y, hA⟩ := HJ.out _ _ hI2.out
     have HA := Lib.hid hA
     clear hA
     have HCl := Lib.hid (HC.out _ c R p y HA.out hc1 (by omega))
     have HSv := Lib.hid (HW.out _ s R p y HA.out hs1 hls)
     go_wp2_with fail
     refine (HCl.out).mono ?_
     rintro e w' ⟨rfl, rfl⟩
     rename World => wr2
     by_cases hc3 : c ≤ 3
     ·rw [cliV_of hc3]
      have hne' : ∀ u : World, (binOp .neq 39 (.pointer (some ⟨(g.ca c).1, (g.ca c).2, none⟩)) (.pointer none)).run Tryz.prog u = .ok (.bool true) u := fun u => by go_simp
      go_wp2_with fail
      refine (HSv.out).mono ?_
      rintro e w' ⟨rfl, rfl⟩
      rename World => wr2
      by_cases hs : s = 1
      ·subst hs
       rw [srvV_one]
       have hne2 : ∀ u : World, (binOp .neq 54 (.pointer (some ⟨g.sa.1, g.sa.2, none⟩)) (.pointer none)).run Tryz.prog u = .ok (.bool true) u := fun u => by go_simp
       have hstep := HST.out c wr2 hc1 hc3 (by have := hI2.out; rw [if_pos rfl, Nat.min_eq_left (by omega)] at this; exact this)
       have HS2 := Lib.hid hstep
       clear hstep
       go_wp2_with fail
       refine (HS2.out).mono ?_
       rintro e w3 ⟨⟨v, rfl⟩, hJ3⟩
       have HN : Hid (J (if (2 : Nat) = 1 then min (c - 1) 3 else min c 3) w3) := Lib.hid (by rw [if_neg (by decide), Nat.min_eq_left hc3]; exact hJ3)
       clear hJ3
       go_wp2_with fail
       go_roundw
       case rel => exact ⟨2, by omega, by omega, by go_num, HN⟩
       case measure => simp [intOf]
      ·rw [srvV_nil _ hs]
       have HN : Hid (J (if s + 1 = 1 then min (c - 1) 3 else min c 3) wr2) := Lib.hid (by have := hI2.out; rw [if_neg hs] at this; rw [if_neg (by omega)]; exact this)
       go_wp2_with fail
       go_roundw
       case rel => exact ⟨s + 1, by omega, by omega, by go_num, HN⟩
       case measure => simp [intOf]; omega
     ·rw [cliV_nil _ hc3]
      have HN : Hid (J (if s + 1 = 1 then min (c - 1) 3 else min c 3) wr2) := Lib.hid (by
       have := hI2.out
       rw [if_neg (by omega)]
       have e1 : min (c - 1) 3 = 3 := by omega
       have e2 : min c 3 = 3 := by omega
       rw [e1, e2, ite_self] at this
       rw [e2]
       exact this)
      go_wp2_with fail
      go_roundw
      case rel => exact ⟨s + 1, by omega, by omega, by go_num, HN⟩
      case measure => simp [intOf]; omega
    ·obtain rfl : s = 8 := by omega
     have HN := Lib.hid (by have := hI2.out; rw [if_neg (by decide)] at this; exact this)
     have HN' : Hid (J (min (c + 1 - 1) 3) _) := Lib.hid (by rw [Nat.add_sub_cancel]; exact HN.out)
     clear HN
     go_wp2_with fail
     go_roundw
     case rel => exact ⟨c + 1, by omega, by omega, by go_num, HN'⟩
     case measure => simp [intOf]; omega
  ·obtain rfl : c = 6 := by omega
   go_wp2_with fail
   go_end0
   exact ⟨rfl, hI.out⟩
set_option maxHeartbeats 4000000 in
theorem pairs_pull {w : World} {B n : Nat} {g : Geo} (J : Nat → World → Prop) (hJ : ∀ k u, J k u → ∃ R p, WS u B n g R p) (step : ∀ c u, 1 ≤ c → c ≤ 3 → J (c - 1) u → Calls Tryz.prog 26 #[adr g.wl, .int .i64 c, .int .i64 1] u fun e w' => (∃ v, e = .returned v) ∧ J c w') (h0 : J 0 w) :
  Calls Tryz.prog 88 #[adr g.wl, .func (.func 26) #[adr g.wl] #[]] w fun e w' => e = .returned (.tuple #[]) ∧ J 3 w' := by
 have HW := Lib.hid (fun (u : World) (k : Nat) (R : List (Nat × Nat)) (p : Nat → Nat) (y : Sub) (hA : All u B n g R p y) (h1 : 1 ≤ k) (h7 : k ≤ 7) => wld_server hA.W h1 h7)
 have HC := Lib.hid (fun (u : World) (k : Nat) (R : List (Nat × Nat)) (p : Nat → Nat) (y : Sub) (hA : All u B n g R p y) (h1 : 1 ≤ k) (h7 : k ≤ 10) => wld_client hA.W h1 h7)
 have HJ := Lib.hid hJ
 have HST := Lib.hid step
 have H0 := Lib.hid h0
 clear hJ step h0
 generalize hwv : adr g.wl = wv at *
 clear hwv
 go_enter Tryz.func88, Tryz.ntmps88
 go_wp2_with fail
 go_loopw [4, 5] (fun i _ wr => ∃ c : Nat, 1 ≤ c ∧ c ≤ 6 ∧ i = .int .i64 c ∧ Hid (J (min (c - 1) 3) wr)) (fun i _ _ => 6 - (intOf i).toNat)
 case atStart => exact ⟨1, by omega, by omega, rfl, H0⟩
 case round =>
  obtain ⟨c, hc1, hc6, rfl, hI⟩ := hrel
  by_cases hlt : c ≤ 5
  ·have tk : decide ((c : Int) ≤ 5) = true := decide_eq_true (by omega)
   go_wp2_with fail
   go_loopw [5] (fun i wr2 => ∃ s : Nat, 1 ≤ s ∧ s ≤ 8 ∧ i = .int .i64 s ∧ Hid (J (if s = 1 then min (c - 1) 3 else min c 3) wr2)) (fun i _ => 8 - (intOf i).toNat)
   case atStart => exact ⟨1, by omega, by omega, rfl, by rw [if_pos rfl]; exact hI⟩
   case round =>
    obtain ⟨s, hs1, hs8, rfl, hI2⟩ := hrel
    by_cases hls : s ≤ 7
    ·have ts : decide ((s : Int) ≤ 7) = true := decide_eq_true (by omega)
     obtain ⟨R, p, y, hA⟩ := HJ.out _ _ hI2.out
     have HA := Lib.hid hA
     clear hA
     have HCl := Lib.hid (HC.out _ c R p y HA.out hc1 (by omega))
     have HSv := Lib.hid (HW.out _ s R p y HA.out hs1 hls)
     go_wp2_with fail
     refine (HCl.out).mono ?_
     rintro e w' ⟨rfl, rfl⟩
     rename World => wr2
     by_cases hc3 : c ≤ 3
     ·rw [cliV_of hc3]
      have hne' : ∀ u : World, (binOp .neq 39 (.pointer (some ⟨(g.ca c).1, (g.ca c).2, none⟩)) (.pointer none)).run Tryz.prog u = .ok (.bool true) u := fun u => by go_simp
      go_wp2_with fail
      refine (HSv.out).mono ?_
      rintro e w' ⟨rfl, rfl⟩
      rename World => wr2
      by_cases hs : s = 1
      ·subst hs
       rw [srvV_one]
       have hne2 : ∀ u : World, (binOp .neq 54 (.pointer (some ⟨g.sa.1, g.sa.2, none⟩)) (.pointer none)).run Tryz.prog u = .ok (.bool true) u := fun u => by go_simp
       have hstep := HST.out c wr2 hc1 hc3 (by have := hI2.out; rw [if_pos rfl, Nat.min_eq_left (by omega)] at this; exact this)
       have HS2 := Lib.hid hstep
       clear hstep
       go_wp2_with fail
       refine (HS2.out).mono ?_
       rintro e w3 ⟨⟨v, rfl⟩, hJ3⟩
       have HN : Hid (J (if (2 : Nat) = 1 then min (c - 1) 3 else min c 3) w3) := Lib.hid (by rw [if_neg (by decide), Nat.min_eq_left hc3]; exact hJ3)
       clear hJ3
       go_wp2_with fail
       go_roundw
       case rel => exact ⟨2, by omega, by omega, by go_num, HN⟩
       case measure => simp [intOf]
      ·rw [srvV_nil _ hs]
       have HN : Hid (J (if s + 1 = 1 then min (c - 1) 3 else min c 3) wr2) := Lib.hid (by have := hI2.out; rw [if_neg hs] at this; rw [if_neg (by omega)]; exact this)
       go_wp2_with fail
       go_roundw
       case rel => exact ⟨s + 1, by omega, by omega, by go_num, HN⟩
       case measure => simp [intOf]; omega
     ·rw [cliV_nil _ hc3]
      have HN : Hid (J (if s + 1 = 1 then min (c - 1) 3 else min c 3) wr2) := Lib.hid (by
       have := hI2.out
       rw [if_neg (by omega)]
       have e1 : min (c - 1) 3 = 3 := by omega
       have e2 : min c 3 = 3 := by omega
       rw [e1, e2, ite_self] at this
       rw [e2]
       exact this)
      go_wp2_with fail
      go_roundw
      case rel => exact ⟨s + 1, by omega, by omega, by go_num, HN⟩
      case measure => simp [intOf]; omega
    ·obtain rfl : s = 8 := by omega
     have HN := Lib.hid (by have := hI2.out; rw [if_neg (by decide)] at this; exact this)
     have HN' : Hid (J (min (c + 1 - 1) 3) _) := Lib.hid (by rw [Nat.add_sub_cancel]; exact HN.out)
     clear HN
     go_wp2_with fail
     go_roundw
     case rel => exact ⟨c + 1, by omega, by omega, by go_num, HN'⟩
     case measure => simp [intOf]; omega
  ·obtain rfl : c = 6 := by omega
   go_wp2_with fail
   go_end0
   exact ⟨rfl, hI.out⟩
end Go.Proofs.YtpchmdddkpocgaaGreatDoor
namespace Go.Proofs.YtpchmdddkpocgaaGreatDoor
set_option maxRecDepth 100000
set_option linter.unusedVariables false
set_option linter.unusedSimpArgs false
theorem cntR_take_mono (R : List (Nat × Nat)) {j k : Nat} (h : j ≤ k) (c : Nat) : cntR (R.take j) c ≤ cntR (R.take k) c := by
 have : R.take j = (R.take k).take j := by rw [List.take_take, Nat.min_eq_left h]
 rw [this]
 exact cntR_take_le _ _ _
theorem pushR_len (n : Nat) (R : List (Nat × Nat)) (p : Nat → Nat) (c : Nat) : R.length ≤ (pushR n R p c).length := by
 unfold pushR
 split <;> simp
theorem pushR_pos {n : Nat} {R : List (Nat × Nat)} {p : Nat → Nat} {c : Nat} (h : (pushR n R p c).length ≤ R.length) : pushR n R p c = R ∧ ¬ (cntR (R.take (p c)) c < n ∧ cntR R c = cntR (R.take (p c)) c) := by
 unfold pushR at h ⊢
 split at h
 ·simp at h; omega
 ·rename_i e; rw [if_neg e]; exact ⟨rfl, e⟩
theorem InvR.push {n : Nat} {R : List (Nat × Nat)} {p : Nat → Nat} (I : InvR n R p) {c : Nat} (h1 : 1 ≤ c) (h3 : c ≤ 3) : InvR n (pushR n R p c) p := by
 unfold pushR
 split
 ·rename_i e
  obtain ⟨e1, e2⟩ := e
  refine ⟨fun j hj => ?_, fun d => by have := I.pl d; simp; omega, fun d d1 d3 => ?_, fun d d1 d3 => ?_⟩
  ·by_cases hjR : j < R.length
   ·rw [List.getElem_append_left hjR, List.take_append_of_le_length (by omega)]
    exact I.wf j hjR
   ·have hjR : j = R.length := by simp at hj; omega
    subst hjR
    rw [List.getElem_append_right (Nat.le_refl _)]
    simp only [Nat.sub_self, List.getElem_cons_zero, List.nil_append, List.take_append_of_le_length (Nat.le_refl _), List.take_length]
    exact ⟨h1, h3, trivial⟩
  ·rw [List.take_append_of_le_length (I.pl d), cntR_snoc]
   have := I.d1 d d1 d3
   by_cases hcd : c = d
   ·subst hcd; simp only [if_true]; omega
   ·simp only [if_neg hcd]; omega
  ·rw [cntR_snoc]
   have := I.cn d d1 d3
   by_cases hcd : c = d
   ·subst hcd; simp only [if_true]; omega
   ·simp only [if_neg hcd]; omega
 ·exact I
theorem InvR.pull {n : Nat} {R : List (Nat × Nat)} {p : Nat → Nat} (I : InvR n R p) (c : Nat) : InvR n R (pullP R p c) := by
 refine ⟨I.wf, fun d => ?_, fun d d1 d3 => ?_, I.cn⟩
 ·unfold pullP
  split
  ·omega
  ·exact I.pl d
 ·have := I.d1 d d1 d3
  have h2 : p d ≤ pullP R p c d := by
   unfold pullP
   have := I.pl d
   split
   ·rename_i e; subst e; omega
   ·omega
  have := cntR_take_mono R h2 d
  omega
def pushA (n : Nat) (R : List (Nat × Nat)) (p : Nat → Nat) : Nat → List (Nat × Nat)
 | 0 => R
 | c + 1 => pushR n (pushA n R p c) p (c + 1)
def pullA (R : List (Nat × Nat)) (p : Nat → Nat) : Nat → Nat → Nat
 | 0 => p
 | c + 1 => pullP R (pullA R p c) (c + 1)
theorem InvR.pushA {n : Nat} {R : List (Nat × Nat)} {p : Nat → Nat} (I : InvR n R p) : ∀ c, c ≤ 3 → InvR n (pushA n R p c) p
 | 0, _ => I
 | c + 1, h => (I.pushA c (by omega)).push (by omega) h
theorem InvR.pullA {n : Nat} {R : List (Nat × Nat)} {p : Nat → Nat} (I : InvR n R p) : ∀ c, InvR n R (pullA R p c)
 | 0 => I
 | c + 1 => (I.pullA c).pull (c + 1)
theorem pullA_at (R : List (Nat × Nat)) (p : Nat → Nat) (c : Nat) (h1 : 1 ≤ c) (h3 : c ≤ 3) : pullA R p 3 c = min (p c + 10) R.length := by
 match c, h1, h3 with
 | 1, _, _ => rfl
 | 2, _, _ => rfl
 | 3, _, _ => rfl
theorem pushA_len (n : Nat) (R : List (Nat × Nat)) (p : Nat → Nat) : ∀ c, R.length ≤ (pushA n R p c).length
 | 0 => Nat.le_refl _
 | c + 1 => Nat.le_trans (pushA_len n R p c) (pushR_len ..)
def Fin3 (n : Nat) (R : List (Nat × Nat)) (p : Nat → Nat) : Prop := ∀ c, 1 ≤ c → c ≤ 3 → cntR R c = n ∧ p c = R.length
theorem pushA_same {n : Nat} {R : List (Nat × Nat)} {p : Nat → Nat} (h : (pushA n R p 3).length ≤ R.length) : pushA n R p 3 = R ∧ ∀ c, 1 ≤ c → c ≤ 3 → ¬ (cntR (R.take (p c)) c < n ∧ cntR R c = cntR (R.take (p c)) c) := by
 have l1 := pushR_len n R p 1
 have l2 := pushR_len n (pushR n R p 1) p 2
 have l3 := pushR_len n (pushR n (pushR n R p 1) p 2) p 3
 have h : (pushR n (pushR n (pushR n R p 1) p 2) p 3).length ≤ R.length := h
 obtain ⟨e1, n1⟩ := pushR_pos (n := n) (R := R) (p := p) (c := 1) (by omega)
 rw [e1] at l2 l3 h
 obtain ⟨e2, n2⟩ := pushR_pos (n := n) (R := R) (p := p) (c := 2) (by omega)
 rw [e2] at l3 h
 obtain ⟨e3, n3⟩ := pushR_pos (n := n) (R := R) (p := p) (c := 3) (by omega)
 refine ⟨by show pushR n (pushR n (pushR n R p 1) p 2) p 3 = R; rw [e1, e2, e3], fun c h1 h3 => ?_⟩
 match c, h1, h3 with
 | 1, _, _ => exact n1
 | 2, _, _ => exact n2
 | 3, _, _ => exact n3
def Prog (n k : Nat) (R : List (Nat × Nat)) (p : Nat → Nat) : Prop := (∀ c, 1 ≤ c → c ≤ 3 → k ≤ p c) ∨ Fin3 n R p
theorem Prog.step {n k : Nat} {R : List (Nat × Nat)} {p : Nat → Nat} (I : InvR n R p) (h : Prog n k R p) : Prog n (k + 1) (pushA n R p 3) (pullA (pushA n R p 3) p 3) := by
 have hl := pushA_len n R p 3
 have fin : Fin3 n R p → Fin3 n (pushA n R p 3) (pullA (pushA n R p 3) p 3) := fun hF => by
  have ht : ∀ c, 1 ≤ c → c ≤ 3 → cntR (R.take (p c)) c = n := fun c h1 h3 => by rw [(hF c h1 h3).2, List.take_length]; exact (hF c h1 h3).1
  have e : pushA n R p 3 = R := by
   have e1 : pushR n R p 1 = R := if_neg (by rw [ht 1 (by omega) (by omega)]; omega)
   have e2 : pushR n R p 2 = R := if_neg (by rw [ht 2 (by omega) (by omega)]; omega)
   have e3 : pushR n R p 3 = R := if_neg (by rw [ht 3 (by omega) (by omega)]; omega)
   show pushR n (pushR n (pushR n R p 1) p 2) p 3 = R
   rw [e1, e2, e3]
  rw [e]
  intro c h1 h3
  refine ⟨(hF c h1 h3).1, ?_⟩
  rw [pullA_at R p c h1 h3, (hF c h1 h3).2]
  omega
 rcases h with h | h
 ·by_cases hk : k + 1 ≤ (pushA n R p 3).length
  ·left
   intro c h1 h3
   rw [pullA_at _ p c h1 h3]
   have := h c h1 h3
   omega
  ·right
   refine fin fun c h1 h3 => ?_
   have e1 := h c h1 h3
   have e2 := I.pl c
   have hpc : p c = R.length := by omega
   obtain ⟨_, g2⟩ := pushA_same (n := n) (R := R) (p := p) (by omega)
   have g := g2 c h1 h3
   rw [hpc, List.take_length] at g
   have := I.cn c h1 h3
   exact ⟨by omega, hpc⟩
 ·exact .inr (fin h)
theorem Prog.fin {n k : Nat} {R : List (Nat × Nat)} {p : Nat → Nat} (I : InvR n R p) (hn : n ≤ 8) (hk : 25 ≤ k) (h : Prog n k R p) : Fin3 n R p := by
 rcases h with h | h
 ·have := h 1 (by omega) (by omega)
  have := I.pl 1
  have := I.len
  omega
 ·exact h
end Go.Proofs.YtpchmdddkpocgaaGreatDoor
namespace Go.Proofs.YtpchmdddkpocgaaGreatDoor
set_option maxRecDepth 100000
set_option linter.unusedVariables false
set_option linter.unusedSimpArgs false
open Go.ChangeShapes Go.WideShapes Go.ChangeAt Go.RowKit
set_option maxHeartbeats 800000 in
theorem calm_rests {w : World} {B n : Nat} {g : Geo} {R : List (Nat × Nat)} {p : Nat → Nat} (h : WS w B n g R p) (hl : R.length ≤ 24) (hn : n ≤ 8) (hF : Fin3 n R p) :
  Calls Tryz.prog 89 #[adr g.wl] w fun e w' => e = .returned (.bool true) ∧ WS w' B n g R p := by
 have H := Lib.hid h
 clear h
 have HC := Lib.hid (fun (u : World) (k : Nat) (y : Sub) (hA : All u B n g R p y) (h1 : 1 ≤ k) (h7 : k ≤ 10) => wld_client hA.W h1 h7)
 have HF := Lib.hid hF
 clear hF
 generalize hwv : adr g.wl = wv at *
 clear hwv
 go_enter Tryz.func89, Tryz.ntmps89
 go_wp2_with fail
 go_loopw [3, 4] (fun a i wr => ∃ k : Nat, 1 ≤ k ∧ k ≤ 6 ∧ i = .int .i64 k ∧ (∃ v : Int, a = .int .i64 v ∧ Hid ((k = 1 → v = 0) ∧ (k ≠ 1 → v = (R.length : Int) + 1))) ∧ Hid (WS wr B n g R p)) (fun _ i _ => 6 - (intOf i).toNat)
 case atStart => exact ⟨1, by omega, by omega, rfl, ⟨0, rfl, Lib.hid ⟨fun _ => rfl, fun h => absurd rfl h⟩⟩, H⟩
 case round =>
  obtain ⟨k, hk1, hk6, rfl, ⟨av, rfl, hav⟩, hI⟩ := hrel
  by_cases hlt : k ≤ 5
  ·obtain ⟨y, hA⟩ := hI.out
   have HA := Lib.hid hA
   clear hA
   have tk : decide ((k : Int) ≤ 5) = true := decide_eq_true (by omega)
   have HS := Lib.hid (HC.out wr k y HA.out hk1 (by omega))
   go_wp2_with fail
   refine (HS.out).mono ?_
   rintro e w' ⟨rfl, rfl⟩
   rename World => wr
   by_cases hk3 : k ≤ 3
   ·rw [cliV_of hk3]
    have hne := fun u => nil_cli u ⟨(g.ca k).1, (g.ca k).2, none⟩
    obtain ⟨f1, f2⟩ := HF.out k hk1 hk3
    have hC := HA.out.C k hk1 hk3
    have ht : R.take (p k) = R := by rw [f2, List.take_length]
    rw [ht] at hC
    have hw := cli_waits hC hk1 hk3 (by omega) (by omega)
    rw [f1, Nat.sub_self] at hw
    have HW := Lib.hid hw
    have HCC := Lib.hid (fun (u : World) (hb : Below wr.heap.size wr u) => cli_cursor (hC.stay hb.size (fun b hb' => hb.block b (hC.lt hb')) (fun b hB => hb.block b (Nat.lt_of_lt_of_le hB hC.S.E.base))) (by omega : R.length ≤ 1000))
    clear hC hw ht
    go_wp2_with fail
    refine (HW.out).mono ?_
    rintro e w2 ⟨v, rfl, hM⟩
    obtain ⟨va, vc, rfl⟩ := hM.val
    obtain ⟨_, _, _, _, _, hb2⟩ := hM
    have HC2 := Lib.hid (HCC.out w2 hb2)
    have HN : Hid (WS w2 B n g R p) := Lib.hid ⟨y, HA.out.below hb2⟩
    clear hb2
    by_cases hk1' : k = 1
    ·subst hk1'
     obtain rfl : av = 0 := hav.out.1 rfl
     go_wp2_with fail
     refine (HC2.out).mono ?_
     rintro e w' ⟨rfl, rfl⟩
     go_wp2_with fail
     go_roundw
     case rel => exact ⟨2, by omega, by omega, by go_num, ⟨_, rfl, Lib.hid ⟨fun h => absurd h (by decide), fun _ => rfl⟩⟩, HN⟩
     case measure => simp [intOf]
    ·obtain rfl : av = (R.length : Int) + 1 := hav.out.2 hk1'
     have t0 : decide ((0 : Int) < (R.length : Int) + 1) = true := decide_eq_true (by omega)
     go_wp2_with fail
     refine (HC2.out).mono ?_
     rintro e w' ⟨rfl, rfl⟩
     go_wp2_with fail
     refine (HC2.out).mono ?_
     rintro e w' ⟨rfl, rfl⟩
     go_wp2_with fail
     go_roundw
     case rel => exact ⟨k + 1, by omega, by omega, by go_num, ⟨_, rfl, Lib.hid ⟨fun h => absurd h (by omega), fun _ => rfl⟩⟩, HN⟩
     case measure => simp [intOf]; omega
   ·rw [cliV_nil _ hk3]
    have HN : Hid (WS wr B n g R p) := Lib.hid ⟨y, HA.out⟩
    obtain rfl : av = (R.length : Int) + 1 := hav.out.2 (by omega)
    go_wp2_with fail
    go_roundw
    case rel => exact ⟨k + 1, by omega, by omega, by go_num, ⟨_, rfl, Lib.hid ⟨fun h => absurd h (by omega), fun _ => rfl⟩⟩, HN⟩
    case measure => simp [intOf]; omega
  ·obtain rfl : k = 6 := by omega
   go_wp2_with fail
   go_ret
   exact ⟨rfl, hI.out⟩
def Going (w : World) (B n : Nat) (g : Geo) (k : Nat) : Prop := ∃ R p, WS w B n g R p ∧ InvR n R p ∧ Prog n k R p
def Rested (w : World) (B n : Nat) (g : Geo) : Prop := ∃ R p, WS w B n g R p ∧ InvR n R p ∧ Fin3 n R p
set_option maxHeartbeats 1600000 in
theorem calm_round {w : World} {B n : Nat} {g : Geo} (F : Fam) (hG : ∀ k, k ≤ 24 → getK k = true) (hn : n ≤ 8) (h : Going w B n g 0) :
  Calls Tryz.prog 47 #[adr g.wl] w fun e w' => e = .returned (.bool true) ∧ Rested w' B n g := by
 have hne : ∀ u : World, (binOp .eql 40 (adr g.wl) (.pointer none)).run Tryz.prog u = .ok (.bool false) u := fun u => nil_wld u _
 have PK := Lib.hid (fun (u : World) (R : List (Nat × Nat)) (p : Nat → Nat) (h : WS u B n g R p) (I : InvR n R p) => calm_pack hG h (by have := I.len; omega))
 have SV := Lib.hid (fun (u : World) (k : Nat) (R : List (Nat × Nat)) (p : Nat → Nat) (y : Sub) (hA : All u B n g R p y) (h1 : 1 ≤ k) (h7 : k ≤ 7) => wld_server hA.W h1 h7)
 have FI := Lib.hid (fun (u : World) (R : List (Nat × Nat)) (p : Nat → Nat) (y : Sub) (hA : All u B n g R p y) (I : InvR n R p) => wld_fire F hA (by have := I.len; omega))
 have QU := Lib.hid (fun (u : World) (R : List (Nat × Nat)) (p : Nat → Nat) (y : Sub) (hA : All u B n g R p y) => calm_quiet hA.W 5000 (.inl rfl))
 have PP := Lib.hid (fun (u : World) (R : List (Nat × Nat)) (p : Nat → Nat) (h : WS u B n g R p) (I : InvR n R p) => pairs_push (w := u) (fun c v => WS v B n g (pushA n R p c) p) (fun _ _ h => ⟨_, _, h⟩) (fun c v c1 c3 hv => by
  obtain ⟨y, hA⟩ := hv
  refine (wld_push F hA (I.pushA (c - 1) (by omega)) hn c1 c3).mono ?_
  rintro e v' ⟨⟨r, _, rfl⟩, hW⟩
  refine ⟨⟨_, rfl⟩, ?_⟩
  obtain ⟨d, rfl⟩ : ∃ d, c = d + 1 := ⟨c - 1, by omega⟩
  exact hW) h)
 have PL := Lib.hid (fun (u : World) (R : List (Nat × Nat)) (p : Nat → Nat) (h : WS u B n g R p) (I : InvR n R p) => pairs_pull (w := u) (fun c v => WS v B n g R (pullA R p c)) (fun _ _ h => ⟨_, _, h⟩) (fun c v c1 c3 hv => by
  obtain ⟨y, hA⟩ := hv
  refine (wld_pull F hA (I.pullA (c - 1)) hn c1 c3).mono ?_
  rintro e v' ⟨rfl, hW⟩
  refine ⟨⟨_, rfl⟩, ?_⟩
  obtain ⟨d, rfl⟩ : ∃ d, c = d + 1 := ⟨c - 1, by omega⟩
  exact hW) h)
 have RE := Lib.hid (fun (u : World) (R : List (Nat × Nat)) (p : Nat → Nat) (h : WS u B n g R p) (I : InvR n R p) (hF : Fin3 n R p) => calm_rests h (by have := I.len; omega) hn hF)
 have H0 := Lib.hid h
 clear h hG F
 unfold adr at PK SV FI QU PP PL RE hne ⊢
 go_enter Tryz.func47, Tryz.ntmps47
 obtain ⟨R, p, hW, I, hP⟩ := H0.out
 have HI := Lib.hid (And.intro I hP)
 have HW := Lib.hid hW
 clear I hP hW
 go_wp2_with fail
 refine (PK.out _ R p HW.out HI.out.1).mono ?_
 rintro e w1 ⟨rfl, hW1⟩
 have HW1 := Lib.hid hW1
 clear hW1
 go_wp2_with fail
 go_loopw [3] (fun i wr => ∃ k : Nat, 1 ≤ k ∧ k ≤ 8 ∧ i = .int .i64 k ∧ Hid (WS wr B n g R p)) (fun i _ => 8 - (intOf i).toNat)
 case atStart => exact ⟨1, by omega, by omega, rfl, HW1⟩
 case round =>
  obtain ⟨k, hk1, hk8, rfl, hI⟩ := hrel
  by_cases hlt : k ≤ 7
  ·obtain ⟨y, hA⟩ := hI.out
   have HA := Lib.hid hA
   clear hA
   have tk : decide ((k : Int) ≤ 7) = true := decide_eq_true (by omega)
   have HS := Lib.hid (SV.out wr k R p y HA.out hk1 hlt)
   go_wp2_with fail
   refine (HS.out).mono ?_
   rintro e w' ⟨rfl, rfl⟩
   rename World => wr
   by_cases hk : k = 1
   ·subst hk
    rw [srvV_one]
    have hne2 : ∀ u : World, (binOp .neq 54 (.pointer (some ⟨g.sa.1, g.sa.2, none⟩)) (.pointer none)).run Tryz.prog u = .ok (.bool true) u := fun u => by go_simp
    have HFI := Lib.hid (FI.out wr R p y HA.out HI.out.1)
    go_wp2_with fail
    refine (HFI.out).mono ?_
    rintro e w2 ⟨rfl, hW2⟩
    obtain ⟨y2, hA2⟩ := hW2
    have HQ := Lib.hid (QU.out w2 R p y2 hA2)
    have HN : Hid (WS w2 B n g R p) := Lib.hid ⟨y2, hA2⟩
    clear hA2
    go_wp2_with fail
    refine (HQ.out).mono ?_
    rintro e w' ⟨rfl, rfl⟩
    go_wp2_with fail
    go_roundw
    case rel => exact ⟨2, by omega, by omega, by go_num, HN⟩
    case measure => simp [intOf]
   ·rw [srvV_nil _ hk]
    go_wp2_with fail
    go_roundw
    case rel => exact ⟨k + 1, by omega, by omega, by go_num, Lib.hid ⟨y, HA.out⟩⟩
    case measure => simp [intOf]; omega
  ·obtain rfl : k = 8 := by omega
   have HG0 : Hid (Going wr B n g 0) := Lib.hid ⟨R, p, hI.out, HI.out⟩
   clear HW1 HW hI HI
   rw [show ((8 : Nat) : Int) = 8 from rfl]
   go_wp2_with fail
   go_loopw [21] (fun i w3 => ∃ k : Nat, k ≤ 40 ∧ i = .int .i64 k ∧ Hid (Going w3 B n g k)) (fun i _ => 40 - (intOf i).toNat)
   case atStart => exact ⟨0, by omega, rfl, HG0⟩
   case round =>
    obtain ⟨k, hk40, rfl, hI⟩ := hrel
    obtain ⟨R, p, hW, I, hP⟩ := hI.out
    have HII := Lib.hid (And.intro I hP)
    by_cases hlt : k < 40
    ·have HP1 := Lib.hid (PP.out _ R p hW I)
     clear I hP hW hI
     have tk : decide ((k : Int) < 40) = true := decide_eq_true (by omega)
     go_wp2_with fail
     refine (HP1.out).mono ?_
     rintro e w4 ⟨rfl, hW4⟩
     have I1 := Lib.hid (HII.out.1.pushA 3 (by omega))
     have HST := Lib.hid (Prog.step HII.out.1 HII.out.2)
     have hW4 : WS w4 B n g (pushA n R p 3) p := hW4
     generalize pushA n R p 3 = R1 at *
     obtain ⟨y4, hA4⟩ := hW4
     have HQ := Lib.hid (QU.out w4 R1 p y4 hA4)
     have HP2 := Lib.hid (PL.out w4 R1 p ⟨y4, hA4⟩ I1.out)
     clear hA4
     go_wp2_with fail
     refine (HQ.out).mono ?_
     rintro e w' ⟨rfl, rfl⟩
     go_wp2_with fail
     refine (HP2.out).mono ?_
     rintro e w5 ⟨rfl, hW5⟩
     have hW5 : WS w5 B n g R1 (pullA R1 p 3) := hW5
     have I2 := Lib.hid (I1.out.pullA 3)
     generalize pullA R1 p 3 = p1 at *
     have HK := Lib.hid (PK.out w5 R1 p1 hW5 I2.out)
     clear hW5
     go_wp2_with fail
     refine (HK.out).mono ?_
     rintro e w6 ⟨rfl, hW6⟩
     have HN : Hid (Going w6 B n g (k + 1)) := Lib.hid ⟨R1, p1, hW6, I2.out, HST.out⟩
     clear hW6
     go_wp2_with fail
     go_roundw
     case rel => exact ⟨k + 1, by omega, by go_num, HN⟩
     case measure => simp [intOf]; omega
    ·obtain rfl : k = 40 := by omega
     have hF := Prog.fin I hn (by omega) hP
     have HRE := Lib.hid (RE.out _ R p hW I hF)
     have HF := Lib.hid hF
     clear hI hW I hP hF
     go_wp2_with fail
     refine (HRE.out).mono ?_
     rintro e w' ⟨rfl, hW'⟩
     have HN : Hid (Rested w' B n g) := Lib.hid ⟨R, p, hW', HII.out.1, HF.out⟩
     clear hW'
     go_wp2_with fail
     go_ret
     exact ⟨rfl, HN.out⟩
theorem calm_rest {w : World} {B n : Nat} {g : Geo} (F : Fam) (hG : ∀ k, k ≤ 24 → getK k = true) (hn : n ≤ 8) (h : Going w B n g 0) :
  Calls Tryz.prog 27 #[adr g.wl, .int .i64 12] w fun e w' => e = .returned (.bool true) ∧ Rested w' B n g := by
 have HR := Lib.hid (calm_round F hG hn h)
 have hmx : ∀ u : World, (Builtin.max_ #[3, 3] 3 #[.int .i64 12, .int .i64 0]).run Tryz.prog u = .ok (.int .i64 12) u := fun u => by simp [Builtin.max_, Builtin.max2]
 have hmn : ∀ u : World, (Builtin.min_ #[3, 3] 3 #[.int .i64 12, .int .i64 40]).run Tryz.prog u = .ok (.int .i64 12) u := fun u => by simp [Builtin.min_, Builtin.min2]
 clear h F hG
 generalize hwv : adr g.wl = wv at *
 clear hwv
 go_enter Tryz.func27, Tryz.ntmps27
 go_wp2_with fail
 go_loopw [8] (fun i wr => i = .int .i64 0 ∧ wr = w) (fun _ _ => 0)
 case atStart => exact ⟨rfl, rfl⟩
 case round =>
  obtain ⟨rfl, rfl⟩ := hrel
  go_wp2_with fail
  refine (HR.out).mono ?_
  rintro e w' ⟨rfl, hN⟩
  have HN := Lib.hid hN
  clear hN
  go_wp2_with fail
  go_ret
  exact ⟨rfl, HN.out⟩
theorem All.setT {w : World} {B n : Nat} {g : Geo} {R : List (Nat × Nat)} {p : Nat → Nat} {y : Sub} (h : All w B n g R p y) : All (w.setCell ⟨g.t.1, g.t.2 + 3, none⟩ (.bool true)) B n g R p y := by
 refine h.turn (k := 5) (by omega) ⟨rfl, rfl, rfl, Nat.le_of_eq (by rw [setCell_size]), fun b hb hn => Below.heap_setCell _ _ _ _ (fun e => hn (by rw [Ft_5]; exact e))⟩ (fun _ => ?_) (.inl (by omega)) (by omega) (by omega) (fun _ => rfl) (fun _ => ⟨rfl, rfl⟩) (fun _ _ _ _ => ⟨rfl, rfl⟩) (fun b hb => .inl (by rw [Ft_5] at hb ⊢; exact hb))
 exact ⟨by rw [setCell_size]; exact h.T.lt, (World.cell?_setCell_other _ _ _ _ (by simp)).trans h.T.c0, World.cell?_setCell_same _ _ _ h.T.c3, by rw [World.frozen?_setCell]; exact h.T.fr⟩
theorem Going.setT {w : World} {B n k : Nat} {g : Geo} (h : Going w B n g k) : Going (w.setCell ⟨g.t.1, g.t.2 + 3, none⟩ (.bool true)) B n g k := by
 obtain ⟨R, p, ⟨y, hA⟩, I, hP⟩ := h
 exact ⟨R, p, ⟨y, hA.setT⟩, I, hP⟩
theorem Going.T {w : World} {B n k : Nat} {g : Geo} (h : Going w B n g k) : TAt w g.t g.wl := by
 obtain ⟨R, p, ⟨y, hA⟩, I, hP⟩ := h
 exact hA.T
theorem Going.below {w w' : World} {B n k : Nat} {g : Geo} (h : Going w B n g k) (hb : Below w.heap.size w w') : Going w' B n g k := by
 obtain ⟨R, p, hW, I, hP⟩ := h
 exact ⟨R, p, hW.below hb, I, hP⟩
theorem prog0 {n : Nat} {R : List (Nat × Nat)} {p : Nat → Nat} : Prog n 0 R p := .inl fun _ _ _ => Nat.zero_le _
theorem t_must {w : World} {t wl : Nat × Nat} (h : TAt w t wl) : Calls Tryz.prog 21 #[adr t, .int .i64 0] w fun e w' => e = .returned (.tuple #[]) ∧ w' = w.setCell ⟨t.1, t.2 + 3, none⟩ (.bool true) := by
 have c3 := h.c3
 have fr := h.fr
 clear h
 unfold adr
 go_enter Tryz.func21, Tryz.ntmps21
 go_wp2_with fail
 go_end0
 exact ⟨rfl, rfl⟩
theorem t_quiet {w : World} {B : Nat} {t wl sa : Nat × Nat} {ca : Nat → Nat × Nat} {ρ : Q → Loc} (h : TAt w t wl) (hW : WldAt w B wl sa ca ρ) : Calls Tryz.prog 23 #[adr t] w fun e w' => e = .returned (.tuple #[]) ∧ w' = w.setCell ⟨t.1, t.2 + 3, none⟩ (.bool true) := by
 have c0 := h.c0
 have c3 := h.c3
 have fr := h.fr
 have HQ := Lib.hid (calm_quiet hW 20000 (.inr rfl))
 clear h hW
 unfold adr at c0 HQ ⊢
 go_enter Tryz.func23, Tryz.ntmps23
 go_wp2_with fail
 refine (HQ.out).mono ?_
 rintro e w' ⟨rfl, rfl⟩
 go_wp2_with fail
 go_end0
 exact ⟨rfl, rfl⟩
theorem t_push {w : World} {B n : Nat} {g : Geo} (F : Fam) (hn : n ≤ 8) (h : Going w B n g 0) {c : Nat} (h1 : 1 ≤ c) (h3 : c ≤ 3) :
  Calls Tryz.prog 10 #[adr g.t, .int .i64 c, .int .i64 1] w fun e w' => (∃ r, e = .returned r) ∧ Going w' B n g 0 := by
 obtain ⟨R, p, ⟨y, hA⟩, I, hP⟩ := h
 have c0 := hA.T.c0
 have HP := Lib.hid (wld_push F hA I hn h1 h3)
 have I' := Lib.hid (I.push h1 h3)
 clear hA I hP F
 unfold adr at c0 HP ⊢
 go_enter Tryz.func10, Tryz.ntmps10
 go_wp2_with fail
 refine (HP.out).mono ?_
 rintro e w1 ⟨⟨r, hr, rfl⟩, ⟨y1, hA1⟩⟩
 have HQ := Lib.hid (t_quiet hA1.T hA1.W)
 have HN : Hid (Going (w1.setCell ⟨g.t.1, g.t.2 + 3, none⟩ (.bool true)) B n g 0) := Lib.hid (Going.setT ⟨_, _, ⟨y1, hA1⟩, I'.out, prog0⟩)
 unfold adr at HQ
 clear hA1
 rcases hr with rfl | rfl
 all_goals
  go_wp2_with fail
  refine (HQ.out).mono ?_
  rintro e w2 ⟨rfl, rfl⟩
  go_wp2_with fail
  go_ret
  exact ⟨⟨_, rfl⟩, HN.out⟩
set_option maxHeartbeats 800000 in
theorem t_pull {w : World} {B n : Nat} {g : Geo} (F : Fam) (hn : n ≤ 8) (h : Going w B n g 0) {c : Nat} (h1 : 1 ≤ c) (h3 : c ≤ 3) :
  Calls Tryz.prog 11 #[adr g.t, .int .i64 c, .int .i64 1] w fun e w' => e = .returned (.tuple #[]) ∧ Going w' B n g 0 := by
 have H := Lib.hid h
 have HR := Lib.hid (fun (u : World) (R : List (Nat × Nat)) (p : Nat → Nat) (y : Sub) (hA : All u B n g R p y) (I : InvR n R p) => cli_rows (hA.C c h1 h3) (fun r hr => (I.wf.mem r (List.mem_of_mem_take hr)).2) (by have := I.len; rw [List.length_take]; omega))
 have HP := Lib.hid (fun (u : World) (R : List (Nat × Nat)) (p : Nat → Nat) (y : Sub) (hA : All u B n g R p y) (I : InvR n R p) => wld_pull F hA I hn h1 h3)
 have HC := Lib.hid (fun (u : World) (R : List (Nat × Nat)) (p : Nat → Nat) (y : Sub) (hA : All u B n g R p y) => wld_client hA.W h1 (by omega : c ≤ 10))
 have HM := Lib.hid (fun (u : World) (h : TAt u g.t g.wl) => t_must h)
 have hne := fun u => nil_cli u ⟨(g.ca c).1, (g.ca c).2, none⟩
 rw [cliV_of h3] at HC
 clear h F
 unfold adr at HP HC HM ⊢
 go_enter Tryz.func11, Tryz.ntmps11
 go_wp2_with fail
 go_loopw [6] (fun i wr => ∃ k : Nat, k ≤ 100 ∧ i = .int .i64 k ∧ Hid (Going wr B n g 0)) (fun i _ => 100 - (intOf i).toNat)
 case atStart => exact ⟨0, by omega, rfl, H⟩
 case round =>
  obtain ⟨k, hk, rfl, hI⟩ := hrel
  by_cases hlt : k < 100
  ·have tk : decide ((k : Int) < 100) = true := decide_eq_true (by omega)
   obtain ⟨R, p, ⟨y, hA⟩, I, hP⟩ := hI.out
   have c0 := hA.T.c0
   unfold adr at c0
   have HA := Lib.hid hA
   have II := Lib.hid I
   have HCl := Lib.hid (HC.out _ R p y hA)
   clear hA I hP hI
   go_wp2_with fail
   refine (HCl.out).mono ?_
   rintro e w' ⟨rfl, rfl⟩
   rename World => wr
   go_wp2_with fail
   refine (HR.out wr R p y HA.out II.out).mono ?_
   rintro e w2 ⟨v, rfl, hM⟩
   obtain ⟨va, vn, vc, rfl⟩ := hM.val3
   obtain ⟨_, _, _, _, hb2, _⟩ := hM
   have HA2 := Lib.hid (HA.out.below hb2)
   have c02 := HA2.out.T.c0
   unfold adr at c02
   clear hb2 c0
   go_wp2_with fail
   refine (HP.out w2 R p y HA2.out II.out).mono ?_
   rintro e w3 ⟨rfl, ⟨y3, hA3⟩⟩
   have HA3 := Lib.hid hA3
   clear hA3
   go_wp2_with fail
   refine (HM.out w3 HA3.out.T).mono ?_
   rintro e w4 ⟨rfl, rfl⟩
   have HA4 := Lib.hid HA3.out.setT
   have I3 := Lib.hid (II.out.pull c)
   generalize pullP R p c = p3 at *
   generalize w3.setCell _ _ = w4 at *
   go_wp2_with fail
   refine (HR.out w4 R p3 y3 HA4.out I3.out).mono ?_
   rintro e w5 ⟨v5, rfl, hM5⟩
   obtain ⟨va5, vn5, vc5, rfl⟩ := hM5.val3
   obtain ⟨_, _, _, _, hb5, _⟩ := hM5
   have HN : Hid (Going w5 B n g 0) := Lib.hid ⟨R, p3, ⟨y3, HA4.out.below hb5⟩, I3.out, prog0⟩
   clear hb5
   by_cases he : (vn5 : Int) = vn
   ·have te : decide ((vn5 : Int) = vn) = true := decide_eq_true he
    have tb : ((vn5 : Int) == vn) = true := by simp [he]
    go_wp2_with fail
    first
     | go_end0
     | refine bodyPost_ret (results_none rfl _ _ _) rfl ?_
    exact ⟨rfl, HN.out⟩
   ·have te : decide ((vn5 : Int) = vn) = false := decide_eq_false he
    have tb : ((vn5 : Int) == vn) = false := by simp [he]
    go_wp2_with fail
    go_roundw
    case rel => exact ⟨k + 1, by omega, by go_num, HN⟩
    case measure => simp [intOf]; omega
  ·obtain rfl : k = 100 := by omega
   go_wp2_with fail
   go_end0
   exact ⟨rfl, hI.out⟩
theorem t_rest {w : World} {B n : Nat} {g : Geo} (F : Fam) (hG : ∀ k, k ≤ 24 → getK k = true) (hn : n ≤ 8) (h : Going w B n g 0) :
  Calls Tryz.prog 12 #[adr g.t] w fun e w' => e = .returned (.tuple #[]) ∧ Rested w' B n g := by
 have c0 := h.T.c0
 have c3 := h.T.c3
 have HR := Lib.hid (calm_rest F hG hn h)
 clear h F hG
 unfold adr at c0 HR ⊢
 go_enter Tryz.func12, Tryz.ntmps12
 go_wp2_with fail
 refine (HR.out).mono ?_
 rintro e w1 ⟨rfl, R, p, ⟨y, hA⟩, I, hF⟩
 have c31 := hA.T.c3
 have fr1 := hA.T.fr
 have HN : Hid (Rested (w1.setCell ⟨g.t.1, g.t.2 + 3, none⟩ (.bool true)) B n g) := Lib.hid ⟨R, p, ⟨y, hA.setT⟩, I, hF⟩
 clear hA I hF
 go_wp2_with fail
 go_end0
 exact ⟨rfl, HN.out⟩
end Go.Proofs.YtpchmdddkpocgaaGreatDoor
