/-
  No claim by itself: who belongs, as the document tells it: MayConf, Has, Majority. No condition.
-/
import Derived.Test.YtbjopmbemgpmaaaConf
namespace Go.Proofs.Ytbjopmbemgpmaaa
open Go.ChangeShapes Go.WideShapes Go.ChangeAt Go.RowKit

theorem ref_has (v : Value) (l : List Int) (x : Int) (w : World) (h : RI w v l) :
    Calls Try.prog 34 #[v, .int .i64 x] w fun e w' => e = .returned (.bool (decide (x ∈ l))) ∧ w' = w := by
  obtain ⟨a, cap, rfl, hcap, hcm, hc⟩ := h.open_
  go_enter Try.func34, Try.ntmps34
  go_wp2_with fail
  go_loop [5] (fun i => ∃ k : Nat, k ≤ l.length ∧ i = .int .i64 k ∧ Hid (x ∉ l.take k)) (fun i => l.length - (intOf i).toNat)
  case atStart => exact ⟨0, by omega, rfl, Lib.hid (by simp)⟩
  case round =>
    obtain ⟨k, hk, rfl, hx⟩ := hrel
    by_cases hlt : k < l.length
    · obtain ⟨b, off, rfl, hbl, hcj⟩ := hc.out k hlt
      by_cases he : x = l[k]
      · have hmem : Hid (decide (x ∈ l) = true) := Lib.hid (decide_eq_true (by rw [he]; exact List.getElem_mem hlt))
        rw [← he] at hcj
        clear he
        go_wp2_with fail
        go_ret
        exact ⟨by rw [hmem.out]; rfl, rfl⟩
      · have hn := Lib.hid (mem_take_succ hlt hx.out he)
        have hte : (l[k] == x) = false := beq_eq_false_iff_ne.2 (Ne.symm he)
        generalize l[k]'hlt = y at hcj he hte
        go_wp2_with fail
        go_round
        case rel => exact ⟨k + 1, by omega, by go_num, hn⟩
        case measure => simp [intOf]; omega
    · have hkl : k = l.length := by omega
      subst hkl
      have hx' : Hid (decide (x ∈ l) = false) := Lib.hid (decide_eq_false (by have := hx.out; rwa [List.take_length] at this))
      go_wp2_with fail
      go_ret
      exact ⟨by rw [hx'.out]; rfl, rfl⟩

set_option maxHeartbeats 800000 in
theorem ref_may (v : Value) (l : List Int) (w : World) (h : RI w v l) :
    Calls Try.prog 33 #[v] w fun e w' => e = .returned (.bool (mayC l)) ∧ ∃ n, w' = w.drewN n := by
  obtain ⟨a, cap, rfl, hcap, hcm, hc⟩ := h.open_
  go_enter Try.func33, Try.ntmps33
  go_wp2_with fail
  go_loopw [3] (fun i wr => ∃ k : Nat, k ≤ l.length ∧ i = .int .i64 k ∧ Hid (∀ j, j < k → okAt l j = true) ∧ ∃ n, wr = w.drewN n) (fun i _ => l.length - (intOf i).toNat)
  case atStart => exact ⟨0, by omega, rfl, Lib.hid (by intro j hj; omega), 0, rfl⟩
  case round =>
    obtain ⟨k, hk, rfl, hx, n, rfl⟩ := hrel
    by_cases hlt : k < l.length
    · obtain ⟨b, off, rfl, hbl, hcj⟩ := hc.out k hlt
      have hd : Hid (l.getD k 0 = l[k]) := Lib.hid (by simp [List.getD, hlt])
      have hno := fun h => mayC_no hlt h
      have hso : Hid (okAt l k = true → ∀ j, j < k + 1 → okAt l j = true) := Lib.hid fun h j hj => by
        rcases Nat.lt_succ_iff_lt_or_eq.1 hj with h1 | h1
        · exact hx.out j h1
        · rw [h1]; exact h
      by_cases hk0 : k = 0
      · subst hk0
        have hok : Hid (okAt l 0 = (decide (1 ≤ l[0]) && decide (l[0] ≤ 7))) := Lib.hid (by unfold okAt; rw [hd.out]; simp)
        clear hx hd
        rw [Nat.add_zero] at hcj
        generalize l[0]'hlt = x at hcj hok
        by_cases h1 : x < 1
        · have hm := Lib.hid (hno (by rw [hok.out]; simp; omega))
          clear hno
          go_wp2_with fail
          go_quiet (fail)
          go_wp2_with fail
          go_ret
          exact ⟨by rw [hm.out]; rfl, _, World.drewN_drewN _ _ _⟩
        · have t1 : decide (x < 1) = false := decide_eq_false h1
          by_cases h2 : 7 < x
          · have t2 : decide (7 < x) = true := decide_eq_true h2
            have hm := Lib.hid (hno (by rw [hok.out]; simp; omega))
            clear hno
            go_wp2_with fail
            go_quiet (fail)
            go_wp2_with fail
            go_ret
            exact ⟨by rw [hm.out]; rfl, _, World.drewN_drewN _ _ _⟩
          · have t2 : decide (7 < x) = false := decide_eq_false h2
            have hs := Lib.hid (hso.out (by rw [hok.out]; simp; omega))
            clear hno hso
            go_wp2_with fail
            go_quiet (fail)
            go_wp2_with fail
            go_roundw
            case rel => exact ⟨1, by omega, by go_num, hs, _, rfl⟩
            case measure => simp [intOf]; omega
      · obtain ⟨b', off', hbo, _, hcj'⟩ := hc.out (k - 1) (by omega)
        simp only [Option.some.injEq, Addr.mk.injEq] at hbo
        obtain ⟨rfl, rfl, -⟩ := hbo
        have hd' : Hid (l.getD (k - 1) 0 = l[k - 1]'(by omega)) := Lib.hid (by simp [List.getD, show k - 1 < l.length by omega])
        have hok : Hid (okAt l k = (decide (1 ≤ l[k]) && decide (l[k] ≤ 7) && decide (l[k - 1]'(by omega) < l[k]))) := Lib.hid (by unfold okAt; rw [hd.out, hd'.out, show (k == 0) = false from beq_eq_false_iff_ne.2 hk0, Bool.false_or])
        clear hx hd hd'
        generalize l[k]'hlt = x at hcj hok
        generalize l[k - 1]'(by omega) = y at hcj' hok
        obtain ⟨m, rfl⟩ : ∃ m, k = m + 1 := ⟨k - 1, by omega⟩
        rw [show m + 1 - 1 = m from rfl] at hcj'
        have t4 : decide (0 < (m : Int) + 1) = true := decide_eq_true (by omega)
        by_cases h1 : x < 1
        · have hm := Lib.hid (hno (by rw [hok.out]; simp; omega))
          clear hno
          go_wp2_with fail
          go_quiet (fail)
          go_wp2_with fail
          go_ret
          exact ⟨by rw [hm.out]; rfl, _, World.drewN_drewN _ _ _⟩
        · have t1 : decide (x < 1) = false := decide_eq_false h1
          by_cases h2 : 7 < x
          · have t2 : decide (7 < x) = true := decide_eq_true h2
            have hm := Lib.hid (hno (by rw [hok.out]; simp; omega))
            clear hno
            go_wp2_with fail
            go_quiet (fail)
            go_wp2_with fail
            go_ret
            exact ⟨by rw [hm.out]; rfl, _, World.drewN_drewN _ _ _⟩
          · have t2 : decide (7 < x) = false := decide_eq_false h2
            by_cases h3 : x ≤ y
            · have t3 : decide (x ≤ y) = true := decide_eq_true h3
              have hm := Lib.hid (hno (by rw [hok.out]; simp; omega))
              clear hno
              go_wp2_with fail
              go_quiet (fail)
              go_wp2_with fail
              go_ret
              exact ⟨by rw [hm.out]; rfl, _, World.drewN_drewN _ _ _⟩
            · have t3 : decide (x ≤ y) = false := decide_eq_false h3
              have hs := Lib.hid (hso.out (by rw [hok.out]; simp; omega))
              clear hno hso
              go_wp2_with fail
              go_quiet (fail)
              go_wp2_with fail
              go_roundw
              case rel => exact ⟨m + 1 + 1, by omega, by go_num, hs, _, rfl⟩
              case measure => simp [intOf]; omega
    · have hkl : k = l.length := by omega
      subst hkl
      have hm := Lib.hid (mayC_all hx.out)
      go_wp2_with fail
      go_ret
      exact ⟨by rw [hm.out]; first | rfl | simp, _, rfl⟩

theorem ref_majority (v0 v1 : Value) (l yes : List Int) (w : World) (h : RI w v0 l) (hy : RI w v1 yes) (hl : l.length ≤ 4611686018427387903) :
    Calls Try.prog 38 #[v0, v1] w fun e w' => e = .returned (.bool (majC l yes)) ∧ ∃ n, w' = w.drewN n := by
  obtain ⟨a, cap, rfl, hcap, hcm, hc⟩ := h.open_
  go_enter Try.func38, Try.ntmps38
  go_wp2_with fail
  go_loop [5, 6] (fun n i => ∃ k : Nat, k ≤ l.length ∧ i = .int .i64 k ∧ n = .int .i64 (cnt yes (l.take k) : Nat)) (fun _ i => l.length - (intOf i).toNat)
  case atStart => exact ⟨0, by omega, rfl, rfl⟩
  case round =>
    obtain ⟨k, hk, rfl, rfl⟩ := hrel
    by_cases hlt : k < l.length
    · obtain ⟨b, off, rfl, hbl, hcj⟩ := hc.out k hlt
      have hsn := cnt_snoc yes l k hlt
      have hle := cnt_le yes (l.take k)
      rw [List.length_take] at hle
      by_cases hin : l[k] ∈ yes
      · have HS : Hid (cnt yes (l.take (k + 1)) = cnt yes (l.take k) + 1) := Lib.hid (by rw [hsn, if_pos hin])
        have hin := Lib.hid (decide_eq_true hin)
        clear hsn
        generalize l[k]'hlt = x at hcj hin
        generalize cnt yes (l.take k) = c at *
        go_wp2_with fail
        refine (ref_has _ _ _ _ hy).mono ?_
        rintro e w' ⟨rfl, rfl⟩
        rw [hin.out]
        go_wp2_with fail
        go_round
        case rel => exact ⟨k + 1, by omega, by go_num, by rw [HS.out]; go_num⟩
        case measure => simp [intOf]; omega
      · have HS : Hid (cnt yes (l.take (k + 1)) = cnt yes (l.take k)) := Lib.hid (by rw [hsn, if_neg hin]; rfl)
        have hin := Lib.hid (decide_eq_false hin)
        clear hsn
        generalize l[k]'hlt = x at hcj hin
        generalize cnt yes (l.take k) = c at *
        go_wp2_with fail
        refine (ref_has _ _ _ _ hy).mono ?_
        rintro e w' ⟨rfl, rfl⟩
        rw [hin.out]
        go_wp2_with fail
        go_round
        case rel => exact ⟨k + 1, by omega, by go_num, by rw [HS.out]⟩
        case measure => simp [intOf]; omega
    · have hkl : k = l.length := by omega
      subst hkl
      rw [List.take_length]
      have hle := cnt_le yes l
      have hM : Hid (majC l yes = (mayC l && decide (2 * cnt yes l > l.length))) := Lib.hid rfl
      go_wp2_with fail
      refine (ref_may _ _ _ h).mono ?_
      rintro e w' ⟨rfl, n, rfl⟩
      generalize cnt yes l = c at *
      generalize mayC l = m at *
      cases m
      · go_wp2_with fail
        go_ret
        exact ⟨by rw [hM.out]; rfl, _, rfl⟩
      · go_wp2_with fail
        go_ret
        refine ⟨?_, _, rfl⟩
        rw [hM.out, Bool.true_and]
        exact ret_dec (by omega)
end Go.Proofs.Ytbjopmbemgpmaaa
