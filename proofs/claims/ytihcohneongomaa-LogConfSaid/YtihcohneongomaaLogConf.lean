/-
  The last configuration counts, of the entries or the snapshot: of any number and places. No condition.
-/
import Derived.Test.YtihcohneongomaaLogKit
import Derived.Test.YtihcohneongomaaLogConfP
namespace Go.Proofs.Ytihcohneongomaa
open Go.ChangeShapes Go.WideShapes Go.ChangeAt Go.RowKit

/-- An entry in a box of its own. -/
structure EntB (w : World) (b : Nat) (i k : Int) (d : ByteArray) : Prop where
  lt : b < w.heap.size
  c0 : w.cell? ⟨b, 0, none⟩ = some (.int .i64 i)
  c1 : w.cell? ⟨b, 1, none⟩ = some (.int .i64 1)
  c2 : w.cell? ⟨b, 2, none⟩ = some (.int .i64 k)
  c3 : w.cell? ⟨b, 3, none⟩ = some (.string d)
  fr : ∀ j, w.frozen? ⟨b, j, none⟩ = false

theorem EntB.below {w w' : World} {b : Nat} {i k : Int} {d : ByteArray} (h : EntB w b i k d) (hb : Below w.heap.size w w') : EntB w' b i k d :=
  ⟨Nat.lt_of_lt_of_le h.lt hb.size, (hb.cell (p := ⟨b, 0, none⟩) h.lt).trans h.c0, (hb.cell (p := ⟨b, 1, none⟩) h.lt).trans h.c1, (hb.cell (p := ⟨b, 2, none⟩) h.lt).trans h.c2, (hb.cell (p := ⟨b, 3, none⟩) h.lt).trans h.c3, fun j => (hb.frozen (p := ⟨b, j, none⟩) h.lt).trans (h.fr j)⟩
theorem entB_box (w : World) (i k : Int) (d : ByteArray) (T : TypeId) : EntB (w.alloc (.cells #[.int .i64 i, .int .i64 1, .int .i64 k, .string d] T)) w.heap.size i k d :=
  ⟨by simp, World.cell?_alloc_new _ _ _ _, World.cell?_alloc_new _ _ _ _, World.cell?_alloc_new _ _ _ _, World.cell?_alloc_new _ _ _ _, fun j => World.frozen?_alloc_new _ _ _ _⟩
theorem EntB.setK {w : World} {b : Nat} {i k : Int} {d : ByteArray} (h : EntB w b i k d) (k' : Int) : EntB (w.setCell ⟨b, 2, none⟩ (.int .i64 k')) b i k' d := by
  have hk : Keeps [b] w (w.setCell ⟨b, 2, none⟩ (.int .i64 k')) := (Keeps.refl [b] w).setCell (.inl (by simp)) _
  refine ⟨Nat.lt_of_lt_of_le h.lt hk.size, ?_, ?_, World.cell?_setCell_same _ _ _ h.c2, ?_, fun j => ?_⟩
  · rw [World.cell?_setCell_other (h := by simp)]; exact h.c0
  · rw [World.cell?_setCell_other (h := by simp)]; exact h.c1
  · rw [World.cell?_setCell_other (h := by simp)]; exact h.c3
  · rw [World.frozen?_setCell]; exact h.fr j
theorem EntB.setD {w : World} {b : Nat} {i k : Int} {d : ByteArray} (h : EntB w b i k d) (d' : ByteArray) : EntB (w.setCell ⟨b, 3, none⟩ (.string d')) b i k d' := by
  have hk : Keeps [b] w (w.setCell ⟨b, 3, none⟩ (.string d')) := (Keeps.refl [b] w).setCell (.inl (by simp)) _
  refine ⟨Nat.lt_of_lt_of_le h.lt hk.size, ?_, ?_, ?_, World.cell?_setCell_same _ _ _ h.c3, fun j => ?_⟩
  · rw [World.cell?_setCell_other (h := by simp)]; exact h.c0
  · rw [World.cell?_setCell_other (h := by simp)]; exact h.c1
  · rw [World.cell?_setCell_other (h := by simp)]; exact h.c2
  · rw [World.frozen?_setCell]; exact h.fr j

set_option maxRecDepth 100000 in
set_option maxHeartbeats 1000000 in
theorem logConf_walk (n : Int) (v1 : Value) (l1 : List Int) (w : World) (wn : (Lit.int .i64 n).wf = true) (hI : Ints .i64 w v1 l1) :
    Calls Try.prog 6 #[.int .i64 n, v1] w fun e w' => e = .returned (.bool true) ∧ Below w.heap.size w w' := by
  have wn := wf_i64 wn
  have h1 : RI w v1 l1 := hI.1
  clear hI
  go_enter Try.func6, Try.ntmps6
  go_wp2_with fail
  refine (log_begun _).mono ?_
  rintro e w1 ⟨rfl, hb1⟩
  have hI1 : RI w1 v1 l1 := Reads.below h1 hb1 rfl
  clear h1
  by_cases m0 : n < 0
  · have t0 : decide (n < 0) = true := decide_eq_true m0
    go_wp2_with fail
    go_ret
    exact ⟨rfl, hb1⟩
  · have t0 : decide (n < 0) = false := decide_eq_false m0
    by_cases m1 : 30 < n
    · have t1 : decide (30 < n) = true := decide_eq_true m1
      go_wp2_with fail
      go_ret
      exact ⟨rfl, hb1⟩
    · have t1 : decide (30 < n) = false := decide_eq_false m1
      obtain ⟨M, rfl⟩ := Int.eq_ofNat_of_zero_le (show 0 ≤ n by omega)
      obtain ⟨a1, cap1, rfl, hcap1, hcm1, hcell1⟩ := hI1.open_
      go_wp2_with fail
      go_loopw [6, 7, 8, 9] (fun s wt wh i wr => ∃ k : Nat, ∃ L : List Ent, ∃ W : ByteArray, ∃ H : Int, k ≤ M ∧ i = .int .i64 k ∧ L.length = k ∧ wt = .string W ∧ wh = .int .i64 H ∧ EntO wr w1.heap.size s L ∧ Hid (ConfInv L W H) ∧ Below w1.heap.size w1 wr) (fun _ _ _ i _ => M - (intOf i).toNat)
      case atStart => exact ⟨0, [], t123, 5, by omega, rfl, rfl, rfl, rfl, EntO.nil _ _, Lib.hid confInv_nil, Below.refl _ _⟩
      case round =>
        obtain ⟨k, L, W, H, hk, rfl, hLk, rfl, rfl, ho, hinv, hbel⟩ := hrel
        by_cases hlt : k < M
        · go_wp2_with fail
          go_loopw [11] (fun q wr2 => ∃ j : Nat, ∃ K : Int, ∃ D : ByteArray, q = .int .i64 j ∧ j ≤ l1.length ∧ j ≤ 10 ∧ fiveKD K D ∧ EntB wr2 wr.heap.size (6 + k) K D ∧ Below wr.heap.size wr wr2) (fun q _ => l1.length - (intOf q).toNat)
          case atStart => exact ⟨0, 1, t12, rfl, Nat.zero_le _, by omega, .inl ⟨rfl, rfl⟩, entB_box _ _ _ _ _, (Below.refl _ _).alloc (Nat.le_refl _) _⟩
          case round =>
            rename World => wr2
            obtain ⟨j, K, D, rfl, hj, hj10, hKD, hB, hb2⟩ := hrel
            have hexit : (j < l1.length ∧ j < 10) ∨ ¬ j < l1.length ∨ (j < l1.length ∧ ¬ j < 10) := by omega
            rcases hexit with ⟨hjl, hjt⟩ | hjl | ⟨hjl, hjt⟩
            · obtain ⟨b, off, rfl, hbl, hce⟩ := hcell1.out j hjl
              have hce2 : wr2.cell? ⟨b, off + j, none⟩ = some (Value.int .i64 l1[j]) := by
                rw [hb2.cell (p := ⟨b, off + j, none⟩) (Nat.lt_of_lt_of_le hbl hbel.size), hbel.cell (p := ⟨b, off + j, none⟩) hbl]
                exact hce
              have hfd : [Value.string { data := #[49, 50] }, Value.string { data := #[49, 50, 51, 52] }, Value.string { data := #[120] }, Value.string { data := #[49, 51] }][j % 4]? = some (.string (fourD (j % 4))) := by
                have : j % 4 = 0 ∨ j % 4 = 1 ∨ j % 4 = 2 ∨ j % 4 = 3 := by omega
                rcases this with h | h | h | h <;> rw [h] <;> rfl
              by_cases heq : l1[j] = (k : Int)
              · have tq : (l1[j] == (k : Int)) = true := by simp [heq]
                have c2 := hB.c2
                have hB1 := hB.setK 3
                have c3 := hB1.c3
                have fr := hB.fr
                have fr1 := hB1.fr
                have hB2 := hB1.below ((Below.refl _ _).alloc (Nat.le_refl _) (.cells #[Value.string { data := #[49, 50] }, Value.string { data := #[49, 50, 51, 52] }, Value.string { data := #[120] }, Value.string { data := #[49, 51] }] 9))
                have c4 := hB2.c3
                have fr2 := hB2.fr
                go_wp2_with fail
                go_roundw
                case rel => exact ⟨j + 1, 3, fourD (j % 4), by go_num, by omega, by omega, fourD_five _, hB2.setD _, ((hb2.setCell (Nat.le_refl _) _).alloc (Nat.le_of_lt hB1.lt) _).setCell (Nat.le_refl _) _⟩
                case measure => simp [intOf]; omega
              · have tq : (l1[j] == (k : Int)) = false := by simp [heq]
                go_wp2_with fail
                go_roundw
                case rel => exact ⟨j + 1, K, D, by go_num, by omega, by omega, hKD, hB, hb2⟩
                case measure => simp [intOf]; omega
            all_goals
              have c0 := hB.c0
              have c1 := hB.c1
              have c2 := hB.c2
              have c3 := hB.c3
              by_cases hc : K = 3 ∧ D ≠ tx
              · obtain ⟨rfl, hD⟩ := hc
                have tD : (D.toList == [120]) = false := by
                  rcases hKD with ⟨h, _⟩ | ⟨_, rfl | rfl | rfl | rfl⟩
                  · cases h
                  · decide +kernel
                  · decide +kernel
                  · exact absurd rfl hD
                  · decide +kernel
                have HI := hinv.out.snoc (by omega) hKD
                rw [if_pos ⟨rfl, hD⟩, if_pos ⟨rfl, hD⟩, hLk] at HI
                have HI := Lib.hid HI
                go_upto_region 19 with fail
                go_region
                clear c0 c1 c2 c3
                have hX : Below wr2.heap.size wr2 wr2.drew := (Below.refl _ _).drew
                have hB2 := hB.below hX
                have c0 := hB2.c0
                have c1 := hB2.c1
                have c2 := hB2.c2
                have c3 := hB2.c3
                generalize hXX : wr2.drew = X at *
                clear hXX
                have hb := (Below.refl X.heap.size X).alloc (Nat.le_refl _) (.cells #[Value.int .i64 (6 + (k : Int)), .int .i64 1, .int .i64 3, .string D] 37)
                have hE := EntR.fresh X [⟨6 + (k : Int), 1, 3, D⟩] 37 (0, 0) #[Value.int .i64 (6 + (k : Int)), .int .i64 1, .int .i64 3, .string D] 1 rfl rfl (by simp)
                have ho2 := (ho.below (hb2.trans (hX.mono hb2.size))).below hb
                have hbz : Below w1.heap.size w1 _ := (hbel.trans ((hb2.trans (hX.mono hb2.size)).mono hbel.size)).trans (hb.mono (by have := hbel.size; have := hb2.size; have := hX.size; omega))
                clear hb hB hB2 hX hb2
                go_wp2_with (at_builtin; refine wpList_append_ents 24 w1.heap.size _ Try.underlying24 info_ent rfl rfl _ _ rfl ho2 hE rfl rfl (by rw [hLk]; simp; omega) hbz.size ?_)
                intro v2 w2 ho3 hg3 hk3
                have hb3 : Below w1.heap.size w1 w2 := hbz.grown hg3 hbz.size (fun k hk => (World.ownsRow.lt ho2 k hk).1)
                clear ho2 hE hg3 hk3 hbz
                go_wp2_with fail
                go_roundw
                case rel => exact ⟨k + 1, L ++ [⟨6 + (k : Int), 1, 3, D⟩], D, 6 + (k : Int), by omega, by go_num, by simp [hLk], rfl, rfl, ho3, Lib.hid HI.out, hb3⟩
                case measure => simp [intOf]; omega
              · have HI := hinv.out.snoc (by omega) hKD
                rw [if_neg hc, if_neg hc, hLk] at HI
                have HI := Lib.hid HI
                by_cases hK3 : K = 3
                · obtain rfl : D = tx := Classical.byContradiction fun h => hc ⟨hK3, h⟩
                  subst hK3
                  unfold tx at *
                  go_upto_region 20 with fail
                  have hX : Below wr2.heap.size wr2 wr2 := Below.refl _ _
                  have hb := (Below.refl wr2.heap.size wr2).alloc (Nat.le_refl _) (.cells #[Value.int .i64 (6 + (k : Int)), .int .i64 1, .int .i64 3, .string ⟨#[120]⟩] 37)
                  have hE := EntR.fresh wr2 [⟨6 + (k : Int), 1, 3, ⟨#[120]⟩⟩] 37 (0, 0) #[Value.int .i64 (6 + (k : Int)), .int .i64 1, .int .i64 3, .string ⟨#[120]⟩] 1 rfl rfl (by simp)
                  have ho2 := (ho.below (hb2.trans (hX.mono hb2.size))).below hb
                  have hbz : Below w1.heap.size w1 _ := (hbel.trans ((hb2.trans (hX.mono hb2.size)).mono hbel.size)).trans (hb.mono (by have := hbel.size; have := hb2.size; have := hX.size; omega))
                  clear hb hX hb2
                  go_wp2_with (at_builtin; refine wpList_append_ents 24 w1.heap.size _ Try.underlying24 info_ent rfl rfl _ _ rfl ho2 hE rfl rfl (by rw [hLk]; simp; omega) hbz.size ?_)
                  intro v2 w2 ho3 hg3 hk3
                  have hb3 : Below w1.heap.size w1 w2 := hbz.grown hg3 hbz.size (fun k hk => (World.ownsRow.lt ho2 k hk).1)
                  clear ho2 hE hg3 hk3 hbz
                  go_wp2_with fail
                  go_roundw
                  case rel => exact ⟨k + 1, L ++ [⟨6 + (k : Int), 1, 3, ⟨#[120]⟩⟩], W, H, by omega, by go_num, by simp [hLk], rfl, rfl, ho3, Lib.hid HI.out, hb3⟩
                  case measure => simp [intOf]; omega
                · have tK : (K == 3) = false := by simpa using hK3
                  go_upto_region 20 with fail
                  have hX : Below wr2.heap.size wr2 wr2 := Below.refl _ _
                  have hb := (Below.refl wr2.heap.size wr2).alloc (Nat.le_refl _) (.cells #[Value.int .i64 (6 + (k : Int)), .int .i64 1, .int .i64 K, .string D] 37)
                  have hE := EntR.fresh wr2 [⟨6 + (k : Int), 1, K, D⟩] 37 (0, 0) #[Value.int .i64 (6 + (k : Int)), .int .i64 1, .int .i64 K, .string D] 1 rfl rfl (by simp)
                  have ho2 := (ho.below (hb2.trans (hX.mono hb2.size))).below hb
                  have hbz : Below w1.heap.size w1 _ := (hbel.trans ((hb2.trans (hX.mono hb2.size)).mono hbel.size)).trans (hb.mono (by have := hbel.size; have := hb2.size; have := hX.size; omega))
                  clear hb hX hb2
                  go_wp2_with (at_builtin; refine wpList_append_ents 24 w1.heap.size _ Try.underlying24 info_ent rfl rfl _ _ rfl ho2 hE rfl rfl (by rw [hLk]; simp; omega) hbz.size ?_)
                  intro v2 w2 ho3 hg3 hk3
                  have hb3 : Below w1.heap.size w1 w2 := hbz.grown hg3 hbz.size (fun k hk => (World.ownsRow.lt ho2 k hk).1)
                  clear ho2 hE hg3 hk3 hbz
                  go_wp2_with fail
                  go_roundw
                  case rel => exact ⟨k + 1, L ++ [⟨6 + (k : Int), 1, K, D⟩], W, H, by omega, by go_num, by simp [hLk], rfl, rfl, ho3, Lib.hid HI.out, hb3⟩
                  case measure => simp [intOf]; omega
        · obtain rfl : k = M := by omega
          have hLh := Lib.hid hLk
          clear hLk
          have hr := ho.r
          obtain ⟨a6, c6, he⟩ := hr.slice
          rename Value => s6
          rw [he] at hr ⊢
          have HB : Hid (LogB snp5 L) := Lib.hid ⟨by decide, by decide, by rw [hLh.out]; omega⟩
          have HD : Hid (smallD snp5 L) := Lib.hid ⟨by decide, fun e he => by have := (hinv.out.t e he).2; omega⟩
          have hbw := hb1.trans (hbel.mono hb1.size)
          have hbwz := hbw.size
          clear he ho hbel hcell1 hI1
          go_wp2_with fail
          refine (log_new snp5 _ L _ hr (by rw [hLh.out]; omega)).mono ?_
          intro e w2 hn
          unfold RetNewL at hn
          rw [if_pos (hinv.out.ok (by rw [hLh.out]; omega))] at hn
          obtain ⟨b, lv, rfl, hS, hb2, hbb, hsi⟩ := hn
          have hbv := hbw.trans (hb2.mono hbwz)
          have hbvz := hbv.size
          clear hsi hb2 hr hbw
          unfold logPtr
          go_wp2_with fail
          refine (log_conf hS HB.out HD.out).mono ?_
          rintro e w3 ⟨c, rfl, hc, hb3⟩
          have hcW : RI w3 c (decC W.data.toList) := by rw [hinv.out.s] at hc; exact hc
          rw [hinv.out.s]
          have hbt := hbv.trans (hb3.mono hbvz)
          have hWl : (decC W.data.toList).length = W.size := by unfold decC; rw [List.length_map]; exact size_data W
          have hWd : ∀ k (h : k < W.size), 48 ≤ (W[k]).toNat ∧ (W[k]).toNat ≤ 57 := by
            rcases hinv.out.w with rfl | rfl | rfl | rfl <;> decide +kernel
          have hW4 : W.size ≤ 4 := by
            rcases hinv.out.w with rfl | rfl | rfl | rfl <;> decide +kernel
          clear hS hb3 hbv hc
          dsimp only
          obtain ⟨ac, capc, rfl, hcapc, hcmc, hcellc⟩ := hcW.open_
          have hWlen := Lib.hid hWl
          rw [hWl] at hcapc ⊢
          clear hinv HB HD hWl
          go_wp2_with fail
          go_loopw [15] (fun q wr2 => ∃ j : Nat, q = .int .i64 j ∧ j ≤ W.size ∧ Below w3.heap.size w3 wr2) (fun q _ => W.size - (intOf q).toNat)
          case atStart => exact ⟨0, rfl, Nat.zero_le _, Below.refl _ _⟩
          case round =>
            rename World => wr2
            obtain ⟨j, rfl, hj, hb4⟩ := hrel
            by_cases hjl : j < W.size
            · obtain ⟨bc, off, rfl, hbl, hce⟩ := hcellc.out j (by rw [hWlen.out]; exact hjl)
              have hdj : (decC W.data.toList)[j]'(by rw [hWlen.out]; exact hjl) = ((W[j]).toNat : Int) - 48 := by
                unfold decC
                rw [List.getElem_map]
                rfl
              have hce2 : wr2.cell? ⟨bc, off + j, none⟩ = some (Value.int .i64 (((W[j]).toNat : Int) - 48)) := by
                rw [hb4.cell (p := ⟨bc, off + j, none⟩) hbl, ← hdj]
                exact hce
              obtain ⟨d1, d2⟩ := hWd j hjl
              clear hdj hce hcellc
              go_upto_region 30 with fail
              go_region
              go_wp2_with fail
              go_roundw
              case rel => exact ⟨j + 1, by go_num, by omega, hb4.drew⟩
              case measure => simp [intOf]; omega
            · go_wp2_with fail
              go_ret
              exact ⟨rfl, hbt.trans (hb4.mono hbt.size)⟩
/-! ### From the row to the walk -/
namespace logConfF
set_option linter.unusedVariables false
theorem own : ownKnob Try.prog.godebug = none := by kernel_rfl
theorem laidOut : laidOutB Try.prog = true := by kernel_rfl
set_option maxRecDepth 100000 in
theorem lifted (os : Os) (started : os.Started) (H : Type) (enc : TypeId × Value → H) :
    ReturnsInHanded {} Try.checked os 6 .any (Rows.logConfSpec.pre6 enc Try.prog Try.f6 Rows.logConfRow.domain false) (Rows.logConfSpec.post enc Try.prog Try.f6 false true false false) := by
  refine returnsInHanded_of_change (C := Try.checked) own started (by kernel_rfl) Try.func6
    (ChangeSpec.witness6 (enc := enc) (C := Try.checked) false ⟨#[], #[.int .i64 0, .slice none 0 0], []⟩ 8 (by kernel_rfl) (by kernel_rfl) (by kernel_rfl) (by kernel_rfl)) ?_
  intro W base args ds gs before hval0 hW hcnd _
  have hval : ∀ (j : Nat) t v, Try.f6.params[j]? = some t → args[j]? = some v → Value.okWide Try.prog W .any base t v := hval0
  have hW' := hW
  obtain ⟨p, q, hA0, hV, rfl, hfz, hnd⟩ := hW
  have hA : DataW.TrodAll enc Try.prog W 0 (fun _ => true) true Try.f6.params.toList args.toList ds p := hA0
  rw [Try.params6] at hA hval
  obtain ⟨v0, vs0, d0, ds0, p0, q0, hargs, rfl, rfl, h0, r0⟩ := trodAll_cons hA
  obtain ⟨v1, vs1, d1, ds1, p1, q1, rfl, rfl, rfl, h1, r1⟩ := trodAll_cons r0
  obtain ⟨rfl, rfl, rfl⟩ := trodAll_nil r1
  obtain rfl : args = #[v0, v1] := by cases args; simp_all
  obtain ⟨rfl, rfl⟩ := trodVars_none hV
  have k0 := h0
  have lt0 : ∀ x ∈ p0, x.block < W.heap.size := by obtain ⟨m, hm⟩ := k0; exact DataW.trod_lt m _ _ _ hm
  obtain ⟨a0, rfl, hd0, hp0, w0⟩ := open_int Try.underlying3 (hval 0 3 v0 rfl rfl) h0
  have k1 := h1
  have lt1 : ∀ x ∈ p1, x.block < W.heap.size := by obtain ⟨m, hm⟩ := k1; exact DataW.trod_lt m _ _ _ hm
  obtain ⟨l1, w1⟩ := open_intsR (k := .i64) Try.underlying42 Try.underlying3 (by kernel_rfl) (hval 1 42 v1 rfl rfl) h1
  clear hA0 hval0
  refine (logConf_walk a0 v1 l1 W w0 w1).mono fun e W' ⟨he, bel⟩ => ?_
  subst he
  exact ⟨_, rfl, _, _, _, [], _, [], hW', trodAll_mk1 (shut_bool Try.underlying4 _), (trodAll_cons_mk (Below.trod laidOut (by kernel_rfl) (of_decide_eq_true (by kernel_rfl)) k0 bel lt0) (trodAll_cons_mk (Below.trod laidOut (by kernel_rfl) (of_decide_eq_true (by kernel_rfl)) k1 bel lt1) trodAll_mk0)), rfl, bel.frame _, fun h => by cases h⟩
theorem over : Rows.logConfRow.holds Try.pinned (OpenSpec.ofChange Rows.logConfSpec) :=
  OpenClaim.holds_of_wide 6 Try.f6 rfl rfl rfl rfl rfl rfl rfl ⟨rfl, rfl, rfl, rfl, rfl⟩ rfl rfl rfl rfl rfl (by kernel_rfl) Try.func6 (by kernel_rfl)
    (of_decide_eq_true (by kernel_rfl)) (by unfold Func.isWrapper; first | (rw [if_pos (by decide +kernel)]; kernel_rfl) | (rw [if_neg (by decide +kernel)]; exact ⟨rfl, rfl⟩))
    (fun os started H enc _ => lifted os started H enc)
end logConfF
theorem logConf_holds : Rows.LogConfSaid := logConfF.over
#print axioms logConf_holds
end Go.Proofs.Ytihcohneongomaa
