/-
  No claim by itself: how the document reads a record. No condition.
-/
import Derived.Test.YtankebgpkhcgnaaWalR2
import Derived.Test.YtankebgpkhcgnaaWalPlain3
import Derived.Test.YtankebgpkhcgnaaFrameL
import Derived.Test.YtankebgpkhcgnaaFrameRef
import Derived.Test.YtankebgpkhcgnaaConf
import Derived.Deep.CutBlock
import Derived.Test.YtankebgpkhcgnaaWal3
namespace Go.Proofs.Ytankebgpkhcgnaa
open Go.ChangeShapes Go.WideShapes Go.ChangeAt Go.RowKit

theorem info_i64n : (Try.prog.info? 2).map (fun i => (i.zero, i.size, i.bytes)) = some (some (.int .i64 0), 1, 8) := by kernel_rfl
def NumO (w : World) (base : Nat) (v : Value) (l : List Int) : Prop := w.ownsRow base 2 1 v l.length (l.map (Value.int .i64))
theorem NumO.ri {w : World} {base : Nat} {v : Value} {l : List Int} (h : NumO w base v l) : RI w v l := by
  have := Reads.of_owns (n := l.length) h
  exact this
def RetNums (w : World) (t : List Int × List UInt8 × Bool) (e : Ending) (w' : World) : Prop :=
  ∃ v1 v2, e = .returned (.tuple #[v1, v2, .bool t.2.2]) ∧ RI w' v1 t.1 ∧ Bytes w' v2 t.2.1 ∧ Below w.heap.size w w'

set_option maxRecDepth 100000 in
set_option maxHeartbeats 2000000 in
theorem ref_numbers (v : Value) (l : List UInt8) (n : Nat) (w : World) (h : Bytes w v l) (hn : n ≤ 10) :
    Calls Try.prog 70 #[v, .int .i64 n] w fun e w' => RetNums w (numsF n l) e w' := by
  go_enter Try.func70, Try.ntmps70
  go_wp2_with fail
  go_loopw [0, 7, 8] (fun b s i wr => ∃ (k : Nat) (xs : List Int) (r : List UInt8), i = .int .i64 k ∧ k ≤ n ∧ xs.length = k ∧ NumO wr w.heap.size s xs ∧ Bytes wr b r ∧ Below w.heap.size w wr ∧ (r ≠ [] → ∀ ad m c, b = .slice (some ad) m c → ad.block < w.heap.size) ∧
    Hid (((numsF (n - k) r).2.2 = true → numsF n l = (xs ++ (numsF (n - k) r).1, (numsF (n - k) r).2.1, true)) ∧ ((numsF (n - k) r).2.2 = false → numsF n l = ([], [], false)))) (fun _ _ i _ => n - (intOf i).toNat)
  case atStart =>
    refine ⟨0, [], l, rfl, Nat.zero_le _, rfl, World.ownsRow_nil w _ _ _, h, Below.refl _ _, bytes_block h, Lib.hid ⟨fun h => ?_, fun h => ?_⟩⟩
    · rw [Nat.sub_zero, List.nil_append, ← show (numsF n l).2.2 = true from h]
    · rw [Nat.sub_zero] at h
      cases n with
      | zero => cases h
      | succ n =>
        rw [numsF] at h ⊢
        by_cases h1 : (getN l).2.2 ≠ 0
        · rw [if_pos h1]
        · rw [if_neg h1] at h ⊢
          by_cases h2 : (numsF n (l.drop (getN l).2.1)).2.2 = true
          · rw [if_pos h2] at h; cases h
          · rw [if_neg h2]
  case round =>
    obtain ⟨k, xs, r, rfl, hk, hxs, hO, hB, hbel, hbk, hN⟩ := hrel
    obtain ⟨a, cap, rfl, hcap, hcm, -⟩ := id hB
    by_cases hlt : k < n
    · obtain ⟨m, hm⟩ : ∃ m, n - k = m + 1 := ⟨n - k - 1, by omega⟩
      have hN1 := hN.out
      rw [hm] at hN1
      rcases getN_any r with hg | ⟨x, j, hg, hx0, hx1, hj0, hjl, -⟩
      · obtain ⟨e, hg, he⟩ : ∃ e : Nat, getN r = (0, 0, e) ∧ ((e : Int) != 0) = true ∧ e ≠ 0 := by
          rcases hg with hg | hg <;> exact ⟨_, hg, by decide, by decide⟩
        have hf : numsF (m + 1) r = ([], [], false) := by rw [numsF, hg, if_pos he.2]
        have HF := Lib.hid (hN1.2 (by rw [hf]))
        have HG := Lib.hid hg
        have he1 := he.1
        clear hN hN1 hf hg he
        go_wp2_with fail
        refine (ref_get _ r _ hB).mono ?_
        rw [HG.out]
        rintro e' w' ⟨rfl, rfl⟩
        unfold getV
        go_wp2_with fail
        go_ret3
        rw [HF.out]
        exact ⟨_, _, rfl, ⟨none, 0, rfl, Nat.zero_le _, by omega, fun h => absurd rfl h⟩, Bytes.nil _ _ _ (by omega), hbel⟩
      · have hN2 : Hid (((numsF (n - (k + 1)) (r.drop j)).2.2 = true → numsF n l = ((xs ++ [x]) ++ (numsF (n - (k + 1)) (r.drop j)).1, (numsF (n - (k + 1)) (r.drop j)).2.1, true)) ∧ ((numsF (n - (k + 1)) (r.drop j)).2.2 = false → numsF n l = ([], [], false))) := Lib.hid (by
          rw [show n - (k + 1) = m by omega]
          have hu : numsF (m + 1) r = if (numsF m (r.drop j)).2.2 = true then (x :: (numsF m (r.drop j)).1, (numsF m (r.drop j)).2.1, true) else ([], [], false) := by
            rw [numsF, hg]
            simp only [ne_eq, not_true_eq_false, if_false]
          refine ⟨fun h1 => ?_, fun h1 => ?_⟩
          · rw [if_pos h1] at hu
            have := hN1.1 (by rw [hu])
            rw [this, hu]
            simp
          · rw [if_neg (by rw [h1]; decide)] at hu
            exact hN1.2 (by rw [hu]))
        have hsub := hB.sub j (r.length - j) (by omega)
        rw [List.take_of_length_le (by rw [List.length_drop]; omega)] at hsub
        have hbk2 := Lib.hid (fun (m c : Nat) => sub_ne (k := j) (m := m) (c := c) hbk)
        have HG := Lib.hid hg
        have hb2 := (Below.refl wr.heap.size wr).alloc (Nat.le_refl _) (.cells #[.int .i64 x] 2)
        have hO2 : NumO _ w.heap.size _ xs := ownsRow_below hO hb2
        have hbel2 := hbel.alloc hbel.size (.cells #[.int .i64 x] 2)
        have hcell : ∀ j' u, ([Value.int .i64 x] : List Value)[j']? = some u → (wr.alloc (.cells #[.int .i64 x] 2)).cell? ((⟨wr.heap.size, 0, none⟩ : Addr).add j') = some u := fun j' u hu => by
          rw [Addr.add_lit, Nat.zero_add, World.cell?_alloc_new]
          simpa using hu
        have HC := Lib.hid hcell
        have hsub2 := hsub.below hb2 rfl
        clear hcell hN hN1 hg hO hsub hb2 hm hbk
        go_wp2_with fail
        refine (ref_get _ r _ hB).mono ?_
        rw [HG.out]
        rintro e' w' ⟨rfl, rfl⟩
        unfold getV
        go_wp2_with (at_builtin; refine wpList_append_recs 109 w.heap.size 2 1 (.int .i64 0) 8 Try.underlying109 info_i64n rfl (by decide) rfl _ _ rfl hO2 (news := [.int .i64 x]) (k := 1) rfl (fun _ => ⟨_, rfl, HC.out⟩) (by intro u hu; rw [List.mem_singleton.1 hu]; rfl) rfl rfl (by simp [maxLen]; omega) (by omega) hbel2.size ?_)
        intro v5 w5 hown5 hg5 hk5
        have hbel5 := hbel2.grown hg5 hbel2.size (fun k hk => (World.ownsRow.lt hO2 k hk).1)
        have hsub5 := hsub2.keeps (Keeps.of_grown hg5) (fun hne ad n' c' hv hx => by
          have h1 := hbk2.out _ _ hne ad n' c' hv
          have h2 := (World.ownsRow.lt hO2 ad.block (by simpa using hx)).1
          omega)
        have hO5 : NumO w5 w.heap.size v5 (xs ++ [x]) := by
          unfold NumO
          rw [List.length_append, List.map_append, hxs]
          exact hown5
        clear hO2 hown5 hg5 hk5 hbel2 hsub2 hB HC
        by_cases hck : cap = j
        · rw [if_pos hck] at hsub5
          have hbk5 := hbk2.out
          rw [if_pos hck] at hbk5
          have hj : j = r.length := by omega
          have hd : r.drop j = [] := by rw [hj]; exact List.drop_length
          have HBK := Lib.hid hbk5
          clear hbk2 hbk5
          subst hck
          rw [hj] at hsub5
          go_wp2_with fail
          go_roundw
          case rel => exact ⟨k + 1, xs ++ [x], r.drop cap, by go_num, by omega, by simp [hxs], hO5, by rw [hd]; exact Bytes.nil _ _ _ (by omega), hbel5, fun hne => absurd hd hne, hN2⟩
          case measure => simp [intOf]; omega
        · rw [if_neg hck] at hsub5
          have hbk5 := hbk2.out
          rw [if_neg hck] at hbk5
          have HBK := Lib.hid hbk5
          clear hbk2 hbk5
          go_wp2_with fail
          go_roundw
          case rel => exact ⟨k + 1, xs ++ [x], r.drop j, by go_num, by omega, by simp [hxs], hO5, hsub5, hbel5, HBK.out _ _, hN2⟩
          case measure => simp [intOf]; omega
    · obtain rfl : k = n := by omega
      have hF : numsF k l = (xs, r, true) := by
        have := hN.out.1 (by rw [Nat.sub_self]; rfl)
        rw [Nat.sub_self] at this
        rw [this]
        simp [numsF]
      have HF := Lib.hid hF
      have hri := hO.ri
      clear hN hF
      go_wp2_with fail
      go_ret3
      rw [HF.out]
      exact ⟨_, _, rfl, hri, hB, hbel⟩
theorem load_recR {w : World} {b : Nat} {r : Rec} (h : RecS w b r) : (loadVar 52 ⟨b, 0, none⟩).run Try.prog w = .ok (recAgg r) w := by
  have c0 := h.c0
  have c1 := h.c1
  have c2 := h.c2
  have c3 := h.c3
  have c4 := h.c4
  have c5 := h.c5
  have c6 := h.c6
  unfold recAgg loadVar
  go_simp
theorem RecS.setAll {w : World} {b : Nat} {r : Rec} (h : RecS w b r) (n : Rec) :
    RecS (((((((w.setCell ⟨b, 0, none⟩ (.bool n.hd)).setCell ⟨b, 1, none⟩ (.int .i64 n.t)).setCell ⟨b, 2, none⟩ (.int .i64 n.v)).setCell ⟨b, 3, none⟩ (.int .i64 n.e.i)).setCell ⟨b, 4, none⟩ (.int .i64 n.e.t)).setCell ⟨b, 5, none⟩ (.int .i64 n.e.k)).setCell ⟨b, 6, none⟩ (.string n.e.d)) b n :=
  ((((((h.setH n.hd).setT n.t).setV n.v).setI n.e.i).setTT n.e.t).setK n.e.k).setD n.e.d
theorem below_set7 {B : Nat} {a w : World} (h : Below B a w) {b : Nat} (hb : B ≤ b) (u0 u1 u2 u3 u4 u5 u6 : Value) :
    Below B a (((((((w.setCell ⟨b, 0, none⟩ u0).setCell ⟨b, 1, none⟩ u1).setCell ⟨b, 2, none⟩ u2).setCell ⟨b, 3, none⟩ u3).setCell ⟨b, 4, none⟩ u4).setCell ⟨b, 5, none⟩ u5).setCell ⟨b, 6, none⟩ u6) :=
  (((((((h.setCell hb _).setCell hb _).setCell hb _).setCell hb _).setCell hb _).setCell hb _).setCell hb _)
theorem RecS.other7 {w : World} {b c : Nat} {r : Rec} (h : RecS w b r) (hc : b ≠ c) (u0 u1 u2 u3 u4 u5 u6 : Value) :
    RecS (((((((w.setCell ⟨c, 0, none⟩ u0).setCell ⟨c, 1, none⟩ u1).setCell ⟨c, 2, none⟩ u2).setCell ⟨c, 3, none⟩ u3).setCell ⟨c, 4, none⟩ u4).setCell ⟨c, 5, none⟩ u5).setCell ⟨c, 6, none⟩ u6) b r :=
  h.keeps (F := [c]) ((((((((Keeps.refl [c] w).setCell (.inl (by simp)) _).setCell (.inl (by simp)) _).setCell (.inl (by simp)) _).setCell (.inl (by simp)) _).setCell (.inl (by simp)) _).setCell (.inl (by simp)) _).setCell (.inl (by simp)) _) (by simpa using hc)
theorem encR_leD (r : Rec) : (encR r).length ≤ 4016 := by
  unfold encR
  split
  · exact sealP_le _ _
  · simp

set_option maxRecDepth 100000 in
set_option maxHeartbeats 8000000 in
theorem ref_decode (v : Value) (l : List UInt8) (w : World) (h : Bytes w v l) (hl : l.length ≤ 1000000000) :
    Calls Try.prog 42 #[v] w fun e w' => e = .returned (decV (decR l)) ∧ Below w.heap.size w w' := by
  have hb0 := (Below.refl w.heap.size w).alloc (Nat.le_refl _) (.cells #[.bool false, .int .i64 0, .int .i64 0, .int .i64 0, .int .i64 0, .int .i64 0, .string ⟨#[]⟩] 52)
  have hc0 := recS_box w zeroR 52
  have hB := h.below hb0 rfl
  have hI := Lib.hid h
  obtain ⟨a0, cap0, rfl, hcap0, hcm0, -⟩ := h
  unfold zeroR zeroE at hc0
  dsimp only at hc0
  have hE0 : (⟨#[]⟩ : ByteArray) = .empty := rfl
  go_enter Try.func42, Try.ntmps42
  go_wp2_with fail
  refine (ref_open _ l _ hB hl).mono ?_
  have hok := openP_ok (l := l)
  obtain ⟨k, body, n, err, ho⟩ : ∃ k body n err, openP l = (k, body, n, err) := ⟨_, _, _, _, rfl⟩
  have D0 : err ≠ 0 → decR l = (zeroR, 0, err) := fun he => by
    have := decR_err (l := l) (by rw [ho]; exact he)
    rw [this, ho]
  rw [ho] at hok ⊢
  rintro e w1 ⟨bv, rfl, hbv, hb1⟩
  dsimp only at hbv hok ⊢
  have hb := hb0.trans (hb1.mono hb0.size)
  have hZ := hc0.below hb1
  clear hb0 hb1 hc0 hB
  by_cases he : err = 0
  · subst he
    replace hok := hok rfl
    obtain ⟨d1, d2, d3⟩ := decR_ref ho
    have D1 := Lib.hid d1
    have D2 := Lib.hid d2
    have D3 := Lib.hid d3
    obtain ⟨ab, cb, rfl, -⟩ := id hbv
    have hX := recS_box w1 zeroR 52
    unfold zeroR zeroE at hX
    dsimp only at hX
    have hba := (Below.refl w1.heap.size w1).alloc (Nat.le_refl _) (.cells #[.bool false, .int .i64 0, .int .i64 0, .int .i64 0, .int .i64 0, .int .i64 0, .string .empty] 52)
    have hnl := hok.2.1
    have hbl := hok.2.2.1
    have hb1z := hb.size
    have hNX := hZ.lt
    replace hZ := hZ.below hba
    replace hb := hb.alloc hb.size (.cells #[.bool false, .int .i64 0, .int .i64 0, .int .i64 0, .int .i64 0, .int .i64 0, .string .empty] 52)
    replace hbv := hbv.below hba rfl
    clear d1 d2 d3 hba hok D0
    go_upto_block 0 with fail
    generalize hWW : w1.alloc _ = w2 at *
    clear hWW
    go_cut [9] (fun x wx => x = .pointer (some ⟨w1.heap.size, 0, none⟩) ∧ ∃ P, RecS wx w1.heap.size P ∧ RecS wx w.heap.size zeroR ∧ refR k body = (P, false) ∧ Below w.heap.size w wx)
    case' first =>
      by_cases hk1 : k = 1
      case' pos =>
        subst hk1
        have hlen := numsF_len 2 body
        have hRf : refR 1 body = if (numsF 2 body).2.2 = true ∧ (numsF 2 body).2.1.length = 0 ∧ 0 ≤ (numsF 2 body).1.getD 1 0 ∧ (numsF 2 body).1.getD 1 0 ≤ 7 then (⟨true, (numsF 2 body).1.getD 0 0, (numsF 2 body).1.getD 1 0, zeroE⟩, false) else (zeroR, false) := by
          unfold refR
          rw [if_pos rfl]
        have HRf := Lib.hid hRf
        have HLn := Lib.hid hlen
        clear hRf hlen
        go_wp2_with fail
        refine (ref_numbers _ body 2 _ hbv (by decide)).mono ?_
        rintro e w3 ⟨v1, v2, rfl, hr1, hr2, hb3⟩
        replace hZ := hZ.below hb3
        replace hX := hX.below hb3
        replace hb := hb.trans (hb3.mono hb.size)
        clear hb3 hbv
        have hlen := HLn.out
        have hRf := HRf.out
        generalize numsF 2 body = t at *
        obtain ⟨xs, rest, ok⟩ := t
        dsimp only at hlen hRf hr1 hr2 ⊢
        cases ok with
        | false =>
          rw [if_neg (by simp)] at hRf
          have HP := Lib.hid hRf
          clear hRf hlen hr1 hr2 HRf HLn
          go_wp2_with fail
          go_meet
          exact ⟨rfl, _, hX, hZ, HP.out, hb⟩
        | true =>
          have hl2 := hlen rfl
          match xs, hl2 with
          | [x, y], _ =>
          simp only [List.getD_cons_zero, List.getD_cons_succ, true_and] at hRf
          obtain ⟨a1, c1, rfl, hc1, hcm1, hcell⟩ := hr1.open_
          obtain ⟨b1, o1, rfl, hlt1, g0⟩ := hcell.out 0 (by simp)
          obtain ⟨b1', o1', he, -, g1⟩ := hcell.out 1 (by simp)
          simp only [Option.some.injEq, Addr.mk.injEq, and_true] at he
          obtain ⟨rfl, rfl⟩ := he
          simp only [List.getElem_cons_zero, List.getElem_cons_succ, List.length_cons, List.length_nil, Nat.add_zero, Nat.zero_add] at g0 g1 hc1 ⊢
          obtain ⟨a2, c2, rfl, -⟩ := id hr2
          clear hcell hr1 hr2 hlen HLn HRf
          by_cases hrest : rest.length = 0
          · rw [hrest]
            rcases dec_cases (0 ≤ y) with ⟨hy, ty⟩ | ⟨hy, ty⟩
            · rcases dec_cases (y ≤ 7) with ⟨hy7, ty7⟩ | ⟨hy7, ty7⟩
              · rw [if_pos ⟨hrest, hy, hy7⟩] at hRf
                have HP := Lib.hid hRf
                clear hRf
                have y0 := hX.c0
                have y1 := hX.c1
                have y2 := hX.c2
                have y3 := hX.c3
                have y4 := hX.c4
                have y5 := hX.c5
                have y6 := hX.c6
                have yf := hX.fr
                dsimp only at y0 y1 y2 y3 y4 y5 y6
                go_upto_region 9 with fail
                go_region
                have hX2 := (hX.setAll ⟨true, x, y, ⟨0, 0, 0, .empty⟩⟩).below (Below.refl _ _).drew
                have hZ2 := (hZ.other7 (c := w1.heap.size) (Nat.ne_of_lt hNX) (.bool true) (.int .i64 x) (.int .i64 y) (.int .i64 0) (.int .i64 0) (.int .i64 0) (.string .empty)).below (Below.refl _ _).drew
                have hb2 := (below_set7 hb (b := w1.heap.size) hb1z (.bool true) (.int .i64 x) (.int .i64 y) (.int .i64 0) (.int .i64 0) (.int .i64 0) (.string .empty)).drew
                go_wp2_with fail
                go_meet
                exact ⟨rfl, _, hX2, hZ2, HP.out, hb2⟩
              · rw [if_neg (by omega)] at hRf
                have HP := Lib.hid hRf
                clear hRf
                go_wp2_with fail
                go_meet
                exact ⟨rfl, _, hX, hZ, HP.out, hb⟩
            · rw [if_neg (by omega)] at hRf
              have HP := Lib.hid hRf
              clear hRf
              go_wp2_with fail
              go_meet
              exact ⟨rfl, _, hX, hZ, HP.out, hb⟩
          · rw [if_neg (by omega)] at hRf
            have trest : ((rest.length : Int) == 0) = false := beq_eq_false_iff_ne.2 (by omega)
            have HP := Lib.hid hRf
            clear hRf
            go_wp2_with fail
            go_meet
            exact ⟨rfl, _, hX, hZ, HP.out, hb⟩
      case' neg =>
        by_cases hk2 : k = 2
        case' pos =>
          subst hk2
          have hlen := numsF_len 3 body
          have hRf : refR 2 body = if (numsF 3 body).2.2 = true ∧ 1 ≤ (numsF 3 body).1.getD 2 0 ∧ (numsF 3 body).1.getD 2 0 ≤ 3 then
              (if (getT (numsF 3 body).2.1).2.2 = 0 then ((⟨false, 0, 0, ⟨(numsF 3 body).1.getD 0 0, (numsF 3 body).1.getD 1 0, (numsF 3 body).1.getD 2 0, ⟨(getT (numsF 3 body).2.1).1.toArray⟩⟩⟩ : Rec), false) else (zeroR, false)) else (zeroR, true) := by
            unfold refR
            rw [if_neg (by decide), if_pos rfl]
          have HRf := Lib.hid hRf
          have HLn := Lib.hid hlen
          clear hRf hlen
          go_wp2_with fail
          refine (ref_numbers _ body 3 _ hbv (by decide)).mono ?_
          rintro e w3 ⟨v1, v2, rfl, hr1, hr2, hb3⟩
          replace hZ := hZ.below hb3
          replace hX := hX.below hb3
          replace hb := hb.trans (hb3.mono hb.size)
          clear hb3 hbv
          have hlen := HLn.out
          have hRf := HRf.out
          generalize numsF 3 body = t at *
          obtain ⟨xs, rest, ok⟩ := t
          dsimp only at hlen hRf hr1 hr2 ⊢
          cases ok with
          | false =>
            rw [if_neg (by simp)] at hRf
            have HF : Hid (decR l = (zeroR, 0, 3)) := Lib.hid (D1.out (by rw [hRf]))
            clear hRf hlen hr1 hr2 HRf HLn
            have z0 := hZ.c0
            have z1 := hZ.c1
            have z2 := hZ.c2
            have z3 := hZ.c3
            have z4 := hZ.c4
            have z5 := hZ.c5
            have z6 := hZ.c6
            have zf := hZ.fr
            dsimp only at z0 z1 z2 z3 z4 z5 z6
            go_wp2_with fail
            refine bodyPost_ret (results_cell3 rfl _ _ _ _ _ rfl (load_recR (hZ.setAll ⟨false, 0, 0, ⟨0, 0, 0, .empty⟩⟩))) rfl ?_
            rw [HF.out]
            exact ⟨rfl, below_set7 hb (Nat.le_refl _) _ _ _ _ _ _ _⟩
          | true =>
            have hl2 := hlen rfl
            match xs, hl2 with
            | [x, y, z], _ =>
            simp only [List.getD_cons_zero, List.getD_cons_succ, true_and] at hRf
            obtain ⟨a1, c1, rfl, hc1, hcm1, hcell⟩ := hr1.open_
            obtain ⟨b1, o1, rfl, hlt1, g0⟩ := hcell.out 0 (by simp)
            obtain ⟨b1', o1', he, -, g1⟩ := hcell.out 1 (by simp)
            simp only [Option.some.injEq, Addr.mk.injEq, and_true] at he
            obtain ⟨rfl, rfl⟩ := he
            obtain ⟨b1', o1', he, -, g2⟩ := hcell.out 2 (by simp)
            simp only [Option.some.injEq, Addr.mk.injEq, and_true] at he
            obtain ⟨rfl, rfl⟩ := he
            simp only [List.getElem_cons_zero, List.getElem_cons_succ, List.length_cons, List.length_nil, Nat.add_zero, Nat.zero_add] at g0 g1 g2 hc1 ⊢
            clear hcell hr1 hlen HLn HRf
            rcases dec_cases (z < 1) with ⟨hz1, tz1⟩ | ⟨hz1, tz1⟩
            · rw [if_neg (by omega)] at hRf
              have HF : Hid (decR l = (zeroR, 0, 3)) := Lib.hid (D1.out (by rw [hRf]))
              clear hRf hr2
              have z0 := hZ.c0
              have z1 := hZ.c1
              have z2 := hZ.c2
              have z3 := hZ.c3
              have z4 := hZ.c4
              have z5 := hZ.c5
              have z6 := hZ.c6
              have zf := hZ.fr
              dsimp only at z0 z1 z2 z3 z4 z5 z6
              go_wp2_with fail
              refine bodyPost_ret (results_cell3 rfl _ _ _ _ _ rfl (load_recR (hZ.setAll ⟨false, 0, 0, ⟨0, 0, 0, .empty⟩⟩))) rfl ?_
              rw [HF.out]
              exact ⟨rfl, below_set7 hb (Nat.le_refl _) _ _ _ _ _ _ _⟩
            · rcases dec_cases (3 < z) with ⟨hz3, tz3⟩ | ⟨hz3, tz3⟩
              · rw [if_neg (by omega)] at hRf
                have HF : Hid (decR l = (zeroR, 0, 3)) := Lib.hid (D1.out (by rw [hRf]))
                clear hRf hr2
                have z0 := hZ.c0
                have z1 := hZ.c1
                have z2 := hZ.c2
                have z3 := hZ.c3
                have z4 := hZ.c4
                have z5 := hZ.c5
                have z6 := hZ.c6
                have zf := hZ.fr
                dsimp only at z0 z1 z2 z3 z4 z5 z6
                go_wp2_with fail
                refine bodyPost_ret (results_cell3 rfl _ _ _ _ _ rfl (load_recR (hZ.setAll ⟨false, 0, 0, ⟨0, 0, 0, .empty⟩⟩))) rfl ?_
                rw [HF.out]
                exact ⟨rfl, below_set7 hb (Nat.le_refl _) _ _ _ _ _ _ _⟩
              · rw [if_pos (by omega)] at hRf
                rcases getT_any rest with hg | ⟨tx, j, hg, -⟩
                · obtain ⟨e, hg, he⟩ : ∃ e : Nat, getT rest = ([], 0, e) ∧ ((e : Int) == 0) = false ∧ e ≠ 0 := by
                    rcases hg with hg | hg <;> exact ⟨_, hg, by decide, by decide⟩
                  rw [hg] at hRf
                  dsimp only at hRf
                  rw [if_neg he.2] at hRf
                  have HP := Lib.hid hRf
                  have HG := Lib.hid hg
                  have he1 := he.1
                  clear hRf hg he
                  go_wp2_with fail
                  refine (ref_getText _ rest _ hr2).mono ?_
                  rw [HG.out]
                  rintro e' w' ⟨rfl, rfl⟩
                  unfold getTV
                  go_wp2_with fail
                  go_meet
                  exact ⟨rfl, _, hX, hZ, HP.out, hb⟩
                · rw [hg] at hRf
                  dsimp only at hRf
                  rw [if_pos rfl] at hRf
                  have HP := Lib.hid hRf
                  have HG := Lib.hid hg
                  clear hRf hg
                  go_wp2_with fail
                  refine (ref_getText _ rest _ hr2).mono ?_
                  rw [HG.out]
                  rintro e' w' ⟨rfl, rfl⟩
                  unfold getTV
                  dsimp only
                  have y0 := hX.c0
                  have y1 := hX.c1
                  have y2 := hX.c2
                  have y3 := hX.c3
                  have y4 := hX.c4
                  have y5 := hX.c5
                  have y6 := hX.c6
                  have yf := hX.fr
                  dsimp only at y0 y1 y2 y3 y4 y5 y6
                  go_upto_region 16 with fail
                  go_region
                  have hX2 := (hX.setAll ⟨false, 0, 0, ⟨x, y, z, ⟨tx.toArray⟩⟩⟩).below (Below.refl _ _).drew
                  have hZ2 := (hZ.other7 (c := w1.heap.size) (Nat.ne_of_lt hNX) (.bool false) (.int .i64 0) (.int .i64 0) (.int .i64 x) (.int .i64 y) (.int .i64 z) (.string ⟨tx.toArray⟩)).below (Below.refl _ _).drew
                  have hb2 := (below_set7 hb (b := w1.heap.size) hb1z (.bool false) (.int .i64 0) (.int .i64 0) (.int .i64 x) (.int .i64 y) (.int .i64 z) (.string ⟨tx.toArray⟩)).drew
                  go_wp2_with fail
                  go_meet
                  exact ⟨rfl, _, hX2, hZ2, HP.out, hb2⟩
        case' neg =>
          have HP : Hid (refR k body = (zeroR, false)) := Lib.hid (by unfold refR; rw [if_neg hk1, if_neg hk2])
          have tk1 : (k == 1) = false := beq_eq_false_iff_ne.2 hk1
          have tk2 : (k == 2) = false := beq_eq_false_iff_ne.2 hk2
          go_wp2_with fail
          go_meet
          exact ⟨rfl, _, hX, hZ, HP.out, hb⟩
    case' rest =>
      clear hX hZ hb hbv
      obtain ⟨rfl, P, hX, hZ, hP, hb⟩ := hcut
      rename World => wq
      unfold zeroR zeroE at hZ
      rw [hP] at D1 D2 D3
      dsimp only at hZ D1 D2 D3
      obtain ⟨rh, rt, rv, ⟨ri, rt', rk, rd⟩⟩ := P
      clear hP
      cases hm : mayR ⟨rh, rt, rv, ⟨ri, rt', rk, rd⟩⟩ with
      | false =>
        have HM := Lib.hid hm
        have HF : Hid (decR l = (zeroR, 0, 3)) := Lib.hid (D3.out rfl (fun h => by rw [hm] at h; exact absurd h.1 (by decide)))
        clear hm
        go_upto_region 17 with fail
        go_cut [120] (fun x wx => x = .bool true ∧ Below wq.heap.size wq wx)
        case' first =>
          generalize hXX : w1.heap.size = X at *
          refine wp_region_sw (by rfl) (by kernel_rfl) (fun k' => match k' with | 1 => some (fun v' _ => v' = .bool false) | _ => none) ?_ (fun vals => ?_)
          · intro k' φ hk v' w1 w2 h1 h2
            match k', hk with
            | 1, hk => obtain rfl := Option.some.inj hk; exact h1
          refine sw_at (recAgg ⟨rh, rt, rv, ⟨ri, rt', rk, rd⟩⟩) rfl rfl (fun wz hz' hH => ?_) (fun K hK => ?_)
          · have hq := hX.below hz'
            have y0 := hq.c0
            have y1 := hq.c1
            have y2 := hq.c2
            have y3 := hq.c3
            have y4 := hq.c4
            have y5 := hq.c5
            have y6 := hq.c6
            unfold recAgg
            go_simp
          go_simp; refine hK _ ?_; clear hK K
          refine sw_call _ rfl rfl (fun wz hz' hH => ?_) (fun K hK => ?_)
          · go_simp
            go_at_call 34
            refine (ref_may _ _).mono ?_
            rintro e w9 ⟨rfl, hb9⟩
            exact ⟨_, rfl, by rw [HM.out], hb9⟩
          go_simp; refine hK _ ?_; clear hK K
          refine sw_at (.bool true) rfl rfl (fun wz hz' hH => ?_) (fun K hK => ?_)
          · have e1 := hH _ (List.Mem.head _) rfl
            dsimp only at e1
            rw [show (0 + 1 : Nat) = 1 from rfl] at e1
            rw [e1]
            go_simp
          go_simp; refine hK _ ?_; clear hK K
          iterate 10 ((with_reducible refine sw_pure ?_ (fun K hK => ?_)); (· rfl); go_simp; with_reducible refine hK _ ?_; clear hK K)
          refine sw_done (fun wz hz hH => ?_)
          go_wp2_with fail
          go_meet
          exact ⟨rfl, hz⟩
        case' rest =>
          obtain ⟨rfl, hbz⟩ := hcut
          rename World => wy
          replace hZ := hZ.below hbz
          replace hb := hb.trans (hbz.mono hb.size)
          have z0 := hZ.c0
          have z1 := hZ.c1
          have z2 := hZ.c2
          have z3 := hZ.c3
          have z4 := hZ.c4
          have z5 := hZ.c5
          have z6 := hZ.c6
          have zf := hZ.fr
          dsimp only at z0 z1 z2 z3 z4 z5 z6
          go_wp2_with fail
          refine bodyPost_ret (results_cell3 rfl _ _ _ _ _ rfl (load_recR (hZ.setAll ⟨false, 0, 0, ⟨0, 0, 0, ⟨#[]⟩⟩⟩))) rfl ?_
          rw [HF.out]
          exact ⟨rfl, below_set7 hb (Nat.le_refl _) _ _ _ _ _ _ _⟩
      | true =>
        have HM := Lib.hid hm
        have hncap : n ≤ cap0 := Nat.le_trans hnl hcap0
        go_upto_region 17 with fail
        by_cases heq : encR ⟨rh, rt, rv, ⟨ri, rt', rk, rd⟩⟩ = l.take n
        case' pos =>
          have hne : (encR ⟨rh, rt, rv, ⟨ri, rt', rk, rd⟩⟩ != l.take n) = false := by simp [heq]
        case' neg =>
          have hne : (encR ⟨rh, rt, rv, ⟨ri, rt', rk, rd⟩⟩ != l.take n) = true := by simp [heq]
        all_goals
          go_cut [120] (fun x wx => x = .bool (encR ⟨rh, rt, rv, ⟨ri, rt', rk, rd⟩⟩ != l.take n) ∧ Below wq.heap.size wq wx)
          case' first =>
            generalize hXX : w1.heap.size = X at *
            have HNE := Lib.hid hne
            obtain ⟨E, hE⟩ : ∃ E, E = encR ⟨rh, rt, rv, ⟨ri, rt', rk, rd⟩⟩ := ⟨_, rfl⟩
            have hEl := encR_le ⟨rh, rt, rv, ⟨ri, rt', rk, rd⟩⟩
            rw [← hE] at hEl
            have HE := Lib.hid hE
            clear hE hne heq
            refine wp_region_sw (by rfl) (by kernel_rfl) (fun k' => match k' with | 1 => some (fun v' _ => v' = .bool true) | 5 => some (fun v' w' => Bytes w' v' E) | _ => none) ?_ (fun vals => ?_)
            · intro k' φ hk v' w1 w2 h1 h2
              match k', hk with
              | 1, hk => obtain rfl := Option.some.inj hk; exact h1
              | 5, hk => obtain rfl := Option.some.inj hk; exact Bytes.below h1 h2 rfl
            refine sw_at (recAgg ⟨rh, rt, rv, ⟨ri, rt', rk, rd⟩⟩) rfl rfl (fun wz hz' hH => ?_) (fun K hK => ?_)
            · have hq := hX.below hz'
              have y0 := hq.c0
              have y1 := hq.c1
              have y2 := hq.c2
              have y3 := hq.c3
              have y4 := hq.c4
              have y5 := hq.c5
              have y6 := hq.c6
              unfold recAgg
              go_simp
            go_simp; refine hK _ ?_; clear hK K
            refine sw_call _ rfl rfl (fun wz hz' hH => ?_) (fun K hK => ?_)
            · go_simp
              go_at_call 34
              refine (ref_may _ _).mono ?_
              rintro e w9 ⟨rfl, hb9⟩
              exact ⟨_, rfl, by rw [HM.out], hb9⟩
            go_simp; refine hK _ ?_; clear hK K
            refine sw_at (.bool false) rfl rfl (fun wz hz' hH => ?_) (fun K hK => ?_)
            · have e1 := hH _ (List.Mem.head _) rfl
              dsimp only at e1
              rw [show (0 + 1 : Nat) = 1 from rfl] at e1
              rw [e1]
              go_simp
            go_simp; refine hK _ ?_; clear hK K
            ((with_reducible refine sw_pure ?_ (fun K hK => ?_)); (· rfl); go_simp; with_reducible refine hK _ ?_; clear hK K)
            refine sw_at (recAgg ⟨rh, rt, rv, ⟨ri, rt', rk, rd⟩⟩) rfl rfl (fun wz hz' hH => ?_) (fun K hK => ?_)
            · have hq := hX.below hz'
              have y0 := hq.c0
              have y1 := hq.c1
              have y2 := hq.c2
              have y3 := hq.c3
              have y4 := hq.c4
              have y5 := hq.c5
              have y6 := hq.c6
              unfold recAgg
              go_simp
            go_simp; refine hK _ ?_; clear hK K
            refine sw_call _ rfl rfl (fun wz hz' hH => ?_) (fun K hK => ?_)
            · go_simp
              go_at_call 36
              refine (ref_encode _ _).mono ?_
              rintro e w9 ⟨v9, rfl, ho9, hb9⟩
              rw [← HE.out] at ho9
              exact ⟨v9, rfl, ho9.bytes, hb9⟩
            go_simp; refine hK _ ?_; clear hK K
            refine sw_at (.string ⟨E.toArray⟩) rfl rfl (fun wz hz' hH => ?_) (fun K hK => ?_)
            · have e9 := hH _ (List.Mem.head _) rfl
              have hcv := conv_str e9
              dsimp only at hcv
              go_simp
            go_simp; refine hK _ ?_; clear hK K
            iterate 2 ((with_reducible refine sw_pure ?_ (fun K hK => ?_)); (· rfl); go_simp; with_reducible refine hK _ ?_; clear hK K)
            refine sw_at (.slice a0 n cap0) rfl rfl (fun wz hz' hH => ?_) (fun K hK => ?_)
            · go_simp
            go_simp; refine hK _ ?_; clear hK K
            refine sw_at (.string ⟨(l.take n).toArray⟩) rfl rfl (fun wz hz' hH => ?_) (fun K hK => ?_)
            · have hcv := conv_str ((hI.out.below (hb.trans (hz'.mono hb.size)) rfl).take n hnl)
              go_simp
            go_simp; refine hK _ ?_; clear hK K
            refine sw_at (.bool (E != l.take n)) rfl rfl (fun wz hz' hH => ?_) (fun K hK => ?_)
            · go_simp
              simp [bne]
            go_simp; refine hK _ ?_; clear hK K
            ((with_reducible refine sw_pure ?_ (fun K hK => ?_)); (· rfl); go_simp; with_reducible refine hK _ ?_; clear hK K)
            refine sw_done (fun wz hz hH => ?_)
            go_wp2_with fail
            go_meet
            exact ⟨by rw [HE.out], hz⟩
          case' rest =>
            obtain ⟨rfl, hbz⟩ := hcut
            rename World => wy
            rw [hne]
            replace hZ := hZ.below hbz
            replace hX := hX.below hbz
            replace hb := hb.trans (hbz.mono hb.size)
            have z0 := hZ.c0
            have z1 := hZ.c1
            have z2 := hZ.c2
            have z3 := hZ.c3
            have z4 := hZ.c4
            have z5 := hZ.c5
            have z6 := hZ.c6
            have zf := hZ.fr
            have y0 := hX.c0
            have y1 := hX.c1
            have y2 := hX.c2
            have y3 := hX.c3
            have y4 := hX.c4
            have y5 := hX.c5
            have y6 := hX.c6
            dsimp only at z0 z1 z2 z3 z4 z5 z6 y0 y1 y2 y3 y4 y5 y6
            first
              | (have HF : Hid (decR l = (⟨rh, rt, rv, ⟨ri, rt', rk, rd⟩⟩, n, 0)) := Lib.hid (D2.out rfl ⟨hm, heq⟩)
                 clear heq hne hm
                 go_wp2_with fail
                 refine bodyPost_ret (results_cell3 rfl _ _ _ _ _ rfl (load_recR (hZ.setAll ⟨rh, rt, rv, ⟨ri, rt', rk, rd⟩⟩))) rfl ?_
                 rw [HF.out]
                 exact ⟨rfl, below_set7 hb (Nat.le_refl _) _ _ _ _ _ _ _⟩)
              | (have HF : Hid (decR l = (zeroR, 0, 3)) := Lib.hid (D3.out rfl (fun h => heq h.2))
                 clear heq hne hm
                 go_wp2_with fail
                 refine bodyPost_ret (results_cell3 rfl _ _ _ _ _ rfl (load_recR (hZ.setAll ⟨false, 0, 0, ⟨0, 0, 0, .empty⟩⟩))) rfl ?_
                 rw [HF.out]
                 exact ⟨rfl, below_set7 hb (Nat.le_refl _) _ _ _ _ _ _ _⟩)
  · have te : ((err : Int) != 0) = true := bne_iff_ne.2 (by omega)
    have HF := Lib.hid (D0 he)
    clear D0 hok he
    have z0 := hZ.c0
    have z1 := hZ.c1
    have z2 := hZ.c2
    have z3 := hZ.c3
    have z4 := hZ.c4
    have z5 := hZ.c5
    have z6 := hZ.c6
    have zf := hZ.fr
    dsimp only at z0 z1 z2 z3 z4 z5 z6
    go_wp2_with fail
    refine bodyPost_ret (results_cell3 rfl _ _ _ _ _ rfl (load_recR (hZ.setAll ⟨false, 0, 0, ⟨0, 0, 0, ⟨#[]⟩⟩⟩))) rfl ?_
    rw [HF.out]
    exact ⟨rfl, below_set7 hb (Nat.le_refl _) _ _ _ _ _ _ _⟩
end Go.Proofs.Ytankebgpkhcgnaa
