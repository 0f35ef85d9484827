/-
  Records one behind the other are told, up to a torn tail, or what is spoilt: any records, any cut, any byte changed, whatever stands behind: the program and the document tell the same. No condition.
-/
import Derived.Test.YtankebgpkhcgnaaWalL
import Derived.Test.YtankebgpkhcgnaaWalD2
import Derived.Test.YtankebgpkhcgnaaOpenRec
import Derived.Test.YtankebgpkhcgnaaWalPlain2
import Derived.Deep.CutBlock
namespace Go.Proofs.Ytankebgpkhcgnaa
open Go.ChangeShapes Go.WideShapes Go.ChangeAt Go.RowKit

def walScan_wit0 : Value := .slice none 0 0
set_option maxRecDepth 100000 in
theorem walScan_open0 {H : Type} {enc : TypeId × Value → H} {W : World} {base base' : Nat} {r : Reach} {v : Value} {d : DataW H} {ps : List MemPlace}
    (hv : Value.okWide Try.prog W r base' 65 v) (h : DataW.Trod enc Try.prog W base (fun _ => true) true 65 v d ps) : ∃ rs : List Rec, Recs 7 recCells W v rs ∧ ∀ x ∈ rs, x.wf := open_recordsR hv h

theorem OwnB.takeW {w : World} {base e n cap : Nat} {a : Option Addr} {l : List UInt8} (h : OwnB w base e (.slice a n cap) l) (k : Nat) (hk : k ≤ l.length) : OwnB w base e (.slice a k cap) (l.take k) := by
  obtain ⟨h1, h2⟩ := h
  have hlen : (l.take k).length = k := by rw [List.length_take]; omega
  refine ⟨by rw [List.length_map, Nat.mul_one], ?_⟩
  rcases h2 with ⟨h3, h4⟩ | ⟨g, cap', cur, h3, hb, hg, hnc, hcm, hcs, htake⟩
  · simp only [Value.slice.injEq] at h3
    obtain ⟨rfl, rfl, rfl⟩ := h3
    obtain rfl : k = 0 := by omega
    exact .inl ⟨rfl, by simp⟩
  · simp only [Value.slice.injEq] at h3
    obtain ⟨rfl, rfl, rfl⟩ := h3
    refine .inr ⟨g, _, cur, by rw [hlen], hb, hg, by omega, hcm, hcs, ?_⟩
    rw [hlen, Nat.mul_one, List.map_take, ← htake, Nat.mul_one, List.take_take, Nat.min_eq_left hk]

/-- One record's cells. -/
theorem Recs.rec {w : World} {a : Option Addr} {n cap : Nat} {rs : List Rec} (h : Recs 7 recCells w (.slice a n cap) rs) (k : Nat) (hk : k < rs.length) : ∃ b off, a = some ⟨b, off, none⟩ ∧ b < w.heap.size ∧
    w.cell? ⟨b, off + k * 7, none⟩ = some (.bool rs[k].hd) ∧ w.cell? ⟨b, off + k * 7 + 1, none⟩ = some (.int .i64 rs[k].t) ∧ w.cell? ⟨b, off + k * 7 + 2, none⟩ = some (.int .i64 rs[k].v) ∧ w.cell? ⟨b, off + k * 7 + 3, none⟩ = some (.int .i64 rs[k].e.i) ∧
    w.cell? ⟨b, off + k * 7 + 4, none⟩ = some (.int .i64 rs[k].e.t) ∧ w.cell? ⟨b, off + k * 7 + 5, none⟩ = some (.int .i64 rs[k].e.k) ∧ w.cell? ⟨b, off + k * 7 + 6, none⟩ = some (.string rs[k].e.d) := by
  obtain ⟨a', cap', hv, h1, h2, h3⟩ := h
  simp only [Value.slice.injEq] at hv
  obtain ⟨rfl, rfl, rfl⟩ := hv
  obtain ⟨b, off, ha, hb, hc⟩ := h3 k hk
  exact ⟨b, off, ha, hb, hc 0 _ rfl, hc 1 _ rfl, hc 2 _ rfl, hc 3 _ rfl, hc 4 _ rfl, hc 5 _ rfl, hc 6 _ rfl⟩

theorem RecO.slice {T : TypeId} {w : World} {base : Nat} {v : Value} {rs : List Rec} (h : RecO T w base v rs) : ∃ a cap, v = .slice a rs.length cap := by
  rcases h.2 with ⟨rfl, hx⟩ | ⟨g, cap, cur, rfl, _⟩
  · exact ⟨none, 0, by rw [hx]⟩
  · exact ⟨_, cap, rfl⟩

theorem recCells_get (rs : List Rec) (k : Nat) (hk : k < rs.length) (j : Nat) (hj : j < 7) : (rs.flatMap recCells)[k * 7 + j]? = (recCells rs[k])[j]? := by
  induction rs generalizing k with
  | nil => simp at hk
  | cons e rs ih =>
    rw [List.flatMap_cons]
    cases k with
    | zero => rw [Nat.zero_mul, Nat.zero_add, List.getElem?_append_left (by simpa [recCells] using hj)]; rfl
    | succ k =>
      rw [List.getElem?_append_right (by simp [recCells]; omega), List.getElem_cons_succ, ← ih k (by simpa using hk)]
      congr 1
      simp only [recCells, List.length_cons, List.length_nil]
      omega
theorem RecO.recs {T : TypeId} {w : World} {base : Nat} {v : Value} {rs : List Rec} (h : RecO T w base v rs) : Recs 7 recCells w v rs := by
  rcases h.2 with ⟨rfl, hx⟩ | ⟨g, cap, cur, rfl, hb, hg, hnc, hcm, hcs, htake⟩
  · obtain rfl : rs = [] := List.eq_nil_of_length_eq_zero hx
    exact ⟨none, 0, rfl, Nat.le_refl _, by omega, fun k hk => by simp at hk⟩
  · refine ⟨_, cap, rfl, hnc, by simpa [maxLen] using hcm, fun k hk => ⟨g, 0, rfl, (Array.getElem?_eq_some_iff.1 hg).1, fun j u hu => ?_⟩⟩
    have hj : j < 7 := by have := (List.getElem?_eq_some_iff.1 hu).1; simpa [recCells] using this
    have hc := World.ownsRow.cells h (g := g) rfl (k * 7 + j) u (by rw [recCells_get rs k hk j hj]; exact hu)
    rw [Addr.add_lit, Nat.zero_add] at hc
    rw [Nat.zero_add]
    exact hc

set_option maxRecDepth 100000 in
set_option maxHeartbeats 8000000 in
theorem walScan_walk (v0 : Value) (l : List Rec) (cut at_ x : Int) (v4 : Value) (l1 : List UInt8) (w : World) (w0 : Recs 7 recCells w v0 l ∧ ∀ x ∈ l, x.wf) (wc : (Lit.int .i64 cut).wf = true) (wa : (Lit.int .i64 at_).wf = true) (wx : (Lit.int .u8 x).wf = true) (h1 : Bytes w v4 l1) :
    Calls Try.prog 11 #[v0, .int .i64 cut, .int .i64 at_, .int .u8 x, v4] w fun e w' => e = .returned (.bool true) ∧ Below w.heap.size w w' := by
  have wc := wf_i64 wc
  have wa := wf_i64 wa
  have wx := wf_u8 wx
  obtain ⟨cx, hcx⟩ : ∃ c : UInt8, x = (c.toNat : Int) := ⟨UInt8.ofNat x.toNat, by simp only [UInt8.toNat_ofNat']; omega⟩
  subst hcx
  clear wx
  obtain ⟨hR, hwf⟩ := w0
  have HW := Lib.hid hwf
  clear hwf
  obtain ⟨a0, cap0, rfl, hcap0, hcm0, -⟩ := id hR
  go_enter Try.func11, Try.ntmps11
  go_wp2_with fail
  refine (wal_begun _).mono ?_
  rintro e w1 ⟨rfl, hb1⟩
  have hR1 := hR.keeps hb1
  have h1 := h1.below hb1 rfl
  have hb1z := hb1.size
  clear hR
  go_upto_block 0 with fail
  go_cut [12] (fun s wx => ∃ L : List UInt8, OwnB wx w1.heap.size 5 s L ∧ L.length ≤ 32128 ∧ Below w1.heap.size w1 wx)
  case first =>
    go_wp2_with fail
    go_loopw [12, 13] (fun b i wr => ∃ (k : Nat) (B : List UInt8), k ≤ l.length ∧ k ≤ 8 ∧ i = .int .i64 k ∧ B.length ≤ 4016 * k ∧ OwnB wr w1.heap.size 5 b B ∧ Below w1.heap.size w1 wr) (fun _ i _ => l.length - (intOf i).toNat)
    case atStart => exact ⟨0, [], Nat.zero_le _, by omega, rfl, by simp, OwnB.nil _ _ _, Below.refl _ _⟩
    case round =>
      obtain ⟨k, B, hk, hk8, rfl, hBl, hO, hbel⟩ := hrel
      by_cases hgo : k < l.length ∧ k < 8
      · obtain ⟨hlt, h8⟩ := hgo
        obtain ⟨b0, o0, rfl, hb0, c0, c1, c2, c3, c4, c5, c6⟩ := (hR1.keeps hbel).rec k hlt
        have hdw := (HW.out l[k] (List.getElem_mem hlt)).2.2.2.2.2
        unfold maxLen at hdw
        generalize l[k] = r at *
        obtain ⟨hd', t, v, ⟨i, t', k0, d⟩⟩ := r
        dsimp only at *
        go_wp2_with fail
        refine (law_cut ⟨hd', t, v, ⟨i, t', k0, d⟩⟩ _ hdw).mono ?_
        rintro e w2 ⟨rfl, hb2⟩
        have hO2 := hO.below hb2
        have hbel2 := hbel.trans (hb2.mono hbel.size)
        clear c0 c1 c2 c3 c4 c5 c6 hb2 hO hbel
        generalize cutR ⟨hd', t, v, ⟨i, t', k0, d⟩⟩ = r at *
        go_wp2_with fail
        refine (ref_encode r _).mono ?_
        rintro e w3 ⟨v3, rfl, ho3, hb3⟩
        have hO3 := hO2.below hb3
        have hbel3 := hbel2.trans (hb3.mono hbel2.size)
        clear hb3 hO2 hbel2
        have hle := encR_le r
        go_wp2_with (at_builtin; refine wpList_append_bytes 30 w1.heap.size 5 Try.underlying30 info_u8 rfl _ _ rfl hO3 ho3.bytes rfl rfl (by omega) hbel3.size ?_)
        intro v7 w7 ho7 hg7 hk7
        have hbel7 := hbel3.grown hg7 hbel3.size (fun k hk => (hO3.lt k hk).1)
        clear hg7 hk7 hO3 ho3 hbel3
        go_wp2_with fail
        go_roundw
        case rel => exact ⟨k + 1, B ++ encR r, by omega, by omega, by go_num, by rw [List.length_append]; omega, ho7, hbel7⟩
        case measure => simp [intOf]; omega
      · have hex : (¬ k < l.length) ∨ (k < l.length ∧ ¬ k < 8) := by omega
        rcases hex with he | ⟨he1, he⟩
        all_goals
          go_wp2_with fail
          go_meet
          exact ⟨B, hO, by omega, hbel⟩
  case rest =>
    obtain ⟨B, hO, hBl, hbel⟩ := hcut
    rename World => w2
    have h4 := h1.below hbel rfl
    go_wp2_with fail
    refine (short_any _ l1 10 _ (by decide) h4).mono ?_
    rintro e w3 ⟨v3, rfl, hS3, rfl⟩
    rename World => w3
    have hl3 : (l1.take 10).length ≤ 10 := List.length_take_le _ _
    generalize l1.take 10 = r3 at *
    clear h4 h1
    go_wp2_with (at_builtin; refine wpList_append_bytes 30 w1.heap.size 5 Try.underlying30 info_u8 rfl _ _ rfl hO hS3 rfl rfl (by omega) hbel.size ?_)
    intro v4x w4 ho4 hg4 hk4
    have hb4 := hbel.grown hg4 hbel.size (fun k hk => (hO.lt k hk).1)
    have hle : (B ++ r3).length ≤ 40000 := by rw [List.length_append]; omega
    generalize B ++ r3 = L at *
    clear hg4 hk4 hO hbel hS3 hBl
    go_upto_region 10 with fail
    obtain ⟨a4, c4, rfl⟩ := ho4.len
    have hcap4 : L.length ≤ c4 := by
      obtain ⟨_, _, hv, hle, _⟩ := ho4.bytes
      simp only [Value.slice.injEq] at hv
      omega
    have HO4 := Lib.hid ho4
    clear ho4
    go_cut [53] (fun s wx => s = .bool (decide (0 < cut ∧ cut ≤ L.length)) ∧ wx = w4)
    case first =>
      by_cases m0 : 0 < cut
      · have t0 : decide (0 < cut) = true := decide_eq_true m0
        by_cases m1 : cut ≤ L.length
        · have t1 : decide (cut ≤ (L.length : Int)) = true := decide_eq_true m1
          have t2 : decide (0 < cut ∧ cut ≤ (L.length : Int)) = true := decide_eq_true ⟨m0, m1⟩
          go_wp2_with fail
          go_meet
          exact ⟨by rw [t2], rfl⟩
        · have t1 : decide (cut ≤ (L.length : Int)) = false := decide_eq_false m1
          have t2 : decide (0 < cut ∧ cut ≤ (L.length : Int)) = false := decide_eq_false fun h => m1 h.2
          go_wp2_with fail
          go_meet
          exact ⟨by rw [t2], rfl⟩
      · have t0 : decide (0 < cut) = false := decide_eq_false m0
        have t2 : decide (0 < cut ∧ cut ≤ (L.length : Int)) = false := decide_eq_false fun h => m0 h.1
        go_wp2_with fail
        go_meet
        exact ⟨by rw [t2], rfl⟩
    case rest =>
      obtain ⟨rfl, rfl⟩ := hcut
      rename World => w5
      have HM : Hid (decide (0 < cut ∧ cut ≤ L.length) = true → 0 < cut ∧ cut ≤ L.length) := Lib.hid (fun h => by simpa using h)
      generalize decide (0 < cut ∧ cut ≤ L.length) = c at *
      go_upto_if 53 with fail
      go_cut [12] (fun s wx => ∃ M : List UInt8, OwnB w5 w1.heap.size 5 s M ∧ M.length ≤ 40000 ∧ wx = w5)
      case first =>
        cases c
        · go_wp2_with fail
          go_meet
          exact ⟨L, HO4.out, hle, rfl⟩
        · obtain ⟨m0, m1⟩ := HM.out rfl
          obtain ⟨m, rfl⟩ := Int.eq_ofNat_of_zero_le (show 0 ≤ cut by omega)
          have s1 : IntKind.i64.wrap ((L.length : Int) - m) = (L.length : Int) - m := IntWalk.i64_in _ (by omega)
          have s2 : ((L.length : Int) - m).toNat = L.length - m := by omega
          have s3 : (0 : Int) ≤ (L.length : Int) - m := by omega
          have s4 : (L.length : Int) - m ≤ (c4 : Int) := by omega
          go_wp2_with fail
          go_meet
          exact ⟨_, HO4.out.takeW (L.length - m) (by omega), by rw [List.length_take]; omega, rfl⟩
      case rest =>
        obtain ⟨M, hM, hMl, rfl⟩ := hcut
        clear HO4 HM hle hcap4
        rename World => w6
        go_upto_region 12 with fail
        obtain ⟨a6, c6, hs6⟩ := hM.len
        rename Value => s6
        rw [hs6] at hM ⊢
        clear hs6
        have HOM := Lib.hid hM
        clear hM
        go_cut [66] (fun s wx => s = .bool (decide (0 < M.length ∧ 0 ≤ at_)) ∧ wx = w6)
        case first =>
          by_cases m0 : M.length = 0
          · have t0 : decide ((0 : Int) < (M.length : Int)) = false := decide_eq_false (by omega)
            have t2 : decide (0 < M.length ∧ 0 ≤ at_) = false := decide_eq_false fun h => by omega
            go_wp2_with fail
            go_meet
            exact ⟨by rw [t2], rfl⟩
          · have t0 : decide ((0 : Int) < (M.length : Int)) = true := decide_eq_true (by omega)
            by_cases m1 : 0 ≤ at_
            · have t1 : decide (0 ≤ at_) = true := decide_eq_true m1
              have t2 : decide (0 < M.length ∧ 0 ≤ at_) = true := decide_eq_true ⟨by omega, m1⟩
              go_wp2_with fail
              go_meet
              exact ⟨by rw [t2], rfl⟩
            · have t1 : decide (0 ≤ at_) = false := decide_eq_false m1
              have t2 : decide (0 < M.length ∧ 0 ≤ at_) = false := decide_eq_false fun h => m1 h.2
              go_wp2_with fail
              go_meet
              exact ⟨by rw [t2], rfl⟩
        case rest =>
          obtain ⟨rfl, rfl⟩ := hcut
          rename World => w7
          have HM : Hid (decide (0 < M.length ∧ 0 ≤ at_) = true → 0 < M.length ∧ 0 ≤ at_) := Lib.hid (fun h => by simpa using h)
          generalize decide (0 < M.length ∧ 0 ≤ at_) = c at *
          go_upto_if 66 with fail
          go_cut [12] (fun s wx => ∃ M : List UInt8, Bytes wx s M ∧ M.length ≤ 40000 ∧ Below w1.heap.size w1 wx)
          case first =>
            cases c
            · have hM := HOM.out.bytes
              go_wp2_with fail
              go_meet
              exact ⟨M, hM, hMl, hb4⟩
            · obtain ⟨m0, m1⟩ := HM.out rfl
              obtain ⟨m, rfl⟩ := Int.eq_ofNat_of_zero_le (show 0 ≤ at_ by omega)
              obtain ⟨g, c, hv, hg0, hg1, hgc⟩ := HOM.out.shape (by intro h; rw [h] at m0; simp at m0)
              simp only [Value.slice.injEq, true_and] at hv
              obtain ⟨rfl, rfl⟩ := hv
              have hlt : m % M.length < M.length := Nat.mod_lt _ m0
              have hcell := HOM.out.cellAt (m % M.length) hlt
              have hfro := HOM.out.frozenAt (m % M.length)
              have HST := Lib.hid (HOM.out.stored (m % M.length) (M[m % M.length] ^^^ cx))
              go_wp2_with fail
              have hv : byteV (M[m % M.length] ^^^ cx) = .int .u8 (bits .xor .u8 ((M[m % M.length]).toNat : Int) (cx.toNat : Int)) := by
                unfold byteV
                rw [u8_xor_nat _ _ (M[m % M.length]).toNat_lt cx.toNat_lt, UInt8.toNat_xor]
              have hst := HST.out
              rw [hv] at hst
              go_meet
              exact ⟨_, hst.1.bytes, by rw [List.length_set]; exact hMl, hb4.grown hst.2 hb4.size (fun k hk => by cases hk; exact hg0)⟩
          case rest =>
            obtain ⟨N, hN, hNl, hbN⟩ := hcut
            rename World => w8
            have hbz := hb1.trans (hbN.mono hb1.size)
            clear HOM HM hbN hb4 hb1
            go_wp2_with fail
            refine (wal_scan _ N _ hN (by omega)).mono ?_
            rintro e w9 ⟨va, rfl, hA, hb9⟩
            have hN9 := hN.below hb9 rfl
            have hbz2 := hbz.trans (hb9.mono hbz.size)
            clear hb9 hN hbz
            go_wp2_with fail
            refine (ref_scan _ N _ hN9 (by omega)).mono ?_
            rintro e w10 ⟨vb, rfl, hB, hb10⟩
            have hA10 := ownsRow_below hA hb10
            have hby := hbz2.trans (hb10.mono hbz2.size)
            clear hA hN9 hb10 hbz2
            obtain ⟨a1, c1, rfl⟩ := RecO.slice hA10
            obtain ⟨a2, c2, rfl⟩ := RecO.slice hB
            have hRA := RecO.recs hA10
            have hRB := RecO.recs hB
            clear hA10 hB
            generalize scanR N = D at *
            obtain ⟨rs, n, ok⟩ := D
            dsimp only at *
            go_upto_block 2 with fail
            clear hMl hNl
            have hrl : rs.length ≤ 9223372036854775807 := by
              obtain ⟨_, _, hv1, hn1, hm1, _⟩ := id hRA
              omega
            go_wp2_with fail
            go_loopw [20] (fun i wr => ∃ k : Nat, k ≤ rs.length ∧ i = .int .i64 k ∧ Below w10.heap.size w10 wr) (fun i _ => rs.length - (intOf i).toNat)
            case atStart => exact ⟨0, by omega, rfl, Below.refl _ _⟩
            case round =>
              obtain ⟨k, hk, rfl, hbel⟩ := hrel
              rename World => wr
              by_cases hlt : k < rs.length
              · obtain ⟨b1, o1, rfl, hg1, c0, c1', c2', c3', c4', c5', c6'⟩ := Recs.rec (hRA.keeps hbel) k hlt
                obtain ⟨b2, o2, rfl, hg2, d0, d1, d2, d3, d4, d5, d6⟩ := Recs.rec (hRB.keeps hbel) k hlt
                generalize rs[k] = r at *
                obtain ⟨rh, rt, rv, ⟨ri, rt', rk, rd⟩⟩ := r
                dsimp only at *
                go_upto_region 21 with fail
                go_cut [120] from 110 to 120 (fun x wx => x = .bool false ∧ Below wr.heap.size wr wx)
                case first =>
                  refine wp_region_sw (by rfl) (by kernel_rfl) (fun k' => match k' with | 4 => some (fun v' _ => v' = recAgg ⟨rh, rt, rv, ⟨ri, rt', rk, rd⟩⟩) | 9 => some (fun v' _ => v' = .bool true) | _ => none) ?_ (fun vals => ?_)
                  · intro k' φ hk v' w1 w2 h1 h2
                    match k', hk with
                    | 4, hk => obtain rfl := Option.some.inj hk; exact h1
                    | 9, hk => obtain rfl := Option.some.inj hk; exact h1
                  iterate 3 ((with_reducible refine sw_pure ?_ (fun K hK => ?_)); (· rfl); go_simp; with_reducible refine hK _ ?_; clear hK K)
                  refine sw_at (recAgg ⟨rh, rt, rv, ⟨ri, rt', rk, rd⟩⟩) rfl rfl (fun wz hz' hH => ?_) (fun K hK => ?_)
                  · have y0 := (hz'.cell hg1).trans c0
                    have y1 := (hz'.cell hg1).trans c1'
                    have y2 := (hz'.cell hg1).trans c2'
                    have y3 := (hz'.cell hg1).trans c3'
                    have y4 := (hz'.cell hg1).trans c4'
                    have y5 := (hz'.cell hg1).trans c5'
                    have y6 := (hz'.cell hg1).trans c6'
                    unfold recAgg
                    go_simp
                  go_simp; refine hK _ ?_; clear hK K
                  refine sw_call _ rfl rfl (fun wz hz' hH => ?_) (fun K hK => ?_)
                  · go_simp
                    go_at_call 39
                    refine (law_back _ _).mono ?_
                    rintro e w12 ⟨rfl, hb12⟩
                    exact ⟨_, rfl, rfl, hb12⟩
                  go_simp; refine hK _ ?_; clear hK K
                  iterate 3 ((with_reducible refine sw_pure ?_ (fun K hK => ?_)); (· rfl); go_simp; with_reducible refine hK _ ?_; clear hK K)
                  refine sw_at (recAgg ⟨rh, rt, rv, ⟨ri, rt', rk, rd⟩⟩) rfl rfl (fun wz hz' hH => ?_) (fun K hK => ?_)
                  · have y0 := (hz'.cell hg2).trans d0
                    have y1 := (hz'.cell hg2).trans d1
                    have y2 := (hz'.cell hg2).trans d2
                    have y3 := (hz'.cell hg2).trans d3
                    have y4 := (hz'.cell hg2).trans d4
                    have y5 := (hz'.cell hg2).trans d5
                    have y6 := (hz'.cell hg2).trans d6
                    unfold recAgg
                    go_simp
                  go_simp; refine hK _ ?_; clear hK K
                  refine sw_call _ rfl rfl (fun wz hz' hH => ?_) (fun K hK => ?_)
                  · have e10 := hH _ (List.Mem.head _) rfl
                    dsimp only at e10
                    rw [show (0 + 1 + 1 + 1 + 1 : Nat) = 4 from rfl] at e10
                    rw [e10]
                    go_simp
                    go_at_call 38
                    refine (ref_eqRec _ _).mono ?_
                    rintro e w12 ⟨rfl, hb12⟩
                    exact ⟨_, rfl, rfl, hb12⟩
                  go_simp; refine hK _ ?_; clear hK K
                  refine sw_at (.bool false) rfl rfl (fun wz hz' hH => ?_) (fun K hK => ?_)
                  · have e3 := hH _ (List.Mem.head _) rfl
                    dsimp only at e3
                    rw [show (0 + 1 + 1 + 1 + 1 + 1 + 1 + 1 + 1 + 1 : Nat) = 9 from rfl] at e3
                    rw [e3]
                    go_simp
                  go_simp; refine hK _ ?_; clear hK K
                  refine sw_done (fun wz hz hH => ?_)
                  go_wp2_with fail
                  go_meet
                  exact ⟨rfl, hz⟩
                case rest =>
                  obtain ⟨rfl, hz⟩ := hcut
                  have hbel2 := hbel.trans (hz.mono hbel.size)
                  clear hz c0 c1' c2' c3' c4' c5' c6' d0 d1 d2 d3 d4 d5 d6
                  go_wp2_with fail
                  go_roundw
                  case rel => exact ⟨k + 1, by omega, by go_num, hbel2⟩
                  case measure => simp [intOf]; omega
              · have hkl : k = rs.length := by omega
                subst hkl
                go_wp2_with fail
                go_ret
                exact ⟨rfl, hby.trans (hbel.mono hby.size)⟩
/-! ### From the row to the walk -/
namespace walScanF
set_option linter.unusedVariables false
theorem own : ownKnob Try.prog.godebug = none := by kernel_rfl
theorem laidOut : laidOutB Try.prog = true := by kernel_rfl
set_option maxRecDepth 100000 in
theorem lifted (os : Os) (started : os.Started) (H : Type) (enc : TypeId × Value → H) :
    ReturnsInHanded {} Try.checked os 11 .any (Rows.walScanSpec.pre6 enc Try.prog Try.f11 Rows.walScanRow.domain false) (Rows.walScanSpec.post enc Try.prog Try.f11 false true false false) := by
  refine returnsInHanded_of_change (C := Try.checked) own started (by kernel_rfl) Try.func11
    (ChangeSpec.witness6 (enc := enc) (C := Try.checked) false ⟨#[], #[walScan_wit0, .int .i64 0, .int .i64 0, .int .u8 0, .slice none 0 0], []⟩ 8 (by kernel_rfl) (by kernel_rfl) (by kernel_rfl) (by kernel_rfl)) ?_
  intro W base args ds gs before hval0 hW hcnd _
  have hval : ∀ (j : Nat) t v, Try.f11.params[j]? = some t → args[j]? = some v → Value.okWide Try.prog W .any base t v := hval0
  have hW' := hW
  obtain ⟨p, q, hA0, hV, rfl, hfz, hnd⟩ := hW
  have hA : DataW.TrodAll enc Try.prog W 0 (fun _ => true) true Try.f11.params.toList args.toList ds p := hA0
  rw [Try.params11] at hA hval
  obtain ⟨v0, vs0, d0, ds0, p0, q0, hargs, rfl, rfl, h0, r0⟩ := trodAll_cons hA
  obtain ⟨v1, vs1, d1, ds1, p1, q1, rfl, rfl, rfl, h1, r1⟩ := trodAll_cons r0
  obtain ⟨v2, vs2, d2, ds2, p2, q2, rfl, rfl, rfl, h2, r2⟩ := trodAll_cons r1
  obtain ⟨v3, vs3, d3, ds3, p3, q3, rfl, rfl, rfl, h3, r3⟩ := trodAll_cons r2
  obtain ⟨v4, vs4, d4, ds4, p4, q4, rfl, rfl, rfl, h4, r4⟩ := trodAll_cons r3
  obtain ⟨rfl, rfl, rfl⟩ := trodAll_nil r4
  obtain rfl : args = #[v0, v1, v2, v3, v4] := by cases args; simp_all
  obtain ⟨rfl, rfl⟩ := trodVars_none hV
  have k0 := h0
  have lt0 : ∀ x ∈ p0, x.block < W.heap.size := by obtain ⟨m, hm⟩ := k0; exact DataW.trod_lt m _ _ _ hm
  obtain ⟨x0, w0⟩ := walScan_open0 (hval 0 65 v0 rfl rfl) h0
  have k1 := h1
  have lt1 : ∀ x ∈ p1, x.block < W.heap.size := by obtain ⟨m, hm⟩ := k1; exact DataW.trod_lt m _ _ _ hm
  obtain ⟨a1, rfl, hd1, hp1, w1⟩ := open_int Try.underlying3 (hval 1 3 v1 rfl rfl) h1
  have k2 := h2
  have lt2 : ∀ x ∈ p2, x.block < W.heap.size := by obtain ⟨m, hm⟩ := k2; exact DataW.trod_lt m _ _ _ hm
  obtain ⟨a2, rfl, hd2, hp2, w2⟩ := open_int Try.underlying3 (hval 2 3 v2 rfl rfl) h2
  have k3 := h3
  have lt3 : ∀ x ∈ p3, x.block < W.heap.size := by obtain ⟨m, hm⟩ := k3; exact DataW.trod_lt m _ _ _ hm
  obtain ⟨a3, rfl, hd3, hp3, w3⟩ := open_int Try.underlying5 (hval 3 5 v3 rfl rfl) h3
  have k4 := h4
  have lt4 : ∀ x ∈ p4, x.block < W.heap.size := by obtain ⟨m, hm⟩ := k4; exact DataW.trod_lt m _ _ _ hm
  obtain ⟨l4, w4⟩ := open_bytes Try.underlying30 Try.underlying5 (by kernel_rfl) (hval 4 30 v4 rfl rfl) h4
  clear hA0 hval0
  refine (walScan_walk v0 x0 a1 a2 a3 v4 l4 W w0 w1 w2 w3 w4).mono fun e W' ⟨he, bel⟩ => ?_
  subst he
  exact ⟨_, rfl, _, _, _, [], _, [], hW', trodAll_mk1 (shut_bool Try.underlying4 _), (trodAll_cons_mk (Below.trod laidOut (by kernel_rfl) (of_decide_eq_true (by kernel_rfl)) k0 bel lt0) (trodAll_cons_mk (Below.trod laidOut (by kernel_rfl) (of_decide_eq_true (by kernel_rfl)) k1 bel lt1) (trodAll_cons_mk (Below.trod laidOut (by kernel_rfl) (of_decide_eq_true (by kernel_rfl)) k2 bel lt2) (trodAll_cons_mk (Below.trod laidOut (by kernel_rfl) (of_decide_eq_true (by kernel_rfl)) k3 bel lt3) (trodAll_cons_mk (Below.trod laidOut (by kernel_rfl) (of_decide_eq_true (by kernel_rfl)) k4 bel lt4) trodAll_mk0))))), rfl, bel.frame _, fun h => by cases h⟩
theorem over : Rows.walScanRow.holds Try.pinned (OpenSpec.ofChange Rows.walScanSpec) :=
  OpenClaim.holds_of_wide 11 Try.f11 rfl rfl rfl rfl rfl rfl rfl ⟨rfl, rfl, rfl, rfl, rfl⟩ rfl rfl rfl rfl rfl (by kernel_rfl) Try.func11 (by kernel_rfl)
    (of_decide_eq_true (by kernel_rfl)) (by unfold Func.isWrapper; first | (rw [if_pos (by decide +kernel)]; kernel_rfl) | (rw [if_neg (by decide +kernel)]; exact ⟨rfl, rfl⟩))
    (fun os started H enc _ => lifted os started H enc)
end walScanF
theorem walScan_holds : Rows.WalScanSaid := walScanF.over
#print axioms walScan_holds
end Go.Proofs.Ytankebgpkhcgnaa
