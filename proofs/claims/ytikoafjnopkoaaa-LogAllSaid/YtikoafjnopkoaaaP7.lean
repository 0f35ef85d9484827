/-
  No claim by itself: who belongs, as the document tells it: MayConf, Has, Majority. | the document's log, by value: DecodeConf: what it tells. | the document's log, by value: ConfAt, Conf: what they tell. No condition.
-/
import Derived.Test.YtikoafjnopkoaaaP5
import Derived.Test.YtikoafjnopkoaaaP6
namespace Go.Proofs.Ytikoafjnopkoaaa
open Go.ChangeShapes Go.WideShapes Go.ChangeAt Go.RowKit

set_option maxHeartbeats 800000 in
theorem ref_may (v : Value) (l : List Int) (w : World) (h : RI w v l) :
    Calls Try.prog 46 #[v] w fun e w' => e = .returned (.bool (mayC l)) ∧ ∃ n, w' = w.drewN n := by
  obtain ⟨a, cap, rfl, hcap, hcm, hc⟩ := h.open_
  go_enter Try.func46, Try.ntmps46
  go_wp2_with fail
  go_loopw [3] (fun i wr => ∃ k : Nat, k ≤ l.length ∧ i = .int .i64 k ∧ Hid (∀ j, j < k → okAt l j = true) ∧ ∃ n, wr = w.drewN n) (fun i _ => l.length - (intOf i).toNat)
  case atStart => exact ⟨0, by omega, rfl, Lib.hid (by intro j hj; omega), 0, rfl⟩
  case round =>
    obtain ⟨k, hk, rfl, hx, n, rfl⟩ := hrel
    by_cases hlt : k < l.length
    · obtain ⟨b, off, rfl, hbl, hcj⟩ := hc.out k hlt
      have hd : Hid (l.getD k 0 = l[k]) := Lib.hid (by simp [List.getD, hlt])
      have hno := fun h => mayC_no hlt h
      have hso : Hid (okAt l k = true → ∀ j, j < k + 1 → okAt l j = true) := Lib.hid fun h j hj => by
        rcases Nat.lt_succ_iff_lt_or_eq.1 hj with h1 | h1
        · exact hx.out j h1
        · rw [h1]; exact h
      by_cases hk0 : k = 0
      · subst hk0
        have hok : Hid (okAt l 0 = (decide (1 ≤ l[0]) && decide (l[0] ≤ 7))) := Lib.hid (by unfold okAt; rw [hd.out]; simp)
        clear hx hd
        rw [Nat.add_zero] at hcj
        generalize l[0]'hlt = x at hcj hok
        by_cases h1 : x < 1
        · have hm := Lib.hid (hno (by rw [hok.out]; simp; omega))
          clear hno
          go_wp2_with fail
          go_quiet (fail)
          go_wp2_with fail
          go_ret
          exact ⟨by rw [hm.out]; rfl, _, World.drewN_drewN _ _ _⟩
        · have t1 : decide (x < 1) = false := decide_eq_false h1
          by_cases h2 : 7 < x
          · have t2 : decide (7 < x) = true := decide_eq_true h2
            have hm := Lib.hid (hno (by rw [hok.out]; simp; omega))
            clear hno
            go_wp2_with fail
            go_quiet (fail)
            go_wp2_with fail
            go_ret
            exact ⟨by rw [hm.out]; rfl, _, World.drewN_drewN _ _ _⟩
          · have t2 : decide (7 < x) = false := decide_eq_false h2
            have hs := Lib.hid (hso.out (by rw [hok.out]; simp; omega))
            clear hno hso
            go_wp2_with fail
            go_quiet (fail)
            go_wp2_with fail
            go_roundw
            case rel => exact ⟨1, by omega, by go_num, hs, _, rfl⟩
            case measure => simp [intOf]; omega
      · obtain ⟨b', off', hbo, _, hcj'⟩ := hc.out (k - 1) (by omega)
        simp only [Option.some.injEq, Addr.mk.injEq] at hbo
        obtain ⟨rfl, rfl, -⟩ := hbo
        have hd' : Hid (l.getD (k - 1) 0 = l[k - 1]'(by omega)) := Lib.hid (by simp [List.getD, show k - 1 < l.length by omega])
        have hok : Hid (okAt l k = (decide (1 ≤ l[k]) && decide (l[k] ≤ 7) && decide (l[k - 1]'(by omega) < l[k]))) := Lib.hid (by unfold okAt; rw [hd.out, hd'.out, show (k == 0) = false from beq_eq_false_iff_ne.2 hk0, Bool.false_or])
        clear hx hd hd'
        generalize l[k]'hlt = x at hcj hok
        generalize l[k - 1]'(by omega) = y at hcj' hok
        obtain ⟨m, rfl⟩ : ∃ m, k = m + 1 := ⟨k - 1, by omega⟩
        rw [show m + 1 - 1 = m from rfl] at hcj'
        have t4 : decide (0 < (m : Int) + 1) = true := decide_eq_true (by omega)
        by_cases h1 : x < 1
        · have hm := Lib.hid (hno (by rw [hok.out]; simp; omega))
          clear hno
          go_wp2_with fail
          go_quiet (fail)
          go_wp2_with fail
          go_ret
          exact ⟨by rw [hm.out]; rfl, _, World.drewN_drewN _ _ _⟩
        · have t1 : decide (x < 1) = false := decide_eq_false h1
          by_cases h2 : 7 < x
          · have t2 : decide (7 < x) = true := decide_eq_true h2
            have hm := Lib.hid (hno (by rw [hok.out]; simp; omega))
            clear hno
            go_wp2_with fail
            go_quiet (fail)
            go_wp2_with fail
            go_ret
            exact ⟨by rw [hm.out]; rfl, _, World.drewN_drewN _ _ _⟩
          · have t2 : decide (7 < x) = false := decide_eq_false h2
            by_cases h3 : x ≤ y
            · have t3 : decide (x ≤ y) = true := decide_eq_true h3
              have hm := Lib.hid (hno (by rw [hok.out]; simp; omega))
              clear hno
              go_wp2_with fail
              go_quiet (fail)
              go_wp2_with fail
              go_ret
              exact ⟨by rw [hm.out]; rfl, _, World.drewN_drewN _ _ _⟩
            · have t3 : decide (x ≤ y) = false := decide_eq_false h3
              have hs := Lib.hid (hso.out (by rw [hok.out]; simp; omega))
              clear hno hso
              go_wp2_with fail
              go_quiet (fail)
              go_wp2_with fail
              go_roundw
              case rel => exact ⟨m + 1 + 1, by omega, by go_num, hs, _, rfl⟩
              case measure => simp [intOf]; omega
    · have hkl : k = l.length := by omega
      subst hkl
      have hm := Lib.hid (mayC_all hx.out)
      go_wp2_with fail
      go_ret
      exact ⟨by rw [hm.out]; first | rfl | simp, _, rfl⟩

end Go.Proofs.Ytikoafjnopkoaaa
namespace Go.Proofs.Ytikoafjnopkoaaa
open Go.ChangeShapes Go.WideShapes Go.ChangeAt Go.RowKit

set_option maxRecDepth 100000 in
set_option maxHeartbeats 1000000 in
theorem ref_decode (s : ByteArray) (w : World) (hs : s.size ≤ 1000000000) :
    Calls Try.prog 44 #[.string s] w fun e w' => RetConf w s e w' := by
  go_enter Try.func44, Try.ntmps44
  go_wp2_with fail
  go_loopw [4, 5] (fun v i wr => ∃ k : Nat, k ≤ s.size ∧ i = .int .i64 k ∧ RowI wr v (decC (s.data.toList.take k)) ∧ (∀ g, v.ownBlock = some g → w.heap.size ≤ g) ∧ Below w.heap.size w wr) (fun _ i _ => s.size - (intOf i).toNat)
  case atStart => exact ⟨0, by omega, rfl, RowI.nil _, (fun g h => by cases h), Below.refl _ _⟩
  case round =>
    obtain ⟨k, hk, rfl, hr, hg, hbel⟩ := hrel
    have hll : (decC (s.data.toList.take k)).length ≤ 1000000000 := by
      unfold decC
      rw [List.length_map, List.length_take]
      omega
    by_cases hlt : k < s.size
    · have HU := Lib.hid (decC_snoc s k hlt)
      have hc8 := s[k].toNat_lt
      have HG := Lib.hid hg
      have hb := fun x => (Below.refl wr.heap.size wr).alloc (Nat.le_refl _) (.cells #[Value.int .i64 x] 3)
      have hown : ∀ x, Row (wr.alloc (.cells #[Value.int .i64 x] 3)) 3 _ ((decC (s.data.toList.take k)).map (Value.int .i64)) := fun x => RowI.keeps hr (Keeps.of_below (F := []) (hb x)) (by simp)
      have hsrc := fun x : Int => Reads.fresh wr ([x].map (Value.int .i64)) 3 (0, 0) #[.int .i64 x] 1 rfl rfl (by simp)
      have HB := Lib.hid hb
      have HOWN := Lib.hid hown
      have HSRC := Lib.hid hsrc
      clear hr hg hb hown hsrc
      generalize decC (s.data.toList.take k) = Y at *
      go_wp2_with (at_builtin; refine wpList_append_row 62 3 (.int .i64 0) 8 Try.underlying62 info_i64 rfl rfl _ _ rfl (HOWN.out (((s[k]).toNat : Int) - 48)) (HSRC.out (((s[k]).toNat : Int) - 48)) (ints_oneCell [((s[k]).toNat : Int) - 48]) rfl rfl (by simp [maxLen]; omega) (by simp; omega) ?_)
      intro v2 w2 ho hg2 hk2
      have hbz : Below w.heap.size w w2 := (hbel.alloc hbel.size _).grown hg2 (by have := hbel.size; simp; omega) HG.out
      have hoo : RowI w2 v2 (Y ++ [((s[k]).toNat : Int) - 48]) := by unfold RowI; rw [List.map_append]; exact ho
      have hgz : ∀ g, v2.ownBlock = some g → w.heap.size ≤ g := fun g h => (hk2 g h).elim (HG.out g) (fun h => by have := hbel.size; omega)
      clear ho hg2 hk2
      go_wp2_with fail
      go_roundw
      case rel => exact ⟨k + 1, by omega, by go_num, by rw [HU.out]; exact hoo, hgz, hbz⟩
      case measure => simp [intOf]; omega
    · obtain rfl : k = s.size := by omega
      have hri := hr.ri
      rw [List.take_of_length_le (by rw [size_data]; omega)] at hri hr hll
      obtain ⟨a4, n4, c4, rfl⟩ := Row.slice hr
      have HC : Hid (confD s = if mayC (decC s.data.toList) = true then (decC s.data.toList, true) else ([], false)) := Lib.hid rfl
      clear hr hg
      generalize decC s.data.toList = Y at *
      go_wp2_with fail
      refine (ref_may _ Y _ hri).mono ?_
      rintro e w' ⟨rfl, m, rfl⟩
      have hri := RI.drewN m hri
      have hbel := below_drewN hbel m
      cases hm : mayC Y with
      | true =>
        have H1 : Hid (confD s = (Y, true)) := Lib.hid (by rw [HC.out, if_pos hm])
        clear hm HC
        go_wp2_with fail
        go_ret2
        exact ⟨_, by rw [H1.out]; rfl, by rw [H1.out]; exact hri, hbel⟩
      | false =>
        have H1 : Hid (confD s = ([], false)) := Lib.hid (by rw [HC.out, if_neg (by rw [hm]; decide)])
        clear hm HC
        go_wp2_with fail
        go_ret2
        exact ⟨_, by rw [H1.out]; rfl, by rw [H1.out]; exact (RowI.nil _).ri, hbel⟩
end Go.Proofs.Ytikoafjnopkoaaa
namespace Go.Proofs.Ytikoafjnopkoaaa
open Go.ChangeShapes Go.WideShapes Go.ChangeAt Go.RowKit

/-- Entries whose numbers say where they stand. -/
def idxOk (s : Snp) (es : List Ent) : Prop := ∀ k (h : k < es.length), es[k].i = s.i + 1 + k
set_option maxRecDepth 100000 in
set_option maxHeartbeats 4000000 in
theorem ref_confAt {w : World} {s : Snp} {rv : Value} {es : List Ent} (h : RefS w rv es) (hB : LogB s es) (hD : smallD s es) (hI : idxOk s es) :
    Calls Try.prog 41 #[refAgg s rv, .int .i64 (lastP s es)] w fun e w' => RetConfAt w (scanC s es es.length) e w' := by
  have hbx := (Below.refl w.heap.size w).alloc (Nat.le_refl _) (.cells (refCells s rv) 32)
  have hS := logS_box (s := s) h
  obtain ⟨a, cap, rfl⟩ := h.r.slice
  have hs1 := hB.1
  have hs2 := hB.2.1
  have hs3 := hB.2.2
  have HD := Lib.hid hD
  have HII := Lib.hid hI
  have HL : Hid (lastP s es = s.i + (es.length : Nat)) := Lib.hid rfl
  have hbl := hS.lt
  have hcap : es.length ≤ cap := by
    obtain ⟨a', c', hv', h1, h2, _⟩ := h.r
    simp only [Value.slice.injEq] at hv'
    omega
  unfold refAgg
  unfold refCells at hbx hS hbl
  clear h hB hD hI
  generalize lastP s es = L at *
  go_enter Try.func41, Try.ntmps41
  go_wp2_with fail
  generalize w.alloc _ = w1 at *
  have HS := Lib.hid hS
  clear hS
  go_loopw [6] (fun x wr => ∃ j : Nat, j ≤ es.length ∧ x = .int .i64 ((j : Int) - 1) ∧ Hid (scanC s es es.length = scanC s es j) ∧ Below w1.heap.size w1 wr) (fun x _ => (intOf x + 1).toNat)
  case atStart => exact ⟨es.length, by omega, rfl, Lib.hid rfl, Below.refl _ _⟩
  case round =>
    obtain ⟨j, hj, rfl, HC, hbel⟩ := hrel
    have hS := HS.out.below hbel
    have hb0 := hbx.trans (hbel.mono hbx.size)
    cases j with
    | zero =>
      have c2 := hS.c2
      have lb := hS.lt
      have HD2 : Hid (scanC s es es.length = if (confD s.c).2 = true then ((confD s.c).1, s.i) else ([], 0)) := HC
      clear HC
      go_wp2_with fail
      refine (ref_decode s.c _ HD.out.1).mono ?_
      rintro e w3 ⟨v3, rfl, hr3, hb3⟩
      have c0 := (hb3.cell (p := ⟨w.heap.size, 0, none⟩) lb).trans hS.c0
      have hbz := hb0.trans (hb3.mono hb0.size)
      clear c2 hb3 hbel
      cases hc : (confD s.c).2 with
      | true =>
        have H1 : Hid (scanC s es es.length = ((confD s.c).1, s.i)) := Lib.hid (by rw [HD2.out, if_pos hc])
        clear hc HD2
        generalize confD s.c = cd at *
        have hrq := fun n => RI.drewN n hr3
        have HRQ := Lib.hid hrq
        have hbq := fun n => below_drewN hbz n
        have HBQ := Lib.hid hbq
        clear hr3 hrq hbq hS
        go_wp2_with fail
        go_quiet (fail)
        go_wp2_with fail
        go_ret2
        exact ⟨_, by rw [H1.out]; rfl, by rw [H1.out]; exact HRQ.out _, HBQ.out _⟩
      | false =>
        have H1 : Hid (scanC s es es.length = ([], 0)) := Lib.hid (by rw [HD2.out, if_neg (by rw [hc]; decide)])
        clear hc HD2 hr3 hS
        go_wp2_with fail
        go_ret2
        exact ⟨_, by rw [H1.out]; rfl, by rw [H1.out]; exact (RowI.nil _).ri, hbz⟩
    | succ k =>
      have hkl : k < es.length := by omega
      obtain ⟨bL, oL, rfl, hbL, d0, d1, d2, d3⟩ := hS.r.cells k hkl
      have c4 := hS.c4
      have lb := hS.lt
      have hSr := Lib.hid hS.r
      have HE := Lib.hid (HD.out.2 es[k] (List.getElem_mem hkl))
      have HY := Lib.hid (scanC_yes (s := s) hkl)
      have HN := Lib.hid (scanC_no (s := s) hkl)
      have hei := HII.out k hkl
      have hle : s.i + 1 + (k : Int) ≤ L := by have := HL.out; omega
      have hq1 : IntKind.i64.wrap ((k : Int) - 1) = (k : Int) - 1 := IntWalk.i64_in _ (by omega)
      clear hS
      generalize es[k] = e at *
      obtain ⟨ei, et, ek, ed⟩ := e
      dsimp only at d0 d1 d2 d3 HE HY HN hei
      subst hei
      rw [show ((k + 1 : Nat) : Int) - 1 = (k : Int) by omega]
      by_cases hk3 : ek = 3
      · subst hk3
        go_wp2_with fail
        refine (ref_decode ed _ HE.out).mono ?_
        rintro e w3 ⟨v3, rfl, hr3, hb3⟩
        have hbz := hb0.trans (hb3.mono hb0.size)
        have hby := hbel.trans (hb3.mono hbel.size)
        have c4 := (hb3.cell (p := ⟨w.heap.size, 4, none⟩) lb).trans c4
        have d0 := (hb3.cell (p := ⟨bL, oL + k * 4, none⟩) hbL).trans d0
        clear hb3 hbel hb0 d1 d2 d3
        cases hc : (confD ed).2 with
        | true =>
          have H1 : Hid (scanC s es es.length = ((confD ed).1, s.i + 1 + k)) := Lib.hid (by rw [HC.out, HY.out (by unfold isConf; rw [hc]; rfl)])
          clear hc HC HY HN
          generalize confD ed = cd at *
          have hrq := fun n => RI.drewN n hr3
          have HRQ := Lib.hid hrq
          have hbq := fun n => below_drewN hbz n
          have HBQ := Lib.hid hbq
          clear hr3 hrq hbq
          go_wp2_with fail
          go_quiet (fail)
          go_wp2_with fail
          go_ret2
          exact ⟨_, by rw [H1.out]; rfl, by rw [H1.out]; exact HRQ.out _, HBQ.out _⟩
        | false =>
          have H1 : Hid (scanC s es es.length = scanC s es k) := Lib.hid (by rw [HC.out, HN.out (by unfold isConf; rw [hc]; rfl)])
          clear hc HC HY HN hr3
          go_wp2_with fail
          go_roundw
          case rel => exact ⟨k, by omega, rfl, H1, hby⟩
          case measure => simp [intOf]
      · have hkk : (ek == 3) = false := beq_eq_false_iff_ne.2 hk3
        have H1 : Hid (scanC s es es.length = scanC s es k) := Lib.hid (by rw [HC.out, HN.out (by unfold isConf; rw [hkk, Bool.and_false])])
        clear HC HY HN hk3
        go_wp2_with fail
        go_roundw
        case rel => exact ⟨k, by omega, rfl, H1, hbel⟩
        case measure => simp [intOf]

def tup0 (v : Value) : Value := match v with | .tuple a => a.getD 0 undef | _ => undef
set_option maxRecDepth 100000 in
theorem ref_conf {w : World} {s : Snp} {rv : Value} {es : List Ent} (h : RefS w rv es) (hB : LogB s es) (hD : smallD s es) (hI : idxOk s es) :
    Calls Try.prog 37 #[refAgg s rv] w fun e w' => RetConfAt w (scanC s es es.length) e w' := by
  have hbx := (Below.refl w.heap.size w).alloc (Nat.le_refl _) (.cells (refCells s rv) 32)
  have hR := Lib.hid h
  have hB' := Lib.hid hB
  have hD' := Lib.hid hD
  have hI' := Lib.hid hI
  obtain ⟨a, cap, rfl⟩ := h.r.slice
  have HL := Lib.hid fun w => ref_last (w := w) (a := a) (cap := cap) hB
  have hS := logS_box (s := s) h
  unfold refAgg at HL
  unfold refCells at hbx hS
  unfold refAgg
  clear h hB hD hI
  go_enter Try.func37, Try.ntmps37
  go_wp2_with fail
  generalize hw1 : w.alloc _ = w1 at *
  have hbl : w.heap.size < w1.heap.size := hS.lt
  clear hw1
  go_cut [2, 3] (fun x y wx => ∃ v, x = v ∧ y = .int .i64 (scanC s es es.length).2 ∧ RI wx v (scanC s es es.length).1 ∧ Below w1.heap.size w1 wx)
  case first =>
    refine wp_region_sw (by rfl) (by kernel_rfl) (fun k => match k with | 2 => some (fun v _ => v = .int .i64 (lastP s es)) | 3 => some (fun v wx => ∃ u, v = .tuple #[u, .int .i64 (scanC s es es.length).2] ∧ RI wx u (scanC s es es.length).1) | _ => none) ?_ (fun vals => ?_)
    · intro k φ hk v w1 w2 h1 h2
      match k, hk with
      | 2, hk => obtain rfl := Option.some.inj hk; exact h1
      | 3, hk =>
        obtain rfl := Option.some.inj hk
        obtain ⟨u, e, hu⟩ := h1
        exact ⟨u, e, Reads.below hu h2 rfl⟩
    iterate 2
      refine sw_at (refAgg s (.slice a es.length cap)) rfl rfl (fun wz hz hH => ?_) (fun K hK => ?_)
      · have hZ := hS.below hz
        have c0 := hZ.c0
        have c1 := hZ.c1
        have c2 := hZ.c2
        have c3 := hZ.c3
        have c4 := hZ.c4
        clear hZ
        unfold refAgg
        go_simp
      go_simp; refine hK _ ?_; clear hK K
    refine sw_call _ rfl rfl (fun wz hz hH => ?_) (fun K hK => ?_)
    · unfold refAgg
      go_simp
      go_at_call 30
      refine (HL.out _).mono ?_
      rintro e w' ⟨rfl, hb⟩
      exact ⟨_, rfl, rfl, hb⟩
    go_simp; refine hK _ ?_; clear hK K
    refine sw_call _ rfl rfl (fun wz hz hH => ?_) (fun K hK => ?_)
    · have h3 := hH _ (List.Mem.head _) rfl
      dsimp only at h3
      rw [h3]
      have hT := ref_confAt (s := s) (hR.out.below (hbx.trans (hz.mono hbx.size))) hB'.out hD'.out hI'.out
      unfold refAgg at hT ⊢
      go_simp
      go_at_call 41
      refine hT.mono ?_
      rintro e w' ⟨u, rfl, hu, hb⟩
      exact ⟨_, rfl, ⟨u, rfl, hu⟩, hb⟩
    go_simp; refine hK _ ?_; clear hK K
    refine sw_at (tup0 (vals 3)) rfl rfl (fun wz hz hH => ?_) (fun K hK => ?_)
    · obtain ⟨u, h3, -⟩ := hH _ (List.Mem.head _) rfl
      dsimp only at h3
      rw [h3]
      unfold tup0
      go_simp
    go_simp; refine hK _ ?_; clear hK K
    refine sw_at (.int .i64 (scanC s es es.length).2) rfl rfl (fun wz hz hH => ?_) (fun K hK => ?_)
    · obtain ⟨u, h3, -⟩ := hH _ (List.Mem.head _) rfl
      dsimp only at h3
      rw [h3]
      go_simp
    go_simp; refine hK _ ?_; clear hK K
    iterate 2 (refine sw_pure (by rfl) (fun K hK => ?_); go_simp; refine hK _ ?_; clear hK K)
    refine sw_done (fun wz hz hH => ?_)
    obtain ⟨u, h3, hu⟩ := hH _ (List.Mem.head _)
    dsimp only at h3 hu
    have h4 : tup0 (vals 3) = u := by rw [h3]; rfl
    go_wp2_with fail
    go_meet
    exact ⟨_, rfl, rfl, by rw [h4]; exact hu, hz⟩
  case rest =>
    obtain ⟨v, rfl, rfl, hu, hz⟩ := hcut
    go_wp2_with fail
    go_ret2
    exact ⟨_, rfl, hu, hbx.trans (hz.mono hbx.size)⟩
end Go.Proofs.Ytikoafjnopkoaaa
