/-
  No claim by itself: the document's EqEntry, EqEntries, EqSnap, EqMsg, told of any. No condition.
-/
import Derived.Test.YtcogmohepcifiaaP8
import Derived.Test.YtcogmohepcifiaaP7
namespace Go.Proofs.Ytcogmohepcifiaa
open Go.ChangeShapes Go.WideShapes Go.ChangeAt Go.RowKit

def eqEnt (a b : Ent) : Bool := (a.i == b.i) && (a.t == b.t) && (a.k == b.k) && decide (a.d = b.d)
theorem eqEnt_iff {a b : Ent} : eqEnt a b = true ↔ a = b := by
  obtain ⟨i, t, k, d⟩ := a
  obtain ⟨i', t', k', d'⟩ := b
  simp [eqEnt, and_assoc]
def eqSnp (a b : Snp) : Bool := (a.i == b.i) && (a.t == b.t) && decide (a.c = b.c) && decide (a.d = b.d)
theorem eqSnp_iff {a b : Snp} : eqSnp a b = true ↔ a = b := by
  obtain ⟨i, t, k, d⟩ := a
  obtain ⟨i', t', k', d'⟩ := b
  simp [eqSnp, and_assoc]
def eqEnts : List Ent → List Ent → Bool
  | [], [] => true
  | a :: l, b :: r => eqEnt a b && eqEnts l r
  | _, _ => false
theorem eqEnts_iff : ∀ {l r : List Ent}, eqEnts l r = true ↔ l = r
  | [], [] => by simp [eqEnts]
  | a :: l, b :: r => by simp [eqEnts, eqEnt_iff, eqEnts_iff (l := l) (r := r)]
  | [], b :: r => by simp [eqEnts]
  | a :: l, [] => by simp [eqEnts]
theorem eqEnts_no {l r : List Ent} (h : l ≠ r) : eqEnts l r = false := Bool.eq_false_iff.2 fun e => h (eqEnts_iff.1 e)
theorem str_eq (a b : ByteArray) : (a.toList == b.toList) = decide (a = b) := by
  by_cases h : a = b
  · subst h; simp
  · rw [decide_eq_false h, beq_eq_false_iff_ne]
    intro e
    apply h
    rw [ByteArray.toList_eq, ByteArray.toList_eq] at e
    exact ByteArray.ext (Array.toList_inj.1 e)

set_option maxRecDepth 100000 in
set_option maxHeartbeats 1000000 in
theorem eq_entryG (a b : Ent) (w : World) : Calls Try.prog 48 #[entAgg a, entAgg b] w fun x w' => x = .returned (.bool (eqEnt a b)) ∧ Below w.heap.size w w' := by
  have hb : ∀ a b, Below w.heap.size w ((w.alloc a).alloc b) := fun a b => ((Below.refl w.heap.size w).alloc (Nat.le_refl _) _).alloc (by simp) _
  have HB := Lib.hid hb
  clear hb
  obtain ⟨i, t, k, d⟩ := a
  obtain ⟨i', t', k', d'⟩ := b
  have hse := str_eq d d'
  have HE : Hid (eqEnt ⟨i, t, k, d⟩ ⟨i', t', k', d'⟩ = ((i == i') && (t == t') && (k == k') && decide (d = d'))) := Lib.hid rfl
  generalize eqEnt ⟨i, t, k, d⟩ ⟨i', t', k', d'⟩ = R at *
  unfold entAgg
  dsimp only
  go_enter Try.func48, Try.ntmps48
  by_cases h1 : i = i'
  case neg =>
    have t1 : (i == i') = false := beq_eq_false_iff_ne.2 h1
    have HR : Hid (R = false) := Lib.hid (by rw [HE.out, t1]; rfl)
    go_wp2_with fail
    go_ret
    rw [HR.out]
    exact ⟨rfl, HB.out _ _⟩
  subst h1
  by_cases h2 : t = t'
  case neg =>
    have t1 : (t == t') = false := beq_eq_false_iff_ne.2 h2
    have HR : Hid (R = false) := Lib.hid (by rw [HE.out, t1]; simp)
    go_wp2_with fail
    go_ret
    rw [HR.out]
    exact ⟨rfl, HB.out _ _⟩
  subst h2
  by_cases h3 : k = k'
  case neg =>
    have t1 : (k == k') = false := beq_eq_false_iff_ne.2 h3
    have HR : Hid (R = false) := Lib.hid (by rw [HE.out, t1]; simp)
    go_wp2_with fail
    go_ret
    rw [HR.out]
    exact ⟨rfl, HB.out _ _⟩
  subst h3
  have HR : Hid (R = decide (d = d')) := Lib.hid (by rw [HE.out]; simp)
  by_cases h4 : d = d'
  · subst h4
    have HR2 : Hid (R = true) := Lib.hid (by rw [HR.out]; simp)
    go_wp2_with fail
    go_ret
    rw [HR2.out]
    exact ⟨rfl, HB.out _ _⟩
  · rw [decide_eq_false h4] at hse
    have HR2 : Hid (R = false) := Lib.hid (by rw [HR.out, decide_eq_false h4])
    go_wp2_with fail
    go_ret
    rw [HR2.out]
    exact ⟨rfl, HB.out _ _⟩

set_option maxRecDepth 100000 in
set_option maxHeartbeats 1000000 in
theorem eq_snapG (a b : Snp) (w : World) : Calls Try.prog 27 #[snpAgg a, snpAgg b] w fun x w' => x = .returned (.bool (eqSnp a b)) ∧ Below w.heap.size w w' := by
  have hb : ∀ a b, Below w.heap.size w ((w.alloc a).alloc b) := fun a b => ((Below.refl w.heap.size w).alloc (Nat.le_refl _) _).alloc (by simp) _
  have HB := Lib.hid hb
  clear hb
  obtain ⟨i, t, k, d⟩ := a
  obtain ⟨i', t', k', d'⟩ := b
  have hse := str_eq d d'
  have hsk := str_eq k k'
  have HE : Hid (eqSnp ⟨i, t, k, d⟩ ⟨i', t', k', d'⟩ = ((i == i') && (t == t') && decide (k = k') && decide (d = d'))) := Lib.hid rfl
  generalize eqSnp ⟨i, t, k, d⟩ ⟨i', t', k', d'⟩ = R at *
  unfold snpAgg
  dsimp only
  go_enter Try.func27, Try.ntmps27
  by_cases h1 : i = i'
  case neg =>
    have t1 : (i == i') = false := beq_eq_false_iff_ne.2 h1
    have HR : Hid (R = false) := Lib.hid (by rw [HE.out, t1]; rfl)
    go_wp2_with fail
    go_ret
    rw [HR.out]
    exact ⟨rfl, HB.out _ _⟩
  subst h1
  by_cases h2 : t = t'
  case neg =>
    have t1 : (t == t') = false := beq_eq_false_iff_ne.2 h2
    have HR : Hid (R = false) := Lib.hid (by rw [HE.out, t1]; simp)
    go_wp2_with fail
    go_ret
    rw [HR.out]
    exact ⟨rfl, HB.out _ _⟩
  subst h2
  by_cases h3 : k = k'
  case neg =>
    rw [decide_eq_false h3] at hsk
    have HR : Hid (R = false) := Lib.hid (by rw [HE.out, decide_eq_false h3]; simp)
    go_wp2_with fail
    go_ret
    rw [HR.out]
    exact ⟨rfl, HB.out _ _⟩
  subst h3
  have HR : Hid (R = decide (d = d')) := Lib.hid (by rw [HE.out]; simp)
  clear hsk
  by_cases h4 : d = d'
  · subst h4
    have HR2 : Hid (R = true) := Lib.hid (by rw [HR.out]; simp)
    go_wp2_with fail
    go_ret
    rw [HR2.out]
    exact ⟨rfl, HB.out _ _⟩
  · rw [decide_eq_false h4] at hse
    have HR2 : Hid (R = false) := Lib.hid (by rw [HR.out, decide_eq_false h4])
    go_wp2_with fail
    go_ret
    rw [HR2.out]
    exact ⟨rfl, HB.out _ _⟩

set_option maxRecDepth 100000 in
set_option maxHeartbeats 1000000 in
theorem eq_entriesG (v1 v2 : Value) (es fs : List Ent) (w : World) (h1 : EntR w v1 es) (h2 : EntR w v2 fs) (hl : es.length ≤ 1000000000000) (_hl2 : fs.length ≤ 1000000000000) :
    Calls Try.prog 30 #[v1, v2] w fun e w' => e = .returned (.bool (eqEnts es fs)) ∧ Below w.heap.size w w' := by
  obtain ⟨a1, cap1, rfl⟩ := h1.slice
  obtain ⟨a2, cap2, rfl⟩ := h2.slice
  have HR1 := Lib.hid h1
  have HR2 := Lib.hid h2
  clear h1 h2
  go_enter Try.func30, Try.ntmps30
  by_cases hll : es.length = fs.length
  case neg =>
    have tl : ((es.length : Int) == (fs.length : Int)) = false := beq_eq_false_iff_ne.2 (by omega)
    have HN : Hid (eqEnts es fs = false) := Lib.hid (eqEnts_no (fun e => hll (by rw [e])))
    go_wp2_with fail
    go_ret
    rw [HN.out]
    exact ⟨rfl, Below.refl _ _⟩
  rw [← hll] at HR2 ⊢
  have HLL := Lib.hid hll
  clear hll
  go_wp2_with fail
  go_loopw [5] (fun i wr => ∃ k : Nat, k ≤ es.length ∧ i = .int .i64 k ∧ Below w.heap.size w wr ∧ Hid (∀ j, j < k → es[j]? = fs[j]?)) (fun i _ => es.length - (intOf i).toNat)
  case atStart => exact ⟨0, by omega, rfl, Below.refl _ _, Lib.hid (fun j hj => by omega)⟩
  case round =>
    obtain ⟨k, hk, rfl, hbel, hsame⟩ := hrel
    by_cases hlt : k < es.length
    · have hlt2 : k < fs.length := by rw [← HLL.out]; exact hlt
      obtain ⟨b1, o1, rfl, hb1, c0, c1, c2, c3⟩ := (HR1.out.below hbel).cells k hlt
      obtain ⟨b2, o2, rfl, hb2, d0, d1, d2, d3⟩ := (HR2.out.below hbel).cells k hlt2
      have HK : Hid ((es[k] = fs[k] → ∀ j, j < k + 1 → es[j]? = fs[j]?) ∧ (es[k] ≠ fs[k] → eqEnts es fs = false)) := Lib.hid ⟨fun h j hj => by
        by_cases e : j = k
        · subst e
          rw [List.getElem?_eq_getElem hlt, List.getElem?_eq_getElem hlt2, h]
        · exact hsame.out j (by omega), fun h => eqEnts_no (fun e => h (by simp only [e]))⟩
      generalize es[k] = e1 at *
      generalize fs[k] = e2 at *
      clear hlt2
      go_upto_region 6 with fail
      go_cut [26] (fun x wx => x = .bool (!eqEnt e1 e2) ∧ Below wr.heap.size wr wx)
      case first =>
        refine wp_region_sw (by rfl) (by kernel_rfl) (fun k => match k with | 8 => some (fun v _ => v = .bool (eqEnt e1 e2)) | _ => none) ?_ (fun vals => ?_)
        · intro k φ hk v w1 w2 h1 h2
          match k, hk with
          | 8, hk => obtain rfl := Option.some.inj hk; exact h1
        iterate 3 ((with_reducible refine sw_pure ?_ (fun K hK => ?_)); (· rfl); go_simp; with_reducible refine hK _ ?_; clear hK K)
        refine sw_at (entAgg e1) rfl rfl (fun wz hz' hH => ?_) (fun K hK => ?_)
        · have g0 := (hz'.cell (p := ⟨b1, o1 + k * 4, none⟩) hb1).trans c0
          have g1 := (hz'.cell (p := ⟨b1, o1 + k * 4 + 1, none⟩) hb1).trans c1
          have g2 := (hz'.cell (p := ⟨b1, o1 + k * 4 + 2, none⟩) hb1).trans c2
          have g3 := (hz'.cell (p := ⟨b1, o1 + k * 4 + 3, none⟩) hb1).trans c3
          unfold entAgg
          go_simp
        go_simp; refine hK _ ?_; clear hK K
        iterate 3 ((with_reducible refine sw_pure ?_ (fun K hK => ?_)); (· rfl); go_simp; with_reducible refine hK _ ?_; clear hK K)
        refine sw_at (entAgg e2) rfl rfl (fun wz hz' hH => ?_) (fun K hK => ?_)
        · have g0 := (hz'.cell (p := ⟨b2, o2 + k * 4, none⟩) hb2).trans d0
          have g1 := (hz'.cell (p := ⟨b2, o2 + k * 4 + 1, none⟩) hb2).trans d1
          have g2 := (hz'.cell (p := ⟨b2, o2 + k * 4 + 2, none⟩) hb2).trans d2
          have g3 := (hz'.cell (p := ⟨b2, o2 + k * 4 + 3, none⟩) hb2).trans d3
          unfold entAgg
          go_simp
        go_simp; refine hK _ ?_; clear hK K
        refine sw_call _ rfl rfl (fun wz hz' hH => ?_) (fun K hK => ?_)
        · go_simp
          go_at_call 48
          refine (eq_entryG e1 e2 _).mono ?_
          rintro x w' ⟨rfl, hb⟩
          exact ⟨_, rfl, rfl, hb⟩
        go_simp; refine hK _ ?_; clear hK K
        refine sw_at (.bool (!eqEnt e1 e2)) rfl rfl (fun wz hz' hH => ?_) (fun K hK => ?_)
        · have h3 := hH _ (List.Mem.head _) rfl
          dsimp only at h3
          rw [h3]
          go_simp
        go_simp; refine hK _ ?_; clear hK K
        refine sw_done (fun wz hz hH => ?_)
        go_wp2_with fail
        go_meet
        exact ⟨rfl, hz⟩
      case rest =>
        obtain ⟨rfl, hz⟩ := hcut
        have hbz := hbel.trans (hz.mono hbel.size)
        clear hz hbel c0 c1 c2 c3 d0 d1 d2 d3
        cases he : eqEnt e1 e2 with
        | false =>
          have HN : Hid (eqEnts es fs = false) := Lib.hid (HK.out.2 (fun e => by rw [eqEnt_iff.2 e] at he; cases he))
          clear he HK hsame
          go_wp2_with fail
          go_ret
          rw [HN.out]
          exact ⟨rfl, hbz⟩
        | true =>
          have HS := Lib.hid (HK.out.1 (eqEnt_iff.1 he))
          clear he HK hsame
          go_wp2_with fail
          go_roundw
          case rel => exact ⟨k + 1, by omega, by go_num, hbz, HS⟩
          case measure => simp [intOf]; omega
    · obtain rfl : k = es.length := by omega
      have HN : Hid (eqEnts es fs = true) := Lib.hid (eqEnts_iff.2 (by
        apply List.ext_getElem?
        intro j
        by_cases hj : j < es.length
        · exact hsame.out j hj
        · rw [List.getElem?_eq_none (by omega), List.getElem?_eq_none (by have := HLL.out; omega)]))
      go_wp2_with fail
      go_ret
      rw [HN.out]
      exact ⟨rfl, hbel⟩

def eqM (a b : Msg) : Bool := (a.k == b.k) && (a.f == b.f) && (a.o == b.o) && (a.t == b.t) && (a.i == b.i) && (a.l == b.l) && (a.c == b.c) && (a.y == b.y) && eqEnts a.es b.es && eqSnp a.s b.s
theorem eqM_iff {a b : Msg} : eqM a b = true ↔ a = b := by
  obtain ⟨k, f, o, t, i, l, c, y, es, s⟩ := a
  obtain ⟨k', f', o', t', i', l', c', y', es', s'⟩ := b
  unfold eqM
  simp only [Bool.and_eq_true, beq_iff_eq, eqEnts_iff, eqSnp_iff, Msg.mk.injEq, and_assoc]

set_option maxRecDepth 100000 in
set_option maxHeartbeats 4000000 in
theorem eq_msgG (v1 v2 : Value) (a b : Msg) (w : World) (h1 : EntR w v1 a.es) (h2 : EntR w v2 b.es) (hl : a.es.length ≤ 1000000000000) (hl2 : b.es.length ≤ 1000000000000) :
    Calls Try.prog 14 #[msgAgg v1 a, msgAgg v2 b] w fun e w' => e = .returned (.bool (eqM a b)) ∧ Below w.heap.size w w' := by
  obtain ⟨a1, cap1, rfl⟩ := h1.slice
  obtain ⟨a2, cap2, rfl⟩ := h2.slice
  have HE : Hid (eqM a b = ((a.k == b.k) && (a.f == b.f) && (a.o == b.o) && (a.t == b.t) && (a.i == b.i) && (a.l == b.l) && (a.c == b.c) && (a.y == b.y) && eqEnts a.es b.es && eqSnp a.s b.s)) := Lib.hid rfl
  obtain ⟨mk, mf, mo, mt, mi, ml, mc, my, es, ⟨si, st, sc, sd⟩⟩ := a
  obtain ⟨mk', mf', mo', mt', mi', ml', mc', my', es', ⟨si', st', sc', sd'⟩⟩ := b
  dsimp only at *
  generalize eqM _ _ = R at *
  have hb := ((Below.refl w.heap.size w).alloc (Nat.le_refl _) (.cells #[.int .i64 mk, .int .i64 mf, .int .i64 mo, .int .i64 mt, .int .i64 mi, .int .i64 ml, .int .i64 mc, .bool my, .slice a1 es.length cap1, .int .i64 si, .int .i64 st, .string sc, .string sd] 30)).alloc (by simp) (.cells #[.int .i64 mk', .int .i64 mf', .int .i64 mo', .int .i64 mt', .int .i64 mi', .int .i64 ml', .int .i64 mc', .bool my', .slice a2 es'.length cap2, .int .i64 si', .int .i64 st', .string sc', .string sd'] 30)
  have hA := msgS_box w (.slice a1 es.length cap1) ⟨mk, mf, mo, mt, mi, ml, mc, my, es, ⟨si, st, sc, sd⟩⟩ 30
  have hB := msgS_box (w.alloc (.cells #[.int .i64 mk, .int .i64 mf, .int .i64 mo, .int .i64 mt, .int .i64 mi, .int .i64 ml, .int .i64 mc, .bool my, .slice a1 es.length cap1, .int .i64 si, .int .i64 st, .string sc, .string sd] 30)) (.slice a2 es'.length cap2) ⟨mk', mf', mo', mt', mi', ml', mc', my', es', ⟨si', st', sc', sd'⟩⟩ 30
  rw [show (w.alloc (.cells #[.int .i64 mk, .int .i64 mf, .int .i64 mo, .int .i64 mt, .int .i64 mi, .int .i64 ml, .int .i64 mc, .bool my, .slice a1 es.length cap1, .int .i64 si, .int .i64 st, .string sc, .string sd] 30)).heap.size = w.heap.size + 1 from by simp] at hB
  dsimp only at hA hB
  have hA := hA.below ((Below.refl _ _).alloc (Nat.le_refl _) (.cells #[.int .i64 mk', .int .i64 mf', .int .i64 mo', .int .i64 mt', .int .i64 mi', .int .i64 ml', .int .i64 mc', .bool my', .slice a2 es'.length cap2, .int .i64 si', .int .i64 st', .string sc', .string sd'] 30))
  have hE1 := h1.below hb
  have hE2 := h2.below hb
  clear h1 h2
  unfold msgAgg
  dsimp only
  go_enter Try.func14, Try.ntmps14
  by_cases h : mk = mk'
  case neg =>
    have t1 : (mk == mk') = false := beq_eq_false_iff_ne.2 h
    have HR : Hid (R = false) := Lib.hid (by rw [HE.out, t1]; simp)
    go_wp2_with fail
    go_ret
    rw [HR.out]
    exact ⟨rfl, hb⟩
  subst h
  by_cases h : mf = mf'
  case neg =>
    have t1 : (mf == mf') = false := beq_eq_false_iff_ne.2 h
    have HR : Hid (R = false) := Lib.hid (by rw [HE.out, t1]; simp)
    go_wp2_with fail
    go_ret
    rw [HR.out]
    exact ⟨rfl, hb⟩
  subst h
  by_cases h : mo = mo'
  case neg =>
    have t1 : (mo == mo') = false := beq_eq_false_iff_ne.2 h
    have HR : Hid (R = false) := Lib.hid (by rw [HE.out, t1]; simp)
    go_wp2_with fail
    go_ret
    rw [HR.out]
    exact ⟨rfl, hb⟩
  subst h
  by_cases h : mt = mt'
  case neg =>
    have t1 : (mt == mt') = false := beq_eq_false_iff_ne.2 h
    have HR : Hid (R = false) := Lib.hid (by rw [HE.out, t1]; simp)
    go_wp2_with fail
    go_ret
    rw [HR.out]
    exact ⟨rfl, hb⟩
  subst h
  by_cases h : mi = mi'
  case neg =>
    have t1 : (mi == mi') = false := beq_eq_false_iff_ne.2 h
    have HR : Hid (R = false) := Lib.hid (by rw [HE.out, t1]; simp)
    go_wp2_with fail
    go_ret
    rw [HR.out]
    exact ⟨rfl, hb⟩
  subst h
  by_cases h : ml = ml'
  case neg =>
    have t1 : (ml == ml') = false := beq_eq_false_iff_ne.2 h
    have HR : Hid (R = false) := Lib.hid (by rw [HE.out, t1]; simp)
    go_wp2_with fail
    go_ret
    rw [HR.out]
    exact ⟨rfl, hb⟩
  subst h
  by_cases h : mc = mc'
  case neg =>
    have t1 : (mc == mc') = false := beq_eq_false_iff_ne.2 h
    have HR : Hid (R = false) := Lib.hid (by rw [HE.out, t1]; simp)
    go_wp2_with fail
    go_ret
    rw [HR.out]
    exact ⟨rfl, hb⟩
  subst h
  by_cases h : my = my'
  case neg =>
    have t1 : (my == my') = false := beq_eq_false_iff_ne.2 h
    have HR : Hid (R = false) := Lib.hid (by rw [HE.out, t1]; simp)
    go_wp2_with fail
    go_ret
    rw [HR.out]
    exact ⟨rfl, hb⟩
  subst h
  have HE2 : Hid (R = (eqEnts es es' && eqSnp ⟨si, st, sc, sd⟩ ⟨si', st', sc', sd'⟩)) := Lib.hid (by rw [HE.out]; simp)
  clear HE
  have ty : (my == my) = true := by cases my <;> rfl
  go_wp2_with fail
  refine (eq_entriesG _ _ es es' _ hE1 hE2 hl hl2).mono ?_
  rintro e w2 ⟨rfl, hb2⟩
  have hbw := hb.trans (hb2.mono hb.size)
  have hA2 := hA.below hb2
  have hB2 := hB.below hb2
  clear hA hB hE1 hE2 hb hb2
  cases he : eqEnts es es' with
  | false =>
    have HR : Hid (R = false) := Lib.hid (by rw [HE2.out, he]; rfl)
    clear he
    go_wp2_with fail
    go_ret
    rw [HR.out]
    exact ⟨rfl, hbw⟩
  | true =>
    have HR : Hid (R = eqSnp ⟨si, st, sc, sd⟩ ⟨si', st', sc', sd'⟩) := Lib.hid (by rw [HE2.out, he]; rfl)
    clear he
    have c9 := hA2.c9
    have c10 := hA2.c10
    have c11 := hA2.c11
    have c12 := hA2.c12
    have d9 := hB2.c9
    have d10 := hB2.c10
    have d11 := hB2.c11
    have d12 := hB2.c12
    dsimp only at c9 c10 c11 c12 d9 d10 d11 d12
    go_wp2_with fail
    refine (eq_snapG ⟨si, st, sc, sd⟩ ⟨si', st', sc', sd'⟩ _).mono ?_
    rintro e w3 ⟨rfl, hb3⟩
    rw [← HR.out]
    go_wp2_with fail
    go_ret
    exact ⟨rfl, hbw.trans (hb3.mono hbw.size)⟩
end Go.Proofs.Ytcogmohepcifiaa
