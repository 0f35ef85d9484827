/-
  Frames one behind the other are told, up to the first that is none: of any bodies and kinds, whatever stands behind. No condition.
-/
import Derived.Test.YtankebgpkhcgnaaFrameB
import Derived.Test.YtankebgpkhcgnaaFrameP2
import Derived.Test.YtankebgpkhcgnaaFrameRef
import Derived.Test.YtankebgpkhcgnaaRowsB
import Derived.Test.YtankebgpkhcgnaaZeros
namespace Go.Proofs.Ytankebgpkhcgnaa
open Go.ChangeShapes Go.WideShapes Go.ChangeAt Go.RowKit

def frameAll_wit0 : Value := .slice none 0 0
set_option maxRecDepth 100000 in
theorem frameAll_open0 {H : Type} {enc : TypeId × Value → H} {W : World} {base base' : Nat} {r : Reach} {v : Value} {d : DataW H} {ps : List MemPlace}
    (hv : Value.okWide Try.prog W r base' 39 v) (h : DataW.Trod enc Try.prog W base (fun _ => true) true 39 v d ps) : ∃ l, BRows W v l :=
  open_rowsB Try.underlying39 Try.underlying30 Try.underlying5 (by kernel_rfl) (by kernel_rfl) hv h

theorem FoundO.shape {w : World} {base : Nat} {v : Value} {rs : List (Int × Value × List UInt8)} (h : FoundO w base v rs) (hr : rs ≠ []) : ∃ g cap, v = .slice (some ⟨g, 0, none⟩) rs.length cap ∧ base ≤ g ∧ g < w.heap.size ∧ rs.length ≤ cap :=
  ownsRow_shape h.1 (fun e => hr (List.eq_nil_of_length_eq_zero e))

theorem found_get (rs : List (Int × Value × List UInt8)) (i : Nat) (hi : i < rs.length) : (rs.flatMap foundCells)[i * 2]? = some (.int .i64 rs[i].1) ∧ (rs.flatMap foundCells)[i * 2 + 1]? = some rs[i].2.1 := by
  induction rs generalizing i with
  | nil => simp at hi
  | cons r rs ih =>
    cases i with
    | zero => simp [foundCells]
    | succ i =>
      have := ih i (by simpa using hi)
      simp only [List.flatMap_cons, List.getElem_cons_succ]
      rw [show (i + 1) * 2 = (i * 2) + 2 by omega, show (i * 2) + 2 + 1 = (i * 2 + 1) + 2 by omega]
      simpa [foundCells] using this

theorem FoundO.cellAt {w : World} {base g n cap : Nat} {rs : List (Int × Value × List UInt8)} (h : FoundO w base (.slice (some ⟨g, 0, none⟩) n cap) rs) (i : Nat) (hi : i < rs.length) :
    w.cell? ⟨g, i * 2, none⟩ = some (.int .i64 rs[i].1) ∧ w.cell? ⟨g, i * 2 + 1, none⟩ = some rs[i].2.1 := by
  have hc := h.1.cells (g := g) rfl
  obtain ⟨h1, h2⟩ := found_get rs i hi
  have e1 := hc _ _ h1
  have e2 := hc _ _ h2
  rw [Addr.add_lit, Nat.zero_add] at e1 e2
  exact ⟨e1, e2⟩

/-- The kind that the law makes of a number. -/
def kindM (x : Int) : Int := wrap64 (1 + (wrap64 (x.tmod 255 + 255)).tmod 255)
theorem kindM_in (x : Int) : 1 ≤ kindM x ∧ kindM x ≤ 255 := by
  have a := Int.lt_tmod_of_pos x (show (0 : Int) < 255 by decide)
  have b := Int.tmod_lt_of_pos x (show (0 : Int) < 255 by decide)
  unfold kindM
  rw [IntWalk.wrap64_in (x.tmod 255 + 255) (by omega), Int.tmod_eq_emod_of_nonneg (by omega), IntWalk.wrap64_in _ (by omega)]
  omega

theorem kindM_raw (x : Int) : IntKind.i64.wrap (1 + (IntKind.i64.wrap (x.tmod 255 + 255)).tmod 255) = kindM x := by simp only [IntKind.wrap_i64, kindM, wrap64]

/-- The frames that the law makes. -/
def mixF (bs : List (Value × List UInt8)) (kl : List Int) : List (Int × List UInt8) := ((bs.zip kl).take 10).map fun p => (kindM p.2, p.1.2.take 100)
theorem mixF_ok (bs : List (Value × List UInt8)) (kl : List Int) : okF (mixF bs kl) := by
  intro f hf
  simp only [mixF, List.mem_map] at hf
  obtain ⟨p, _, rfl⟩ := hf
  have := kindM_in p.2
  refine ⟨this.1, this.2, ?_⟩
  have := List.length_take_le 100 p.1.2
  simp only
  omega
theorem mixF_len (bs : List (Value × List UInt8)) (kl : List Int) : (mixF bs kl).length = min 10 (min bs.length kl.length) := by simp [mixF]
theorem mixF_get (bs : List (Value × List UInt8)) (kl : List Int) (i : Nat) (h : i < (mixF bs kl).length) (h1 : i < bs.length) (h2 : i < kl.length) : (mixF bs kl)[i] = (kindM kl[i], bs[i].2.take 100) := by
  simp [mixF]
theorem sealed_take (fs : List (Int × List UInt8)) (k : Nat) (h : k < fs.length) : sealed (fs.take (k + 1)) = sealed (fs.take k) ++ sealP fs[k].1 fs[k].2 := by
  rw [List.take_succ_eq_append_getElem h, sealed_snoc]
theorem sealed_le (fs : List (Int × List UInt8)) : (sealed fs).length ≤ 4016 * fs.length := by
  induction fs with
  | nil => simp [sealed]
  | cons f fs ih =>
    have e : sealed (f :: fs) = sealP f.1 f.2 ++ sealed fs := rfl
    have := sealP_le f.1 f.2
    rw [e, List.length_append, List.length_cons]
    omega

set_option maxRecDepth 100000 in
set_option maxHeartbeats 4000000 in
theorem frameAll_walk (v0 : Value) (bs : List (Value × List UInt8)) (v1 : Value) (kl : List Int) (v2 : Value) (lr : List UInt8) (w : World) (h0 : BRows w v0 bs) (h1 : Ints .i64 w v1 kl) (h2 : Bytes w v2 lr) :
    Calls Try.prog 7 #[v0, v1, v2] w fun e w' => e = .returned (.bool true) ∧ Below w.heap.size w w' := by
  obtain ⟨h1, hwf⟩ := h1
  have HW := Lib.hid hwf
  clear hwf
  go_enter Try.func7, Try.ntmps7
  go_wp2_with fail
  refine (frame_begun _).mono ?_
  rintro e w1 ⟨rfl, hb1⟩
  have h0 := h0.below hb1
  have h1 := h1.below hb1 rfl
  have h2 := h2.below hb1 rfl
  have H0 := h0
  have H1 := h1
  obtain ⟨⟨a0, c0, hv0, hc0, hm0, hcell0⟩, hbody⟩ := h0
  obtain ⟨a1, c1, hv1, hc1, hm1, hcell1⟩ := h1
  rw [List.length_map] at hv0 hc0 hv1 hc1
  subst hv0 hv1
  have HB := Lib.hid hbody
  have HC0 : Hid (∀ k (h : k < bs.length), ∃ b off, a0 = some ⟨b, off, none⟩ ∧ b < w1.heap.size ∧ w1.cell? ⟨b, off + k, none⟩ = some bs[k].1) := Lib.hid (by
    intro k h
    obtain ⟨b, off, rfl, hcell⟩ := hcell0 (by intro e; rw [List.map_eq_nil_iff] at e; subst e; simp at h)
    have hc := hcell k (by simpa using h)
    rw [List.getElem_map] at hc
    exact ⟨b, off, rfl, World.block_lt_of_cell? w1 _ hc, hc⟩)
  have HC1 : Hid (∀ k (h : k < kl.length), ∃ b off, a1 = some ⟨b, off, none⟩ ∧ b < w1.heap.size ∧ w1.cell? ⟨b, off + k, none⟩ = some (.int .i64 kl[k])) := Lib.hid (by
    intro k h
    obtain ⟨b, off, rfl, hcell⟩ := hcell1 (by intro e; rw [List.map_eq_nil_iff] at e; subst e; simp at h)
    have hc := hcell k (by simpa using h)
    rw [List.getElem_map] at hc
    exact ⟨b, off, rfl, World.block_lt_of_cell? w1 _ hc, hc⟩)
  clear hbody hcell0 hcell1
  obtain ⟨fs, hfs⟩ : ∃ fs, fs = mixF bs kl := ⟨_, rfl⟩
  have HFS := Lib.hid hfs
  have hfl : fs.length = min 10 (min bs.length kl.length) := by rw [hfs, mixF_len]
  have HFL := Lib.hid hfl
  have HG : Hid (∀ i (h : i < fs.length) (h1 : i < bs.length) (h2 : i < kl.length), fs[i] = (kindM kl[i], bs[i].2.take 100)) := Lib.hid (by subst hfs; exact mixF_get bs kl)
  have HOK : Hid (okF fs) := Lib.hid (by rw [hfs]; exact mixF_ok bs kl)
  clear hfs hfl
  go_wp2_with fail
  go_loopw [8, 9, 10] (fun s n i wr => ∃ k : Nat, k ≤ fs.length ∧ n = .int .i64 k ∧ i = .int .i64 k ∧ OwnB wr w1.heap.size 5 s (sealed (fs.take k)) ∧ Below w1.heap.size w1 wr) (fun _ _ i _ => fs.length - (intOf i).toNat)
  case atStart => exact ⟨0, by omega, rfl, rfl, OwnB.nil _ _ _, Below.refl _ _⟩
  case round =>
    obtain ⟨k, hk, rfl, rfl, ho, hbel⟩ := hrel
    by_cases hlt : k < fs.length
    · have hfl := HFL.out
      have q1 : k < bs.length := by omega
      have q2 : k < kl.length := by omega
      have q3 : k < 10 := by omega
      clear hfl
      obtain ⟨b1, off1, rfl, hb1lt, hcA⟩ := HC1.out k q2
      obtain ⟨b0, off0, rfl, hb0lt, hcB⟩ := HC0.out k q1
      rw [← hbel.cell (p := ⟨b1, off1 + k, none⟩) hb1lt] at hcA
      rw [← hbel.cell (p := ⟨b0, off0 + k, none⟩) hb0lt] at hcB
      have hbk := (HB.out bs[k] (List.getElem_mem q1)).below hbel rfl
      have hwk := wf_i64 (HW.out kl[k] (List.getElem_mem q2))
      have hgk := HG.out k hlt q1 q2
      have HGK := Lib.hid hgk
      clear hgk
      generalize kl[k] = x at *
      generalize bs[k] = bk at *
      obtain ⟨bv, bl⟩ := bk
      dsimp only at hbk hcB HGK
      obtain ⟨ab, nb, cb, hbv⟩ : ∃ a n c, bv = .slice a n c := by
        obtain ⟨a, c, h, _⟩ := hbk
        exact ⟨a, _, c, h⟩
      subst hbv
      have hkm := kindM_in x
      have HK : Hid (kindM x = wrap64 (1 + (wrap64 (x.tmod 255 + 255)).tmod 255)) := Lib.hid rfl
      go_wp2_with fail
      rw [← HK.out]
      refine (short_any _ bl 100 _ (by decide) hbk).mono ?_
      rintro e w2 ⟨v3, rfl, hB3, rfl⟩
      clear hbk hcA hcB
      generalize kindM x = kx at *
      generalize bl.take 100 = body at *
      go_wp2_with fail
      refine (ref_seal kx _ body _ (by omega) (by omega) hB3).mono ?_
      rintro e w3 ⟨v4, rfl, ho4, hb4⟩
      have ho5 := ho.below hb4
      have hB4 := ho4.bytes
      have hb5 := hbel.trans (hb4.mono hbel.size)
      have hsl := sealed_le (fs.take k)
      have hkl := List.length_take_le k fs
      have hll := sealP_le kx body
      have HS : Hid (sealed (fs.take (k + 1)) = sealed (fs.take k) ++ sealP kx body) := Lib.hid (by rw [sealed_take fs k hlt, HGK.out])
      clear ho4 ho hb4 hbel hB3
      generalize sealP kx body = X at *
      generalize sealed (fs.take k) = Y at *
      go_wp2_with (at_builtin; refine wpList_append_bytes 30 w1.heap.size 5 Try.underlying30 info_u8 rfl _ _ rfl ho5 hB4 rfl rfl (by omega) hb5.size ?_)
      intro v6 w6 ho6 hg6 hk6
      have hb6 : Below w1.heap.size w1 w6 := hb5.grown hg6 hb5.size (fun k hk => (ho5.lt k hk).1)
      clear ho5 hg6 hk6 hb5 hB4
      go_wp2_with fail
      go_roundw
      case rel => exact ⟨k + 1, by omega, by go_num, by go_num, by rw [HS.out]; exact ho6, hb6⟩
      case measure => simp [intOf]; omega
    · obtain rfl : k = fs.length := by omega
      rw [List.take_length] at ho
      have hsl := sealed_le fs
      have hfl := HFL.out
      have q1 : fs.length ≤ 10 := by omega
      go_upto_region 7 with fail
      go_cut [36] (fun s wx => s = .bool false ∧ wx = wr)
      case first =>
        by_cases p1 : fs.length < bs.length
        · by_cases p2 : fs.length < kl.length
          · have p3 : decide ((fs.length : Int) < 10) = false := decide_eq_false (by omega)
            clear hfl
            go_wp2_with fail
            go_meet
            exact ⟨rfl, rfl⟩
          · clear hfl
            go_wp2_with fail
            go_meet
            exact ⟨rfl, rfl⟩
        · clear hfl
          go_wp2_with fail
          go_meet
          exact ⟨rfl, rfl⟩
      case rest =>
        obtain ⟨rfl, rfl⟩ := hcut
        rename World => w2
        have hAll := Lib.hid (fun r => allP_sealed fs r HOK.out)
        obtain ⟨Y, hY⟩ : ∃ Y, Y = sealed fs := ⟨_, rfl⟩
        rw [← hY] at ho hsl hAll
        obtain ⟨a8, c8, he⟩ := ho.len
        rename Value => s8
        rw [he] at ho ⊢
        clear he hY hlt hk hfl
        have h3 := h2.below hbel rfl
        go_wp2_with fail
        refine (short_fun _ lr 20 _ (by decide) h3).mono ?_
        rintro e w3 ⟨v3, rfl, hF, rfl⟩
        have hR := hF _ h3
        have hrl : (lr.take 20).length ≤ 20 := List.length_take_le _ _
        generalize lr.take 20 = r at *
        clear hF h3
        go_wp2_with (at_builtin; refine wpList_append_bytes 30 w1.heap.size 5 Try.underlying30 info_u8 rfl _ _ rfl ho hR rfl rfl (by omega) hbel.size ?_)
        intro v4 w4 ho4 hg4 hk4
        have hb4 : Below w1.heap.size w1 w4 := hbel.grown hg4 hbel.size (fun k hk => (ho.lt k hk).1)
        have hB4 := ho4.bytes
        clear ho hg4 hk4 hbel hR ho4
        have hBB := hB4
        obtain ⟨a4, c4, rfl, hc4, hm4, -⟩ := hB4
        rw [List.length_append] at *
        go_wp2_with fail
        refine (frame_all _ (Y ++ r) _ hBB (by rw [List.length_append]; omega)).mono ?_
        rintro e w5 ⟨v5, rs, rfl, hF, ht, hb5⟩
        rw [hAll.out] at ht ⊢
        have hB5 := hBB.below hb5 rfl
        have hb6 := hb4.trans (hb5.mono hb4.size)
        obtain ⟨a5, c5, hv5⟩ := hF.slice
        have hrsl : rs.length = fs.length + (allP r).1.length := by have := congrArg List.length ht; rwa [told, List.length_map, List.length_append] at this
        have n1 : ¬ rs.length < fs.length := by omega
        have HT : Hid (∀ k (h : k < fs.length) (h' : k < rs.length), rs[k].1 = fs[k].1 ∧ rs[k].2.2 = fs[k].2) := Lib.hid (by
          intro k h h'
          have e1 : (told rs)[k]? = some (rs[k].1, rs[k].2.2) := by simp [told, List.getElem?_eq_getElem h']
          rw [ht, List.getElem?_append_left h, List.getElem?_eq_getElem h, Option.some.injEq] at e1
          rw [e1]
          exact ⟨rfl, rfl⟩)
        subst hv5
        have HRL := Lib.hid hrsl
        clear hBB hb5 hb4 ht hrsl
        dsimp only
        go_wp2_with fail
        go_loopw [15] (fun i wr => ∃ k : Nat, k ≤ fs.length ∧ i = .int .i64 k ∧ Below w5.heap.size w5 wr) (fun i _ => fs.length - (intOf i).toNat)
        case atStart => exact ⟨0, by omega, rfl, Below.refl _ _⟩
        case round =>
          obtain ⟨k, hk, rfl, hbel⟩ := hrel
          by_cases hlt : k < fs.length
          · have hfl := HFL.out
            have q1 : k < bs.length := by omega
            have q2 : k < kl.length := by omega
            have q4 : k < rs.length := by omega
            clear hfl
            obtain ⟨g, c, hv, hg0, hg1, hgc⟩ := hF.shape (by intro h; rw [h] at q4; simp at q4)
            simp only [Value.slice.injEq, true_and] at hv
            obtain ⟨rfl, rfl⟩ := hv
            obtain ⟨hx1, hx2⟩ := hF.cellAt k q4
            have hxb := (hF.2 rs[k] (List.getElem_mem q4)).1.bytes
            obtain ⟨hr1, hr2⟩ := HT.out k hlt q4
            have hgk := HG.out k hlt q1 q2
            rw [hgk] at hr1 hr2
            rw [hr1] at hx1
            rw [hr2] at hxb
            have hb15 := hb6
            obtain ⟨b1, off1, rfl, hb1lt, hcA⟩ := HC1.out k q2
            obtain ⟨b0, off0, rfl, hb0lt, hcB⟩ := HC0.out k q1
            rw [← hb15.cell (p := ⟨b1, off1 + k, none⟩) hb1lt] at hcA
            rw [← hb15.cell (p := ⟨b0, off0 + k, none⟩) hb0lt] at hcB
            have hbk := (HB.out bs[k] (List.getElem_mem q1)).below hb15 rfl
            have hz0 := hb15.size
            generalize rs[k].2.1 = xv at *
            clear hr1 hr2 hgk
            have hkm := kindM_in kl[k]
            have hwk := wf_i64 (HW.out kl[k] (List.getElem_mem q2))
            generalize kl[k] = x at *
            generalize bs[k] = bk at *
            obtain ⟨bv, bl⟩ := bk
            dsimp only at hbk hcB hxb
            obtain ⟨ab, nb, cb, hbv⟩ : ∃ a n c, bv = .slice a n c := by
              obtain ⟨a, c, h, _⟩ := hbk
              exact ⟨a, _, c, h⟩
            subst hbv
            obtain ⟨ax, nx, cx, hxv⟩ : ∃ a n c, xv = .slice a n c := by
              obtain ⟨a, c, h, _⟩ := hxb
              exact ⟨a, _, c, h⟩
            subst hxv
            have HK : Hid (kindM x = wrap64 (1 + (wrap64 (x.tmod 255 + 255)).tmod 255)) := Lib.hid rfl
            go_upto_region 20 with fail
            rename World => wr
            have hgz : g < w5.heap.size := hg1
            have hbz := hbel.size
            have y0 := (hbel.cell (p := ⟨g, k * 2, none⟩) hg1).trans hx1
            have y1 := (hbel.cell (p := ⟨g, k * 2 + 1, none⟩) hg1).trans hx2
            have y2 := (hbel.cell (p := ⟨b1, off1 + k, none⟩) (by show b1 < _; omega)).trans hcA
            have y3 := (hbel.cell (p := ⟨b0, off0 + k, none⟩) (by show b0 < _; omega)).trans hcB
            have yb := hbk.below hbel rfl
            have yx := hxb.below hbel rfl
            go_cut [106] (fun s wx => s = .bool false ∧ Below wr.heap.size wr wx)
            case first =>
              clear hx1 hx2 hcA hcB hbk hxb
              have lt1 : g < wr.heap.size := by omega
              have lt2 : b1 < wr.heap.size := by omega
              have lt3 : b0 < wr.heap.size := by omega
              refine wp_region_sw (by rfl) (by kernel_rfl) (fun k => match k with | 25 => some (fun v w => Bytes w v (bl.take 100)) | _ => none) ?_ (fun vals => ?_)
              · intro k φ hk v w1 w2 h1 h2
                match k, hk with
                | 25, hk => obtain rfl := Option.some.inj hk; exact h1.below h2 rfl
              iterate 4 (refine sw_pure (by rfl) (fun K hK => ?_); go_simp; refine hK _ ?_; clear hK K)
              refine sw_at (.int .i64 (kindM x)) rfl rfl (fun wz hz hH => ?_) (fun K hK => ?_)
              · have h2 := (hz.cell (p := ⟨g, k * 2, none⟩) lt1).trans y0
                go_simp
              go_simp; refine hK _ ?_; clear hK K
              iterate 3 (refine sw_pure (by rfl) (fun K hK => ?_); go_simp; refine hK _ ?_; clear hK K)
              refine sw_at (.int .i64 x) rfl rfl (fun wz hz hH => ?_) (fun K hK => ?_)
              · have h2 := (hz.cell (p := ⟨b1, off1 + k, none⟩) lt2).trans y2
                go_simp
              go_simp; refine hK _ ?_; clear hK K
              iterate 3 (refine sw_pure (by rfl) (fun K hK => ?_); go_simp; refine hK _ ?_; clear hK K)
              refine sw_at (.int .i64 (kindM x)) rfl rfl (fun wz hz hH => ?_) (fun K hK => ?_)
              · go_simp
                exact kindM_raw x
              go_simp; refine hK _ ?_; clear hK K
              refine sw_at (.bool false) rfl rfl (fun wz hz hH => ?_) (fun K hK => ?_)
              · go_simp
              go_simp; refine hK _ ?_; clear hK K
              iterate 5 (refine sw_pure (by rfl) (fun K hK => ?_); go_simp; refine hK _ ?_; clear hK K)
              refine sw_at (.slice ax nx cx) rfl rfl (fun wz hz hH => ?_) (fun K hK => ?_)
              · have h2 := (hz.cell (p := ⟨g, k * 2 + 1, none⟩) lt1).trans y1
                go_simp
              go_simp; refine hK _ ?_; clear hK K
              refine sw_at (.string ⟨(bl.take 100).toArray⟩) rfl rfl (fun wz hz hH => ?_) (fun K hK => ?_)
              · go_simp
                rw [conv_str (yx.below hz rfl)]
                exact ⟨rfl, rfl⟩
              go_simp; refine hK _ ?_; clear hK K
              iterate 3 (refine sw_pure (by rfl) (fun K hK => ?_); go_simp; refine hK _ ?_; clear hK K)
              refine sw_at (.slice ab nb cb) rfl rfl (fun wz hz hH => ?_) (fun K hK => ?_)
              · have h2 := (hz.cell (p := ⟨b0, off0 + k, none⟩) lt3).trans y3
                go_simp
              go_simp; refine hK _ ?_; clear hK K
              refine sw_call _ rfl rfl (fun wz hz hH => ?_) (fun K hK => ?_)
              · go_simp
                go_at_call 23
                refine (short_any _ bl 100 _ (by decide) (yb.below hz rfl)).mono ?_
                rintro e w' ⟨v, rfl, hv, rfl⟩
                exact ⟨v, rfl, hv, Below.refl _ _⟩
              go_simp; refine hK _ ?_; clear hK K
              refine sw_at (.string ⟨(bl.take 100).toArray⟩) rfl rfl (fun wz hz hH => ?_) (fun K hK => ?_)
              · go_simp
                rw [conv_str (hH _ (List.Mem.head _) rfl)]
                exact ⟨rfl, rfl⟩
              go_simp; refine hK _ ?_; clear hK K
              refine sw_at (.bool false) rfl rfl (fun wz hz hH => ?_) (fun K hK => ?_)
              · go_simp
              go_simp; refine hK _ ?_; clear hK K
              iterate 1 (refine sw_pure (by rfl) (fun K hK => ?_); go_simp; refine hK _ ?_; clear hK K)
              refine sw_done (fun wz hz hH => ?_)
              go_wp2_with fail
              go_meet
              exact ⟨rfl, hz⟩
            case rest =>
              obtain ⟨rfl, hz⟩ := hcut
              have hbel2 := hbel.trans (hz.mono hbel.size)
              clear hz hbel y0 y1 y2 y3 yb yx hx1 hx2 hcA hcB hbk hxb
              go_wp2_with fail
              go_roundw
              case rel => exact ⟨k + 1, by omega, by go_num, hbel2⟩
              case measure => simp [intOf]; omega
          · obtain rfl : k = fs.length := by omega
            have hbz := hb6.trans (hbel.mono hb6.size)
            have hB7 := hB5.below hbel rfl
            have hsub := hB7.sub Y.length r.length (by rw [List.length_append]; omega)
            rw [List.drop_left, List.take_length] at hsub
            have f1 : (openP r).2.2.2 ≠ 0 → (allP r).1.length = 0 ∧ (allP r).2 = 0 := fun h => by rw [allP_no h]; exact ⟨rfl, rfl⟩
            have f2 : (openP r).2.2.2 = 0 → 0 < (allP r).1.length ∧ (openP r).2.2.1 ≤ (allP r).2 ∧ (openP r).2.2.1 ≤ r.length := fun h => by
              have := (openP_ok h).2.1
              rw [allP_yes h]
              simp only [List.length_cons]
              omega
            have hrl2 := HRL.out
            have F1 := Lib.hid f1
            have F2 := Lib.hid f2
            clear f1 f2 HRL
            generalize (allP r).1.length = A1 at *
            generalize (allP r).2 = A2 at *
            have HR2 := Lib.hid hrl2
            clear hrl2 hk hlt hB7 hB5 hF HT
            by_cases hcx : c4 = Y.length
            · subst hcx
              rw [if_pos rfl, Nat.sub_self] at hsub
              obtain rfl : r = [] := List.eq_nil_of_length_eq_zero (by omega)
              clear hc4
              rw [List.length_nil] at hsub
              rw [List.length_nil, Nat.add_zero]
              go_wp2_with fail
              refine (ref_open _ [] _ hsub (by simp)).mono ?_
              rintro e w6 ⟨v6, rfl, hx6, hb6⟩
              have hby := hb1.trans ((hbz.trans (hb6.mono hbz.size)).mono hb1.size)
              generalize openP [] = q at *
              obtain ⟨q1, q2, m, e⟩ := q
              dsimp only at F1 F2 ⊢
              clear hx6 hb6 hsub hbz
              by_cases he : e = 0
              · subst he
                obtain ⟨g1, g2, g3⟩ := F2.out rfl
                have hr2 := HR2.out
                have t0 : fs.length < rs.length := by omega
                have t1 : Y.length + m ≤ Y.length + A2 := by omega
                clear hr2 HR2
                go_wp2_with fail
                go_ret
                exact ⟨rfl, hby⟩
              · obtain ⟨g1, g2⟩ := F1.out he
                subst g1 g2
                have hr2 := HR2.out
                have te : ((e : Int) == 0) = false := by rw [beq_eq_false_iff_ne]; omega
                have te2 : ((e : Int) != 0) = true := by rw [bne, te]; rfl
                clear HR2 n1 F1 F2
                generalize rs.length = N at *
                obtain rfl : N = fs.length := by omega
                have t1 : ¬ fs.length < fs.length := by omega
                clear hr2
                go_wp2_with fail
                go_ret
                exact ⟨rfl, hby⟩
            · rw [if_neg hcx] at hsub
              go_wp2_with fail
              refine (ref_open _ r _ hsub (by omega)).mono ?_
              rintro e w6 ⟨v6, rfl, hx6, hb6⟩
              have hby := hb1.trans ((hbz.trans (hb6.mono hbz.size)).mono hb1.size)
              generalize openP r = q at *
              obtain ⟨q1, q2, m, e⟩ := q
              dsimp only at F1 F2 ⊢
              clear hx6 hb6 hsub hbz
              by_cases he : e = 0
              · subst he
                obtain ⟨g1, g2, g3⟩ := F2.out rfl
                have hr2 := HR2.out
                have t0 : fs.length < rs.length := by omega
                have t1 : Y.length + m ≤ Y.length + A2 := by omega
                clear hr2 HR2
                go_wp2_with fail
                go_ret
                exact ⟨rfl, hby⟩
              · obtain ⟨g1, g2⟩ := F1.out he
                subst g1 g2
                have hr2 := HR2.out
                have te : ((e : Int) == 0) = false := by rw [beq_eq_false_iff_ne]; omega
                have te2 : ((e : Int) != 0) = true := by rw [bne, te]; rfl
                clear HR2 n1 F1 F2
                generalize rs.length = N at *
                obtain rfl : N = fs.length := by omega
                have t1 : ¬ fs.length < fs.length := by omega
                clear hr2
                go_wp2_with fail
                go_ret
                exact ⟨rfl, hby⟩
/-! ### From the row to the walk -/
namespace frameAllF
set_option linter.unusedVariables false
theorem own : ownKnob Try.prog.godebug = none := by kernel_rfl
theorem laidOut : laidOutB Try.prog = true := by kernel_rfl
set_option maxRecDepth 100000 in
theorem lifted (os : Os) (started : os.Started) (H : Type) (enc : TypeId × Value → H) :
    ReturnsInHanded {} Try.checked os 7 .any (Rows.frameAllSpec.pre6 enc Try.prog Try.f7 Rows.frameAllRow.domain false) (Rows.frameAllSpec.post enc Try.prog Try.f7 false true false false) := by
  refine returnsInHanded_of_change (C := Try.checked) own started (by kernel_rfl) Try.func7
    (ChangeSpec.witness6 (enc := enc) (C := Try.checked) false ⟨#[], #[frameAll_wit0, .slice none 0 0, .slice none 0 0], []⟩ 8 (by kernel_rfl) (by kernel_rfl) (by kernel_rfl) (by kernel_rfl)) ?_
  intro W base args ds gs before hval0 hW hcnd _
  have hval : ∀ (j : Nat) t v, Try.f7.params[j]? = some t → args[j]? = some v → Value.okWide Try.prog W .any base t v := hval0
  have hW' := hW
  obtain ⟨p, q, hA0, hV, rfl, hfz, hnd⟩ := hW
  have hA : DataW.TrodAll enc Try.prog W 0 (fun _ => true) true Try.f7.params.toList args.toList ds p := hA0
  rw [Try.params7] at hA hval
  obtain ⟨v0, vs0, d0, ds0, p0, q0, hargs, rfl, rfl, h0, r0⟩ := trodAll_cons hA
  obtain ⟨v1, vs1, d1, ds1, p1, q1, rfl, rfl, rfl, h1, r1⟩ := trodAll_cons r0
  obtain ⟨v2, vs2, d2, ds2, p2, q2, rfl, rfl, rfl, h2, r2⟩ := trodAll_cons r1
  obtain ⟨rfl, rfl, rfl⟩ := trodAll_nil r2
  obtain rfl : args = #[v0, v1, v2] := by cases args; simp_all
  obtain ⟨rfl, rfl⟩ := trodVars_none hV
  have k0 := h0
  have lt0 : ∀ x ∈ p0, x.block < W.heap.size := by obtain ⟨m, hm⟩ := k0; exact DataW.trod_lt m _ _ _ hm
  obtain ⟨x0, w0⟩ := frameAll_open0 (hval 0 39 v0 rfl rfl) h0
  have k1 := h1
  have lt1 : ∀ x ∈ p1, x.block < W.heap.size := by obtain ⟨m, hm⟩ := k1; exact DataW.trod_lt m _ _ _ hm
  obtain ⟨l1, w1⟩ := open_intsR (k := .i64) Try.underlying27 Try.underlying3 (by kernel_rfl) (hval 1 27 v1 rfl rfl) h1
  have k2 := h2
  have lt2 : ∀ x ∈ p2, x.block < W.heap.size := by obtain ⟨m, hm⟩ := k2; exact DataW.trod_lt m _ _ _ hm
  obtain ⟨l2, w2⟩ := open_bytes Try.underlying30 Try.underlying5 (by kernel_rfl) (hval 2 30 v2 rfl rfl) h2
  clear hA0 hval0
  refine (frameAll_walk v0 x0 v1 l1 v2 l2 W w0 w1 w2).mono fun e W' ⟨he, bel⟩ => ?_
  subst he
  exact ⟨_, rfl, _, _, _, [], _, [], hW', trodAll_mk1 (shut_bool Try.underlying4 _), (trodAll_cons_mk (Below.trod laidOut (by kernel_rfl) (of_decide_eq_true (by kernel_rfl)) k0 bel lt0) (trodAll_cons_mk (Below.trod laidOut (by kernel_rfl) (of_decide_eq_true (by kernel_rfl)) k1 bel lt1) (trodAll_cons_mk (Below.trod laidOut (by kernel_rfl) (of_decide_eq_true (by kernel_rfl)) k2 bel lt2) trodAll_mk0))), rfl, bel.frame _, fun h => by cases h⟩
theorem over : Rows.frameAllRow.holds Try.pinned (OpenSpec.ofChange Rows.frameAllSpec) :=
  OpenClaim.holds_of_wide 7 Try.f7 rfl rfl rfl rfl rfl rfl rfl ⟨rfl, rfl, rfl, rfl, rfl⟩ rfl rfl rfl rfl rfl (by kernel_rfl) Try.func7 (by kernel_rfl)
    (of_decide_eq_true (by kernel_rfl)) (by unfold Func.isWrapper; first | (rw [if_pos (by decide +kernel)]; kernel_rfl) | (rw [if_neg (by decide +kernel)]; exact ⟨rfl, rfl⟩))
    (fun os started H enc _ => lifted os started H enc)
end frameAllF
theorem frameAll_holds : Rows.FrameAllSaid := frameAllF.over
#print axioms frameAll_holds
end Go.Proofs.Ytankebgpkhcgnaa
