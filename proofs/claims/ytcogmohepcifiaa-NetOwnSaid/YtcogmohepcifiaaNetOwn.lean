/-
  What was sent is a copy: any entries. No condition.
-/
import Derived.Test.YtcogmohepcifiaaNet4
import Derived.Test.YtcogmohepcifiaaP13
namespace Go.Proofs.Ytcogmohepcifiaa
open Go.ChangeShapes Go.WideShapes Go.ChangeAt Go.RowKit Go.Deep

def netOwn_wit0 : Value := .slice none 0 0
set_option maxRecDepth 100000 in
theorem netOwn_open0 {H : Type} {enc : TypeId × Value → H} {W : World} {base base' : Nat} {r : Reach} {v : Value} {d : DataW H} {ps : List MemPlace}
    (hv : Value.okWide Try.prog W r base' 26 v) (h : DataW.Trod enc Try.prog W base (fun _ => true) true 26 v d ps) : ∃ es : List Ent, EntR W v es ∧ ∀ e ∈ es, e.wf := open_ents hv h

/-- The Term of an entry is turned: the row's own block. -/
theorem EntO.setTerm {w : World} {base : Nat} {v : Value} {es : List Ent} (h : EntO w base v es) (hne : es ≠ []) : ∃ g cap, v = .slice (some ⟨g, 0, none⟩) es.length cap ∧ base ≤ g ∧ g < w.heap.size ∧ (∃ u, w.cell? ⟨g, 1, none⟩ = some u) ∧ (∀ j, w.frozen? ⟨g, j, none⟩ = false) ∧ ∀ u, Keeps [g] w (w.setCell ⟨g, 1, none⟩ u) := by
  have hr := h.r
  rcases h.2 with ⟨_, hx⟩ | ⟨g, cap, cur, rfl, hb, hg, hnc, hcm, hcs, htake⟩
  · exact absurd (List.eq_nil_of_length_eq_zero hx) hne
  · have hlt := (Array.getElem?_eq_some_iff.1 hg).1
    have hpos : 0 < es.length := by cases es with | nil => exact absurd rfl hne | cons _ _ => simp
    obtain ⟨b, off, he, _, c0, c1, _⟩ := hr.cells 0 hpos
    simp only [Option.some.injEq, Addr.mk.injEq] at he
    obtain ⟨rfl, rfl, _⟩ := he
    refine ⟨g, cap, rfl, hb, hlt, ⟨_, by simpa using c1⟩, fun j => ?_, fun u => (Keeps.refl [g] w).setCell (p := ⟨g, 1, none⟩) (.inl (by simp)) u⟩
    unfold World.frozen?
    rw [hg]
    simp

theorem zS_wf : Snp.wf ⟨0, 0, ⟨#[]⟩, ⟨#[]⟩⟩ := ⟨by decide, by decide, Nat.zero_le _, Nat.zero_le _⟩

set_option maxRecDepth 100000 in
set_option maxHeartbeats 8000000 in
theorem netOwn_walk (v0 : Value) (es : List Ent) (w : World) (h0 : EntR w v0 es ∧ ∀ e ∈ es, e.wf) :
    Calls Try.prog 4 #[v0] w fun e w' => e = .returned (.bool true) ∧ Below w.heap.size w w' := by
  obtain ⟨hE, hwf⟩ := h0
  obtain ⟨ea, ec, rfl⟩ := hE.slice
  have hlen := hE.len
  have HCUT := Lib.hid (fun (u : World) (hx : EntR u (.slice ea es.length ec) es) => law_cut' (.slice ea es.length ec) ⟨3, 1, 2, 1099511627776, 0, 0, 0, false, es, ⟨0, 0, ⟨#[]⟩, ⟨#[]⟩⟩⟩ u hx hlen ⟨hwf, zS_wf⟩)
  have HAG : Hid (∀ v (m : Msg), msgAgg v m = .agg #[.int .i64 m.k, .int .i64 m.f, .int .i64 m.o, .int .i64 m.t, .int .i64 m.i, .int .i64 m.l, .int .i64 m.c, .bool m.y, v, .int .i64 m.s.i, .int .i64 m.s.t, .string m.s.c, .string m.s.d]) := Lib.hid (fun _ _ => rfl)
  clear hwf
  go_enter Try.func4, Try.ntmps4
  go_wp2_with fail
  refine (msg_begun _).mono ?_
  rintro e w1 ⟨rfl, hb1⟩
  replace hE := hE.below hb1
  go_wp2_with fail
  refine (HCUT.out _ hE).mono ?_
  rintro e w2 ⟨xa, rfl, ho, hb2⟩
  have hcs := cutM_small ⟨3, 1, 2, 1099511627776, 0, 0, 0, false, es, ⟨0, 0, ⟨#[]⟩, ⟨#[]⟩⟩⟩
  generalize cutM ⟨3, 1, 2, 1099511627776, 0, 0, 0, false, es, ⟨0, 0, ⟨#[]⟩, ⟨#[]⟩⟩⟩ = M at *
  obtain ⟨xaa, xac, rfl⟩ := ho.r.slice
  have hww1 := hb1.size
  replace hb1 := hb1.trans (hb2.mono hb1.size)
  replace ho := ho.rebase hww1
  have hoX : ∀ g, (Value.slice xaa M.es.length xac).ownBlock = some g → g < w2.heap.size := fun g hg => (World.ownsRow.lt ho g hg).2
  clear hb2 hE HCUT
  have hX := msgS_box w2 (.slice xaa M.es.length xac) M 30
  have hbx := (Below.refl w2.heap.size w2).alloc (Nat.le_refl _) (.cells #[.int .i64 M.k, .int .i64 M.f, .int .i64 M.o, .int .i64 M.t, .int .i64 M.i, .int .i64 M.l, .int .i64 M.c, .bool M.y, .slice xaa M.es.length xac, .int .i64 M.s.i, .int .i64 M.s.t, .string M.s.c, .string M.s.d] 30)
  replace ho := ho.below hbx
  replace hb1 := hb1.trans (hbx.mono hb1.size)
  rw [HAG.out]
  clear hbx
  go_upto_region 5 with fail
  generalize w2.alloc _ = w3 at *
  generalize w2.heap.size = X at *
  have c0 := hX.c0
  have c1 := hX.c1
  have c2 := hX.c2
  have c3 := hX.c3
  have c4 := hX.c4
  have c5 := hX.c5
  have c6 := hX.c6
  have c7 := hX.c7
  have c8 := hX.c8
  have c9 := hX.c9
  have c10 := hX.c10
  have c11 := hX.c11
  have c12 := hX.c12
  have HMAY := Lib.hid (fun (u : World) (x : Value) (hx : EntR u x M.es) => ref_mayMsg x M u hx (by omega) (by omega))
  go_wp2_with fail
  refine (HMAY.out _ _ ho.r).mono ?_
  rintro e w4 ⟨rfl, hb4⟩
  replace hX := hX.below hb4
  replace ho := ho.below hb4
  replace hb1 := hb1.trans (hb4.mono hb1.size)
  clear hb4 HMAY c0 c1 c2 c3 c4 c5 c6 c7 c8 c9 c10 c11 c12
  cases hm : mayM M with
  | false =>
    clear hm
    go_wp2_with fail
    go_ret
    exact ⟨rfl, hb1⟩
  | true =>
  have HM := Lib.hid hm
  clear hm
  have c0 := hX.c0
  have c1 := hX.c1
  have c2 := hX.c2
  have c3 := hX.c3
  have c4 := hX.c4
  have c5 := hX.c5
  have c6 := hX.c6
  have c7 := hX.c7
  have c8 := hX.c8
  have c9 := hX.c9
  have c10 := hX.c10
  have c11 := hX.c11
  have c12 := hX.c12
  by_cases hz : M.es.length = 0
  case pos =>
    have tz : ((M.es.length : Int) == 0) = true := by rw [hz]; rfl
    clear hz
    go_wp2_with fail
    go_ret
    exact ⟨rfl, hb1⟩
  have tz : ((M.es.length : Int) == 0) = false := beq_eq_false_iff_ne.2 (by omega)
  have hne : M.es ≠ [] := fun e => hz (by rw [e]; rfl)
  go_wp2_with fail
  refine (net_new _).mono ?_
  rintro e w5 ⟨rfl, hN, hb5⟩
  have hXb := hX.lt
  have hwb := hb1.size
  replace hX := hX.below hb5
  replace ho := ho.below hb5
  replace hb1 := hb1.trans (hb5.mono hb1.size)
  have hNl := hN.lt
  generalize w4.heap.size = b at *
  have hX2 := msgS_box w5 (.slice xaa M.es.length xac) M 30
  have hbx := (Below.refl w5.heap.size w5).alloc (Nat.le_refl _) (.cells #[.int .i64 M.k, .int .i64 M.f, .int .i64 M.o, .int .i64 M.t, .int .i64 M.i, .int .i64 M.l, .int .i64 M.c, .bool M.y, .slice xaa M.es.length xac, .int .i64 M.s.i, .int .i64 M.s.t, .string M.s.c, .string M.s.d] 30)
  have hX5l := hX.lt
  have hw5 := hb1.size
  clear hb5 c0 c1 c2 c3 c4 c5 c6 c7 c8 c9 c10 c11 c12
  have c0 := hX.c0
  have c1 := hX.c1
  have c2 := hX.c2
  have c3 := hX.c3
  have c4 := hX.c4
  have c5 := hX.c5
  have c6 := hX.c6
  have c7 := hX.c7
  have c8 := hX.c8
  have c9 := hX.c9
  have c10 := hX.c10
  have c11 := hX.c11
  have c12 := hX.c12
  replace hX := hX.below hbx
  replace ho := ho.below hbx
  replace hN := hN.below hbx
  replace hb1 := hb1.trans (hbx.mono hb1.size)
  clear hbx
  go_upto_region 9 with fail
  clear c0 c1 c2 c3 c4 c5 c6 c7 c8 c9 c10 c11 c12
  have c8 := hX.c8
  have hXX0 : X < w5.heap.size := hX5l
  have hbX2 : b < w5.heap.size := hNl
  generalize w5.alloc _ = w6 at *
  generalize w5.heap.size = X2 at *
  have x8 := hX2.c8
  have xf := hX2.fr
  have hX2l := hX2.lt
  have hXX : X < X2 := hXX0
  go_wp2_with (at_builtin; refine wpList_append_ents 26 w6.heap.size _ Try.underlying26 info_ent rfl rfl _ _ rfl (EntO.nil w6 w6.heap.size) ho.r rfl rfl (by simp; omega) (Nat.le_refl _) ?_)
  intro v7 w7 ho7 hg7 hk7
  have hb7 := below_of_grown (show w6.grownBy w7 none from hg7)
  replace hX := hX.below hb7
  replace hX2 := hX2.below hb7
  replace ho := ho.below hb7
  replace hN := hN.below hb7
  replace hb1 := hb1.trans (hb7.mono hb1.size)
  obtain ⟨a7, k7, rfl⟩ := ho7.r.slice
  have y8 := hX2.c8
  have yf := hX2.fr
  clear hg7 hk7 x8 xf c8
  go_upto_region 10 with fail
  have hk8 : Keeps [X2] w7 (w7.setCell ⟨X2, 8, none⟩ (.slice a7 M.es.length k7)) := (Keeps.refl [X2] w7).setCell (.inl (by simp)) _
  replace hX2 : MsgS (w7.setCell ⟨X2, 8, none⟩ (.slice a7 M.es.length k7)) X2 (.slice a7 M.es.length k7) M := hX2.setV _ M.es
  replace hX := hX.keeps hk8 (by simp only [List.mem_singleton]; omega)
  replace ho := ho.keepsD hk8 (fun x hx he => by
    simp only [List.mem_singleton] at hx
    have := hoX x he
    omega)
  replace hN := hN.keepsD hk8 (by simp only [List.mem_singleton]; omega) (fun x hx he => by cases he) (fun x hx p hp => by simp at hp)
  replace ho7 := ho7.keeps hk8 (by simp only [List.mem_singleton]; omega)
  replace hb1 := hb1.trans (hk8.below (B := w.heap.size) (fun x hx => by simp only [List.mem_singleton] at hx; omega) hb1.size)
  clear hk8 y8 yf
  have hw6 := hb7.size
  clear hb7
  generalize w7.setCell _ _ = w8 at *
  have c0 := hX2.c0
  have c1 := hX2.c1
  have c2 := hX2.c2
  have c3 := hX2.c3
  have c4 := hX2.c4
  have c5 := hX2.c5
  have c6 := hX2.c6
  have c7 := hX2.c7
  have c8 := hX2.c8
  have c9 := hX2.c9
  have c10 := hX2.c10
  have c11 := hX2.c11
  have c12 := hX2.c12
  go_wp2_with fail
  refine (net_send hN _ M ho7.r (by omega) (by omega) (by simp) (by intro g off n c _ he; cases he)).mono ?_
  rintro e w9 ⟨rfl, lv', ms', hN', hv, hk, hg, hmem⟩
  have hS : sendB [] M = true := by unfold sendB; rw [HM.out]; rfl
  rw [hS] at hv ⊢
  obtain ⟨q, rfl, hq⟩ : ∃ q : VMsg, ms' = [q] ∧ q.2 = M := by
    cases ms' with
    | nil => simp [vms, sentM] at hv
    | cons q l =>
      cases l with
      | nil => exact ⟨q, rfl, by simpa [vms, sentM] using hv⟩
      | cons _ _ => simp [vms, sentM] at hv
  have hgl0 : ∀ g, (Value.slice a7 M.es.length k7).ownBlock = some g → g < w8.heap.size := fun g hg => (World.ownsRow.lt ho7 g hg).2
  have hF : ∀ x ∈ b :: (Value.slice none 0 0).ownBlock.toList, x = b := fun x hx => by simpa [Value.ownBlock] using hx
  have hw8 := hN.lt
  replace hX := hX.keeps hk (fun hx => by have := hF _ hx; omega)
  replace hX2 := hX2.keeps hk (fun hx => by have := hF _ hx; omega)
  replace ho := ho.keepsD hk (fun x hx he => by
    have := hF _ hx
    have := hoX x he
    omega)
  replace ho7 := ho7.keeps hk (fun x hx => by have := hF _ hx; omega)
  replace hb1 := hb1.trans (hk.below (B := w.heap.size) (fun x hx => by have := hF _ hx; omega) hb1.size)
  obtain ⟨g7, c7', hv7, hg7b, hg7l, ⟨u7, hcell7⟩, hfr7, hk7s⟩ := ho7.setTerm hne
  simp only [Value.slice.injEq, true_and] at hv7
  obtain ⟨rfl, rfl⟩ := hv7
  have hgl := hgl0 g7 rfl
  clear hgl0
  have hnb : ∀ g, lv'.ownBlock = some g → w8.heap.size ≤ g := fun g h => (hg g h).elim (fun h => by cases h) id
  have hqb : ∀ g, q.1.ownBlock = some g → w8.heap.size ≤ g := fun g h => (hmem q (by simp)).elim (fun h => by simp at h) (fun h' => h' g h)
  clear hS hv hk hmem hg hN c0 c1 c2 c3 c4 c5 c6 c7 c8 c9 c10 c11 c12
  have c8 := hX2.c8
  have f7 := hfr7 1
  go_upto_region 12 with fail
  have hk9 := hk7s (.int .i64 (-5))
  replace hX := hX.keeps hk9 (by simp only [List.mem_singleton]; omega)
  replace ho := ho.keepsD hk9 (fun x hx he => by
    simp only [List.mem_singleton] at hx
    have := hoX x he
    omega)
  replace hN' := hN'.keepsD hk9 (by simp only [List.mem_singleton]; omega) (fun x hx he => by
    simp only [List.mem_singleton] at hx
    have := hnb x he
    omega) (fun x hx p hp he => by
    simp only [List.mem_singleton] at hx hp
    subst hp
    have := hqb x he
    omega)
  replace hb1 := hb1.trans (hk9.below (B := w.heap.size) (fun x hx => by simp only [List.mem_singleton] at hx; omega) hb1.size)
  clear hk9 hk7s hfr7 f7 hcell7 c8 hX2 ho7
  generalize w9.setCell _ _ = w10 at *
  have hsm : ∀ p ∈ [q], p.2.es.length ≤ 1000000000 := fun p hp => by
    rw [List.mem_singleton.1 hp, hq]
    omega
  go_wp2_with fail
  refine (net_look hN' 0 hsm).mono ?_
  rintro e w11 ⟨hb11, hcase⟩
  obtain ⟨yv, rfl, hy⟩ : ∃ yv, e = .returned (.tuple #[msgAgg yv M, .bool true]) ∧ EntO w11 w10.heap.size yv M.es := by
    rcases hcase with ⟨k, hk, hk0, v, he, ho⟩ | ⟨hi, _⟩
    · obtain rfl : k = 0 := by omega
      rw [show ([q] : List VMsg)[0].2 = M from hq] at he ho
      exact ⟨v, he, ho⟩
    · simp at hi
  have hen := hN'.ends
  replace hX := hX.below hb11
  replace ho := ho.below hb11
  replace hN' := hN'.below hb11
  have hw10 := hb11.size
  replace hb1 := hb1.trans (hb11.mono hb1.size)
  obtain ⟨ya, yc, rfl⟩ := hy.r.slice
  have hX3 := msgS_box w11 (.slice ya M.es.length yc) M 30
  have hbx := (Below.refl w11.heap.size w11).alloc (Nat.le_refl _) (.cells #[.int .i64 M.k, .int .i64 M.f, .int .i64 M.o, .int .i64 M.t, .int .i64 M.i, .int .i64 M.l, .int .i64 M.c, .bool M.y, .slice ya M.es.length yc, .int .i64 M.s.i, .int .i64 M.s.t, .string M.s.c, .string M.s.d] 30)
  replace hX := hX.below hbx
  replace ho := ho.below hbx
  replace hN' := hN'.below hbx
  replace hy := hy.below hbx
  replace hb1 := hb1.trans (hbx.mono hb1.size)
  rw [HAG.out]
  have hX3l : w10.heap.size ≤ w11.heap.size := hw10
  clear hbx hb11 hcase
  go_upto_region 13 with fail
  generalize w11.alloc _ = w12 at *
  generalize w11.heap.size = X3 at *
  have c0 := hX.c0
  have c1 := hX.c1
  have c2 := hX.c2
  have c3 := hX.c3
  have c4 := hX.c4
  have c5 := hX.c5
  have c6 := hX.c6
  have c7 := hX.c7
  have c8 := hX.c8
  have c9 := hX.c9
  have c10 := hX.c10
  have c11 := hX.c11
  have c12 := hX.c12
  have d0 := hX3.c0
  have d1 := hX3.c1
  have d2 := hX3.c2
  have d3 := hX3.c3
  have d4 := hX3.c4
  have d5 := hX3.c5
  have d6 := hX3.c6
  have d7 := hX3.c7
  have d8 := hX3.c8
  have d9 := hX3.c9
  have d10 := hX3.c10
  have d11 := hX3.c11
  have d12 := hX3.c12
  have HEQ := Lib.hid (fun (u : World) (x y : Value) (hx : EntR u x M.es) (hy : EntR u y M.es) => eq_msgG x y M M u hx hy (by omega) (by omega))
  go_wp2_with fail
  refine (HEQ.out _ _ _ hy.r ho.r).mono ?_
  rintro e w13 ⟨rfl, hb13⟩
  rw [eqM_iff.2 rfl]
  replace hX := hX.below hb13
  replace hX3 := hX3.below hb13
  replace ho := ho.below hb13
  replace hN' := hN'.below hb13
  replace hy := hy.below hb13
  replace hb1 := hb1.trans (hb13.mono hb1.size)
  clear hb13 c0 c1 c2 c3 c4 c5 c6 c7 c8 c9 c10 c11 c12 d0 d1 d2 d3 d4 d5 d6 d7 d8 d9 d10 d11 d12
  obtain ⟨gy, yc', hvy, hgyb, hgyl, ⟨uy, hcelly⟩, hfry, hkys⟩ := hy.setTerm hne
  simp only [Value.slice.injEq, true_and] at hvy
  obtain ⟨rfl, rfl⟩ := hvy
  have c8 := hX3.c8
  have fy := hfry 1
  have hXl := hX.lt
  go_upto_region 16 with fail
  have hk14 := hkys (.int .i64 (-6))
  have hbig : ∀ x, x < w10.heap.size → x ≠ gy := fun x hx => by omega
  replace hX := hX.keeps hk14 (by simp only [List.mem_singleton]; omega)
  replace ho := ho.keepsD hk14 (fun x hx he => by
    simp only [List.mem_singleton] at hx
    have := hoX x he
    omega)
  replace hN' := hN'.keepsD hk14 (by simp only [List.mem_singleton]; omega) (fun x hx he => by
    simp only [List.mem_singleton] at hx
    have := hen.2.1 x he
    omega) (fun x hx p hp he => by
    simp only [List.mem_singleton] at hx
    have := hen.2.2 p hp x he
    omega)
  replace hb1 := hb1.trans (hk14.below (B := w.heap.size) (fun x hx => by simp only [List.mem_singleton] at hx; omega) hb1.size)
  clear hk14 hkys hfry fy hcelly c8 hX3 hy hen hbig
  generalize w13.setCell _ _ = w14 at *
  go_wp2_with fail
  refine (net_take hN' 0 (by decide) (by decide) (by simp) hsm).mono ?_
  rintro e w15 ⟨lv'', ms'', hN'', hk, hg, hcase⟩
  obtain ⟨zv, rfl, hz'⟩ : ∃ zv, e = .returned (.tuple #[msgAgg zv M, .bool true]) ∧ EntO w15 w14.heap.size zv M.es := by
    rcases hcase with ⟨k, hk, hk0, _, v, he, ho⟩ | ⟨hi, _⟩
    · obtain rfl : k = 0 := by omega
      rw [show ([q] : List VMsg)[0].2 = M from hq] at he ho
      exact ⟨v, he, ho⟩
    · simp at hi
  have hF2 : ∀ x ∈ b :: lv'.ownBlock.toList, b ≤ x := fun x hx => by
    rcases List.mem_cons.1 hx with rfl | hx
    · exact Nat.le_refl _
    · have := hnb x (by simpa using hx)
      omega
  replace hX := hX.keeps hk (fun hx => by have := hF2 _ hx; omega)
  replace ho := ho.keepsD hk (fun x hx he => by
    have := hF2 _ hx
    have := hoX x he
    omega)
  replace hb1 := hb1.trans (hk.below (B := w.heap.size) (fun x hx => by have := hF2 _ hx; omega) hb1.size)
  obtain ⟨za, zc, rfl⟩ := hz'.r.slice
  have hX4 := msgS_box w15 (.slice za M.es.length zc) M 30
  have hbx := (Below.refl w15.heap.size w15).alloc (Nat.le_refl _) (.cells #[.int .i64 M.k, .int .i64 M.f, .int .i64 M.o, .int .i64 M.t, .int .i64 M.i, .int .i64 M.l, .int .i64 M.c, .bool M.y, .slice za M.es.length zc, .int .i64 M.s.i, .int .i64 M.s.t, .string M.s.c, .string M.s.d] 30)
  replace hX := hX.below hbx
  replace ho := ho.below hbx
  replace hz' := hz'.below hbx
  replace hb1 := hb1.trans (hbx.mono hb1.size)
  rw [HAG.out]
  clear hbx hcase hk hg hN'' hF2
  go_upto_region 17 with fail
  generalize w15.alloc _ = w16 at *
  generalize w15.heap.size = X4 at *
  have c0 := hX.c0
  have c1 := hX.c1
  have c2 := hX.c2
  have c3 := hX.c3
  have c4 := hX.c4
  have c5 := hX.c5
  have c6 := hX.c6
  have c7 := hX.c7
  have c8 := hX.c8
  have c9 := hX.c9
  have c10 := hX.c10
  have c11 := hX.c11
  have c12 := hX.c12
  have d0 := hX4.c0
  have d1 := hX4.c1
  have d2 := hX4.c2
  have d3 := hX4.c3
  have d4 := hX4.c4
  have d5 := hX4.c5
  have d6 := hX4.c6
  have d7 := hX4.c7
  have d8 := hX4.c8
  have d9 := hX4.c9
  have d10 := hX4.c10
  have d11 := hX4.c11
  have d12 := hX4.c12
  go_wp2_with fail
  refine (HEQ.out _ _ _ hz'.r ho.r).mono ?_
  rintro e w17 ⟨rfl, hb17⟩
  rw [eqM_iff.2 rfl]
  replace hb1 := hb1.trans (hb17.mono hb1.size)
  go_wp2_with fail
  go_ret
  exact ⟨rfl, hb1⟩
/-! ### From the row to the walk -/
namespace netOwnF
set_option linter.unusedVariables false
theorem own : ownKnob Try.prog.godebug = none := by kernel_rfl
theorem laidOut : laidOutB Try.prog = true := by kernel_rfl
set_option maxRecDepth 100000 in
theorem lifted (os : Os) (started : os.Started) (H : Type) (enc : TypeId × Value → H) :
    ReturnsInHanded {} Try.checked os 4 .any (Rows.netOwnSpec.pre6 enc Try.prog Try.f4 Rows.netOwnRow.domain false) (Rows.netOwnSpec.post enc Try.prog Try.f4 false true false false) := by
  refine returnsInHanded_of_change (C := Try.checked) own started (by kernel_rfl) Try.func4
    (ChangeSpec.witness6 (enc := enc) (C := Try.checked) false ⟨#[], #[netOwn_wit0], []⟩ 8 (by kernel_rfl) (by kernel_rfl) (by kernel_rfl) (by kernel_rfl)) ?_
  intro W base args ds gs before hval0 hW hcnd _
  have hval : ∀ (j : Nat) t v, Try.f4.params[j]? = some t → args[j]? = some v → Value.okWide Try.prog W .any base t v := hval0
  have hW' := hW
  obtain ⟨p, q, hA0, hV, rfl, hfz, hnd⟩ := hW
  have hA : DataW.TrodAll enc Try.prog W 0 (fun _ => true) true Try.f4.params.toList args.toList ds p := hA0
  rw [Try.params4] at hA hval
  obtain ⟨v0, vs0, d0, ds0, p0, q0, hargs, rfl, rfl, h0, r0⟩ := trodAll_cons hA
  obtain ⟨rfl, rfl, rfl⟩ := trodAll_nil r0
  obtain rfl : args = #[v0] := by cases args; simp_all
  obtain ⟨rfl, rfl⟩ := trodVars_none hV
  have k0 := h0
  have lt0 : ∀ x ∈ p0, x.block < W.heap.size := by obtain ⟨m, hm⟩ := k0; exact DataW.trod_lt m _ _ _ hm
  obtain ⟨x0, w0⟩ := netOwn_open0 (hval 0 26 v0 rfl rfl) h0
  clear hA0 hval0
  refine (netOwn_walk v0 x0 W w0).mono fun e W' ⟨he, bel⟩ => ?_
  subst he
  exact ⟨_, rfl, _, _, _, [], _, [], hW', trodAll_mk1 (shut_bool Try.underlying4 _), (trodAll_cons_mk (Below.trod laidOut (by kernel_rfl) (of_decide_eq_true (by kernel_rfl)) k0 bel lt0) trodAll_mk0), rfl, bel.frame _, fun h => by cases h⟩
theorem over : Rows.netOwnRow.holds Try.pinned (OpenSpec.ofChange Rows.netOwnSpec) :=
  OpenClaim.holds_of_wide 4 Try.f4 rfl rfl rfl rfl rfl rfl rfl ⟨rfl, rfl, rfl, rfl, rfl⟩ rfl rfl rfl rfl rfl (by kernel_rfl) Try.func4 (by kernel_rfl)
    (of_decide_eq_true (by kernel_rfl)) (by unfold Func.isWrapper; first | (rw [if_pos (by decide +kernel)]; kernel_rfl) | (rw [if_neg (by decide +kernel)]; exact ⟨rfl, rfl⟩))
    (fun os started H enc _ => lifted os started H enc)
end netOwnF
theorem netOwn_holds : Rows.NetOwnSaid := netOwnF.over
#print axioms netOwn_holds
end Go.Proofs.Ytcogmohepcifiaa
