/-
  No claim by itself: Look, Take. No condition.
-/
import Derived.Test.YtcogmohepcifiaaNet3
namespace Go.Proofs.Ytcogmohepcifiaa
open Go.ChangeShapes Go.WideShapes Go.ChangeAt Go.RowKit

theorem EntO.keepsD {w w' : World} {base : Nat} {v : Value} {es : List Ent} {F : List Nat} (h : EntO w base v es) (hk : Keeps F w w') (hF : ∀ x ∈ F, v.ownBlock ≠ some x) : EntO w' base v es := by
  refine ⟨h.1, ?_⟩
  rcases h.2 with h2 | ⟨g, cap, cur, hv, hg, hh, r⟩
  · exact .inl h2
  · refine .inr ⟨g, cap, cur, hv, hg, ?_, r⟩
    rw [hk.block g (Array.getElem?_eq_some_iff.1 hh).1 (fun hx => hF g hx (by rw [hv]; rfl))]
    exact hh
theorem MRow.keepsD {w w' : World} {base : Nat} {lv : Value} {ms : List VMsg} {F : List Nat} (h : MRow w base lv ms) (hk : Keeps F w w') (h1 : ∀ x ∈ F, lv.ownBlock ≠ some x) (h2 : ∀ x ∈ F, ∀ p ∈ ms, p.1.ownBlock ≠ some x) : MRow w' base lv ms := by
  refine ⟨⟨h.row.1, ?_⟩, fun p hp => (h.ents p hp).keepsD hk (fun x hx => h2 x hx p hp), h.apart⟩
  rcases h.row.2 with h3 | ⟨g, cap, cur, hv, hg, hh, r⟩
  · exact .inl h3
  · refine .inr ⟨g, cap, cur, hv, hg, ?_, r⟩
    rw [hk.block g (Array.getElem?_eq_some_iff.1 hh).1 (fun hx => h1 g hx (by rw [hv]; rfl))]
    exact hh
theorem NetS.keepsD {w w' : World} {b : Nat} {lv : Value} {ms : List VMsg} {F : List Nat} (h : NetS w b lv ms) (hk : Keeps F w w') (hb : b ∉ F) (h1 : ∀ x ∈ F, lv.ownBlock ≠ some x) (h2 : ∀ x ∈ F, ∀ p ∈ ms, p.1.ownBlock ≠ some x) : NetS w' b lv ms :=
  ⟨Nat.lt_of_lt_of_le h.lt hk.size, (hk.cell (p := ⟨b, 0, none⟩) h.lt hb).trans h.c0, fun j => (hk.frozen (p := ⟨b, j, none⟩) h.lt hb).trans (h.fr j), h.m.keepsD hk h1 h2⟩
/-- All blocks of a net lie below the world's end. -/
theorem NetS.ends {w : World} {b : Nat} {lv : Value} {ms : List VMsg} (h : NetS w b lv ms) : b < w.heap.size ∧ (∀ g, lv.ownBlock = some g → g < w.heap.size) ∧ ∀ p ∈ ms, ∀ g, p.1.ownBlock = some g → g < w.heap.size :=
  ⟨h.lt, fun g hg => (World.ownsRow.lt h.m.row g hg).2, fun p hp g hg => (World.ownsRow.lt (h.m.ents p hp) g hg).2⟩

def RetLook (w : World) (ms : List VMsg) (i : Int) (e : Ending) (w' : World) : Prop :=
  Below w.heap.size w w' ∧ ((∃ k : Nat, ∃ hk : k < ms.length, i = k ∧ ∃ v, e = .returned (.tuple #[msgAgg v ms[k].2, .bool true]) ∧ EntO w' w.heap.size v ms[k].2.es) ∨ ((i < 0 ∨ (ms.length : Int) ≤ i) ∧ e = .returned (.tuple #[msgAgg (.slice none 0 0) zM, .bool false])))

set_option maxRecDepth 100000 in
set_option maxHeartbeats 4000000 in
theorem net_look {w : World} {b : Nat} {lv : Value} {ms : List VMsg} (h : NetS w b lv ms) (i : Int) (hsm : ∀ p ∈ ms, p.2.es.length ≤ 1000000000) :
    Calls Try.prog 13 #[.pointer (some ⟨b, 0, none⟩), .int .i64 i] w fun e w' => RetLook w ms i e w' := by
  obtain ⟨la, lc, rfl⟩ := h.m.slice
  have hz := msgS_box w (.slice none 0 0) zM 30
  have hb := (Below.refl w.heap.size w).alloc (Nat.le_refl _) (.cells #[.int .i64 0, .int .i64 0, .int .i64 0, .int .i64 0, .int .i64 0, .int .i64 0, .int .i64 0, .bool false, .slice none 0 0, .int .i64 0, .int .i64 0, .string ⟨#[]⟩, .string ⟨#[]⟩] 30)
  unfold zM at hz
  dsimp only at hz
  replace h := h.below hb
  have HSM := Lib.hid hsm
  clear hsm
  go_enter Try.func13, Try.ntmps13
  by_cases h0 : i < 0
  · have t0 : decide (i < 0) = true := decide_eq_true h0
    go_upto_region 2 with fail
    generalize w.alloc _ = w1 at *
    have HZZ := Lib.hid (hz.setAll (v' := .slice none 0 0) (m' := zM))
    have HF := Lib.hid (hb.trans ((keeps_msgTo w1 w.heap.size (.slice none 0 0) zM).below (B := w.heap.size) (by simp) hb.size))
    have z0 := hz.c0
    have z1 := hz.c1
    have z2 := hz.c2
    have z3 := hz.c3
    have z4 := hz.c4
    have z5 := hz.c5
    have z6 := hz.c6
    have z7 := hz.c7
    have z8 := hz.c8
    have z9 := hz.c9
    have z10 := hz.c10
    have z11 := hz.c11
    have z12 := hz.c12
    have zf := hz.fr
    dsimp only at z0 z1 z2 z3 z4 z5 z6 z7 z9 z10 z11 z12
    clear hz hb h
    go_wp2_with fail
    refine bodyPost_ret (results_cell2 rfl _ _ _ _ _ rfl (load_msg HZZ.out)) rfl ?_
    exact ⟨HF.out, .inr ⟨.inl h0, rfl⟩⟩
  have t0 : decide (i < 0) = false := decide_eq_false h0
  go_wp2_with fail
  generalize w.alloc _ = w1 at *
  refine (net_len h).mono ?_
  rintro e w1' ⟨rfl, rfl⟩
  rename World => w1
  by_cases h1 : (ms.length : Int) ≤ i
  · have t1 : decide ((ms.length : Int) ≤ i) = true := decide_eq_true h1
    have HZZ := Lib.hid (hz.setAll (v' := .slice none 0 0) (m' := zM))
    have HF := Lib.hid (hb.trans ((keeps_msgTo w1 w.heap.size (.slice none 0 0) zM).below (B := w.heap.size) (by simp) hb.size))
    have z0 := hz.c0
    have z1 := hz.c1
    have z2 := hz.c2
    have z3 := hz.c3
    have z4 := hz.c4
    have z5 := hz.c5
    have z6 := hz.c6
    have z7 := hz.c7
    have z8 := hz.c8
    have z9 := hz.c9
    have z10 := hz.c10
    have z11 := hz.c11
    have z12 := hz.c12
    have zf := hz.fr
    dsimp only at z0 z1 z2 z3 z4 z5 z6 z7 z9 z10 z11 z12
    clear hz hb h
    go_wp2_with fail
    refine bodyPost_ret (results_cell2 rfl _ _ _ _ _ rfl (load_msg HZZ.out)) rfl ?_
    exact ⟨HF.out, .inr ⟨.inr h1, rfl⟩⟩
  have t1 : decide ((ms.length : Int) ≤ i) = false := decide_eq_false h1
  obtain ⟨k, rfl⟩ := Int.eq_ofNat_of_zero_le (show 0 ≤ i by omega)
  have hk : k < ms.length := by omega
  obtain ⟨g, rfl, hgb, hglt, hcc⟩ := h.m.cells k hk
  have hent := h.m.ents ms[k] (List.getElem_mem hk)
  have hles := HSM.out ms[k] (List.getElem_mem hk)
  have c0 := h.c0
  obtain ⟨p, hp⟩ : ∃ p, ms[k] = p := ⟨_, rfl⟩
  rw [hp] at hent hles hcc
  have HG := Lib.hid hp
  clear hp
  obtain ⟨pv, m⟩ := p
  have HOWN := Lib.hid (fun (u : World) (x : Value) (hx : EntR u x m.es) => net_own x m u hx hles)
  dsimp only at hent hles
  obtain ⟨pa, pc, rfl⟩ := hent.r.slice
  have r0 := hcc 0 _ rfl
  have r1 := hcc 1 _ rfl
  have r2 := hcc 2 _ rfl
  have r3 := hcc 3 _ rfl
  have r4 := hcc 4 _ rfl
  have r5 := hcc 5 _ rfl
  have r6 := hcc 6 _ rfl
  have r7 := hcc 7 _ rfl
  have r8 := hcc 8 _ rfl
  have r9 := hcc 9 _ rfl
  have r10 := hcc 10 _ rfl
  have r11 := hcc 11 _ rfl
  have r12 := hcc 12 _ rfl
  dsimp only at r0 r1 r2 r3 r4 r5 r6 r7 r8 r9 r10 r11 r12
  rw [Nat.add_zero] at r0
  clear hcc
  have hbl := h.lt
  have HH := Lib.hid h
  clear h
  go_wp2_with fail
  refine (HOWN.out _ _ hent.r).mono ?_
  rintro e w2 ⟨v2, rfl, ho2, hb2⟩
  have hzl := hz.lt
  replace hz := hz.below hb2
  have hbs := hb.size
  have hbw := hb.trans (hb2.mono hb.size)
  obtain ⟨oa, oc, rfl⟩ := ho2.r.slice
  have HZZ := Lib.hid (hz.setAll (v' := .slice oa m.es.length oc) (m' := m))
  have hkk := keeps_msgTo w2 w.heap.size (.slice oa m.es.length oc) m
  have HO := Lib.hid ((ho2.keeps hkk (by simp only [List.mem_singleton]; omega)).rebase hbs)
  have HF := Lib.hid (hbw.trans (hkk.below (B := w.heap.size) (by simp) hbw.size))
  have z0 := hz.c0
  have z1 := hz.c1
  have z2 := hz.c2
  have z3 := hz.c3
  have z4 := hz.c4
  have z5 := hz.c5
  have z6 := hz.c6
  have z7 := hz.c7
  have z8 := hz.c8
  have z9 := hz.c9
  have z10 := hz.c10
  have z11 := hz.c11
  have z12 := hz.c12
  have zf := hz.fr
  dsimp only at z0 z1 z2 z3 z4 z5 z6 z7 z9 z10 z11 z12
  clear hz hb hb2 ho2 hkk hbw r0 r1 r2 r3 r4 r5 r6 r7 r8 r9 r10 r11 r12
  unfold msgAgg
  go_wp2_with fail
  refine bodyPost_ret (results_cell2 rfl _ _ _ _ _ rfl (load_msg HZZ.out)) rfl ?_
  exact ⟨HF.out, .inl ⟨k, hk, rfl, .slice oa m.es.length oc, by rw [HG.out]; rfl, by rw [HG.out]; exact HO.out⟩⟩

def RetTake (w : World) (b : Nat) (lv : Value) (ms : List VMsg) (i : Int) (e : Ending) (w' : World) : Prop :=
  ∃ lv' ms', NetS w' b lv' ms' ∧ Keeps (b :: lv.ownBlock.toList) w w' ∧ (∀ g, lv'.ownBlock = some g → lv.ownBlock = some g) ∧
    ((∃ k : Nat, ∃ hk : k < ms.length, i = k ∧ ms' = ms.eraseIdx k ∧ ∃ v, e = .returned (.tuple #[msgAgg v ms[k].2, .bool true]) ∧ EntO w' w.heap.size v ms[k].2.es) ∨ ((i < 0 ∨ (ms.length : Int) ≤ i) ∧ ms' = ms ∧ e = .returned (.tuple #[msgAgg (.slice none 0 0) zM, .bool false])))

set_option maxRecDepth 100000 in
set_option maxHeartbeats 4000000 in
theorem net_take {w : World} {b : Nat} {lv : Value} {ms : List VMsg} (h : NetS w b lv ms) (i : Int) (hi0 : -9223372036854775808 ≤ i) (hi1 : i ≤ 9223372036854775807) (hn : ms.length ≤ 1000) (hsm : ∀ p ∈ ms, p.2.es.length ≤ 1000000000) :
    Calls Try.prog 15 #[.pointer (some ⟨b, 0, none⟩), .int .i64 i] w fun e w' => RetTake w b lv ms i e w' := by
  have hz := msgS_box w (.slice none 0 0) zM 30
  have hb := (Below.refl w.heap.size w).alloc (Nat.le_refl _) (.cells #[.int .i64 0, .int .i64 0, .int .i64 0, .int .i64 0, .int .i64 0, .int .i64 0, .int .i64 0, .bool false, .slice none 0 0, .int .i64 0, .int .i64 0, .string ⟨#[]⟩, .string ⟨#[]⟩] 30)
  unfold zM at hz
  dsimp only at hz
  have hbl := h.lt
  have hown : ∀ g, lv.ownBlock = some g → g < w.heap.size := fun g hg => (World.ownsRow.lt h.m.row g hg).2
  have hF0 : ∀ x ∈ b :: lv.ownBlock.toList, x < w.heap.size := fun x hx => by
    rcases List.mem_cons.1 hx with rfl | hx
    · exact hbl
    · exact hown x (by simpa using hx)
  have HF0 := Lib.hid hF0
  have HEN := Lib.hid h.ends
  replace h := h.below hb
  clear hF0 hown
  go_enter Try.func15, Try.ntmps15
  go_wp2_with fail
  generalize w.alloc _ = w1 at *
  refine (net_look h i hsm).mono ?_
  rintro e w2 ⟨hb2, hcase⟩
  have hres : ∃ v m ok, e = .returned (.tuple #[msgAgg v m, .bool ok]) ∧ EntO w2 w1.heap.size v m.es ∧ ((ok = true ∧ ∃ k : Nat, ∃ hk : k < ms.length, i = k ∧ ms[k].2 = m) ∨ (ok = false ∧ (i < 0 ∨ (ms.length : Int) ≤ i) ∧ v = .slice none 0 0 ∧ m = zM)) := by
    rcases hcase with ⟨k, hk, hi, v, he, ho⟩ | ⟨hi, he⟩
    · exact ⟨v, _, true, he, ho, .inl ⟨rfl, k, hk, hi, rfl⟩⟩
    · exact ⟨_, zM, false, he, EntO.nil _ _, .inr ⟨rfl, hi, rfl, rfl⟩⟩
  obtain ⟨v, m, ok, rfl, ho, hcase⟩ := hres
  have HC := Lib.hid hcase
  clear hcase
  have hzl := hz.lt
  replace hz := hz.below hb2
  replace h := h.below hb2
  have hbw := hb.trans (hb2.mono hb.size)
  obtain ⟨oa, oc, rfl⟩ := ho.r.slice
  have hX := msgS_box w2 (.slice oa m.es.length oc) m 30
  have hbx := (Below.refl w2.heap.size w2).alloc (Nat.le_refl _) (.cells #[.int .i64 m.k, .int .i64 m.f, .int .i64 m.o, .int .i64 m.t, .int .i64 m.i, .int .i64 m.l, .int .i64 m.c, .bool m.y, .slice oa m.es.length oc, .int .i64 m.s.i, .int .i64 m.s.t, .string m.s.c, .string m.s.d] 30)
  have HAG : Hid (∀ v (m : Msg), msgAgg v m = .agg #[.int .i64 m.k, .int .i64 m.f, .int .i64 m.o, .int .i64 m.t, .int .i64 m.i, .int .i64 m.l, .int .i64 m.c, .bool m.y, v, .int .i64 m.s.i, .int .i64 m.s.t, .string m.s.c, .string m.s.d]) := Lib.hid (fun _ _ => rfl)
  replace hz := hz.below hbx
  replace h := h.below hbx
  replace ho := ho.below hbx
  replace hbw := hbw.trans (hbx.mono hbw.size)
  have hX2 : w.heap.size < w2.heap.size := Nat.lt_of_lt_of_le hzl hb2.size
  rw [HAG.out]
  clear hbx hb hb2
  go_wp2_with fail
  generalize w2.alloc _ = w3 at *
  generalize w2.heap.size = X at *
  refine (net_drop h i hi0 hi1 hn).mono ?_
  rintro e w4 ⟨lv', ms', hN, hk, hg, hdrop⟩
  have hres : ∃ d, e = .returned (.bool d) := by
    rcases hdrop with ⟨_, _, _, he, _⟩ | ⟨_, he, _⟩
    · exact ⟨_, he⟩
    · exact ⟨_, he⟩
  obtain ⟨d, rfl⟩ := hres
  replace hz := hz.keeps hk (fun hx => by have := HF0.out _ hx; omega)
  replace hX := hX.keeps hk (fun hx => by have := HF0.out _ hx; omega)
  have HZZ := Lib.hid (hz.setAll (v' := .slice oa m.es.length oc) (m' := m))
  have hkk := keeps_msgTo w4 w.heap.size (.slice oa m.es.length oc) m
  have HO := Lib.hid (((ho.keeps hk (fun x hx => by have := HF0.out x hx; omega)).keeps hkk (by simp only [List.mem_singleton]; omega)).rebase (Nat.le_of_lt hzl))
  have hmem : ∀ p ∈ ms', p ∈ ms := fun p hp => by
    rcases hdrop with ⟨_, _, _, _, rfl⟩ | ⟨_, _, rfl⟩
    · exact List.mem_of_mem_eraseIdx hp
    · exact hp
  have HN := Lib.hid (hN.keepsD hkk (by simp only [List.mem_singleton]; omega) (fun x hx he => by
    simp only [List.mem_singleton] at hx
    have := HEN.out.2.1 x (hg x he)
    omega) (fun x hx p hp he => by
    simp only [List.mem_singleton] at hx
    have := HEN.out.2.2 p (hmem p hp) x he
    omega))
  have HK := Lib.hid (((Keeps.mono (F := []) (G := b :: lv.ownBlock.toList) (Keeps.of_below hbw) (by simp)).trans hk (fun x hx => .inl hx)).trans hkk (by simp))
  have HG := Lib.hid hg
  have HD := Lib.hid hdrop
  have z0 := hz.c0
  have z1 := hz.c1
  have z2 := hz.c2
  have z3 := hz.c3
  have z4 := hz.c4
  have z5 := hz.c5
  have z6 := hz.c6
  have z7 := hz.c7
  have z8 := hz.c8
  have z9 := hz.c9
  have z10 := hz.c10
  have z11 := hz.c11
  have z12 := hz.c12
  have y0 := hX.c0
  have y1 := hX.c1
  have y2 := hX.c2
  have y3 := hX.c3
  have y4 := hX.c4
  have y5 := hX.c5
  have y6 := hX.c6
  have y7 := hX.c7
  have y8 := hX.c8
  have y9 := hX.c9
  have y10 := hX.c10
  have y11 := hX.c11
  have y12 := hX.c12
  have zf := hz.fr
  dsimp only at z0 z1 z2 z3 z4 z5 z6 z7 z9 z10 z11 z12
  clear hz hX ho hkk hN hk hg hdrop h hbw hmem
  go_wp2_with fail
  refine bodyPost_ret (results_cell2 rfl _ _ _ _ _ rfl (load_msg HZZ.out)) rfl ?_
  refine ⟨lv', ms', HN.out, HK.out, HG.out, ?_⟩
  rcases HC.out with ⟨rfl, k, hk, hi, rfl⟩ | ⟨rfl, hi, hv, rfl⟩
  · refine .inl ⟨k, hk, hi, ?_, _, rfl, HO.out⟩
    rcases HD.out with ⟨k', _, hi', _, he⟩ | ⟨hi', _, _⟩
    · obtain rfl : k' = k := by omega
      exact he
    · omega
  · refine .inr ⟨hi, ?_, ?_⟩
    · rcases HD.out with ⟨k', hk', hi', _, _⟩ | ⟨_, _, he⟩
      · omega
      · exact he
    · rw [hv]
      rfl
end Go.Proofs.Ytcogmohepcifiaa
