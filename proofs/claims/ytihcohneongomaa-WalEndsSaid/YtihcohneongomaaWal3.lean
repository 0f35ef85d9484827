/-
  No claim by itself: the reader of a record's parts: a number, a text, whether all went. No condition.
-/
import Derived.Test.YtihcohneongomaaWal2
import Derived.Test.YtihcohneongomaaOwn
namespace Go.Proofs.Ytihcohneongomaa
open Go.ChangeShapes Go.WideShapes Go.ChangeAt Go.RowKit

theorem Bytes.keeps {w w' : World} {v : Value} {l : List UInt8} {F : List Nat} (h : Bytes w v l) (hk : Keeps F w w') (hF : l ≠ [] → ∀ ad n c, v = .slice (some ad) n c → ad.block ∉ F) : Bytes w' v l := by
  obtain ⟨a, cap, hv, h1, h2, h3⟩ := h
  refine ⟨a, cap, hv, h1, h2, fun hne => ?_⟩
  obtain ⟨b, off, ha, hc⟩ := h3 hne
  refine ⟨b, off, ha, fun j hj => ?_⟩
  have hcj := hc j hj
  have hlt : b < w.heap.size := by
    rcases Nat.lt_or_ge b w.heap.size with h | h
    · exact h
    · exfalso
      unfold World.cell? at hcj
      rw [Array.getElem?_eq_none h] at hcj
      simp at hcj
  rw [hk.cell (p := ⟨b, off + j, none⟩) hlt (hF hne ⟨b, off, none⟩ _ _ (by rw [hv, ha]))]
  exact hcj

/-- A reader in a block of its own: what is left, and whether something did not go. -/
structure RdS (w : World) (b : Nat) (v : Value) (s : List UInt8 × Bool) : Prop where
  lt : b < w.heap.size
  c0 : w.cell? ⟨b, 0, none⟩ = some v
  c1 : w.cell? ⟨b, 1, none⟩ = some (.bool s.2)
  fr : ∀ j, w.frozen? ⟨b, j, none⟩ = false
  r : Bytes w v s.1
  ne : s.1 ≠ [] → ∀ ad n c, v = .slice (some ad) n c → ad.block < b
def RetRd (w : World) (b : Nat) (x : Value) (s : List UInt8 × Bool) (e : Ending) (w' : World) : Prop := e = .returned x ∧ (∃ v', RdS w' b v' s) ∧ Keeps [b] w w'

theorem RdS.keeps {w w' : World} {b : Nat} {v : Value} {s : List UInt8 × Bool} {F : List Nat} (h : RdS w b v s) (hk : Keeps F w w') (hF : ∀ x ∈ F, b < x) : RdS w' b v s :=
  have hb : b ∉ F := fun hx => Nat.lt_irrefl _ (hF b hx)
  ⟨Nat.lt_of_lt_of_le h.lt hk.size, (hk.cell (p := ⟨b, 0, none⟩) h.lt hb).trans h.c0, (hk.cell (p := ⟨b, 1, none⟩) h.lt hb).trans h.c1, fun j => (hk.frozen (p := ⟨b, j, none⟩) h.lt hb).trans (h.fr j), h.r.keeps hk (fun hn ad n c hv hx => absurd (hF _ hx) (Nat.not_lt.2 (Nat.le_of_lt (h.ne hn ad n c hv)))), h.ne⟩
theorem RdS.setBad {w : World} {b : Nat} {v : Value} {s : List UInt8 × Bool} (h : RdS w b v s) (x : Bool) : RdS (w.setCell ⟨b, 1, none⟩ (.bool x)) b v (s.1, x) ∧ Keeps [b] w (w.setCell ⟨b, 1, none⟩ (.bool x)) := by
  have hk : Keeps [b] w (w.setCell ⟨b, 1, none⟩ (.bool x)) := (Keeps.refl [b] w).setCell (.inl (by simp)) _
  refine ⟨⟨Nat.lt_of_lt_of_le h.lt hk.size, ?_, World.cell?_setCell_same _ _ _ h.c1, fun j => ?_, h.r.keeps hk (fun hn ad n c hg => by have := h.ne hn ad n c hg; simp; omega), h.ne⟩, hk⟩
  · rw [World.cell?_setCell_other (h := by simp)]; exact h.c0
  · rw [World.frozen?_setCell]; exact h.fr j
theorem RdS.setB {w : World} {b : Nat} {v : Value} {s : List UInt8 × Bool} (h : RdS w b v s) {v' : Value} {l : List UInt8} (hv : Bytes w v' l) (hne : l ≠ [] → ∀ ad n c, v' = .slice (some ad) n c → ad.block < b) :
    RdS (w.setCell ⟨b, 0, none⟩ v') b v' (l, s.2) ∧ Keeps [b] w (w.setCell ⟨b, 0, none⟩ v') := by
  have hk : Keeps [b] w (w.setCell ⟨b, 0, none⟩ v') := (Keeps.refl [b] w).setCell (.inl (by simp)) _
  refine ⟨⟨Nat.lt_of_lt_of_le h.lt hk.size, World.cell?_setCell_same _ _ _ h.c0, ?_, fun j => ?_, hv.keeps hk (fun hn ad n c hg => by have := hne hn ad n c hg; simp; omega), hne⟩, hk⟩
  · rw [World.cell?_setCell_other (h := by simp)]; exact h.c1
  · rw [World.frozen?_setCell]; exact h.fr j

theorem sub_ne {a : Option Addr} {n cap k b : Nat} {l : List UInt8} (hne : l ≠ [] → ∀ ad m c, Value.slice a n cap = .slice (some ad) m c → ad.block < b) {m c : Nat} :
    l.drop k ≠ [] → ∀ ad m' c', Value.slice (if cap = k then a else a.map (·.add k)) m c = .slice (some ad) m' c' → ad.block < b := by
  intro hn ad m' c' hg
  have hl : l ≠ [] := fun e => hn (by rw [e]; exact List.drop_nil)
  simp only [Value.slice.injEq] at hg
  obtain ⟨hg, -, -⟩ := hg
  by_cases hc : cap = k
  · rw [if_pos hc] at hg
    exact hne hl ad n cap (by rw [hg])
  · rw [if_neg hc] at hg
    cases a with
    | none => cases hg
    | some a0 =>
      simp only [Option.map_some, Option.some.injEq] at hg
      have h0 := hne hl a0 n cap rfl
      rw [← hg]
      unfold Addr.add
      split <;> exact h0

set_option maxRecDepth 100000 in
set_option maxHeartbeats 1000000 in
theorem rd_num {w : World} {b : Nat} {v : Value} {s : List UInt8 × Bool} (h : RdS w b v s) : Calls Try.prog 71 #[.pointer (some ⟨b, 0, none⟩)] w fun e w' => RetRd w b (.int .i64 (rdN s).1) (rdN s).2 e w' := by
  obtain ⟨l, bad⟩ := s
  have hr := h.r
  have c0 := h.c0
  have c1 := h.c1
  have fr := h.fr
  have hne := h.ne
  dsimp only at hr c1
  obtain ⟨a, cap, rfl, hcap, hcm, -⟩ := hr
  have hr := h.r
  dsimp only at hr
  have hL := l.length
  cases bad with
  | true =>
    have hset := h.setBad true
    dsimp only at hset
    have HSET := Lib.hid hset
    have hR : rdN (l, true) = ((getN l).1, l, true) := rfl
    have HR := Lib.hid hR
    clear hset hR
    obtain ⟨x, k, e, hg⟩ : ∃ x k e, getN l = (x, k, e) := ⟨_, _, _, rfl⟩
    have c1' := HSET.out.1.c1
    dsimp only at c1'
    have HG := Lib.hid hg
    clear h hne hg
    go_enter Try.func71, Try.ntmps71
    go_wp2_with fail
    refine (num_get _ l _ hr).mono ?_
    rintro e' w' ⟨rfl, rfl⟩
    rw [HG.out]
    unfold getV
    go_wp2_with fail
    go_ret
    rw [HR.out, HG.out]
    exact ⟨rfl, ⟨_, HSET.out.1⟩, HSET.out.2⟩
  | false =>
    rcases getN_any l with hg | ⟨x, k, hg, hx0, hx1, hk0, hkl, -⟩
    · have hset := h.setBad true
      dsimp only at hset
      have HSET := Lib.hid hset
      have c1' := HSET.out.1.c1
      dsimp only at c1'
      have hR : ∃ e : Nat, getN l = (0, 0, e) ∧ ((e : Int) != 0) = true ∧ rdN (l, false) = (0, l, true) := by
        rcases hg with hg | hg <;> exact ⟨_, hg, by decide, by unfold rdN; rw [hg]; rfl⟩
      obtain ⟨e, hg, he, hR⟩ := hR
      have HR := Lib.hid hR
      have HG := Lib.hid hg
      clear hset hR h hne hg
      go_enter Try.func71, Try.ntmps71
      go_wp2_with fail
      refine (num_get _ l _ hr).mono ?_
      rintro e' w' ⟨rfl, rfl⟩
      rw [HG.out]
      unfold getV
      go_wp2_with fail
      go_ret
      rw [HR.out]
      exact ⟨rfl, ⟨_, HSET.out.1⟩, HSET.out.2⟩
    · have hset := h.setBad false
      dsimp only at hset
      have hsub := hset.1.r.sub k (l.length - k) (by dsimp only; omega)
      dsimp only at hsub
      rw [List.take_of_length_le (by rw [List.length_drop]; omega)] at hsub
      have hset2 := hset.1.setB hsub (sub_ne hne)
      dsimp only at hset2
      have hR : rdN (l, false) = (x, l.drop k, false) := by unfold rdN; rw [hg]; rfl
      have HR := Lib.hid hR
      have HG := Lib.hid hg
      clear hR hg hsub
      have HSET := Lib.hid hset
      have c1' := HSET.out.1.c1
      have c0' := HSET.out.1.c0
      have fr' := HSET.out.1.fr
      dsimp only at c1' c0'
      have HSET2 := Lib.hid (And.intro hset2.1 (hset.2.trans hset2.2 (fun x hx => .inl hx)))
      clear hset hset2 h hne
      go_enter Try.func71, Try.ntmps71
      go_wp2_with fail
      refine (num_get _ l _ hr).mono ?_
      rintro e' w' ⟨rfl, rfl⟩
      rw [HG.out]
      unfold getV
      by_cases hck : cap = k
      · rw [if_pos hck] at HSET2
        subst hck
        rw [Nat.sub_self, show l.length - cap = 0 by omega] at HSET2
        go_wp2_with fail
        go_ret
        rw [HR.out]
        exact ⟨rfl, ⟨_, HSET2.out.1⟩, HSET2.out.2⟩
      · rw [if_neg hck] at HSET2
        go_wp2_with fail
        go_ret
        rw [HR.out]
        exact ⟨rfl, ⟨_, HSET2.out.1⟩, HSET2.out.2⟩
theorem getT_any (l : List UInt8) : (getT l = ([], 0, 1) ∨ getT l = ([], 0, 2)) ∨ ∃ t k, getT l = (t, k, 0) ∧ 0 < k ∧ k ≤ l.length ∧ t.length ≤ 1048576 := by
  rcases getN_any l with (h | h) | ⟨x, k, h, hx0, hx1, hk0, hkl, -⟩
  · left; left; simp [getT, h]
  · left; right; simp [getT, h]
  · unfold getT
    rw [h]
    simp only []
    by_cases c1 : x < 0 ∨ 1048576 < x
    · left; left; rw [if_neg (by decide), if_pos c1]
    · by_cases c2 : (l.length : Int) - (k : Nat) < x
      · left; right; rw [if_neg (by decide), if_neg c1, if_pos c2]
      · right
        rw [if_neg (by decide), if_neg c1, if_neg c2]
        exact ⟨_, _, rfl, by omega, by omega, by rw [List.length_take]; omega⟩

set_option maxRecDepth 100000 in
set_option maxHeartbeats 1000000 in
theorem rd_text {w : World} {b : Nat} {v : Value} {s : List UInt8 × Bool} (h : RdS w b v s) : Calls Try.prog 72 #[.pointer (some ⟨b, 0, none⟩)] w fun e w' => RetRd w b (.string ⟨(rdT s).1.toArray⟩) (rdT s).2 e w' := by
  obtain ⟨l, bad⟩ := s
  have hr := h.r
  have c0 := h.c0
  have c1 := h.c1
  have fr := h.fr
  have hne := h.ne
  dsimp only at hr c1
  obtain ⟨a, cap, rfl, hcap, hcm, -⟩ := hr
  have hr := h.r
  dsimp only at hr
  have hL := l.length
  cases bad with
  | true =>
    have hset := h.setBad true
    dsimp only at hset
    have HSET := Lib.hid hset
    have hR : rdT (l, true) = ((getT l).1, l, true) := rfl
    have HR := Lib.hid hR
    clear hset hR
    obtain ⟨x, k, e, hg⟩ : ∃ x k e, getT l = (x, k, e) := ⟨_, _, _, rfl⟩
    have c1' := HSET.out.1.c1
    dsimp only at c1'
    have HG := Lib.hid hg
    clear h hne hg
    go_enter Try.func72, Try.ntmps72
    go_wp2_with fail
    refine (num_getText _ l _ hr).mono ?_
    rintro e' w' ⟨rfl, rfl⟩
    rw [HG.out]
    unfold getTV
    go_wp2_with fail
    go_ret
    rw [HR.out, HG.out]
    exact ⟨rfl, ⟨_, HSET.out.1⟩, HSET.out.2⟩
  | false =>
    rcases getT_any l with hg | ⟨x, k, hg, hk0, hkl, -⟩
    · have hset := h.setBad true
      dsimp only at hset
      have HSET := Lib.hid hset
      have c1' := HSET.out.1.c1
      dsimp only at c1'
      have hR : ∃ e : Nat, getT l = ([], 0, e) ∧ ((e : Int) != 0) = true ∧ rdT (l, false) = ([], l, true) := by
        rcases hg with hg | hg <;> exact ⟨_, hg, by decide, by unfold rdT; rw [hg]; rfl⟩
      obtain ⟨e, hg, he, hR⟩ := hR
      have HR := Lib.hid hR
      have HG := Lib.hid hg
      clear hset hR h hne hg
      go_enter Try.func72, Try.ntmps72
      go_wp2_with fail
      refine (num_getText _ l _ hr).mono ?_
      rintro e' w' ⟨rfl, rfl⟩
      rw [HG.out]
      unfold getTV
      go_wp2_with fail
      go_ret
      rw [HR.out]
      exact ⟨rfl, ⟨_, HSET.out.1⟩, HSET.out.2⟩
    · have hset := h.setBad false
      dsimp only at hset
      have hsub := hset.1.r.sub k (l.length - k) (by dsimp only; omega)
      dsimp only at hsub
      rw [List.take_of_length_le (by rw [List.length_drop]; omega)] at hsub
      have hset2 := hset.1.setB hsub (sub_ne hne)
      dsimp only at hset2
      have hR : rdT (l, false) = (x, l.drop k, false) := by unfold rdT; rw [hg]; rfl
      have HR := Lib.hid hR
      have HG := Lib.hid hg
      clear hR hg hsub
      have HSET := Lib.hid hset
      have c1' := HSET.out.1.c1
      have c0' := HSET.out.1.c0
      have fr' := HSET.out.1.fr
      dsimp only at c1' c0'
      have HSET2 := Lib.hid (And.intro hset2.1 (hset.2.trans hset2.2 (fun x hx => .inl hx)))
      clear hset hset2 h hne
      go_enter Try.func72, Try.ntmps72
      go_wp2_with fail
      refine (num_getText _ l _ hr).mono ?_
      rintro e' w' ⟨rfl, rfl⟩
      rw [HG.out]
      unfold getTV
      by_cases hck : cap = k
      · rw [if_pos hck] at HSET2
        subst hck
        rw [Nat.sub_self, show l.length - cap = 0 by omega] at HSET2
        go_wp2_with fail
        go_ret
        rw [HR.out]
        exact ⟨rfl, ⟨_, HSET2.out.1⟩, HSET2.out.2⟩
      · rw [if_neg hck] at HSET2
        go_wp2_with fail
        go_ret
        rw [HR.out]
        exact ⟨rfl, ⟨_, HSET2.out.1⟩, HSET2.out.2⟩

theorem rd_done {w : World} {b : Nat} {v : Value} {s : List UInt8 × Bool} (h : RdS w b v s) : Calls Try.prog 73 #[.pointer (some ⟨b, 0, none⟩)] w fun e w' => e = .returned (.bool (rdD s)) ∧ w' = w := by
  obtain ⟨l, bad⟩ := s
  have hr := h.r
  have c0 := h.c0
  have c1 := h.c1
  dsimp only at hr c1
  obtain ⟨a, cap, rfl, hcap, hcm, -⟩ := hr
  clear h
  cases bad with
  | true =>
    go_enter Try.func73, Try.ntmps73
    go_wp2_with fail
    go_ret
    exact ⟨rfl, rfl⟩
  | false =>
    have hD : rdD (l, false) = decide (l.length = 0) := by unfold rdD; rfl
    have HD := Lib.hid hD
    clear hD
    rcases dec_cases (l.length = 0) with ⟨hz, td⟩ | ⟨hz, td⟩
    · have HT := Lib.hid td
      go_enter Try.func73, Try.ntmps73
      go_wp2_with fail
      go_ret
      rw [HD.out, HT.out]
      exact ⟨rfl, rfl⟩
    · have HT := Lib.hid td
      have t2 : ((l.length : Int) == 0) = false := beq_eq_false_iff_ne.2 (by omega)
      go_enter Try.func73, Try.ntmps73
      go_wp2_with fail
      go_ret
      rw [HD.out, HT.out]
      exact ⟨rfl, rfl⟩
end Go.Proofs.Ytihcohneongomaa
