/-
  No claim by itself: the evaluator: append of bytes of whatever content. | the evaluator: append of symbols. | the evaluator: clear; what a function means. | the evaluator: an operation that leaves the heap alone, whichever it is. No condition.
-/
import Derived.Test.YtpchmdddkpocgaaGreatDoorP5
namespace Go.Proofs.YtpchmdddkpocgaaGreatDoor
set_option linter.unusedVariables false
set_option linter.unusedSimpArgs false
def u8V (b : UInt8) : Value := .int .u8 (b.toNat : Int)
structure SoupV (P : Program) (w : World) (e : TypeId) (v : Value) (l : Loc) (n : Nat) : Prop where
 val : v = .slice (some ⟨l.blk, l.base, none⟩) n l.cap
 le : n ≤ l.cap
 cap : l.cap ≤ 9223372036854775807
 at_ : ∃ sz, w.shape? l.blk = some (e, sz) ∧ l.base + l.cap * P.cellsOf e ≤ sz ∧ (∀ o, o < sz → w.frozen? ⟨l.blk, o, none⟩ = false)
 get : ∀ i, i < n → ∃ x : UInt8, w.cell? ⟨l.blk, l.base + i, none⟩ = some (u8V x)
structure SoupTo (P : Program) (w w' : World) (e : TypeId) (b0 : Nat) (v' : Value) (l' : Loc) (n : Nat) : Prop where
 v : SoupV P w' e v' l' n
 size : w.heap.size ≤ w'.heap.size
 os : w'.os = w.os
 tape : w'.tape = w.tape
 output : w'.output = w.output
 frame : ∀ c, c < w.heap.size → c ≠ b0 → w'.heap[c]? = w.heap[c]?
 blk : l'.blk = b0 ∨ w.heap.size ≤ l'.blk
section
variable {P : Program} {ρ : Q → Loc} {h : Hp} {w : World} {B N : Nat}
theorem elem1 {e : TypeId} (he : elemOk P e 1 = true) : P.cellsOf e = 1 := by
 obtain ⟨i, z, hi, _, _, hs, _⟩ := elemOk_spec he
 simp [Program.cellsOf, hi, hs]
theorem soup_list {b o n : Nat} (hg : ∀ i, i < n → ∃ x : UInt8, w.cell? ⟨b, o + i, none⟩ = some (u8V x)) : ∃ olds : List UInt8, olds.length = n ∧ ∀ j u, (olds.map u8V)[j]? = some u → w.cell? ⟨b, o + j, none⟩ = some u := by
 induction n with
 | zero => exact ⟨[], rfl, fun j u hu => by simp at hu⟩
 | succ n ih =>
  obtain ⟨l, hl, hc⟩ := ih (fun i hi => hg i (by omega))
  obtain ⟨x, hx⟩ := hg n (by omega)
  refine ⟨l ++ [x], by simp [hl], fun j u hu => ?_⟩
  rw [List.map_append] at hu
  by_cases hj : j < n
  ·rw [List.getElem?_append_left (by simp [hl]; exact hj)] at hu
   exact hc j u hu
  ·rw [List.getElem?_append_right (by simp [hl]; omega)] at hu
   simp only [List.length_map, hl, List.map_cons, List.map_nil] at hu
   have hj2 : j = n := by
    have := (List.getElem?_eq_some_iff.1 hu).1
    simp at this
    omega
   subst hj2
   simp at hu
   rw [← hu]
   exact hx
theorem soup_app {t u ty e : TypeId} (ht : P.underlying t = some (.slice e)) (hu : (∃ f, P.underlying u = some (.slice f)) ∨ P.underlying u = some .string) (he : elemOk P e 1 = true) {v : Value} {l : Loc} {n : Nat} (hv : SoupV P w e v l n)
  {x : Value} {m : Nat} {news : List UInt8} (hx : ∀ w' : World, (Builtin.lenOf x).run P w' = .ok m w') (hfc : ∀ w' : World, w'.heap = w.heap → (Builtin.firstCells 1 m x).run P w' = .ok (news.map u8V).toArray w') (hm : news.length = m) (hl : n + m ≤ 1000000) :
  ∃ v' w' l', (Builtin.append_ #[t, u] ty #[v, x]).run P w = .ok v' w' ∧ SoupTo P w w' e l.blk v' l' (n + m) := by
 have h1 : ∀ y ∈ news.map u8V, y.oneCell' = true := fun y hy => by
  obtain ⟨b, _, rfl⟩ := List.mem_map.1 hy
  rfl
 have hc1 := elem1 he
 obtain ⟨sz, hs, hb, hfz⟩ := hv.at_
 rw [hc1, Nat.mul_one] at hb
 have hval := hv.val
 subst hval
 have hle := hv.le
 by_cases hroom : n + m ≤ l.cap
 ·have hcell : ∀ j, j < sz → (w.cell? ⟨l.blk, j, none⟩).isSome = true := fun j hj => by
   unfold World.shape? at hs
   unfold World.cell?
   cases hh : w.heap[l.blk]? with
   | none => rw [hh] at hs; cases hs
   | some ob =>
    rw [hh] at hs
    cases ob <;> cases hs
    simp [hj]
  have hst := run_storeCells_cells (P := P) l.blk (l.base + n) (news.map u8V) 0 w (fun j hj => by rw [List.length_map] at hj; exact hcell _ (by omega)) (fun j hj => by rw [List.length_map] at hj; exact hfz _ (by omega)) h1
  rw [Nat.add_zero] at hst
  obtain ⟨g1, g2, g3, g4, g5⟩ := World.setCells_other l.blk (news.map u8V) (l.base + n) w
  refine ⟨_, _, l, run_app_room w (ty := ty) (cap := l.cap) ht hu he x m (news.map u8V) hx (hfc w rfl) (some ⟨l.blk, l.base, none⟩) n hroom ⟨fun a ha => ?_, fun h => by cases h⟩, ⟨rfl, hroom, hv.cap, ⟨sz, (World.shape?_setCells _ _ _ _ _).trans hs, by rw [hc1, Nat.mul_one]; exact hb, fun o ho => by rw [World.frozen?_setCells]; exact hfz o ho⟩, fun i hi => ?_⟩, by rw [g1]; exact Nat.le_refl _, g3, g4, g5, fun c _ hc => g2 c hc, .inl rfl⟩
  ·cases ha
   rw [Addr.add_none, Nat.mul_one]
   exact hst
  ·by_cases hin : i < n
   ·obtain ⟨y, hy⟩ := hv.get i hin
    refine ⟨y, ?_⟩
    rw [World.cell?_setCells_out _ _ _ _ _ (fun _ _ => by show _ ∨ _; simp only; omega)]
    exact hy
   ·have hj : i - n < (news.map u8V).length := by rw [List.length_map]; omega
    have := World.cell?_setCells_in l.blk (news.map u8V) (l.base + n) w (fun j hj => by rw [List.length_map] at hj; exact hcell _ (by omega)) (i - n) hj
    rw [show l.base + n + (i - n) = l.base + i by omega, List.getElem_map] at this
    exact ⟨_, this⟩
 ·obtain ⟨olds, hol, hoc⟩ := soup_list hv.get
  have hofc : (Builtin.firstCells 1 n (.slice (some ⟨l.blk, l.base, none⟩) n l.cap)).run P w.drew = .ok (olds.map u8V).toArray w.drew :=
   run_firstCells_some w.drew 1 n _ n l.cap (olds.map u8V) (by rw [List.length_map, hol, Nat.mul_one]) (fun j u hu => by rw [Addr.add_none]; exact hoc j u hu)
  obtain ⟨z, hz, hrun⟩ := run_app_grow w (ty := ty) ht hu he x m (news.map u8V) (olds.map u8V) hx (hfc _ rfl) (some ⟨l.blk, l.base, none⟩) n l.cap hofc (by omega) hl
  have hge := grownCap_ge w (n + m) l.cap e
  have hgm : grownCap w (n + m) l.cap e ≤ 9223372036854775807 := grownCap_le_maxLen w (n + m) l.cap e (by unfold maxLen; omega)
  generalize hC : grownCap w (n + m) l.cap e = C at *
  have hsz : ((olds.map u8V).toArray ++ (news.map u8V).toArray ++ Builtin.zeroCells z.cells (C - (n + m))).size = C := by
   simp only [Array.size_append, List.size_toArray, size_zeroCells, hz, List.length_map, hol, hm, Nat.mul_one]
   omega
  have hh : (w.drew.alloc (.cells ((olds.map u8V).toArray ++ (news.map u8V).toArray ++ Builtin.zeroCells z.cells (C - (n + m))) e)).heap[w.heap.size]? = some (.cells ((olds.map u8V).toArray ++ (news.map u8V).toArray ++ Builtin.zeroCells z.cells (C - (n + m))) e (0, 0)) := by
   show (w.heap.push _)[w.heap.size]? = _
   rw [Array.getElem?_push, if_pos rfl]
  refine ⟨_, _, { blk := w.heap.size, base := 0, cap := C }, hrun, ⟨rfl, hge, hgm, ⟨C, ?_, by rw [hc1]; simp, fun o ho => ?_⟩, fun i hi => ?_⟩, by simp, rfl, rfl, rfl, fun c hc _ => ?_, .inr (Nat.le_refl _)⟩
  ·unfold World.shape?
   simp only [hh, hsz]
  ·unfold World.frozen?
   simp only [hh]
   simp
  ·have hcell := World.cell?_of_cells hh i
   refine ⟨(olds ++ news)[i]'(by rw [List.length_append]; omega), ?_⟩
   show World.cell? _ ⟨w.heap.size, 0 + i, none⟩ = _
   rw [Nat.zero_add, hcell, Array.getElem?_append_left (by simp [hol, hm]; exact hi)]
   rw [List.append_toArray, List.getElem?_toArray, ← List.map_append, List.getElem?_map, List.getElem?_eq_getElem (by rw [List.length_append]; omega)]
   rfl
  ·show (w.heap.push _)[c]? = _
   rw [Array.getElem?_push, if_neg (by omega)]
theorem soup_app_nil {t u ty e : TypeId} (ht : P.underlying t = some (.slice e)) (hu : (∃ f, P.underlying u = some (.slice f)) ∨ P.underlying u = some .string) (he : elemOk P e 1 = true)
  {x : Value} {m : Nat} {news : List UInt8} (hx : ∀ w' : World, (Builtin.lenOf x).run P w' = .ok m w') (hfc : ∀ w' : World, w'.heap = w.heap → (Builtin.firstCells 1 m x).run P w' = .ok (news.map u8V).toArray w') (hm : news.length = m) (hl : m ≤ 1000000) (h0 : 0 < m) :
  ∃ v' w' l', (Builtin.append_ #[t, u] ty #[.slice none 0 0, x]).run P w = .ok v' w' ∧ SoupTo P w w' e w.heap.size v' l' m := by
 have hc1 := elem1 he
 have hofc : (Builtin.firstCells 1 0 (.slice none 0 0)).run P w.drew = .ok ([] : List Value).toArray w.drew := by simp [Builtin.firstCells]
 obtain ⟨z, hz, hrun⟩ := run_app_grow w (ty := ty) ht hu he x m (news.map u8V) [] hx (hfc _ rfl) none 0 0 hofc (by omega) (by omega)
 rw [Nat.zero_add] at hrun
 have hge := grownCap_ge w m 0 e
 have hgm : grownCap w m 0 e ≤ 9223372036854775807 := grownCap_le_maxLen w m 0 e (by unfold maxLen; omega)
 generalize hC : grownCap w m 0 e = C at *
 have hsz : (([] : List Value).toArray ++ (news.map u8V).toArray ++ Builtin.zeroCells z.cells (C - m)).size = C := by
  simp only [Array.size_append, List.size_toArray, size_zeroCells, hz, List.length_map, hm, Nat.mul_one, List.length_nil]
  omega
 have hh : (w.drew.alloc (.cells (([] : List Value).toArray ++ (news.map u8V).toArray ++ Builtin.zeroCells z.cells (C - m)) e)).heap[w.heap.size]? = some (.cells (([] : List Value).toArray ++ (news.map u8V).toArray ++ Builtin.zeroCells z.cells (C - m)) e (0, 0)) := by
  show (w.heap.push _)[w.heap.size]? = _
  rw [Array.getElem?_push, if_pos rfl]
 refine ⟨_, _, { blk := w.heap.size, base := 0, cap := C }, hrun, ⟨rfl, hge, hgm, ⟨C, ?_, by rw [hc1]; simp, fun o ho => ?_⟩, fun i hi => ?_⟩, by simp, rfl, rfl, rfl, fun c hc _ => ?_, .inr (Nat.le_refl _)⟩
 ·unfold World.shape?
  simp only [hh, hsz]
 ·unfold World.frozen?
  simp only [hh]
  simp
 ·have hcell := World.cell?_of_cells hh i
  refine ⟨news[i]'(by omega), ?_⟩
  show World.cell? _ ⟨w.heap.size, 0 + i, none⟩ = _
  rw [Nat.zero_add, hcell, Array.getElem?_append_left (by simp [hm]; exact hi)]
  rw [List.append_toArray, List.getElem?_toArray, List.nil_append, List.getElem?_map, List.getElem?_eq_getElem (by omega)]
  rfl
 ·show (w.heap.push _)[c]? = _
  rw [Array.getElem?_push, if_neg (by omega)]
end
noncomputable def srcY (y : AV) (h : Hp) (k : Nat → Nat → Bool) : Bool :=
 y.yK (fun s => Sy.casesOn (motive := fun _ => Bool) s (fun i => k (syLo i) (syHi i)) (fun _ _ _ => false) (fun q i => (HT.getR q h.t).onY fun o => o.on_op fun j => ifT (Nat.beq i j) (k (syLo i) (syHi i))) (fun q a b => (HT.getR q h.t).onY fun o => o.on_soup fun _ => k a b) (fun _ _ => false))
  (srcK 1 y h fun n cs => bytesK cs fun _ => k n n)
noncomputable def dstY (el : Nat) (x : AV) (h : Hp) (k : HT → Nat → Nat → Nat → Bool) : Bool :=
 AV.casesOn (motive_1 := fun _ => Bool) x false (fun _ => false) (fun _ _ => false) (fun _ _ => false) false (fun _ _ => false) (k h.t 0 0 1)
  (fun q o n c => AC.casesOn (motive := fun _ => Bool) c (fun _ => false) fun d _ => ifT (Nat.beq o 0) (ifT (Nat.beq d 0) ((HT.getR q h.t).on fun ty m v => ifT (Nat.beq ty el) (ifT (Nat.ble n m) (bytesK (v.range n 0) fun _ => HT.setK .no q h.t fun t0 => k t0 n n 0)))))
  false (fun _ _ _ => false) false false (fun _ => false) false (fun _ => false) (fun _ => false) (fun _ _ => false)
  (fun s => Sy.casesOn (motive := fun _ => Bool) s (fun _ => false) (fun _ _ _ => false) (fun _ _ => false) (fun q a b => (HT.getR q h.t).onY fun o => o.on_soup fun ty => ifT (Nat.beq ty el) (HT.setK .no q h.t fun t0 => k t0 a b 0)) (fun _ _ => false))
noncomputable def suK (el : Nat) (t0 : HT) (a b : Nat) (h : Hp) (k : AV → Hp → Bool) : Bool := HT.setK (.y (.soup el)) h.nx t0 fun t' => h.nx.succK fun n' => k (.y (.su h.nx a b)) (.mk t' n')
noncomputable def apS (el : Nat) (x y : AV) (h : Hp) (k : AV → Hp → Bool) : Bool := srcY y h fun a b => dstY el x h fun t0 c d need => ifT (Nat.ble need a) (ifT (Nat.ble (Nat.add b d) 1000000) (natK (Nat.add a c) fun lo => natK (Nat.add b d) fun hi => suK el t0 lo hi h k))
noncomputable def apY (el sz : Nat) (x y : AV) (h : Hp) (k : AV → Hp → Bool) : Bool := x.yK (fun _ => ifT (Nat.beq sz 1) (apS el x y h k)) (y.yK (fun _ => ifT (Nat.beq sz 1) (apS el x y h k)) (apK el sz x y h k))
section
variable {P : Program} {ρ : Q → Loc} {h : Hp} {w : World} {B N : Nat}
theorem bytes_u8 : ∀ (l : List Nat), (∀ b ∈ l, b < 256) → (l.map Int.ofNat).map (Value.int .u8) = (l.map UInt8.ofNat).map u8V
 | [], _ => rfl
 | b :: l, hb => by
  have h1 := bytes_u8 l (fun x hx => hb x (by simp [hx]))
  have h2 : b < 256 := hb b (by simp)
  simp only [List.map_cons, h1]
  congr 1
  show Value.int .u8 (b : Int) = Value.int .u8 (((UInt8.ofNat b).toNat : Nat) : Int)
  rw [UInt8.toNat_ofNat', Nat.mod_eq_of_lt h2]
theorem srcY_sound (E : Emb P ρ h w B) {y : AV} {u : Value} (hy : Rel ρ h.nx.num y u) {k : Nat → Nat → Bool} (hk : srcY y h k = true) :
  ∃ (a b m : Nat) (news : List UInt8), k a b = true ∧ a ≤ m ∧ m ≤ b ∧ news.length = m ∧ (∀ w' : World, (Builtin.lenOf u).run P w' = .ok m w') ∧ (∀ w' : World, w'.heap = w.heap → (Builtin.firstCells 1 m u).run P w' = .ok (news.map u8V).toArray w') := by
 rcases AV.yK_spec hk with ⟨s, rfl, h1⟩ | h1
 ·cases hy with
  | os i h0 hb =>
   refine ⟨_, _, (txt ρ i).size, (txt ρ i).data.toList, h1, hb.1, hb.2.1, by simp, fun w' => rfl, fun w' _ => ?_⟩
   have e : (txt ρ i).extract 0 (txt ρ i).size = txt ρ i := by
    apply ByteArray.ext
    rw [ByteArray.data_extract]
    simp
   simp only [Builtin.firstCells, e, Sem.run_pure]
   congr 1
   apply Array.ext'
   simp
   exact fun _ _ => rfl
  | iv => cases h1
  | so q i c hq h0 hb hc hm =>
   dsimp only at h1
   rw [HT.getR_eq] at h1
   obtain ⟨o, hg, h3⟩ := OB.onY_spec h1
   obtain ⟨j, rfl, h4⟩ := Oy.on_op_spec h3
   obtain ⟨e1, h5⟩ := ifT_eq h4
   subst e1
   have hO := (E.op q i hg).2
   refine ⟨_, _, (txt ρ i).size, (txt ρ i).data.toList, h5, hb.1, hb.2.1, by simp, fun w' => rfl, fun w' hw' => run_firstCells_some w' 1 _ _ _ c _ (by simp) (fun j u hu => ?_)⟩
   have hj := (List.getElem?_eq_some_iff.1 hu).1
   have hj2 : j < (txt ρ i).size := by simpa using hj
   rw [Addr.add_none, cell?_of_heap (w := w) (by rw [hw']), hO.2 j hj2]
   rw [List.getElem?_map, ba_get_list _ j hj2] at hu
   exact hu
  | sv => cases h1
  | su q lo hi n c hq g1 g2 hf hc hm hx =>
   dsimp only at h1
   rw [HT.getR_eq] at h1
   obtain ⟨o, hg, h3⟩ := OB.onY_spec h1
   obtain ⟨ty, rfl, h4⟩ := Oy.on_soup_spec h3
   have hS := E.soup q ty hg
   obtain ⟨olds, hol, hoc⟩ := soup_list (w := w) (b := (ρ q).blk) (o := (ρ q).base) (n := n) (fun i hi => hS.get i (by omega))
   exact ⟨_, _, n, olds, h4, g1, g2, hol, fun w' => rfl, fun w' hw' => run_firstCells_some w' 1 n _ n c _ (by rw [List.length_map, hol, Nat.mul_one]) (fun j u hu => by rw [Addr.add_none, cell?_of_heap (w := w) (by rw [hw'])]; exact hoc j u hu)⟩
 ·obtain ⟨n, cs, news, h2, hcs, hr, h1c, hlen, hfc, hnl⟩ := srcK_sound E hy h1
  obtain ⟨l, h3, hv, hb, hll⟩ := bytesK_spec hr h2
  refine ⟨n, n, n, l.map UInt8.ofNat, h3, Nat.le_refl _, Nat.le_refl _, by rw [List.length_map, hll, hcs, Nat.mul_one], hlen, fun w' hw' => ?_⟩
  rw [hfc w' hw', hv, bytes_u8 l hb]
theorem Emb.soup' (E : Emb P ρ h w B) {w' : World} {e b0 : Nat} {v' : Value} {l' : Loc} {n : Nat} (hS : SoupTo P w w' e b0 v' l' n) (t0 : HT) (ht : ∀ r, t0.get r = .no ∨ t0.get r = h.t.get r)
  (hb0 : ∀ r, t0.get r ≠ .no → (ρ r).blk ≠ b0) (hl0 : w.heap.size ≤ b0 ∨ ∃ q, h.live q ∧ (ρ q).blk = b0) {lo hi : Nat} (h1 : lo ≤ n) (h2 : n ≤ hi) {k : AV → Hp → Bool} (hk : suK e t0 lo hi h k = true) : Made P ρ h w B (.ok v' w') k := by
 unfold suK at hk
 rw [HT.setK_eq, Q.succK_eq] at hk
 have hold : ∀ r, t0.get r ≠ .no → h.live r := fun r hr => by
  rcases ht r with e | e
  ·exact (hr e).elim
  ·rw [Hp.live, ← e]; exact hr
 have hlt := fun r (hr : t0.get r ≠ .no) => E.blk_lt' (hold r hr)
 obtain ⟨sz, hs, hb, hfz⟩ := hS.v.at_
 obtain ⟨a1, a2⟩ := E.lay (w' := w') t0 ht (.y (.soup e)) (by simp) { blk := l'.blk, base := l'.base, cap := l'.cap, fil := n } hS.size
  (by
   show B ≤ l'.blk
   rcases hS.blk with e1 | e1
   ·rw [e1]
    rcases hl0 with e2 | ⟨q, hq, e2⟩
    ·exact Nat.le_trans E.base e2
    ·rw [← e2]; exact E.ge q hq
   ·exact Nat.le_trans E.base e1)
  (fun r hr => hS.frame _ (hlt r hr) (hb0 r hr)) (fun r hr e1 => by
   have e1 : (ρ r).blk = l'.blk := e1
   rcases hS.blk with e2 | e2
   ·exact hb0 r hr (e1.trans e2)
   ·have := hlt r hr; omega)
  (fun c hc hq => hS.frame c hc (fun e1 => by
   rcases hl0 with e2 | ⟨q, hq2, e2⟩
   ·omega
   ·exact hq q hq2 (e2.trans e1.symm)))
  (by
   show (∃ r, h.live r ∧ l'.blk = (ρ r).blk) ∨ w.heap.size ≤ l'.blk
   rcases hS.blk with e1 | e1
   ·rcases hl0 with e2 | ⟨q, hq2, e2⟩
    ·exact .inr (by omega)
    ·exact .inl ⟨q, hq2, e1.trans e2.symm⟩
   ·exact .inr e1)
  hS.os hS.tape hS.output (fun _ _ _ hb => by cases hb) (fun _ hb => by cases hb)
  (hso := fun ty hty => by
   cases hty
   exact ⟨⟨sz, hs, hb, hfz⟩, fun i hi => hS.v.get i hi⟩)
 have hR := Rel.su (ρ := upd ρ h.nx { blk := l'.blk, base := l'.base, cap := l'.cap, fil := n }) (N := h.nx.succ.num) h.nx lo hi n l'.cap (by rw [Q.num_succ]; omega) h1 h2 (by rw [upd_same]; exact Nat.le_refl _) hS.v.le (by rw [upd_same]; exact Nat.le_refl _) hS.v.cap
 rw [upd_same] at hR
 exact ⟨_, _, _, _, _, rfl, a1, a2, by rw [hS.v.val]; exact hR, hk⟩
theorem dstY_sound (E : Emb P ρ h w B) {el : Nat} (hc1 : P.cellsOf el = 1) {x : AV} {v : Value} (hx : Rel ρ h.nx.num x v) {k : HT → Nat → Nat → Nat → Bool} (hk : dstY el x h k = true) :
  (v = .slice none 0 0 ∧ k h.t 0 0 1 = true) ∨
  ∃ (q : Q) (l : Loc) (a b n : Nat), h.live q ∧ l.blk = (ρ q).blk ∧ SoupV P w el v l n ∧ a ≤ n ∧ n ≤ b ∧ k (h.t.set .no q) a b 0 = true := by
 cases x <;> first | (cases hk; done) | skip
 case ns => cases hx; exact .inl ⟨rfl, hk⟩
 case sl q o n c =>
  cases c with
  | k cc => cases hk
  | u d b =>
   obtain ⟨e1, j1⟩ := ifT_eq (show ifT _ _ = true from hk)
   obtain ⟨e2, j2⟩ := ifT_eq j1
   clear hk j1
   subst e1 e2
   rw [HT.getR_eq] at j2
   obtain ⟨ty, m, vv, hg, j3⟩ := OB.on_spec j2
   obtain ⟨e3, j4⟩ := ifT_eq j3
   clear j2 j3
   subst e3
   obtain ⟨hle, j5⟩ := ifT_le j4
   obtain ⟨vs, hl, hr, h1, hc⟩ := E.cells hg 0 n (by omega)
   obtain ⟨l, hk, hv, hb, hll⟩ := bytesK_spec hr j5
   rw [HT.setK_eq] at hk
   have hlive : h.live q := by unfold Hp.live; rw [hg]; simp
   have R := E.row q ty m vv hg
   obtain ⟨sz, hs, hb1, hb2, hfz⟩ := R.at_
   have hcap := hx.sl_cap
   rw [V.range_length] at hll
   cases hx with
   | slu _ _ _ _ _ hq hn hcc hm =>
    refine .inr ⟨q, { blk := (ρ q).blk, base := (ρ q).base, cap := (ρ q).cap }, n, n, n, hlive, rfl, ⟨by simp, by show n ≤ (ρ q).cap; omega, hcap, ⟨sz, hs, hb2, hfz⟩, fun i hi => ?_⟩, Nat.le_refl _, Nat.le_refl _, hk⟩
    rw [bytes_u8 l hb] at hv
    have hi2 : i < vs.length := by omega
    have h3 := hc i _ (List.getElem?_eq_getElem hi2)
    have hi3 : i < l.length := by omega
    refine ⟨UInt8.ofNat l[i], ?_⟩
    rw [Nat.add_zero] at h3
    show World.cell? w ⟨(ρ q).blk, (ρ q).base + i, none⟩ = _
    rw [h3]
    congr 1
    simp only [hv, List.getElem_map]
 case y s =>
  cases hx with
  | os => cases hk
  | iv => cases hk
  | so => cases hk
  | sv => cases hk
  | su q lo hi n c hq g1 g2 hf hc hm hxx =>
   have hk : ((HT.getR q h.t).onY fun o => o.on_soup fun ty => ifT (Nat.beq ty el) (HT.setK .no q h.t fun t0 => k t0 lo hi 0)) = true := hk
   rw [HT.getR_eq] at hk
   obtain ⟨o, hg, h3⟩ := OB.onY_spec hk
   obtain ⟨ty, rfl, h4⟩ := Oy.on_soup_spec h3
   obtain ⟨e1, h5⟩ := ifT_eq h4
   subst e1
   rw [HT.setK_eq] at h5
   have hlive : h.live q := by unfold Hp.live; rw [hg]; simp
   have hS := E.soup q ty hg
   obtain ⟨sz, hs, hb2, hfz⟩ := hS.at_
   rw [hc1, Nat.mul_one] at hb2
   exact .inr ⟨q, { blk := (ρ q).blk, base := (ρ q).base, cap := c }, lo, hi, n, hlive, rfl, ⟨rfl, hc, hxx, ⟨sz, hs, by rw [hc1, Nat.mul_one]; show (ρ q).base + c ≤ sz; omega, hfz⟩, fun i hi => hS.get i (by omega)⟩, g1, g2, h5⟩
theorem apS_sound (E : Emb P ρ h w B) {t u ty e : Nat} (ht : P.underlying t = some (.slice e)) (hu : (∃ f, P.underlying u = some (.slice f)) ∨ P.underlying u = some .string) (he : elemOk P e 1 = true) {x y : AV} {xv yv : Value} (hx : Rel ρ h.nx.num x xv) (hy : Rel ρ h.nx.num y yv)
  {k : AV → Hp → Bool} (hk : apS e x y h k = true) : Made P ρ h w B ((Builtin.append_ #[t, u] ty #[xv, yv]).run P w) k := by
 obtain ⟨a, b, m, news, h1, g1, g2, hnl, hlen, hfc⟩ := srcY_sound E hy hk
 have hc1 := elem1 he
 rcases dstY_sound E hc1 hx h1 with ⟨rfl, h2⟩ | ⟨q, l, c, d, n, hlive, hlb, hV, g3, g4, h2⟩
 ·obtain ⟨hn1, h2⟩ := ifT_le h2
  obtain ⟨hn2, h2⟩ := ifT_le h2
  rw [natK_eq, natK_eq] at h2
  have hn2 : b + 0 ≤ 1000000 := hn2
  obtain ⟨v', w', l', hrun, hS⟩ := soup_app_nil (ty := ty) ht hu he hlen hfc hnl (by omega) (by omega)
  rw [hrun]
  exact E.soup' hS h.t (fun _ => .inr rfl) (fun r hr e1 => by have := E.blk_lt' (q := r) hr; omega) (.inl (Nat.le_refl _)) (by show a + 0 ≤ m; omega) (by show m ≤ b + 0; omega) h2
 ·obtain ⟨hn1, h2⟩ := ifT_le h2
  obtain ⟨hn2, h2⟩ := ifT_le h2
  rw [natK_eq, natK_eq] at h2
  have hn2 : b + d ≤ 1000000 := hn2
  obtain ⟨v', w', l', hrun, hS⟩ := soup_app (ty := ty) ht hu he hV hlen hfc hnl (by omega)
  rw [hrun]
  exact E.soup' hS (h.t.set .no q) (HT.get_drop q h.t) (fun r hr e1 => by
   by_cases e2 : r = q
   ·subst e2; rw [HT.get_set_same] at hr; exact hr rfl
   ·rw [HT.get_set_ne _ _ _ _ e2] at hr
    exact e2 (E.inj r q hr hlive (e1.trans hlb))) (.inr ⟨q, hlive, hlb.symm⟩) (by show a + c ≤ n + m; omega) (by show n + m ≤ b + d; omega) h2
theorem apY_sound (E : Emb P ρ h w B) {t u ty e sz : Nat} (ht : P.underlying t = some (.slice e)) (hu : (∃ f, P.underlying u = some (.slice f)) ∨ P.underlying u = some .string) (he : elemOk P e sz = true) {x y : AV} {xv yv : Value} (hx : Rel ρ h.nx.num x xv) (hy : Rel ρ h.nx.num y yv)
  {k : AV → Hp → Bool} (hk : apY e sz x y h k = true) : Made P ρ h w B ((Builtin.append_ #[t, u] ty #[xv, yv]).run P w) k := by
 have sym : ifT (Nat.beq sz 1) (apS e x y h k) = true → Made P ρ h w B ((Builtin.append_ #[t, u] ty #[xv, yv]).run P w) k := fun h1 => by
  obtain ⟨e1, h2⟩ := ifT_eq h1
  subst e1
  exact apS_sound E ht hu he hx hy h2
 rcases AV.yK_spec hk with ⟨s, _, h1⟩ | h1
 ·exact sym h1
 ·rcases AV.yK_spec h1 with ⟨s, _, h2⟩ | h2
  ·exact sym h2
  ·exact apK_sound E ht hu he hx hy h2
end
def repL (n sz : Nat) (zc : List AV) : List AV := (List.range (Nat.mul n sz)).map fun i => zc.getD (Nat.mod i sz) .d
noncomputable def clD (sz : Nat) (zc : List AV) (x : AV) (h : Hp) (k : Hp → Bool) : Bool :=
 AV.casesOn (motive_1 := fun _ => Bool) x false (fun _ => false) (fun _ _ => false) (fun _ _ => false) false (fun _ _ => false) (k h)
  (fun q o n _ => Bool.casesOn (motive := fun _ => Bool) (Nat.beq n 0) ((HT.getR q h.t).on fun ty m v => ifT (Nat.ble (Nat.add o (Nat.mul n sz)) m) (V.setL (repL n sz zc) v o fun v' => HT.setK (.bk ty m v') q h.t fun t' => k (.mk t' h.nx))) (k h))
  (k h) (fun _ _ _ => false) false false (fun _ => false) false (fun _ => false) (fun _ => false) (fun _ _ => false) (fun _ => false)
section
variable {P : Program} {ρ : Q → Loc} {h : Hp} {w : World} {B N : Nat}
theorem rel_rep (ρ : Q → Loc) (N n sz : Nat) (zc : Array Value) (hz : zc.size = sz) : RelL ρ N (repL n sz (zc.toList.map cv)) (Builtin.zeroCells zc n).toList := by
 subst hz
 refine RelL.of_get (by simp [repL, Builtin.zeroCells]) fun i hx hv => ?_
 have hi : i < n * zc.size := by simpa [repL] using hx
 have hpos : 0 < zc.size := by
  rcases Nat.eq_zero_or_pos zc.size with h0 | h0
  ·rw [h0] at hi; omega
  ·exact h0
 have hm : i % zc.size < zc.size := Nat.mod_lt _ hpos
 have e1 : (repL n zc.size (zc.toList.map cv))[i] = cv zc[i % zc.size] := by
  simp only [repL, List.getElem_map, List.getElem_range]
  show (zc.toList.map cv).getD (i % zc.size) .d = _
  rw [List.getD_eq_getElem?_getD, List.getElem?_map, Array.getElem?_toList, Array.getElem?_eq_getElem hm]
  rfl
 have e2 : (Builtin.zeroCells zc n).toList[i] = zc[i % zc.size] := by
  simp [Builtin.zeroCells, hm]
 rw [e1, e2]
 exact cv_rel _ _ _
theorem clD_sound (E : Emb P ρ h w B) {t e sz ty : Nat} (ht : P.underlying t = some (.slice e)) (he : elemOk P e sz = true) (h2 : ((P.info? e).bind (·.zero)).any (fun z => z.cells.toList.all Value.oneCell') = true) {x : AV} {u : Value} (hx : Rel ρ h.nx.num x u) {k : Hp → Bool} (hk : clD sz (zeroCs P e) x h k = true) :
  MadeU P ρ h w B (.tuple #[]) ((Builtin.clear_ #[t] ty #[u]).run P w) k := by
 obtain ⟨i, z, hi, hz, hzs, hs, hb⟩ := elemOk_spec he
 have hzz : (P.info? e).bind (·.zero) = some z := by rw [hi]; exact hz
 have hzv : (zeroValue e).run P w = .ok z w := by simp [zeroValue, typeInfo, hi, hz]
 have hzc : zeroCs P e = z.cells.toList.map cv := by unfold zeroCs; rw [hzz]
 rw [hzz] at h2
 have hz1 : ∀ v ∈ z.cells.toList, v.oneCell' = true := fun v hv => List.all_eq_true.1 (show z.cells.toList.all Value.oneCell' = true from h2) v hv
 cases x <;> first | (cases hk; done) | skip
 case ns => cases hx; exact ⟨w, h, by simp [Builtin.clear_, run_underlying ht], E, Step.refl _ _ _, hk⟩
 case se => cases hx with | se a c => exact ⟨w, h, by simp [Builtin.clear_, run_underlying ht], E, Step.refl _ _ _, hk⟩
 case sl q o n c =>
  have hk : Bool.casesOn (motive := fun _ => Bool) (Nat.beq n 0) ((HT.getR q h.t).on fun ty m v => ifT (Nat.ble (Nat.add o (Nat.mul n sz)) m) (V.setL (repL n sz (zeroCs P e)) v o fun v' => HT.setK (.bk ty m v') q h.t fun t' => k (.mk t' h.nx))) (k h) = true := hk
  have key : ∀ cap : Nat, MadeU P ρ h w B (.tuple #[]) ((Builtin.clear_ #[t] ty #[.slice (some ⟨(ρ q).blk, (ρ q).base + o, none⟩) n cap]).run P w) k := by
   intro cap
   cases hb0 : Nat.beq n 0 with
   | true =>
    rw [hb0] at hk
    have := Nat.eq_of_beq_eq_true hb0
    subst this
    exact ⟨w, h, by simp [Builtin.clear_, run_underlying ht], E, Step.refl _ _ _, hk⟩
   | false =>
    rw [hb0] at hk
    rw [HT.getR_eq] at hk
    obtain ⟨bt, m, v, hg, hk2⟩ := OB.on_spec hk
    obtain ⟨hle, hk3⟩ := ifT_le hk2
    have hle : o + n * sz ≤ m := hle
    obtain ⟨v', hk4, hin, hout⟩ := V.setL_spec _ v o _ hk3
    rw [HT.setK_eq] at hk4
    rw [hzc] at hin hout
    have hrel := rel_rep ρ h.nx.num n sz z.cells hzs
    have hlen : (repL n sz (z.cells.toList.map cv)).length = n * sz := by simp [repL]
    have R := E.row q bt m v hg
    obtain ⟨a1, a2, a3⟩ := E.write hg o hrel (fun u hu => by
     obtain ⟨j, hj, rfl⟩ := List.mem_iff_getElem.1 hu
     have hj' : j < n * z.cells.size := by simpa [Builtin.zeroCells] using hj
     have hm' : j % z.cells.size < z.cells.size := Nat.mod_lt _ (by
      rcases Nat.eq_zero_or_pos z.cells.size with h0 | h0
      ·rw [h0] at hj'; omega
      ·exact h0)
     have : (Builtin.zeroCells z.cells n).toList[j] = z.cells[j % z.cells.size] := by simp [Builtin.zeroCells, hm']
     rw [this]
     exact hz1 _ (by simp)) (by omega) v' hin hout m (.inl rfl) (by omega) (fun sz' hs' => by
      obtain ⟨sz'', hs'', hbb, _⟩ := R.at_
      rw [hs'] at hs''
      cases hs''
      rw [hlen]
      omega)
    have hn0 : n ≠ 0 := by
     intro h0; subst h0; cases hb0
    refine ⟨_, _, ?_, a2, a3, hk4⟩
    cases n with
    | zero => exact (hn0 rfl).elim
    | succ n => simp [Builtin.clear_, run_underlying ht, hzv, a1]
  obtain ⟨hq, ⟨cc, rfl, _, rfl⟩ | ⟨d, b, rfl, _, _, rfl⟩⟩ := hx.sl_inv
  ·exact key _
  ·exact key _
end
abbrev FS := List AV → Hp → (AV → Hp → Bool) → Bool
def Left (P : Program) (ρ : Q → Loc) (h : Hp) (w : World) (B : Nat) (k : AV → Hp → Bool) : Ending → World → Prop
 | .returned v, w' => ∃ ρ' h' y, Emb P ρ' h' w' B ∧ Step ρ h w ρ' h' w' ∧ Rel ρ' h'.nx.num y v ∧ k y h' = true
 | _, _ => False
structure SoundF (P : Program) (f : FuncId) (s : FS) : Prop where
 enter : ∀ (args : Array Value) (w : World), (callFunc f args).run P w = .ok (.enter f args) w
 det : ∀ args h, Det2 (s args h)
 sound : ∀ (ρ : Q → Loc) (h : Hp) (w : World) (B : Nat) (args : List AV) (vals : List Value) (k : AV → Hp → Bool), Emb P ρ h w B → RelL ρ h.nx.num args vals → s args h k = true → Calls P f vals.toArray w (Left P ρ h w B k)
abbrev Tbl := List (Nat × FS)
noncomputable abbrev Tbl.get (T : Tbl) (f : Nat) (args : List AV) (h : Hp) (k : AV → Hp → Bool) : Bool :=
 List.rec (motive := fun _ => Bool) false (fun e _ ih => Bool.casesOn (motive := fun _ => Bool) (Nat.beq e.1 f) ih (e.2 args h k)) T
def SoundT (P : Program) (T : Tbl) : Prop := ∀ e ∈ T, SoundF P e.1 e.2
theorem SoundT.nil {P : Program} : SoundT P [] := fun _ h => by cases h
theorem SoundT.cons {P : Program} {f : Nat} {s : FS} {T : Tbl} (h : SoundF P f s) (t : SoundT P T) : SoundT P ((f, s) :: T) := fun e he => by
 rcases List.mem_cons.1 he with rfl | he
 ·exact h
 ·exact t e he
theorem Tbl.get_spec {P : Program} : ∀ {T : Tbl} {f : Nat} {args : List AV} {h : Hp} {k : AV → Hp → Bool}, SoundT P T → T.get f args h k = true → ∃ s, SoundF P f s ∧ s args h k = true
 | [], _, _, _, _, _, hk => by cases hk
 | e :: T, f, args, h, k, hT, hk => by
  have hk : Bool.casesOn (motive := fun _ => Bool) (Nat.beq e.1 f) (Tbl.get T f args h k) (e.2 args h k) = true := hk
  cases hb : Nat.beq e.1 f with
  | true =>
   rw [hb] at hk
   have := Nat.eq_of_beq_eq_true hb
   subst this
   exact ⟨e.2, hT e (by simp), hk⟩
  | false =>
   rw [hb] at hk
   exact Tbl.get_spec (fun e' he' => hT e' (List.mem_cons_of_mem _ he')) hk
theorem Tbl.get_det {P : Program} : ∀ {T : Tbl}, SoundT P T → ∀ (f : Nat) (args : List AV) (h : Hp), Det2 (T.get f args h)
 | [], _, _, _, _ => Det2.fail
 | e :: T, hT, f, args, h => by
  show Det2 fun k => Bool.casesOn (motive := fun _ => Bool) (Nat.beq e.1 f) (Tbl.get T f args h k) (e.2 args h k)
  cases Nat.beq e.1 f with
  | true => exact (hT e (by simp)).det args h
  | false => exact Tbl.get_det (fun e' he' => hT e' (List.mem_cons_of_mem _ he')) f args h
abbrev szOf (P : Program) (e : TypeId) : Option Nat := (P.info? e).map (·.size)
theorem szOf_spec {P : Program} {e sz : Nat} (h : szOf P e = some sz) (w : World) : (sizeOf e).run P w = .ok sz w := by
 unfold szOf at h
 cases hi : P.info? e with
 | none => rw [hi] at h; cases h
 | some i => rw [hi] at h; cases h; simp [sizeOf, typeInfo, hi]
noncomputable def slsK (lo hi mx : Option AV) (x : AV) (k : AV → Bool) : Bool := x.on_s fun n l => slK 0 lo hi mx (.s n l) k
noncomputable def sllK (sz : Nat) (lo hi mx : Option AV) (x : AV) (k : AV → Bool) : Bool := nilS x fun _ => slK sz lo hi mx x k
noncomputable def blK (ps : List (Nat × Nat × AV)) (z : List AV) (k : AV → Bool) : Bool := bldK ps z fun cs => k (.a cs)
def plc (P : Program) (t m : Nat) (f : Operand → AV) : List (Nat × Operand) → Option (List (Nat × Nat × AV))
 | [] => some []
 | (i, x) :: ps => match placesOf P t i with
  | some (off, sz) => match Nat.ble (Nat.add off sz) m with
   | true => match plc P t m f ps with
    | some l => some ((off, sz, f x) :: l)
    | none => none
   | false => none
  | none => none
noncomputable abbrev bopD (P : Program) (op : BinOp) (t : TypeId) (xo yo : Operand) (x y : AV) (k : AV → Bool) : Bool :=
 match op with
 | .shl | .shr => shkK op x y k
 | _ => match P.underlying t with
  | some (.int _) => ikY op x y k
  | some .string => stY op x y k
  | some .bool => bbK op x y k
  | some (.pointer _) => npK op x y k
  | some (.slice _) => nsK op x y k
  | some (.interface _) => match isC xo || isC yo with
   | true => niK op x y k
   | false => false
  | some (.struct _) => match P.eqGuardType P.depth t with
   | true => false
   | false => x.on_a fun xs => y.on_a fun ys => sqK P op t (.a xs) (.a ys) k
  | _ => false
noncomputable abbrev cnvD (P : Program) (s t : TypeId) (x : AV) (h : Hp) (k : AV → Bool) : Bool :=
 match P.underlying s, P.underlying t with
 | some (.int _), some (.int d) => ciY d x k
 | some .string, some .string => csY x k
 | some (.slice e), some .string => match P.underlying e with
  | some (.int .u8) => cbY x h k
  | _ => false
 | _, _ => false
noncomputable abbrev bltD (P : Program) (b : Builtin) (ts : List TypeId) (args : List AV) (h : Hp) (k : AV → Bool) : Bool :=
 match b, ts, args with
 | .len, [t], [x] => match P.underlying t with
  | some .string => lnSY x k
  | some (.slice _) => lnLY x k
  | some (.map _ _) => lnM x h k
  | _ => false
 | .min, _, x :: ys => mmL mnK ys x k
 | .max, _, x :: ys => mmL mxK ys x k
 | _, _, _ => false
noncomputable abbrev lightD (P : Program) (op : Op) (f : Operand → AV) (h : Hp) (k : AV → Bool) : Bool :=
 match op with
 | .move x | .assign x => k (f x)
 | .pick c a b => pkK (f c) (f a) (f b) k
 | .load t a => match aggOf P t with
  | some (true, n) => ldN n (f a) h k
  | some (false, _) => ld1 (f a) h k
  | none => false
 | .nilCheck x => ncK (f x) k
 | .binOp op t x y _ => bopD P op t x y (f x) (f y) k
 | .unOp op _ x => match op with
  | .not => notK (f x) k
  | .neg => negK (f x) k
  | .xor => cplK (f x) k
  | .plus => false
 | .convert s t x => cnvD P s t (f x) h k
 | .makeInterface t x => match notI P t with
  | true => k (.e t (f x))
  | false => false
 | .makeFunc (.func n) first captured => k (.f n (first.toList.map f) (captured.toList.map f))
 | .build t parts => match bldOk P t with
  | true => match plc P t (zeroCs P t).length f parts.toList with
   | some ps => blK ps (zeroCs P t) k
   | none => false
  | false => false
 | .slice t x lo hi mx => match P.underlying t with
  | some .string => slsK (lo.map f) (hi.map f) (mx.map f) (f x) k
  | some (.slice e) => match szOf P e with
   | some sz => sllK sz (lo.map f) (hi.map f) (mx.map f) (f x) k
   | none => false
  | some (.array n e) => match szOf P e, mx with
   | some sz, none => sapK n sz (lo.map f) (hi.map f) (f x) k
   | _, _ => false
  | _ => false
 | .fieldAddr s x i => match faOf P s i with
  | some off => faK off (f x) k
  | none => false
 | .field s x i => match fdOf P s i with
  | some (off, g, n) => fdK off g n (f x) k
  | none => false
 | .indexAddr t x i => match P.underlying t with
  | some (.slice e) => match szOf P e with
   | some sz => iaK sz (f x) (f i) k
   | none => false
  | some (.array n e) => match szOf P e with
   | some sz => iapK n sz (f x) (f i) k
   | none => false
  | _ => false
 | .index t x i => match P.underlying t with
  | some .string => ixK (f x) (f i) k
  | _ => false
 | .lookup t m x ok => match mapOf P t with
  | some (kt, et) => match kdOf P kt, (P.info? et).bind (·.zero) with
   | some str, some _ => lkK str ok (zeroOf P et) (f m) (f x) h k
   | _, _ => false
  | none => false
 | .typeAssert x _ asL ok => match notI P asL, (P.info? asL).bind (·.zero), ok with
  | true, some _, true => taK asL (zeroOf P asL) (f x) k
  | _, _, _ => false
 | .extract x i => exK (f x) i k
 | .call c => match c.callee with
  | .builtin b => bltD P b c.argTypes.toList (c.args.toList.map f) h k
  | _ => false
 | _ => false
section
variable {P : Program} {ρ : Q → Loc} {h : Hp} {w : World} {B N : Nat}
def PureN (P : Program) (ρ : Q → Loc) (N : Nat) (w : World) (s : Sem Next) (k : AV → Bool) : Prop := ∃ y v, s.run P w = .ok (.value v) w ∧ Rel ρ N y v ∧ k y = true
theorem PureN.of1 {s : Sem Value} {k : AV → Bool} (hh : Pure1 ρ N w (s.run P w) k) : PureN P ρ N w (do pure (.value (← s))) k := by
 obtain ⟨y, v, h1, h2, h3⟩ := hh
 exact ⟨y, v, by simp [h1], h2, h3⟩
theorem relL_map {f : Operand → AV} {g : Operand → Value} : ∀ (l : List Operand), (∀ x ∈ l, Rel ρ N (f x) (g x)) → RelL ρ N (l.map f) (l.map g)
 | [], _ => .nil
 | x :: l, hh => .cons _ _ _ _ (hh x (by simp)) (relL_map l fun y hy => hh y (List.mem_cons_of_mem _ hy))
theorem relO_map {f : Operand → AV} {g : Operand → Value} : ∀ (o : Option Operand), (∀ x, o = some x → Rel ρ N (f x) (g x)) → RelO ρ N (o.map f) (o.map g)
 | none, _ => .none
 | some x, hh => .some _ _ (hh x rfl)
theorem rel_int_plain {x : AV} {v : Value} (hx : Rel ρ N x v) {kf : IntKind → Nat → Bool} (hk : x.on_i kf = true) : ∃ kd n, v = .int kd n := by
 obtain ⟨kd, a, rfl, _⟩ := AV.on_i_spec hk
 cases hx
 exact ⟨_, _, rfl⟩
theorem bopD_sound {op : BinOp} {t : TypeId} {xo yo : Operand} {x y : AV} {u v : Value} (hx : Rel ρ N x u) (hy : Rel ρ N y v) {k : AV → Bool} (hk : bopD P op t xo yo x y k = true) (w : World) : Pure1 ρ N w ((do eqGuard op t xo yo u v; binOp op t u v : Sem Value).run P w) k := by
 have lift : (eqGuard op t xo yo u v).run P w = .ok () w → Pure1 ρ N w ((binOp op t u v).run P w) k → Pure1 ρ N w ((do eqGuard op t xo yo u v; binOp op t u v : Sem Value).run P w) k := fun h1 h2 => by
  simpa only [Sem.run_bind, h1, Result.andThen_ok] using h2
 have plain : (∀ cs, u ≠ .agg cs) → u ≠ .nilIface → Pure1 ρ N w ((binOp op t u v).run P w) k → Pure1 ρ N w ((do eqGuard op t xo yo u v; binOp op t u v : Sem Value).run P w) k := fun h1 h2 h3 =>
  lift (eqGuard_plain op t xo yo u v (.inl h2) h1 w) h3
 have sh : shkK op x y k = true → Pure1 ρ N w ((do eqGuard op t xo yo u v; binOp op t u v : Sem Value).run P w) k := fun hk => by
  obtain ⟨kd, n, hu⟩ := rel_int_plain hx (show x.on_i _ = true from hk)
  exact plain (fun cs e => by rw [hu] at e; cases e) (fun e => by rw [hu] at e; cases e) (shkK_sound hx hy hk t w)
 have rest : (match P.underlying t with
  | some (.int _) => ikY op x y k
  | some .string => stY op x y k
  | some .bool => bbK op x y k
  | some (.pointer _) => npK op x y k
  | some (.slice _) => nsK op x y k
  | some (.interface _) => match isC xo || isC yo with
   | true => niK op x y k
   | false => false
  | some (.struct _) => match P.eqGuardType P.depth t with
   | true => false
   | false => x.on_a fun xs => y.on_a fun ys => sqK P op t (.a xs) (.a ys) k
  | _ => false) = true → Pure1 ρ N w ((do eqGuard op t xo yo u v; binOp op t u v : Sem Value).run P w) k := fun hk => by
  split at hk
  ·obtain ⟨kd, n, hu⟩ := ikY_int hx hk
   exact plain (fun cs e => by rw [hu] at e; cases e) (fun e => by rw [hu] at e; cases e) (ikY_sound hx hy hk t w)
  ·obtain ⟨s, hu⟩ := stY_str hx hk
   exact plain (fun cs e => by rw [hu] at e; cases e) (fun e => by rw [hu] at e; cases e) (stY_sound hx hy hk t w)
  ·rename_i ht
   have hu : ∃ s, u = .bool s := by
    obtain ⟨_, rfl, _⟩ := AV.on_b_spec (show x.on_b _ = true from hk)
    cases hx
    exact ⟨_, rfl⟩
   obtain ⟨s, hu⟩ := hu
   exact plain (fun cs e => by rw [hu] at e; cases e) (fun e => by rw [hu] at e; cases e) (bbK_sound hx hy hk ht w)
  ·rename_i e ht
   refine plain (fun cs e => ?_) (fun e => ?_) (npK_sound hx hy hk ht) <;> (subst e; cases hx <;> cases hk)
  ·rename_i e ht
   refine plain (fun cs e => ?_) (fun e => ?_) (nsK_sound hx hy hk ht) <;> (subst e; cases hx <;> cases hk)
  ·rename_i ms ht
   split at hk
   ·rename_i hc
    refine lift (eqGuard_plain op t xo yo u v (.inr (by simpa using hc)) (fun cs e => ?_) w) (niK_sound hx hy hk ht w)
    subst e; cases hx <;> cases hk
   ·cases hk
  ·rename_i fs ht
   split at hk
   ·cases hk
   ·rename_i hg
    obtain ⟨xs, rfl, hk2⟩ := AV.on_a_spec hk
    obtain ⟨ys, rfl, hk3⟩ := AV.on_a_spec hk2
    have hu : ∃ cs, u = .agg cs := by cases hx; exact ⟨_, rfl⟩
    have hv : ∃ cs, v = .agg cs := by cases hy; exact ⟨_, rfl⟩
    obtain ⟨cs, hu⟩ := hu
    obtain ⟨ds, hv⟩ := hv
    refine lift ?_ (sqK_sound hx hy hk3 ⟨cs, ds, hu, hv⟩ w)
    rw [hu, hv]
    exact run_eqGuard_agg w op t xo yo cs ds hg
  ·cases hk
 cases op
 case shl => exact sh hk
 case shr => exact sh hk
 all_goals exact rest hk
theorem cnvD_sound (E : Emb P ρ h w B) {s t : TypeId} {x : AV} {u : Value} (hx : Rel ρ h.nx.num x u) {k : AV → Bool} (hk : cnvD P s t x h k = true) : Pure1 ρ h.nx.num w ((convert s t u).run P w) k := by
 unfold cnvD at hk
 split at hk
 ·rename_i h1 h2; exact ciY_sound h1 h2 hx hk w
 ·rename_i h1 h2; exact csY_sound h1 h2 hx hk w
 ·rename_i e h1 h2
  split at hk
  ·rename_i h3; exact cbY_sound E h1 h3 h2 hx hk
  ·cases hk
 ·cases hk
theorem bltD_sound (E : Emb P ρ h w B) {b : Builtin} {ts : List TypeId} {args : List AV} {vals : List Value} (ha : RelL ρ h.nx.num args vals) {k : AV → Bool} (hk : bltD P b ts args h k = true) (type : TypeId) :
  ∃ y v, (∀ cs : Array Bool, (builtin b ts.toArray type cs vals.toArray).run P w = .ok (.value v) w) ∧ Rel ρ h.nx.num y v ∧ k y = true := by
 have lift : ∀ {s : Sem Value}, (∀ cs : Array Bool, builtin b ts.toArray type cs vals.toArray = (do pure (.value (← s)) : Sem Next)) → Pure1 ρ h.nx.num w (s.run P w) k → ∃ y v, (∀ cs : Array Bool, (builtin b ts.toArray type cs vals.toArray).run P w = .ok (.value v) w) ∧ Rel ρ h.nx.num y v ∧ k y = true := fun he hh => by
  obtain ⟨y, v, h1, h2, h3⟩ := PureN.of1 hh
  exact ⟨y, v, fun cs => by rw [he cs]; exact h1, h2, h3⟩
 unfold bltD at hk
 split at hk
 ·rename_i t x
  cases ha with
  | cons _ v _ vs hx t1 =>
   cases t1
   split at hk
   ·rename_i ht; exact lift (fun _ => rfl) (lnSY_sound ht hx hk w)
   ·rename_i ht; exact lift (fun _ => rfl) (lnLY_sound ht hx hk w)
   ·rename_i kt et ht; exact lift (fun _ => rfl) (lnM_sound E (by unfold mapOf; rw [ht]) hx hk)
   ·cases hk
 ·rename_i x ys
  cases ha with
  | cons _ v _ vs hx t1 =>
   have := mmL_sound (P := P) (g := Builtin.min2) w (fun a b c => mn2_sound a b c w) t1 hx hk
   exact lift (fun _ => rfl) this
 ·rename_i x ys
  cases ha with
  | cons _ v _ vs hx t1 =>
   have := mmL_sound (P := P) (g := Builtin.max2) w (fun a b c => mx2_sound a b c w) t1 hx hk
   exact lift (fun _ => rfl) this
 ·cases hk
theorem plc_parts {t m : Nat} {f : Operand → AV} {g : Operand → Value} : ∀ {l : List (Nat × Operand)} {ps : List (Nat × Nat × AV)}, (∀ x ∈ l.map (·.2), Rel ρ N (f x) (g x)) → plc P t m f l = some ps → PartsR ρ N m (placesOf P t) ps (l.map fun (i, x) => (i, g x))
 | [], ps, _, hp => by cases hp; exact .nil
 | (i, x) :: l, ps, hh, hp => by
  unfold plc at hp
  split at hp
  ·rename_i off sz hpl
   split at hp
   ·rename_i hle
    split at hp
    ·rename_i l' hl
     cases hp
     exact .cons i off sz _ _ _ _ hpl (Nat.le_of_ble_eq_true hle) (hh x (by simp)) (plc_parts (fun y hy => hh y (List.mem_cons_of_mem _ hy)) hl)
    ·cases hp
   ·cases hp
  ·cases hp
theorem slsK_sound {t : TypeId} (ht : P.underlying t = some .string) {x : AV} {u : Value} {lo hi mx : Option AV} {lov hiv mxv : Option Value} (hx : Rel ρ N x u) (hlo : RelO ρ N lo lov) (hhi : RelO ρ N hi hiv) (hmx : RelO ρ N mx mxv) {k : AV → Bool} (hk : slsK lo hi mx x k = true) (w : World) : Pure1 ρ N w ((Instr.sliceAt t u lov hiv mxv).run P w) k := by
 obtain ⟨n, l, rfl, hk2⟩ := AV.on_s_spec hk
 refine slK_sound (.inl ht) hx hlo hhi hmx hk2 ⟨fun _ => ht, fun _ => ?_⟩ w
 cases hx
 exact ⟨_, rfl⟩
theorem sllK_sound {t e sz : TypeId} (ht : P.underlying t = some (.slice e)) (hs : szOf P e = some sz) {x : AV} {u : Value} {lo hi mx : Option AV} {lov hiv mxv : Option Value} (hx : Rel ρ N x u) (hlo : RelO ρ N lo lov) (hhi : RelO ρ N hi hiv) (hmx : RelO ρ N mx mxv) {k : AV → Bool} (hk : sllK sz lo hi mx x k = true) (w : World) : Pure1 ρ N w ((Instr.sliceAt t u lov hiv mxv).run P w) k := by
 have hk2 : slK sz lo hi mx x k = true := by
  cases x <;> first | (cases hk; done) | exact hk | (rename_i s; cases s <;> first | (cases hk; done) | exact hk)
 refine slK_sound (.inr ⟨e, ht, szOf_spec hs⟩) hx hlo hhi hmx hk2 ⟨fun ⟨s, hs⟩ => ?_, fun e => by rw [ht] at e; cases e⟩ w
 subst hs
 cases hx <;> cases hk
theorem lightD_sound (E : Emb P ρ h w B) (o : Oper) {f : Operand → AV} {g : Operand → Value} (hfg : ∀ x ∈ o.op.operands, Rel ρ h.nx.num (f x) (g x)) {k : AV → Bool} (hk : lightD P o.op f h k = true) : PureN P ρ h.nx.num w (execOp g o) k := by
 obtain ⟨dst, op, type, pos, after, guard⟩ := o
 cases op <;> (try (cases hk; done))
 case move x => exact ⟨_, g x, rfl, hfg x (by simp [Op.operands]), hk⟩
 case assign x => exact ⟨_, g x, rfl, hfg x (by simp [Op.operands]), hk⟩
 case pick c a b =>
  obtain ⟨x, h1, y, h2, h3⟩ := pkK_sound (P := P) (hfg c (by simp [Op.operands])) (hfg a (by simp [Op.operands])) (hfg b (by simp [Op.operands])) hk w
  exact ⟨y, _, by simp [execOp, h1], h2, h3⟩
 case build t parts =>
  simp only [lightD] at hk
  split at hk
  ·rename_i hok
   split at hk
   ·rename_i ps hps
    refine PureN.of1 (build_sound hok (parts := parts.map fun (i, x) => (i, g x)) rfl ?_ hk w)
    have := plc_parts (ρ := ρ) (N := h.nx.num) (g := g) (l := parts.toList) (fun x hx => hfg x (by simpa [Op.operands] using hx)) hps
    rw [Array.toList_map]
    exact this
   ·cases hk
  ·cases hk
 case load t a =>
  simp only [lightD] at hk
  split at hk
  ·rename_i n ha; exact PureN.of1 (ldN_sound E ha (hfg a (by simp [Op.operands])) hk)
  ·rename_i n ha; exact PureN.of1 (ld1_sound E ha (hfg a (by simp [Op.operands])) hk)
  ·cases hk
 case nilCheck x =>
  obtain ⟨a, y, h1, h2, h3⟩ := ncK_sound (hfg x (by simp [Op.operands])) hk
  exact ⟨y, g x, by simp [execOp, h1], h2, h3⟩
 case binOp op t x y yt => exact PureN.of1 (bopD_sound (hfg x (by simp [Op.operands])) (hfg y (by simp [Op.operands])) hk w)
 case unOp op t x =>
  cases op
  case neg => exact PureN.of1 (negK_sound (hfg x (by simp [Op.operands])) hk w)
  case xor => exact PureN.of1 (cplK_sound (hfg x (by simp [Op.operands])) hk w)
  case not => exact PureN.of1 (notK_sound (hfg x (by simp [Op.operands])) hk w)
  case plus => cases hk
 case convert s t x => exact PureN.of1 (cnvD_sound E (hfg x (by simp [Op.operands])) hk)
 case makeInterface t x =>
  simp only [lightD] at hk
  split at hk
  ·rename_i hn; exact PureN.of1 ⟨_, .iface t (g x), mi_sound hn (g x) w, .e _ _ _ (hfg x (by simp [Op.operands])), hk⟩
  ·cases hk
 case makeFunc fn first captured =>
  cases fn <;> (try (cases hk; done))
  case func n =>
   refine PureN.of1 ⟨_, .func (.func n) (first.map g) (captured.map g), rfl, ?_, hk⟩
   have := Rel.f (ρ := ρ) (N := h.nx.num) n _ _ _ _ (relL_map (g := g) first.toList fun x hx => hfg x (by simp only [Op.operands, Array.mem_append]; exact .inl (by simpa using hx))) (relL_map (g := g) captured.toList fun x hx => hfg x (by simp only [Op.operands, Array.mem_append]; exact .inr (by simpa using hx)))
   have e1 : ∀ l : Array Operand, (l.toList.map g).toArray = l.map g := fun l => by apply Array.ext'; simp
   rwa [e1, e1] at this
 case slice t x lo hi mx =>
  have hO : ∀ z, (z = x ∨ lo = some z ∨ hi = some z ∨ mx = some z) → Rel ρ h.nx.num (f z) (g z) := fun z hz => hfg z (by
   simp only [Op.operands, Array.mem_append]
   rcases hz with rfl | rfl | rfl | rfl <;> simp)
  simp only [lightD] at hk
  split at hk
  ·rename_i ht; exact PureN.of1 (slsK_sound ht (hO x (.inl rfl)) (relO_map lo fun z hz => hO z (.inr (.inl hz))) (relO_map hi fun z hz => hO z (.inr (.inr (.inl hz)))) (relO_map mx fun z hz => hO z (.inr (.inr (.inr hz)))) hk w)
  ·rename_i e ht
   split at hk
   ·rename_i sz hs; exact PureN.of1 (sllK_sound ht hs (hO x (.inl rfl)) (relO_map lo fun z hz => hO z (.inr (.inl hz))) (relO_map hi fun z hz => hO z (.inr (.inr (.inl hz)))) (relO_map mx fun z hz => hO z (.inr (.inr (.inr hz)))) hk w)
   ·cases hk
  ·rename_i n e ht
   split at hk
   ·rename_i sz hs; exact PureN.of1 (sapK_sound ht (szOf_spec hs) (hO x (.inl rfl)) (relO_map lo fun z hz => hO z (.inr (.inl hz))) (relO_map hi fun z hz => hO z (.inr (.inr (.inl hz)))) hk w)
   ·cases hk
  ·cases hk
 case fieldAddr s x i =>
  simp only [lightD] at hk
  split at hk
  ·rename_i off hs; exact PureN.of1 (faK_sound hs (hfg x (by simp [Op.operands])) hk w)
  ·cases hk
 case field s x i =>
  simp only [lightD] at hk
  split at hk
  ·rename_i off g' n hs; exact PureN.of1 (fdK_sound hs (hfg x (by simp [Op.operands])) hk w)
  ·cases hk
 case indexAddr t x i =>
  simp only [lightD] at hk
  split at hk
  ·rename_i e ht
   split at hk
   ·rename_i sz hs; exact PureN.of1 (iaK_sound ht (szOf_spec hs) (hfg x (by simp [Op.operands])) (hfg i (by simp [Op.operands])) hk w)
   ·cases hk
  ·rename_i n e ht
   split at hk
   ·rename_i sz hs; exact PureN.of1 (iapK_sound ht (szOf_spec hs) (hfg x (by simp [Op.operands])) (hfg i (by simp [Op.operands])) hk w)
   ·cases hk
  ·cases hk
 case index t x i =>
  simp only [lightD] at hk
  split at hk
  ·rename_i ht; exact PureN.of1 (ixK_sound ht (hfg x (by simp [Op.operands])) (hfg i (by simp [Op.operands])) hk w)
  ·cases hk
 case lookup t m x ok =>
  simp only [lightD] at hk
  split at hk
  ·rename_i kt et ht
   split at hk
   ·rename_i str z hs hz; exact PureN.of1 (lkK_sound E ht hs hz (hfg m (by simp [Op.operands])) (hfg x (by simp [Op.operands])) hk)
   ·cases hk
  ·cases hk
 case typeAssert x xt asL ok =>
  simp only [lightD] at hk
  split at hk
  ·rename_i z hn hz; exact PureN.of1 (taK_sound hn hz (hfg x (by simp [Op.operands])) hk w)
  ·cases hk
 case extract x i => exact PureN.of1 (exK_sound (hfg x (by simp [Op.operands])) hk w)
 case call c =>
  obtain ⟨callee, args, argTypes⟩ := c
  simp only [lightD] at hk
  split at hk
  ·rename_i b
   have ha : RelL ρ h.nx.num (args.toList.map f) (args.toList.map g) := relL_map _ fun x hx => hfg x (by simp [Op.operands, Call.operands]; simpa using hx)
   obtain ⟨y, v, h1, h2, h3⟩ := bltD_sound E ha hk type
   refine ⟨y, v, ?_, h2, h3⟩
   have e1 : (args.toList.map g).toArray = args.map g := by apply Array.ext'; simp
   simp only [Array.toArray_toList] at h1
   rw [e1] at h1
   simp only [execOp, resolve, invoke, Sem.run_bind, Sem.run_pure, Result.andThen_ok]
   exact h1 _
  ·cases hk
end
end Go.Proofs.YtpchmdddkpocgaaGreatDoor
