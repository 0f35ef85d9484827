/-
  No claim by itself: slices of structs whose fields are one value each: how they are read, and how an argument is opened to them. | slices of structs, whatever their cells: as they read, and as a row of one's own; append. | TopOrder: an operation's slice, its values; a copy of one. | TopOrder: batches and rows with a list of their own. | TopOrder: rows with a list of their own. | TopOrder: lists of rows; a stream's rows, copied. | TopOrder: a stream's rows, copied. No condition.
-/
import Derived.Test.YtpchmdddkpocgaaGreatDoorP14
import Derived.Test.YtpchmdddkpocgaaGreatDoorP16
import Derived.Deep.Slices
import Derived.Deep.Fields
import Derived.ChangeSame
import Derived.Test.YtpchmdddkpocgaaGreatDoorRows
import Derived.Lib.BufferMore
import Derived.IntWalk
import Derived.Test.YtpchmdddkpocgaaGreatDoorP18
import Derived.Lib.Hide
namespace Go.Proofs.YtpchmdddkpocgaaGreatDoor
set_option maxRecDepth 100000
set_option linter.unusedVariables false
set_option linter.unusedSimpArgs false
open Go.ChangeShapes Go.WideShapes Go.ChangeAt Go.RowKit Go.Deep
def Recs {α : Type} (m : Nat) (f : α → List Value) (w : World) (v : Value) (xs : List α) : Prop :=
 ∃ a cap, v = .slice a xs.length cap ∧ xs.length ≤ cap ∧ cap ≤ 9223372036854775807 ∧
  ∀ k (h : k < xs.length), ∃ b off, a = some ⟨b, off, none⟩ ∧ b < w.heap.size ∧ ∀ j u, (f xs[k])[j]? = some u → w.cell? ⟨b, off + k * m + j, none⟩ = some u
theorem Recs.keeps {α : Type} {m : Nat} {f : α → List Value} {w w' : World} {v : Value} {xs : List α} (h : Recs m f w v xs) (hb : Below w.heap.size w w') : Recs m f w' v xs := by
 obtain ⟨a, cap, hv, h1, h2, h3⟩ := h
 refine ⟨a, cap, hv, h1, h2, fun k hk => ?_⟩
 obtain ⟨b, off, ha, hlt, hc⟩ := h3 k hk
 exact ⟨b, off, ha, Nat.lt_of_lt_of_le hlt hb.size, fun j u hu => by rw [hb.cell (p := ⟨b, off + k * m + j, none⟩) hlt]; exact hc j u hu⟩
theorem list_of_all {α : Type} {R : Nat → α → Prop} (n : Nat) (h : ∀ i, i < n → ∃ x, R i x) : ∃ l : List α, l.length = n ∧ ∀ i (h : i < l.length), R i l[i] := by
 induction n with
 | zero => exact ⟨[], rfl, fun i h => by simp at h⟩
 | succ n ih =>
  obtain ⟨l, hl, hr⟩ := ih (fun i hi => h i (by omega))
  obtain ⟨x, hx⟩ := h n (by omega)
  refine ⟨l ++ [x], by simp [hl], fun i hi => ?_⟩
  rcases Nat.lt_or_ge i l.length with h1 | h1
  ·rw [List.getElem_append_left h1]; exact hr i h1
  ·simp only [List.length_append, List.length_singleton] at hi
   obtain rfl : i = l.length := by omega
   rw [List.getElem_append_right (Nat.le_refl _)]
   simp only [Nat.sub_self, List.getElem_cons_zero]
   rw [hl]
   exact hx
section
variable {H : Type} {enc : TypeId × Value → H} {P : Program} {W : World} {base base' : Nat} {r : Reach}
end
end Go.Proofs.YtpchmdddkpocgaaGreatDoor
namespace Go.Proofs.YtpchmdddkpocgaaGreatDoor
set_option maxRecDepth 100000
set_option linter.unusedVariables false
set_option linter.unusedSimpArgs false
open Go.ChangeShapes Go.WideShapes Go.ChangeAt Go.RowKit
section
variable {α : Type} {m : Nat} {f : α → List Value}
def RxO (m : Nat) (f : α → List Value) (T : TypeId) (w : World) (base : Nat) (v : Value) (es : List α) : Prop := w.ownsRow base T m v es.length (es.flatMap f)
theorem rx_len (hm : ∀ x, (f x).length = m) (es : List α) : (es.flatMap f).length = es.length * m := by
 induction es with
 | nil => simp
 | cons e es ih => rw [List.flatMap_cons, List.length_append, ih, hm, List.length_cons, Nat.succ_mul]; omega
theorem rx_get (hm : ∀ x, (f x).length = m) (es : List α) (k : Nat) (hk : k < es.length) (j : Nat) (hj : j < m) : (es.flatMap f)[k * m + j]? = (f es[k])[j]? := by
 induction es generalizing k with
 | nil => simp at hk
 | cons e es ih =>
  rw [List.flatMap_cons]
  cases k with
  | zero => rw [Nat.zero_mul, Nat.zero_add, List.getElem?_append_left (by rw [hm]; exact hj)]; rfl
  | succ k =>
   have e1 : (k + 1) * m + j - (f e).length = k * m + j := by rw [hm, Nat.succ_mul]; omega
   rw [List.getElem?_append_right (by rw [hm, Nat.succ_mul]; omega), List.getElem_cons_succ, ← ih k (by simpa using hk), e1]
theorem rx_one (h1 : ∀ x, ∀ u ∈ f x, u.oneCell' = true) (es : List α) : ∀ u ∈ es.flatMap f, u.oneCell' = true := by
 intro u hu
 obtain ⟨e, _, he⟩ := List.mem_flatMap.1 hu
 exact h1 e u he
theorem Recs.slice {w : World} {v : Value} {es : List α} (h : Recs m f w v es) : ∃ a cap, v = .slice a es.length cap := by
 obtain ⟨a, cap, hv, _⟩ := h
 exact ⟨a, cap, hv⟩
theorem Recs.zeroL (w : World) (a : Option Addr) (cap : Nat) (hc : cap ≤ 9223372036854775807) : Recs m f w (.slice a 0 cap) [] := ⟨a, cap, rfl, Nat.zero_le _, hc, fun k hk => by simp at hk⟩
theorem Recs.at {w : World} {a : Option Addr} {n cap : Nat} {es : List α} (h : Recs m f w (.slice a n cap) es) (k : Nat) (hk : k < es.length) : ∃ b off, a = some ⟨b, off, none⟩ ∧ b < w.heap.size ∧ ∀ j u, (f es[k])[j]? = some u → w.cell? ⟨b, off + k * m + j, none⟩ = some u := by
 obtain ⟨a', cap', hv, h1, h2, h3⟩ := h
 simp only [Value.slice.injEq] at hv
 obtain ⟨rfl, rfl, rfl⟩ := hv
 exact h3 k hk
theorem Recs.flat (hm : ∀ x, (f x).length = m) {w : World} {a : Option Addr} {n cap : Nat} {es : List α} (h : Recs m f w (.slice a n cap) es) (hne : es ≠ []) : ∃ b off, a = some ⟨b, off, none⟩ ∧ b < w.heap.size ∧ ∀ j u, (es.flatMap f)[j]? = some u → w.cell? ⟨b, off + j, none⟩ = some u := by
 obtain ⟨a', cap', hv, h1, h2, h3⟩ := h
 simp only [Value.slice.injEq] at hv
 obtain ⟨rfl, rfl, rfl⟩ := hv
 obtain ⟨b, off, rfl, hb, _⟩ := h3 0 (by cases es with | nil => exact absurd rfl hne | cons _ _ => simp)
 refine ⟨b, off, rfl, hb, fun j u hu => ?_⟩
 have hj := (List.getElem?_eq_some_iff.1 hu).1
 rw [rx_len hm] at hj
 have hm0 : 0 < m := by
  rcases Nat.eq_zero_or_pos m with e | e
  ·subst e; omega
  ·exact e
 have hk : j / m < es.length := Nat.div_lt_of_lt_mul (by rw [Nat.mul_comm]; exact hj)
 obtain ⟨b', off', he, _, hc⟩ := h3 (j / m) hk
 simp only [Option.some.injEq, Addr.mk.injEq, and_true] at he
 obtain ⟨rfl, rfl⟩ := he
 have e1 : j = j / m * m + j % m := by rw [Nat.mul_comm]; exact (Nat.div_add_mod j m).symm
 have hmod : j % m < m := Nat.mod_lt _ hm0
 rw [e1, rx_get hm es (j / m) hk (j % m) hmod] at hu
 have := hc (j % m) u hu
 rw [Nat.add_assoc, ← e1] at this
 exact this
theorem Recs.take {w : World} {a : Option Addr} {n cap : Nat} {es : List α} (h : Recs m f w (.slice a n cap) es) (k c : Nat) (hk : k ≤ es.length) (hc : k ≤ c) (hcm : c ≤ 9223372036854775807) : Recs m f w (.slice a k c) (es.take k) := by
 obtain ⟨a', cap', hv, h1, h2, h3⟩ := h
 simp only [Value.slice.injEq] at hv
 obtain ⟨rfl, rfl, rfl⟩ := hv
 have hl : (es.take k).length = k := by rw [List.length_take]; omega
 refine ⟨a, c, by rw [hl], by rw [hl]; exact hc, hcm, fun j hj => ?_⟩
 rw [hl] at hj
 obtain ⟨b, off, ha, hb, hcc⟩ := h3 j (by omega)
 refine ⟨b, off, ha, hb, fun i u hu => hcc i u ?_⟩
 rwa [List.getElem_take] at hu
theorem Recs.drop {w : World} {a : Option Addr} {n cap : Nat} {es : List α} (h : Recs m f w (.slice a n cap) es) (k : Nat) (hk : k ≤ es.length) : Recs m f w (.slice (if cap = k then a else a.map (·.add (k * m))) (es.length - k) (cap - k)) (es.drop k) := by
 obtain ⟨a', cap', hv, h1, h2, h3⟩ := h
 simp only [Value.slice.injEq] at hv
 obtain ⟨rfl, rfl, rfl⟩ := hv
 have hl : (es.drop k).length = es.length - k := by rw [List.length_drop]
 refine ⟨_, cap - k, by rw [hl], by rw [hl]; omega, by omega, fun j hj => ?_⟩
 rw [hl] at hj
 obtain ⟨b, off, rfl, hb, hcc⟩ := h3 (k + j) (by omega)
 refine ⟨b, off + k * m, by rw [if_neg (by omega)]; simp [Addr.add_lit], hb, fun i u hu => ?_⟩
 have := hcc i u (by rwa [List.getElem_drop] at hu)
 rw [← this]
 congr 2
 rw [Nat.add_mul]
 omega
theorem RxO.nil (T : TypeId) (w : World) (base : Nat) : RxO m f T w base (.slice none 0 0) [] := World.ownsRow_nil w base _ _
theorem RxO.below {T : TypeId} {w w' : World} {base : Nat} {v : Value} {es : List α} (h : RxO m f T w base v es) (hb : Below w.heap.size w w') : RxO m f T w' base v es := ownsRow_below h hb
theorem RxO.rebase {T : TypeId} {w : World} {base base' : Nat} {v : Value} {es : List α} (h : RxO m f T w base v es) (hb : base' ≤ base) : RxO m f T w base' v es := ownsRow_rebase h hb
theorem RxO.recs (hm : ∀ x, (f x).length = m) {T : TypeId} {w : World} {base : Nat} {v : Value} {es : List α} (h : RxO m f T w base v es) : Recs m f w v es := by
 rcases h.2 with ⟨rfl, hx⟩ | ⟨g, cap, cur, rfl, hb, hg, hnc, hcm, hcs, htake⟩
 ·obtain rfl : es = [] := List.eq_nil_of_length_eq_zero hx
  exact Recs.zeroL _ _ _ (by omega)
 ·refine ⟨_, cap, rfl, hnc, by simpa [maxLen] using hcm, fun k hk => ⟨g, 0, rfl, (Array.getElem?_eq_some_iff.1 hg).1, fun j u hu => ?_⟩⟩
  have hj : j < m := by have := (List.getElem?_eq_some_iff.1 hu).1; rw [hm] at this; exact this
  have hc := World.ownsRow.cells h (g := g) rfl (k * m + j) u (by rw [rx_get hm es k hk j hj]; exact hu)
  rw [Addr.add_lit, Nat.zero_add] at hc
  rw [Nat.zero_add]
  exact hc
theorem RxO.empty (w : World) (T : TypeId) : RxO m f T (w.alloc (.cells #[] T)) w.heap.size (.slice (some ⟨w.heap.size, 0, none⟩) 0 0) [] := by
 refine ⟨by simp, .inr ⟨w.heap.size, 0, #[], rfl, Nat.le_refl _, heap_alloc_new w _, Nat.le_refl _, by decide, by simp, by simp⟩⟩
theorem wpList_append_rx {P : Program} {w : World} {ops : Array Oper} {rest : List Oper} {o : Oper} {a : Act} {Q : Exit → Act → World → Prop} (hm : ∀ x, (f x).length = m) (h1 : ∀ x, ∀ u ∈ f x, u.oneCell' = true) (t T : TypeId) (base : Nat) (z : Value) (bytes : Nat)
  (ht : P.underlying t = some (.slice T)) (hinfo : (P.info? T).map (fun i => (i.zero, i.size, i.bytes)) = some (some z, m, bytes)) (hzs : z.cells.size = m) (hb0 : bytes ≤ 1000) (hm0 : 0 < m)
  (hgd : o.guard = .none) (s x : Operand) (ho : o.op = .call { callee := .builtin .append, args := #[s, x], argTypes := #[t, t] })
  {v : Value} {es : List α} (hown : RxO m f T w base v es) {src : Value} {fs : List α} (hsrc : Recs m f w src fs) (hs : a.eval s = v) (hx : a.eval x = src)
  (hlen : es.length + fs.length ≤ 1000000000) (hbase : base ≤ w.heap.size)
  (h : ∀ v' w', RxO m f T w' base v' (es ++ fs) → w.grownBy w' v.ownBlock → (∀ k, v'.ownBlock = some k → v.ownBlock = some k ∨ w.heap.size ≤ k) → wpList P ops Q rest (a.put o.dst v') w') : wpList P ops Q (o :: rest) a w := by
 obtain ⟨i, hi, hi'⟩ := Option.map_eq_some_iff.1 hinfo
 simp only [Prod.mk.injEq] at hi'
 obtain ⟨hz0, hz1, hz2⟩ := hi'
 obtain ⟨ao, cap, rfl⟩ := hsrc.slice
 refine wpList_append_src (P := P) hgd s x t ho base _ i z m bytes ht hi hz0 hz1 hz2 hzs hm0 v es.length _ hs hown ao fs.length cap (fs.flatMap f) hx (rx_len hm fs) (fun hmm => ?_) (rx_one h1 fs) (by unfold maxLen; omega) (Nat.le_trans (Nat.mul_le_mul hlen hb0) (by decide)) hbase
  (fun v' w' h1 h2 h3 => h v' w' (by unfold RxO; rw [List.length_append, List.flatMap_append]; exact h1) h2 h3)
 obtain ⟨b, off, rfl, _, hc⟩ := hsrc.flat hm (by intro e; subst e; exact hmm rfl)
 exact ⟨_, rfl, fun j u hj => by rw [Addr.add_lit]; exact hc j u hj⟩
end
def opV (c s : Nat) : List Value := [.int .i64 1, .string ⟨#[107, UInt8.ofNat (48 + c)]⟩, .int .i64 1, .int .i64 s, .string .empty, .int .i64 0, .int .i64 0, .string .empty, .int .i64 0]
def opF (x : Nat × Nat) : List Value := opV x.1 x.2
theorem opF_len (x : Nat × Nat) : (opF x).length = 9 := rfl
theorem opF_one (x : Nat × Nat) : ∀ u ∈ opF x, u.oneCell' = true := by
 intro u hu
 simp only [opF, opV, List.mem_cons, List.not_mem_nil, or_false] at hu
 rcases hu with rfl | rfl | rfl | rfl | rfl | rfl | rfl | rfl | rfl <;> rfl
section
variable {ρ ρ' : Q → Loc} {w w' : World} {B N N' : Nat}
theorem rel_s2 {c : Nat} (hc : c ≤ 3) {v : Value} (h : Rel ρ N (.s 2 [107, Nat.add 48 c]) v) : v = .string ⟨#[107, UInt8.ofNat (48 + c)]⟩ := by
 generalize hz : AV.s 2 [107, Nat.add 48 c] = a at h
 cases h with
 | s b =>
  obtain ⟨d⟩ := b
  obtain ⟨l⟩ := d
  simp only [AV.s.injEq] at hz
  obtain ⟨_, h2⟩ := hz
  match l, h2 with
  | [x, y], h2 =>
   simp only [List.map_cons, List.map_nil, List.cons.injEq, and_true] at h2
   obtain ⟨h3, h4⟩ := h2
   have e1 : x = 107 := UInt8.toNat_inj.1 h3.symm
   have e2 : y = UInt8.ofNat (48 + c) := UInt8.toNat_inj.1 (h4.symm.trans (by
    show 48 + c = _
    simp
    omega))
   rw [e1, e2]
 | _ => cases hz
theorem rel_s0 {v : Value} (h : Rel ρ N (.s 0 []) v) : v = .string .empty := by
 generalize hz : AV.s 0 [] = a at h
 cases h with
 | s b =>
  obtain ⟨d⟩ := b
  obtain ⟨l⟩ := d
  simp only [AV.s.injEq] at hz
  obtain ⟨_, h2⟩ := hz
  match l, h2 with
  | [], _ => rfl
 | _ => cases hz
theorem opC_val {c s : Nat} (hc : c ≤ 3) : ∀ j, j < 9 → ∀ (x : Value) (y : AV) (u : Value), (opC c s)[j]? = some y → (opV c s)[j]? = some u → Rel ρ N y x → x = u := by
 intro j hj x y u hy hu hr
 match j, hj with
 | 0, _ => cases hy; cases hu; exact rel_iN hr
 | 1, _ => cases hy; cases hu; exact rel_s2 hc hr
 | 2, _ => cases hy; cases hu; exact rel_iN hr
 | 3, _ => cases hy; cases hu; exact rel_iN hr
 | 4, _ => cases hy; cases hu; exact rel_s0 hr
 | 5, _ => cases hy; cases hu; exact rel_iN hr
 | 6, _ => cases hy; cases hu; exact rel_iN hr
 | 7, _ => cases hy; cases hu; exact rel_s0 hr
 | 8, _ => cases hy; cases hu; exact rel_iN hr
theorem s2_rel {c : Nat} (hc : c ≤ 3) : Rel ρ N (.s 2 [107, Nat.add 48 c]) (.string ⟨#[107, UInt8.ofNat (48 + c)]⟩) := by
 have := Rel.s (ρ := ρ) (N := N) ⟨#[107, UInt8.ofNat (48 + c)]⟩
 have e : (AV.s (ByteArray.mk #[107, UInt8.ofNat (48 + c)]).size ((ByteArray.mk #[107, UInt8.ofNat (48 + c)]).data.toList.map UInt8.toNat)) = AV.s 2 [107, Nat.add 48 c] := by
  have : (UInt8.ofNat (48 + c)).toNat = Nat.add 48 c := by
   show _ = 48 + c
   simp
   omega
  show AV.s 2 [107, (UInt8.ofNat (48 + c)).toNat] = _
  rw [this]
 rw [e] at this
 exact this
theorem s0_rel : Rel ρ N (.s 0 []) (.string .empty) := Rel.s (ρ := ρ) (N := N) .empty
theorem opC_rel {c s : Nat} (hc : c ≤ 3) : ∀ j, j < 9 → ∀ (y : AV) (u : Value), (opC c s)[j]? = some y → (opV c s)[j]? = some u → Rel ρ N y u := by
 intro j hj y u hy hu
 match j, hj with
 | 0, _ => cases hy; cases hu; exact iN_rel 1
 | 1, _ => cases hy; cases hu; exact s2_rel hc
 | 2, _ => cases hy; cases hu; exact iN_rel 1
 | 3, _ => cases hy; cases hu; exact iN_rel s
 | 4, _ => cases hy; cases hu; exact s0_rel
 | 5, _ => cases hy; cases hu; exact iN_rel 0
 | 6, _ => cases hy; cases hu; exact iN_rel 0
 | 7, _ => cases hy; cases hu; exact s0_rel
 | 8, _ => cases hy; cases hu; exact iN_rel 0
theorem OpsAt.recs {v : Value} {c s : Nat} (h : OpsAt w v c s) (hc : c ≤ 3) : Recs 9 opF w v [(c, s)] := by
 have hlt := h.lt
 obtain ⟨l, rfl, h2, h3, h4⟩ := h
 refine ⟨_, _, rfl, h2, h3, fun k hk => ⟨l.blk, l.base, rfl, hlt, fun j u hu => ?_⟩⟩
 obtain rfl : k = 0 := by simpa using hk
 have hu : (opV c s)[j]? = some u := hu
 have hj : j < 9 := (List.getElem?_eq_some_iff.1 hu).1
 obtain ⟨x, c1, c2, _⟩ := (h4 (fun _ => l) 0).get j hj
 have hj' : j < (opC c s).length := hj
 rw [V.ofL_get (opC c s) j hj'] at c2
 have := opC_val hc j hj x _ u (List.getElem?_eq_getElem hj') hu c2
 rw [← this, Nat.zero_mul, Nat.add_zero]
 exact c1
theorem cells_op : Tryz.prog.cellsOf 32 = 9 := by kernel_rfl
theorem OpsAt.of_own {base : Nat} {v : Value} {c s : Nat} (h : RxO 9 opF 32 w base v [(c, s)]) (hc : c ≤ 3) : OpsAt w v c s ∧ base ≤ opsB v := by
 rcases h.2 with ⟨_, hx⟩ | ⟨g, cap, cur, rfl, hb, hg, hnc, hcm, hcs, htake⟩
 ·cases hx
 refine ⟨⟨⟨g, 0, cap, 0, fun _ => .empty, fun _ _ => .bool false, fun _ => .nil⟩, rfl, hnc, by simpa [maxLen] using hcm, fun ρ N => ⟨⟨cur.size, by unfold World.shape?; simp only [hg], ?_, ?_, fun o ho => ?_⟩, fun i hi => ?_⟩⟩, hb⟩
 ·show 0 + 9 ≤ _
  rw [hcs]
  simp only [List.length_cons, List.length_nil] at hnc
  omega
 ·show 0 + cap * _ ≤ _
  rw [hcs, cells_op, Nat.zero_add]
  exact Nat.le_refl _
 ·unfold World.frozen?
  simp [hg]
 ·have htk : cur.toList.take 9 = opV c s := htake
  have hl : i < (opV c s).length := hi
  have hu : (opV c s)[i]? = some ((opV c s)[i]'hl) := List.getElem?_eq_getElem hl
  have hcu : cur[i]? = some ((opV c s)[i]'hl) := by
   rw [← hu, ← htk, List.getElem?_take_of_lt hi, Array.getElem?_toList]
  refine ⟨_, ?_, ?_, opF_one (c, s) _ (List.getElem_mem hl)⟩
  ·show w.cell? ⟨g, 0 + i, none⟩ = _
   unfold World.cell?
   simp only [hg, Nat.zero_add]
   rw [← hcu]
   simp
  ·have hi' : i < (opC c s).length := hi
   rw [V.ofL_get (opC c s) i hi']
   exact opC_rel hc i hi _ _ (List.getElem?_eq_getElem hi') hu
end
theorem info_op : ∃ z b, (Tryz.prog.info? 32).map (fun i => (i.zero, i.size, i.bytes)) = some (some z, 9, b) ∧ z.cells.size = 9 ∧ b ≤ 1000 := by
 refine ⟨.agg #[.int .i64 0, .string .empty, .int .i64 0, .int .i64 0, .string .empty, .int .i64 0, .int .i64 0, .string .empty, .int .i64 0], 96, by kernel_rfl, rfl, by decide⟩
def RetOps (w : World) (c s : Nat) (e : Ending) (w' : World) : Prop := ∃ v, e = .returned v ∧ OpsAt w' v c s ∧ w.heap.size ≤ opsB v ∧ Below w.heap.size w w'
theorem op_clone {v : Value} {c s : Nat} {w : World} (h : OpsAt w v c s) (hc : c ≤ 3) :
  Calls Tryz.prog 90 #[v] w fun e w' => RetOps w c s e w' := by
 obtain ⟨z, by_, hinf, hz, hby⟩ := info_op
 have hb0 := (Below.refl w.heap.size w).alloc (Nat.le_refl _) (.cells #[] 32)
 have hr := (h.recs hc).keeps hb0
 obtain ⟨l, rfl, h2, h3, h4⟩ := h
 have he : ∀ w : World, (binOp .eql 46 (.slice (some ⟨l.blk, l.base, none⟩) 1 l.cap) (.slice none 0 0)).run Tryz.prog w = .ok (.bool false) w := fun W => Lib.run_eql_slice_some_nil W _ _ _ Tryz.underlying46
 clear h4
 go_enter Tryz.func90, Tryz.ntmps90
 go_wp2_with (at_builtin; refine wpList_append_rx opF_len opF_one 46 32 w.heap.size z by_ Tryz.underlying46 hinf hz hby (by decide) rfl _ _ rfl (RxO.empty w _) hr rfl rfl (by simp) (by simp) ?_)
 intro v' w' ho hg hk
 have hb : Below w.heap.size w w' := hb0.grown hg (by simp) (fun k hk => by simp [Value.ownBlock] at hk; omega)
 clear hk hg
 go_wp2_with fail
 go_ret
 obtain ⟨o1, o2⟩ := OpsAt.of_own ho hc
 exact ⟨_, rfl, o1, o2, hb⟩
theorem setCell_size (w : World) (p : Addr) (u : Value) : (w.setCell p u).heap.size = w.heap.size := by simp [World.setCell]
theorem OpsAt.below {w w' : World} {v : Value} {c s : Nat} (h : OpsAt w v c s) (hb : Below w.heap.size w w') : OpsAt w' v c s := h.stay (hb.block _ h.lt)
theorem OpsAt.one {w : World} {v : Value} {c s : Nat} (h : OpsAt w v c s) : v.oneCell' = true := by
 obtain ⟨l, rfl, _⟩ := h
 rfl
theorem OpsAt.val {w : World} {v : Value} {c s : Nat} (h : OpsAt w v c s) : ∃ a n m, v = .slice (some a) n m := by
 obtain ⟨l, rfl, _⟩ := h
 exact ⟨_, _, _, rfl⟩
structure VB where
 x : Int
 y : Int
 v : Value
 h : v.oneCell' = true
structure VR where
 i : Int
 x : Int
 y : Int
 v : Value
 h : v.oneCell' = true
def vbF (b : VB) : List Value := [.int .i64 b.x, .int .i64 b.y, b.v]
def vrF (r : VR) : List Value := [.int .i64 r.i, .int .i64 r.x, .int .i64 r.y, r.v, .int .i64 0]
theorem vbF_len (b : VB) : (vbF b).length = 3 := rfl
theorem vrF_len (r : VR) : (vrF r).length = 5 := rfl
theorem vbF_one (b : VB) : ∀ u ∈ vbF b, u.oneCell' = true := by
 intro u hu
 simp only [vbF, List.mem_cons, List.not_mem_nil, or_false] at hu
 rcases hu with rfl | rfl | rfl
 ·rfl
 ·rfl
 ·exact b.h
theorem vrF_one (r : VR) : ∀ u ∈ vrF r, u.oneCell' = true := by
 intro u hu
 simp only [vrF, List.mem_cons, List.not_mem_nil, or_false] at hu
 rcases hu with rfl | rfl | rfl | rfl | rfl
 ·rfl
 ·rfl
 ·rfl
 ·exact r.h
 ·rfl
structure BatB (w : World) (X : Nat) (x y : Int) (v : Value) : Prop where
 lt : X < w.heap.size
 c0 : w.cell? ⟨X, 0, none⟩ = some (.int .i64 x)
 c1 : w.cell? ⟨X, 1, none⟩ = some (.int .i64 y)
 c2 : w.cell? ⟨X, 2, none⟩ = some v
 fr : ∀ j, w.frozen? ⟨X, j, none⟩ = false
structure RowB (w : World) (X : Nat) (i x y : Int) (v : Value) : Prop where
 lt : X < w.heap.size
 c0 : w.cell? ⟨X, 0, none⟩ = some (.int .i64 i)
 c1 : w.cell? ⟨X, 1, none⟩ = some (.int .i64 x)
 c2 : w.cell? ⟨X, 2, none⟩ = some (.int .i64 y)
 c3 : w.cell? ⟨X, 3, none⟩ = some v
 c4 : w.cell? ⟨X, 4, none⟩ = some (.int .i64 0)
 fr : ∀ j, w.frozen? ⟨X, j, none⟩ = false
section
variable {w w' : World} {X : Nat} {i x y i' x' y' : Int} {v v' : Value}
theorem BatB.new (w : World) (x y : Int) (v : Value) (T : TypeId) : BatB (w.alloc (.cells #[.int .i64 x, .int .i64 y, v] T)) w.heap.size x y v :=
 ⟨by simp, World.cell?_alloc_new _ _ _ _, World.cell?_alloc_new _ _ _ _, World.cell?_alloc_new _ _ _ _, fun _ => World.frozen?_alloc_new _ _ _ _⟩
theorem RowB.new (w : World) (i x y : Int) (v : Value) (T : TypeId) : RowB (w.alloc (.cells #[.int .i64 i, .int .i64 x, .int .i64 y, v, .int .i64 0] T)) w.heap.size i x y v :=
 ⟨by simp, World.cell?_alloc_new _ _ _ _, World.cell?_alloc_new _ _ _ _, World.cell?_alloc_new _ _ _ _, World.cell?_alloc_new _ _ _ _, World.cell?_alloc_new _ _ _ _, fun _ => World.frozen?_alloc_new _ _ _ _⟩
theorem BatB.keeps (h : BatB w X x y v) (hs : w.heap.size ≤ w'.heap.size) (hb : w'.heap[X]? = w.heap[X]?) : BatB w' X x y v :=
 ⟨Nat.lt_of_lt_of_le h.lt hs, (World.cell?_of_block (w := w) (a := ⟨X, 0, none⟩) hb).trans h.c0, (World.cell?_of_block (w := w) (a := ⟨X, 1, none⟩) hb).trans h.c1, (World.cell?_of_block (w := w) (a := ⟨X, 2, none⟩) hb).trans h.c2, fun j => (World.frozen?_of_block (w := w) (a := ⟨X, j, none⟩) hb).trans (h.fr j)⟩
theorem RowB.keeps (h : RowB w X i x y v) (hs : w.heap.size ≤ w'.heap.size) (hb : w'.heap[X]? = w.heap[X]?) : RowB w' X i x y v :=
 ⟨Nat.lt_of_lt_of_le h.lt hs, (World.cell?_of_block (w := w) (a := ⟨X, 0, none⟩) hb).trans h.c0, (World.cell?_of_block (w := w) (a := ⟨X, 1, none⟩) hb).trans h.c1, (World.cell?_of_block (w := w) (a := ⟨X, 2, none⟩) hb).trans h.c2, (World.cell?_of_block (w := w) (a := ⟨X, 3, none⟩) hb).trans h.c3, (World.cell?_of_block (w := w) (a := ⟨X, 4, none⟩) hb).trans h.c4, fun j => (World.frozen?_of_block (w := w) (a := ⟨X, j, none⟩) hb).trans (h.fr j)⟩
theorem BatB.below (h : BatB w X x y v) (hb : Below w.heap.size w w') : BatB w' X x y v := h.keeps hb.size (hb.block _ h.lt)
theorem RowB.below (h : RowB w X i x y v) (hb : Below w.heap.size w w') : RowB w' X i x y v := h.keeps hb.size (hb.block _ h.lt)
theorem BatB.set2 (h : BatB w X x y v) (v' : Value) : BatB (w.setCell ⟨X, 2, none⟩ v') X x y v' :=
 ⟨by rw [setCell_size]; exact h.lt, (World.cell?_setCell_other _ _ _ _ (by simp)).trans h.c0, (World.cell?_setCell_other _ _ _ _ (by simp)).trans h.c1, World.cell?_setCell_same _ _ _ h.c2, fun j => by rw [World.frozen?_setCell]; exact h.fr j⟩
theorem RowB.set3 (h : RowB w X i x y v) (v' : Value) : RowB (w.setCell ⟨X, 3, none⟩ v') X i x y v' :=
 ⟨by rw [setCell_size]; exact h.lt, (World.cell?_setCell_other _ _ _ _ (by simp)).trans h.c0, (World.cell?_setCell_other _ _ _ _ (by simp)).trans h.c1, (World.cell?_setCell_other _ _ _ _ (by simp)).trans h.c2, World.cell?_setCell_same _ _ _ h.c3, (World.cell?_setCell_other _ _ _ _ (by simp)).trans h.c4, fun j => by rw [World.frozen?_setCell]; exact h.fr j⟩
theorem BatB.setAll (h : BatB w X x y v) (x' y' : Int) (v' : Value) : BatB (((w.setCell ⟨X, 0, none⟩ (.int .i64 x')).setCell ⟨X, 1, none⟩ (.int .i64 y')).setCell ⟨X, 2, none⟩ v') X x' y' v' := by
 have h1 : (w.setCell ⟨X, 0, none⟩ (.int .i64 x')).cell? ⟨X, 0, none⟩ = some (.int .i64 x') := World.cell?_setCell_same _ _ _ h.c0
 have h2 : (w.setCell ⟨X, 0, none⟩ (.int .i64 x')).cell? ⟨X, 1, none⟩ = some (.int .i64 y) := (World.cell?_setCell_other _ _ _ _ (by simp)).trans h.c1
 have h3 : (w.setCell ⟨X, 0, none⟩ (.int .i64 x')).cell? ⟨X, 2, none⟩ = some v := (World.cell?_setCell_other _ _ _ _ (by simp)).trans h.c2
 refine ⟨by rw [setCell_size, setCell_size, setCell_size]; exact h.lt, ?_, ?_, ?_, fun j => by rw [World.frozen?_setCell, World.frozen?_setCell, World.frozen?_setCell]; exact h.fr j⟩
 ·exact (World.cell?_setCell_other _ _ _ _ (by simp)).trans ((World.cell?_setCell_other _ _ _ _ (by simp)).trans h1)
 ·exact (World.cell?_setCell_other _ _ _ _ (by simp)).trans (World.cell?_setCell_same _ _ _ h2)
 ·exact World.cell?_setCell_same _ _ _ ((World.cell?_setCell_other _ _ _ _ (by simp)).trans h3)
theorem RowB.setAll (h : RowB w X i x y v) (i' x' y' : Int) (v' : Value) : RowB (((((w.setCell ⟨X, 0, none⟩ (.int .i64 i')).setCell ⟨X, 1, none⟩ (.int .i64 x')).setCell ⟨X, 2, none⟩ (.int .i64 y')).setCell ⟨X, 3, none⟩ v').setCell ⟨X, 4, none⟩ (.int .i64 0)) X i' x' y' v' := by
 have a0 : RowB (w.setCell ⟨X, 0, none⟩ (.int .i64 i')) X i' x y v := ⟨by rw [setCell_size]; exact h.lt, World.cell?_setCell_same _ _ _ h.c0, (World.cell?_setCell_other _ _ _ _ (by simp)).trans h.c1, (World.cell?_setCell_other _ _ _ _ (by simp)).trans h.c2, (World.cell?_setCell_other _ _ _ _ (by simp)).trans h.c3, (World.cell?_setCell_other _ _ _ _ (by simp)).trans h.c4, fun j => by rw [World.frozen?_setCell]; exact h.fr j⟩
 generalize w.setCell ⟨X, 0, none⟩ _ = w1 at *
 have a1 : RowB (w1.setCell ⟨X, 1, none⟩ (.int .i64 x')) X i' x' y v := ⟨by rw [setCell_size]; exact a0.lt, (World.cell?_setCell_other _ _ _ _ (by simp)).trans a0.c0, World.cell?_setCell_same _ _ _ a0.c1, (World.cell?_setCell_other _ _ _ _ (by simp)).trans a0.c2, (World.cell?_setCell_other _ _ _ _ (by simp)).trans a0.c3, (World.cell?_setCell_other _ _ _ _ (by simp)).trans a0.c4, fun j => by rw [World.frozen?_setCell]; exact a0.fr j⟩
 generalize w1.setCell ⟨X, 1, none⟩ _ = w2 at *
 have a2 : RowB (w2.setCell ⟨X, 2, none⟩ (.int .i64 y')) X i' x' y' v := ⟨by rw [setCell_size]; exact a1.lt, (World.cell?_setCell_other _ _ _ _ (by simp)).trans a1.c0, (World.cell?_setCell_other _ _ _ _ (by simp)).trans a1.c1, World.cell?_setCell_same _ _ _ a1.c2, (World.cell?_setCell_other _ _ _ _ (by simp)).trans a1.c3, (World.cell?_setCell_other _ _ _ _ (by simp)).trans a1.c4, fun j => by rw [World.frozen?_setCell]; exact a1.fr j⟩
 generalize w2.setCell ⟨X, 2, none⟩ _ = w3 at *
 have a3 := a2.set3 v'
 generalize w3.setCell ⟨X, 3, none⟩ _ = w4 at *
 exact ⟨by rw [setCell_size]; exact a3.lt, (World.cell?_setCell_other _ _ _ _ (by simp)).trans a3.c0, (World.cell?_setCell_other _ _ _ _ (by simp)).trans a3.c1, (World.cell?_setCell_other _ _ _ _ (by simp)).trans a3.c2, (World.cell?_setCell_other _ _ _ _ (by simp)).trans a3.c3, World.cell?_setCell_same _ _ _ a3.c4, fun j => by rw [World.frozen?_setCell]; exact a3.fr j⟩
end
theorem load_bat {w : World} {X : Nat} {x y : Int} {v : Value} (h : BatB w X x y v) : (loadVar 48 ⟨X, 0, none⟩).run Tryz.prog w = .ok (.agg #[.int .i64 x, .int .i64 y, v]) w := by
 have c0 := h.c0
 have c1 := h.c1
 have c2 := h.c2
 unfold loadVar
 go_simp
theorem load_row {w : World} {X : Nat} {i x y : Int} {v : Value} (h : RowB w X i x y v) : (loadVar 50 ⟨X, 0, none⟩).run Tryz.prog w = .ok (.agg #[.int .i64 i, .int .i64 x, .int .i64 y, v, .int .i64 0]) w := by
 have c0 := h.c0
 have c1 := h.c1
 have c2 := h.c2
 have c3 := h.c3
 have c4 := h.c4
 unfold loadVar
 go_simp
theorem results_cell1 {fn : Func} {p : Tmp} {ty : TypeId} (h : fn.results = #[.cell p ty]) (tmps : Array Value) (P : Program) (w : World) (a : Addr) (v : Value)
  (hp : tmps.getD p undef = .pointer (some a)) (hl : (loadVar ty a).run P w = .ok v w) : (results fn tmps).run P w = .ok v w := by
 simp only [results, h]
 simp only [Array.getD_eq_getD_getElem?] at hp
 simp [hp, asAddr, hl]
theorem queue_own {v : Value} {c s : Nat} {w : World} (h : OpsAt w v c s) (hc : c ≤ 3) (x y : Int) :
  Calls Tryz.prog 73 #[.agg #[.int .i64 x, .int .i64 y, v]] w fun e w' => ∃ v', e = .returned (.agg #[.int .i64 x, .int .i64 y, v']) ∧ OpsAt w' v' c s ∧ w.heap.size ≤ opsB v' ∧ Below w.heap.size w w' := by
 have hone := h.one
 have hb1 := (Below.refl w.heap.size w).alloc (Nat.le_refl _) (.cells #[.int .i64 x, .int .i64 y, v] 48)
 have X1 := BatB.new w x y v 48
 have s1 : (w.alloc (.cells #[.int .i64 x, .int .i64 y, v] 48)).heap.size = w.heap.size + 1 := by simp
 replace h := h.below hb1
 go_enter Tryz.func73, Tryz.ntmps73
 go_wp2_with fail
 generalize w.alloc _ = w1 at *
 rw [← s1]
 have hb2 := (Below.refl w1.heap.size w1).alloc (Nat.le_refl _) (.cells #[.int .i64 0, .int .i64 0, .slice none 0 0] 48)
 have Y1 := BatB.new w1 0 0 (.slice none 0 0) 48
 replace h := h.below hb2
 replace X1 := X1.below hb2
 have hB := hb1.trans (hb2.mono hb1.size)
 have hne : w.heap.size < w1.heap.size := by omega
 clear hb1 s1
 have s1 : w1.heap.size < _ := Y1.lt
 generalize w1.alloc _ = w2 at *
 refine (op_clone h hc).mono ?_
 rintro e w3 ⟨v', rfl, ho, hlt, hb3⟩
 replace X1 := X1.below hb3
 replace Y1 := Y1.below hb3
 replace hB := hB.trans (hb3.mono hB.size)
 obtain ⟨la, ln, lm, rfl⟩ := ho.val
 have f2 := X1.fr 2
 have X2 := Lib.hid (X1.set2 (.slice (some la) ln lm))
 have x0 := X1.c0
 have x1 := X1.c1
 have x2 := X1.c2
 have y0 := Y1.c0
 have y1 := Y1.c1
 have y2 := Y1.c2
 have yf := Y1.fr
 have HO := Lib.hid (And.intro ho hlt)
 have HB := Lib.hid hB
 have HY := Lib.hid Y1
 have HX := Lib.hid X1
 clear hb2 hb3 h ho hlt hB X1 Y1 hone
 go_wp2_with fail
 have hk2 := HB.out.setCell (p := ⟨w.heap.size, 2, none⟩) (Nat.le_refl _) (.slice (some la) ln lm)
 have Y2 := HY.out.keeps (w' := w3.setCell ⟨w.heap.size, 2, none⟩ (.slice (some la) ln lm)) (Nat.le_of_eq (by rw [setCell_size])) (Below.heap_setCell _ _ _ _ (Nat.ne_of_gt hne))
 have ho := HO.out.1
 have hlt := HO.out.2
 refine bodyPost_ret (results_cell1 rfl _ _ _ _ _ rfl (load_bat (Y2.setAll x y (.slice (some la) ln lm)))) rfl ?_
 refine ⟨_, rfl, ho.stay ?_, ?_, ((hk2.setCell (p := ⟨w1.heap.size, 0, none⟩) (Nat.le_of_lt hne) _).setCell (p := ⟨w1.heap.size, 1, none⟩) (Nat.le_of_lt hne) _).setCell (p := ⟨w1.heap.size, 2, none⟩) (Nat.le_of_lt hne) _⟩
 ·have n1 : opsB (.slice (some la) ln lm) ≠ w1.heap.size := by omega
  have n2 : opsB (.slice (some la) ln lm) ≠ w.heap.size := by omega
  exact (Below.heap_setCell _ ⟨w1.heap.size, 2, none⟩ _ _ n1).trans ((Below.heap_setCell _ ⟨w1.heap.size, 1, none⟩ _ _ n1).trans ((Below.heap_setCell _ ⟨w1.heap.size, 0, none⟩ _ _ n1).trans (Below.heap_setCell _ ⟨w.heap.size, 2, none⟩ _ _ n2)))
 ·omega
theorem stream_own {v : Value} {c s : Nat} {w : World} (h : OpsAt w v c s) (hc : c ≤ 3) (i x y : Int) :
  Calls Tryz.prog 48 #[.agg #[.int .i64 i, .int .i64 x, .int .i64 y, v, .int .i64 0]] w fun e w' => ∃ v', e = .returned (.agg #[.int .i64 i, .int .i64 x, .int .i64 y, v', .int .i64 0]) ∧ OpsAt w' v' c s ∧ w.heap.size ≤ opsB v' ∧ Below w.heap.size w w' := by
 have hone := h.one
 have hb1 := (Below.refl w.heap.size w).alloc (Nat.le_refl _) (.cells #[.int .i64 i, .int .i64 x, .int .i64 y, v, .int .i64 0] 50)
 have X1 := RowB.new w i x y v 50
 have s1 : (w.alloc (.cells #[.int .i64 i, .int .i64 x, .int .i64 y, v, .int .i64 0] 50)).heap.size = w.heap.size + 1 := by simp
 replace h := h.below hb1
 go_enter Tryz.func48, Tryz.ntmps48
 go_wp2_with fail
 generalize w.alloc _ = w1 at *
 rw [← s1]
 have hb2 := (Below.refl w1.heap.size w1).alloc (Nat.le_refl _) (.cells #[.int .i64 0, .int .i64 0, .int .i64 0, .slice none 0 0, .int .i64 0] 50)
 have Y1 := RowB.new w1 0 0 0 (.slice none 0 0) 50
 replace h := h.below hb2
 replace X1 := X1.below hb2
 have hB := hb1.trans (hb2.mono hb1.size)
 have hne : w.heap.size < w1.heap.size := by omega
 clear hb1 s1
 have s1 : w1.heap.size < _ := Y1.lt
 generalize w1.alloc _ = w2 at *
 refine (op_clone h hc).mono ?_
 rintro e w3 ⟨v', rfl, ho, hlt, hb3⟩
 replace X1 := X1.below hb3
 replace Y1 := Y1.below hb3
 replace hB := hB.trans (hb3.mono hB.size)
 obtain ⟨la, ln, lm, rfl⟩ := ho.val
 have f3 := X1.fr 3
 have X2 := Lib.hid (X1.set3 (.slice (some la) ln lm))
 have x0 := X1.c0
 have x1 := X1.c1
 have x2 := X1.c2
 have x3 := X1.c3
 have x4 := X1.c4
 have y0 := Y1.c0
 have y1 := Y1.c1
 have y2 := Y1.c2
 have y3 := Y1.c3
 have y4 := Y1.c4
 have yf := Y1.fr
 have HO := Lib.hid (And.intro ho hlt)
 have HB := Lib.hid hB
 have HY := Lib.hid Y1
 have HX := Lib.hid X1
 clear hb2 hb3 h ho hlt hB X1 Y1 hone
 go_wp2_with fail
 have hk2 := HB.out.setCell (p := ⟨w.heap.size, 3, none⟩) (Nat.le_refl _) (.slice (some la) ln lm)
 have Y2 := HY.out.keeps (w' := w3.setCell ⟨w.heap.size, 3, none⟩ (.slice (some la) ln lm)) (Nat.le_of_eq (by rw [setCell_size])) (Below.heap_setCell _ _ _ _ (Nat.ne_of_gt hne))
 have ho := HO.out.1
 have hlt := HO.out.2
 refine bodyPost_ret (results_cell1 rfl _ _ _ _ _ rfl (load_row (Y2.setAll i x y (.slice (some la) ln lm)))) rfl ?_
 refine ⟨_, rfl, ho.stay ?_, ?_, ((((hk2.setCell (p := ⟨w1.heap.size, 0, none⟩) (Nat.le_of_lt hne) _).setCell (p := ⟨w1.heap.size, 1, none⟩) (Nat.le_of_lt hne) _).setCell (p := ⟨w1.heap.size, 2, none⟩) (Nat.le_of_lt hne) _).setCell (p := ⟨w1.heap.size, 3, none⟩) (Nat.le_of_lt hne) _).setCell (p := ⟨w1.heap.size, 4, none⟩) (Nat.le_of_lt hne) _⟩
 ·have n1 : opsB (.slice (some la) ln lm) ≠ w1.heap.size := by omega
  have n2 : opsB (.slice (some la) ln lm) ≠ w.heap.size := by omega
  exact (Below.heap_setCell _ ⟨w1.heap.size, 4, none⟩ _ _ n1).trans ((Below.heap_setCell _ ⟨w1.heap.size, 3, none⟩ _ _ n1).trans ((Below.heap_setCell _ ⟨w1.heap.size, 2, none⟩ _ _ n1).trans ((Below.heap_setCell _ ⟨w1.heap.size, 1, none⟩ _ _ n1).trans ((Below.heap_setCell _ ⟨w1.heap.size, 0, none⟩ _ _ n1).trans (Below.heap_setCell _ ⟨w.heap.size, 3, none⟩ _ _ n2)))))
 ·omega
theorem table_own {v : Value} {c s : Nat} {w : World} (h : OpsAt w v c s) (hc : c ≤ 3) (i x y : Int) :
  Calls Tryz.prog 160 #[.agg #[.int .i64 i, .int .i64 x, .int .i64 y, v, .int .i64 0]] w fun e w' => ∃ v', e = .returned (.agg #[.int .i64 i, .int .i64 x, .int .i64 y, v', .int .i64 0]) ∧ OpsAt w' v' c s ∧ w.heap.size ≤ opsB v' ∧ Below w.heap.size w w' := by
 have hone := h.one
 have hb1 := (Below.refl w.heap.size w).alloc (Nat.le_refl _) (.cells #[.int .i64 i, .int .i64 x, .int .i64 y, v, .int .i64 0] 50)
 have X1 := RowB.new w i x y v 50
 have s1 : (w.alloc (.cells #[.int .i64 i, .int .i64 x, .int .i64 y, v, .int .i64 0] 50)).heap.size = w.heap.size + 1 := by simp
 replace h := h.below hb1
 go_enter Tryz.func160, Tryz.ntmps160
 go_wp2_with fail
 generalize w.alloc _ = w1 at *
 rw [← s1]
 have hb2 := (Below.refl w1.heap.size w1).alloc (Nat.le_refl _) (.cells #[.int .i64 0, .int .i64 0, .int .i64 0, .slice none 0 0, .int .i64 0] 50)
 have Y1 := RowB.new w1 0 0 0 (.slice none 0 0) 50
 replace h := h.below hb2
 replace X1 := X1.below hb2
 have hB := hb1.trans (hb2.mono hb1.size)
 have hne : w.heap.size < w1.heap.size := by omega
 clear hb1 s1
 have s1 : w1.heap.size < _ := Y1.lt
 generalize w1.alloc _ = w2 at *
 refine (op_clone h hc).mono ?_
 rintro e w3 ⟨v', rfl, ho, hlt, hb3⟩
 replace X1 := X1.below hb3
 replace Y1 := Y1.below hb3
 replace hB := hB.trans (hb3.mono hB.size)
 obtain ⟨la, ln, lm, rfl⟩ := ho.val
 have f3 := X1.fr 3
 have X2 := Lib.hid (X1.set3 (.slice (some la) ln lm))
 have x0 := X1.c0
 have x1 := X1.c1
 have x2 := X1.c2
 have x3 := X1.c3
 have x4 := X1.c4
 have y0 := Y1.c0
 have y1 := Y1.c1
 have y2 := Y1.c2
 have y3 := Y1.c3
 have y4 := Y1.c4
 have yf := Y1.fr
 have HO := Lib.hid (And.intro ho hlt)
 have HB := Lib.hid hB
 have HY := Lib.hid Y1
 have HX := Lib.hid X1
 clear hb2 hb3 h ho hlt hB X1 Y1 hone
 go_wp2_with fail
 have hk2 := HB.out.setCell (p := ⟨w.heap.size, 3, none⟩) (Nat.le_refl _) (.slice (some la) ln lm)
 have Y2 := HY.out.keeps (w' := w3.setCell ⟨w.heap.size, 3, none⟩ (.slice (some la) ln lm)) (Nat.le_of_eq (by rw [setCell_size])) (Below.heap_setCell _ _ _ _ (Nat.ne_of_gt hne))
 have ho := HO.out.1
 have hlt := HO.out.2
 refine bodyPost_ret (results_cell1 rfl _ _ _ _ _ rfl (load_row (Y2.setAll i x y (.slice (some la) ln lm)))) rfl ?_
 refine ⟨_, rfl, ho.stay ?_, ?_, ((((hk2.setCell (p := ⟨w1.heap.size, 0, none⟩) (Nat.le_of_lt hne) _).setCell (p := ⟨w1.heap.size, 1, none⟩) (Nat.le_of_lt hne) _).setCell (p := ⟨w1.heap.size, 2, none⟩) (Nat.le_of_lt hne) _).setCell (p := ⟨w1.heap.size, 3, none⟩) (Nat.le_of_lt hne) _).setCell (p := ⟨w1.heap.size, 4, none⟩) (Nat.le_of_lt hne) _⟩
 ·have n1 : opsB (.slice (some la) ln lm) ≠ w1.heap.size := by omega
  have n2 : opsB (.slice (some la) ln lm) ≠ w.heap.size := by omega
  exact (Below.heap_setCell _ ⟨w1.heap.size, 4, none⟩ _ _ n1).trans ((Below.heap_setCell _ ⟨w1.heap.size, 3, none⟩ _ _ n1).trans ((Below.heap_setCell _ ⟨w1.heap.size, 2, none⟩ _ _ n1).trans ((Below.heap_setCell _ ⟨w1.heap.size, 1, none⟩ _ _ n1).trans ((Below.heap_setCell _ ⟨w1.heap.size, 0, none⟩ _ _ n1).trans (Below.heap_setCell _ ⟨w.heap.size, 3, none⟩ _ _ n2)))))
 ·omega
def RsAt (w : World) (o : Nat) (R : List (Nat × Nat)) (rs : List VR) : Prop := rs.length = R.length ∧ ∀ k (h : k < rs.length) (h' : k < R.length), rs[k].i = ((o + k + 1 : Nat) : Int) ∧ rs[k].x = (R[k].1 : Int) ∧ rs[k].y = (R[k].2 : Int) ∧ OpsAt w rs[k].v R[k].1 (R[k].2 - 1)
theorem RsAt.below {w w' : World} {o : Nat} {R : List (Nat × Nat)} {rs : List VR} (h : RsAt w o R rs) (hb : Below w.heap.size w w') : RsAt w' o R rs :=
 ⟨h.1, fun k h1 h2 => ⟨(h.2 k h1 h2).1, (h.2 k h1 h2).2.1, (h.2 k h1 h2).2.2.1, (h.2 k h1 h2).2.2.2.below hb⟩⟩
theorem RsAt.snoc {w : World} {o : Nat} {R : List (Nat × Nat)} {rs : List VR} (h : RsAt w o R rs) {r : VR} {x : Nat × Nat} (hi : r.i = ((o + R.length + 1 : Nat) : Int)) (hx : r.x = (x.1 : Int)) (hy : r.y = (x.2 : Int)) (ho : OpsAt w r.v x.1 (x.2 - 1)) : RsAt w o (R ++ [x]) (rs ++ [r]) := by
 refine ⟨by simp [h.1], fun k h1 h2 => ?_⟩
 by_cases hk : k < rs.length
 ·rw [List.getElem_append_left hk, List.getElem_append_left (by rw [← h.1]; exact hk)]
  exact h.2 k hk _
 ·have hk : k = rs.length := by simp at h1; omega
  subst hk
  have hl := h.1
  rw [List.getElem_append_right (Nat.le_refl _), List.getElem_append_right (by omega)]
  simp only [hl, Nat.sub_self, List.getElem_cons_zero]
  exact ⟨hi, hx, hy, ho⟩
def MadeR (w wr : World) (o : Nat) (R : List (Nat × Nat)) (v : Value) : Prop := ∃ ks, RxO 5 vrF 50 wr w.heap.size v ks ∧ RsAt wr o R ks ∧ (∀ r ∈ ks, w.heap.size ≤ opsB r.v) ∧ Below w.heap.size w wr ∧ (ks.map fun r => opsB r.v).Nodup
theorem MadeR.nil (w : World) (o : Nat) : MadeR w w o [] (.slice none 0 0) := ⟨[], RxO.nil _ _ _, ⟨rfl, fun k h => by simp at h⟩, by simp, Below.refl _ _, by simp⟩
theorem MadeR.val {w wr : World} {o : Nat} {R : List (Nat × Nat)} {v : Value} (h : MadeR w wr o R v) : ∃ a cap, v = .slice a R.length cap := by
 obtain ⟨ks, h1, h2, _⟩ := h
 obtain ⟨a, cap, hv⟩ := (RxO.recs vrF_len h1).slice
 exact ⟨a, cap, by rw [hv, h2.1]⟩
theorem info_row : ∃ z b, (Tryz.prog.info? 50).map (fun i => (i.zero, i.size, i.bytes)) = some (some z, 5, b) ∧ z.cells.size = 5 ∧ b ≤ 1000 := by
 refine ⟨.agg #[.int .i64 0, .int .i64 0, .int .i64 0, .slice none 0 0, .int .i64 0], 56, by kernel_rfl, rfl, by decide⟩
theorem recs_one (w : World) (r : VR) (T : TypeId) : Recs 5 vrF (w.alloc (.cells #[.int .i64 r.i, .int .i64 r.x, .int .i64 r.y, r.v, .int .i64 0] T)) (.slice (some ⟨w.heap.size, 0, none⟩) 1 1) [r] := by
 refine ⟨_, _, rfl, Nat.le_refl _, by decide, fun k hk => ⟨w.heap.size, 0, rfl, by simp, fun j u hu => ?_⟩⟩
 obtain rfl : k = 0 := by simpa using hk
 have hu : (vrF r)[j]? = some u := hu
 have X := RowB.new w r.i r.x r.y r.v T
 have hj : j < 5 := (List.getElem?_eq_some_iff.1 hu).1
 rw [Nat.zero_mul, Nat.zero_add]
 match j, hj with
 | 0, _ => cases hu; exact X.c0
 | 1, _ => cases hu; exact X.c1
 | 2, _ => cases hu; exact X.c2
 | 3, _ => cases hu; exact X.c3
 | 4, _ => cases hu; exact X.c4
theorem StrAt.list {w : World} {B : Nat} {a : Nat × Nat} {R : List (Nat × Nat)} {ρ : Q → Loc} (h : StrAt w B a R ρ) : ∃ lv rs, w.cell? ⟨a.1, a.2 + 1, none⟩ = some lv ∧ Recs 5 vrF w lv rs ∧ RsAt w 0 R rs := by
 obtain ⟨lv, c1, c2, _⟩ := EmbS.atq h.E (strL_nd ..) (q := qn 1) (ty := 117) (cs := [.p (qn 2) 0, slN (qn 5) R.length]) (by unfold strS strL; simp) (i := 1) (y := slN (qn 5) R.length) rfl
 rw [h.root.1, h.root.2] at c1
 by_cases hR : R = []
 ·subst hR
  have c2 : Rel ρ (qn 20).num .ns lv := c2
  cases c2
  exact ⟨_, [], c1, Recs.zeroL _ _ _ (by decide), ⟨rfl, fun k hk => by simp at hk⟩⟩
 ·have hpos : 0 < R.length := List.length_pos_iff.2 hR
  have hone : ∀ i, i < R.length → ((ρ .e).vl (qn 5) (5 * i + 3)).oneCell' = true := fun i hi => (h.row i hi).2.2.one
  have hm : (qn 5, SB.bk 50 (rowC (qn 5) R.length)) ∈ strS R.length := by
   cases hl : R.length with
   | zero => omega
   | succ p => exact strL_rows ..
  have hcell : ∀ i j, i < R.length → j < 5 → ∀ y, (rowX (qn 5) i)[j]? = some y → ∃ x, w.cell? ⟨(ρ (qn 5)).blk, (ρ (qn 5)).base + (5 * i + j), none⟩ = some x ∧ Rel ρ (qn 20).num y x := fun i j hi hj y hy => by
   obtain ⟨x, d1, d2, _⟩ := EmbS.atq h.E (strL_nd ..) hm (i := 5 * i + j) (y := y) ((rowC_get _ _ _ _ hi hj).trans hy)
   exact ⟨x, d1, d2⟩
  have hlv : ∃ cap, lv = .slice (some ⟨(ρ (qn 5)).blk, (ρ (qn 5)).base, none⟩) R.length cap ∧ R.length ≤ cap ∧ cap ≤ 9223372036854775807 := by
   have : ∀ p, 0 < p → Rel ρ (qn 20).num (slN (qn 5) p) lv → ∃ cap, lv = .slice (some ⟨(ρ (qn 5)).blk, (ρ (qn 5)).base, none⟩) p cap ∧ p ≤ cap ∧ cap ≤ 9223372036854775807 := fun p hp hr => by
    cases p with
    | zero => omega
    | succ p =>
     have hr : Rel ρ (qn 20).num (.sl (qn 5) 0 (p + 1) (.u 0 (p + 1))) lv := hr
     cases hr with
     | slu _ _ _ _ _ h0 h1 h2 h3 => exact ⟨_, rfl, by omega, by omega⟩
   exact this _ hpos c2
  obtain ⟨cap, rfl, hc1, hc2⟩ := hlv
  have hlt : (ρ (qn 5)).blk < w.heap.size := by
   obtain ⟨x, d1, _⟩ := hcell 0 0 hpos (by decide) _ rfl
   exact World.block_lt_of_cell? w _ d1
  refine ⟨_, (List.range R.length).attach.map fun i => ⟨((i.1 + 1 : Nat) : Int), ((R[i.1]'(by simpa using i.2)).1 : Int), ((R[i.1]'(by simpa using i.2)).2 : Int), (ρ .e).vl (qn 5) (5 * i.1 + 3), hone _ (by simpa using i.2)⟩, c1, ?_, ⟨by simp, fun k h1 h2 => ?_⟩⟩
  ·refine ⟨_, _, by simp; rfl, by simpa using hc1, hc2, fun k hk => ⟨_, _, rfl, hlt, fun j u hu => ?_⟩⟩
   have hk' : k < R.length := by simpa using hk
   have hj : j < 5 := (List.getElem?_eq_some_iff.1 hu).1
   simp only [List.getElem_map, List.getElem_attach, List.getElem_range] at hu
   have e1 : (ρ (qn 5)).base + k * 5 + j = (ρ (qn 5)).base + (5 * k + j) := by omega
   rw [e1]
   have hy : j < (rowX (qn 5) k).length := hj
   obtain ⟨x, d1, d2⟩ := hcell k j hk' hj _ (List.getElem?_eq_getElem hy)
   rw [d1]
   obtain ⟨o1, o2, o3⟩ := h.row k hk'
   match j, hj with
   | 0, _ => cases hu; exact congrArg some (rel_iN d2)
   | 1, _ => cases hu; exact congrArg some ((rel_sv d2).trans o1)
   | 2, _ => cases hu; exact congrArg some ((rel_sv d2).trans o2)
   | 3, _ => cases hu; exact congrArg some (rel_sv d2)
   | 4, _ => cases hu; exact congrArg some (rel_iN (n := 0) d2)
  ·simp only [List.getElem_map, List.getElem_attach, List.getElem_range]
   exact ⟨by rw [Nat.zero_add], trivial, trivial, (h.row k h2).2.2⟩
theorem MadeR.push {w wr w3 w4 w5 : World} {o : Nat} {R : List (Nat × Nat)} {v v' : Value} (h : MadeR w wr o R v) (hb3 : Below wr.heap.size wr w3) (hb4 : Below w3.heap.size w3 w4) {r : VR} {x : Nat × Nat} (hi : r.i = ((o + R.length + 1 : Nat) : Int)) (hx : r.x = (x.1 : Int)) (hy : r.y = (x.2 : Int)) (ho : OpsAt w3 r.v x.1 (x.2 - 1)) (hge : wr.heap.size ≤ opsB r.v)
  (ks : List VR) (h4 : RxO 5 vrF 50 w5 w.heap.size v' (ks ++ [r])) (hk : RsAt wr o R ks ∧ (∀ r ∈ ks, w.heap.size ≤ opsB r.v) ∧ (ks.map fun r => opsB r.v).Nodup) (hrow : RxO 5 vrF 50 wr w.heap.size v ks) (hg : w4.grownBy w5 v.ownBlock) : MadeR w w5 o (R ++ [x]) v' := by
 obtain ⟨_, _, _, _, hbw, _⟩ := h
 obtain ⟨hk1, hk2, hk3⟩ := hk
 have hbw4 : Below w.heap.size w w4 := (hbw.trans (hb3.mono hbw.size)).trans (hb4.mono (hbw.trans (hb3.mono hbw.size)).size)
 have hrg : ∀ g, v.ownBlock = some g → w.heap.size ≤ g := fun g hg => (World.ownsRow.lt hrow g hg).1
 have hb45 : Below w.heap.size w4 w5 := ⟨hg.os, hg.tape, hg.output, hg.size, fun b hb => hg.block b (Nat.lt_of_lt_of_le hb hbw4.size) (fun e => by have := hrg b e.symm; omega)⟩
 have hsh : ∀ {u : Value} {c s : Nat}, OpsAt w4 u c s → OpsAt w5 u c s := fun {u c s} hu => by
  refine hu.stay (hg.block _ hu.lt (fun e => ?_))
  obtain ⟨sz, hs⟩ := hu.shape
  rcases hrow.2 with ⟨rfl, _⟩ | ⟨g, cap, cur, rfl, _, hh, _⟩
  ·cases e
  ·have e : some (opsB u) = some g := e
   simp only [Option.some.injEq] at e
   have hh4 : w4.heap[g]? = some (.cells cur 50) := by
    have hgl : g < wr.heap.size := (Array.getElem?_eq_some_iff.1 hh).1
    rw [hb4.block g (Nat.lt_of_lt_of_le hgl hb3.size), hb3.block g hgl]
    exact hh
   unfold World.shape? at hs
   rw [e, hh4] at hs
   cases hs
 refine ⟨ks ++ [r], h4, RsAt.snoc ⟨hk1.1, fun k a1 a2 => ?_⟩ hi hx hy (hsh (ho.below hb4)), fun u hu => ?_, hbw4.trans hb45, ?_⟩
 ·obtain ⟨e1, e2, e3, e4⟩ := hk1.2 k a1 a2
  exact ⟨e1, e2, e3, hsh ((e4.below hb3).below hb4)⟩
 ·rcases List.mem_append.1 hu with hu | hu
  ·exact hk2 u hu
  ·obtain rfl := List.mem_singleton.1 hu
   exact Nat.le_trans hbw.size hge
 ·rw [List.map_append, List.nodup_append]
  refine ⟨hk3, by simp, fun a ha b hb e => ?_⟩
  simp only [List.map_cons, List.map_nil, List.mem_singleton] at hb
  obtain ⟨u, hu, rfl⟩ := List.mem_map.1 ha
  obtain ⟨k, hkk, rfl⟩ := List.mem_iff_getElem.1 hu
  have hkR : k < R.length := by rw [← hk1.1]; exact hkk
  have hlt : opsB ks[k].v < wr.heap.size := (hk1.2 k hkk hkR).2.2.2.lt
  have e : opsB ks[k].v = opsB r.v := e.trans hb
  exact absurd hge (by rw [← e]; exact Nat.not_le.2 hlt)
def RetRows (w : World) (o : Nat) (R : List (Nat × Nat)) (e : Ending) (w' : World) : Prop := ∃ v, e = .returned v ∧ MadeR w w' o R v
set_option maxHeartbeats 2000000 in
theorem str_rows {w : World} {B : Nat} {a : Nat × Nat} {R : List (Nat × Nat)} {ρ : Q → Loc} (h : StrAt w B a R ρ) (hR : ∀ r ∈ R, r.1 ≤ 3) (hl : R.length ≤ 1000) :
  Calls Tryz.prog 29 #[.pointer (some ⟨a.1, a.2, none⟩)] w fun e w' => RetRows w 0 R e w' := by
 obtain ⟨lv, rs, c1, hrs, hrr⟩ := h.list
 obtain ⟨z, by_, hinf, hz, hby⟩ := info_row
 clear h
 obtain ⟨la, lc, rfl⟩ := hrs.slice
 have hlen := hrr.1
 have hne : ∀ u : World, (binOp .eql 70 (.pointer (some ⟨a.1, a.2, none⟩)) (.pointer none)).run Tryz.prog u = .ok (.bool false) u := fun u => by go_simp
 go_enter Tryz.func29, Tryz.ntmps29
 go_wp2_with fail
 go_loopw [3, 13] (fun s i wr => ∃ k : Nat, k ≤ rs.length ∧ i = .int .i64 k ∧ MadeR w wr 0 (R.take k) s) (fun _ i _ => rs.length - (intOf i).toNat)
 case atStart => exact ⟨0, by omega, rfl, MadeR.nil w 0⟩
 case round =>
  obtain ⟨k, hk, rfl, hM⟩ := hrel
  by_cases hlt : k < rs.length
  ·have hkR : k < R.length := by omega
   obtain ⟨e1, e2, e3, e4⟩ := hrr.2 k hlt hkR
   obtain ⟨ks, m1, m2, m3, m4, m6⟩ := id hM
   have hrs' := hrs.keeps m4
   obtain ⟨b, off, rfl, hblt, hc⟩ := hrs'.at k hlt
   have d0 := hc 0 _ rfl
   have d1 := hc 1 _ rfl
   have d2 := hc 2 _ rfl
   have d3 := hc 3 _ rfl
   have d4 := hc 4 _ rfl
   rw [Nat.add_zero] at d0
   have hx3 : R[k].1 ≤ 3 := hR _ (List.getElem_mem hkR)
   have htake : R.take (k + 1) = R.take k ++ [R[k]] := by rw [List.take_succ_eq_append_getElem hkR]
   have hlk : (R.take k).length = k := by rw [List.length_take]; omega
   generalize R[k] = x at *
   generalize hr : rs[k] = r at *
   obtain ⟨ri, rx, ry, rv, rh⟩ := r
   dsimp only at e1 e2 e3 e4 d0 d1 d2 d3
   subst e1 e2 e3
   obtain ⟨va, vn, vm, rfl⟩ := e4.val
   obtain ⟨ma, mc, rfl⟩ := hM.val
   rw [hlk] at hM m1 ⊢
   have ecast : ((0 + k + 1 : Nat) : Int) = (k : Int) + 1 := by omega
   rw [ecast] at *
   have hW := (Below.refl wr.heap.size wr).alloc (Nat.le_refl _) (.cells #[.int .i64 ((k : Int) + 1), .int .i64 (x.1 : Int), .int .i64 (x.2 : Int), .slice (some va) vn vm, .int .i64 0] 50)
   have e5 := (e4.below m4).below hW
   have hrw := m1.below hW
   have HW := Lib.hid hW
   have HM := Lib.hid hM
   have HK := Lib.hid m1
   have HR := Lib.hid hrw
   have HK2 := Lib.hid (And.intro m2 (And.intro m3 m6))
   have HB := Lib.hid m4
   have HL := Lib.hid (m2.1.trans hlk)
   have HT := Lib.hid htake
   have HLK := Lib.hid hlk
   clear hlk hW e4 hM m1 m2 m3 m4 m6 hrw htake ecast
   go_wp2_with fail
   generalize wr.alloc _ = w1 at *
   refine (stream_own e5 hx3 _ _ _).mono ?_
   rintro e w3 ⟨v', rfl, ho, hge, hb3⟩
   obtain ⟨na, nn, nm, rfl⟩ := ho.val
   have hb4 := (Below.refl w3.heap.size w3).alloc (Nat.le_refl _) (.cells #[.int .i64 ((k : Int) + 1), .int .i64 (x.1 : Int), .int .i64 (x.2 : Int), .slice (some na) nn nm, .int .i64 0] 50)
   have hsrc := recs_one w3 ⟨(k : Int) + 1, x.1, x.2, .slice (some na) nn nm, rfl⟩ 50
   have hown := (HR.out.below hb3).below hb4
   have hsz : w.heap.size ≤ w3.heap.size := Nat.le_trans HB.out.size (Nat.le_trans HW.out.size hb3.size)
   have HO := Lib.hid ho
   have HG := Lib.hid hge
   have H3 := Lib.hid hb3
   have H4 := Lib.hid hb4
   clear ho hge hb3 hb4 e5
   go_wp2_with (at_builtin; refine wpList_append_rx vrF_len vrF_one 38 50 w.heap.size z by_ Tryz.underlying38 hinf hz hby (by decide) rfl _ _ rfl hown hsrc rfl rfl (by have := HL.out; simp only [List.length_singleton]; omega) (by simp; omega) ?_)
   intro v5 w5 h5 hg5 hk5
   have hge' : wr.heap.size ≤ opsB (.slice (some na) nn nm) := Nat.le_trans HW.out.size HG.out
   have hM5 := MadeR.push HM.out (HW.out.trans (H3.out.mono HW.out.size)) H4.out (r := ⟨(k : Int) + 1, x.1, x.2, .slice (some na) nn nm, rfl⟩) (x := x) (by rw [HLK.out]; show (k : Int) + 1 = ((0 + k + 1 : Nat) : Int); omega) rfl rfl HO.out hge' ks h5 HK2.out HK.out hg5
   obtain ⟨ma', mc', rfl⟩ := hM5.val
   have HM5 := Lib.hid hM5
   clear hM5 h5 hg5 hk5 hown hsrc
   go_wp2_with fail
   go_roundw
   case rel => exact ⟨k + 1, by omega, by go_num, by rw [HT.out]; exact HM5.out⟩
   case measure => simp [intOf]; omega
  ·obtain rfl : k = rs.length := by omega
   have hall : R.take rs.length = R := by rw [hlen, List.take_length]
   rw [hall] at hM
   obtain ⟨ma, mc, rfl⟩ := hM.val
   have HM := Lib.hid hM
   clear hM
   go_wp2_with fail
   go_ret
   exact ⟨_, rfl, HM.out⟩
end Go.Proofs.YtpchmdddkpocgaaGreatDoor
