/-
  No claim by itself: slices.Clone of integers: a row of its own with the same integers. | conf.Decode; logs: Conf. | messages as bytes: what may be, how it is written, how it is read. | logs: ConfAt as of the last entry, Conf. | the first lines of the laws on logs return true. No condition.
-/
import Derived.Test.YtihcohneongomaaP5
import Derived.Lib.BufferMore
import Derived.Test.YtihcohneongomaaP7
import Derived.Test.YtihcohneongomaaP6
namespace Go.Proofs.Ytihcohneongomaa
open Go.ChangeShapes Go.WideShapes Go.ChangeAt Go.RowKit

theorem info_i64 : (Try.prog.info? 3).map (fun i => (i.zero, i.size, i.bytes)) = some (some (.int .i64 0), 1, 8) := by kernel_rfl

/-- A row of integers of its own. -/
def RowI (w : World) (v : Value) (l : List Int) : Prop := Row w 3 v (l.map (Value.int .i64))
theorem RowI.ri {w : World} {v : Value} {l : List Int} (h : RowI w v l) : RI w v l := Row.reads h
theorem RowI.keeps {w w' : World} {v : Value} {l : List Int} {F : List Nat} (h : RowI w v l) (hk : Keeps F w w') (hF : ∀ g, v.ownBlock = some g → g ∉ F) : RowI w' v l := Row.keeps h hk hF
theorem RowI.nil (w : World) : RowI w (.slice none 0 0) [] := Row.nil w _
theorem ints_oneCell (l : List Int) : ∀ u ∈ l.map (Value.int .i64), u.oneCell' = true := by
  intro u hu
  obtain ⟨_, _, rfl⟩ := List.mem_map.1 hu
  rfl

/-- What a call yields: a new row of integers. -/
def RetRow (w : World) (l : List Int) (e : Ending) (w' : World) : Prop :=
  ∃ v, e = .returned v ∧ RowI w' v l ∧ Below w.heap.size w w' ∧ ∀ k, v.ownBlock = some k → w.heap.size ≤ k

theorem Row.empty (w : World) (e : TypeId) : Row (w.alloc (.cells #[] e)) e (.slice (some ⟨w.heap.size, 0, none⟩) 0 0) [] := by
  refine ⟨rfl, .inr ⟨w.heap.size, 0, #[], rfl, Nat.zero_le _, ?_, Nat.le_refl _, by decide, rfl, rfl⟩⟩
  exact heap_alloc_new w _

end Go.Proofs.Ytihcohneongomaa
namespace Go.Proofs.Ytihcohneongomaa
open Go.ChangeShapes Go.WideShapes Go.ChangeAt Go.RowKit

/-- Servers, as they are written. -/
def decC (l : List UInt8) : List Int := l.map fun c => (c.toNat : Int) - 48
theorem decC_snoc (s : ByteArray) (k : Nat) (h : k < s.size) : decC (s.data.toList.take (k + 1)) = decC (s.data.toList.take k) ++ [((s[k]).toNat : Int) - 48] := by
  have : s.data.toList.take (k + 1) = s.data.toList.take k ++ [s[k]] := by
    rw [List.take_succ_eq_append_getElem (by rw [size_data]; exact h)]; rfl
  rw [this]
  simp [decC]
def confD (s : ByteArray) : List Int × Bool := if mayC (decC s.data.toList) = true then (decC s.data.toList, true) else ([], false)
def RetConf (w : World) (s : ByteArray) (e : Ending) (w' : World) : Prop :=
  ∃ v, e = .returned (.tuple #[v, .bool (confD s).2]) ∧ RI w' v (confD s).1 ∧ Below w.heap.size w w'

set_option maxHeartbeats 1000000 in
theorem conf_decode (s : ByteArray) (w : World) (hs : s.size ≤ 1000000000) :
    Calls Try.prog 86 #[.string s] w fun e w' => RetConf w s e w' := by
  go_enter Try.func86, Try.ntmps86
  go_wp2_with fail
  go_loopw [4, 8] (fun v i wr => ∃ k : Nat, k ≤ s.size ∧ i = .int .i64 k ∧ RowI wr v (decC (s.data.toList.take k)) ∧ (∀ g, v.ownBlock = some g → w.heap.size ≤ g) ∧ Below w.heap.size w wr) (fun _ i _ => s.size - (intOf i).toNat)
  case atStart => exact ⟨0, by omega, rfl, RowI.nil _, (fun g h => by cases h), Below.refl _ _⟩
  case round =>
    obtain ⟨k, hk, rfl, hr, hg, hbel⟩ := hrel
    have hll : (decC (s.data.toList.take k)).length ≤ 1000000000 := by
      unfold decC
      rw [List.length_map, List.length_take]
      omega
    by_cases hlt : k < s.size
    · have HU := Lib.hid (decC_snoc s k hlt)
      have hc8 := s[k].toNat_lt
      have HG := Lib.hid hg
      have hb := fun x => (Below.refl wr.heap.size wr).alloc (Nat.le_refl _) (.cells #[Value.int .i64 x] 3)
      have hown : ∀ x, Row (wr.alloc (.cells #[Value.int .i64 x] 3)) 3 _ ((decC (s.data.toList.take k)).map (Value.int .i64)) := fun x => RowI.keeps hr (Keeps.of_below (F := []) (hb x)) (by simp)
      have hsrc := fun x : Int => Reads.fresh wr ([x].map (Value.int .i64)) 3 (0, 0) #[.int .i64 x] 1 rfl rfl (by simp)
      have HB := Lib.hid hb
      have HOWN := Lib.hid hown
      have HSRC := Lib.hid hsrc
      clear hr hg hb hown hsrc
      generalize decC (s.data.toList.take k) = Y at *
      go_wp2_with (at_builtin; refine wpList_append_row 42 3 (.int .i64 0) 8 Try.underlying42 info_i64 rfl rfl _ _ rfl (HOWN.out (((s[k]).toNat : Int) - 48)) (HSRC.out (((s[k]).toNat : Int) - 48)) (ints_oneCell [((s[k]).toNat : Int) - 48]) rfl rfl (by simp [maxLen]; omega) (by simp; omega) ?_)
      intro v2 w2 ho hg2 hk2
      have hbz : Below w.heap.size w w2 := (hbel.alloc hbel.size _).grown hg2 (by have := hbel.size; simp; omega) HG.out
      have hoo : RowI w2 v2 (Y ++ [((s[k]).toNat : Int) - 48]) := by unfold RowI; rw [List.map_append]; exact ho
      have hgz : ∀ g, v2.ownBlock = some g → w.heap.size ≤ g := fun g h => (hk2 g h).elim (HG.out g) (fun h => by have := hbel.size; omega)
      clear ho hg2 hk2
      go_wp2_with fail
      go_roundw
      case rel => exact ⟨k + 1, by omega, by go_num, by rw [HU.out]; exact hoo, hgz, hbz⟩
      case measure => simp [intOf]; omega
    · obtain rfl : k = s.size := by omega
      have hri := hr.ri
      rw [List.take_of_length_le (by rw [size_data]; omega)] at hri hr hll
      obtain ⟨a4, n4, c4, rfl⟩ := Row.slice hr
      have HC : Hid (confD s = if mayC (decC s.data.toList) = true then (decC s.data.toList, true) else ([], false)) := Lib.hid rfl
      clear hr hg
      generalize decC s.data.toList = Y at *
      go_wp2_with fail
      refine (conf_may _ Y _ hri).mono ?_
      rintro e w' ⟨rfl, rfl⟩
      cases hm : mayC Y with
      | true =>
        have H1 : Hid (confD s = (Y, true)) := Lib.hid (by rw [HC.out, if_pos hm])
        clear hm HC
        go_wp2_with fail
        go_ret2
        exact ⟨_, by rw [H1.out]; rfl, by rw [H1.out]; exact hri, hbel⟩
      | false =>
        have H1 : Hid (confD s = ([], false)) := Lib.hid (by rw [HC.out, if_neg (by rw [hm]; decide)])
        clear hm HC
        go_wp2_with fail
        go_ret2
        exact ⟨_, by rw [H1.out]; rfl, by rw [H1.out]; exact (RowI.nil _).ri, hbel⟩
end Go.Proofs.Ytihcohneongomaa
namespace Go.Proofs.Ytihcohneongomaa
open Go.ChangeShapes Go.WideShapes Go.ChangeAt Go.RowKit

/-- A message. -/
structure Msg where
  k : Int
  f : Int
  o : Int
  t : Int
  i : Int
  l : Int
  c : Int
  y : Bool
  es : List Ent
  s : Snp
def zeroM : Msg := ⟨0, 0, 0, 0, 0, 0, 0, false, [], zeroS⟩
def recE (e : Ent) : Rec := ⟨false, 0, 0, e⟩
/-- May the entries be, behind this index and Term, up to that Term? -/
def entsM (T : Int) : Int → Int → List Ent → Bool
  | _, _, [] => true
  | i, t, e :: es => ((e.i == i + 1) && decide (t ≤ e.t) && decide (e.t ≤ T) && mayR (recE e)) && entsM T e.i e.t es
def zeroSnpB (s : Snp) : Bool := (s.i == 0) && (s.t == 0) && decide (s.c.size = 0) && decide (s.d.size = 0)
def headM (m : Msg) : Bool :=
  decide (1 ≤ m.k ∧ m.k ≤ 5 ∧ 1 ≤ m.f ∧ m.f ≤ 7 ∧ 1 ≤ m.o ∧ m.o ≤ 7 ∧ 1 ≤ m.t ∧ m.t ≤ 1099511627776 ∧ 0 ≤ m.i ∧ m.i ≤ 1099511627776 ∧ 0 ≤ m.l ∧ m.l ≤ 1099511627776 ∧ 0 ≤ m.c ∧ m.c ≤ 1099511627776)
def kindM (m : Msg) : Bool := decide (m.es.length ≤ 8 ∧ (m.es.length = 0 ∨ m.k = 3)) && decide (m.y = false ∨ m.k = 2 ∨ m.k = 4)
def tailM (m : Msg) : Bool := if m.k = 5 then (confD m.s.c).2 && mayS m.s else zeroSnpB m.s
/-- May it be? -/
def mayM (m : Msg) : Bool := headM m && entsM m.t m.i m.l m.es && kindM m && tailM m

def yesN (b : Bool) : Int := if b then 1 else 0
def numsM (m : Msg) : List Int := [m.k, m.f, m.o, m.t, m.i, m.l, m.c, yesN m.y, (m.es.length : Int)]
def textM (m : Msg) : List UInt8 := (numsM m).flatMap putN ++ m.es.flatMap (fun e => encR (recE e)) ++ (if m.k = 5 then putS m.s else [])
/-- The pieces of a text. -/
def pcsF : Nat → List UInt8 → List UInt8
  | 0, _ => []
  | f + 1, d => if d.length = 0 then [] else sealP 8 (d.take 3000) ++ pcsF f (d.drop 3000)
theorem pcsF_stable : ∀ (f g : Nat) (d : List UInt8), d.length < f → d.length < g → pcsF f d = pcsF g d := by
  intro f
  induction f with
  | zero => intro g l h; omega
  | succ f ih =>
    intro g d hf hg
    cases g with
    | zero => omega
    | succ g =>
      rw [pcsF, pcsF]
      by_cases h0 : d.length = 0
      · rw [if_pos h0, if_pos h0]
      · rw [if_neg h0, if_neg h0, ih g (d.drop 3000) (by rw [List.length_drop]; omega) (by rw [List.length_drop]; omega)]
def pcsP (d : List UInt8) : List UInt8 := pcsF (d.length + 1) d
theorem pcsP_nil : pcsP [] = [] := rfl
theorem pcsP_cons {d : List UInt8} (h : d.length ≠ 0) : pcsP d = sealP 8 (d.take 3000) ++ pcsP (d.drop 3000) := by
  unfold pcsP
  rw [pcsF, if_neg h, pcsF_stable d.length ((d.drop 3000).length + 1) (d.drop 3000) (by rw [List.length_drop]; omega) (Nat.lt_succ_self _)]
def sizeF (d : List UInt8) : List UInt8 := sealP 7 (putN (d.length : Nat))
/-- Its bytes; none, if it may not be. -/
def encM (m : Msg) : List UInt8 := if mayM m then sizeF (textM m) ++ pcsP (textM m) else []

/-- The entries that are read: so many are told, those so far, what is left. -/
def entsF : Nat → Int → List Ent → List UInt8 × Bool → List Ent × List UInt8 × Bool
  | 0, _, es, s => (es, s)
  | f + 1, n, es, s => if 0 < n ∧ s.2 = false ∧ es.length ≤ 8 then
      entsF f (n - 1) (es ++ [(decR s.1).1.e]) (if (decR s.1).2.2 ≠ 0 then (s.1, true) else (s.1.drop (decR s.1).2.1, false)) else (es, s)
def snapF (k : Int) (s : List UInt8 × Bool) : Snp × List UInt8 × Bool :=
  if k = 5 ∧ s.2 = false then ((getS s.1).1, if (getS s.1).2.2 ≠ 0 then (s.1, true) else (s.1.drop (getS s.1).2.1, false)) else (zeroS, s)
/-- A message out of its text. -/
def msgP (b : List UInt8) : Msg × List UInt8 × Bool :=
  let x1 := rdN (b, false)
  let x2 := rdN x1.2
  let x3 := rdN x2.2
  let x4 := rdN x3.2
  let x5 := rdN x4.2
  let x6 := rdN x5.2
  let x7 := rdN x6.2
  let x8 := rdN x7.2
  let x9 := rdN x8.2
  let q := entsF 10 x9.1 [] x9.2
  let g := snapF x1.1 q.2
  (⟨x1.1, x2.1, x3.1, x4.1, x5.1, x6.1, x7.1, x8.1 == 1, q.1, g.1⟩, g.2)

theorem entsM_all {T : Int} : ∀ {es : List Ent} {i t : Int}, entsM T i t es = true → ∀ e ∈ es, mayR (recE e) = true := by
  intro es
  induction es with
  | nil => intro i t _ e he; simp at he
  | cons x es ih =>
    intro i t h e he
    unfold entsM at h
    simp only [Bool.and_eq_true] at h
    rcases List.mem_cons.1 he with rfl | he
    · exact h.1.2
    · exact ih h.2 e he
theorem mayM_parts {m : Msg} (h : mayM m = true) : headM m = true ∧ entsM m.t m.i m.l m.es = true ∧ kindM m = true ∧ tailM m = true := by
  unfold mayM at h
  simp only [Bool.and_eq_true] at h
  exact ⟨h.1.1.1, h.1.1.2, h.1.2, h.2⟩
theorem entsF_put : ∀ (es acc : List Ent) (f : Nat) (rest : List UInt8), (∀ e ∈ es, mayR (recE e) = true) → acc.length + es.length ≤ 8 → es.length < f →
    entsF f (es.length : Nat) acc (es.flatMap (fun e => encR (recE e)) ++ rest, false) = (acc ++ es, rest, false) := by
  intro es
  induction es with
  | nil =>
    intro acc f rest _ _ hf
    cases f with
    | zero => simp at hf
    | succ f => rw [entsF, if_neg (by simp)]; simp
  | cons e es ih =>
    intro acc f rest hm hl hf
    cases f with
    | zero => simp at hf
    | succ f =>
      simp only [List.length_cons] at hl hf
      rw [entsF, if_pos ⟨by simp, rfl, by omega⟩, List.flatMap_cons, List.append_assoc]
      rw [decR_enc _ (hm e (by simp))]
      simp only [ne_eq, not_true_eq_false, if_false, List.drop_left]
      have hn : (((e :: es).length : Nat) : Int) - 1 = ((es.length : Nat) : Int) := by simp
      rw [hn, ih (acc ++ [(recE e).e]) f rest (fun x hx => hm x (by simp [hx])) (by simp; omega) (by omega)]
      simp [recE]
theorem zeroSnp_eq {s : Snp} (h : zeroSnpB s = true) : s = zeroS := by
  unfold zeroSnpB at h
  simp only [Bool.and_eq_true, beq_iff_eq, decide_eq_true_eq] at h
  obtain ⟨⟨⟨h1, h2⟩, h3⟩, h4⟩ := h
  obtain ⟨i, t, c, d⟩ := s
  simp only at h1 h2 h3 h4
  have e : ∀ d : ByteArray, d.size = 0 → d = .empty := fun d h => by
    apply ByteArray.ext
    have : d.data.toList = [] := List.eq_nil_of_length_eq_zero ((size_data d).trans h)
    simpa using this
  rw [h1, h2, e c h3, e d h4]
  rfl
theorem snapF_put {m : Msg} (h : tailM m = true) : snapF m.k ((if m.k = 5 then putS m.s else []), false) = (m.s, [], false) := by
  unfold tailM at h
  unfold snapF
  by_cases hk : m.k = 5
  · rw [if_pos hk] at h
    rw [Bool.and_eq_true] at h
    have hg := getS_put [] h.2
    rw [List.append_nil] at hg
    rw [if_pos hk, if_pos ⟨hk, rfl⟩]
    simp only [hg, ne_eq, not_true_eq_false, if_false, List.drop_length]
  · rw [if_neg hk] at h
    rw [if_neg hk, if_neg (by simp [hk]), zeroSnp_eq h]
theorem headM_iff {m : Msg} : headM m = true ↔ 1 ≤ m.k ∧ m.k ≤ 5 ∧ 1 ≤ m.f ∧ m.f ≤ 7 ∧ 1 ≤ m.o ∧ m.o ≤ 7 ∧ 1 ≤ m.t ∧ m.t ≤ 1099511627776 ∧ 0 ≤ m.i ∧ m.i ≤ 1099511627776 ∧ 0 ≤ m.l ∧ m.l ≤ 1099511627776 ∧ 0 ≤ m.c ∧ m.c ≤ 1099511627776 := by
  unfold headM
  rw [decide_eq_true_eq]
theorem kindM_iff {m : Msg} : kindM m = true ↔ (m.es.length ≤ 8 ∧ (m.es.length = 0 ∨ m.k = 3)) ∧ (m.y = false ∨ m.k = 2 ∨ m.k = 4) := by
  unfold kindM
  rw [Bool.and_eq_true, decide_eq_true_eq, decide_eq_true_eq]
/-- A message's text is read. -/
theorem msgP_text {m : Msg} (h : mayM m = true) : msgP (textM m) = (m, [], false) := by
  obtain ⟨h1, h2, h3, h4⟩ := mayM_parts h
  obtain ⟨a1, a2, a3, a4, a5, a6, a7, a8, a9, a10, a11, a12, a13, a14⟩ := headM_iff.1 h1
  obtain ⟨⟨b1, -⟩, -⟩ := kindM_iff.1 h3
  have he := entsF_put m.es [] 10 (if m.k = 5 then putS m.s else []) (entsM_all h2) (by simpa using b1) (by omega)
  have hs := snapF_put h4
  have hy : yesN m.y = 0 ∨ yesN m.y = 1 := by unfold yesN; split <;> simp
  have hy2 : (yesN m.y == 1) = m.y := by unfold yesN; cases m.y <;> decide
  unfold msgP textM numsM
  simp only [List.flatMap_cons, List.flatMap_nil, List.append_nil, List.append_assoc]
  rw [rdN_put m.k _ (by omega) (by omega)]
  simp only [rdN_put m.f _ (by omega) (by omega), rdN_put m.o _ (by omega) (by omega), rdN_put m.t _ (by omega) (by omega), rdN_put m.i _ (by omega) (by omega), rdN_put m.l _ (by omega) (by omega), rdN_put m.c _ (by omega) (by omega),
    rdN_put (yesN m.y) _ (by omega) (by omega), rdN_put (m.es.length : Nat) _ (by omega) (by omega), he, hs, hy2, List.nil_append]

/-! ### The frames -/
theorem pcs_all : ∀ (f : Nat) (d : List UInt8), d.length < f → (allP (pcsP d)).1.flatMap (·.2) = d := by
  intro f
  induction f with
  | zero => intro d h; omega
  | succ f ih =>
    intro d hf
    by_cases h0 : d.length = 0
    · have : d = [] := List.eq_nil_of_length_eq_zero h0
      subst this
      rfl
    · have ht : (d.take 3000).length = min 3000 d.length := List.length_take
      rw [pcsP_cons h0, allP_seal _ (by omega) (by omega) (by omega)]
      simp only [List.flatMap_cons]
      rw [ih (d.drop 3000) (by rw [List.length_drop]; omega), List.take_append_drop]
theorem putN_nat_len (n : Nat) : (putN (n : Int)).length ≤ 10 := (putN_len _).2
/-- What stands in the frames behind the first. -/
def bodiesP (l : List UInt8) : List UInt8 := ((allP l).1.drop 1).flatMap (·.2)
theorem bodies_enc {m : Msg} (h : mayM m = true) : bodiesP (encM m) = textM m := by
  have hp := putN_nat_len (textM m).length
  unfold bodiesP encM sizeF
  rw [if_pos h, allP_seal _ (by omega) (by omega) (by omega)]
  simp only [List.drop_succ_cons, List.drop_zero]
  exact pcs_all _ _ (Nat.lt_succ_self _)
theorem encM_inj {a b : Msg} (ha : mayM a = true) (hb : mayM b = true) (h : encM a = encM b) : a = b := by
  have h1 := bodies_enc ha
  rw [h, bodies_enc hb] at h1
  have h2 := msgP_text ha
  rw [← h1, msgP_text hb] at h2
  exact (Prod.mk.inj h2).1.symm
theorem sizeF_len (d : List UInt8) : (sizeF d).length = 6 + (putN (d.length : Nat)).length := by
  have hp := putN_nat_len d.length
  unfold sizeF
  rw [sealP_len (by omega) (by omega) (by omega), show (putN ((putN (d.length : Nat)).length : Nat)).length = 1 from putN_one (by omega) (by omega)]
theorem encM_pos {m : Msg} (h : mayM m = true) : 6 ≤ (encM m).length := by
  unfold encM
  rw [if_pos h, List.length_append, sizeF_len]
  omega
theorem encM_no {m : Msg} (h : mayM m = false) : encM m = [] := by
  unfold encM
  rw [if_neg (by rw [h]; decide)]
theorem putN_nat_mono {a b : Nat} (h : a ≤ b) : (putN (a : Int)).length ≤ (putN (b : Int)).length := putN_mono (by unfold zig; rw [if_neg (by omega), if_neg (by omega)]; omega)
theorem pcs_mono : ∀ (f : Nat) (d e : List UInt8), e.length < f → d.length < e.length → (pcsP d).length < (pcsP e).length := by
  intro f
  induction f with
  | zero => intro d e h; omega
  | succ f ih =>
    intro d e hf hde
    have hte : (e.take 3000).length = min 3000 e.length := List.length_take
    have hdre : (e.drop 3000).length = e.length - 3000 := List.length_drop
    rw [pcsP_cons (d := e) (by omega), List.length_append, sealP_len (by omega) (by omega) (by omega)]
    by_cases h0 : d.length = 0
    · have : d = [] := List.eq_nil_of_length_eq_zero h0
      subst this
      rw [pcsP_nil, List.length_nil]
      omega
    · have htd : (d.take 3000).length = min 3000 d.length := List.length_take
      have hdrd : (d.drop 3000).length = d.length - 3000 := List.length_drop
      rw [pcsP_cons (d := d) h0, List.length_append, sealP_len (by omega) (by omega) (by omega)]
      have hm := putN_nat_mono (a := (d.take 3000).length) (b := (e.take 3000).length) (by omega)
      by_cases h3 : d.length < 3000
      · have : d.drop 3000 = [] := List.eq_nil_of_length_eq_zero (by omega)
        rw [this, pcsP_nil, List.length_nil]
        omega
      · have := ih (d.drop 3000) (e.drop 3000) (by omega) (by omega)
        omega
theorem pcs_same : ∀ (f : Nat) (d e : List UInt8), e.length < f → d.length = e.length → (pcsP d).length = (pcsP e).length := by
  intro f
  induction f with
  | zero => intro d e h; omega
  | succ f ih =>
    intro d e hf hde
    by_cases h0 : e.length = 0
    · have h1 : e = [] := List.eq_nil_of_length_eq_zero h0
      have h2 : d = [] := List.eq_nil_of_length_eq_zero (by omega)
      rw [h1, h2]
    · have hte : (e.take 3000).length = min 3000 e.length := List.length_take
      have hdre : (e.drop 3000).length = e.length - 3000 := List.length_drop
      have htd : (d.take 3000).length = min 3000 d.length := List.length_take
      have hdrd : (d.drop 3000).length = d.length - 3000 := List.length_drop
      rw [pcsP_cons (d := e) h0, pcsP_cons (d := d) (by omega), List.length_append, List.length_append, sealP_len (by omega) (by omega) (by omega), sealP_len (by omega) (by omega) (by omega)]
      rw [ih (d.drop 3000) (e.drop 3000) (by omega) (by omega), htd, hte, hde]
def frmP (d : List UInt8) : List UInt8 := sizeF d ++ pcsP d
theorem frm_len {d e : List UInt8} (h : d.length = e.length) : (frmP d).length = (frmP e).length := by
  unfold frmP
  rw [List.length_append, List.length_append, sizeF_len, sizeF_len, h, pcs_same _ d e (Nat.lt_succ_self _) h]
theorem frm_lt {d e : List UInt8} (h : d.length < e.length) : (frmP d).length < (frmP e).length := by
  unfold frmP
  rw [List.length_append, List.length_append, sizeF_len, sizeF_len]
  have := pcs_mono _ d e (Nat.lt_succ_self _) h
  have := putN_nat_mono (Nat.le_of_lt h)
  omega
/-- Cut off: nobody's. -/
theorem frm_cut {d e : List UInt8} {n : Nat} (hn : n < (frmP d).length) (hd : d.length ≤ 9223372036854775807) (he : e.length ≤ 9223372036854775807) : frmP e ≠ (frmP d).take n := by
  intro h
  have hp := putN_nat_len d.length
  have hq := putN_nat_len e.length
  have h1 : frmP d = frmP e ++ (frmP d).drop n := by rw [h, List.take_append_drop]
  have o1 : openP (frmP d) = (7, putN (d.length : Nat), (sizeF d).length, 0) := open_seal _ (by omega) (by omega) (by omega)
  rw [h1] at o1
  unfold frmP at o1
  rw [List.append_assoc] at o1
  have o2 : openP (sizeF e ++ (pcsP e ++ (sizeF d ++ pcsP d).drop n)) = (7, putN (e.length : Nat), (sizeF e).length, 0) := open_seal _ (by omega) (by omega) (by omega)
  rw [o2] at o1
  simp only [Prod.mk.injEq, true_and, and_true] at o1
  have h2 := (putN_pre (a := (e.length : Nat)) (b := (d.length : Nat)) (X := []) (Y := []) (by omega) (by omega) (by omega) (by omega) (by rw [List.append_nil, List.append_nil]; exact o1.1)).1
  have h3 := frm_len (d := e) (e := d) (by omega)
  rw [h, List.length_take] at h3
  omega
theorem pcs_set : ∀ (f : Nat) (d e : List UInt8) (i : Nat) (x : UInt8) (_hf : d.length < f) (_hl : e.length = d.length) (hi : i < (pcsP d).length), (pcsP d)[i] ≠ x → pcsP e ≠ (pcsP d).set i x := by
  intro f
  induction f with
  | zero => intro d e i x h; omega
  | succ f ih =>
    intro d e i x hf hl hi hx heq
    by_cases h0 : d.length = 0
    · have : d = [] := List.eq_nil_of_length_eq_zero h0
      subst this
      rw [pcsP_nil, List.length_nil] at hi
      omega
    have hte : (e.take 3000).length = min 3000 e.length := List.length_take
    have hdre : (e.drop 3000).length = e.length - 3000 := List.length_drop
    have htd : (d.take 3000).length = min 3000 d.length := List.length_take
    have hdrd : (d.drop 3000).length = d.length - 3000 := List.length_drop
    have hD := pcsP_cons (d := d) h0
    have hE := pcsP_cons (d := e) (by omega)
    have hsl : (sealP 8 (e.take 3000)).length = (sealP 8 (d.take 3000)).length := by rw [sealP_len (by omega) (by omega) (by omega), sealP_len (by omega) (by omega) (by omega), hte, htd, hl]
    rw [hE] at heq
    have hi' : i < (sealP 8 (d.take 3000) ++ pcsP (d.drop 3000)).length := by rw [← hD]; exact hi
    have hx' : (sealP 8 (d.take 3000) ++ pcsP (d.drop 3000))[i] ≠ x := by
      have : (pcsP d)[i] = (sealP 8 (d.take 3000) ++ pcsP (d.drop 3000))[i] := by congr 1
      rw [← this]; exact hx
    rw [hD] at heq
    clear hi hx hD hE
    by_cases hc : i < (sealP 8 (d.take 3000)).length
    · rw [List.set_append_left _ _ hc] at heq
      have h1 := (List.append_inj heq (by rw [List.length_set]; exact hsl)).1
      rw [List.getElem_append_left hc] at hx'
      exact seal_one (by omega) (by omega) (by omega) (b' := e.take 3000) (by omega) rfl hc hx' h1.symm
    · rw [List.set_append_right _ _ (by omega)] at heq
      have h1 := (List.append_inj heq hsl).2
      rw [List.getElem_append_right (by omega)] at hx'
      exact ih (d.drop 3000) (e.drop 3000) _ x (by omega) (by omega) (by rw [List.length_append] at hi'; omega) hx' h1
/-- With a byte changed: nobody's. -/
theorem frm_set {d e : List UInt8} {i : Nat} {x : UInt8} (hi : i < (frmP d).length) (hx : (frmP d)[i] ≠ x) : frmP e ≠ (frmP d).set i x := by
  intro h
  have hl : (frmP e).length = (frmP d).length := by rw [h, List.length_set]
  have hel : e.length = d.length := by
    rcases Nat.lt_trichotomy e.length d.length with h1 | h1 | h1
    · have := frm_lt h1; omega
    · exact h1
    · have := frm_lt h1; omega
  have hF : sizeF e = sizeF d := by unfold sizeF; rw [hel]
  unfold frmP at h hi
  have hx' : (sizeF d ++ pcsP d)[i] ≠ x := hx
  rw [hF] at h
  by_cases hc : i < (sizeF d).length
  · rw [List.set_append_left _ _ hc] at h
    have h1 := (List.append_inj h (by rw [List.length_set])).1
    rw [List.getElem_append_left hc] at hx'
    apply hx'
    have : (sizeF d)[i]? = ((sizeF d).set i x)[i]? := by rw [← h1]
    rw [List.getElem?_set_self hc, List.getElem?_eq_getElem hc] at this
    exact Option.some.inj this
  · rw [List.set_append_right _ _ (by omega)] at h
    have h1 := (List.append_inj h rfl).2
    rw [List.getElem_append_right (by omega)] at hx'
    exact pcs_set _ d e _ x (Nat.lt_succ_self _) hel (by rw [List.length_append] at hi; omega) hx' h1
theorem encM_frm {m : Msg} (h : mayM m = true) : encM m = frmP (textM m) := by
  unfold encM
  rw [if_pos h]
  rfl

/-! ### How long -/
theorem flat_le {α : Type} (f : α → List UInt8) (n : Nat) : ∀ l : List α, (∀ x ∈ l, (f x).length ≤ n) → (l.flatMap f).length ≤ n * l.length := by
  intro l
  induction l with
  | nil => simp
  | cons x l ih =>
    intro h
    have h1 := h x (by simp)
    have h2 := ih fun y hy => h y (by simp [hy])
    rw [List.flatMap_cons, List.length_append, List.length_cons, Nat.mul_add]
    omega
theorem pcs_len : ∀ (f : Nat) (d : List UInt8), d.length < f → (pcsP d).length ≤ 16 * (d.length / 3000 + 1) + d.length := by
  intro f
  induction f with
  | zero => intro d h; omega
  | succ f ih =>
    intro d hf
    by_cases h0 : d.length = 0
    · have : d = [] := List.eq_nil_of_length_eq_zero h0
      subst this
      simp [pcsP_nil]
    · have ht : (d.take 3000).length = min 3000 d.length := List.length_take
      have hdr : (d.drop 3000).length = d.length - 3000 := List.length_drop
      have hp := putN_nat_len (d.take 3000).length
      rw [pcsP_cons h0, List.length_append, sealP_len (by omega) (by omega) (by omega)]
      by_cases h3 : d.length < 3000
      · have : d.drop 3000 = [] := List.eq_nil_of_length_eq_zero (by omega)
        rw [this, pcsP_nil, List.length_nil]
        omega
      · have := ih (d.drop 3000) (by omega)
        omega
theorem partsP_len : ∀ (f : Nat) (d : List UInt8), d.length < f → (partsP d).length ≤ 16 * (d.length / 3000 + 1) + d.length := by
  intro f
  induction f with
  | zero => intro d h; omega
  | succ f ih =>
    intro d hf
    by_cases h0 : d.length = 0
    · have : d = [] := List.eq_nil_of_length_eq_zero h0
      subst this
      simp [partsP_nil]
    · have ht : (d.take 3000).length = min 3000 d.length := List.length_take
      have hdr : (d.drop 3000).length = d.length - 3000 := List.length_drop
      have hp := putN_nat_len (d.take 3000).length
      rw [partsP_cons h0, List.length_append, sealP_len (by omega) (by omega) (by omega)]
      by_cases h3 : d.length < 3000
      · have : d.drop 3000 = [] := List.eq_nil_of_length_eq_zero (by omega)
        rw [this, partsP_nil, List.length_nil]
        omega
      · have := ih (d.drop 3000) (by omega)
        omega
theorem putS_le (s : Snp) : (putS s).length ≤ 210000 := by
  unfold putS
  by_cases h : mayS s = true
  · rw [if_pos h, List.length_append]
    obtain ⟨-, -, -, -, -, h6⟩ := mayS_iff.1 h
    have h1 := sealP_le 3 (headS s)
    have h2 := partsP_len (s.d.data.toList.length + 1) s.d.data.toList (Nat.lt_succ_self _)
    have h3 : s.d.data.toList.length = s.d.size := size_data _
    omega
  · rw [if_neg h]
    simp
theorem textM_len {m : Msg} (h : mayM m = true) : (textM m).length ≤ 250000 := by
  obtain ⟨h1, h2, h3, h4⟩ := mayM_parts h
  obtain ⟨⟨b1, -⟩, -⟩ := kindM_iff.1 h3
  have f1 := flat_le putN 10 (numsM m) (fun x _ => (putN_len x).2)
  have f2 := flat_le (fun e => encR (recE e)) 4016 m.es (fun x _ => encR_le _)
  have f3 := putS_le m.s
  have f4 : (numsM m).length = 9 := rfl
  unfold textM
  rw [List.length_append, List.length_append]
  have f5 : (if m.k = 5 then putS m.s else []).length ≤ 210000 := by
    split
    · exact f3
    · simp
  omega
theorem encM_len (m : Msg) : (encM m).length ≤ 300000 := by
  by_cases h : mayM m = true
  · have h1 := textM_len h
    have h2 := pcs_len _ (textM m) (Nat.lt_succ_self _)
    have h3 := putN_nat_len (textM m).length
    rw [encM_frm h]
    unfold frmP
    rw [List.length_append, sizeF_len]
    omega
  · rw [encM_no (by simpa using h)]
    simp
end Go.Proofs.Ytihcohneongomaa
namespace Go.Proofs.Ytihcohneongomaa
open Go.ChangeShapes Go.WideShapes Go.ChangeAt Go.RowKit

def isConf (e : Ent) : Bool := (confD e.d).2 && (e.k == 3)
/-- The last configuration of the first so many entries; else the snapshot's; and where it stands. -/
def scanC (s : Snp) (es : List Ent) : Nat → List Int × Int
  | 0 => if (confD s.c).2 = true then ((confD s.c).1, s.i) else ([], 0)
  | k + 1 => match es[k]? with
    | some e => if isConf e = true then ((confD e.d).1, s.i + 1 + k) else scanC s es k
    | none => scanC s es k
theorem scanC_yes {s : Snp} {es : List Ent} {k : Nat} (h : k < es.length) (hc : isConf es[k] = true) : scanC s es (k + 1) = ((confD es[k].d).1, s.i + 1 + k) := by
  rw [scanC, List.getElem?_eq_getElem h]
  simp only []
  rw [if_pos hc]
theorem scanC_no {s : Snp} {es : List Ent} {k : Nat} (h : k < es.length) (hc : isConf es[k] = false) : scanC s es (k + 1) = scanC s es k := by
  rw [scanC, List.getElem?_eq_getElem h]
  simp only []
  rw [if_neg (by rw [hc]; decide)]
def smallD (s : Snp) (es : List Ent) : Prop := s.c.size ≤ 1000000000 ∧ ∀ e ∈ es, e.d.size ≤ 1000000000
def RetConfAt (w : World) (r : List Int × Int) (e : Ending) (w' : World) : Prop :=
  ∃ v, e = .returned (.tuple #[v, .int .i64 r.2]) ∧ RI w' v r.1 ∧ Below w.heap.size w w'

/-- A new entry of noughts, made since a world. -/
def FreshE (w0 : World) (v : Value) (wx : World) : Prop := ∃ bb, v = .pointer (some ⟨bb, 0, none⟩) ∧ w0.heap.size ≤ bb ∧ bb < wx.heap.size ∧ wx.cell? ⟨bb, 0, none⟩ = some (.int .i64 0) ∧ wx.cell? ⟨bb, 1, none⟩ = some (.int .i64 0) ∧ wx.cell? ⟨bb, 2, none⟩ = some (.int .i64 0) ∧ wx.cell? ⟨bb, 3, none⟩ = some (.string .empty) ∧ ∀ j, wx.frozen? ⟨bb, j, none⟩ = false
theorem FreshE.below {w0 : World} {v : Value} {w1 w2 : World} (h : FreshE w0 v w1) (hb : Below w1.heap.size w1 w2) : FreshE w0 v w2 := by
  obtain ⟨bb, g1, g2, g3, g4, g5, g6, g7, g8⟩ := h
  exact ⟨bb, g1, g2, Nat.lt_of_lt_of_le g3 hb.size, (hb.cell (p := ⟨bb, 0, none⟩) g3).trans g4, (hb.cell (p := ⟨bb, 1, none⟩) g3).trans g5, (hb.cell (p := ⟨bb, 2, none⟩) g3).trans g6, (hb.cell (p := ⟨bb, 3, none⟩) g3).trans g7, fun j => (hb.frozen (p := ⟨bb, j, none⟩) g3).trans (g8 j)⟩
theorem freshE_alloc {w0 w : World} (T : TypeId) (h : w0.heap.size ≤ w.heap.size) : FreshE w0 (.pointer (some ⟨w.heap.size, 0, none⟩)) (w.alloc (.cells #[.int .i64 0, .int .i64 0, .int .i64 0, .string .empty] T)) :=
  ⟨_, rfl, h, by simp, World.cell?_alloc_new _ _ _ _, World.cell?_alloc_new _ _ _ _, World.cell?_alloc_new _ _ _ _, World.cell?_alloc_new _ _ _ _, fun j => World.frozen?_alloc_new _ _ _ _⟩

set_option maxRecDepth 100000 in
set_option maxHeartbeats 4000000 in
theorem log_confAt {w : World} {b : Nat} {s : Snp} {lv : Value} {es : List Ent} (h : LogS w b s lv es) (hB : LogB s es) (hD : smallD s es) :
    Calls Try.prog 57 #[logPtr b, .int .i64 (lastP s es)] w fun e w' => RetConfAt w (scanC s es es.length) e w' := by
  have hs1 := hB.1
  have hs2 := hB.2.1
  have hs3 := hB.2.2
  have hLast := log_last h hB
  have HS := Lib.hid h
  have HB := Lib.hid hB
  have HD := Lib.hid hD
  have hL : 0 ≤ lastP s es ∧ lastP s es ≤ 4611686018427388200 := by unfold lastP; omega
  have HL : Hid (lastP s es = s.i + (es.length : Nat)) := Lib.hid rfl
  have hblt := h.lt
  clear h hB hD
  generalize lastP s es = L at *
  have hmm : min L L = L := by omega
  unfold logPtr at *
  go_enter Try.func57, Try.ntmps57
  go_wp2_with fail
  refine hLast.mono ?_
  rintro e w' ⟨rfl, n, rfl⟩
  have hb1 : Below w.heap.size w (w.drewN n) := below_drewN' n
  generalize w.drewN n = w1 at *
  clear hLast
  go_wp2_with fail
  go_loopw [6] (fun x wr => ∃ j : Nat, j ≤ es.length ∧ x = .int .i64 (s.i + j) ∧ Hid (scanC s es es.length = scanC s es j) ∧ Below w.heap.size w wr) (fun x _ => (intOf x - s.i).toNat)
  case atStart => exact ⟨es.length, by omega, by rw [HL.out], Lib.hid rfl, hb1⟩
  case round =>
    obtain ⟨j, hj, rfl, HC, hbel⟩ := hrel
    have hS := HS.out.below hbel
    have hF := log_first hS HB.out
    clear hb1
    unfold logPtr at hF
    cases j with
    | zero =>
      have t0 : decide (s.i + 1 ≤ s.i + ((0 : Nat) : Int)) = false := decide_eq_false (by omega)
      have t1 : ¬ s.i + 1 ≤ s.i := by omega
      go_wp2_with fail
      refine hF.mono ?_
      rintro e w' ⟨rfl, rfl⟩
      have c2 := hS.c2
      have lb := hS.lt
      have HD2 : Hid (scanC s es es.length = if (confD s.c).2 = true then ((confD s.c).1, s.i) else ([], 0)) := HC
      clear HC
      go_wp2_with fail
      refine (conf_decode s.c _ HD.out.1).mono ?_
      rintro e w3 ⟨v3, rfl, hr3, hb3⟩
      have c0 := (hb3.cell (p := ⟨b, 0, none⟩) lb).trans hS.c0
      have hbz := hbel.trans (hb3.mono hbel.size)
      clear c2 hb3 hbel hF
      cases hc : (confD s.c).2 with
      | true =>
        have H1 : Hid (scanC s es es.length = ((confD s.c).1, s.i)) := Lib.hid (by rw [HD2.out, if_pos hc])
        clear hc HD2
        generalize confD s.c = cd at *
        have HR := Lib.hid hr3
        have hrq := fun n => RI.drewN n hr3
        have HRQ := Lib.hid hrq
        have hbq := fun n => below_drewN hbz n
        have HBQ := Lib.hid hbq
        clear hr3 hrq hbq hS
        go_wp2_with fail
        go_quiet (fail)
        go_wp2_with fail
        go_ret2
        exact ⟨_, by rw [H1.out]; rfl, by rw [H1.out]; exact HRQ.out _, HBQ.out _⟩
      | false =>
        have H1 : Hid (scanC s es es.length = ([], 0)) := Lib.hid (by rw [HD2.out, if_neg (by rw [hc]; decide)])
        clear hc HD2 hr3 hS
        go_wp2_with fail
        go_ret2
        exact ⟨_, by rw [H1.out]; rfl, by rw [H1.out]; exact (RowI.nil _).ri, hbz⟩
    | succ k =>
      have hkl : k < es.length := by omega
      have t0 : decide (s.i + 1 ≤ s.i + ((k + 1 : Nat) : Int)) = true := decide_eq_true (by omega)
      have lb := hS.lt
      obtain ⟨aL, cL, hlv⟩ := hS.r.slice
      have hSr := hS.r
      have c4 := hS.c4
      rw [hlv] at hSr c4
      obtain ⟨bL, oL, rfl, hbL, d0, d1, d2, d3⟩ := hSr.cells k hkl
      have HE := Lib.hid (HD.out.2 es[k] (List.getElem_mem hkl))
      have HY := Lib.hid (scanC_yes (s := s) hkl)
      have HN := Lib.hid (scanC_no (s := s) hkl)
      have q1 : IntKind.i64.wrap (s.i + ((k : Int) + 1) - (s.i + 1)) = (k : Int) := by rw [IntWalk.i64_in _ (by omega)]; omega
      have hSH := Lib.hid hS
      clear hlv hSr hS
      generalize es[k] = e at *
      obtain ⟨ei, et, ek, ed⟩ := e
      dsimp only at d0 d1 d2 d3 HE HY HN
      go_wp2_with fail
      refine hF.mono ?_
      rintro e w' ⟨rfl, rfl⟩
      go_upto_region 6 with fail
      rename World => wr
      go_cut [7] (fun x wx => ∃ bb, x = .pointer (some ⟨bb, 0, none⟩) ∧ wx.cell? ⟨bb, 2, none⟩ = some (.int .i64 ek) ∧ wx.cell? ⟨bb, 3, none⟩ = some (.string ed) ∧ bb < wx.heap.size ∧ Below wr.heap.size wr wx)
      case first =>
        refine wp_region_tail 11 (by rfl) (by kernel_rfl) (fun k => match k with | 6 => some (fun v _ => v = .int .i64 (s.i + 1)) | 10 => some (FreshE wr) | _ => none) ?_ (fun vals => ?_)
        · intro k φ hk v w1 w2 h1 h2
          match k, hk with
          | 6, hk => obtain rfl := Option.some.inj hk; exact h1
          | 10, hk => obtain rfl := Option.some.inj hk; exact h1.below h2
        dsimp only [List.take, List.drop]
        iterate 3 ((with_reducible refine sw_pure ?_ (fun K hK => ?_)); (· rfl); go_simp; with_reducible refine hK _ ?_; clear hK K)
        refine sw_at (.slice (some ⟨bL, oL, none⟩) es.length cL) rfl rfl (fun wz hz' hH => ?_) (fun K hK => ?_)
        · have h2 := (hz'.cell (p := ⟨b, 4, none⟩) lb).trans c4
          go_simp
        go_simp; refine hK _ ?_; clear hK K
        iterate 2 ((with_reducible refine sw_pure ?_ (fun K hK => ?_)); (· rfl); go_simp; with_reducible refine hK _ ?_; clear hK K)
        refine sw_call _ rfl rfl (fun wz hz' hH => ?_) (fun K hK => ?_)
        · go_simp
          go_at_call 20
          refine (log_first (hSH.out.below hz') HB.out).mono ?_
          rintro e w' ⟨rfl, rfl⟩
          exact ⟨_, rfl, rfl, Below.refl _ _⟩
        go_simp; refine hK _ ?_; clear hK K
        refine sw_at (.int .i64 k) rfl rfl (fun wz hz' hH => ?_) (fun K hK => ?_)
        · have h3 := hH _ (List.Mem.head _) rfl
          dsimp only at h3
          rw [h3]
          go_simp
        go_simp; refine hK _ ?_; clear hK K
        iterate 1 ((with_reducible refine sw_pure ?_ (fun K hK => ?_)); (· rfl); go_simp; with_reducible refine hK _ ?_; clear hK K)
        refine sw_at (.agg #[.int .i64 ei, .int .i64 et, .int .i64 ek, .string ed]) rfl rfl (fun wz hz' hH => ?_) (fun K hK => ?_)
        · have g0 := (hz'.cell (p := ⟨bL, oL + k * 4, none⟩) hbL).trans d0
          have g1 := (hz'.cell (p := ⟨bL, oL + k * 4 + 1, none⟩) hbL).trans d1
          have g2 := (hz'.cell (p := ⟨bL, oL + k * 4 + 2, none⟩) hbL).trans d2
          have g3 := (hz'.cell (p := ⟨bL, oL + k * 4 + 3, none⟩) hbL).trans d3
          go_simp
        go_simp; refine hK _ ?_; clear hK K
        refine sw_call _ rfl rfl (fun wz hz' hH => ?_) (fun K hK => ?_)
        · go_simp
          exact ⟨freshE_alloc _ hz'.size, (Below.refl _ _).alloc (Nat.le_refl _) _⟩
        go_simp; refine hK _ ?_; clear hK K
        refine sw_done (fun wz hz' hH => ?_)
        have hq := hH _ (List.Mem.head _)
        dsimp only at hq
        obtain ⟨bb, g1, g2, g3, g4, g5, g6, g7, g8⟩ := hq
        have f0 := g8 0
        have f1 := g8 1
        have f2 := g8 2
        have f3 := g8 3
        rw [g1]
        unfold tailQ
        clear hH g1 g8
        go_wp2_with fail
        go_meet
        have hbz : Below wr.heap.size wr ((((wz.setCell ⟨bb, 0, none⟩ (.int .i64 ei)).setCell ⟨bb, 1, none⟩ (.int .i64 et)).setCell ⟨bb, 2, none⟩ (.int .i64 ek)).setCell ⟨bb, 3, none⟩ (.string ed)) :=
          (((hz'.setCell (by show _ ≤ bb; omega) _).setCell (by show _ ≤ bb; omega) _).setCell (by show _ ≤ bb; omega) _).setCell (by show _ ≤ bb; omega) _
        refine ⟨bb, rfl, ?_, ?_, by simpa [World.setCell] using g3, hbz⟩
        · rw [World.cell?_setCell_other (h := by simp)]
          exact World.cell?_setCell_same _ _ _ (show World.cell? _ _ = some (.int .i64 0) from by rw [World.cell?_setCell_other (h := by simp), World.cell?_setCell_other (h := by simp)]; exact g6)
        · exact World.cell?_setCell_same _ _ _ (show World.cell? _ _ = some (.string .empty) from by rw [World.cell?_setCell_other (h := by simp), World.cell?_setCell_other (h := by simp), World.cell?_setCell_other (h := by simp)]; exact g7)
      case rest =>
        obtain ⟨bb, rfl, g2, g3, hbb, hb2⟩ := hcut
        have hbz := hbel.trans (hb2.mono hbel.size)
        clear hF c4 d0 d1 d2 d3 q1 hb2 hbel hSH
        rename World => w2
        go_wp2_with fail
        refine (conf_decode ed _ HE.out).mono ?_
        rintro e w3 ⟨v3, rfl, hr3, hb3⟩
        have g2 := (hb3.cell (p := ⟨bb, 2, none⟩) hbb).trans g2
        have hby := hbz.trans (hb3.mono hbz.size)
        have HI : Hid (isConf ⟨ei, et, ek, ed⟩ = ((confD ed).2 && (ek == 3))) := Lib.hid rfl
        have HC2 : Hid (scanC s es es.length = scanC s es (k + 1)) := HC
        clear g3 hbb hb3 hbz HC
        cases hc : (confD ed).2 with
        | true =>
          cases hk3 : (ek == 3) with
          | true =>
            have H1 : Hid (scanC s es es.length = ((confD ed).1, s.i + 1 + k)) := Lib.hid (by rw [HC2.out, HY.out (by rw [HI.out, hc, hk3]; rfl)])
            have HR := Lib.hid hr3
            clear hc HY HN HI HC2 hr3
            generalize confD ed = cd at *
            go_wp2_with fail
            go_ret2
            refine ⟨_, ?_, by rw [H1.out]; exact HR.out, hby⟩
            rw [H1.out]
            show Ending.returned (.tuple #[_, .int .i64 (s.i + ((k : Int) + 1))]) = .returned (.tuple #[_, .int .i64 (s.i + 1 + (k : Int))])
            rw [show s.i + ((k : Int) + 1) = s.i + 1 + k by omega]
            rfl
          | false =>
            have H1 : Hid (scanC s es es.length = scanC s es k) := Lib.hid (by rw [HC2.out, HN.out (by rw [HI.out, hc, hk3]; rfl)])
            clear hc HY HN HI HC2 hr3
            go_wp2_with fail
            go_roundw
            case rel => exact ⟨k, by omega, by congr 1; omega, H1, hby⟩
            case measure => simp [intOf]; omega
        | false =>
          have H1 : Hid (scanC s es es.length = scanC s es k) := Lib.hid (by rw [HC2.out, HN.out (by rw [HI.out, hc]; rfl)])
          clear hc HY HN HI HC2 hr3
          go_wp2_with fail
          go_roundw
          case rel => exact ⟨k, by omega, by congr 1; omega, H1, hby⟩
          case measure => simp [intOf]; omega

theorem log_conf {w : World} {b : Nat} {s : Snp} {lv : Value} {es : List Ent} (h : LogS w b s lv es) (hB : LogB s es) (hD : smallD s es) :
    Calls Try.prog 26 #[logPtr b] w fun e w' => RetConfAt w (scanC s es es.length) e w' := by
  have hLast := log_last h hB
  have HS := Lib.hid h
  have HB := Lib.hid hB
  have HD := Lib.hid hD
  clear h hB hD
  have HF := Lib.hid (fun (w' : World) (hb : Below w.heap.size w w') => log_confAt (HS.out.below hb) HB.out HD.out)
  unfold logPtr at *
  go_enter Try.func26, Try.ntmps26
  go_wp2_with fail
  refine hLast.mono ?_
  rintro e w' ⟨rfl, n, rfl⟩
  have hb1 : Below w.heap.size w (w.drewN n) := below_drewN' n
  have hc := HF.out _ hb1
  generalize w.drewN n = w1 at *
  clear hLast
  go_wp2_with fail
  refine hc.mono ?_
  rintro e w2 ⟨v, rfl, hr, hb2⟩
  have hbz := hb1.trans (hb2.mono hb1.size)
  clear hc hb1 hb2
  go_wp2_with fail
  go_ret2
  exact ⟨v, rfl, hr, hbz⟩
end Go.Proofs.Ytihcohneongomaa
namespace Go.Proofs.Ytihcohneongomaa
open Go.ChangeShapes Go.WideShapes Go.ChangeAt Go.RowKit

/-- A literal slice of entries that the walk has just built. -/
theorem EntR.fresh (w : World) (es : List Ent) (T : TypeId) (fr : Nat × Nat) (arr : Array Value) (n : Nat) (hn : n = es.length) (h : arr = (es.flatMap entCells).toArray) (hl : es.length ≤ 1000000) :
    EntR (w.alloc (.cells arr T fr)) (.slice (some ⟨w.heap.size, 0, none⟩) n n) es := by
  subst h hn
  refine ⟨_, _, rfl, Nat.le_refl _, by omega, fun k hk => ⟨_, _, rfl, by simp, fun j u hu => ?_⟩⟩
  have hj : j < 4 := by have := (List.getElem?_eq_some_iff.1 hu).1; simpa [entCells] using this
  rw [Nat.zero_add, cell_of_row (w.alloc _) w.heap.size _ _ T fr (heap_alloc_new w _), List.getElem?_toArray, entCells_get es k hk j hj]
  exact hu

def entA (i t : Int) : Ent := ⟨i, t, 0, .empty⟩
def snpA (i t : Int) : Snp := ⟨i, t, .empty, .empty⟩

set_option maxRecDepth 100000 in
set_option maxHeartbeats 4000000 in
theorem log_begun (w : World) : Calls Try.prog 15 #[] w fun e w' => e = .returned (.bool true) ∧ Below w.heap.size w w' := by
  have N1 : newOk (snpA 4 2) [entA 5 2, entA 6 3] = true := by kernel_rfl
  have P1 : Hid (putP (snpA 4 2) [entA 5 2, entA 6 3] [entA 6 4, entA 7 4] = ((6, true), [entA 5 2, entA 6 4, entA 7 4])) := Lib.hid (by kernel_rfl)
  have T1 : Hid (termP (snpA 4 2) [entA 5 2, entA 6 4, entA 7 4] 6 = (4, true)) := Lib.hid (by kernel_rfl)
  have L1 : Hid (lastP (snpA 4 2) [entA 5 2, entA 6 4, entA 7 4] = 7) := Lib.hid (by kernel_rfl)
  have G1 : Hid ((getP (snpA 4 2) [entA 5 2, entA 6 4, entA 7 4] 6 9).length = 2) := Lib.hid (by kernel_rfl)
  have F1 : Hid (fitsP (snpA 4 2) [entA 5 2, entA 6 4, entA 7 4] 4 2 = true) := Lib.hid (by kernel_rfl)
  have W1 : Hid (newerP (snpA 4 2) [entA 5 2, entA 6 4, entA 7 4] 7 4 = true) := Lib.hid (by kernel_rfl)
  have W2 : Hid (newerP (snpA 4 2) [entA 5 2, entA 6 4, entA 7 4] 6 4 = false) := Lib.hid (by kernel_rfl)
  have K1 : Hid (packOk (snpA 4 2) [entA 5 2, entA 6 4, entA 7 4] (snpA 6 4) = true) := Lib.hid (by kernel_rfl)
  have B1 : LogB (snpA 4 2) [entA 5 2, entA 6 3] := ⟨by decide, by decide, by decide⟩
  have B2 : LogB (snpA 4 2) [entA 5 2, entA 6 4, entA 7 4] := ⟨by decide, by decide, by decide⟩
  have B3 : LogB (snpA 6 4) [entA 7 4] := ⟨by decide, by decide, by decide⟩
  have hE0 := EntR.fresh w [entA 5 2, entA 6 3] 37 (0, 0) _ 2 rfl rfl (by decide)
  have hb0 := (Below.refl w.heap.size w).alloc (Nat.le_refl _) (.cells ([entA 5 2, entA 6 3].flatMap entCells).toArray 37)
  have HB1 := Lib.hid B1
  have HB2 := Lib.hid B2
  have HB3 := Lib.hid B3
  have HN := Lib.hid N1
  clear B1 B2 B3 N1
  go_enter Try.func15, Try.ntmps15
  go_wp2_with fail
  refine (log_new (snpA 4 2) _ [entA 5 2, entA 6 3] _ hE0 (by decide)).mono ?_
  intro e w1 hr
  unfold RetNewL at hr
  rw [if_pos HN.out] at hr
  obtain ⟨b, lv, rfl, hS, hb1, hbw, hsi⟩ := hr
  have hba := hb0.trans (hb1.mono hb0.size)
  have hbw := Nat.le_trans hb0.size hbw
  clear hb0 hb1 hsi hE0
  have hE1 := EntR.fresh w1 [entA 6 4, entA 7 4] 37 (0, 0) _ 2 rfl rfl (by decide)
  have hb2 := (Below.refl w1.heap.size w1).alloc (Nat.le_refl _) (.cells ([entA 6 4, entA 7 4].flatMap entCells).toArray 37)
  have hS1 := hS.below hb2
  unfold logPtr
  go_wp2_with fail
  refine (log_put (s := snpA 4 2) (es := [entA 5 2, entA 6 3]) (fs := [entA 6 4, entA 7 4]) hS1 HB1.out hE1 (by decide) (by intro e he; simp only [List.mem_cons, List.not_mem_nil, or_false] at he; rcases he with rfl | rfl <;> exact ⟨by decide, by decide⟩)).mono ?_
  rintro e w2 ⟨lv2, rfl, hS2, hk2, -⟩
  rw [P1.out] at hS2 ⊢
  have hbb : Below w.heap.size w w2 := (hba.trans (hb2.mono hba.size)).trans ((hk2.below (B := w.heap.size) (fun x hx => by simp only [List.mem_singleton] at hx; omega) (by have := hba.size; have := hb2.size; omega)))
  clear hS1 hS hk2 hb2 hba hE1
  dsimp only at hS2 ⊢
  go_wp2_with fail
  refine (log_term 6 hS2 HB2.out).mono ?_
  rintro e w3 ⟨rfl, hb3⟩
  rw [T1.out]
  have hS3 := hS2.below hb3
  have hbb := hbb.trans (hb3.mono hbb.size)
  clear hS2 hb3
  dsimp only
  go_wp2_with fail
  refine (log_first hS3 HB2.out).mono ?_
  rintro e w3' ⟨rfl, rfl⟩
  rw [show (snpA 4 2).i = 4 from rfl]
  go_wp2_with fail
  refine (log_last hS3 HB2.out).mono ?_
  rintro e w4 ⟨rfl, n4, rfl⟩
  rw [L1.out]
  have hS4 := hS3.below (below_drewN' n4)
  have hbb := below_drewN hbb n4
  clear hS3
  generalize World.drewN _ n4 = w4 at *
  go_wp2_with fail
  refine (log_get 6 9 hS4 HB2.out).mono ?_
  rintro e w5 ⟨v5, rfl, ho5, hb5⟩
  obtain ⟨a5, c5, rfl⟩ := ho5.r.slice
  rw [G1.out]
  have hS5 := hS4.below hb5
  have hbb := hbb.trans (hb5.mono hbb.size)
  clear hS4 hb5 ho5
  go_wp2_with fail
  refine (log_fits 4 2 hS5 HB2.out).mono ?_
  rintro e w6 ⟨rfl, hb6⟩
  rw [F1.out]
  have hS6 := hS5.below hb6
  have hbb := hbb.trans (hb6.mono hbb.size)
  clear hS5 hb6
  go_wp2_with fail
  refine (log_newer 7 4 hS6 HB2.out).mono ?_
  rintro e w7 ⟨rfl, hb7⟩
  rw [W1.out]
  have hS7 := hS6.below hb7
  have hbb := hbb.trans (hb7.mono hbb.size)
  clear hS6 hb7
  go_wp2_with fail
  refine (log_newer 6 4 hS7 HB2.out).mono ?_
  rintro e w8 ⟨rfl, hb8⟩
  rw [W2.out]
  have hS8 := hS7.below hb8
  have hbb := hbb.trans (hb8.mono hbb.size)
  clear hS7 hb8
  go_wp2_with fail
  refine (log_pack (n := snpA 6 4) hS8 HB2.out).mono ?_
  rintro e w9 ⟨lv9, rfl, hk9, -, hS9⟩
  rw [K1.out, if_pos rfl] at hS9
  rw [K1.out]
  have hbb := hbb.trans ((hk9.below (B := w.heap.size) (fun x hx => by simp only [List.mem_singleton] at hx; omega) hbb.size))
  clear hS8 hk9
  go_wp2_with fail
  refine (log_first hS9 HB3.out).mono ?_
  rintro e w10 ⟨rfl, rfl⟩
  rw [show (snpA 6 4).i = 6 from rfl]
  go_wp2_with fail
  go_ret
  exact ⟨rfl, hbb⟩
end Go.Proofs.Ytihcohneongomaa
