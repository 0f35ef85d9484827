/-
  No claim by itself: messages as bytes: what may be, how it is written, how it is read. | logs: ConfAt as of the last entry, Conf. | the first lines of the laws on logs return true. | what the laws on logs make of their arguments: Snap, Entries. | plain facts on logs: rows, Put of what is there. | how a snapshot and a slice of entries that came in are opened. | the document's EqEntry, EqEntries, EqSnap: of what is the same they say so. | a snapshot in a block of its own. No condition.
-/
import Derived.Test.YtcogmohepcifiaaP5
import Derived.Test.YtcogmohepcifiaaP6
import Derived.Test.YtcogmohepcifiaaP3
import Derived.Lib.SmallJoins
import Derived.Test.YtcogmohepcifiaaP4
import Derived.Deep.QuietTactic
import Derived.Deep.DeepCutAuto
import Derived.Deep.Cut
import Derived.WalkSmall
import Derived.Test.YtcogmohepcifiaaP2
namespace Go.Proofs.Ytcogmohepcifiaa
open Go.ChangeShapes Go.WideShapes Go.ChangeAt Go.RowKit

/-- A message. -/
structure Msg where
  k : Int
  f : Int
  o : Int
  t : Int
  i : Int
  l : Int
  c : Int
  y : Bool
  es : List Ent
  s : Snp
def zeroM : Msg := ⟨0, 0, 0, 0, 0, 0, 0, false, [], zeroS⟩
def recE (e : Ent) : Rec := ⟨false, 0, 0, e⟩
/-- May the entries be, behind this index and Term, up to that Term? -/
def entsM (T : Int) : Int → Int → List Ent → Bool
  | _, _, [] => true
  | i, t, e :: es => ((e.i == i + 1) && decide (t ≤ e.t) && decide (e.t ≤ T) && mayR (recE e)) && entsM T e.i e.t es
def zeroSnpB (s : Snp) : Bool := (s.i == 0) && (s.t == 0) && decide (s.c.size = 0) && decide (s.d.size = 0)
def headM (m : Msg) : Bool :=
  decide (1 ≤ m.k ∧ m.k ≤ 5 ∧ 1 ≤ m.f ∧ m.f ≤ 7 ∧ 1 ≤ m.o ∧ m.o ≤ 7 ∧ 1 ≤ m.t ∧ m.t ≤ 1099511627776 ∧ 0 ≤ m.i ∧ m.i ≤ 1099511627776 ∧ 0 ≤ m.l ∧ m.l ≤ 1099511627776 ∧ 0 ≤ m.c ∧ m.c ≤ 1099511627776)
def kindM (m : Msg) : Bool := decide (m.es.length ≤ 8 ∧ (m.es.length = 0 ∨ m.k = 3)) && decide (m.y = false ∨ m.k = 2 ∨ m.k = 4)
def tailM (m : Msg) : Bool := if m.k = 5 then (confD m.s.c).2 && mayS m.s else zeroSnpB m.s
/-- May it be? -/
def mayM (m : Msg) : Bool := headM m && entsM m.t m.i m.l m.es && kindM m && tailM m

def yesN (b : Bool) : Int := if b then 1 else 0
def numsM (m : Msg) : List Int := [m.k, m.f, m.o, m.t, m.i, m.l, m.c, yesN m.y, (m.es.length : Int)]
def textM (m : Msg) : List UInt8 := (numsM m).flatMap putN ++ m.es.flatMap (fun e => encR (recE e)) ++ (if m.k = 5 then putS m.s else [])
/-- The pieces of a text. -/
def pcsF : Nat → List UInt8 → List UInt8
  | 0, _ => []
  | f + 1, d => if d.length = 0 then [] else sealP 8 (d.take 3000) ++ pcsF f (d.drop 3000)
theorem pcsF_stable : ∀ (f g : Nat) (d : List UInt8), d.length < f → d.length < g → pcsF f d = pcsF g d := by
  intro f
  induction f with
  | zero => intro g l h; omega
  | succ f ih =>
    intro g d hf hg
    cases g with
    | zero => omega
    | succ g =>
      rw [pcsF, pcsF]
      by_cases h0 : d.length = 0
      · rw [if_pos h0, if_pos h0]
      · rw [if_neg h0, if_neg h0, ih g (d.drop 3000) (by rw [List.length_drop]; omega) (by rw [List.length_drop]; omega)]
def pcsP (d : List UInt8) : List UInt8 := pcsF (d.length + 1) d
theorem pcsP_nil : pcsP [] = [] := rfl
theorem pcsP_cons {d : List UInt8} (h : d.length ≠ 0) : pcsP d = sealP 8 (d.take 3000) ++ pcsP (d.drop 3000) := by
  unfold pcsP
  rw [pcsF, if_neg h, pcsF_stable d.length ((d.drop 3000).length + 1) (d.drop 3000) (by rw [List.length_drop]; omega) (Nat.lt_succ_self _)]
def sizeF (d : List UInt8) : List UInt8 := sealP 7 (putN (d.length : Nat))
/-- Its bytes; none, if it may not be. -/
def encM (m : Msg) : List UInt8 := if mayM m then sizeF (textM m) ++ pcsP (textM m) else []

/-- The entries that are read: so many are told, those so far, what is left. -/
def entsF : Nat → Int → List Ent → List UInt8 × Bool → List Ent × List UInt8 × Bool
  | 0, _, es, s => (es, s)
  | f + 1, n, es, s => if 0 < n ∧ s.2 = false ∧ es.length ≤ 8 then
      entsF f (n - 1) (es ++ [(decR s.1).1.e]) (if (decR s.1).2.2 ≠ 0 then (s.1, true) else (s.1.drop (decR s.1).2.1, false)) else (es, s)
def snapF (k : Int) (s : List UInt8 × Bool) : Snp × List UInt8 × Bool :=
  if k = 5 ∧ s.2 = false then ((getS s.1).1, if (getS s.1).2.2 ≠ 0 then (s.1, true) else (s.1.drop (getS s.1).2.1, false)) else (zeroS, s)
/-- A message out of its text. -/
def msgP (b : List UInt8) : Msg × List UInt8 × Bool :=
  let x1 := rdN (b, false)
  let x2 := rdN x1.2
  let x3 := rdN x2.2
  let x4 := rdN x3.2
  let x5 := rdN x4.2
  let x6 := rdN x5.2
  let x7 := rdN x6.2
  let x8 := rdN x7.2
  let x9 := rdN x8.2
  let q := entsF 10 x9.1 [] x9.2
  let g := snapF x1.1 q.2
  (⟨x1.1, x2.1, x3.1, x4.1, x5.1, x6.1, x7.1, x8.1 == 1, q.1, g.1⟩, g.2)

theorem entsM_all {T : Int} : ∀ {es : List Ent} {i t : Int}, entsM T i t es = true → ∀ e ∈ es, mayR (recE e) = true := by
  intro es
  induction es with
  | nil => intro i t _ e he; simp at he
  | cons x es ih =>
    intro i t h e he
    unfold entsM at h
    simp only [Bool.and_eq_true] at h
    rcases List.mem_cons.1 he with rfl | he
    · exact h.1.2
    · exact ih h.2 e he
theorem mayM_parts {m : Msg} (h : mayM m = true) : headM m = true ∧ entsM m.t m.i m.l m.es = true ∧ kindM m = true ∧ tailM m = true := by
  unfold mayM at h
  simp only [Bool.and_eq_true] at h
  exact ⟨h.1.1.1, h.1.1.2, h.1.2, h.2⟩
theorem entsF_put : ∀ (es acc : List Ent) (f : Nat) (rest : List UInt8), (∀ e ∈ es, mayR (recE e) = true) → acc.length + es.length ≤ 8 → es.length < f →
    entsF f (es.length : Nat) acc (es.flatMap (fun e => encR (recE e)) ++ rest, false) = (acc ++ es, rest, false) := by
  intro es
  induction es with
  | nil =>
    intro acc f rest _ _ hf
    cases f with
    | zero => simp at hf
    | succ f => rw [entsF, if_neg (by simp)]; simp
  | cons e es ih =>
    intro acc f rest hm hl hf
    cases f with
    | zero => simp at hf
    | succ f =>
      simp only [List.length_cons] at hl hf
      rw [entsF, if_pos ⟨by simp, rfl, by omega⟩, List.flatMap_cons, List.append_assoc]
      rw [decR_enc _ (hm e (by simp))]
      simp only [ne_eq, not_true_eq_false, if_false, List.drop_left]
      have hn : (((e :: es).length : Nat) : Int) - 1 = ((es.length : Nat) : Int) := by simp
      rw [hn, ih (acc ++ [(recE e).e]) f rest (fun x hx => hm x (by simp [hx])) (by simp; omega) (by omega)]
      simp [recE]
theorem zeroSnp_eq {s : Snp} (h : zeroSnpB s = true) : s = zeroS := by
  unfold zeroSnpB at h
  simp only [Bool.and_eq_true, beq_iff_eq, decide_eq_true_eq] at h
  obtain ⟨⟨⟨h1, h2⟩, h3⟩, h4⟩ := h
  obtain ⟨i, t, c, d⟩ := s
  simp only at h1 h2 h3 h4
  have e : ∀ d : ByteArray, d.size = 0 → d = .empty := fun d h => by
    apply ByteArray.ext
    have : d.data.toList = [] := List.eq_nil_of_length_eq_zero ((size_data d).trans h)
    simpa using this
  rw [h1, h2, e c h3, e d h4]
  rfl
theorem snapF_put {m : Msg} (h : tailM m = true) : snapF m.k ((if m.k = 5 then putS m.s else []), false) = (m.s, [], false) := by
  unfold tailM at h
  unfold snapF
  by_cases hk : m.k = 5
  · rw [if_pos hk] at h
    rw [Bool.and_eq_true] at h
    have hg := getS_put [] h.2
    rw [List.append_nil] at hg
    rw [if_pos hk, if_pos ⟨hk, rfl⟩]
    simp only [hg, ne_eq, not_true_eq_false, if_false, List.drop_length]
  · rw [if_neg hk] at h
    rw [if_neg hk, if_neg (by simp [hk]), zeroSnp_eq h]
theorem headM_iff {m : Msg} : headM m = true ↔ 1 ≤ m.k ∧ m.k ≤ 5 ∧ 1 ≤ m.f ∧ m.f ≤ 7 ∧ 1 ≤ m.o ∧ m.o ≤ 7 ∧ 1 ≤ m.t ∧ m.t ≤ 1099511627776 ∧ 0 ≤ m.i ∧ m.i ≤ 1099511627776 ∧ 0 ≤ m.l ∧ m.l ≤ 1099511627776 ∧ 0 ≤ m.c ∧ m.c ≤ 1099511627776 := by
  unfold headM
  rw [decide_eq_true_eq]
theorem kindM_iff {m : Msg} : kindM m = true ↔ (m.es.length ≤ 8 ∧ (m.es.length = 0 ∨ m.k = 3)) ∧ (m.y = false ∨ m.k = 2 ∨ m.k = 4) := by
  unfold kindM
  rw [Bool.and_eq_true, decide_eq_true_eq, decide_eq_true_eq]
/-- A message's text is read. -/
theorem msgP_text {m : Msg} (h : mayM m = true) : msgP (textM m) = (m, [], false) := by
  obtain ⟨h1, h2, h3, h4⟩ := mayM_parts h
  obtain ⟨a1, a2, a3, a4, a5, a6, a7, a8, a9, a10, a11, a12, a13, a14⟩ := headM_iff.1 h1
  obtain ⟨⟨b1, -⟩, -⟩ := kindM_iff.1 h3
  have he := entsF_put m.es [] 10 (if m.k = 5 then putS m.s else []) (entsM_all h2) (by simpa using b1) (by omega)
  have hs := snapF_put h4
  have hy : yesN m.y = 0 ∨ yesN m.y = 1 := by unfold yesN; split <;> simp
  have hy2 : (yesN m.y == 1) = m.y := by unfold yesN; cases m.y <;> decide
  unfold msgP textM numsM
  simp only [List.flatMap_cons, List.flatMap_nil, List.append_nil, List.append_assoc]
  rw [rdN_put m.k _ (by omega) (by omega)]
  simp only [rdN_put m.f _ (by omega) (by omega), rdN_put m.o _ (by omega) (by omega), rdN_put m.t _ (by omega) (by omega), rdN_put m.i _ (by omega) (by omega), rdN_put m.l _ (by omega) (by omega), rdN_put m.c _ (by omega) (by omega),
    rdN_put (yesN m.y) _ (by omega) (by omega), rdN_put (m.es.length : Nat) _ (by omega) (by omega), he, hs, hy2, List.nil_append]

/-! ### The frames -/
theorem pcs_all : ∀ (f : Nat) (d : List UInt8), d.length < f → (allP (pcsP d)).1.flatMap (·.2) = d := by
  intro f
  induction f with
  | zero => intro d h; omega
  | succ f ih =>
    intro d hf
    by_cases h0 : d.length = 0
    · have : d = [] := List.eq_nil_of_length_eq_zero h0
      subst this
      rfl
    · have ht : (d.take 3000).length = min 3000 d.length := List.length_take
      rw [pcsP_cons h0, allP_seal _ (by omega) (by omega) (by omega)]
      simp only [List.flatMap_cons]
      rw [ih (d.drop 3000) (by rw [List.length_drop]; omega), List.take_append_drop]
theorem putN_nat_len (n : Nat) : (putN (n : Int)).length ≤ 10 := (putN_len _).2
/-- What stands in the frames behind the first. -/
def bodiesP (l : List UInt8) : List UInt8 := ((allP l).1.drop 1).flatMap (·.2)
theorem bodies_enc {m : Msg} (h : mayM m = true) : bodiesP (encM m) = textM m := by
  have hp := putN_nat_len (textM m).length
  unfold bodiesP encM sizeF
  rw [if_pos h, allP_seal _ (by omega) (by omega) (by omega)]
  simp only [List.drop_succ_cons, List.drop_zero]
  exact pcs_all _ _ (Nat.lt_succ_self _)
theorem encM_inj {a b : Msg} (ha : mayM a = true) (hb : mayM b = true) (h : encM a = encM b) : a = b := by
  have h1 := bodies_enc ha
  rw [h, bodies_enc hb] at h1
  have h2 := msgP_text ha
  rw [← h1, msgP_text hb] at h2
  exact (Prod.mk.inj h2).1.symm
theorem sizeF_len (d : List UInt8) : (sizeF d).length = 6 + (putN (d.length : Nat)).length := by
  have hp := putN_nat_len d.length
  unfold sizeF
  rw [sealP_len (by omega) (by omega) (by omega), show (putN ((putN (d.length : Nat)).length : Nat)).length = 1 from putN_one (by omega) (by omega)]
theorem encM_pos {m : Msg} (h : mayM m = true) : 6 ≤ (encM m).length := by
  unfold encM
  rw [if_pos h, List.length_append, sizeF_len]
  omega
theorem encM_no {m : Msg} (h : mayM m = false) : encM m = [] := by
  unfold encM
  rw [if_neg (by rw [h]; decide)]
theorem putN_nat_mono {a b : Nat} (h : a ≤ b) : (putN (a : Int)).length ≤ (putN (b : Int)).length := putN_mono (by unfold zig; rw [if_neg (by omega), if_neg (by omega)]; omega)
theorem pcs_mono : ∀ (f : Nat) (d e : List UInt8), e.length < f → d.length < e.length → (pcsP d).length < (pcsP e).length := by
  intro f
  induction f with
  | zero => intro d e h; omega
  | succ f ih =>
    intro d e hf hde
    have hte : (e.take 3000).length = min 3000 e.length := List.length_take
    have hdre : (e.drop 3000).length = e.length - 3000 := List.length_drop
    rw [pcsP_cons (d := e) (by omega), List.length_append, sealP_len (by omega) (by omega) (by omega)]
    by_cases h0 : d.length = 0
    · have : d = [] := List.eq_nil_of_length_eq_zero h0
      subst this
      rw [pcsP_nil, List.length_nil]
      omega
    · have htd : (d.take 3000).length = min 3000 d.length := List.length_take
      have hdrd : (d.drop 3000).length = d.length - 3000 := List.length_drop
      rw [pcsP_cons (d := d) h0, List.length_append, sealP_len (by omega) (by omega) (by omega)]
      have hm := putN_nat_mono (a := (d.take 3000).length) (b := (e.take 3000).length) (by omega)
      by_cases h3 : d.length < 3000
      · have : d.drop 3000 = [] := List.eq_nil_of_length_eq_zero (by omega)
        rw [this, pcsP_nil, List.length_nil]
        omega
      · have := ih (d.drop 3000) (e.drop 3000) (by omega) (by omega)
        omega
theorem pcs_same : ∀ (f : Nat) (d e : List UInt8), e.length < f → d.length = e.length → (pcsP d).length = (pcsP e).length := by
  intro f
  induction f with
  | zero => intro d e h; omega
  | succ f ih =>
    intro d e hf hde
    by_cases h0 : e.length = 0
    · have h1 : e = [] := List.eq_nil_of_length_eq_zero h0
      have h2 : d = [] := List.eq_nil_of_length_eq_zero (by omega)
      rw [h1, h2]
    · have hte : (e.take 3000).length = min 3000 e.length := List.length_take
      have hdre : (e.drop 3000).length = e.length - 3000 := List.length_drop
      have htd : (d.take 3000).length = min 3000 d.length := List.length_take
      have hdrd : (d.drop 3000).length = d.length - 3000 := List.length_drop
      rw [pcsP_cons (d := e) h0, pcsP_cons (d := d) (by omega), List.length_append, List.length_append, sealP_len (by omega) (by omega) (by omega), sealP_len (by omega) (by omega) (by omega)]
      rw [ih (d.drop 3000) (e.drop 3000) (by omega) (by omega), htd, hte, hde]
def frmP (d : List UInt8) : List UInt8 := sizeF d ++ pcsP d
theorem frm_len {d e : List UInt8} (h : d.length = e.length) : (frmP d).length = (frmP e).length := by
  unfold frmP
  rw [List.length_append, List.length_append, sizeF_len, sizeF_len, h, pcs_same _ d e (Nat.lt_succ_self _) h]
theorem frm_lt {d e : List UInt8} (h : d.length < e.length) : (frmP d).length < (frmP e).length := by
  unfold frmP
  rw [List.length_append, List.length_append, sizeF_len, sizeF_len]
  have := pcs_mono _ d e (Nat.lt_succ_self _) h
  have := putN_nat_mono (Nat.le_of_lt h)
  omega
/-- Cut off: nobody's. -/
theorem frm_cut {d e : List UInt8} {n : Nat} (hn : n < (frmP d).length) (hd : d.length ≤ 9223372036854775807) (he : e.length ≤ 9223372036854775807) : frmP e ≠ (frmP d).take n := by
  intro h
  have hp := putN_nat_len d.length
  have hq := putN_nat_len e.length
  have h1 : frmP d = frmP e ++ (frmP d).drop n := by rw [h, List.take_append_drop]
  have o1 : openP (frmP d) = (7, putN (d.length : Nat), (sizeF d).length, 0) := open_seal _ (by omega) (by omega) (by omega)
  rw [h1] at o1
  unfold frmP at o1
  rw [List.append_assoc] at o1
  have o2 : openP (sizeF e ++ (pcsP e ++ (sizeF d ++ pcsP d).drop n)) = (7, putN (e.length : Nat), (sizeF e).length, 0) := open_seal _ (by omega) (by omega) (by omega)
  rw [o2] at o1
  simp only [Prod.mk.injEq, true_and, and_true] at o1
  have h2 := (putN_pre (a := (e.length : Nat)) (b := (d.length : Nat)) (X := []) (Y := []) (by omega) (by omega) (by omega) (by omega) (by rw [List.append_nil, List.append_nil]; exact o1.1)).1
  have h3 := frm_len (d := e) (e := d) (by omega)
  rw [h, List.length_take] at h3
  omega
theorem pcs_set : ∀ (f : Nat) (d e : List UInt8) (i : Nat) (x : UInt8) (_hf : d.length < f) (_hl : e.length = d.length) (hi : i < (pcsP d).length), (pcsP d)[i] ≠ x → pcsP e ≠ (pcsP d).set i x := by
  intro f
  induction f with
  | zero => intro d e i x h; omega
  | succ f ih =>
    intro d e i x hf hl hi hx heq
    by_cases h0 : d.length = 0
    · have : d = [] := List.eq_nil_of_length_eq_zero h0
      subst this
      rw [pcsP_nil, List.length_nil] at hi
      omega
    have hte : (e.take 3000).length = min 3000 e.length := List.length_take
    have hdre : (e.drop 3000).length = e.length - 3000 := List.length_drop
    have htd : (d.take 3000).length = min 3000 d.length := List.length_take
    have hdrd : (d.drop 3000).length = d.length - 3000 := List.length_drop
    have hD := pcsP_cons (d := d) h0
    have hE := pcsP_cons (d := e) (by omega)
    have hsl : (sealP 8 (e.take 3000)).length = (sealP 8 (d.take 3000)).length := by rw [sealP_len (by omega) (by omega) (by omega), sealP_len (by omega) (by omega) (by omega), hte, htd, hl]
    rw [hE] at heq
    have hi' : i < (sealP 8 (d.take 3000) ++ pcsP (d.drop 3000)).length := by rw [← hD]; exact hi
    have hx' : (sealP 8 (d.take 3000) ++ pcsP (d.drop 3000))[i] ≠ x := by
      have : (pcsP d)[i] = (sealP 8 (d.take 3000) ++ pcsP (d.drop 3000))[i] := by congr 1
      rw [← this]; exact hx
    rw [hD] at heq
    clear hi hx hD hE
    by_cases hc : i < (sealP 8 (d.take 3000)).length
    · rw [List.set_append_left _ _ hc] at heq
      have h1 := (List.append_inj heq (by rw [List.length_set]; exact hsl)).1
      rw [List.getElem_append_left hc] at hx'
      exact seal_one (by omega) (by omega) (by omega) (b' := e.take 3000) (by omega) rfl hc hx' h1.symm
    · rw [List.set_append_right _ _ (by omega)] at heq
      have h1 := (List.append_inj heq hsl).2
      rw [List.getElem_append_right (by omega)] at hx'
      exact ih (d.drop 3000) (e.drop 3000) _ x (by omega) (by omega) (by rw [List.length_append] at hi'; omega) hx' h1
/-- With a byte changed: nobody's. -/
theorem frm_set {d e : List UInt8} {i : Nat} {x : UInt8} (hi : i < (frmP d).length) (hx : (frmP d)[i] ≠ x) : frmP e ≠ (frmP d).set i x := by
  intro h
  have hl : (frmP e).length = (frmP d).length := by rw [h, List.length_set]
  have hel : e.length = d.length := by
    rcases Nat.lt_trichotomy e.length d.length with h1 | h1 | h1
    · have := frm_lt h1; omega
    · exact h1
    · have := frm_lt h1; omega
  have hF : sizeF e = sizeF d := by unfold sizeF; rw [hel]
  unfold frmP at h hi
  have hx' : (sizeF d ++ pcsP d)[i] ≠ x := hx
  rw [hF] at h
  by_cases hc : i < (sizeF d).length
  · rw [List.set_append_left _ _ hc] at h
    have h1 := (List.append_inj h (by rw [List.length_set])).1
    rw [List.getElem_append_left hc] at hx'
    apply hx'
    have : (sizeF d)[i]? = ((sizeF d).set i x)[i]? := by rw [← h1]
    rw [List.getElem?_set_self hc, List.getElem?_eq_getElem hc] at this
    exact Option.some.inj this
  · rw [List.set_append_right _ _ (by omega)] at h
    have h1 := (List.append_inj h rfl).2
    rw [List.getElem_append_right (by omega)] at hx'
    exact pcs_set _ d e _ x (Nat.lt_succ_self _) hel (by rw [List.length_append] at hi; omega) hx' h1
theorem encM_frm {m : Msg} (h : mayM m = true) : encM m = frmP (textM m) := by
  unfold encM
  rw [if_pos h]
  rfl

/-! ### How long -/
theorem flat_le {α : Type} (f : α → List UInt8) (n : Nat) : ∀ l : List α, (∀ x ∈ l, (f x).length ≤ n) → (l.flatMap f).length ≤ n * l.length := by
  intro l
  induction l with
  | nil => simp
  | cons x l ih =>
    intro h
    have h1 := h x (by simp)
    have h2 := ih fun y hy => h y (by simp [hy])
    rw [List.flatMap_cons, List.length_append, List.length_cons, Nat.mul_add]
    omega
theorem pcs_len : ∀ (f : Nat) (d : List UInt8), d.length < f → (pcsP d).length ≤ 16 * (d.length / 3000 + 1) + d.length := by
  intro f
  induction f with
  | zero => intro d h; omega
  | succ f ih =>
    intro d hf
    by_cases h0 : d.length = 0
    · have : d = [] := List.eq_nil_of_length_eq_zero h0
      subst this
      simp [pcsP_nil]
    · have ht : (d.take 3000).length = min 3000 d.length := List.length_take
      have hdr : (d.drop 3000).length = d.length - 3000 := List.length_drop
      have hp := putN_nat_len (d.take 3000).length
      rw [pcsP_cons h0, List.length_append, sealP_len (by omega) (by omega) (by omega)]
      by_cases h3 : d.length < 3000
      · have : d.drop 3000 = [] := List.eq_nil_of_length_eq_zero (by omega)
        rw [this, pcsP_nil, List.length_nil]
        omega
      · have := ih (d.drop 3000) (by omega)
        omega
theorem partsP_len : ∀ (f : Nat) (d : List UInt8), d.length < f → (partsP d).length ≤ 16 * (d.length / 3000 + 1) + d.length := by
  intro f
  induction f with
  | zero => intro d h; omega
  | succ f ih =>
    intro d hf
    by_cases h0 : d.length = 0
    · have : d = [] := List.eq_nil_of_length_eq_zero h0
      subst this
      simp [partsP_nil]
    · have ht : (d.take 3000).length = min 3000 d.length := List.length_take
      have hdr : (d.drop 3000).length = d.length - 3000 := List.length_drop
      have hp := putN_nat_len (d.take 3000).length
      rw [partsP_cons h0, List.length_append, sealP_len (by omega) (by omega) (by omega)]
      by_cases h3 : d.length < 3000
      · have : d.drop 3000 = [] := List.eq_nil_of_length_eq_zero (by omega)
        rw [this, partsP_nil, List.length_nil]
        omega
      · have := ih (d.drop 3000) (by omega)
        omega
theorem putS_le (s : Snp) : (putS s).length ≤ 210000 := by
  unfold putS
  by_cases h : mayS s = true
  · rw [if_pos h, List.length_append]
    obtain ⟨-, -, -, -, -, h6⟩ := mayS_iff.1 h
    have h1 := sealP_le 3 (headS s)
    have h2 := partsP_len (s.d.data.toList.length + 1) s.d.data.toList (Nat.lt_succ_self _)
    have h3 : s.d.data.toList.length = s.d.size := size_data _
    omega
  · rw [if_neg h]
    simp
theorem textM_len {m : Msg} (h : mayM m = true) : (textM m).length ≤ 250000 := by
  obtain ⟨h1, h2, h3, h4⟩ := mayM_parts h
  obtain ⟨⟨b1, -⟩, -⟩ := kindM_iff.1 h3
  have f1 := flat_le putN 10 (numsM m) (fun x _ => (putN_len x).2)
  have f2 := flat_le (fun e => encR (recE e)) 4016 m.es (fun x _ => encR_le _)
  have f3 := putS_le m.s
  have f4 : (numsM m).length = 9 := rfl
  unfold textM
  rw [List.length_append, List.length_append]
  have f5 : (if m.k = 5 then putS m.s else []).length ≤ 210000 := by
    split
    · exact f3
    · simp
  omega
theorem encM_len (m : Msg) : (encM m).length ≤ 300000 := by
  by_cases h : mayM m = true
  · have h1 := textM_len h
    have h2 := pcs_len _ (textM m) (Nat.lt_succ_self _)
    have h3 := putN_nat_len (textM m).length
    rw [encM_frm h]
    unfold frmP
    rw [List.length_append, sizeF_len]
    omega
  · rw [encM_no (by simpa using h)]
    simp
end Go.Proofs.Ytcogmohepcifiaa
namespace Go.Proofs.Ytcogmohepcifiaa
open Go.ChangeShapes Go.WideShapes Go.ChangeAt Go.RowKit

def isConf (e : Ent) : Bool := (confD e.d).2 && (e.k == 3)
/-- The last configuration of the first so many entries; else the snapshot's; and where it stands. -/
def scanC (s : Snp) (es : List Ent) : Nat → List Int × Int
  | 0 => if (confD s.c).2 = true then ((confD s.c).1, s.i) else ([], 0)
  | k + 1 => match es[k]? with
    | some e => if isConf e = true then ((confD e.d).1, s.i + 1 + k) else scanC s es k
    | none => scanC s es k
theorem scanC_yes {s : Snp} {es : List Ent} {k : Nat} (h : k < es.length) (hc : isConf es[k] = true) : scanC s es (k + 1) = ((confD es[k].d).1, s.i + 1 + k) := by
  rw [scanC, List.getElem?_eq_getElem h]
  simp only []
  rw [if_pos hc]
theorem scanC_no {s : Snp} {es : List Ent} {k : Nat} (h : k < es.length) (hc : isConf es[k] = false) : scanC s es (k + 1) = scanC s es k := by
  rw [scanC, List.getElem?_eq_getElem h]
  simp only []
  rw [if_neg (by rw [hc]; decide)]
def smallD (s : Snp) (es : List Ent) : Prop := s.c.size ≤ 1000000000 ∧ ∀ e ∈ es, e.d.size ≤ 1000000000
def RetConfAt (w : World) (r : List Int × Int) (e : Ending) (w' : World) : Prop :=
  ∃ v, e = .returned (.tuple #[v, .int .i64 r.2]) ∧ RI w' v r.1 ∧ Below w.heap.size w w'

/-- A new entry of noughts, made since a world. -/
def FreshE (w0 : World) (v : Value) (wx : World) : Prop := ∃ bb, v = .pointer (some ⟨bb, 0, none⟩) ∧ w0.heap.size ≤ bb ∧ bb < wx.heap.size ∧ wx.cell? ⟨bb, 0, none⟩ = some (.int .i64 0) ∧ wx.cell? ⟨bb, 1, none⟩ = some (.int .i64 0) ∧ wx.cell? ⟨bb, 2, none⟩ = some (.int .i64 0) ∧ wx.cell? ⟨bb, 3, none⟩ = some (.string .empty) ∧ ∀ j, wx.frozen? ⟨bb, j, none⟩ = false
theorem FreshE.below {w0 : World} {v : Value} {w1 w2 : World} (h : FreshE w0 v w1) (hb : Below w1.heap.size w1 w2) : FreshE w0 v w2 := by
  obtain ⟨bb, g1, g2, g3, g4, g5, g6, g7, g8⟩ := h
  exact ⟨bb, g1, g2, Nat.lt_of_lt_of_le g3 hb.size, (hb.cell (p := ⟨bb, 0, none⟩) g3).trans g4, (hb.cell (p := ⟨bb, 1, none⟩) g3).trans g5, (hb.cell (p := ⟨bb, 2, none⟩) g3).trans g6, (hb.cell (p := ⟨bb, 3, none⟩) g3).trans g7, fun j => (hb.frozen (p := ⟨bb, j, none⟩) g3).trans (g8 j)⟩
theorem freshE_alloc {w0 w : World} (T : TypeId) (h : w0.heap.size ≤ w.heap.size) : FreshE w0 (.pointer (some ⟨w.heap.size, 0, none⟩)) (w.alloc (.cells #[.int .i64 0, .int .i64 0, .int .i64 0, .string .empty] T)) :=
  ⟨_, rfl, h, by simp, World.cell?_alloc_new _ _ _ _, World.cell?_alloc_new _ _ _ _, World.cell?_alloc_new _ _ _ _, World.cell?_alloc_new _ _ _ _, fun j => World.frozen?_alloc_new _ _ _ _⟩

end Go.Proofs.Ytcogmohepcifiaa
namespace Go.Proofs.Ytcogmohepcifiaa
open Go.ChangeShapes Go.WideShapes Go.ChangeAt Go.RowKit

/-- A literal slice of entries that the walk has just built. -/
theorem EntR.fresh (w : World) (es : List Ent) (T : TypeId) (fr : Nat × Nat) (arr : Array Value) (n : Nat) (hn : n = es.length) (h : arr = (es.flatMap entCells).toArray) (hl : es.length ≤ 1000000) :
    EntR (w.alloc (.cells arr T fr)) (.slice (some ⟨w.heap.size, 0, none⟩) n n) es := by
  subst h hn
  refine ⟨_, _, rfl, Nat.le_refl _, by omega, fun k hk => ⟨_, _, rfl, by simp, fun j u hu => ?_⟩⟩
  have hj : j < 4 := by have := (List.getElem?_eq_some_iff.1 hu).1; simpa [entCells] using this
  rw [Nat.zero_add, cell_of_row (w.alloc _) w.heap.size _ _ T fr (heap_alloc_new w _), List.getElem?_toArray, entCells_get es k hk j hj]
  exact hu

def entA (i t : Int) : Ent := ⟨i, t, 0, .empty⟩
def snpA (i t : Int) : Snp := ⟨i, t, .empty, .empty⟩

end Go.Proofs.Ytcogmohepcifiaa
namespace Go.Proofs.Ytcogmohepcifiaa
open Go.ChangeShapes Go.WideShapes Go.ChangeAt Go.RowKit

def takeB (s : ByteArray) (n : Nat) : ByteArray := ⟨(s.data.toList.take n).toArray⟩
def cutSnap (s : Snp) : Snp := ⟨s.i, s.t, takeB s.c 60, takeB s.d 100⟩
def cutEnt (e : Ent) : Ent := ⟨e.i, e.t, e.k, takeB e.d 60⟩

set_option maxRecDepth 100000 in
set_option maxHeartbeats 1000000 in
theorem law_snap (s : Snp) (w : World) (h1 : s.c.size ≤ 9223372036854775807) (h2 : s.d.size ≤ 9223372036854775807) :
    Calls Try.prog 23 #[snpAgg s] w fun e w' => e = .returned (snpAgg (cutSnap s)) ∧ Below w.heap.size w w' := by
  have hcell : ∀ j, ((w.alloc (.cells #[.int .i64 s.i, .int .i64 s.t, .string s.c, .string s.d] 28)).alloc (.cells #[.int .i64 0, .int .i64 0, .string ⟨#[]⟩, .string ⟨#[]⟩] 28)).cell? ⟨w.heap.size, j, none⟩ = #[.int .i64 s.i, .int .i64 s.t, .string s.c, .string s.d][j]? := fun j => by
    have h2 := (Below.refl (w.alloc (.cells #[.int .i64 s.i, .int .i64 s.t, .string s.c, .string s.d] 28)).heap.size (w.alloc (.cells #[.int .i64 s.i, .int .i64 s.t, .string s.c, .string s.d] 28))).alloc (Nat.le_refl _) (.cells #[.int .i64 0, .int .i64 0, .string ⟨#[]⟩, .string ⟨#[]⟩] 28)
    rw [h2.cell (p := ⟨w.heap.size, j, none⟩) (by simp), World.cell?_alloc_new]
  have hfro : ∀ j, ((w.alloc (.cells #[.int .i64 s.i, .int .i64 s.t, .string s.c, .string s.d] 28)).alloc (.cells #[.int .i64 0, .int .i64 0, .string ⟨#[]⟩, .string ⟨#[]⟩] 28)).frozen? ⟨w.heap.size, j, none⟩ = false := fun j => by
    have h2 := (Below.refl (w.alloc (.cells #[.int .i64 s.i, .int .i64 s.t, .string s.c, .string s.d] 28)).heap.size (w.alloc (.cells #[.int .i64 s.i, .int .i64 s.t, .string s.c, .string s.d] 28))).alloc (Nat.le_refl _) (.cells #[.int .i64 0, .int .i64 0, .string ⟨#[]⟩, .string ⟨#[]⟩] 28)
    rw [h2.frozen (p := ⟨w.heap.size, j, none⟩) (by simp), World.frozen?_alloc_new]
  have hcell2 : ∀ j, ((w.alloc (.cells #[.int .i64 s.i, .int .i64 s.t, .string s.c, .string s.d] 28)).alloc (.cells #[.int .i64 0, .int .i64 0, .string ⟨#[]⟩, .string ⟨#[]⟩] 28)).cell? ⟨w.heap.size + 1, j, none⟩ = #[.int .i64 0, .int .i64 0, .string ⟨#[]⟩, .string ⟨#[]⟩][j]? := fun j => by
    have := World.cell?_alloc_new (w.alloc (.cells #[.int .i64 s.i, .int .i64 s.t, .string s.c, .string s.d] 28)) #[.int .i64 0, .int .i64 0, .string ⟨#[]⟩, .string ⟨#[]⟩] 28 j
    rwa [show (w.alloc (.cells #[.int .i64 s.i, .int .i64 s.t, .string s.c, .string s.d] 28)).heap.size = w.heap.size + 1 from by simp] at this
  have hfro2 : ∀ j, ((w.alloc (.cells #[.int .i64 s.i, .int .i64 s.t, .string s.c, .string s.d] 28)).alloc (.cells #[.int .i64 0, .int .i64 0, .string ⟨#[]⟩, .string ⟨#[]⟩] 28)).frozen? ⟨w.heap.size + 1, j, none⟩ = false := fun j => by
    have := World.frozen?_alloc_new (w.alloc (.cells #[.int .i64 s.i, .int .i64 s.t, .string s.c, .string s.d] 28)) #[.int .i64 0, .int .i64 0, .string ⟨#[]⟩, .string ⟨#[]⟩] 28 j
    rwa [show (w.alloc (.cells #[.int .i64 s.i, .int .i64 s.t, .string s.c, .string s.d] 28)).heap.size = w.heap.size + 1 from by simp] at this
  have hb1 : Below w.heap.size w ((w.alloc (.cells #[.int .i64 s.i, .int .i64 s.t, .string s.c, .string s.d] 28)).alloc (.cells #[.int .i64 0, .int .i64 0, .string ⟨#[]⟩, .string ⟨#[]⟩] 28)) := ((Below.refl w.heap.size w).alloc (Nat.le_refl _) _).alloc (by simp) _
  have hsz : w.heap.size + 1 < ((w.alloc (.cells #[.int .i64 s.i, .int .i64 s.t, .string s.c, .string s.d] 28)).alloc (.cells #[.int .i64 0, .int .i64 0, .string ⟨#[]⟩, .string ⟨#[]⟩] 28)).heap.size := by simp
  unfold snpAgg
  have HC := Lib.hid hcell
  have HF := Lib.hid hfro
  have HC2 := Lib.hid hcell2
  have HF2 := Lib.hid hfro2
  clear hcell hfro hcell2 hfro2
  go_enter Try.func23, Try.ntmps23
  go_upto_region 1 with fail
  generalize (w.alloc (.cells #[.int .i64 s.i, .int .i64 s.t, .string s.c, .string s.d] 28)).alloc (.cells #[.int .i64 0, .int .i64 0, .string ⟨#[]⟩, .string ⟨#[]⟩] 28) = w1 at *
  generalize hN : w.heap.size = N at *
  have hlt : N < w1.heap.size := by omega
  have c0 := HC.out 0
  have c1 := HC.out 1
  have c2 := HC.out 2
  have c3 := HC.out 3
  simp only [List.getElem?_toArray, List.getElem?_cons_zero, List.getElem?_cons_succ] at c0 c1 c2 c3
  go_cut [] (fun wx => wx.cell? ⟨N, 0, none⟩ = some (.int .i64 s.i) ∧ wx.cell? ⟨N, 1, none⟩ = some (.int .i64 s.t) ∧ wx.cell? ⟨N, 2, none⟩ = some (.string (takeB s.c 60)) ∧ wx.cell? ⟨N, 3, none⟩ = some (.string (takeB s.d 100)) ∧ Keeps [N] w1 wx)
  case first =>
    refine wp_region_tail 7 (by rfl) (by kernel_rfl) (fun k => match k with | 2 => some (fun v _ => v = .string (takeB s.c 60)) | 5 => some (fun v _ => v = .string (takeB s.d 100)) | _ => none) ?_ (fun vals => ?_)
    · intro k φ hk v w1 w2 h1 h2
      match k, hk with
      | 2, hk => obtain rfl := Option.some.inj hk; exact h1
      | 5, hk => obtain rfl := Option.some.inj hk; exact h1
    dsimp only [List.take, List.drop]
    iterate 1 ((with_reducible refine sw_pure ?_ (fun K hK => ?_)); (· rfl); go_simp; with_reducible refine hK _ ?_; clear hK K)
    refine sw_at (.string s.c) rfl rfl (fun wz hz' hH => ?_) (fun K hK => ?_)
    · have h2 := (hz'.cell (p := ⟨N, 2, none⟩) hlt).trans c2
      go_simp
    go_simp; refine hK _ ?_; clear hK K
    refine sw_call _ rfl rfl (fun wz hz' hH => ?_) (fun K hK => ?_)
    · go_simp
      go_at_call 46
      refine (cut_any s.c 60 _ (by decide) h1).mono ?_
      rintro e w' ⟨rfl, rfl⟩
      exact ⟨_, rfl, rfl, Below.refl _ _⟩
    go_simp; refine hK _ ?_; clear hK K
    iterate 1 ((with_reducible refine sw_pure ?_ (fun K hK => ?_)); (· rfl); go_simp; with_reducible refine hK _ ?_; clear hK K)
    refine sw_at (.string s.d) rfl rfl (fun wz hz' hH => ?_) (fun K hK => ?_)
    · have h2 := (hz'.cell (p := ⟨N, 3, none⟩) hlt).trans c3
      go_simp
    go_simp; refine hK _ ?_; clear hK K
    refine sw_call _ rfl rfl (fun wz hz' hH => ?_) (fun K hK => ?_)
    · go_simp
      go_at_call 46
      refine (cut_any s.d 100 _ (by decide) h2).mono ?_
      rintro e w' ⟨rfl, rfl⟩
      exact ⟨_, rfl, rfl, Below.refl _ _⟩
    go_simp; refine hK _ ?_; clear hK K
    iterate 1 ((with_reducible refine sw_pure ?_ (fun K hK => ?_)); (· rfl); go_simp; with_reducible refine hK _ ?_; clear hK K)
    refine sw_done (fun wz hz' hH => ?_)
    have e5 := hH _ (List.Mem.head _)
    have e2 := hH _ (List.Mem.tail _ (List.Mem.head _))
    dsimp only at e5 e2
    have g0 := (hz'.cell (p := ⟨N, 0, none⟩) hlt).trans c0
    have g1 := (hz'.cell (p := ⟨N, 1, none⟩) hlt).trans c1
    have g2 := (hz'.cell (p := ⟨N, 2, none⟩) hlt).trans c2
    have g3 := (hz'.cell (p := ⟨N, 3, none⟩) hlt).trans c3
    have f2 := (hz'.frozen (p := ⟨N, 2, none⟩) hlt).trans (HF.out 2)
    have f3 := (hz'.frozen (p := ⟨N, 3, none⟩) hlt).trans (HF.out 3)
    rw [e5, e2]
    unfold tailQ
    have hz2 := Lib.hid hz'
    clear hH e5 e2 c0 c1 c2 c3
    go_wp2_with fail
    go_meet
    refine ⟨?_, ?_, ?_, ?_, ((Keeps.of_below hz2.out).setCell (.inl (by simp)) _).setCell (.inl (by simp)) _⟩
    · rw [World.cell?_setCell_other (h := by simp), World.cell?_setCell_other (h := by simp)]; exact g0
    · rw [World.cell?_setCell_other (h := by simp), World.cell?_setCell_other (h := by simp)]; exact g1
    · rw [World.cell?_setCell_other (h := by simp)]; exact World.cell?_setCell_same _ _ _ g2
    · exact World.cell?_setCell_same _ _ _ (show World.cell? _ _ = some (.string s.d) from by rw [World.cell?_setCell_other (h := by simp)]; exact g3)
  case rest =>
    obtain ⟨d0, d1, d2, d3, hk⟩ := hcut
    have e0 := HC2.out 0
    have e1 := HC2.out 1
    have e2 := HC2.out 2
    have e3 := HC2.out 3
    simp only [List.getElem?_toArray, List.getElem?_cons_zero, List.getElem?_cons_succ] at e0 e1 e2 e3
    have e0 := (hk.cell (p := ⟨N + 1, 0, none⟩) hsz (by simp)).trans e0
    have e1 := (hk.cell (p := ⟨N + 1, 1, none⟩) hsz (by simp)).trans e1
    have e2 := (hk.cell (p := ⟨N + 1, 2, none⟩) hsz (by simp)).trans e2
    have e3 := (hk.cell (p := ⟨N + 1, 3, none⟩) hsz (by simp)).trans e3
    have f0 := (hk.frozen (p := ⟨N + 1, 0, none⟩) hsz (by simp)).trans (HF2.out 0)
    have f1 := (hk.frozen (p := ⟨N + 1, 1, none⟩) hsz (by simp)).trans (HF2.out 1)
    have f2 := (hk.frozen (p := ⟨N + 1, 2, none⟩) hsz (by simp)).trans (HF2.out 2)
    have f3 := (hk.frozen (p := ⟨N + 1, 3, none⟩) hsz (by simp)).trans (HF2.out 3)
    have hbz : Below N w wc := by subst hN; exact hb1.trans (hk.below (B := w.heap.size) (by simp) (by omega))
    have HB := Lib.hid hbz
    clear hk c0 c1 c2 c3 hb1 hbz
    go_wp2_with fail
    have hbf : Below N w ((((wc.setCell ⟨N + 1, 0, none⟩ (.int .i64 s.i)).setCell ⟨N + 1, 1, none⟩ (.int .i64 s.t)).setCell ⟨N + 1, 2, none⟩ (.string (takeB s.c 60))).setCell ⟨N + 1, 3, none⟩ (.string (takeB s.d 100))) :=
      (((HB.out.setCell (by show N ≤ N + 1; omega) _).setCell (by show N ≤ N + 1; omega) _).setCell (by show N ≤ N + 1; omega) _).setCell (by show N ≤ N + 1; omega) _
    have k0 : ((((wc.setCell ⟨N + 1, 0, none⟩ (.int .i64 s.i)).setCell ⟨N + 1, 1, none⟩ (.int .i64 s.t)).setCell ⟨N + 1, 2, none⟩ (.string (takeB s.c 60))).setCell ⟨N + 1, 3, none⟩ (.string (takeB s.d 100))).cell? ⟨N + 1, 0, none⟩ = some (.int .i64 s.i) := by
      rw [World.cell?_setCell_other (h := by simp), World.cell?_setCell_other (h := by simp), World.cell?_setCell_other (h := by simp)]
      exact World.cell?_setCell_same _ _ _ e0
    have k1 : ((((wc.setCell ⟨N + 1, 0, none⟩ (.int .i64 s.i)).setCell ⟨N + 1, 1, none⟩ (.int .i64 s.t)).setCell ⟨N + 1, 2, none⟩ (.string (takeB s.c 60))).setCell ⟨N + 1, 3, none⟩ (.string (takeB s.d 100))).cell? ⟨N + 1, 1, none⟩ = some (.int .i64 s.t) := by
      rw [World.cell?_setCell_other (h := by simp), World.cell?_setCell_other (h := by simp)]
      exact World.cell?_setCell_same _ _ _ (show World.cell? _ _ = some (.int .i64 0) from by rw [World.cell?_setCell_other (h := by simp)]; exact e1)
    have k2 : ((((wc.setCell ⟨N + 1, 0, none⟩ (.int .i64 s.i)).setCell ⟨N + 1, 1, none⟩ (.int .i64 s.t)).setCell ⟨N + 1, 2, none⟩ (.string (takeB s.c 60))).setCell ⟨N + 1, 3, none⟩ (.string (takeB s.d 100))).cell? ⟨N + 1, 2, none⟩ = some (.string (takeB s.c 60)) := by
      rw [World.cell?_setCell_other (h := by simp)]
      exact World.cell?_setCell_same _ _ _ (show World.cell? _ _ = some (.string ⟨#[]⟩) from by rw [World.cell?_setCell_other (h := by simp), World.cell?_setCell_other (h := by simp)]; exact e2)
    have k3 : ((((wc.setCell ⟨N + 1, 0, none⟩ (.int .i64 s.i)).setCell ⟨N + 1, 1, none⟩ (.int .i64 s.t)).setCell ⟨N + 1, 2, none⟩ (.string (takeB s.c 60))).setCell ⟨N + 1, 3, none⟩ (.string (takeB s.d 100))).cell? ⟨N + 1, 3, none⟩ = some (.string (takeB s.d 100)) :=
      World.cell?_setCell_same _ _ _ (show World.cell? _ _ = some (.string ⟨#[]⟩) from by rw [World.cell?_setCell_other (h := by simp), World.cell?_setCell_other (h := by simp), World.cell?_setCell_other (h := by simp)]; exact e3)
    generalize (((wc.setCell ⟨N + 1, 0, none⟩ (.int .i64 s.i)).setCell ⟨N + 1, 1, none⟩ (.int .i64 s.t)).setCell ⟨N + 1, 2, none⟩ (.string (takeB s.c 60))).setCell ⟨N + 1, 3, none⟩ (.string (takeB s.d 100)) = W at *
    exact bodyPost_ret (v := snpAgg (cutSnap s)) (by simp [results, Try.results23, go_sem, k0, k1, k2, k3, snpAgg, cutSnap]) rfl ⟨rfl, by rw [hN]; exact hbf⟩

def cutEnts (es : List Ent) (n : Nat) : List Ent := (es.take n).map cutEnt
theorem cutEnts_snoc (es : List Ent) (k : Nat) (h : k < es.length) : cutEnts es (k + 1) = cutEnts es k ++ [cutEnt es[k]] := by
  unfold cutEnts
  rw [List.take_succ_eq_append_getElem h, List.map_append]
  rfl

set_option maxRecDepth 100000 in
set_option maxHeartbeats 1000000 in
theorem law_entries (v : Value) (es : List Ent) (n : Nat) (w : World) (h : EntR w v es) (hl : es.length ≤ 9223372036854775807) (hn : n ≤ 1000) (hd : ∀ e ∈ es, e.d.size ≤ 9223372036854775807) :
    Calls Try.prog 22 #[v, .int .i64 n] w fun e w' => RetEnts w (cutEnts es n) e w' := by
  obtain ⟨a, cap, rfl⟩ := h.slice
  have HR := Lib.hid h
  have HD := Lib.hid hd
  clear h hd
  go_enter Try.func22, Try.ntmps22
  go_wp2_with fail
  go_loopw [5, 6] (fun s i wr => ∃ k : Nat, k ≤ es.length ∧ k ≤ n ∧ i = .int .i64 k ∧ EntO wr w.heap.size s (cutEnts es k) ∧ Below w.heap.size w wr) (fun _ i _ => es.length - (intOf i).toNat)
  case atStart => exact ⟨0, by omega, by omega, rfl, EntO.nil _ _, Below.refl _ _⟩
  case round =>
    obtain ⟨k, hk, hkn, rfl, ho, hbel⟩ := hrel
    by_cases hlt : k < es.length
    · by_cases hlt2 : k < n
      · have hrr := HR.out.below hbel
        obtain ⟨b, off, rfl, hblt, c0, c1, c2, c3⟩ := hrr.cells k hlt
        have HU := Lib.hid (cutEnts_snoc es k hlt)
        have hed := HD.out es[k] (List.getElem_mem hlt)
        have hcl : (cutEnts es k).length ≤ 1000 := by unfold cutEnts; rw [List.length_map, List.length_take]; omega
        clear hrr
        generalize es[k] = e at *
        obtain ⟨ei, et, ek, ed⟩ := e
        dsimp only at c0 c1 c2 c3 hed
        generalize cutEnts es k = Y at *
        go_wp2_with fail
        refine (cut_any ed 60 _ (by decide) hed).mono ?_
        rintro e w' ⟨rfl, rfl⟩
        rw [show (⟨(ed.data.toList.take 60).toArray⟩ : ByteArray) = takeB ed 60 from rfl]
        have hE := EntR.fresh (wr.alloc (.cells #[.int .i64 ei, .int .i64 et, .int .i64 ek, .string (takeB ed 60)] 35)) [cutEnt ⟨ei, et, ek, ed⟩] 35 (0, 0) #[.int .i64 ei, .int .i64 et, .int .i64 ek, .string (takeB ed 60)] 1 rfl rfl (by simp)
        rw [show (wr.alloc (.cells #[.int .i64 ei, .int .i64 et, .int .i64 ek, .string (takeB ed 60)] 35)).heap.size = wr.heap.size + 1 from by simp] at hE
        have hb1 : Below wr.heap.size wr ((wr.alloc (.cells #[.int .i64 ei, .int .i64 et, .int .i64 ek, .string (takeB ed 60)] 35)).alloc (.cells #[.int .i64 ei, .int .i64 et, .int .i64 ek, .string (takeB ed 60)] 35)) := ((Below.refl wr.heap.size wr).alloc (Nat.le_refl _) _).alloc (by simp) _
        have ho2 := ho.below hb1
        have hbz := hbel.trans (hb1.mono hbel.size)
        clear ho hb1 hbel c0 c1 c2 c3
        go_wp2_with (at_builtin; refine wpList_append_ents 26 w.heap.size _ Try.underlying26 info_ent rfl rfl _ _ rfl ho2 hE rfl rfl (by simp; omega) hbz.size ?_)
        intro v2 w2 ho3 hg3 hk3
        have hb3 : Below w.heap.size w w2 := hbz.grown hg3 hbz.size (fun k hk => (World.ownsRow.lt ho2 k hk).1)
        clear ho2 hE hg3 hk3 hbz
        go_wp2_with fail
        go_roundw
        case rel => exact ⟨k + 1, by omega, by omega, by go_num, by rw [HU.out]; exact ho3, hb3⟩
        case measure => simp [intOf]; omega
      · obtain rfl : k = n := by omega
        go_wp2_with fail
        go_ret
        exact ⟨_, rfl, ho, hbel⟩
    · obtain rfl : k = es.length := by omega
      have HU : Hid (cutEnts es n = cutEnts es es.length) := Lib.hid (by unfold cutEnts; rw [List.take_of_length_le (by omega), List.take_length])
      go_wp2_with fail
      go_ret
      exact ⟨_, rfl, by rw [HU.out]; exact ho, hbel⟩
end Go.Proofs.Ytcogmohepcifiaa
namespace Go.Proofs.Ytcogmohepcifiaa
open Go.RowKit

theorem row_take (L : List Ent) : ∀ (i t : Int) (n : Nat), rowP i t L = true → rowP i t (L.take n) = true := by
  induction L with
  | nil => intro i t n h; simpa using h
  | cons e L ih =>
    intro i t n h
    cases n with
    | zero => rfl
    | succ n =>
      rw [List.take_succ_cons]
      simp only [rowP, Bool.and_eq_true] at h ⊢
      exact ⟨h.1, ih _ _ n h.2⟩
theorem row_drop (L : List Ent) : ∀ (i t : Int) (n : Nat), rowP i t L = true → ∃ i' t', rowP i' t' (L.drop n) = true := by
  induction L with
  | nil => intro i t n h; exact ⟨i, t, by simpa using h⟩
  | cons e L ih =>
    intro i t n h
    cases n with
    | zero => exact ⟨i, t, h⟩
    | succ n =>
      rw [List.drop_succ_cons]
      simp only [rowP, Bool.and_eq_true] at h
      exact ih _ _ n h.2
theorem row_at (L : List Ent) : ∀ (i t : Int), rowP i t L = true → 0 ≤ i → i + L.length ≤ 9000000000000000000 → ∀ k (h : k < L.length), L[k].i = i + 1 + k ∧ t ≤ L[k].t := by
  induction L with
  | nil => intro i t _ _ _ k h; simp at h
  | cons e L ih =>
    intro i t h h0 h1 k hk
    simp only [rowP, Bool.and_eq_true, beq_iff_eq, decide_eq_true_eq, List.length_cons] at h h1
    obtain ⟨⟨he, ht⟩, hr⟩ := h
    rw [IntWalk.wrap64_in _ (by omega)] at he
    cases k with
    | zero => exact ⟨by rw [List.getElem_cons_zero, he]; omega, ht⟩
    | succ k =>
      rw [List.getElem_cons_succ]
      have := ih e.i e.t hr (by omega) (by omega) k (by simpa using hk)
      exact ⟨by omega, by omega⟩
theorem row_self {i t : Int} {e : Ent} {L : List Ent} (h : rowP i t (e :: L) = true) (h0 : -9223372036854775808 ≤ e.i ∧ e.i ≤ 9223372036854775807) : rowP (wrap64 (e.i - 1)) e.t (e :: L) = true := by
  simp only [rowP, Bool.and_eq_true, beq_iff_eq, decide_eq_true_eq] at h ⊢
  refine ⟨⟨?_, Int.le_refl _⟩, h.2⟩
  unfold wrap64
  omega

/-- A good log. -/
structure Good (s : Snp) (L : List Ent) : Prop where
  b : LogB s L
  r : rowP s.i s.t L = true
theorem Good.of_new {s : Snp} {L : List Ent} (h : newOk s L = true) : Good s L := by
  unfold newOk inP at h
  simp only [List.all_cons, List.all_nil, Bool.and_eq_true, decide_eq_true_eq, Bool.and_true] at h
  obtain ⟨⟨⟨h1, h2⟩, h3⟩, h4⟩ := h
  unfold okN at h1
  simp only [Bool.and_eq_true, decide_eq_true_eq] at h1
  exact ⟨⟨h1.1, by omega, h3⟩, h4⟩
theorem Good.at_ {s : Snp} {L : List Ent} (h : Good s L) (k : Nat) (hk : k < L.length) : L[k].i = s.i + 1 + k ∧ s.t ≤ L[k].t :=
  row_at L s.i s.t h.r h.b.1 (by have := h.b.2.1; have := h.b.2.2; omega) k hk
theorem Good.term {s : Snp} {L : List Ent} (_h : Good s L) (k : Nat) (hk : k < L.length) : termP s L (s.i + 1 + k) = (L[k].t, true) := by
  unfold termP lastP
  rw [if_neg (by omega), if_neg (by omega), show (s.i + 1 + (k : Int) - s.i - 1).toNat = k by omega, List.getElem?_eq_getElem hk]
  rfl
theorem Good.fits {s : Snp} {L : List Ent} (h : Good s L) (k : Nat) (hk : k < L.length) : fitsP s L L[k].i L[k].t = true := by
  unfold fitsP
  rw [(h.at_ k hk).1, h.term k hk]
  simp

theorem dropWhile_all {α : Type} (p : α → Bool) (l : List α) (h : ∀ x ∈ l, p x = true) : l.dropWhile p = [] := by
  induction l with
  | nil => rfl
  | cons x l ih => rw [List.dropWhile_cons_of_pos (h x (by simp))]; exact ih fun y hy => h y (by simp [hy])

/-- Entries that are there are put again: nothing changes. -/
theorem Good.again {s : Snp} {L : List Ent} (h : Good s L) (a n : Nat) : putP s L ((L.drop a).take n) = ((0, true), L) := by
  have hall : ∀ e ∈ (L.drop a).take n, pastP s L e = true := fun e he => by
    obtain ⟨k, hk, rfl⟩ := List.mem_iff_getElem.1 (List.mem_of_mem_drop (List.mem_of_mem_take he))
    unfold pastP
    rw [h.fits k hk]
    simp
  obtain ⟨i', t', hr⟩ := row_drop L s.i s.t a h.r
  have hr := row_take _ _ _ n hr
  cases hE : (L.drop a).take n with
  | nil => rfl
  | cons e E =>
    rw [hE] at hall hr
    have hm : e ∈ L := List.mem_of_mem_drop (List.mem_of_mem_take (by rw [hE]; simp))
    obtain ⟨k, hk, he⟩ := List.mem_iff_getElem.1 hm
    have hi := (h.at_ k hk).1
    rw [he] at hi
    have hB := h.b
    obtain ⟨b0, b1, b2⟩ := hB
    show (if lastP s L + 1 < e.i ∨ rowP (wrap64 (e.i - 1)) e.t (e :: E) = false then _ else _) = _
    rw [if_neg (by
      rintro (h1 | h1)
      · unfold lastP at h1; omega
      · rw [row_self hr (by omega)] at h1; cases h1)]
    rw [dropWhile_all _ _ hall]
    rfl
theorem Good.getAll {s : Snp} {L : List Ent} (h : Good s L) (n : Int) (hn : (L.length : Int) ≤ n) : getP s L (s.i + 1) n = L := by
  unfold getP lastP
  by_cases h0 : L = []
  · subst h0
    split <;> simp
  · have hl : 0 < L.length := by cases L with | nil => exact absurd rfl h0 | cons _ _ => simp
    rw [if_neg (by omega)]
    rw [show (s.i + 1 - (s.i + 1)).toNat = 0 by omega, List.drop_zero, List.take_of_length_le (by omega)]
end Go.Proofs.Ytcogmohepcifiaa
namespace Go.Proofs.Ytcogmohepcifiaa
open Go.ChangeShapes Go.WideShapes Go.ChangeAt Go.RowKit Go.Deep

section
variable {H : Type} {enc : TypeId × Value → H} {W : World} {base base' : Nat} {r : Reach}

set_option maxRecDepth 100000 in
theorem open_snap {v : Value} {d : DataW H} {ps : List MemPlace} (hv : Value.okWide Try.prog W r base' 28 v) (h : DataW.Trod enc Try.prog W base (fun _ => true) true 28 v d ps) : ∃ s : Snp, v = snpAgg s ∧ s.wf := by
  obtain ⟨v0, v1, v2, v3, y0, y1, y2, y3, n, rfl, _, _, h0, h1, h2, h3⟩ := Go.Joins.open_agg4 Try.underlying28 (by kernel_rfl) (by kernel_rfl) hv h
  obtain ⟨x0, e0, _, g0⟩ := DataW.trod_int Try.underlying2 h0
  obtain ⟨x1, e1, _, g1⟩ := DataW.trod_int Try.underlying2 h1
  obtain ⟨x2, e2, _, g2⟩ := DataW.trod_string Try.underlying9 h2
  obtain ⟨x3, e3, _, g3⟩ := DataW.trod_string Try.underlying9 h3
  simp only [List.cons.injEq, and_true] at e0 e1 e2 e3
  subst e0 e1 e2 e3
  exact ⟨⟨x0, x1, x2, x3⟩, rfl, wf_i64 g0, wf_i64 g1, g2, g3⟩

set_option maxRecDepth 100000 in
theorem open_ents {v : Value} {d : DataW H} {ps : List MemPlace} (hv : Value.okWide Try.prog W r base' 26 v) (h : DataW.Trod enc Try.prog W base (fun _ => true) true 26 v d ps) : ∃ es : List Ent, EntR W v es ∧ ∀ e ∈ es, e.wf := by
  exact open_recs (f := entCells) (good := Ent.wf) Try.underlying26 Try.underlying35 (by kernel_rfl) (by kernel_rfl) (by decide) hv (fun vs hvs hf => by
    obtain ⟨n0, y0, u0, e0, t0⟩ := hf 0 _ rfl
    obtain ⟨n1, y1, u1, e1, t1⟩ := hf 1 _ rfl
    obtain ⟨n2, y2, u2, e2, t2⟩ := hf 2 _ rfl
    obtain ⟨n3, y3, u3, e3, t3⟩ := hf 3 _ rfl
    obtain ⟨x0, g0, _, k0⟩ := DataW.trod_int Try.underlying2 t0
    obtain ⟨x1, g1, _, k1⟩ := DataW.trod_int Try.underlying2 t1
    obtain ⟨x2, g2, _, k2⟩ := DataW.trod_int Try.underlying3 t2
    obtain ⟨x3, g3, _, k3⟩ := DataW.trod_string Try.underlying9 t3
    simp only [List.cons.injEq, and_true] at g0 g1 g2 g3
    subst g0 g1 g2 g3
    refine ⟨⟨x0, x1, x2, x3⟩, ?_, wf_i64 k0, wf_i64 k1, wf_i64 k2, k3⟩
    match vs, hvs with
    | [a, b, c, d], _ =>
      simp only [List.getElem?_cons_zero, List.getElem?_cons_succ, Option.some.injEq] at e0 e1 e2 e3
      subst e0 e1 e2 e3
      rfl) h
end
end Go.Proofs.Ytcogmohepcifiaa
namespace Go.Proofs.Ytcogmohepcifiaa
open Go.ChangeShapes Go.WideShapes Go.ChangeAt Go.RowKit

set_option maxRecDepth 100000 in
theorem eq_entry (e : Ent) (w : World) : Calls Try.prog 48 #[entAgg e, entAgg e] w fun x w' => x = .returned (.bool true) ∧ Below w.heap.size w w' := by
  have hb : ∀ a b, Below w.heap.size w ((w.alloc a).alloc b) := fun a b => ((Below.refl w.heap.size w).alloc (Nat.le_refl _) _).alloc (by simp) _
  have HB := Lib.hid hb
  clear hb
  unfold entAgg
  go_enter Try.func48, Try.ntmps48
  go_wp2_with fail
  go_ret
  exact ⟨rfl, HB.out _ _⟩

set_option maxRecDepth 100000 in
theorem eq_snap (e : Snp) (w : World) : Calls Try.prog 27 #[snpAgg e, snpAgg e] w fun x w' => x = .returned (.bool true) ∧ Below w.heap.size w w' := by
  have hb : ∀ a b, Below w.heap.size w ((w.alloc a).alloc b) := fun a b => ((Below.refl w.heap.size w).alloc (Nat.le_refl _) _).alloc (by simp) _
  have HB := Lib.hid hb
  clear hb
  unfold snpAgg
  go_enter Try.func27, Try.ntmps27
  go_wp2_with fail
  go_ret
  exact ⟨rfl, HB.out _ _⟩

set_option maxRecDepth 100000 in
set_option maxHeartbeats 1000000 in
theorem eq_entries (v1 v2 : Value) (es : List Ent) (w : World) (h1 : EntR w v1 es) (h2 : EntR w v2 es) (hl : es.length ≤ 1000000000000) :
    Calls Try.prog 30 #[v1, v2] w fun e w' => e = .returned (.bool true) ∧ Below w.heap.size w w' := by
  obtain ⟨a1, cap1, rfl⟩ := h1.slice
  obtain ⟨a2, cap2, rfl⟩ := h2.slice
  have HR1 := Lib.hid h1
  have HR2 := Lib.hid h2
  clear h1 h2
  go_enter Try.func30, Try.ntmps30
  go_wp2_with fail
  go_loopw [5] (fun i wr => ∃ k : Nat, k ≤ es.length ∧ i = .int .i64 k ∧ Below w.heap.size w wr) (fun i _ => es.length - (intOf i).toNat)
  case atStart => exact ⟨0, by omega, rfl, Below.refl _ _⟩
  case round =>
    obtain ⟨k, hk, rfl, hbel⟩ := hrel
    by_cases hlt : k < es.length
    · obtain ⟨b1, o1, rfl, hb1, c0, c1, c2, c3⟩ := (HR1.out.below hbel).cells k hlt
      obtain ⟨b2, o2, rfl, hb2, d0, d1, d2, d3⟩ := (HR2.out.below hbel).cells k hlt
      generalize es[k] = e at *
      go_upto_region 6 with fail
      go_cut [26] (fun x wx => x = .bool false ∧ Below wr.heap.size wr wx)
      case first =>
        refine wp_region_sw (by rfl) (by kernel_rfl) (fun k => match k with | 8 => some (fun v _ => v = .bool true) | _ => none) ?_ (fun vals => ?_)
        · intro k φ hk v w1 w2 h1 h2
          match k, hk with
          | 8, hk => obtain rfl := Option.some.inj hk; exact h1
        iterate 3 ((with_reducible refine sw_pure ?_ (fun K hK => ?_)); (· rfl); go_simp; with_reducible refine hK _ ?_; clear hK K)
        refine sw_at (entAgg e) rfl rfl (fun wz hz' hH => ?_) (fun K hK => ?_)
        · have g0 := (hz'.cell (p := ⟨b1, o1 + k * 4, none⟩) hb1).trans c0
          have g1 := (hz'.cell (p := ⟨b1, o1 + k * 4 + 1, none⟩) hb1).trans c1
          have g2 := (hz'.cell (p := ⟨b1, o1 + k * 4 + 2, none⟩) hb1).trans c2
          have g3 := (hz'.cell (p := ⟨b1, o1 + k * 4 + 3, none⟩) hb1).trans c3
          unfold entAgg
          go_simp
        go_simp; refine hK _ ?_; clear hK K
        iterate 3 ((with_reducible refine sw_pure ?_ (fun K hK => ?_)); (· rfl); go_simp; with_reducible refine hK _ ?_; clear hK K)
        refine sw_at (entAgg e) rfl rfl (fun wz hz' hH => ?_) (fun K hK => ?_)
        · have g0 := (hz'.cell (p := ⟨b2, o2 + k * 4, none⟩) hb2).trans d0
          have g1 := (hz'.cell (p := ⟨b2, o2 + k * 4 + 1, none⟩) hb2).trans d1
          have g2 := (hz'.cell (p := ⟨b2, o2 + k * 4 + 2, none⟩) hb2).trans d2
          have g3 := (hz'.cell (p := ⟨b2, o2 + k * 4 + 3, none⟩) hb2).trans d3
          unfold entAgg
          go_simp
        go_simp; refine hK _ ?_; clear hK K
        refine sw_call _ rfl rfl (fun wz hz' hH => ?_) (fun K hK => ?_)
        · go_simp
          go_at_call 48
          refine (eq_entry e _).mono ?_
          rintro x w' ⟨rfl, hb⟩
          exact ⟨_, rfl, rfl, hb⟩
        go_simp; refine hK _ ?_; clear hK K
        refine sw_at (.bool false) rfl rfl (fun wz hz' hH => ?_) (fun K hK => ?_)
        · have h3 := hH _ (List.Mem.head _) rfl
          dsimp only at h3
          rw [h3]
          go_simp
        go_simp; refine hK _ ?_; clear hK K
        refine sw_done (fun wz hz hH => ?_)
        go_wp2_with fail
        go_meet
        exact ⟨rfl, hz⟩
      case rest =>
        obtain ⟨rfl, hz⟩ := hcut
        have hbz := hbel.trans (hz.mono hbel.size)
        clear hz hbel c0 c1 c2 c3 d0 d1 d2 d3
        go_wp2_with fail
        go_roundw
        case rel => exact ⟨k + 1, by omega, by go_num, hbz⟩
        case measure => simp [intOf]; omega
    · obtain rfl : k = es.length := by omega
      go_wp2_with fail
      go_ret
      exact ⟨rfl, hbel⟩
end Go.Proofs.Ytcogmohepcifiaa
namespace Go.Proofs.Ytcogmohepcifiaa
open Go.ChangeShapes Go.WideShapes Go.ChangeAt Go.RowKit

/-- A snapshot in a block of its own. -/
structure SnapS (w : World) (b : Nat) (s : Snp) : Prop where
  lt : b < w.heap.size
  c0 : w.cell? ⟨b, 0, none⟩ = some (.int .i64 s.i)
  c1 : w.cell? ⟨b, 1, none⟩ = some (.int .i64 s.t)
  c2 : w.cell? ⟨b, 2, none⟩ = some (.string s.c)
  c3 : w.cell? ⟨b, 3, none⟩ = some (.string s.d)
  fr : ∀ j, w.frozen? ⟨b, j, none⟩ = false
theorem SnapS.below {w w' : World} {b : Nat} {s : Snp} (h : SnapS w b s) (hb : Below w.heap.size w w') : SnapS w' b s :=
  ⟨Nat.lt_of_lt_of_le h.lt hb.size, (hb.cell (p := ⟨b, 0, none⟩) h.lt).trans h.c0, (hb.cell (p := ⟨b, 1, none⟩) h.lt).trans h.c1, (hb.cell (p := ⟨b, 2, none⟩) h.lt).trans h.c2, (hb.cell (p := ⟨b, 3, none⟩) h.lt).trans h.c3, fun j => (hb.frozen (p := ⟨b, j, none⟩) h.lt).trans (h.fr j)⟩
theorem SnapS.keeps {w w' : World} {b : Nat} {s : Snp} {F : List Nat} (h : SnapS w b s) (hk : Keeps F w w') (hF : b ∉ F) : SnapS w' b s :=
  ⟨Nat.lt_of_lt_of_le h.lt hk.size, (hk.cell (p := ⟨b, 0, none⟩) h.lt hF).trans h.c0, (hk.cell (p := ⟨b, 1, none⟩) h.lt hF).trans h.c1, (hk.cell (p := ⟨b, 2, none⟩) h.lt hF).trans h.c2, (hk.cell (p := ⟨b, 3, none⟩) h.lt hF).trans h.c3, fun j => (hk.frozen (p := ⟨b, j, none⟩) h.lt hF).trans (h.fr j)⟩
theorem snapS_box (w : World) (s : Snp) (T : TypeId) : SnapS (w.alloc (.cells #[.int .i64 s.i, .int .i64 s.t, .string s.c, .string s.d] T)) w.heap.size s :=
  ⟨by simp, World.cell?_alloc_new _ _ _ _, World.cell?_alloc_new _ _ _ _, World.cell?_alloc_new _ _ _ _, World.cell?_alloc_new _ _ _ _, fun j => World.frozen?_alloc_new _ _ _ _⟩
theorem SnapS.set {w : World} {b : Nat} {s n : Snp} (h : SnapS w b s) : SnapS ((((w.setCell ⟨b, 0, none⟩ (.int .i64 n.i)).setCell ⟨b, 1, none⟩ (.int .i64 n.t)).setCell ⟨b, 2, none⟩ (.string n.c)).setCell ⟨b, 3, none⟩ (.string n.d)) b n ∧
    Keeps [b] w ((((w.setCell ⟨b, 0, none⟩ (.int .i64 n.i)).setCell ⟨b, 1, none⟩ (.int .i64 n.t)).setCell ⟨b, 2, none⟩ (.string n.c)).setCell ⟨b, 3, none⟩ (.string n.d)) := by
  have hk : Keeps [b] w ((((w.setCell ⟨b, 0, none⟩ (.int .i64 n.i)).setCell ⟨b, 1, none⟩ (.int .i64 n.t)).setCell ⟨b, 2, none⟩ (.string n.c)).setCell ⟨b, 3, none⟩ (.string n.d)) :=
    ((((Keeps.refl [b] w).setCell (.inl (by simp)) _).setCell (.inl (by simp)) _).setCell (.inl (by simp)) _).setCell (.inl (by simp)) _
  refine ⟨⟨Nat.lt_of_lt_of_le h.lt hk.size, ?_, ?_, ?_, ?_, fun j => ?_⟩, hk⟩
  · rw [World.cell?_setCell_other (h := by simp), World.cell?_setCell_other (h := by simp), World.cell?_setCell_other (h := by simp)]
    exact World.cell?_setCell_same _ _ _ h.c0
  · rw [World.cell?_setCell_other (h := by simp), World.cell?_setCell_other (h := by simp)]
    exact World.cell?_setCell_same _ _ _ (show World.cell? _ _ = some (.int .i64 s.t) from by rw [World.cell?_setCell_other (h := by simp)]; exact h.c1)
  · rw [World.cell?_setCell_other (h := by simp)]
    exact World.cell?_setCell_same _ _ _ (show World.cell? _ _ = some (.string s.c) from by rw [World.cell?_setCell_other (h := by simp), World.cell?_setCell_other (h := by simp)]; exact h.c2)
  · exact World.cell?_setCell_same _ _ _ (show World.cell? _ _ = some (.string s.d) from by rw [World.cell?_setCell_other (h := by simp), World.cell?_setCell_other (h := by simp), World.cell?_setCell_other (h := by simp)]; exact h.c3)
  · rw [World.frozen?_setCell, World.frozen?_setCell, World.frozen?_setCell, World.frozen?_setCell]; exact h.fr j

end Go.Proofs.Ytcogmohepcifiaa
