/-
  No claim by itself: the evaluator: drawn regions, whole; a function that was written out does what it means. | the evaluator: from an empty heap; the rest of a function's text; two functions by hand. | the evaluator: functions with an answer for opaque texts and documents' maps are sound, as far as the program is not asked. No condition.
-/
import Derived.Test.YtpchmdddkpocgaaGreatDoorP10
import Derived.Below
import Derived.Maps.RangeRun
import Derived.Test.YtpchmdddkpocgaaGreatDoorP7
namespace Go.Proofs.YtpchmdddkpocgaaGreatDoor
set_option linter.unusedVariables false
set_option linter.unusedSimpArgs false
def stS (listed : Array Bool) (i : Nat) : Bool := listed.getD i false
def unl (n : Nat) (listed : Array Bool) : Nat := ((List.range n).filter fun i => !(stS listed i)).length
theorem stS_set {listed : Array Bool} {j : Nat} (hj : j < listed.size) : stS (listed.setIfInBounds j true) = addS (stS listed) j := by
 funext i
 unfold stS addS
 by_cases h : i = j
 ·subst h
  simp [hj]
 ·rw [if_neg h]
  simp [Array.getElem?_setIfInBounds_ne (Ne.symm h)]
theorem filter_lt {p q : Nat → Bool} {j : Nat} (hpq : ∀ i, q i = true → p i = true) (hp : p j = true) (hq : q j = false) : ∀ {l : List Nat}, j ∈ l → (l.filter q).length < (l.filter p).length
 | x :: l, h => by
  have hle : ∀ l : List Nat, (l.filter q).length ≤ (l.filter p).length := fun l => by
   induction l with
   | nil => exact Nat.le_refl _
   | cons y l ih =>
    cases hqy : q y with
    | true =>
     rw [List.filter_cons_of_pos hqy, List.filter_cons_of_pos (hpq y hqy)]
     simp; exact ih
    | false =>
     rw [List.filter_cons_of_neg (by rw [hqy]; simp)]
     cases hpy : p y with
     | true => rw [List.filter_cons_of_pos hpy]; simp; omega
     | false => rw [List.filter_cons_of_neg (by rw [hpy]; simp)]; exact ih
  by_cases hx : x = j
  ·subst hx
   rw [List.filter_cons_of_neg (by rw [hq]; simp), List.filter_cons_of_pos hp]
   have := hle l
   simp; omega
  ·have hm : j ∈ l := (List.mem_cons.1 h).resolve_left (Ne.symm hx)
   have ih := filter_lt hpq hp hq hm
   cases hqy : q x with
   | true =>
    rw [List.filter_cons_of_pos hqy, List.filter_cons_of_pos (hpq x hqy)]
    simp; exact ih
   | false =>
    rw [List.filter_cons_of_neg (by rw [hqy]; simp)]
    cases hpy : p x with
    | true => rw [List.filter_cons_of_pos hpy]; simp; omega
    | false => rw [List.filter_cons_of_neg (by rw [hpy]; simp)]; exact ih
theorem first_un {S : Nat → Bool} : ∀ {l : List Nat}, (∃ i ∈ l, S i = false) → ∃ p j q, l = p ++ j :: q ∧ S j = false ∧ ∀ y ∈ p, S y = true
 | [], ⟨i, h, _⟩ => by cases h
 | x :: l, ⟨i, hi, hS⟩ => by
  cases hx : S x with
  | false => exact ⟨[], x, l, rfl, hx, fun y h => by cases h⟩
  | true =>
   have : i ∈ l := (List.mem_cons.1 hi).resolve_left fun e => by rw [e, hx] at hS; cases hS
   obtain ⟨p, j, q, rfl, h2, h3⟩ := first_un ⟨i, this, hS⟩
   exact ⟨x :: p, j, q, rfl, h2, fun y hy => by
    rcases List.mem_cons.1 hy with rfl | hy
    ·exact hx
    ·exact h3 y hy⟩
theorem repF_none {all : List Oper} {f : Rw → Option AV} : ∀ {acc : List Rw} {env : List AV}, (∀ r ∈ acc, f r = none) → repF all f acc env = env
 | [], _, _ => rfl
 | r :: acc, env, h => by
  rw [repF_cons, h r (by simp)]
  exact repF_none fun r' hr' => h r' (List.mem_cons_of_mem _ hr')
theorem repF_all {all : List Oper} {f : Rw → Option AV} : ∀ {acc : List Rw} {env : List AV}, (∀ r ∈ acc, f r = some r.2.2.2) → repF all f acc env = repP all acc env
 | [], _, _ => rfl
 | r :: acc, env, h => by
  rw [repF_cons, repP_cons, h r (by simp)]
  exact repF_all fun r' hr' => h r' (List.mem_cons_of_mem _ hr')
section
variable {P : Program} {T : Tbl} {M : List (Nat × Nat)} {ops : Array Oper} {ord : List Nat} {env0 : List AV} {h0 : Hp} {acc : List Rw} {HH : List Hp} {envE : List AV} {hE : Hp} {A pre As post : List Nat}
theorem DC.rdy {S : Nat → Bool} (hcl : Closed ops.toList (fun i => S i = true)) {listed : Array Bool} (hS : S = stS listed) {j : Nat} (hj : j ∈ Region.ready .any ops listed) : ∃ o, Rdy ops.toList S j o ∧ j < listed.size := by
 obtain ⟨h1, o, h2, h3⟩ := mem_ready.1 hj
 have hlt : j < listed.size := by
  rcases Nat.lt_or_ge j listed.size with h | h
  ·exact h
  ·rw [Array.getD_eq_getD_getElem?, Array.getElem?_eq_none h] at h1
   cases h1
 refine ⟨o, ⟨by rw [Array.getElem?_toList]; exact h2, ?_, fun e he => ?_, hcl⟩, hlt⟩
 ·subst hS
  unfold stS
  rw [Array.getD_eq_getD_getElem?, Array.getElem?_eq_getElem hlt] at h1 ⊢
  exact h1
 ·subst hS
  unfold dpr at he
  obtain ⟨e', he', rfl⟩ := List.mem_map.1 he
  obtain ⟨g1, g2⟩ := List.mem_filter.1 he'
  exact h3 e' (by simpa using g1) g2
theorem DC.done (D : DC P T M ops.toList ord env0 h0 acc HH envE hE A pre As post) {ρ0 : Q → Loc} {w0 : World} {B : Nat} {S : Nat → Bool} {a : Act} {w : World} (I : Inv P ops.toList env0 h0 acc HH pre As post ρ0 w0 B S a w) (hall : ∀ i, i < ops.toList.length → S i = true) : ∃ ρ, Emb P ρ hE w B ∧ Step ρ0 h0 w0 ρ hE w ∧ Env ρ hE.nx.num envE a := by
 obtain ⟨_, ρ, H, hH, E, s, en, _⟩ := I
 have hin : ∀ x ∈ pre ++ As ++ post, S x = true := fun x hx => by
  obtain ⟨o, h1, _⟩ := D.heavyOf hx
  exact hall x (List.getElem?_eq_some_iff.1 h1).1
 have hm : m1 pre As S = false := m1_of fun x hx => hin x (List.mem_append_left _ hx)
 have hp : post.filter S = post := List.filter_eq_self.2 fun y hy => hin y (List.mem_append_right _ hy)
 have hidx : idxS pre As post S = (hvL P ops.toList ord).length := by unfold idxS; rw [hm, if_neg (by simp), hp, D.hhv]; simp; omega
 rw [hidx, D.hhE] at hH
 cases hH
 rw [fS_m2 hm, repF_all, ← D.henv] at en
 ·exact ⟨ρ, E, s, en⟩
 ·intro r hr
  have : r.1 ∈ ord := by rw [← D.hmap]; exact List.mem_map.2 ⟨r, hr, rfl⟩
  obtain ⟨p, q, e⟩ := List.append_of_mem this
  obtain ⟨o, h1, _⟩ := linOk_split D.hlin e
  unfold fU
  rw [if_pos (hall r.1 (List.getElem?_eq_some_iff.1 h1).1), if_neg (by simp)]
theorem DC.any (D : DC P T M ops.toList ord env0 h0 acc HH envE hE A pre As post) (hT : SoundT P T) {ρ0 : Q → Loc} {w0 : World} {B : Nat} (hB : B ≤ w0.heap.size) {QQ : Exit → Act → World → Prop} (hfin : ∀ ρ a w, Emb P ρ hE w B → Step ρ0 h0 w0 ρ hE w → Env ρ hE.nx.num envE a → QQ .normal a w) :
  ∀ (fuel : Nat) (listed : Array Bool) (a : Act) (w : World), listed.size = ops.size → unl ops.size listed ≤ fuel → Inv P ops.toList env0 h0 acc HH pre As post ρ0 w0 B (stS listed) a w → wpAny P .any ops QQ fuel listed a w := by
 have hdone : ∀ (listed : Array Bool) (a : Act) (w : World), (∀ i, i < ops.toList.length → stS listed i = true) → Inv P ops.toList env0 h0 acc HH pre As post ρ0 w0 B (stS listed) a w → QQ .normal a w := fun listed a w hall I => by
  obtain ⟨ρ, h1, h2, h3⟩ := D.done I hall
  exact hfin ρ a w h1 h2 h3
 have hready : ∀ (listed : Array Bool), listed.size = ops.size → Region.ready .any ops listed = [] → ∀ i, i < ops.toList.length → stS listed i = true := fun listed hsz hr i hi => by
  cases hS : stS listed i with
  | true => rfl
  | false =>
   obtain ⟨p, j, q, e, h1, h2⟩ := first_un (S := stS listed) ⟨i, D.hcov i hi, hS⟩
   obtain ⟨o, g1, g2, _, _⟩ := linOk_split D.hlin e
   have g1' : ops[j]? = some o := by rw [← Array.getElem?_toList]; exact g1
   have hjlt : j < listed.size := by
    rw [hsz]
    exact (Array.getElem?_eq_some_iff.1 g1').1
   have : j ∈ Region.ready .any ops listed := mem_ready.2 ⟨by
    unfold stS at h1
    rw [Array.getD_eq_getD_getElem?, Array.getElem?_eq_getElem hjlt] at h1 ⊢
    exact h1, o, g1', fun e he hb => by
     have hm : e.on ∈ dpr o := by
      unfold dpr
      exact List.mem_map.2 ⟨e, List.mem_filter.2 ⟨by simpa using he, hb⟩, rfl⟩
     exact h2 e.on ((g2 e.on hm).resolve_left (by simp))⟩
   rw [hr] at this
   cases this
 intro fuel
 induction fuel with
 | zero =>
  intro listed a w hsz hu I
  have hall : ∀ i, i < ops.toList.length → stS listed i = true := fun i hi => by
   cases hS : stS listed i with
   | true => rfl
   | false =>
    have : i ∈ (List.range ops.size).filter fun i => !(stS listed i) := List.mem_filter.2 ⟨List.mem_range.2 (by simpa using hi), by rw [hS]; rfl⟩
    have h0 : (List.range ops.size).filter (fun i => !(stS listed i)) = [] := List.eq_nil_of_length_eq_zero (Nat.le_zero.1 hu)
    rw [h0] at this
    cases this
  refine ⟨?_, hdone listed a w hall I⟩
  cases hr : Region.ready .any ops listed with
  | nil => rfl
  | cons j l =>
   obtain ⟨o, R, _⟩ := DC.rdy I.1 rfl (listed := listed) (j := j) (by rw [hr]; simp)
   have := hall j (List.getElem?_eq_some_iff.1 R.op).1
   rw [R.un] at this
   cases this
 | succ fuel ih =>
  intro listed a w hsz hu I
  refine ⟨fun hr => hdone listed a w (hready listed hsz hr) I, fun j hj => ?_⟩
  obtain ⟨o, R, hlt⟩ := DC.rdy I.1 rfl hj
  refine D.step hT R hB I fun a' w' I' => ih _ a' w' (by simpa using hsz) ?_ (by rw [stS_set hlt]; exact I')
  have hjn : j ∈ List.range ops.size := List.mem_range.2 (by rw [← hsz]; exact hlt)
  have := filter_lt (p := fun i => !(stS listed i)) (q := fun i => !(stS (listed.setIfInBounds j true) i)) (j := j) (fun i hi => by
   rw [stS_set hlt] at hi
   by_cases hij : i = j
   ·rw [hij, addS_same] at hi; cases hi
   ·rwa [addS_ne _ hij] at hi) (by rw [R.un]; rfl) (by rw [stS_set hlt, addS_same]; rfl) hjn
  unfold unl at hu ⊢
  omega
theorem draw_sound (hT : SoundT P T) : DrawS P T M := by
 intro ops ord env a ρ h w B L k QQ E en hl hk H
 unfold drawD at hk
 cases hok : ordOk P ops.toList ord with
 | false => rw [hok] at hk; cases hk
 | true =>
  rw [hok] at hk
  obtain ⟨acc, hs, envE, hE, c, hk2⟩ := runG_chain hT ord (show runG P T M ops.toList ord [] [h] env h _ = true from hk)
  obtain ⟨hk3, hrck⟩ := rckL_spec hk2
  obtain ⟨f1, f2, f3, f4, f5⟩ := c.facts
  simp only [List.nil_append, List.singleton_append] at hrck
  unfold ordOk at hok
  simp only [Bool.and_eq_true] at hok
  obtain ⟨⟨⟨o1, o2⟩, o3⟩, o4⟩ := hok
  generalize hA : lateL P ops.toList (mskL ops.toList []) = A at o3 o4
  have htd := List.takeWhile_append_dropWhile (p := fun i => !(memN A i)) (l := hvL P ops.toList ord)
  have D : DC P T M ops.toList ord env h acc (h :: hs) envE hE A (preL A (hvL P ops.toList ord)) (((hvL P ops.toList ord).drop (preL A (hvL P ops.toList ord)).length).take A.length) (((hvL P ops.toList ord).drop (preL A (hvL P ops.toList ord)).length).drop A.length) := by
   refine ⟨fun j hj => ?_, o2, o3, o4, fun i hi hm => ?_, fun i hi => ?_, ?_, f1, rfl, by rw [← f2]; exact f4, f3, f5, hrck⟩
   ·have := List.all_eq_true.1 o1 j (List.mem_range.2 hj)
    exact memN_spec.1 this
   ·have := List.all_eq_true.1 (List.all_takeWhile (p := fun i => !(memN A i)) (l := hvL P ops.toList ord)) i hi
    rw [memN_spec.2 hm] at this
    cases this
   ·rw [← hA] at hi
    unfold lateL at hi
    obtain ⟨x, hx, rfl⟩ := List.mem_map.1 hi
    obtain ⟨g1, g2⟩ := List.mem_filter.1 hx
    simp only [Bool.and_eq_true] at g2
    rw [List.mem_zipIdx_iff_getElem?] at g1
    exact ⟨x.1, g1, g2.1⟩
   ·have e1 : (hvL P ops.toList ord).drop (preL A (hvL P ops.toList ord)).length = (hvL P ops.toList ord).dropWhile fun i => !(memN A i) := by
     unfold preL
     conv => lhs; rw [← htd]
     rw [htd]
     conv => lhs; arg 2; rw [← htd]
     exact List.drop_left
    rw [List.append_assoc, List.take_append_drop, e1]
    exact htd.symm
  refine D.any hT E.base (fun ρ' a' w' E' s' en' => H envE hE ρ' w' a' E' s' en' ?_ hk3) ops.size (Array.replicate ops.size false) a w (by simp) ?_ ?_
  ·rw [f3, ← hl]
   have : ∀ (acc : List Rw) (e : List AV), (repP ops.toList acc e).length = e.length := fun acc => by
    induction acc with
    | nil => intro e; rfl
    | cons r acc ih => intro e; rw [repP_cons, ih]; exact setP_length _ _ _
   exact this acc env
  ·unfold unl
   exact Nat.le_trans (List.length_filter_le _ _) (by simp)
  ·have hS : ∀ i, stS (Array.replicate ops.size false) i = false := fun i => by
    unfold stS
    rw [Array.getD_eq_getD_getElem?, Array.getElem?_replicate]
    split <;> rfl
   generalize stS (Array.replicate ops.size false) = S at hS
   have hnil : ∀ l : List Nat, l.filter S = [] := fun l => List.filter_eq_nil_iff.2 fun y _ => by rw [hS]; simp
   refine ⟨fun j o _ (hj : S j = true) => (by rw [hS] at hj; cases hj), ρ, h, ?_, E, Step.refl _ _ _, ?_, fun _ => ⟨fun _ => 0, fun x _ hx => (by rw [hS] at hx; cases hx), fun x _ y _ hx => (by rw [hS] at hx; cases hx)⟩⟩
   ·have : ∀ (pre As post : List Nat), idxS pre As post S = 0 := fun pre As post => by
     unfold idxS
     split
     ·rw [hnil]; rfl
     ·rename_i hm
      have hall := m1_false (by simpa using hm : m1 pre As S = false)
      have e1 : pre = [] := List.eq_nil_iff_forall_not_mem.2 fun x hx => by have := hall x (by simp [hx]); rw [hS] at this; cases this
      have e2 : As = [] := List.eq_nil_iff_forall_not_mem.2 fun x hx => by have := hall x (by simp [hx]); rw [hS] at this; cases this
      rw [e1, e2, hnil]; rfl
    rw [this]
    rfl
   ·rw [repF_none fun r _ => by unfold fS; rw [hS]; rfl]
    exact en
theorem sound_fn {f : FuncId} {fn : Func} {ann : Ann} {s : FS} (hf : P.funcs[f]? = some fn) (hn : (fn.name == "runtime.NumGoroutine") = false) (hb : fn.body.isSome = true) (hle : Nat.ble (Nat.add fn.params.toList.length fn.nfree) fn.ntmps = true) (hm : P.follows .mixedOrders = true) (hT : SoundT P T) (hs : s = fnF P T M fn ann) : SoundF P f s :=
 sound_fnD hm hf hn hb hle hT (draw_sound hT) hs
end
end Go.Proofs.YtpchmdddkpocgaaGreatDoor
namespace Go.Proofs.YtpchmdddkpocgaaGreatDoor
set_option linter.unusedVariables false
set_option linter.unusedSimpArgs false
open Go.RowKit
section
variable {P : Program} {ρ : Q → Loc} {h : Hp} {w w' : World} {B : Nat}
theorem Emb.below (E : Emb P ρ h w B) (hb : Below w.heap.size w w') : Emb P ρ h w' B ∧ Step ρ h w ρ h w' := by
 have lt_of : ∀ {b : Nat} {o : Obj}, w.heap[b]? = some o → b < w.heap.size := fun hx => (Array.getElem?_eq_some_iff.1 hx).1
 refine ⟨⟨Nat.le_trans E.base hb.size, E.lt, E.ge, E.inj, fun q ty n v hg => ?_, fun q es hg => ?_, fun q o l hg => ?_, fun q i hg => ?_, fun q ty hg => ?_, fun q ty q0 us hg => ?_, E.tab.mono fun c hc => hb.block c (by have := E.base; omega)⟩, ⟨fun _ _ => rfl, Nat.le_refl _, hb.size, fun b hlt _ => hb.block b hlt, fun q hq => .inl ⟨q, hq, rfl⟩, hb.os, hb.tape, hb.output⟩⟩
 ·have R := E.row q ty n v hg
  obtain ⟨sz, h1, _⟩ := R.at_
  have : (ρ q).blk < w.heap.size := by
   unfold World.shape? at h1
   cases hx : w.heap[(ρ q).blk]? with
   | none => rw [hx] at h1; cases h1
   | some o => exact lt_of hx
  exact R.mono (fun _ _ => rfl) (Nat.le_refl _) (hb.block _ this)
 ·have R := E.map q es hg
  obtain ⟨fs, c, h1, _⟩ := R
  exact (E.map q es hg).mono (fun _ _ => rfl) (Nat.le_refl _) (hb.block _ (lt_of h1))
 ·have R := E.si q o l hg
  obtain ⟨s, h1, _⟩ := R
  exact (E.si q o l hg).mono (hb.block _ (lt_of h1))
 ·obtain ⟨s, h1⟩ := (E.op q i hg).2.1
  exact ⟨(E.op q i hg).1, (E.op q i hg).2.mono (fun _ _ => rfl) (E.op q i hg).1 (hb.block _ (lt_of h1))⟩
 ·have R := E.soup q ty hg
  obtain ⟨sz, h1, _⟩ := R.at_
  have : (ρ q).blk < w.heap.size := by
   unfold World.shape? at h1
   cases hx : w.heap[(ρ q).blk]? with
   | none => rw [hx] at h1; cases h1
   | some o => exact lt_of hx
  exact R.mono (hb.block _ this)
 ·obtain ⟨h1, h2⟩ := E.dm q ty q0 us hg
  have h3 := h2
  obtain ⟨fs, c, h4, _⟩ := h3
  exact ⟨h1, h2.mono (hb.block _ (lt_of h4))⟩
def h00 : Hp := .mk .z (.d1 .e)
theorem no00 (q : Q) : ¬ h00.live q := fun hq => hq (HT.get_z q)
theorem emb00 (P : Program) (ρ : Q → Loc) (w : World) (hT : Tabs P w.heap.size w) : Emb P ρ h00 w w.heap.size := by
 refine ⟨Nat.le_refl _, fun q hq => (no00 q hq).elim, fun q hq => (no00 q hq).elim, fun q _ hq => (no00 q hq).elim, fun q ty n v hg => ?_, fun q es hg => ?_, fun q o l hg => ?_, fun q i hg => ?_, fun q ty hg => ?_, fun q ty q0 us hg => ?_, hT⟩ <;>
 ·have := HT.get_z q
  rw [show h00.t = .z from rfl, this] at hg
  cases hg
theorem Step.below {ρ' : Q → Loc} {h' : Hp} (s : Step ρ h00 w ρ' h' w') : Below w.heap.size w w' :=
 ⟨s.os, s.tape, s.output, s.size, fun b hb => s.frame b hb fun q hq => (no00 q hq).elim⟩
theorem SoundF.calls0 {f : FuncId} {s : FS} (hs : SoundF P f s) {args : List AV} {vals : List Value} (ha : RelL ρ 1 args vals) {k : AV → Hp → Bool} (hk : s args h00 k = true) (w : World) (hT : Tabs P w.heap.size w) :
  Calls P f vals.toArray w fun e w' => ∃ v ρ' h' y, e = .returned v ∧ Rel ρ' (Hp.nx h').num y v ∧ k y h' = true ∧ Below w.heap.size w w' :=
 (hs.sound ρ h00 w w.heap.size args vals k (emb00 P ρ w hT) ha hk).mono fun e w' hl => by
  cases e with
  | returned v =>
   obtain ⟨ρ', h', y, _, s, hr, hk⟩ := hl
   exact ⟨v, ρ', h', y, rfl, hr, hk, s.below⟩
  | _ => exact hl.elim
def isT (y : AV) : Bool := y.on_b fun b => b
theorem isT_spec {ρ : Q → Loc} {N : Nat} {y : AV} {v : Value} (hr : Rel ρ N y v) (h : isT y = true) : v = .bool true := by
 obtain ⟨b, rfl, hb⟩ := AV.on_b_spec (show y.on_b _ = true from h)
 subst hb
 cases hr
 rfl
theorem SoundF.true0 {f : FuncId} {s : FS} (hs : SoundF P f s) {args : List AV} {vals : List Value} (ha : RelL ρ 1 args vals) (hk : s args h00 (fun y _ => isT y) = true) (w : World) (hT : Tabs P w.heap.size w) :
  Calls P f vals.toArray w fun e w' => e = .returned (.bool true) ∧ Below w.heap.size w w' :=
 (hs.calls0 ha hk w hT).mono fun e w' ⟨v, _, _, y, he, hr, hk, hb⟩ => ⟨by rw [he, isT_spec hr hk], hb⟩
theorem SoundF.unit0 {f : FuncId} {s : FS} (hs : SoundF P f s) {args : List AV} {vals : List Value} (ha : RelL ρ 1 args vals) (hk : s args h00 (fun y _ => y.on_t fun l => l.isEmpty) = true) (w : World) (hT : Tabs P w.heap.size w) :
  Calls P f vals.toArray w fun e w' => e = .returned (.tuple #[]) ∧ Below w.heap.size w w' :=
 (hs.calls0 ha hk w hT).mono fun e w' ⟨v, _, _, y, he, hr, hk, hb⟩ => by
  obtain ⟨l, rfl, hl⟩ := AV.on_t_spec (show y.on_t _ = true from hk)
  cases l with
  | nil =>
   cases hr with
   | t _ vs hv =>
    cases hv
    exact ⟨he, hb⟩
  | cons _ _ => cases hl
def env2 (N : Nat) (x y : AV) : List AV := x :: y :: List.replicate (N - 2) .d
theorem muD_run (E : Emb P ρ h w B) {t kt et : TypeId} (ht : mapOf P t = some (kt, et)) {str : Bool} (hs : kdOf P kt = some str) {q : Q} {x z : AV} {u zv : Value} (hx : Rel ρ h.nx.num x u) (hz : Rel ρ h.nx.num z zv) {k : Hp → Bool} (hk : muD str (.m q) x z h k = true) :
  ∃ fs' c' h', (Instr.mapUpdate t (.map (some (ρ q).blk)) u zv).run P w = .ok () { w with heap := w.heap.setIfInBounds (ρ q).blk (.map fs' c') } ∧
   Emb P ρ h' { w with heap := w.heap.setIfInBounds (ρ q).blk (.map fs' c') } B ∧ Step ρ h w ρ h' { w with heap := w.heap.setIfInBounds (ρ q).blk (.map fs' c') } ∧ k h' = true := by
 have ht := mapOf_spec ht
 obtain ⟨d, hd, hck⟩ := kd_desc hs
 have hk1 : ((HT.getR q h.t).onM fun es => muK str x z es fun es' => HT.setK (.mp es') q h.t fun t' => k (.mk t' h.nx)) = true := hk
 clear hk
 rw [HT.getR_eq] at hk1
 obtain ⟨es, hg, hk2⟩ := OB.onM_spec hk1
 obtain ⟨fs, c, hb, hr, hborn⟩ := E.map q es hg
 have hgo := run_getObj' (P := P) hb (by intro _ _ _ e; cases e)
 obtain ⟨es', hk3, hcase⟩ := muK_sound hs hd hx hz 0 hr hk2
 rw [HT.setK_eq] at hk3
 rcases hcase with ⟨h1, h2⟩ | ⟨j, e, h1, h2, h3, h4, h5⟩
 ·obtain ⟨a1, a2⟩ := E.setMap hg (es' := es') (fs' := fs.push { key := u, val := zv, born := c }) (c' := c + 1) (by simpa using h2 c) (fun e he => by
   rw [Array.toList_push] at he
   rcases List.mem_append.1 he with he | he
   ·have := hborn e he; omega
   ·rcases List.mem_singleton.1 he with rfl; simp)
  exact ⟨_, _, _, by simp [Instr.mapUpdate, run_underlying ht, hgo, hck, run_findKey (P := P) hd h1, run_setObj' (P := P) hb (by intro _ _ _ e; cases e)], a1, a2, hk3⟩
 ·have hj : fs[j]? = some e := by rw [← Array.getElem?_toList]; exact h2
  have hks : (Instr.keyThatStays (((fs[0 + j]?).map (·.key)).getD u) u).run P w = .ok u w := by
   simp [hj, h3, Instr.keyThatStays, h4]
  rw [Nat.zero_add] at hks h1
  obtain ⟨a1, a2⟩ := E.setMap hg (es' := es') (fs' := fs.modify j fun e => { e with key := u, val := zv }) (c' := c) (by rw [Array.toList_modify]; exact h5) (fun e' he => by
   rw [Array.toList_modify] at he
   obtain ⟨i, hi⟩ := List.mem_iff_getElem?.1 he
   rw [List.getElem?_modify] at hi
   cases hfi : fs.toList[i]? with
   | none => rw [hfi] at hi; simp at hi
   | some e0 =>
    rw [hfi] at hi
    have hb0 := hborn e0 (List.mem_of_getElem? hfi)
    by_cases hij : j = i
    ·simp [hij] at hi; rw [← hi]; exact hb0
    ·simp [hij] at hi; rw [← hi]; exact hb0)
  refine ⟨_, _, _, ?_, a1, a2, hk3⟩
  simp only [Instr.mapUpdate, Sem.run_bind, run_underlying ht, Result.andThen_ok, hgo, hck, run_findKey (P := P) hd h1, hks, run_setObj' (P := P) hb (by intro _ _ _ e; cases e)]
noncomputable def cpF : FS := fun args h k => capp 2 (fun dm s h => dm.on_m fun qd => s.on_m fun q => (HT.getR q h.t).onM fun es => List.casesOn (motive := fun _ => Bool) es (k (.t []) h) fun e t => List.casesOn (motive := fun _ => Bool) t (e.2.on_a fun cs => List.casesOn (motive := fun _ => Bool) cs false fun _ c2 => List.casesOn (motive := fun _ => Bool) c2 (ifT (nb (Q.eq qd q)) (muD true (.m qd) e.1 e.2 h fun h' => k (.t []) h')) (fun _ _ => false)) (fun _ _ => false)) args h
noncomputable def soF (n : Nat) : FS := fun args h k => capp 1 (fun f h => f.on_f fun g fs cs => ifT (Nat.beq g n) (List.casesOn (motive := fun _ => Bool) fs (List.casesOn (motive := fun _ => Bool) cs false fun c t => List.casesOn (motive := fun _ => Bool) t (ld1 c h fun m => m.on_m fun q => (HT.getR q h.t).onM fun es => List.casesOn (motive := fun _ => Bool) es (k .ns h) (fun _ _ => false)) (fun _ _ => false)) (fun _ _ => false))) args h
theorem cpF_det (args : List AV) (h : Hp) : Det2 (cpF args h) := by
 match args with
 | [] => exact Det2.fail
 | [_] => exact Det2.fail
 | _ :: _ :: _ :: _ => exact Det2.fail
 | [dm, s] =>
  show Det2 fun (k : AV → Hp → Bool) => dm.on_m fun qd => s.on_m fun q => (HT.getR q h.t).onM fun es => List.casesOn (motive := fun _ => Bool) es (k (.t []) h) fun e t => List.casesOn (motive := fun _ => Bool) t (e.2.on_a fun cs => List.casesOn (motive := fun _ => Bool) cs false fun _ c2 => List.casesOn (motive := fun _ => Bool) c2 (ifT (nb (Q.eq qd q)) (muD true (.m qd) e.1 e.2 h fun h' => k (.t []) h')) (fun _ _ => false)) (fun _ _ => false)
  cases dm with
  | m qd =>
   cases s with
   | m q =>
    show Det2 fun (k : AV → Hp → Bool) => (HT.getR q h.t).onM fun es => List.casesOn (motive := fun _ => Bool) es (k (.t []) h) fun e t => List.casesOn (motive := fun _ => Bool) t (e.2.on_a fun cs => List.casesOn (motive := fun _ => Bool) cs false fun _ c2 => List.casesOn (motive := fun _ => Bool) c2 (ifT (nb (Q.eq qd q)) (muD true (.m qd) e.1 e.2 h fun h' => k (.t []) h')) (fun _ _ => false)) (fun _ _ => false)
    cases HT.getR q h.t with
    | mp es =>
     match es with
     | [] => exact Det2.ret _ _
     | [e] =>
      show Det2 fun (k : AV → Hp → Bool) => e.2.on_a fun cs => List.casesOn (motive := fun _ => Bool) cs false fun _ c2 => List.casesOn (motive := fun _ => Bool) c2 (ifT (nb (Q.eq qd q)) (muD true (.m qd) e.1 e.2 h fun h' => k (.t []) h')) (fun _ _ => false)
      obtain ⟨e1, e2⟩ := e
      cases e2 with
      | a cs =>
       match cs with
       | [] => exact Det2.fail
       | [_] => exact det2_ifT ((muD_det true (.m qd) _ _ h).to2 fun h' => Det2.ret _ _)
       | _ :: _ :: _ => exact Det2.fail
      | _ => exact Det2.fail
     | _ :: _ :: _ => exact Det2.fail
    | _ => exact Det2.fail
   | _ => exact Det2.fail
  | _ => exact Det2.fail
theorem ld1_det (c : AV) (h : Hp) : Det (ld1 c h) := det_on_p fun _ _ => det_on fun _ _ _ => det_ifT (Det.ret _)
theorem soF_det (n : Nat) (args : List AV) (h : Hp) : Det2 (soF n args h) := by
 match args with
 | [] => exact Det2.fail
 | _ :: _ :: _ => exact Det2.fail
 | [f] =>
  show Det2 fun (k : AV → Hp → Bool) => f.on_f fun g fs cs => ifT (Nat.beq g n) (List.casesOn (motive := fun _ => Bool) fs (List.casesOn (motive := fun _ => Bool) cs false fun c t => List.casesOn (motive := fun _ => Bool) t (ld1 c h fun m => m.on_m fun q => (HT.getR q h.t).onM fun es => List.casesOn (motive := fun _ => Bool) es (k .ns h) (fun _ _ => false)) (fun _ _ => false)) (fun _ _ => false))
  refine Det2.on_f fun g fs cs => det2_ifT ?_
  match fs, cs with
  | _ :: _, _ => exact Det2.fail
  | [], [] => exact Det2.fail
  | [], _ :: _ :: _ => exact Det2.fail
  | [], [c] =>
   refine Det.to2 (g := fun m (k : AV → Hp → Bool) => m.on_m fun q => (HT.getR q h.t).onM fun es => List.casesOn (motive := fun _ => Bool) es (k .ns h) (fun _ _ => false)) (ld1_det c h) fun m => ?_
   cases m with
   | m q =>
    show Det2 fun (k : AV → Hp → Bool) => (HT.getR q h.t).onM fun es => List.casesOn (motive := fun _ => Bool) es (k .ns h) (fun _ _ => false)
    cases HT.getR q h.t with
    | mp es => cases es <;> first | exact Det2.ret _ _ | exact Det2.fail
    | _ => exact Det2.fail
   | _ => exact Det2.fail
end
section
variable {P : Program} {ρ : Q → Loc} {h : Hp} {w w' : World} {B : Nat}
theorem arm1_sound {f : FuncId} {g : Sy → Hp → (AV → Hp → Bool) → Bool} {o : FS} (hd : ∀ s h, Det2 (g s h)) (hs : ∀ (ρ : Q → Loc) (h : Hp) (w : World) (B : Nat) (s : Sy) (v : Value) (k : AV → Hp → Bool), Emb P ρ h w B → Rel ρ h.nx.num (.y s) v → g s h k = true → Calls P f #[v] w (Left P ρ h w B k)) (ho : SoundF P f o) : SoundF P f (arm1 g o) := by
 refine ⟨ho.enter, fun args h => ?_, fun ρ h w B args vals k E ha hk => ?_⟩
 ·match args with
  | [] => exact Det2.fail
  | _ :: _ :: _ => exact Det2.fail
  | [x] => exact Det2.yK (x := x) (f := fun s k => g s h k) (g := fun k => o [x] h k) (fun s => hd s h) (ho.det [x] h)
 ·match args, ha, hk with
  | [], _, hk => cases hk
  | _ :: _ :: _, _, hk => cases hk
  | [x], ha, hk =>
   have hk : x.yK (fun s => g s h k) (o [x] h k) = true := hk
   rcases AV.yK_spec hk with ⟨s, rfl, h1⟩ | h1
   ·cases ha with
    | cons _ v _ _ hx t =>
     cases t
     exact hs ρ h w B s v k E hx h1
   ·exact ho.sound ρ h w B [x] vals k E ha h1
theorem Left.of_below (E : Emb P ρ h w B) (hb : Below w.heap.size w w') {y : AV} {v : Value} (hr : Rel ρ h.nx.num y v) {k : AV → Hp → Bool} (hk : k y h = true) : Left P ρ h w B k (.returned v) w' := by
 obtain ⟨E', s'⟩ := E.below hb
 exact ⟨ρ, h, y, E', s', hr, hk⟩
theorem confG_det (s : Sy) (h : Hp) : Det2 (confG s h) := by
 cases s <;> first | exact det2_ifT (Det2.ret _ _) | exact Det2.fail
section
variable {α β : Type}
theorem Det2.on_m' {x : AV} {f : Q → (α → β → Bool) → Bool} (hf : ∀ q, Det2 (f q)) : Det2 (fun k => x.on_m fun q => f q k) := by cases x <;> first | exact hf _ | exact Det2.fail
theorem Det2.onM' {x : OB} {f : List (AV × AV) → (α → β → Bool) → Bool} (hf : ∀ a, Det2 (f a)) : Det2 (fun k => x.onM fun a => f a k) := by cases x <;> first | exact hf _ | exact Det2.fail
theorem Det2.onNil {γ : Type} {l : List γ} {g : (α → β → Bool) → Bool} (hg : Det2 g) : Det2 (fun k => List.casesOn (motive := fun _ => Bool) l (g k) fun _ _ => false) := by cases l <;> first | exact hg | exact Det2.fail
end
theorem cpdG_det (kt nt : Nat) (dd s : AV) (h : Hp) : Det2 (cpdG kt nt dd s h) :=
 Det2.on_m' (x := dd) (f := fun qd (k : AV → Hp → Bool) => (HT.getR qd h.t).onM fun es => List.casesOn (motive := fun _ => Bool) es (s.on_m fun q => (HT.getR q h.t).onY fun oy => oy.on_dm fun ty q0 us => ifT (Nat.beq ty.1 kt) (ifT (Nat.beq ty.2.1 nt) (ifT (Nat.ble ty.2.2 900) (HT.setK (.y (.dm ty q0 us)) qd h.t fun t' => k (.t []) (.mk t' h.nx))))) (fun _ _ => false)) fun qd =>
 Det2.onM' (x := HT.getR qd h.t) (f := fun es (k : AV → Hp → Bool) => List.casesOn (motive := fun _ => Bool) es (s.on_m fun q => (HT.getR q h.t).onY fun oy => oy.on_dm fun ty q0 us => ifT (Nat.beq ty.1 kt) (ifT (Nat.beq ty.2.1 nt) (ifT (Nat.ble ty.2.2 900) (HT.setK (.y (.dm ty q0 us)) qd h.t fun t' => k (.t []) (.mk t' h.nx))))) (fun _ _ => false)) fun es =>
 Det2.onNil (l := es) (g := fun (k : AV → Hp → Bool) => s.on_m fun q => (HT.getR q h.t).onY fun oy => oy.on_dm fun ty q0 us => ifT (Nat.beq ty.1 kt) (ifT (Nat.beq ty.2.1 nt) (ifT (Nat.ble ty.2.2 900) (HT.setK (.y (.dm ty q0 us)) qd h.t fun t' => k (.t []) (.mk t' h.nx))))) <|
 Det2.on_m' (x := s) (f := fun q (k : AV → Hp → Bool) => (HT.getR q h.t).onY fun oy => oy.on_dm fun ty q0 us => ifT (Nat.beq ty.1 kt) (ifT (Nat.beq ty.2.1 nt) (ifT (Nat.ble ty.2.2 900) (HT.setK (.y (.dm ty q0 us)) qd h.t fun t' => k (.t []) (.mk t' h.nx))))) fun q =>
 Det2.onY (b := HT.getR q h.t) (f := fun oy (k : AV → Hp → Bool) => oy.on_dm fun ty q0 us => ifT (Nat.beq ty.1 kt) (ifT (Nat.beq ty.2.1 nt) (ifT (Nat.ble ty.2.2 900) (HT.setK (.y (.dm ty q0 us)) qd h.t fun t' => k (.t []) (.mk t' h.nx))))) fun oy =>
 Det2.on_dm (o := oy) (f := fun ty q0 us (k : AV → Hp → Bool) => ifT (Nat.beq ty.1 kt) (ifT (Nat.beq ty.2.1 nt) (ifT (Nat.ble ty.2.2 900) (HT.setK (.y (.dm ty q0 us)) qd h.t fun t' => k (.t []) (.mk t' h.nx))))) fun ty q0 us =>
 det2_ifT (det2_ifT (det2_ifT (Det2.setK _ _ _ (g := fun t' (k : AV → Hp → Bool) => k (.t []) (.mk t' h.nx)) fun _ => Det2.ret _ _)))
theorem onPut_det {x : AV} {f : List Nat → Nat → (AV → Hp → Bool) → Bool} (hf : ∀ l n, Det2 (f l n)) : Det2 (fun k => onPut x fun l n => f l n k) := by
 cases x with
 | a l =>
  match l with
  | [] => exact Det2.fail
  | [_] => exact Det2.fail
  | [_, _] => exact Det2.fail
  | [_, _, _] => exact Det2.fail
  | a :: b :: c :: dd :: l =>
   refine det2_ifT (det2_ifT (det2_ifT ?_))
   cases b with
   | s sz bs =>
    refine det2_ifT ?_
    cases dd with
    | i kk n => exact det2_ifT (hf _ _)
    | _ => exact Det2.fail
   | _ => exact Det2.fail
 | _ => exact Det2.fail
theorem doG_det (kt nt : Nat) (dd x : AV) (h : Hp) : Det2 (doG kt nt dd x h) := by
 cases dd with
 | p q o =>
  show Det2 fun (k : AV → Hp → Bool) => (HT.getR q h.t).on fun _ _ v => (v.get 0).on_m fun qm => (HT.getR qm h.t).onY fun oy => oy.on_dm fun ty q0 us => ifT (Nat.beq ty.1 kt) (ifT (Nat.beq ty.2.1 nt) (ifT (Nat.blt ty.2.2 50) (onPut x fun bs n => HT.setK (.y (.dm (ty.1, ty.2.1, Nat.succ ty.2.2) q0 (us ++ [(bs, n)]))) qm h.t fun t' => k (.i .i64 9223372036854775808) (.mk t' h.nx))))
  cases HT.getR q h.t with
  | bk _ _ v =>
   show Det2 fun (k : AV → Hp → Bool) => (v.get 0).on_m fun qm => (HT.getR qm h.t).onY fun oy => oy.on_dm fun ty q0 us => ifT (Nat.beq ty.1 kt) (ifT (Nat.beq ty.2.1 nt) (ifT (Nat.blt ty.2.2 50) (onPut x fun bs n => HT.setK (.y (.dm (ty.1, ty.2.1, Nat.succ ty.2.2) q0 (us ++ [(bs, n)]))) qm h.t fun t' => k (.i .i64 9223372036854775808) (.mk t' h.nx))))
   cases v.get 0 with
   | m qm =>
    show Det2 fun (k : AV → Hp → Bool) => (HT.getR qm h.t).onY fun oy => oy.on_dm fun ty q0 us => ifT (Nat.beq ty.1 kt) (ifT (Nat.beq ty.2.1 nt) (ifT (Nat.blt ty.2.2 50) (onPut x fun bs n => HT.setK (.y (.dm (ty.1, ty.2.1, Nat.succ ty.2.2) q0 (us ++ [(bs, n)]))) qm h.t fun t' => k (.i .i64 9223372036854775808) (.mk t' h.nx))))
    cases HT.getR qm h.t with
    | y oy =>
     cases oy with
     | dm ty q0 us =>
      exact det2_ifT (det2_ifT (det2_ifT (onPut_det (f := fun bs n (k : AV → Hp → Bool) => HT.setK (.y (.dm (ty.1, ty.2.1, Nat.succ ty.2.2) q0 (us ++ [(bs, n)]))) qm h.t fun t' => k (.i .i64 9223372036854775808) (.mk t' h.nx)) fun _ _ => Det2.setK _ _ _ (g := fun t' (k : AV → Hp → Bool) => k (.i .i64 9223372036854775808) (.mk t' h.nx)) fun _ => Det2.ret _ _)))
     | _ => exact Det2.fail
    | _ => exact Det2.fail
   | _ => exact Det2.fail
  | _ => exact Det2.fail
 | _ => exact Det2.fail
theorem arm2b_det {g : AV → AV → Hp → (AV → Hp → Bool) → Bool} {c : AV → AV → Hp → Bool} {o : FS} (hg : ∀ dd s h, Det2 (g dd s h)) (ho : ∀ args h, Det2 (o args h)) (args : List AV) (h : Hp) :
  Det2 (fun k => capp 2 (fun dd s h => Bool.casesOn (motive := fun _ => Bool) (c dd s h) (o [dd, s] h k) (g dd s h k)) args h) := by
 match args with
 | [] => exact Det2.fail
 | [_] => exact Det2.fail
 | _ :: _ :: _ :: _ => exact Det2.fail
 | [dd, s] =>
  show Det2 fun k => Bool.casesOn (motive := fun _ => Bool) (c dd s h) (o [dd, s] h k) (g dd s h k)
  cases c dd s h with
  | false => exact ho _ _
  | true => exact hg _ _ _
theorem Emb.setDm {w w' : World} (E : Emb P ρ h w B) {q : Q} (hq : h.live q) {ty : Nat × Nat × Nat} {q0 : Q} {us : List (List Nat × Nat)} (h0 : 0 < h.nx.num) (hk : w.heap.size ≤ w'.heap.size) (hot : ∀ c, c < w.heap.size → c ≠ (ρ q).blk → w'.heap[c]? = w.heap[c]?) (hos : w'.os = w.os) (htape : w'.tape = w.tape) (hout : w'.output = w.output)
  (hd : DmAt P w' (ρ q).blk ty (dmC ρ q0 us)) : Emb P ρ (.mk (h.t.set (.y (.dm ty q0 us)) q) h.nx) w' B ∧ Step ρ h w ρ (.mk (h.t.set (.y (.dm ty q0 us)) q) h.nx) w' := by
 have hlive : ∀ r, (Hp.mk (h.t.set (.y (.dm ty q0 us)) q) h.nx).live r ↔ h.live r := fun r => by
  by_cases e : r = q
  ·subst e; rw [Hp.live_mk, HT.get_set_same]; exact ⟨fun _ => hq, fun _ => by simp⟩
  ·rw [Hp.live_mk, HT.get_set_ne _ _ _ _ e]; exact Iff.rfl
 have hkeep : ∀ r, h.live r → r ≠ q → w'.heap[(ρ r).blk]? = w.heap[(ρ r).blk]? := fun r hr e => hot _ (E.blk_lt' hr) (fun e2 => e (E.inj _ _ hr hq e2))
 have old : ∀ r x, r ≠ q → (h.t.set (.y (.dm ty q0 us)) q).get r = x → h.t.get r = x := fun r x e hg => by rw [HT.get_set_ne _ _ _ _ e] at hg; exact hg
 have same : ∀ x, (h.t.set (.y (.dm ty q0 us)) q).get q = x → x = .y (.dm ty q0 us) := fun x hg => by rw [HT.get_set_same] at hg; exact hg.symm
 refine ⟨⟨Nat.le_trans E.base hk, fun r hr => E.lt r ((hlive r).1 hr), fun r hr => E.ge r ((hlive r).1 hr), fun r s hr hs e => E.inj r s ((hlive r).1 hr) ((hlive s).1 hs) e, fun r ty n v hg => ?_, fun r es hg => ?_, fun r o l hg => ?_, fun r i hg => ?_, fun r ty hg => ?_, fun r ty' q1 us' hg => ?_, E.tab.mono fun c hc => hot c (by have := E.base; omega) (by have := E.ge q hq; omega)⟩,
  ⟨fun _ _ => rfl, Nat.le_refl _, hk, fun c hc hn => hot c hc (fun e => hn q hq e.symm), fun r hr => .inl ⟨r, (hlive r).1 hr, rfl⟩, hos, htape, hout⟩⟩
 ·by_cases e : r = q
  ·subst e; cases same _ hg
  ·have hg := old r _ e hg
   exact (E.row r ty n v hg).mono (fun _ _ => rfl) (Nat.le_refl _) (hkeep r (by rw [Hp.live, hg]; simp) e)
 ·by_cases e : r = q
  ·subst e; cases same _ hg
  ·have hg := old r _ e hg
   exact (E.map r es hg).mono (fun _ _ => rfl) (Nat.le_refl _) (hkeep r (by rw [Hp.live, hg]; simp) e)
 ·by_cases e : r = q
  ·subst e; cases same _ hg
  ·have hg := old r _ e hg
   exact (E.si r o l hg).mono (hkeep r (by rw [Hp.live, hg]; simp) e)
 ·by_cases e : r = q
  ·subst e; cases same _ hg
  ·have hg := old r _ e hg
   exact ⟨(E.op r i hg).1, (E.op r i hg).2.mono (fun _ _ => rfl) (E.op r i hg).1 (hkeep r (by rw [Hp.live, hg]; simp) e)⟩
 ·by_cases e : r = q
  ·subst e; cases same _ hg
  ·have hg := old r _ e hg
   exact (E.soup r ty hg).mono (hkeep r (by rw [Hp.live, hg]; simp) e)
 ·by_cases e : r = q
  ·subst e
   cases same _ hg
   exact ⟨h0, hd⟩
  ·have hg := old r _ e hg
   exact ⟨(E.dm r ty' q1 us' hg).1, (E.dm r ty' q1 us' hg).2.mono (hkeep r (by rw [Hp.live, hg]; simp) e)⟩
end
end Go.Proofs.YtpchmdddkpocgaaGreatDoor
