/-
  No claim by itself: the evaluator: drawn regions, the plain part: what stands before what, what the chosen order handed on. | the evaluator: drawn regions: what is known of each operation at each heap at which it may stand. | the evaluator: drawn regions: environments of what is done; new blocks that are named late. | the evaluator: a block that was laid before gets its name. | the evaluator: drawn regions: what is done at any time. | the evaluator: drawn regions: an operation that leaves the heap alone, at any time. No condition.
-/
import Derived.Test.YtpchmdddkpocgaaGreatDoorP8
namespace Go.Proofs.YtpchmdddkpocgaaGreatDoor
set_option linter.unusedVariables false
set_option linter.unusedSimpArgs false
theorem or_testBit (a b i : Nat) : Nat.testBit (Nat.lor a b) i = (Nat.testBit a i || Nat.testBit b i) := Nat.testBit_or a b i
theorem msk1_spec (acc : List Nat) (i : Nat) : ∀ (l : List Nat) (s : Nat), Nat.testBit (List.foldl (fun s i => Nat.lor (Nat.lor s (Nat.pow 2 i)) (acc.getD i 0)) s l) i = true → Nat.testBit s i = true ∨ ∃ e ∈ l, e = i ∨ Nat.testBit (acc.getD e 0) i = true
 | [], s, h => .inl h
 | e :: l, s, h => by
  rw [List.foldl_cons] at h
  rcases msk1_spec acc i l _ h with h1 | ⟨e', h1, h2⟩
  ·rw [or_testBit, or_testBit] at h1
   simp only [Bool.or_eq_true] at h1
   rcases h1 with (h1 | h1) | h1
   ·exact .inl h1
   ·right
    refine ⟨e, by simp, .inl ?_⟩
    have : Nat.testBit (2 ^ e) i = true := h1
    rw [Nat.testBit_two_pow] at this
    simpa using this
   ·exact .inr ⟨e, by simp, .inr h1⟩
  ·exact .inr ⟨e', List.mem_cons_of_mem _ h1, h2⟩
theorem mskL_prefix : ∀ (l : List Oper) (acc : List Nat) (i : Nat), i < acc.length → (mskL l acc).getD i 0 = acc.getD i 0
 | [], _, _, _ => rfl
 | o :: l, acc, i, h => by
  rw [mskL, mskL_prefix l _ i (by simp; omega), List.getD_eq_getElem?_getD, List.getElem?_append_left h, ← List.getD_eq_getElem?_getD]
theorem mskL_at : ∀ (l : List Oper) (acc : List Nat) (j : Nat) (o : Oper), l[j]? = some o → ∃ acc', (mskL l acc).getD (acc.length + j) 0 = msk1 acc' (dpr o) ∧ acc'.length = acc.length + j ∧ ∀ i, i < acc'.length → (mskL l acc).getD i 0 = acc'.getD i 0
 | [], acc, j, o, h => by simp at h
 | x :: l, acc, 0, o, h => by
  have h : x = o := by simpa using h
  subst h
  refine ⟨acc, ?_, rfl, fun i hi => ?_⟩
  ·rw [mskL, mskL_prefix l _ _ (by simp)]
   simp [List.getD_eq_getElem?_getD]
  ·exact mskL_prefix _ _ _ hi
 | x :: l, acc, j + 1, o, h => by
  obtain ⟨acc', h1, h2, h3⟩ := mskL_at l (acc ++ [msk1 acc (dpr x)]) j o (by simpa using h)
  rw [List.length_append, List.length_singleton] at h1 h2
  exact ⟨acc', by rw [mskL, ← h1]; congr 1; omega, by omega, fun i hi => by rw [mskL]; exact h3 i hi⟩
def Closed (all : List Oper) (S : Nat → Prop) : Prop := ∀ j o, all[j]? = some o → S j → ∀ e ∈ dpr o, S e
theorem bfr_closed {all : List Oper} {S : Nat → Prop} (hS : Closed all S) : ∀ (j : Nat) (o : Oper), all[j]? = some o → (∀ e ∈ dpr o, S e) → ∀ i, bfr (mskL all []) j i = true → S i := by
 intro j
 induction j using Nat.strongRecOn with
 | _ j ih =>
  intro o ho hpre i hi
  obtain ⟨acc', h1, h2, h3⟩ := mskL_at all [] j o ho
  simp only [List.length_nil, Nat.zero_add] at h1 h2
  unfold bfr at hi
  rw [h1] at hi
  rcases msk1_spec acc' i (dpr o) 0 hi with hz | ⟨e, he, h4⟩
  ·simp at hz
  ·rcases h4 with rfl | h4
   ·exact hpre _ he
   ·have hej : e < j := by
     rcases Nat.lt_or_ge e j with h | h
     ·exact h
     ·rw [List.getD_eq_getElem?_getD, List.getElem?_eq_none (by omega)] at h4
      simp at h4
    have hae : ∃ oe, all[e]? = some oe := by
     have : j < all.length := (List.getElem?_eq_some_iff.1 ho).1
     exact ⟨all[e]'(by omega), List.getElem?_eq_getElem _⟩
    obtain ⟨oe, hoe⟩ := hae
    refine ih e hej oe hoe (fun e' he' => hS e oe hoe (hpre e he) e' he') i ?_
    unfold bfr
    rw [h3 e (by omega)]
    exact h4
theorem memN_spec {l : List Nat} {i : Nat} : memN l i = true ↔ i ∈ l := by
 unfold memN
 rw [List.any_eq_true]
 exact ⟨fun ⟨x, hx, he⟩ => by rw [Nat.eq_of_beq_eq_true he]; exact hx, fun h => ⟨i, h, Nat.beq_refl i⟩⟩
theorem linOk_split {all : List Oper} : ∀ {l pre : List Nat}, linOk all pre l = true → ∀ {p q : List Nat} {j : Nat}, l = p ++ j :: q → ∃ o, all[j]? = some o ∧ (∀ e ∈ dpr o, e ∈ pre ∨ e ∈ p) ∧ j ∉ pre ∧ j ∉ p
 | [], _, _, p, q, j, e => by cases p <;> cases e
 | x :: l, pre, h, p, q, j, e => by
  unfold linOk at h
  split at h
  ·rename_i o ho
   simp only [Bool.and_eq_true] at h
   obtain ⟨⟨h1, h2⟩, h3⟩ := h
   cases p with
   | nil =>
    cases e
    refine ⟨o, ho, fun e he => .inl (memN_spec.1 (List.all_eq_true.1 h1 e he)), fun hm => ?_, by simp⟩
    rw [memN_spec.2 hm] at h2
    cases h2
   | cons y p =>
    cases e
    obtain ⟨o', g1, g2, g3, g4⟩ := linOk_split h3 (p := p) (q := q) (j := j) rfl
    refine ⟨o', g1, fun e he => ?_, fun hm => g3 (List.mem_cons_of_mem _ hm), fun hm => ?_⟩
    ·rcases g2 e he with hh | hh
     ·rcases List.mem_cons.1 hh with rfl | hh
      ·exact .inr (by simp)
      ·exact .inl hh
     ·exact .inr (List.mem_cons_of_mem _ hh)
    ·rcases List.mem_cons.1 hm with rfl | hm
     ·exact g3 (by simp)
     ·exact g4 hm
  ·cases h
theorem linOk_closed {all : List Oper} {ord : List Nat} (h : linOk all [] ord = true) {p q : List Nat} (e : ord = p ++ q) : Closed all (· ∈ p) := by
 intro j o ho hj e' he'
 obtain ⟨p1, p2, rfl⟩ := List.append_of_mem hj
 obtain ⟨o', g1, g2, _, _⟩ := linOk_split h (p := p1) (q := p2 ++ q) (j := j) (by rw [e]; simp)
 rw [ho] at g1
 cases g1
 rcases g2 e' he' with hh | hh
 ·cases hh
 ·exact List.mem_append_left _ hh
theorem linOk_before {all : List Oper} {ord : List Nat} (h : linOk all [] ord = true) {p q : List Nat} {j : Nat} (e : ord = p ++ j :: q) {i : Nat} (hb : bfr (mskL all []) j i = true) : i ∈ p := by
 obtain ⟨o, g1, g2, _, _⟩ := linOk_split h e
 exact bfr_closed (linOk_closed h e) j o g1 (fun e he => (g2 e he).resolve_left (by simp)) i hb
theorem linOk_nodup {all : List Oper} {ord : List Nat} (h : linOk all [] ord = true) {p q : List Nat} {j : Nat} (e : ord = p ++ j :: q) : j ∉ p ∧ j ∉ q := by
 refine ⟨(linOk_split h e).choose_spec.2.2.2, fun hm => ?_⟩
 obtain ⟨q1, q2, rfl⟩ := List.append_of_mem hm
 obtain ⟨_, _, _, _, g⟩ := linOk_split h (p := p ++ j :: q1) (q := q2) (j := j) (by rw [e]; simp)
 exact g (by simp)
section
variable {P : Program} {T : Tbl} {M : List (Nat × Nat)}
inductive Chain (P : Program) (T : Tbl) (M : List (Nat × Nat)) (all : List Oper) : Nat → List Nat → List AV → Hp → List (Nat × Nat × List AV × AV) → List Hp → List AV → Hp → Prop
 | nil (c : Nat) (env : List AV) (h : Hp) : Chain P T M all c [] env h [] [] env h
 | heavy (c i : Nat) (o : Oper) (ord : List Nat) (env : List AV) (h : Hp) (y : AV) (h' : Hp) (acc : List (Nat × Nat × List AV × AV)) (hs : List Hp) (envE : List AV) (hE : Hp) (ho : all[i]? = some o) (hv : isHeavy P o.op = true) (hk : ∀ k, gopD P T M all o env h k = k y h')
   (t : Chain P T M all (c + 1) ord (setP o.dst y env) h' acc hs envE hE) : Chain P T M all c (i :: ord) env h ((i, c, env, y) :: acc) (h' :: hs) envE hE
 | light (c i : Nat) (o : Oper) (ord : List Nat) (env : List AV) (h : Hp) (y : AV) (acc : List (Nat × Nat × List AV × AV)) (hs : List Hp) (envE : List AV) (hE : Hp) (ho : all[i]? = some o) (hv : isHeavy P o.op = false) (hk : ∀ k, gopD P T M all o env h k = k y h)
   (t : Chain P T M all c ord (setP o.dst y env) h acc hs envE hE) : Chain P T M all c (i :: ord) env h ((i, c, env, y) :: acc) hs envE hE
theorem light_val {all : List Oper} {o : Oper} {env : List AV} {h : Hp} (hv : isHeavy P o.op = false) {k : AV → Hp → Bool} (hk : gopD P T M all o env h k = true) : ∃ y, (∀ k, gopD P T M all o env h k = k y h) ∧ k y h = true := by
 have hop : ∀ f : Operand → AV, ∀ k, opD P T M o.op f h k = lightD P o.op f h fun y => k y h := fun f k => by simp only [opD, hv]
 have hl : ∀ f : Operand → AV, Det (fun k => lightD P o.op f h k) := fun f => lightD_det P o.op f h
 have key : ∀ {r : (AV → Hp → Bool) → Bool}, (∃ v : Option AV, ∀ k, r k = v.elim false fun y => k y h) → r k = true → ∃ y, (∀ k, r k = k y h) ∧ k y h = true := fun {r} ⟨v, hv⟩ hr => by
  cases v with
  | none => rw [hv] at hr; cases hr
  | some y => exact ⟨y, hv, (hv k).symm.trans hr⟩
 refine key ?_ hk
 simp only [gopD, hop]
 rcases o.guard with _ | ⟨j, want⟩
 ·obtain ⟨v, hv⟩ := hl (evA env)
  exact ⟨v, fun k => hv fun y => k y h⟩
 ·dsimp only
  cases (all[j]?).bind (·.dst) with
  | none => exact ⟨none, fun _ => rfl⟩
  | some d =>
   obtain ⟨v, hv⟩ := hl (evA env)
   dsimp only
   generalize env.getD d .d = x
   cases x <;> first | exact ⟨none, fun _ => rfl⟩ | exact ⟨some (.t []), fun _ => rfl⟩ | skip
   case b y =>
    show ∃ w : Option AV, ∀ k : AV → Hp → Bool, (Bool.casesOn (motive := fun _ => Bool) (sameB y want) (k (.t []) h) (lightD P o.op (evA env) h fun y => k y h)) = w.elim false fun y => k y h
    cases sameB y want with
    | false => exact ⟨some (.t []), fun _ => rfl⟩
    | true => exact ⟨v, fun k => hv fun y => k y h⟩
theorem runG_chain (hT : SoundT P T) {all : List Oper} : ∀ (ord : List Nat) {acc : List (Nat × Nat × List AV × AV)} {hs : List Hp} {env : List AV} {h : Hp} {k : List (Nat × Nat × List AV × AV) → List Hp → List AV → Hp → Bool}, runG P T M all ord acc hs env h k = true →
  ∃ acc' hs' envE hE, Chain P T M all hs.length ord env h acc' hs' envE hE ∧ k (acc ++ acc') (hs ++ hs') envE hE = true
 | [], acc, hs, env, h, k, hk => ⟨[], [], env, h, .nil _ _ _, by simpa using hk⟩
 | i :: ord, acc, hs, env, h, k, hk => by
  have hk : (match all[i]? with
   | some o => gopD P T M all o env h fun y h' => setO o.dst y env fun env' => runG P T M all ord (acc ++ [(i, hs.length, env, y)]) (match isHeavy P o.op with
    | true => hs ++ [h']
    | false => hs) env' h' k
   | none => false) = true := hk
  cases ho : all[i]? with
  | none => rw [ho] at hk; cases hk
  | some o =>
   rw [ho] at hk
   dsimp only at hk
   cases hv : isHeavy P o.op with
   | true =>
    rw [hv] at hk
    obtain ⟨y, h', g1, g2⟩ := Det2.val (gopD_det hT M all o env h) hk
    dsimp only at g2
    rw [setO_eq] at g2
    obtain ⟨acc', hs', envE, hE, c, hk'⟩ := runG_chain hT ord g2
    rw [List.length_append, List.length_singleton] at c
    exact ⟨_, _, envE, hE, .heavy _ i o ord env h y h' acc' hs' envE hE ho hv g1 c, by simpa using hk'⟩
   | false =>
    rw [hv] at hk
    obtain ⟨y, g1, g2⟩ := light_val hv hk
    dsimp only at g2
    rw [setO_eq] at g2
    obtain ⟨acc', hs', envE, hE, c, hk'⟩ := runG_chain hT ord g2
    exact ⟨_, _, envE, hE, .light _ i o ord env h y acc' hs' envE hE ho hv g1 c, by simpa using hk'⟩
end
section
variable {P : Program} {T : Tbl} {M : List (Nat × Nat)}
def dstOE (all : List Oper) (i : Nat) : Option Nat := (all[i]?).bind (·.dst)
def repP (all : List Oper) (acc : List (Nat × Nat × List AV × AV)) (env : List AV) : List AV := acc.foldl (fun e r => setP (dstOE all r.1) r.2.2.2 e) env
theorem hvL_cons_heavy {all : List Oper} {i : Nat} {o : Oper} {l : List Nat} (ho : all[i]? = some o) (hv : isHeavy P o.op = true) : hvL P all (i :: l) = i :: hvL P all l := by
 unfold hvL
 rw [List.filter_cons, ho]
 simp [hv]
theorem hvL_cons_light {all : List Oper} {i : Nat} {o : Oper} {l : List Nat} (ho : all[i]? = some o) (hv : isHeavy P o.op = false) : hvL P all (i :: l) = hvL P all l := by
 unfold hvL
 rw [List.filter_cons, ho]
 simp [hv]
def AtR (P : Program) (T : Tbl) (M : List (Nat × Nat)) (all : List Oper) (c0 : Nat) (env : List AV) (HH : List Hp) (p : List (Nat × Nat × List AV × AV)) (r : Nat × Nat × List AV × AV) : Prop :=
 ∃ o H, all[r.1]? = some o ∧ r.2.2.1 = repP all p env ∧ r.2.1 = c0 + (hvL P all (p.map (·.1))).length ∧ HH[(hvL P all (p.map (·.1))).length]? = some H ∧
  ((isHeavy P o.op = true ∧ ∃ H', HH[(hvL P all (p.map (·.1))).length + 1]? = some H' ∧ ∀ k, gopD P T M all o r.2.2.1 H k = k r.2.2.2 H') ∨ (isHeavy P o.op = false ∧ ∀ k, gopD P T M all o r.2.2.1 H k = k r.2.2.2 H))
theorem Chain.facts {all : List Oper} {c0 : Nat} {ord : List Nat} {env : List AV} {h : Hp} {acc : List (Nat × Nat × List AV × AV)} {hs : List Hp} {envE : List AV} {hE : Hp} (c : Chain P T M all c0 ord env h acc hs envE hE) :
  acc.map (·.1) = ord ∧ hs.length = (hvL P all ord).length ∧ envE = repP all acc env ∧ (h :: hs)[hs.length]? = some hE ∧ ∀ p r q, acc = p ++ r :: q → AtR P T M all c0 env (h :: hs) p r := by
 induction c with
 | nil c env h => exact ⟨rfl, rfl, rfl, rfl, fun p r q e => by cases p <;> cases e⟩
 | heavy c i o ord env h y h' acc hs envE hE ho hv hk t ih =>
  obtain ⟨g1, g2, g3, g4, g5⟩ := ih
  have hd : dstOE all i = o.dst := by simp [dstOE, ho]
  refine ⟨by simp [g1], by rw [hvL_cons_heavy ho hv]; simp [g2], by rw [g3]; simp [repP, hd], by simpa using g4, fun p r q e => ?_⟩
  cases p with
  | nil =>
   cases e
   exact ⟨o, h, ho, rfl, by simp [hvL], rfl, .inl ⟨hv, h', rfl, hk⟩⟩
  | cons r0 p =>
   cases e
   obtain ⟨o', H, a1, a2, a3, a4, a5⟩ := g5 p r q rfl
   have hl : (hvL P all ((i, c, env, y) :: p |>.map (·.1))).length = (hvL P all (p.map (·.1))).length + 1 := by
    rw [List.map_cons, hvL_cons_heavy ho hv, List.length_cons]
   refine ⟨o', H, a1, by rw [a2]; simp [repP, hd], by rw [hl]; omega, by rw [hl]; exact a4, ?_⟩
   rw [hl]
   exact a5
 | light c i o ord env h y acc hs envE hE ho hv hk t ih =>
  obtain ⟨g1, g2, g3, g4, g5⟩ := ih
  have hd : dstOE all i = o.dst := by simp [dstOE, ho]
  refine ⟨by simp [g1], by rw [hvL_cons_light ho hv]; exact g2, by rw [g3]; simp [repP, hd], g4, fun p r q e => ?_⟩
  cases p with
  | nil =>
   cases e
   exact ⟨o, h, ho, rfl, by simp [hvL], rfl, .inr ⟨hv, hk⟩⟩
  | cons r0 p =>
   cases e
   obtain ⟨o', H, a1, a2, a3, a4, a5⟩ := g5 p r q rfl
   have hl : (hvL P all ((i, c, env, y) :: p |>.map (·.1))).length = (hvL P all (p.map (·.1))).length := by
    rw [List.map_cons, hvL_cons_light ho hv]
   refine ⟨o', H, a1, by rw [a2]; simp [repP, hd], by rw [hl]; omega, by rw [hl]; exact a4, ?_⟩
   rw [hl]
   exact a5
theorem read_light {op : Op} (hr : isRead P op = true) : isHeavy P op = false := by
 cases op <;> first | rfl | (cases hr; done) | skip
 case convert s t x =>
  show (isStr P s && (sliceOf P t).isSome) = false
  have hr : (sliceOf P s).isSome = true := hr
  unfold sliceOf at hr
  split at hr
  ·rename_i e he
   simp [isStr, he]
  ·cases hr
 case call c =>
  obtain ⟨callee, args, ts⟩ := c
  cases callee with
  | builtin b => cases b <;> first | rfl | cases hr
  | value v => cases hr
  | invoke r n => cases hr
theorem lightD_pure {op : Op} (hr : isRead P op = false) (f : Operand → AV) (h h' : Hp) (k : AV → Bool) : lightD P op f h k = lightD P op f h' k := by
 cases op <;> first | rfl | (cases hr; done) | skip
 case makeFunc fn a b => cases fn <;> rfl
 case convert s t x =>
  have hr : (sliceOf P s).isSome = false := hr
  have hns : ∀ e, P.underlying s ≠ some (.slice e) := fun e he => by simp [sliceOf, he] at hr
  simp only [lightD, cnvD]
  split
  ·rfl
  ·rfl
  ·rename_i e h1 h2; exact (hns e h1).elim
  ·rfl
 case call c =>
  obtain ⟨callee, args, ts⟩ := c
  cases callee with
  | builtin b =>
   cases b <;> first | rfl | skip
   case min => simp only [lightD, bltD]; generalize args.toList.map f = asL; cases asL <;> rfl
   case max => simp only [lightD, bltD]; generalize args.toList.map f = asL; cases asL <;> rfl
   case len =>
    simp only [lightD, bltD]
    have hr : (match ts.toList with
     | [t] => (mapOf P t).isSome
     | _ => true) = false := hr
    generalize ts.toList = l at hr ⊢
    generalize args.toList.map f = asL
    rcases l with _ | ⟨t, _ | ⟨u, l⟩⟩
    ·rfl
    ·rcases asL with _ | ⟨x, _ | ⟨y, asL⟩⟩
     ·rfl
     ·have hr : (mapOf P t).isSome = false := hr
      dsimp only
      split
      ·rfl
      ·rfl
      ·rename_i kt et ht; simp [mapOf, ht] at hr
      ·rfl
     ·rfl
    ·rfl
  | value v => rfl
  | invoke r n => rfl
theorem gopD_pure {all : List Oper} {o : Oper} (hv : isHeavy P o.op = false) (hr : isRead P o.op = false) {env : List AV} {h h' : Hp} {y : AV} (hk : ∀ k, gopD P T M all o env h k = k y h) : ∀ k, gopD P T M all o env h' k = k y h' := by
 intro k
 have hop : ∀ (h : Hp) k, opD P T M o.op (evA env) h k = lightD P o.op (evA env) h fun y => k y h := fun h k => by simp only [opD, hv]
 have hk' := hk fun y _ => k y h'
 rw [← hk']
 simp only [gopD, hop]
 rcases o.guard with _ | ⟨j, want⟩
 ·exact lightD_pure hr _ _ _ _
 ·dsimp only
  cases (all[j]?).bind (·.dst) with
  | none => rfl
  | some d =>
   dsimp only
   generalize env.getD d .d = x
   cases x <;> first | rfl | skip
   case b y =>
    show (Bool.casesOn (motive := fun _ => Bool) (sameB y want) (k (.t []) h') (lightD P o.op (evA env) h' fun y => k y h')) = (Bool.casesOn (motive := fun _ => Bool) (sameB y want) (k (.t []) h') (lightD P o.op (evA env) h fun y => k y h'))
    rw [lightD_pure hr _ h h']
theorem rck1_spec {all : List Oper} {pm hv : List Nat} {r : Nat × Nat × List AV × AV} {o : Oper} (ho : isHeavy P o.op = false) : ∀ {hs : List Hp} {c : Nat} {b : Bool}, rck1 P T M all pm hv r o hs c b = true → b = true ∧ ∀ i H, hs[i]? = some H → mayAt pm hv r.1 (c + i) = true → c + i + 1 ≠ r.2.1 → ∀ k, gopD P T M all o r.2.2.1 H k = k r.2.2.2 H
 | [], c, b, hk => ⟨hk, fun i H h => by simp at h⟩
 | h :: hs, c, b, hk => by
  have hk : (match mayAt pm hv r.1 c && !(Nat.beq (Nat.succ c) r.2.1) with
   | true => gopD P T M all o r.2.2.1 h fun y _ => ifT (avEq y r.2.2.2) (rck1 P T M all pm hv r o hs (Nat.succ c) b)
   | false => rck1 P T M all pm hv r o hs (Nat.succ c) b) = true := hk
  cases hc : mayAt pm hv r.1 c && !(Nat.beq (Nat.succ c) r.2.1) with
  | true =>
   rw [hc] at hk
   obtain ⟨y, g1, g2⟩ := light_val ho hk
   obtain ⟨g3, g4⟩ := ifT_spec g2
   have := avEq_eq g3
   subst this
   obtain ⟨hb, ih⟩ := rck1_spec ho g4
   refine ⟨hb, fun i H hi hm hne => ?_⟩
   cases i with
   | zero =>
    have : h = H := by simpa using hi
    subst this
    exact g1
   | succ i => exact ih i H (by simpa using hi) (by rw [← hm]; congr 1; omega) (by omega)
  | false =>
   rw [hc] at hk
   obtain ⟨hb, ih⟩ := rck1_spec ho hk
   refine ⟨hb, fun i H hi hm hne => ?_⟩
   cases i with
   | zero =>
    rw [Nat.add_zero] at hm hne
    rw [hm] at hc
    have : Nat.beq (Nat.succ c) r.2.1 = true := by simpa using hc
    exact (hne (Nat.eq_of_beq_eq_true this)).elim
   | succ i => exact ih i H (by simpa using hi) (by rw [← hm]; congr 1; omega) (by omega)
theorem rckL_spec {all : List Oper} {pm hv : List Nat} {hs : List Hp} : ∀ {acc : List (Nat × Nat × List AV × AV)} {b : Bool}, rckL P T M all pm hv hs acc b = true → b = true ∧ ∀ r ∈ acc, ∀ o, all[r.1]? = some o → isRead P o.op = true → ∀ i H, hs[i]? = some H → mayAt pm hv r.1 i = true → i + 1 ≠ r.2.1 → ∀ k, gopD P T M all o r.2.2.1 H k = k r.2.2.2 H
 | [], b, hk => ⟨hk, fun r hr => by cases hr⟩
 | r :: acc, b, hk => by
  have hk : (match all[r.1]? with
   | some o => match isRead P o.op with
    | true => rck1 P T M all pm hv r o hs 0 (rckL P T M all pm hv hs acc b)
    | false => rckL P T M all pm hv hs acc b
   | none => false) = true := hk
  cases ho : all[r.1]? with
  | none => rw [ho] at hk; cases hk
  | some o =>
   rw [ho] at hk
   dsimp only at hk
   cases hr : isRead P o.op with
   | true =>
    rw [hr] at hk
    obtain ⟨h1, h2⟩ := rck1_spec (read_light hr) hk
    obtain ⟨hb, ih⟩ := rckL_spec h1
    refine ⟨hb, fun r' hr' o' ho' hrd i H hi hm hne => ?_⟩
    rcases List.mem_cons.1 hr' with rfl | hr'
    ·rw [ho] at ho'
     cases ho'
     exact h2 i H hi (by rw [Nat.zero_add]; exact hm) (by omega)
    ·exact ih r' hr' o' ho' hrd i H hi hm hne
   | false =>
    rw [hr] at hk
    obtain ⟨hb, ih⟩ := rckL_spec hk
    refine ⟨hb, fun r' hr' o' ho' hrd i H hi hm hne => ?_⟩
    rcases List.mem_cons.1 hr' with rfl | hr'
    ·rw [ho] at ho'
     cases ho'
     rw [hr] at hrd
     cases hrd
    ·exact ih r' hr' o' ho' hrd i H hi hm hne
end
abbrev Rw := Nat × Nat × List AV × AV
def repF (all : List Oper) (f : Rw → Option AV) (acc : List Rw) (env : List AV) : List AV := acc.foldl (fun e r => match f r with
 | some v => setP (dstOE all r.1) v e
 | none => e) env
theorem repF_cons (all : List Oper) (f : Rw → Option AV) (r : Rw) (acc : List Rw) (env : List AV) : repF all f (r :: acc) env = repF all f acc (match f r with
 | some v => setP (dstOE all r.1) v env
 | none => env) := rfl
theorem repF_append (all : List Oper) (f : Rw → Option AV) (p q : List Rw) (env : List AV) : repF all f (p ++ q) env = repF all f q (repF all f p env) := List.foldl_append ..
theorem setP_get {d : Option Nat} {x : AV} {e : List AV} {t : Nat} (h : d ≠ some t) : (setP d x e).getD t .d = e.getD t .d := by
 cases d with
 | none => rfl
 | some d =>
  have hne : d ≠ t := fun e => h (by rw [e])
  simp [setP, List.getD_eq_getElem?_getD, List.getElem?_set_ne hne]
theorem setP_get_same {x : AV} {e e' : List AV} {t : Nat} (hl : e.length = e'.length) : (setP (some t) x e).getD t .d = (setP (some t) x e').getD t .d := by
 simp only [setP, List.getD_eq_getElem?_getD]
 by_cases h : t < e.length
 ·simp [h, hl ▸ h]
 ·have h' : ¬ t < e'.length := hl ▸ h
  rw [List.set_eq_of_length_le (Nat.le_of_not_lt h), List.set_eq_of_length_le (Nat.le_of_not_lt h'), List.getElem?_eq_none (by omega), List.getElem?_eq_none (by omega)]
theorem repF_length (all : List Oper) (f : Rw → Option AV) : ∀ (acc : List Rw) (env : List AV), (repF all f acc env).length = env.length
 | [], _ => rfl
 | r :: acc, env => by
  rw [repF_cons, repF_length all f acc]
  cases f r with
  | none => rfl
  | some v => exact setP_length _ _ _
theorem repF_skip {all : List Oper} {f : Rw → Option AV} {t : Nat} : ∀ {acc : List Rw} {env : List AV}, (∀ r ∈ acc, dstOE all r.1 = some t → f r = none) → (repF all f acc env).getD t .d = env.getD t .d
 | [], _, _ => rfl
 | r :: acc, env, h => by
  rw [repF_cons, repF_skip fun r' hr' => h r' (List.mem_cons_of_mem _ hr')]
  cases hf : f r with
  | none => rfl
  | some v =>
   refine setP_get fun hd => ?_
   rw [h r (by simp) hd] at hf
   cases hf
theorem repP_cons (all : List Oper) (r : Rw) (acc : List Rw) (env : List AV) : repP all (r :: acc) env = repP all acc (setP (dstOE all r.1) r.2.2.2 env) := rfl
theorem repF_agree {all : List Oper} {f : Rw → Option AV} {t : Nat} : ∀ {acc : List Rw} {env env' : List AV}, (∀ r ∈ acc, dstOE all r.1 = some t → f r = some r.2.2.2) → env.length = env'.length → env.getD t .d = env'.getD t .d → (repF all f acc env).getD t .d = (repP all acc env').getD t .d
 | [], _, _, _, _, he => he
 | r :: acc, env, env', h, hl, he => by
  rw [repF_cons, repP_cons]
  refine repF_agree (fun r' hr' => h r' (List.mem_cons_of_mem _ hr')) ?_ ?_
  ·rw [setP_length]
   cases f r with
   | none => exact hl
   | some v => exact (setP_length _ _ _).trans hl
  ·by_cases hd : dstOE all r.1 = some t
   ·rw [h r (by simp) hd]
    dsimp only
    rw [hd]
    exact setP_get_same hl
   ·rw [setP_get hd]
    cases f r with
    | none => exact he
    | some v => exact (setP_get hd).trans he
theorem setP_comm {d d' : Option Nat} (x y : AV) (e : List AV) (h : d = none ∨ d ≠ d') : setP d x (setP d' y e) = setP d' y (setP d x e) := by
 cases d with
 | none => rfl
 | some d =>
  cases d' with
  | none => rfl
  | some d' =>
   have hne : d ≠ d' := fun e => h.elim (by simp) (fun h => h (by rw [e]))
   exact List.set_comm y x (Ne.symm hne)
theorem repF_push {all : List Oper} {f : Rw → Option AV} {d : Option Nat} {y : AV} : ∀ {acc : List Rw} {env : List AV}, (∀ r ∈ acc, f r ≠ none → dstOE all r.1 = none ∨ dstOE all r.1 ≠ d) → repF all f acc (setP d y env) = setP d y (repF all f acc env)
 | [], _, _ => rfl
 | r :: acc, env, h => by
  rw [repF_cons, repF_cons]
  cases hf : f r with
  | none => exact repF_push fun r' hr' => h r' (List.mem_cons_of_mem _ hr')
  | some v =>
   dsimp only
   rw [setP_comm _ _ _ (h r (by simp) (by rw [hf]; simp))]
   exact repF_push fun r' hr' => h r' (List.mem_cons_of_mem _ hr')
theorem repF_congr {all : List Oper} {f g : Rw → Option AV} : ∀ {acc : List Rw} {env : List AV}, (∀ r ∈ acc, f r = g r) → repF all f acc env = repF all g acc env
 | [], _, _ => rfl
 | r :: acc, env, h => by
  rw [repF_cons, repF_cons, h r (by simp)]
  exact repF_congr fun r' hr' => h r' (List.mem_cons_of_mem _ hr')
theorem repF_named {all : List Oper} {f g : Rw → Option AV} {L : Rw → Prop} {t : Nat} : ∀ {acc : List Rw} {env env' : List AV}, (∀ r ∈ acc, g r = f r ∨ (L r ∧ g r = some r.2.2.2 ∧ f r = some .d)) → env.length = env'.length → (env.getD t .d = env'.getD t .d ∨ ∃ r, L r ∧ dstOE all r.1 = some t ∧ env.getD t .d = r.2.2.2) →
  (repF all g acc env).getD t .d = (repF all f acc env').getD t .d ∨ ∃ r, L r ∧ dstOE all r.1 = some t ∧ (repF all g acc env).getD t .d = r.2.2.2
 | [], _, _, _, _, he => he
 | r :: acc, env, env', h, hl, he => by
  rw [repF_cons, repF_cons]
  refine repF_named (fun r' hr' => h r' (List.mem_cons_of_mem _ hr')) ?_ ?_
  ·cases g r <;> cases f r <;> simp [setP_length, hl]
   all_goals
    rcases h r (by simp) with e | ⟨_, e1, e2⟩ <;> simp_all
  ·by_cases hd : dstOE all r.1 = some t
   ·rcases h r (by simp) with e | ⟨hL, e1, e2⟩
    ·rw [e]
     cases hf : f r with
     | none => rw [hf] at e; exact he
     | some v => dsimp only; rw [hd]; exact .inl (setP_get_same hl)
    ·rw [e1, e2]
     dsimp only
     by_cases ht : t < env.length
     ·refine .inr ⟨r, hL, hd, ?_⟩
      rw [hd]
      simp [setP, List.getD_eq_getElem?_getD, ht]
     ·left
      rw [hd]
      simp only [setP, List.getD_eq_getElem?_getD]
      rw [List.set_eq_of_length_le (Nat.le_of_not_lt ht), List.set_eq_of_length_le (by omega), List.getElem?_eq_none (by omega), List.getElem?_eq_none (by omega)]
   ·have e1 : ∀ (o : Option AV) (e : List AV), (match o with
     | some v => setP (dstOE all r.1) v e
     | none => e).getD t .d = e.getD t .d := fun o e => by
     cases o with
     | none => rfl
     | some v => exact setP_get hd
    rw [e1, e1]
    exact he
section
variable {P : Program} {ρ : Q → Loc} {h : Hp} {w : World} {B : Nat} {T : Tbl} {M : List (Nat × Nat)}
theorem alloc_spec {all : List Oper} {o : Oper} (ha : isAl o = true) {env : List AV} {H H' : Hp} {y : AV} (hk : ∀ k, gopD P T M all o env H k = k y H') :
  ∃ ty z v, o.op = .alloc ty ∧ o.guard = none ∧ (P.info? ty).bind (·.zero) = some z ∧ z.cells.size = P.cellsOf ty ∧ y = .p H.nx 0 ∧ H' = .mk (H.t.set (.bk ty z.cells.size v) H.nx) H.nx.succ ∧ (∀ u ∈ z.cells.toList, u.oneCell' = true) ∧
   ∃ cs : List AV, cs.length = z.cells.size ∧ (∀ (j : Nat) (hj : j < cs.length), v.get j = cs[j]) ∧ ∀ (ρ : Q → Loc) (N : Nat), RelL ρ N cs z.cells.toList := by
 unfold isAl at ha
 split at ha
 ·rename_i ty hop hg
  have hh : ∀ k : AV → Hp → Bool, gopD P T M all o env H k = heavyD P T M (.alloc ty) (evA env) H k := fun k => by simp only [gopD, hg, opD, isHeavy, hop]
  cases hz : (P.info? ty).bind (·.zero) with
  | none =>
   have := hk fun _ _ => true
   rw [hh] at this
   simp only [heavyD, hz] at this
   cases this
  | some z =>
   have hh : ∀ k : AV → Hp → Bool, gopD P T M all o env H k = boxK ty (P.cellsOf ty) (zeroOf P ty) H k := fun k => by rw [hh]; simp only [heavyD, hz]
   have hzr : ∀ (ρ : Q → Loc) (N : Nat), Rel ρ N (zeroOf P ty) z := fun ρ N => by unfold zeroOf; rw [hz]; exact cva_rel _ _ _
   classical
   let k0 : AV → Hp → Bool := fun y' H'' => decide (y' = y ∧ H'' = H')
   have h1 : boxK ty (P.cellsOf ty) (zeroOf P ty) H k0 = true := by rw [← hh, hk]; simp [k0]
   obtain ⟨c, hc, h2⟩ := (cellsK_det (zeroOf P ty) (P.cellsOf ty)).val h1
   have hcs : ∀ (ρ : Q → Loc) (N : Nat), c.length = P.cellsOf ty ∧ z.cells.size = P.cellsOf ty ∧ RelL ρ N c z.cells.toList ∧ ∀ u ∈ z.cells.toList, u.oneCell' = true := fun ρ N => by
    obtain ⟨cs, g1, g2, g3, g4, g5⟩ := AV.cellsK_spec (ρ := ρ) (N := N) (k := fun l => decide (l = c)) (x := zeroOf P ty) (n := P.cellsOf ty) (by rw [hc]; simp) (hzr ρ N)
    have : cs = c := by simpa using g1
    subst this
    exact ⟨g2, g3, g4, g5⟩
   obtain ⟨hl, hsz, _, h1c⟩ := hcs (fun _ => { blk := 0, base := 0, cap := 0 }) 0
   obtain ⟨v, hgv, h3⟩ := nbK_spec hl h2
   have h3 : (AV.p H.nx 0 = y ∧ Hp.mk (H.t.set (.bk ty c.length v) H.nx) H.nx.succ = H') := by simpa [k0] using h3
   have hcl : c.length = z.cells.size := by rw [hl, hsz]
   exact ⟨ty, z, v, hop, hg, hz, hsz, h3.1.symm, by rw [← h3.2, hcl], h1c, c, hcl, hgv, fun ρ N => (hcs ρ N).2.2.1⟩
 ·cases ha
end
section
variable {P : Program} {ρ : Q → Loc} {h : Hp} {w : World} {B : Nat}
theorem Emb.name (E : Emb P ρ h w B) {b : Nat} {c : Array Value} {ty : TypeId} (hb : w.heap[b]? = some (.cells c ty (0, 0))) (hB : B ≤ b) (hni : ∀ q, h.live q → (ρ q).blk ≠ b) (h1 : ∀ u ∈ c.toList, u.oneCell' = true) (hsz : c.size = P.cellsOf ty)
  {cs : List AV} {v : V} (hl : cs.length = c.size) (hg : ∀ (j : Nat) (hj : j < cs.length), v.get j = cs[j]) (hr : RelL ρ h.nx.num cs c.toList) :
  Emb P (upd ρ h.nx { blk := b, base := 0, cap := 1 }) (.mk (h.t.set (.bk ty c.size v) h.nx) h.nx.succ) w B := by
 have hN : h.nx.num ≤ h.nx.succ.num := by rw [Q.num_succ]; omega
 have hlive : ∀ r, (Hp.mk (h.t.set (.bk ty c.size v) h.nx) h.nx.succ).live r → r = h.nx ∨ (h.live r ∧ r ≠ h.nx) := fun r hr => by
  by_cases e : r = h.nx
  ·exact .inl e
  ·rw [Hp.live_mk, HT.get_set_ne _ _ _ _ e] at hr; exact .inr ⟨hr, e⟩
 have hme : ∀ r, r.num < h.nx.num → upd ρ h.nx { blk := b, base := 0, cap := 1 } r = ρ r := upd_lt ρ h.nx _
 refine ⟨E.base, fun r hr => ?_, fun r hr => ?_, fun r s hr hs e => ?_, fun r ty' n v' hg' => ?_, fun r es hg' => ?_, fun r o l hg' => ?_, fun r i hg' => ?_, fun r ty' hg' => ?_, fun r ty' q0 us hg' => ?_, E.tab⟩
 ·show r.num < h.nx.succ.num
  rcases hlive r hr with rfl | ⟨h1, _⟩
  ·rw [Q.num_succ]; omega
  ·exact Nat.lt_of_lt_of_le (E.lt r h1) hN
 ·rcases hlive r hr with rfl | ⟨h1, h2⟩
  ·rw [upd_same]; exact hB
  ·rw [upd_ne _ _ h2]; exact E.ge r h1
 ·rcases hlive r hr with rfl | ⟨h1, h2⟩
  ·rcases hlive s hs with rfl | ⟨h3, h4⟩
   ·rfl
   ·rw [upd_same, upd_ne _ _ h4] at e; exact (hni s h3 e.symm).elim
  ·rcases hlive s hs with rfl | ⟨h3, h4⟩
   ·rw [upd_same, upd_ne _ _ h2] at e; exact (hni r h1 e).elim
   ·rw [upd_ne _ _ h2, upd_ne _ _ h4] at e; exact E.inj r s h1 h3 e
 ·by_cases e : r = h.nx
  ·subst e
   rw [upd_same]
   have hg' : (h.t.set (.bk ty c.size v) h.nx).get h.nx = .bk ty' n v' := hg'
   rw [HT.get_set_same] at hg'
   cases hg'
   refine ⟨⟨c.size, by unfold World.shape?; simp only [hb], by simp, by simp [hsz], fun o ho => ?_⟩, fun i hi => ?_⟩
   ·unfold World.frozen?
    simp [hb]
   ·have hi2 : i < c.toList.length := by simpa using hi
    refine ⟨c.toList[i], ?_, ?_, h1 _ (List.getElem_mem hi2)⟩
    ·unfold World.cell?
     simp only [hb, Nat.zero_add]
     simp [hi]
    ·rw [hg i (by omega)]
     exact (hr.get i (by omega) hi2).mono hme hN
  ·have hg' : (h.t.set (.bk ty c.size v) h.nx).get r = .bk ty' n v' := hg'
   rw [HT.get_set_ne _ _ _ _ e] at hg'
   rw [upd_ne _ _ e]
   exact (E.row r ty' n v' hg').mono hme hN rfl
 ·by_cases e : r = h.nx
  ·subst e
   have hg' : (h.t.set (.bk ty c.size v) h.nx).get h.nx = .mp es := hg'
   rw [HT.get_set_same] at hg'
   cases hg'
  ·have hg' : (h.t.set (.bk ty c.size v) h.nx).get r = .mp es := hg'
   rw [HT.get_set_ne _ _ _ _ e] at hg'
   rw [upd_ne _ _ e]
   exact (E.map r es hg').mono hme hN rfl
 ·by_cases e : r = h.nx
  ·subst e
   have hg' : (h.t.set (.bk ty c.size v) h.nx).get h.nx = .si o l := hg'
   rw [HT.get_set_same] at hg'
   cases hg'
  ·have hg' : (h.t.set (.bk ty c.size v) h.nx).get r = .si o l := hg'
   rw [HT.get_set_ne _ _ _ _ e] at hg'
   rw [upd_ne _ _ e]
   exact (E.si r o l hg').mono rfl
 ·by_cases e : r = h.nx
  ·subst e
   have hg' : (h.t.set (.bk ty c.size v) h.nx).get h.nx = .y (.op i) := hg'
   rw [HT.get_set_same] at hg'
   cases hg'
  ·have hg' : (h.t.set (.bk ty c.size v) h.nx).get r = .y (.op i) := hg'
   rw [HT.get_set_ne _ _ _ _ e] at hg'
   rw [upd_ne _ _ e]
   exact ⟨Nat.lt_of_lt_of_le (E.op r i hg').1 hN, (E.op r i hg').2.mono hme (E.op r i hg').1 rfl⟩
 ·by_cases e : r = h.nx
  ·subst e
   have hg' : (h.t.set (.bk ty c.size v) h.nx).get h.nx = .y (.soup ty') := hg'
   rw [HT.get_set_same] at hg'
   cases hg'
  ·have hg' : (h.t.set (.bk ty c.size v) h.nx).get r = .y (.soup ty') := hg'
   rw [HT.get_set_ne _ _ _ _ e] at hg'
   rw [upd_ne _ _ e]
   exact (E.soup r ty' hg').mono rfl
 ·by_cases e : r = h.nx
  ·subst e
   have hg' : (h.t.set (.bk ty c.size v) h.nx).get h.nx = .y (.dm ty' q0 us) := hg'
   rw [HT.get_set_same] at hg'
   cases hg'
  ·have hg' : (h.t.set (.bk ty c.size v) h.nx).get r = .y (.dm ty' q0 us) := hg'
   rw [HT.get_set_ne _ _ _ _ e] at hg'
   rw [upd_ne _ _ e]
   obtain ⟨h1, h2⟩ := E.dm r ty' q0 us hg'
   rw [dmC_mono (hme .e h1) q0 us]
   exact ⟨Nat.lt_of_lt_of_le h1 hN, h2⟩
theorem Emb.grow1 (E : Emb P ρ h w B) (o : Obj) : Emb P ρ h { w with heap := w.heap.push o } B := by
 have hk : ∀ c, c < w.heap.size → (w.heap.push o)[c]? = w.heap[c]? := fun c hc => by rw [Array.getElem?_push, if_neg (by omega)]
 have hrow : ∀ q ty n v, h.t.get q = .bk ty n v → (ρ q).blk < w.heap.size := fun q ty n v hg => by
  obtain ⟨sz, h1, _⟩ := (E.row q ty n v hg).at_
  unfold World.shape? at h1
  by_cases hh : (ρ q).blk < w.heap.size
  ·exact hh
  ·rw [Array.getElem?_eq_none (by omega)] at h1; cases h1
 refine ⟨by have := E.base; simp; omega, E.lt, E.ge, E.inj, fun q ty n v hg => ?_, fun q es hg => ?_, fun q o' l hg => ?_, fun q i hg => ?_, fun q ty hg => ?_, fun q ty q0 us hg => ?_, E.tab.mono fun c hc => hk c (by have := E.base; omega)⟩
 ·exact RowE.mono (w := w) (fun _ _ => rfl) (Nat.le_refl _) (hk _ (hrow q ty n v hg)) (E.row q ty n v hg)
 ·have hm := E.map q es hg
  obtain ⟨fs, c, h1, _⟩ := hm
  exact MapAt.mono (w := w) (fun _ _ => rfl) (Nat.le_refl _) (hk _ (Array.getElem?_eq_some_iff.1 h1).1) (E.map q es hg)
 ·obtain ⟨s, h1, _⟩ := E.si q o' l hg
  exact SiAt.mono (w := w) (hk _ (Array.getElem?_eq_some_iff.1 h1).1) (E.si q o' l hg)
 ·obtain ⟨s, h1⟩ := (E.op q i hg).2.1
  exact ⟨(E.op q i hg).1, OpAt.mono (w := w) (fun _ _ => rfl) (E.op q i hg).1 (hk _ (Array.getElem?_eq_some_iff.1 h1).1) (E.op q i hg).2⟩
 ·obtain ⟨sz, h1, _⟩ := (E.soup q ty hg).at_
  unfold World.shape? at h1
  by_cases hh : (ρ q).blk < w.heap.size
  ·exact SoupAt.mono (w := w) (hk _ hh) (E.soup q ty hg)
  ·rw [Array.getElem?_eq_none (by omega)] at h1; cases h1
 ·obtain ⟨h1, h2⟩ := E.dm q ty q0 us hg
  have h3 := h2
  obtain ⟨fs, c, h4, _⟩ := h3
  exact ⟨h1, DmAt.mono (w := w) (hk _ (Array.getElem?_eq_some_iff.1 h4).1) h2⟩
theorem Emb.blk_lt (E : Emb P ρ h w B) {q : Q} (hq : h.live q) : (ρ q).blk < w.heap.size := by
 cases hg : h.t.get q with
 | no => exact (hq hg).elim
 | bk ty n v =>
  obtain ⟨sz, h1, _⟩ := (E.row q ty n v hg).at_
  unfold World.shape? at h1
  by_cases hh : (ρ q).blk < w.heap.size
  ·exact hh
  ·rw [Array.getElem?_eq_none (by omega)] at h1; cases h1
 | mp es =>
  obtain ⟨fs, c, h1, _⟩ := E.map q es hg
  exact (Array.getElem?_eq_some_iff.1 h1).1
 | si o l =>
  obtain ⟨s, h1, _⟩ := E.si q o l hg
  exact (Array.getElem?_eq_some_iff.1 h1).1
 | y o =>
  cases o with
  | op i =>
   obtain ⟨s, h1⟩ := (E.op q i hg).2.1
   exact (Array.getElem?_eq_some_iff.1 h1).1
  | soup ty =>
   obtain ⟨sz, h1, _⟩ := (E.soup q ty hg).at_
   unfold World.shape? at h1
   by_cases hh : (ρ q).blk < w.heap.size
   ·exact hh
   ·rw [Array.getElem?_eq_none (by omega)] at h1; cases h1
  | dm ty q0 us =>
   obtain ⟨fs, c, h1, _⟩ := (E.dm q ty q0 us hg).2
   exact (Array.getElem?_eq_some_iff.1 h1).1
theorem Step.grow1 (ρ : Q → Loc) (h : Hp) (w : World) (o : Obj) : Step ρ h w ρ h { w with heap := w.heap.push o } :=
 ⟨fun _ _ => rfl, Nat.le_refl _, by simp, fun c hc _ => by show (w.heap.push o)[c]? = _; rw [Array.getElem?_push, if_neg (by omega)], fun q hq => .inl ⟨q, hq, rfl⟩, rfl, rfl, rfl⟩
theorem Step.name {ρ0 : Q → Loc} {h0 : Hp} {w0 : World} (s : Step ρ0 h0 w0 ρ h w) {b : Nat} (hb : w0.heap.size ≤ b) (x : OB) (cap : Nat) : Step ρ0 h0 w0 (upd ρ h.nx { blk := b, base := 0, cap := cap }) (.mk (h.t.set x h.nx) h.nx.succ) w := by
 refine ⟨fun q hq => ?_, ?_, s.size, s.frame, fun q hq => ?_, s.os, s.tape, s.output⟩
 ·rw [upd_lt ρ h.nx _ q (Nat.lt_of_lt_of_le hq s.nx)]
  exact s.ext q hq
 ·show h0.nx.num ≤ h.nx.succ.num
  rw [Q.num_succ]
  have := s.nx
  omega
 ·by_cases e : q = h.nx
  ·subst e
   rw [upd_same]
   exact .inr hb
  ·rw [Hp.live_mk, HT.get_set_ne _ _ _ _ e] at hq
   rw [upd_ne _ _ e]
   exact s.img q hq
end
structure DC (P : Program) (T : Tbl) (M : List (Nat × Nat)) (all : List Oper) (ord : List Nat) (env0 : List AV) (h0 : Hp) (acc : List Rw) (HH : List Hp) (envE : List AV) (hE : Hp) (A pre As post : List Nat) : Prop where
 hcov : ∀ j, j < all.length → j ∈ ord
 hlin : linOk all [] ord = true
 hcmp : cmpOk P all (mskL all []) A = true
 hlate : lateOk P all (mskL all []) A pre As post = true
 hpre : ∀ i ∈ pre, i ∉ A
 hA : ∀ i ∈ A, ∃ o, all[i]? = some o ∧ isAl o = true
 hhv : hvL P all ord = pre ++ As ++ post
 hmap : acc.map (·.1) = ord
 hh0 : HH[0]? = some h0
 hhE : HH[(hvL P all ord).length]? = some hE
 henv : envE = repP all acc env0
 hat : ∀ p r q, acc = p ++ r :: q → AtR P T M all 1 env0 HH p r
 hrck : ∀ r ∈ acc, ∀ o, all[r.1]? = some o → isRead P o.op = true → ∀ i H, HH[i]? = some H → mayAt (mskL all []) (hvL P all ord) r.1 i = true → i + 1 ≠ r.2.1 → ∀ k, gopD P T M all o r.2.2.1 H k = k r.2.2.2 H
section
variable {P : Program} {T : Tbl} {M : List (Nat × Nat)} {all : List Oper} {ord : List Nat} {env0 : List AV} {h0 : Hp} {acc : List Rw} {HH : List Hp} {envE : List AV} {hE : Hp} {A pre As post : List Nat}
theorem DC.at_ (D : DC P T M all ord env0 h0 acc HH envE hE A pre As post) {j : Nat} (hj : j < all.length) : ∃ p r q, acc = p ++ r :: q ∧ r.1 = j ∧ ord = p.map (·.1) ++ j :: q.map (·.1) := by
 have := D.hcov j hj
 rw [← D.hmap] at this
 obtain ⟨r, hr, rfl⟩ := List.mem_map.1 this
 obtain ⟨p, q, rfl⟩ := List.append_of_mem hr
 exact ⟨p, r, q, rfl, rfl, by rw [← D.hmap]; simp⟩
theorem DC.pair (D : DC P T M all ord env0 h0 acc HH envE hE A pre As post) {i j : Nat} {oi oj : Oper} (hi : all[i]? = some oi) (hj : all[j]? = some oj) :
  i = j ∨ bfr (mskL all []) i j = true ∨ bfr (mskL all []) j i = true ∨ ((∀ d, oi.dst = some d → d ∉ nmsOf all oj) ∧ (¬ (isHeavy P oi.op = true ∧ isHeavy P oj.op = true) ∨ i ∈ A ∨ j ∈ A)) := by
 have hz : ∀ {i : Nat} {o : Oper}, all[i]? = some o → (o, i) ∈ all.zipIdx := fun {i o} h => by
  rw [List.mem_zipIdx_iff_getElem?]; exact h
 have h := List.all_eq_true.1 (List.all_eq_true.1 D.hcmp (oi, i) (hz hi)) (oj, j) (hz hj)
 simp only [Bool.or_eq_true] at h
 rcases h with ((h | h) | h) | h
 ·exact .inl (Nat.eq_of_beq_eq_true h)
 ·exact .inr (.inl h)
 ·exact .inr (.inr (.inl h))
 ·refine .inr (.inr (.inr ?_))
  simp only [Bool.and_eq_true, Bool.or_eq_true] at h
  obtain ⟨h1, h2⟩ := h
  refine ⟨fun d hd hm => ?_, ?_⟩
  ·rw [hd] at h1
   simp only [memN_spec.2 hm] at h1
   cases h1
  ·rcases h2 with (h2 | h2) | h2
   ·left
    rintro ⟨a, b⟩
    rw [a, b] at h2
    cases h2
   ·exact .inr (.inl (memN_spec.1 h2))
   ·exact .inr (.inr (memN_spec.1 h2))
theorem DC.late (D : DC P T M all ord env0 h0 acc HH envE hE A pre As post) : (∀ i ∈ As, i ∈ A) ∧ (∀ i ∈ post, i ∉ A) ∧ (∀ i ∈ post, ∀ x ∈ pre ++ As, bfr (mskL all []) i x = true) ∧
  ∀ j o, all[j]? = some o → (j ∈ A ∧ ∀ x ∈ As, x = j ∨ dstN all x (nmsOf all o) = false) ∨ (∀ x ∈ As, dstN all x (nmsOf all o) = false ∧ ¬ (isRead P o.op = true ∧ bfr (mskL all []) j x = true)) ∨ (∀ x ∈ pre ++ As, bfr (mskL all []) j x = true) := by
 have h := D.hlate
 unfold lateOk at h
 simp only [Bool.and_eq_true] at h
 obtain ⟨⟨⟨h1, h2⟩, h3⟩, h4⟩ := h
 refine ⟨fun i hi => memN_spec.1 (List.all_eq_true.1 h1 i hi), fun i hi hm => ?_, fun i hi x hx => List.all_eq_true.1 (List.all_eq_true.1 h3 i hi) x hx, fun j o hj => ?_⟩
 ·have := List.all_eq_true.1 h2 i hi
  rw [memN_spec.2 hm] at this
  cases this
 ·have := List.all_eq_true.1 h4 (o, j) (by rw [List.mem_zipIdx_iff_getElem?]; exact hj)
  simp only [Bool.or_eq_true, Bool.and_eq_true] at this
  rcases this with (⟨h5, h6⟩ | h5) | h5
  ·refine .inl ⟨memN_spec.1 h5, fun x hx => ?_⟩
   have := List.all_eq_true.1 h6 x hx
   simp only [Bool.or_eq_true] at this
   rcases this with h7 | h7
   ·exact .inl (Nat.eq_of_beq_eq_true h7)
   ·exact .inr (by simpa using h7)
  ·refine .inr (.inl fun x hx => ?_)
   have := List.all_eq_true.1 h5 x hx
   simp only [Bool.and_eq_true] at this
   refine ⟨by simpa using this.1, fun ⟨a, b⟩ => ?_⟩
   rw [a, b] at this
   cases this.2
  ·exact .inr (.inr fun x hx => List.all_eq_true.1 h5 x hx)
def m1 (pre As : List Nat) (S : Nat → Bool) : Bool := !((pre ++ As).all S)
def idxS (pre As post : List Nat) (S : Nat → Bool) : Nat := if m1 pre As S = true then (pre.filter S).length else pre.length + As.length + (post.filter S).length
def fS (pre As : List Nat) (S : Nat → Bool) (r : Rw) : Option AV := if S r.1 = true then (if m1 pre As S = true ∧ r.1 ∈ As then some .d else some r.2.2.2) else none
theorem m1_false {S : Nat → Bool} (h : m1 pre As S = false) : ∀ x ∈ pre ++ As, S x = true := fun x hx => by
 unfold m1 at h
 exact List.all_eq_true.1 (by simpa using h) x hx
theorem m1_of {S : Nat → Bool} (h : ∀ x ∈ pre ++ As, S x = true) : m1 pre As S = false := by
 unfold m1
 rw [List.all_eq_true.2 h]
 rfl
structure Rdy (all : List Oper) (S : Nat → Bool) (j : Nat) (o : Oper) : Prop where
 op : all[j]? = some o
 un : S j = false
 bef : ∀ e ∈ dpr o, S e = true
 cl : Closed all (fun i => S i = true)
theorem Rdy.before {S : Nat → Bool} {j : Nat} {o : Oper} (R : Rdy all S j o) {i : Nat} (h : bfr (mskL all []) j i = true) : S i = true := bfr_closed R.cl j o R.op R.bef i h
theorem Rdy.behind {S : Nat → Bool} {j : Nat} {o : Oper} (R : Rdy all S j o) {i : Nat} {oi : Oper} (hi : all[i]? = some oi) (h : bfr (mskL all []) i j = true) : S i = false := by
 cases hS : S i with
 | false => rfl
 | true =>
  have := bfr_closed R.cl i oi hi (R.cl i oi hi hS) j h
  rw [R.un] at this
  cases this
theorem DC.writers (D : DC P T M all ord env0 h0 acc HH envE hE A pre As post) {S : Nat → Bool} {j : Nat} {o : Oper} (R : Rdy all S j o) {p q : List Rw} {r : Rw} (he : acc = p ++ r :: q) (hr : r.1 = j) (hord : ord = p.map (·.1) ++ j :: q.map (·.1)) {d : Nat} (hd : d ∈ nmsOf all o) :
  (∀ r' ∈ p, dstOE all r'.1 = some d → S r'.1 = true) ∧ ∀ r' ∈ r :: q, dstOE all r'.1 = some d → S r'.1 = false := by
 have hop : ∀ {i : Nat}, dstOE all i = some d → ∃ oi, all[i]? = some oi ∧ oi.dst = some d := fun {i} h => by
  unfold dstOE at h
  cases hi : all[i]? with
  | none => rw [hi] at h; cases h
  | some oi => rw [hi] at h; exact ⟨oi, rfl, h⟩
 refine ⟨fun r' hr' hdst => ?_, fun r' hr' hdst => ?_⟩
 ·obtain ⟨oi, h1, h2⟩ := hop hdst
  have hne : r'.1 ≠ j := fun e => (linOk_nodup D.hlin hord).1 (List.mem_map.2 ⟨r', hr', e⟩)
  rcases D.pair h1 R.op with h | h | h | h
  ·exact (hne h).elim
  ·obtain ⟨p1, p2, hp⟩ := List.append_of_mem hr'
   have hb := linOk_before D.hlin (p := p1.map (·.1)) (q := p2.map (·.1) ++ j :: q.map (·.1)) (j := r'.1) (by rw [hord, hp]; simp) h
   have : j ∈ p.map (·.1) := by rw [hp]; simp only [List.map_append, List.mem_append]; exact .inl hb
   exact ((linOk_nodup D.hlin hord).1 this).elim
  ·exact R.before h
  ·exact (h.1 d h2 hd).elim
 ·rcases List.mem_cons.1 hr' with rfl | hr'
  ·rw [hr]; exact R.un
  ·obtain ⟨oi, h1, h2⟩ := hop hdst
   have hne : r'.1 ≠ j := fun e => (linOk_nodup D.hlin hord).2 (List.mem_map.2 ⟨r', hr', e⟩)
   rcases D.pair h1 R.op with h | h | h | h
   ·exact (hne h).elim
   ·exact R.behind h1 h
   ·have hb := linOk_before D.hlin hord h
    obtain ⟨q1, q2, hq⟩ := List.append_of_mem hr'
    have := (linOk_nodup D.hlin (p := p.map (·.1) ++ j :: q1.map (·.1)) (q := q2.map (·.1)) (j := r'.1) (by rw [hord, hq]; simp)).1
    exact (this (List.mem_append_left _ hb)).elim
   ·exact (h.1 d h2 hd).elim
end
theorem filter_take {S : Nat → Bool} : ∀ {l : List Nat}, (∀ a x b, l = a ++ x :: b → S x = true → ∀ y ∈ a, S y = true) → l.take (l.filter S).length = l.filter S ∧ ∀ y ∈ l.drop (l.filter S).length, S y = false
 | [], _ => ⟨rfl, fun y h => by simp at h⟩
 | x :: l, h => by
  cases hx : S x with
  | true =>
   obtain ⟨h1, h2⟩ := filter_take (l := l) fun a z b e hz y hy => h (x :: a) z b (by rw [e]; rfl) hz y (List.mem_cons_of_mem _ hy)
   rw [List.filter_cons_of_pos hx]
   simp only [List.length_cons, List.take_succ_cons, List.drop_succ_cons]
   exact ⟨by rw [h1], h2⟩
  | false =>
   have hall : ∀ y ∈ l, S y = false := fun y hy => by
    cases hS : S y with
    | false => rfl
    | true =>
     obtain ⟨a, b, rfl⟩ := List.append_of_mem hy
     have := h (x :: a) y b rfl hS x (by simp)
     rw [hx] at this
     cases this
   have hnil : (x :: l).filter S = [] := by
    rw [List.filter_eq_nil_iff]
    intro y hy
    rcases List.mem_cons.1 hy with rfl | hy
    ·rw [hx]; simp
    ·rw [hall y hy]; simp
   rw [hnil]
   refine ⟨rfl, fun y hy => ?_⟩
   rcases List.mem_cons.1 (by simpa using hy) with rfl | hy
   ·exact hx
   ·exact hall y hy
section
variable {P : Program} {T : Tbl} {M : List (Nat × Nat)} {all : List Oper} {ord : List Nat} {env0 : List AV} {h0 : Hp} {acc : List Rw} {HH : List Hp} {envE : List AV} {hE : Hp} {A pre As post : List Nat}
theorem DC.ordered (D : DC P T M all ord env0 h0 acc HH envE hE A pre As post) {a b : List Nat} {x y : Nat} (e : hvL P all ord = a ++ x :: b) (hy : y ∈ a) : bfr (mskL all []) y x = false := by
 obtain ⟨p1, p2, rfl, h1, h2⟩ := List.filter_eq_append_iff.1 e
 obtain ⟨l1, l2, rfl, _, _, _⟩ := List.filter_eq_cons_iff.1 h2
 have hy1 : y ∈ p1 := by rw [← h1] at hy; exact (List.mem_filter.1 hy).1
 obtain ⟨s, t, rfl⟩ := List.append_of_mem hy1
 cases hb : bfr (mskL all []) y x with
 | false => rfl
 | true =>
  have hx := linOk_before D.hlin (p := s) (q := t ++ (l1 ++ x :: l2)) (j := y) (by simp) hb
  have := (linOk_nodup D.hlin (p := s ++ y :: t ++ l1) (q := l2) (j := x) (by simp)).1
  exact (this (by simp [hx])).elim
theorem DC.heavyOf (D : DC P T M all ord env0 h0 acc HH envE hE A pre As post) {i : Nat} (hi : i ∈ pre ++ As ++ post) : ∃ o, all[i]? = some o ∧ isHeavy P o.op = true := by
 rw [← D.hhv] at hi
 have := (List.mem_filter.1 hi).2
 cases ho : all[i]? with
 | none => rw [ho] at this; cases this
 | some o => rw [ho] at this; exact ⟨o, rfl, this⟩
theorem DC.chain (D : DC P T M all ord env0 h0 acc HH envE hE A pre As post) {a b : List Nat} {x y : Nat} (e : hvL P all ord = a ++ x :: b) (hy : y ∈ a) (hx : x ∉ A) (hyA : y ∉ A) : bfr (mskL all []) x y = true := by
 obtain ⟨ox, h1, h2⟩ := D.heavyOf (i := x) (by rw [← D.hhv, e]; simp)
 obtain ⟨oy, h3, h4⟩ := D.heavyOf (i := y) (by rw [← D.hhv, e]; simp [hy])
 rcases D.pair h1 h3 with h | h | h | h
 ·subst h
  have hnd : ∀ a b, hvL P all ord = a ++ x :: b → x ∉ a := fun a b e hm => by
   obtain ⟨p1, p2, rfl, g1, g2⟩ := List.filter_eq_append_iff.1 e
   obtain ⟨l1, l2, rfl, _, _, _⟩ := List.filter_eq_cons_iff.1 g2
   rw [← g1] at hm
   exact (linOk_nodup D.hlin (p := p1 ++ l1) (q := l2) (j := x) (by simp)).1 (by simp [(List.mem_filter.1 hm).1])
  exact (hnd a b e hy).elim
 ·exact h
 ·rw [D.ordered e hy] at h
  cases h
 ·rcases h.2 with h | h | h
  ·exact (h ⟨h2, h4⟩).elim
  ·exact (hx h).elim
  ·exact (hyA h).elim
theorem DC.pre_pre (D : DC P T M all ord env0 h0 acc HH envE hE A pre As post) {S : Nat → Bool} (hS : Closed all (fun i => S i = true)) : ∀ a x b, pre = a ++ x :: b → S x = true → ∀ y ∈ a, S y = true := fun a x b e hx y hy => by
 have := D.chain (a := a) (b := b ++ As ++ post) (x := x) (y := y) (by rw [D.hhv, e]; simp) hy (D.hpre x (by rw [e]; simp)) (D.hpre y (by rw [e]; simp [hy]))
 obtain ⟨ox, h1, _⟩ := D.heavyOf (i := x) (by rw [e]; simp)
 exact bfr_closed hS x ox h1 (hS x ox h1 hx) y this
theorem DC.post_pre (D : DC P T M all ord env0 h0 acc HH envE hE A pre As post) {S : Nat → Bool} (hS : Closed all (fun i => S i = true)) : ∀ a x b, post = a ++ x :: b → S x = true → ∀ y ∈ a, S y = true := fun a x b e hx y hy => by
 have := D.chain (a := pre ++ As ++ a) (b := b) (x := x) (y := y) (by rw [D.hhv, e]; simp) (by simp [hy]) (D.late.2.1 x (by rw [e]; simp)) (D.late.2.1 y (by rw [e]; simp [hy]))
 obtain ⟨ox, h1, _⟩ := D.heavyOf (i := x) (by rw [e]; simp)
 exact bfr_closed hS x ox h1 (hS x ox h1 hx) y this
theorem DC.post_m1 (D : DC P T M all ord env0 h0 acc HH envE hE A pre As post) {S : Nat → Bool} (hS : Closed all (fun i => S i = true)) {i : Nat} (hi : i ∈ post) (hx : S i = true) : m1 pre As S = false := by
 obtain ⟨ox, h1, _⟩ := D.heavyOf (i := i) (by simp [hi])
 exact m1_of fun y hy => bfr_closed hS i ox h1 (hS i ox h1 hx) y (D.late.2.2.1 i hi y hy)
theorem mem_late_heavy (D : DC P T M all ord env0 h0 acc HH envE hE A pre As post) {j : Nat} {o : Oper} (hj : all[j]? = some o) (hA : j ∈ A) : isHeavy P o.op = true ∧ seenT all o = [] := by
 obtain ⟨o', h1, h2⟩ := D.hA j hA
 rw [hj] at h1
 cases h1
 unfold isAl at h2
 split at h2
 ·rename_i ty hop hg
  refine ⟨by rw [hop]; rfl, by simp [seenT, hop, hg, Op.operands]⟩
 ·cases h2
theorem DC.mayAt (D : DC P T M all ord env0 h0 acc HH envE hE A pre As post) {S : Nat → Bool} {j : Nat} {o : Oper} (R : Rdy all S j o) (hl : isHeavy P o.op = false) (hr : isRead P o.op = true) : Go.Proofs.YtpchmdddkpocgaaGreatDoor.mayAt (mskL all []) (hvL P all ord) j (idxS pre As post S) = true := by
 have hin : ∀ i ∈ pre ++ As ++ post, S i = true → bfr (mskL all []) i j = false := fun i hi hS => by
  obtain ⟨oi, h1, _⟩ := D.heavyOf hi
  cases hb : bfr (mskL all []) i j with
  | false => rfl
  | true => rw [R.behind h1 hb] at hS; cases hS
 have hout : ∀ i, S i = false → bfr (mskL all []) j i = false := fun i hS => by
  cases hb : bfr (mskL all []) j i with
  | false => rfl
  | true => rw [R.before hb] at hS; cases hS
 have key : ∀ t d : List Nat, pre ++ As ++ post = t ++ d → t.length = idxS pre As post S → (∀ i ∈ t, S i = true) → (∀ i ∈ d, bfr (mskL all []) j i = false) → Go.Proofs.YtpchmdddkpocgaaGreatDoor.mayAt (mskL all []) (hvL P all ord) j (idxS pre As post S) = true := fun t d e hlen ht hd => by
  unfold Go.Proofs.YtpchmdddkpocgaaGreatDoor.mayAt
  rw [D.hhv, e, ← hlen, List.take_left, List.drop_left, Bool.and_eq_true]
  refine ⟨List.all_eq_true.2 fun i hi => ?_, List.all_eq_true.2 fun i hi => ?_⟩
  ·rw [hin i (by rw [e]; simp [hi]) (ht i hi)]; rfl
  ·rw [hd i hi]; rfl
 obtain ⟨f1, f2⟩ := filter_take (D.pre_pre R.cl)
 obtain ⟨f3, f4⟩ := filter_take (D.post_pre R.cl)
 cases hm : m1 pre As S with
 | true =>
  refine key (pre.filter S) (pre.drop (pre.filter S).length ++ As ++ post) ?_ (by simp [idxS, hm]) (fun i hi => (List.mem_filter.1 hi).2) fun i hi => ?_
  ·have := List.take_append_drop (pre.filter S).length pre
   rw [f1] at this
   conv => lhs; rw [← this]
   simp
  ·rcases List.mem_append.1 hi with hi | hi
   ·rcases List.mem_append.1 hi with hi | hi
    ·exact hout i (f2 i hi)
    ·rcases D.late.2.2.2 j o R.op with h | h | h
     ·have := (mem_late_heavy D R.op h.1).1
      rw [hl] at this
      cases this
     ·cases hb : bfr (mskL all []) j i with
      | false => rfl
      | true => exact ((h i hi).2 ⟨hr, hb⟩).elim
     ·have := m1_of (S := S) fun x hx => R.before (h x hx)
      rw [hm] at this
      cases this
   ·refine hout i ?_
    cases hS : S i with
    | false => rfl
    | true => rw [D.post_m1 R.cl hi hS] at hm; cases hm
 | false =>
  refine key (pre ++ As ++ post.filter S) (post.drop (post.filter S).length) ?_ (by simp [idxS, hm]; omega) (fun i hi => ?_) fun i hi => hout i (f4 i hi)
  ·have := List.take_append_drop (post.filter S).length post
   rw [f3] at this
   conv => lhs; rw [← this]
   simp
  ·rcases List.mem_append.1 hi with hi | hi
   ·exact m1_false hm i hi
   ·exact (List.mem_filter.1 hi).2
theorem DC.light (D : DC P T M all ord env0 h0 acc HH envE hE A pre As post) {S : Nat → Bool} {j : Nat} {o : Oper} (R : Rdy all S j o) (hl : isHeavy P o.op = false) {p q : List Rw} {r : Rw} (he : acc = p ++ r :: q) (hr : r.1 = j) {H : Hp} (hH : HH[idxS pre As post S]? = some H) : ∀ k, gopD P T M all o r.2.2.1 H k = k r.2.2.2 H := by
 obtain ⟨o', H', a1, a2, a3, a4, a5⟩ := D.hat p r q he
 rw [hr, R.op] at a1
 cases a1
 rcases a5 with ⟨h, _⟩ | ⟨_, h⟩
 ·rw [hl] at h
  cases h
 ·cases hrd : isRead P o.op with
  | false => exact gopD_pure hl hrd h
  | true =>
   by_cases hi : idxS pre As post S + 1 = r.2.1
   ·have : idxS pre As post S = (hvL P all (p.map (·.1))).length := by
     rw [a3] at hi
     exact Nat.add_right_cancel (hi.trans (Nat.add_comm _ _))
    rw [this] at hH
    rw [hH] at a4
    cases a4
    exact h
   ·refine D.hrck r (by rw [he]; simp) o (by rw [hr]; exact R.op) hrd _ H hH ?_ hi
    rw [hr]
    exact D.mayAt R hl hrd
theorem DC.agree (D : DC P T M all ord env0 h0 acc HH envE hE A pre As post) {S : Nat → Bool} {j : Nat} {o : Oper} (R : Rdy all S j o) {p q : List Rw} {r : Rw} (he : acc = p ++ r :: q) (hr : r.1 = j) (hord : ord = p.map (·.1) ++ j :: q.map (·.1)) {d : Nat} (hd : d ∈ seenT all o) :
  (repF all (fS pre As S) acc env0).getD d .d = r.2.2.1.getD d .d := by
 obtain ⟨_, _, _, a2, _⟩ := D.hat p r q he
 have hn : d ∈ nmsOf all o := List.mem_append_right _ hd
 obtain ⟨w1, w2⟩ := D.writers R he hr hord hn
 rw [a2, he, repF_append, repF_skip (fun r' hr' hdst => by unfold fS; rw [w2 r' hr' hdst]; rfl)]
 refine repF_agree (fun r' hr' hdst => ?_) rfl rfl
 have hS := w1 r' hr' hdst
 unfold fS
 rw [if_pos hS, if_neg]
 rintro ⟨hm, hAs⟩
 rcases D.late.2.2.2 j o R.op with h | h | h
 ·rw [(mem_late_heavy D R.op h.1).2] at hd
  cases hd
 ·have := (h _ hAs).1
  unfold dstN at this
  unfold dstOE at hdst
  rw [hdst] at this
  simp only [memN_spec.2 hn] at this
  cases this
 ·have := m1_of (S := S) fun x hx => R.before (h x hx)
  rw [hm] at this
  cases this
end
end Go.Proofs.YtpchmdddkpocgaaGreatDoor
