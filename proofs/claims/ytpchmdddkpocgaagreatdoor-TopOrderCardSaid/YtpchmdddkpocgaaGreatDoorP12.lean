/-
  No claim by itself: the evaluator: a heap behind an evaluation, matched against an expected one, up to names. | the evaluator: a function, evaluated over a heap that is told by a list, leaves a heap that is told by a list. | the evaluator: cells that are told exactly become opaque; opaque ones become exact; a heap stays while its blocks do. No condition.
-/
import Derived.Test.YtpchmdddkpocgaaGreatDoorP11
namespace Go.Proofs.YtpchmdddkpocgaaGreatDoor
set_option linter.unusedVariables false
set_option linter.unusedSimpArgs false
noncomputable def lkQ (f : List (Q × Q)) (q : Q) (no : Bool) (k : Q → Bool) : Bool := List.rec (motive := fun _ => Bool) no (fun e _ ih => Bool.casesOn (motive := fun _ => Bool) (Q.eq e.1 q) ih (k e.2)) f
noncomputable def frQ (f : List (Q × Q)) (r : Q) : Bool := List.rec (motive := fun _ => Bool) true (fun e _ ih => Bool.casesOn (motive := fun _ => Bool) (Q.eq e.2 r) ih false) f
def Q.notE : Q → Bool
 | .e => false
 | _ => true
noncomputable def bindQ (N : Nat) (q r : Q) (f : List (Q × Q)) (k : List (Q × Q) → Bool) : Bool := lkQ f q (ifT q.notE (ifT (Nat.blt q.num N) (ifT (frQ f r) (k ((q, r) :: f))))) fun r' => ifT (Q.eq r' r) (k f)
noncomputable def renA (N : Nat) (x y : AV) (f : List (Q × Q)) (k : List (Q × Q) → Bool) : Bool := AV.casesOn (motive_1 := fun _ => Bool) x
 (k f) (fun _ => ifT (avEq x y) (k f)) (fun _ _ => ifT (avEq x y) (k f)) (fun _ _ => ifT (avEq x y) (k f)) (ifT (avEq x y) (k f))
 (fun q o => y.on_p fun r o' => ifT (Nat.beq o o') (bindQ N q r f k)) (ifT (avEq x y) (k f))
 (fun q o n c => y.on_sl fun r o' n' c' => ifT (Nat.beq o o') (ifT (Nat.beq n n') (ifT (AC.eq c c') (bindQ N q r f k)))) (ifT (avEq x y) (k f)) (fun _ _ _ => false) (ifT (avEq x y) (k f)) (ifT (avEq x y) (k f))
 (fun q => y.on_m fun r => bindQ N q r f k) (ifT (avEq x y) (k f)) (fun _ => false) (fun _ => false) (fun _ z => z.on_i fun _ _ => ifT (avEq x y) (k f))
 (fun s => Sy.casesOn (motive := fun _ => Bool) s (fun _ => false)
  (fun kd lo hi => y.yK (fun s' => s'.on_iv fun kd' a b => ifT (kq kd kd') (ifT (Nat.ble lo a) (ifT (Nat.ble b hi) (k f)))) (y.on_i fun kd' n => ifT (kq kd kd') (ifT (Nat.ble lo n) (ifT (Nat.ble n hi) (k f)))))
  (fun _ _ => false) (fun q lo hi => y.yK (fun s' => Sy.casesOn (motive := fun _ => Bool) s' (fun _ => false) (fun _ _ _ => false) (fun _ _ => false) (fun r lo' hi' => ifT (Nat.ble lo lo') (ifT (Nat.ble hi' hi) (bindQ N q r f k))) (fun _ _ => false)) false)
  (fun _ _ => ifT (avEq x y) (k f)))
noncomputable def renL (N : Nat) (xs : List AV) : List AV → List (Q × Q) → (List (Q × Q) → Bool) → Bool :=
 List.rec (motive := fun _ => List AV → List (Q × Q) → (List (Q × Q) → Bool) → Bool) (fun _ f k => k f) (fun x _ ih ys f k => List.casesOn (motive := fun _ => Bool) ys false fun y ys => renA N x y f fun f => ih ys f k) xs
def keyA : AV → Bool
 | .i _ _ => true
 | .s _ _ => true
 | _ => false
noncomputable def renE (N : Nat) (es : List (AV × AV)) : List (AV × AV) → List (Q × Q) → (List (Q × Q) → Bool) → Bool :=
 List.rec (motive := fun _ => List (AV × AV) → List (Q × Q) → (List (Q × Q) → Bool) → Bool) (fun es' f k => List.casesOn (motive := fun _ => Bool) es' (k f) fun _ _ => false)
  (fun e _ ih es' f k => List.casesOn (motive := fun _ => Bool) es' false fun e' es' => ifT (keyA e.1) (ifT (avEq e.1 e'.1) (renA N e.2 e'.2 f fun f => ih es' f k))) es
def usEq : List (List Nat × Nat) → List (List Nat × Nat) → Bool
 | [], [] => true
 | x :: l, y :: m => andB (leqS x.1 y.1) (andB (Nat.beq x.2 y.2) (usEq l m))
 | _, _ => false
noncomputable def renO (N : Nat) (o o' : OB) (f : List (Q × Q)) (k : List (Q × Q) → Bool) : Bool := OB.casesOn (motive := fun _ => Bool) o false
 (fun ty n v => o'.on fun ty' n' v' => ifT (Nat.beq ty ty') (ifT (Nat.ble n n') (renL N (v.range n 0) (v'.range n 0) f k)))
 (fun es => o'.onM fun es' => renE N es es' f k) (fun _ _ => false)
 (fun oy => o'.onY fun oy' => Oy.casesOn (motive := fun _ => Bool) oy (fun _ => false) (fun ty => oy'.on_soup fun ty' => ifT (Nat.beq ty ty') (k f))
  (fun ty q us => oy'.on_dm fun ty' q' us' => ifT (Nat.beq ty.1 ty'.1) (ifT (Nat.beq ty.2.1 ty'.2.1) (ifT (Nat.ble ty'.2.2 ty.2.2) (ifT (Q.eq q q') (ifT (usEq us us') (k f)))))))
noncomputable def matchT (N : Nat) (h' : Hp) (T : List (Q × OB)) : List (Q × Q) → Bool :=
 List.rec (motive := fun _ => List (Q × Q) → Bool) (fun _ => true) (fun e _ ih f => lkQ f e.1 false fun r => renO N e.2 (HT.getR r h'.t) f ih) T
def mkT (T : List (Q × OB)) : HT := T.foldr (fun e t => HT.set e.2 e.1 t) .z
theorem Q.eq_rfl (q : Q) : Q.eq q q = true := by induction q with | e => rfl | _ q ih => exact ih
structure Cons (f : List (Q × Q)) (ρ ρ' : Q → Loc) (N' : Nat) : Prop where
 eq : ∀ e ∈ f, ρ' e.1 = ρ e.2 ∧ e.1.num < N'
 e : ρ' .e = ρ .e
 pos : 0 < N'
theorem Cons.sub {f g : List (Q × Q)} {ρ ρ' : Q → Loc} {N' : Nat} (h : Cons g ρ ρ' N') (hs : f ⊆ g) : Cons f ρ ρ' N' := ⟨fun e he => h.eq e (hs he), h.e, h.pos⟩
theorem lkQ_spec {f : List (Q × Q)} {q : Q} {no : Bool} {k : Q → Bool} (h : lkQ f q no k = true) : (∃ r, (q, r) ∈ f ∧ k r = true) ∨ ((∀ e ∈ f, e.1 ≠ q) ∧ no = true) := by
 induction f with
 | nil => exact .inr ⟨by simp, h⟩
 | cons e f ih =>
  have h : Bool.casesOn (motive := fun _ => Bool) (Q.eq e.1 q) (lkQ f q no k) (k e.2) = true := h
  cases he : Q.eq e.1 q with
  | false =>
   rw [he] at h
   rcases ih h with ⟨r, h1, h2⟩ | ⟨h1, h2⟩
   ·exact .inl ⟨r, List.mem_cons_of_mem _ h1, h2⟩
   ·refine .inr ⟨fun e' he' => ?_, h2⟩
    rcases List.mem_cons.1 he' with rfl | he'
    ·intro e2; rw [e2, Q.eq_rfl] at he; cases he
    ·exact h1 e' he'
  | true =>
   rw [he] at h
   obtain rfl := Q.eq_eq he
   exact .inl ⟨e.2, List.mem_cons_self, h⟩
theorem frQ_spec {f : List (Q × Q)} {r : Q} (h : frQ f r = true) : ∀ e ∈ f, e.2 ≠ r := by
 induction f with
 | nil => simp
 | cons e f ih =>
  have h : Bool.casesOn (motive := fun _ => Bool) (Q.eq e.2 r) (frQ f r) false = true := h
  cases he : Q.eq e.2 r with
  | false =>
   rw [he] at h
   intro e' he'
   rcases List.mem_cons.1 he' with rfl | he'
   ·intro e2; rw [e2, Q.eq_rfl] at he; cases he
   ·exact ih h e' he'
  | true => rw [he] at h; cases h
structure OkF (N : Nat) (f : List (Q × Q)) : Prop where
 fst : f.Pairwise fun a b => a.1 ≠ b.1
 snd : f.Pairwise fun a b => a.2 ≠ b.2
 ne : ∀ e ∈ f, e.1 ≠ .e
 lt : ∀ e ∈ f, e.1.num < N
theorem bindQ_spec {N : Nat} {q r : Q} {f : List (Q × Q)} {k : List (Q × Q) → Bool} (hf : OkF N f) (h : bindQ N q r f k = true) : ∃ f', OkF N f' ∧ f ⊆ f' ∧ (q, r) ∈ f' ∧ k f' = true := by
 rcases lkQ_spec h with ⟨r', h1, h2⟩ | ⟨h1, h2⟩
 ·obtain ⟨h3, h4⟩ := ifT_spec h2
  obtain rfl := Q.eq_eq h3
  exact ⟨f, hf, List.Subset.refl _, h1, h4⟩
 ·obtain ⟨a1, h3⟩ := ifT_spec h2
  obtain ⟨a2, h4⟩ := ifT_lt h3
  obtain ⟨a3, h5⟩ := ifT_spec h4
  refine ⟨(q, r) :: f, ⟨List.pairwise_cons.2 ⟨fun e he e2 => h1 e he e2.symm, hf.fst⟩, List.pairwise_cons.2 ⟨fun e he e2 => frQ_spec a3 e he e2.symm, hf.snd⟩, fun e he => ?_, fun e he => ?_⟩, List.subset_cons_self _ _, List.mem_cons_self, h5⟩
  ·rcases List.mem_cons.1 he with rfl | he
   ·intro e2
    have e2 : q = .e := e2
    subst e2
    cases a1
   ·exact hf.ne e he
  ·rcases List.mem_cons.1 he with rfl | he
   ·exact a2
   ·exact hf.lt e he
def Goes (f : List (Q × Q)) (x y : AV) : Prop := ∀ (ρ ρ' : Q → Loc) (N N' : Nat), Cons f ρ ρ' N' → ∀ v, Rel ρ N y v → Rel ρ' N' x v
theorem Goes.sub {f g : List (Q × Q)} {x y : AV} (h : Goes f x y) (hs : f ⊆ g) : Goes g x y := fun ρ ρ' N N' hc v hr => h ρ ρ' N N' (hc.sub hs) v hr
theorem goes_b {f : List (Q × Q)} (b : Bool) : Goes f (.b b) (.b b) := fun _ _ _ _ _ v h => by cases h; exact .b _
theorem goes_i {f : List (Q × Q)} (k : IntKind) (n : Nat) : Goes f (.i k n) (.i k n) := fun _ _ _ _ _ v h => by cases h; exact .i _ _
theorem goes_s {f : List (Q × Q)} (n : Nat) (l : List Nat) : Goes f (.s n l) (.s n l) := fun ρ ρ' N N' _ v h => by
 generalize hz : AV.s n l = a at h
 cases h with
 | s s => exact .s s
 | _ => cases hz
theorem goes_e {f : List (Q × Q)} (t : Nat) (k : IntKind) (n : Nat) : Goes f (.e t (.i k n)) (.e t (.i k n)) := fun ρ ρ' N N' hc v h => by
 cases h with
 | e _ _ v h => exact .e _ _ _ (goes_i k n ρ ρ' N N' hc v h)
theorem goes_sv {f : List (Q × Q)} (q : Q) (i : Nat) : Goes f (.y (.sv q i)) (.y (.sv q i)) := fun ρ ρ' N N' hc v h => by
 cases h with
 | sv _ _ _ h hv h1 => exact .sv q i v hc.pos (by rw [hc.e]; exact hv) h1
theorem kq_is {k k' : IntKind} (h : kq k k' = true) : k = k' := by cases k <;> cases k' <;> first | rfl | cases h
theorem renA_spec {N : Nat} {x y : AV} {f : List (Q × Q)} {k : List (Q × Q) → Bool} (hf : OkF N f) (h : renA N x y f k = true) : ∃ f', OkF N f' ∧ f ⊆ f' ∧ Goes f' x y ∧ k f' = true := by
 have same : ∀ (z : AV), (∀ g, Goes g z z) → ifT (avEq z y) (k f) = true → ∃ f', OkF N f' ∧ f ⊆ f' ∧ Goes f' z y ∧ k f' = true := fun z hz hk => by
  obtain ⟨h1, h2⟩ := ifT_spec hk
  obtain rfl := avEq_eq h1
  exact ⟨f, hf, List.Subset.refl _, hz f, h2⟩
 cases x with
 | d => exact ⟨f, hf, List.Subset.refl _, fun _ _ _ _ _ v _ => .d v, h⟩
 | b b => exact same _ (fun g => goes_b b) h
 | i k n => exact same _ (fun g => goes_i k n) h
 | s n l => exact same _ (fun g => goes_s n l) h
 | np => exact same _ (fun g _ _ _ _ _ v h => by cases h; exact .np) h
 | p q o =>
  obtain ⟨r, o', rfl, h1⟩ := AV.on_p_spec (show y.on_p _ = true from h)
  obtain ⟨e1, h2⟩ := ifT_eq h1
  subst e1
  obtain ⟨f', a1, a2, a3, a4⟩ := bindQ_spec hf h2
  refine ⟨f', a1, a2, fun ρ ρ' N N' hc v hr => ?_, a4⟩
  cases hr with
  | p _ _ hq =>
   obtain ⟨e2, e3⟩ := hc.eq _ a3
   rw [← e2]
   exact .p q o e3
 | ns => exact same _ (fun g _ _ _ _ _ v h => by cases h; exact .ns) h
 | sl q o n c =>
  obtain ⟨r, o', n', c', rfl, h1⟩ := AV.on_sl_spec (show y.on_sl _ = true from h)
  obtain ⟨e1, h2⟩ := ifT_eq h1
  obtain ⟨e2, h3⟩ := ifT_eq h2
  obtain ⟨e3, h4⟩ := ifT_spec h3
  subst e1
  subst e2
  obtain rfl := AC.eq_eq e3
  obtain ⟨f', a1, a2, a3, a4⟩ := bindQ_spec hf h4
  refine ⟨f', a1, a2, fun ρ ρ' N N' hc v hr => ?_, a4⟩
  obtain ⟨e4, e5⟩ := hc.eq _ a3
  cases hr with
  | slk _ _ _ _ hq hcc => rw [← e4]; exact .slk q o n _ e5 hcc
  | slu _ _ _ d l hq hn hcc hm => rw [← e4] at hcc hm ⊢; exact .slu q o n d l e5 hn hcc hm
 | se => exact same _ (fun g _ _ _ _ _ v h => by cases h; exact .se _ _) h
 | f _ _ _ => cases h
 | nf => exact same _ (fun g _ _ _ _ _ v h => by cases h; exact .nf) h
 | nm => exact same _ (fun g _ _ _ _ _ v h => by cases h; exact .nm) h
 | m q =>
  obtain ⟨r, rfl, h1⟩ := AV.on_m_spec (show y.on_m _ = true from h)
  obtain ⟨f', a1, a2, a3, a4⟩ := bindQ_spec hf h1
  refine ⟨f', a1, a2, fun ρ ρ' N N' hc v hr => ?_, a4⟩
  cases hr with
  | m _ hq =>
   obtain ⟨e2, e3⟩ := hc.eq _ a3
   rw [← e2]
   exact .m q e3
 | ni => exact same _ (fun g _ _ _ _ _ v h => by cases h; exact .ni) h
 | a _ => cases h
 | t _ => cases h
 | e t z =>
  obtain ⟨kd, n, rfl, h1⟩ := AV.on_i_spec (show z.on_i _ = true from h)
  exact same _ (fun g => goes_e t kd n) h1
 | y s =>
  cases s with
  | os _ => cases h
  | iv kd lo hi =>
   rcases AV.yK_spec (show y.yK _ _ = true from h) with ⟨s', rfl, h1⟩ | h1
   ·obtain ⟨kd', a, b, rfl, h2⟩ := Sy.on_iv_spec h1
    obtain ⟨e1, h3⟩ := ifT_spec h2
    obtain ⟨e2, h4⟩ := ifT_le h3
    obtain ⟨e3, h5⟩ := ifT_le h4
    obtain rfl := kq_is e1
    refine ⟨f, hf, List.Subset.refl _, fun ρ ρ' N N' hc v hr => ?_, h5⟩
    cases hr with
    | iv _ _ _ n b1 b2 => exact .iv kd lo hi n (Nat.le_trans e2 b1) (Nat.le_trans b2 e3)
   ·obtain ⟨kd', n, rfl, h2⟩ := AV.on_i_spec h1
    obtain ⟨e1, h3⟩ := ifT_spec h2
    obtain ⟨e2, h4⟩ := ifT_le h3
    obtain ⟨e3, h5⟩ := ifT_le h4
    obtain rfl := kq_is e1
    refine ⟨f, hf, List.Subset.refl _, fun ρ ρ' N N' hc v hr => ?_, h5⟩
    cases hr
    exact .iv kd lo hi n e2 e3
  | so _ _ => cases h
  | su q lo hi =>
   rcases AV.yK_spec (show y.yK _ _ = true from h) with ⟨s', rfl, h1⟩ | h1
   ·cases s' with
    | su r lo' hi' =>
     obtain ⟨e2, h4⟩ := ifT_le (show ifT _ _ = true from h1)
     obtain ⟨e3, h5⟩ := ifT_le h4
     obtain ⟨f', a1, a2, a3, a4⟩ := bindQ_spec hf h5
     refine ⟨f', a1, a2, fun ρ ρ' N N' hc v hr => ?_, a4⟩
     obtain ⟨e4, e5⟩ := hc.eq _ a3
     cases hr with
     | su _ _ _ n c hq b1 b2 b3 b4 b5 b6 =>
      rw [← e4] at b3 b5 ⊢
      exact .su q lo hi n c e5 (Nat.le_trans e2 b1) (Nat.le_trans b2 e3) b3 b4 b5 b6
    | _ => cases h1
   ·cases h1
  | sv q i => exact same _ (fun g => goes_sv q i) h
theorem renL_spec {N : Nat} : ∀ {xs ys : List AV} {f : List (Q × Q)} {k : List (Q × Q) → Bool}, OkF N f → renL N xs ys f k = true → ∃ f', OkF N f' ∧ f ⊆ f' ∧ xs.length ≤ ys.length ∧ (∀ i (hx : i < xs.length) (hy : i < ys.length), Goes f' xs[i] ys[i]) ∧ k f' = true
 | [], ys, f, k, hf, h => ⟨f, hf, List.Subset.refl _, by simp, fun i hx => absurd hx (by simp), h⟩
 | x :: xs, [], f, k, hf, h => by cases h
 | x :: xs, y :: ys, f, k, hf, h => by
  obtain ⟨f1, a1, a2, a3, a4⟩ := renA_spec hf (show renA N x y f (fun f => renL N xs ys f k) = true from h)
  obtain ⟨f2, b1, b2, b3, b4, b5⟩ := renL_spec a1 a4
  refine ⟨f2, b1, List.Subset.trans a2 b2, by simpa using b3, fun i hx hy => ?_, b5⟩
  cases i with
  | zero => exact a3.sub b2
  | succ i => exact b4 i (by simpa using hx) (by simpa using hy)
theorem renE_spec {N : Nat} : ∀ {es es' : List (AV × AV)} {f : List (Q × Q)} {k : List (Q × Q) → Bool}, OkF N f → renE N es es' f k = true → ∃ f', OkF N f' ∧ f ⊆ f' ∧ (∀ (ρ ρ' : Q → Loc) (M M' : Nat), Cons f' ρ ρ' M' → ∀ fs, RelE ρ M es' fs → RelE ρ' M' es fs) ∧ k f' = true
 | [], [], f, k, hf, h => ⟨f, hf, List.Subset.refl _, fun _ _ _ _ _ fs hr => by cases hr; exact .nil, h⟩
 | [], _ :: _, f, k, hf, h => by cases h
 | _ :: _, [], f, k, hf, h => by cases h
 | (x, z) :: es, (x', z') :: es', f, k, hf, h => by
  obtain ⟨h1, h2⟩ := ifT_spec (show ifT (keyA x) (ifT (avEq x x') (renA N z z' f fun f => renE N es es' f k)) = true from h)
  obtain ⟨h3, h4⟩ := ifT_spec h2
  obtain rfl := avEq_eq h3
  obtain ⟨f1, a1, a2, a3, a4⟩ := renA_spec hf h4
  obtain ⟨f2, b1, b2, b3, b4⟩ := renE_spec a1 a4
  refine ⟨f2, b1, List.Subset.trans a2 b2, fun ρ ρ' M M' hc fs hr => ?_, b4⟩
  cases hr with
  | cons _ _ _ e fs hk hx t =>
   refine .cons _ _ _ e fs ?_ (a3.sub b2 ρ ρ' M M' hc _ hx) (b3 ρ ρ' M M' hc fs t)
   cases x with
   | i kk n => exact goes_i kk n ρ ρ' M M' hc _ hk
   | s n l => exact goes_s n l ρ ρ' M M' hc _ hk
   | _ => cases h1
theorem usEq_eq : ∀ {l m : List (List Nat × Nat)}, usEq l m = true → l = m
 | [], [], _ => rfl
 | [], _ :: _, h => by cases h
 | _ :: _, [], h => by cases h
 | (a, b) :: l, (c, d) :: m, h => by
  obtain ⟨h1, h2⟩ := andB_spec (show andB (leqS a c) (andB (Nat.beq b d) (usEq l m)) = true from h)
  obtain ⟨h3, h4⟩ := andB_spec h2
  rw [leqS_eq h1, Nat.eq_of_beq_eq_true h3, usEq_eq h4]
def GoesO (f : List (Q × Q)) (o o' : OB) : Prop :=
 (∃ ty n v n' v', o = .bk ty n v ∧ o' = .bk ty n' v' ∧ n ≤ n' ∧ ∀ i, i < n → Goes f (v.get i) (v'.get i)) ∨
 (∃ es es', o = .mp es ∧ o' = .mp es' ∧ ∀ (ρ ρ' : Q → Loc) (M M' : Nat), Cons f ρ ρ' M' → ∀ fs, RelE ρ M es' fs → RelE ρ' M' es fs) ∨
 (∃ ty, o = .y (.soup ty) ∧ o' = .y (.soup ty)) ∨
 (∃ a b c c' q us, o = .y (.dm (a, b, c) q us) ∧ o' = .y (.dm (a, b, c') q us) ∧ c' ≤ c)
theorem GoesO.sub {f g : List (Q × Q)} {o o' : OB} (h : GoesO f o o') (hs : f ⊆ g) : GoesO g o o' := by
 rcases h with ⟨ty, n, v, n', v', a, b, c, d⟩ | ⟨es, es', a, b, c⟩ | h | h
 ·exact .inl ⟨ty, n, v, n', v', a, b, c, fun i hi => (d i hi).sub hs⟩
 ·exact .inr (.inl ⟨es, es', a, b, fun ρ ρ' M M' hc => c ρ ρ' M M' (hc.sub hs)⟩)
 ·exact .inr (.inr (.inl h))
 ·exact .inr (.inr (.inr h))
theorem renO_spec {N : Nat} {o o' : OB} {f : List (Q × Q)} {k : List (Q × Q) → Bool} (hf : OkF N f) (h : renO N o o' f k = true) : ∃ f', OkF N f' ∧ f ⊆ f' ∧ GoesO f' o o' ∧ k f' = true := by
 cases o with
 | no => cases h
 | bk ty n v =>
  obtain ⟨ty', n', v', rfl, h1⟩ := OB.on_spec (show o'.on _ = true from h)
  obtain ⟨e1, h2⟩ := ifT_eq h1
  obtain ⟨e2, h3⟩ := ifT_le h2
  subst e1
  obtain ⟨f', a1, a2, a3, a4, a5⟩ := renL_spec hf h3
  refine ⟨f', a1, a2, .inl ⟨ty, n, v, n', v', rfl, rfl, e2, fun i hi => ?_⟩, a5⟩
  have := a4 i (by rw [V.range_length]; exact hi) (by rw [V.range_length]; exact hi)
  rw [V.range_get, V.range_get, Nat.zero_add] at this
  exact this
 | mp es =>
  obtain ⟨es', rfl, h1⟩ := OB.onM_spec (show o'.onM _ = true from h)
  obtain ⟨f', a1, a2, a3, a4⟩ := renE_spec hf h1
  exact ⟨f', a1, a2, .inr (.inl ⟨es, es', rfl, rfl, a3⟩), a4⟩
 | si _ _ => cases h
 | y oy =>
  obtain ⟨oy', rfl, h1⟩ := OB.onY_spec (show o'.onY _ = true from h)
  cases oy with
  | op _ => cases h1
  | soup ty =>
   obtain ⟨ty', rfl, h2⟩ := Oy.on_soup_spec (show oy'.on_soup _ = true from h1)
   obtain ⟨e1, h3⟩ := ifT_eq h2
   subst e1
   exact ⟨f, hf, List.Subset.refl _, .inr (.inr (.inl ⟨ty, rfl, rfl⟩)), h3⟩
  | dm ty q us =>
   obtain ⟨ty', q', us', rfl, h2⟩ := Oy.on_dm_spec (show oy'.on_dm _ = true from h1)
   obtain ⟨e1, h3⟩ := ifT_eq h2
   obtain ⟨e2, h4⟩ := ifT_eq h3
   obtain ⟨e3, h5⟩ := ifT_le h4
   obtain ⟨e4, h6⟩ := ifT_spec h5
   obtain ⟨e5, h7⟩ := ifT_spec h6
   obtain ⟨a, b, c⟩ := ty
   obtain ⟨a', b', c'⟩ := ty'
   dsimp only at e1 e2 e3
   subst e1
   subst e2
   obtain rfl := Q.eq_eq e4
   obtain rfl := usEq_eq e5
   exact ⟨f, hf, List.Subset.refl _, .inr (.inr (.inr ⟨a, b, c, c', q, us, rfl, rfl, e3⟩)), h7⟩
theorem matchT_spec {N : Nat} {h' : Hp} : ∀ {T : List (Q × OB)} {f : List (Q × Q)}, OkF N f → matchT N h' T f = true → ∃ f', OkF N f' ∧ f ⊆ f' ∧ ∀ e ∈ T, ∃ r, (e.1, r) ∈ f' ∧ GoesO f' e.2 (h'.t.get r)
 | [], f, hf, _ => ⟨f, hf, List.Subset.refl _, by simp⟩
 | e :: T, f, hf, h => by
  rcases lkQ_spec (show lkQ f e.1 false (fun r => renO N e.2 (HT.getR r h'.t) f (matchT N h' T)) = true from h) with ⟨r, h1, h2⟩ | ⟨_, h2⟩
  ·rw [HT.getR_eq] at h2
   obtain ⟨f1, a1, a2, a3, a4⟩ := renO_spec hf h2
   obtain ⟨f2, b1, b2, b3⟩ := matchT_spec a1 a4
   refine ⟨f2, b1, List.Subset.trans a2 b2, fun e' he' => ?_⟩
   rcases List.mem_cons.1 he' with rfl | he'
   ·exact ⟨r, b2 (a2 h1), a3.sub b2⟩
   ·exact b3 e' he'
  ·cases h2
theorem mkT_get : ∀ {T : List (Q × OB)} {q : Q}, (mkT T).get q ≠ .no → (q, (mkT T).get q) ∈ T
 | [], q, h => (h (HT.get_z q)).elim
 | e :: T, q, h => by
  by_cases he : q = e.1
  ·subst he
   have : (mkT (e :: T)).get e.1 = e.2 := HT.get_set_same e.2 e.1 (mkT T)
   rw [this]
   exact List.mem_cons_self
  ·have : (mkT (e :: T)).get q = (mkT T).get q := HT.get_set_ne e.2 e.1 q (mkT T) he
   rw [this] at h ⊢
   exact List.mem_cons_of_mem _ (mkT_get h)
open Classical in
noncomputable def nameF (f : List (Q × Q)) (ρ : Q → Loc) (q : Q) : Loc := if q = .e then ρ .e else if h : ∃ r, (q, r) ∈ f then ρ h.choose else ρ .e
theorem pair_fst {f : List (Q × Q)} (h : f.Pairwise fun a b => a.1 ≠ b.1) {a b : Q × Q} (ha : a ∈ f) (hb : b ∈ f) (e : a.1 = b.1) : a = b := by
 induction f with
 | nil => cases ha
 | cons c f ih =>
  obtain ⟨h1, h2⟩ := List.pairwise_cons.1 h
  rcases List.mem_cons.1 ha with rfl | ha'
  ·rcases List.mem_cons.1 hb with rfl | hb'
   ·rfl
   ·exact (h1 b hb' e).elim
  ·rcases List.mem_cons.1 hb with rfl | hb'
   ·exact (h1 a ha' e.symm).elim
   ·exact ih h2 ha' hb'
theorem pair_snd {f : List (Q × Q)} (h : f.Pairwise fun a b => a.2 ≠ b.2) {a b : Q × Q} (ha : a ∈ f) (hb : b ∈ f) (e : a.2 = b.2) : a = b := by
 induction f with
 | nil => cases ha
 | cons c f ih =>
  obtain ⟨h1, h2⟩ := List.pairwise_cons.1 h
  rcases List.mem_cons.1 ha with rfl | ha'
  ·rcases List.mem_cons.1 hb with rfl | hb'
   ·rfl
   ·exact (h1 b hb' e).elim
  ·rcases List.mem_cons.1 hb with rfl | hb'
   ·exact (h1 a ha' e.symm).elim
   ·exact ih h2 ha' hb'
theorem nameF_cons {N : Nat} {f : List (Q × Q)} {ρ : Q → Loc} (hf : OkF N f) (hN : 0 < N) : Cons f ρ (nameF f ρ) N := by
 refine ⟨fun e he => ⟨?_, hf.lt e he⟩, by unfold nameF; rw [if_pos rfl], hN⟩
 unfold nameF
 have hx : ∃ r, (e.1, r) ∈ f := ⟨e.2, he⟩
 rw [if_neg (hf.ne e he), dif_pos hx]
 exact congrArg (fun z : Q × Q => ρ z.2) (pair_fst hf.fst hx.choose_spec he rfl)
section
variable {P : Program} {ρ : Q → Loc} {w w' : World} {B : Nat}
structure Turn (ρ : Q → Loc) (T0 : List (Q × OB)) (w : World) (ρ' : Q → Loc) (T : List (Q × OB)) (w' : World) : Prop where
 e : ρ' .e = ρ .e
 size : w.heap.size ≤ w'.heap.size
 frame : ∀ b, b < w.heap.size → (∀ q, (mkT T0).get q ≠ .no → (ρ q).blk ≠ b) → w'.heap[b]? = w.heap[b]?
 img : ∀ q, (mkT T).get q ≠ .no → (∃ r, (mkT T0).get r ≠ .no ∧ (ρ' q).blk = (ρ r).blk) ∨ w.heap.size ≤ (ρ' q).blk
 os : w'.os = w.os
 tape : w'.tape = w.tape
 output : w'.output = w.output
theorem match_sound {h' : Hp} {N : Nat} {T : List (Q × OB)} {f : List (Q × Q)} {nx : Q} (E : Emb P ρ h' w B) (hf : OkF N f) (hN : 0 < N) (hnx : nx.num = N) (hm : matchT N h' T f = true) :
  ∃ ρ', Emb P ρ' (.mk (mkT T) nx) w B ∧ Cons f ρ ρ' N ∧ ∀ q, (mkT T).get q ≠ .no → ∃ r, h'.live r ∧ ρ' q = ρ r := by
 obtain ⟨g, hg, hs, hT⟩ := matchT_spec hf hm
 have hc := nameF_cons (ρ := ρ) hg hN
 have hlive : ∀ q, (mkT T).get q ≠ .no → ∃ r, (q, r) ∈ g ∧ GoesO g ((mkT T).get q) (h'.t.get r) ∧ h'.live r ∧ nameF g ρ q = ρ r ∧ q.num < N := fun q hq => by
  obtain ⟨r, h1, h2⟩ := hT _ (mkT_get hq)
  refine ⟨r, h1, h2, ?_, (hc.eq _ h1).1, (hc.eq _ h1).2⟩
  rcases h2 with ⟨_, _, _, _, _, _, h3, _⟩ | ⟨_, _, _, h3, _⟩ | ⟨_, _, h3⟩ | ⟨_, _, _, _, _, _, _, h3, _⟩ <;> (rw [Hp.live, h3]; simp)
 refine ⟨nameF g ρ, ⟨E.base, fun q hq => ?_, fun q hq => ?_, fun q q2 hq hq2 he => ?_, fun q ty n v hq => ?_, fun q es hq => ?_, fun q o l hq => ?_, fun q i hq => ?_, fun q ty hq => ?_, fun q ty q0 us hq => ?_, E.tab⟩, hc.sub hs, fun q hq => ?_⟩
 ·obtain ⟨r, h1, h2, h3, h4, h5⟩ := hlive q hq
  show q.num < nx.num
  omega
 ·obtain ⟨r, h1, h2, h3, h4, h5⟩ := hlive q hq
  rw [h4]; exact E.ge r h3
 ·obtain ⟨r, h1, h2, h3, h4, h5⟩ := hlive q hq
  obtain ⟨r', g1, g2, g3, g4, g5⟩ := hlive q2 hq2
  rw [h4, g4] at he
  have := E.inj r r' h3 g3 he
  subst this
  have := pair_snd hg.snd h1 g1 rfl
  exact congrArg Prod.fst this
 ·have hq : (mkT T).get q = .bk ty n v := hq
  obtain ⟨r, h1, h2, h3, h4, h5⟩ := hlive q (by rw [hq]; simp)
  rw [hq] at h2
  rcases h2 with ⟨ty', n', v', m', u', e1, e2, e3, e4⟩ | ⟨_, _, e1, _⟩ | ⟨_, e1, _⟩ | ⟨_, _, _, _, _, _, e1, _⟩
  ·cases e1
   have R := E.row r ty m' u' e2
   obtain ⟨sz, r1, r2, r3, r4⟩ := R.at_
   rw [h4]
   refine ⟨⟨sz, r1, by omega, r3, r4⟩, fun i hi => ?_⟩
   obtain ⟨x, c1, c2, c3⟩ := R.get i (by omega)
   refine ⟨x, c1, ?_, c3⟩
   show Rel (nameF g ρ) nx.num (v.get i) x
   rw [hnx]
   exact e4 i hi _ _ _ _ hc _ c2
  ·cases e1
  ·cases e1
  ·cases e1
 ·have hq : (mkT T).get q = .mp es := hq
  obtain ⟨r, h1, h2, h3, h4, h5⟩ := hlive q (by rw [hq]; simp)
  rw [hq] at h2
  rcases h2 with ⟨_, _, _, _, _, e1, _⟩ | ⟨es1, es2, e1, e2, e3⟩ | ⟨_, e1, _⟩ | ⟨_, _, _, _, _, _, e1, _⟩
  ·cases e1
  ·cases e1
   obtain ⟨fs, c, c1, c2, c3⟩ := E.map r es2 e2
   rw [h4]
   refine ⟨fs, c, c1, ?_, c3⟩
   show RelE (nameF g ρ) nx.num es fs.toList
   rw [hnx]
   exact e3 _ _ _ _ hc _ c2
  ·cases e1
  ·cases e1
 ·have hq : (mkT T).get q = .si o l := hq
  obtain ⟨r, h1, h2, h3, h4, h5⟩ := hlive q (by rw [hq]; simp)
  rw [hq] at h2
  rcases h2 with ⟨_, _, _, _, _, e1, _⟩ | ⟨_, _, e1, _⟩ | ⟨_, e1, _⟩ | ⟨_, _, _, _, _, _, e1, _⟩ <;> cases e1
 ·have hq : (mkT T).get q = .y (.op i) := hq
  obtain ⟨r, h1, h2, h3, h4, h5⟩ := hlive q (by rw [hq]; simp)
  rw [hq] at h2
  rcases h2 with ⟨_, _, _, _, _, e1, _⟩ | ⟨_, _, e1, _⟩ | ⟨_, e1, _⟩ | ⟨_, _, _, _, _, _, e1, _⟩ <;> cases e1
 ·have hq : (mkT T).get q = .y (.soup ty) := hq
  obtain ⟨r, h1, h2, h3, h4, h5⟩ := hlive q (by rw [hq]; simp)
  rw [hq] at h2
  rcases h2 with ⟨_, _, _, _, _, e1, _⟩ | ⟨_, _, e1, _⟩ | ⟨ty', e1, e2⟩ | ⟨_, _, _, _, _, _, e1, _⟩
  ·cases e1
  ·cases e1
  ·cases e1
   rw [h4]; exact E.soup r ty e2
  ·cases e1
 ·have hq : (mkT T).get q = .y (.dm ty q0 us) := hq
  obtain ⟨r, h1, h2, h3, h4, h5⟩ := hlive q (by rw [hq]; simp)
  rw [hq] at h2
  rcases h2 with ⟨_, _, _, _, _, e1, _⟩ | ⟨_, _, e1, _⟩ | ⟨_, e1, _⟩ | ⟨a, b, c, c', q1, us1, e1, e2, e3⟩
  ·cases e1
  ·cases e1
  ·cases e1
  ·cases e1
   obtain ⟨_, d2⟩ := E.dm r _ _ _ e2
   refine ⟨by show 0 < nx.num; omega, ?_⟩
   rw [dmC_mono hc.e, h4]
   exact World.ownsMap.mono d2 e3
 ·obtain ⟨r, h1, h2, h3, h4, h5⟩ := hlive q hq
  exact ⟨r, h3, h4⟩
noncomputable def endT (nx : Q) (Xs : List AV) (f0 : List (Q × Q)) (T : List (Q × OB)) (y : AV) (h' : Hp) : Bool := y.on_t fun ys => renL nx.num Xs ys f0 fun f => matchT nx.num h' T f
def stayK (N0 : Nat) (f0 : List (Q × Q)) : Bool := f0.all fun e => Nat.blt e.2.num N0
theorem piece_turn {T0 T : List (Q × OB)} {nx0 nx : Q} {ρ1 ρ' : Q → Loc} {h' : Hp} {f0 : List (Q × Q)} (s : Step ρ (.mk (mkT T0) nx0) w ρ1 h' w') (hc : Cons f0 ρ1 ρ' nx.num) (hl : ∀ q, (mkT T).get q ≠ .no → ∃ r, h'.live r ∧ ρ' q = ρ1 r) (h0 : 0 < nx0.num) (hf : stayK nx0.num f0 = true) :
  Turn ρ T0 w ρ' T w' ∧ ∀ e ∈ f0, ρ' e.1 = ρ e.2 := by
 refine ⟨⟨hc.e.trans (s.ext .e h0), s.size, fun b hb hn => s.frame b hb hn, fun q hq => ?_, s.os, s.tape, s.output⟩, fun e he => ?_⟩
 ·obtain ⟨r, h1, h2⟩ := hl q hq
  rw [h2]
  exact s.img r h1
 ·rw [(hc.eq e he).1]
  have := List.all_eq_true.1 hf e he
  exact s.ext _ (Nat.le_of_ble_eq_true this)
theorem SoundF.piece {f : FuncId} {sf : FS} (hs : SoundF P f sf) {T0 T : List (Q × OB)} {nx0 nx : Q} {Xs : List AV} {f0 : List (Q × Q)} (E : Emb P ρ (.mk (mkT T0) nx0) w B) (h0 : 0 < nx0.num) (h1 : 0 < nx.num) (hf : OkF nx.num f0) (hst : stayK nx0.num f0 = true)
  {args : List AV} {vals : List Value} (ha : RelL ρ nx0.num args vals) (hk : sf args (.mk (mkT T0) nx0) (endT nx Xs f0 T) = true) :
  Calls P f vals.toArray w fun e w' => ∃ (vs : List Value) (ρ' : Q → Loc), e = .returned (.tuple vs.toArray) ∧ Xs.length ≤ vs.length ∧ (∀ i (hx : i < Xs.length) (hv : i < vs.length), Rel ρ' nx.num Xs[i] vs[i]) ∧ Emb P ρ' (.mk (mkT T) nx) w' B ∧ Turn ρ T0 w ρ' T w' ∧ ∀ e ∈ f0, ρ' e.1 = ρ e.2 :=
 (hs.sound ρ _ w B args vals _ E ha hk).mono fun e w' hl => by
  cases e with
  | returned v =>
   obtain ⟨ρ1, h', y, E1, s, hr, hk⟩ := hl
   obtain ⟨ys, rfl, hk⟩ := AV.on_t_spec (show y.on_t _ = true from hk)
   obtain ⟨f1, a1, a2, a3, a4, a5⟩ := renL_spec hf hk
   obtain ⟨ρ', b1, b2, b3⟩ := match_sound E1 a1 h1 rfl a5
   obtain ⟨c1, c2⟩ := piece_turn s (b2.sub a2) b3 h0 hst
   cases hr with
   | t _ vs hv =>
    have hlen := RelL.length hv
    exact ⟨vs, ρ', rfl, by omega, fun i hx hi => a4 i hx (by omega) _ _ _ _ b2 _ (RelL.get hv i (by omega) hi), b1, c1, c2⟩
  | _ => exact hl.elim
def okK (N : Nat) : List (Q × Q) → Bool
 | [] => true
 | e :: f => andB e.1.notE (andB (Nat.blt e.1.num N) (andB (f.all fun x => !(Q.eq e.1 x.1)) (andB (f.all fun x => !(Q.eq e.2 x.2)) (okK N f))))
theorem okK_spec {N : Nat} : ∀ {f : List (Q × Q)}, okK N f = true → OkF N f
 | [], _ => ⟨List.Pairwise.nil, List.Pairwise.nil, by simp, by simp⟩
 | e :: f, h => by
  obtain ⟨h1, h2⟩ := andB_spec (show andB e.1.notE _ = true from h)
  obtain ⟨h3, h4⟩ := andB_spec h2
  obtain ⟨h5, h6⟩ := andB_spec h4
  obtain ⟨h7, h8⟩ := andB_spec h6
  obtain ⟨i1, i2, i3, i4⟩ := okK_spec h8
  refine ⟨List.pairwise_cons.2 ⟨fun x hx e2 => ?_, i1⟩, List.pairwise_cons.2 ⟨fun x hx e2 => ?_, i2⟩, fun x hx => ?_, fun x hx => ?_⟩
  ·have := List.all_eq_true.1 h5 x hx
   rw [← e2, Q.eq_rfl] at this
   cases this
  ·have := List.all_eq_true.1 h7 x hx
   rw [← e2, Q.eq_rfl] at this
   cases this
  ·rcases List.mem_cons.1 hx with rfl | hx
   ·intro e2; rw [e2] at h1; cases h1
   ·exact i3 x hx
  ·rcases List.mem_cons.1 hx with rfl | hx
   ·exact Nat.le_of_ble_eq_true h3
   ·exact i4 x hx
end
def plainA : AV → Bool
 | .b _ => true
 | .i _ _ => true
 | .s _ _ => true
 | .np => true
 | .ns => true
 | .se => true
 | .nf => true
 | .nm => true
 | .ni => true
 | .p q _ => q.notE
 | .sl q _ _ _ => q.notE
 | .m q => q.notE
 | .e _ (.i _ _) => true
 | .y (.iv _ _ _) => true
 | .y (.su q _ _) => q.notE
 | _ => false
def shortA : AV → Bool
 | .s n (c :: _) => andB (Nat.ble n 1000) (Nat.blt c 48)
 | .y (.sv _ j) => Nat.ble 1000000 j
 | _ => false
def respC (q : Q) (i : Nat) (x : AV) : AV → Bool
 | .d => true
 | .y (.sv q' j) => andB (Q.eq q q') (cond (Nat.beq j i) true (andB (Nat.beq j (Nat.add 1000000 i)) (shortA x)))
 | x' => andB (plainA x') (avEq x x')
def respL (q : Q) : List AV → List AV → Nat → Bool
 | _, [], _ => true
 | x :: l, y :: m, i => andB (respC q i x y) (respL q l m (Nat.succ i))
 | [], _ :: _, _ => false
def respE : List (AV × AV) → List (AV × AV) → Bool
 | [], [] => true
 | e :: l, e' :: m => andB (keyA e.1) (andB (avEq e.1 e'.1) (andB (plainA e'.2) (andB (avEq e.2 e'.2) (respE l m))))
 | _, _ => false
noncomputable def respO (q : Q) (o o' : OB) : Bool := OB.casesOn (motive := fun _ => Bool) o' false
 (fun ty' n' v' => o.on fun ty n v => ifT (Nat.beq ty ty') (ifT (Nat.ble n' n) (ifT (Nat.ble n' 900000) (respL q (v.range n' 0) (v'.range n' 0) 0))))
 (fun es' => o.onM fun es => respE es es') (fun _ _ => false)
 (fun oy' => OB.casesOn (motive := fun _ => Bool) o false (fun _ _ _ => false)
  (fun es => List.casesOn (motive := fun _ => Bool) es (oy'.on_dm fun _ q' us' => ifT (Q.eq q q') (List.casesOn (motive := fun _ => Bool) us' true fun _ _ => false)) fun _ _ => false) (fun _ _ => false)
  (fun oy => Oy.casesOn (motive := fun _ => Bool) oy' (fun _ => false) (fun ty' => oy.on_soup fun ty => Nat.beq ty ty')
  (fun ty' q' us' => oy.on_dm fun ty _ _ => ifT (Nat.beq ty.1 ty'.1) (ifT (Nat.beq ty.2.1 ty'.2.1) (ifT (Nat.ble ty.2.2 ty'.2.2) (ifT (Q.eq q q') (List.casesOn (motive := fun _ => Bool) us' true fun _ _ => false)))))))
noncomputable def respT (N : Nat) (T : List (Q × OB)) : List (Q × OB) → Bool :=
 List.rec (motive := fun _ => List (Q × OB) → Bool) (fun T' => List.casesOn (motive := fun _ => Bool) T' true fun _ _ => false)
  (fun e _ ih T' => List.casesOn (motive := fun _ => Bool) T' true fun e' T' => ifT (Q.eq e.1 e'.1) (ifT e.1.notE (ifT (Nat.blt e.1.num N) (ifT (respO e.1 e.2 e'.2) (ih T'))))) T
section
variable {P : Program} {ρ : Q → Loc} {w w' : World} {B N : Nat}
noncomputable def reN (ρ : Q → Loc) (T : List (Q × OB)) (w : World) (q : Q) : Loc :=
 if q = .e then { ρ .e with
  vl := fun q j => (w.cell? ⟨(ρ q).blk, (ρ q).base + (if j < 1000000 then j else j - 1000000), none⟩).getD (.bool false)
  mc := fun q => match (mkT T).get q with | .y (.dm _ q0 us) => dmC ρ q0 us | _ => .map [] } else ρ q
theorem reN_ne {T : List (Q × OB)} {q : Q} (h : q ≠ .e) : reN ρ T w q = ρ q := if_neg h
theorem notE_ne {q : Q} (h : q.notE = true) : q ≠ .e := fun e => by rw [e] at h; cases h
theorem plainA_rel {ρ' : Q → Loc} {N' : Nat} (hN : N ≤ N') (hρ : ∀ q, q ≠ .e → ρ' q = ρ q) {x : AV} {v : Value} (hx : plainA x = true) (h : Rel ρ N x v) : Rel ρ' N' x v := by
 cases h with
 | d => cases hx
 | b => exact .b _
 | i => exact .i _ _
 | s => exact .s _
 | np => exact .np
 | p q o h => have := hρ q (notE_ne hx); rw [← this]; exact .p q o (Nat.lt_of_lt_of_le h hN)
 | ns => exact .ns
 | slk q o n c h hc => have := hρ q (notE_ne hx); rw [← this]; exact .slk q o n c (Nat.lt_of_lt_of_le h hN) hc
 | slu q o n d l h hn hc hm => have := hρ q (notE_ne hx); rw [← this] at hc hm ⊢; exact .slu q o n d l (Nat.lt_of_lt_of_le h hN) hn hc hm
 | se => exact .se _ _
 | f => cases hx
 | nf => exact .nf
 | nm => exact .nm
 | m q h => have := hρ q (notE_ne hx); rw [← this]; exact .m q (Nat.lt_of_lt_of_le h hN)
 | ni => exact .ni
 | a => cases hx
 | t => cases hx
 | e t x v h =>
  cases x with
  | i k n => cases h; exact .e _ _ _ (.i _ _)
  | _ => cases hx
 | os => cases hx
 | iv k lo hi n h1 h2 => exact .iv k lo hi n h1 h2
 | so => cases hx
 | sv => cases hx
 | su q lo hi n c h h1 h2 hf hc hm hx' => have := hρ q (notE_ne hx); rw [← this] at hf hm ⊢; exact .su q lo hi n c (Nat.lt_of_lt_of_le h hN) h1 h2 hf hc hm hx'
theorem shortA_ok {x : AV} {v : Value} (hx : shortA x = true) (h : Rel ρ N x v) : ∃ s, v = .string s ∧ s.size ≤ 1000 ∧ ∃ c r, s.data.toList = c :: r ∧ c.toNat < 48 := by
 cases x with
 | s n l =>
  cases l with
  | nil => cases hx
  | cons c r =>
   obtain ⟨h1, h2⟩ := andB_spec (show andB (Nat.ble n 1000) (Nat.blt c 48) = true from hx)
   have h1 := Nat.le_of_ble_eq_true h1
   have h2 : c < 48 := Nat.le_of_ble_eq_true h2
   generalize hz : AV.s n (c :: r) = a at h
   cases h with
   | s s =>
    injection hz with e1 e2
    cases hl : s.data.toList with
    | nil => rw [hl] at e2; cases e2
    | cons c' r' =>
     rw [hl] at e2
     simp only [List.map_cons, List.cons.injEq] at e2
     exact ⟨s, rfl, by omega, c', r', hl, by omega⟩
   | _ => cases hz
 | y s =>
  cases s with
  | sv q j =>
   cases h with
   | sv _ _ _ h hv h1 => exact h1.2 (Nat.le_of_ble_eq_true hx)
  | _ => cases hx
 | _ => cases hx
theorem respC_rel {T : List (Q × OB)} {N' : Nat} (hN : N ≤ N') (h0 : 0 < N') {q : Q} {i : Nat} (hi : i < 1000000) {x x' : AV} {v : Value} (hr : respC q i x x' = true) (hc : w.cell? ⟨(ρ q).blk, (ρ q).base + i, none⟩ = some v) (h : Rel ρ N x v) (h1 : v.oneCell' = true) : Rel (reN ρ T w) N' x' v := by
 have hpl : ∀ z, (andB (plainA z) (avEq x z)) = true → Rel (reN ρ T w) N' z v := fun z hz => by
  obtain ⟨a, b⟩ := andB_spec hz
  obtain rfl := avEq_eq b
  exact plainA_rel hN (fun q hq => reN_ne hq) a h
 cases x' with
 | d => exact .d v
 | y s =>
  cases s with
  | sv q' j =>
   obtain ⟨a, b⟩ := andB_spec (show andB (Q.eq q q') _ = true from hr)
   obtain rfl := Q.eq_eq a
   have hv : ∀ j, (if j < 1000000 then j else j - 1000000) = i → (reN ρ T w .e).vl q j = v := fun j hj => by
    unfold reN
    rw [if_pos rfl]
    dsimp only
    rw [hj, hc]
    rfl
   cases hb : Nat.beq j i with
   | true =>
    have := Nat.eq_of_beq_eq_true hb
    subst this
    exact .sv q j v h0 (hv j (by rw [if_pos hi])) ⟨h1, fun hh => by omega⟩
   | false =>
    rw [hb] at b
    obtain ⟨b1, b2⟩ := andB_spec (show andB (Nat.beq j (Nat.add 1000000 i)) (shortA x) = true from b)
    have := Nat.eq_of_beq_eq_true b1
    have : j = 1000000 + i := this
    subst this
    exact .sv q _ v h0 (hv _ (by rw [if_neg (by omega)]; omega)) ⟨h1, fun _ => shortA_ok b2 h⟩
  | _ => exact hpl _ hr
 | _ => exact hpl _ hr
theorem respL_spec {q : Q} : ∀ {l m : List AV} {i : Nat}, respL q l m i = true → m.length ≤ l.length ∧ ∀ j (hm : j < m.length) (hl : j < l.length), respC q (i + j) l[j] m[j] = true
 | _, [], i, _ => ⟨by simp, fun j hm => absurd hm (by simp)⟩
 | [], _ :: _, i, h => by cases h
 | x :: l, y :: m, i, h => by
  obtain ⟨h1, h2⟩ := andB_spec (show andB (respC q i x y) (respL q l m (Nat.succ i)) = true from h)
  obtain ⟨h3, h4⟩ := respL_spec h2
  refine ⟨by simpa using h3, fun j hm hl => ?_⟩
  cases j with
  | zero => exact h1
  | succ j =>
   have := h4 j (by simpa using hm) (by simpa using hl)
   rw [show i + (j + 1) = Nat.succ i + j from by omega]
   exact this
theorem respE_rel {T : List (Q × OB)} {N' : Nat} (hN : N ≤ N') : ∀ {es es' : List (AV × AV)} {fs : List MapEntry}, respE es es' = true → RelE ρ N es fs → RelE (reN ρ T w) N' es' fs
 | [], [], fs, _, h => by cases h; exact .nil
 | [], _ :: _, _, h, _ => by cases h
 | _ :: _, [], _, h, _ => by cases h
 | (x, z) :: es, (x', z') :: es', fs, h, hr => by
  obtain ⟨h1, h2⟩ := andB_spec (show andB (keyA x) (andB (avEq x x') (andB (plainA z') (andB (avEq z z') (respE es es')))) = true from h)
  obtain ⟨h3, h4⟩ := andB_spec h2
  obtain ⟨h5, h6⟩ := andB_spec h4
  obtain ⟨h7, h8⟩ := andB_spec h6
  obtain rfl := avEq_eq h3
  obtain rfl := avEq_eq h7
  cases hr with
  | cons _ _ _ e fs hk hx t =>
   have hp : plainA x = true := by cases x <;> first | rfl | cases h1
   exact .cons _ _ _ e fs (plainA_rel hN (fun q hq => reN_ne hq) hp hk) (plainA_rel hN (fun q hq => reN_ne hq) h5 hx) (respE_rel hN h8 t)
theorem respT_get {N : Nat} : ∀ {T T' : List (Q × OB)}, respT N T T' = true → ∀ q, (mkT T').get q ≠ .no → q ≠ .e ∧ q.num < N ∧ respO q ((mkT T).get q) ((mkT T').get q) = true
 | [], [], _, q, hq => (hq (HT.get_z q)).elim
 | [], _ :: _, h, _, _ => by cases h
 | _ :: _, [], _, q, hq => (hq (HT.get_z q)).elim
 | e :: T, e' :: T', h, q, hq => by
  obtain ⟨h1, h2⟩ := ifT_spec (show ifT (Q.eq e.1 e'.1) (ifT e.1.notE (ifT (Nat.blt e.1.num N) (ifT (respO e.1 e.2 e'.2) (respT N T T')))) = true from h)
  obtain ⟨h3, h4⟩ := ifT_spec h2
  obtain ⟨h5, h6⟩ := ifT_lt h4
  obtain ⟨h7, h8⟩ := ifT_spec h6
  have e1 := Q.eq_eq h1
  by_cases he : q = e.1
  ·subst he
   have g1 : (mkT (e :: T)).get e.1 = e.2 := HT.get_set_same e.2 e.1 (mkT T)
   have g2 : (mkT (e' :: T')).get e.1 = e'.2 := by rw [e1]; exact HT.get_set_same e'.2 e'.1 (mkT T')
   rw [g1, g2]
   exact ⟨notE_ne h3, h5, h7⟩
  ·have g1 : (mkT (e :: T)).get q = (mkT T).get q := HT.get_set_ne e.2 e.1 q (mkT T) he
   have g2 : (mkT (e' :: T')).get q = (mkT T').get q := HT.get_set_ne e'.2 e'.1 q (mkT T') (by rw [← e1]; exact he)
   rw [g2] at hq ⊢
   rw [g1]
   exact respT_get h8 q hq
theorem live_of_respO {q : Q} {o o' : OB} (h : respO q o o' = true) : o ≠ .no := by
 cases o' with
 | no => cases h
 | bk _ _ _ => obtain ⟨_, _, _, rfl, _⟩ := OB.on_spec (show o.on _ = true from h); simp
 | mp _ => obtain ⟨_, rfl, _⟩ := OB.onM_spec (show o.onM _ = true from h); simp
 | si _ _ => cases h
 | y _ => cases o <;> first | (cases h; done) | simp
theorem Emb.respell {T T' : List (Q × OB)} {nx nx' : Q} (E : Emb P ρ (.mk (mkT T) nx) w B) (hn : nx.num ≤ nx'.num) (h0 : 0 < nx'.num) (h : respT nx'.num T T' = true) : Emb P (reN ρ T w) (.mk (mkT T') nx') w B := by
 have hl : ∀ q, (mkT T').get q ≠ .no → (mkT T).get q ≠ .no := fun q hq => live_of_respO (respT_get h q hq).2.2
 have hb : ∀ q, (mkT T').get q ≠ .no → reN ρ T w q = ρ q := fun q hq => reN_ne (respT_get h q hq).1
 refine ⟨E.base, fun q hq => (respT_get h q hq).2.1, fun q hq => ?_, fun q r hq hr he => ?_, fun q ty n v hq => ?_, fun q es hq => ?_, fun q o l hq => ?_, fun q i hq => ?_, fun q ty hq => ?_, fun q ty q0 us hq => ?_, E.tab⟩
 ·rw [hb q hq]; exact E.ge q (hl q hq)
 ·rw [hb q hq, hb r hr] at he
  exact E.inj q r (hl q hq) (hl r hr) he
 ·have hq : (mkT T').get q = .bk ty n v := hq
  have hq0 : (mkT T').get q ≠ .no := by rw [hq]; simp
  obtain ⟨a1, a2, a3⟩ := respT_get h q hq0
  rw [hq] at a3
  obtain ⟨ty0, n0, v0, g0, h1⟩ := OB.on_spec (show ((mkT T).get q).on _ = true from a3)
  obtain ⟨e1, h2⟩ := ifT_eq h1
  obtain ⟨e2, h3⟩ := ifT_le h2
  obtain ⟨e3, h4⟩ := ifT_le h3
  subst e1
  have R := E.row q ty0 n0 v0 g0
  obtain ⟨sz, r1, r2, r3, r4⟩ := R.at_
  rw [hb q hq0]
  refine ⟨⟨sz, r1, by omega, r3, r4⟩, fun i hi => ?_⟩
  obtain ⟨x, c1, c2, c3⟩ := R.get i (by omega)
  have h5 := (respL_spec h4).2 i (by rw [V.range_length]; exact hi) (by rw [V.range_length]; exact hi)
  rw [V.range_get, V.range_get, Nat.zero_add] at h5
  exact ⟨x, c1, respC_rel hn h0 (by omega) h5 c1 c2 c3, c3⟩
 ·have hq : (mkT T').get q = .mp es := hq
  have hq0 : (mkT T').get q ≠ .no := by rw [hq]; simp
  obtain ⟨a1, a2, a3⟩ := respT_get h q hq0
  rw [hq] at a3
  obtain ⟨es0, g0, h1⟩ := OB.onM_spec (show ((mkT T).get q).onM _ = true from a3)
  obtain ⟨fs, c, c1, c2, c3⟩ := E.map q es0 g0
  rw [hb q hq0]
  exact ⟨fs, c, c1, respE_rel hn h1 c2, c3⟩
 ·have hq : (mkT T').get q = .si o l := hq
  have a3 := (respT_get h q (by rw [hq]; simp)).2.2
  rw [hq] at a3
  cases a3
 ·have hq : (mkT T').get q = .y (.op i) := hq
  have a3 := (respT_get h q (by rw [hq]; simp)).2.2
  rw [hq] at a3
  cases hg : (mkT T).get q with
  | mp es => rw [hg] at a3; cases es <;> cases a3
  | _ => rw [hg] at a3; cases a3
 ·have hq : (mkT T').get q = .y (.soup ty) := hq
  have hq0 : (mkT T').get q ≠ .no := by rw [hq]; simp
  have a3 := (respT_get h q hq0).2.2
  rw [hq] at a3
  obtain ⟨oy, g0, h1⟩ : ∃ oy, (mkT T).get q = .y oy ∧ (oy.on_soup fun ty0 => Nat.beq ty0 ty) = true := by
   cases hg : (mkT T).get q with
   | mp es => rw [hg] at a3; cases es <;> cases a3
   | y oy => rw [hg] at a3; exact ⟨oy, rfl, a3⟩
   | _ => rw [hg] at a3; cases a3
  obtain ⟨ty0, rfl, h2⟩ := Oy.on_soup_spec (show oy.on_soup _ = true from h1)
  have := Nat.eq_of_beq_eq_true h2
  subst this
  rw [hb q hq0]
  exact E.soup q ty0 g0
 ·have hq : (mkT T').get q = .y (.dm ty q0 us) := hq
  have hq0 : (mkT T').get q ≠ .no := by rw [hq]; simp
  have a3 := (respT_get h q hq0).2.2
  rw [hq] at a3
  cases hg : (mkT T).get q with
  | no => rw [hg] at a3; cases a3
  | bk _ _ _ => rw [hg] at a3; cases a3
  | si _ _ => rw [hg] at a3; cases a3
  | mp es =>
   rw [hg] at a3
   cases es with
   | cons _ _ => cases a3
   | nil =>
    obtain ⟨e4, h6⟩ := ifT_spec (show ifT (Q.eq q q0) (List.casesOn (motive := fun _ => Bool) us true fun _ _ => false) = true from a3)
    obtain rfl := Q.eq_eq e4
    cases us with
    | cons _ _ => cases h6
    | nil =>
     obtain ⟨fs, c, c1, c2, _⟩ := E.map q [] hg
     obtain rfl : fs = #[] := by cases hf : fs.toList with
      | nil => exact Array.toList_eq_nil_iff.1 hf
      | cons _ _ => rw [hf] at c2; cases c2
     refine ⟨h0, ?_⟩
     rw [hb q hq0]
     have e : dmC (reN ρ T w) q [] = .map [] := by
      show (reN ρ T w .e).mc q = _
      unfold reN
      rw [if_pos rfl]
      dsimp only
      rw [hg]
     rw [e]
     exact ⟨#[], c, c1, ⟨by simp, MapKept.stamped_empty c, by simp⟩, by simp, rfl⟩
  | y oy =>
  rw [hg] at a3
  have g0 := hg
  obtain ⟨ty0, q1, us1, rfl, h2⟩ := Oy.on_dm_spec (show oy.on_dm _ = true from a3)
  obtain ⟨e1, h3⟩ := ifT_eq h2
  obtain ⟨e2, h4⟩ := ifT_eq h3
  obtain ⟨e3, h5⟩ := ifT_le h4
  obtain ⟨e4, h6⟩ := ifT_spec h5
  obtain ⟨t1, t2, t3⟩ := ty
  obtain ⟨s1, s2, s3⟩ := ty0
  dsimp only at e1 e2 e3
  subst e1
  subst e2
  obtain rfl := Q.eq_eq e4
  cases us with
  | cons _ _ => cases h6
  | nil =>
   obtain ⟨_, d2⟩ := E.dm q _ _ _ g0
   refine ⟨h0, ?_⟩
   rw [hb q hq0]
   have e : dmC (reN ρ T w) q [] = dmC ρ q1 us1 := by
    show (reN ρ T w .e).mc q = _
    unfold reN
    rw [if_pos rfl]
    dsimp only
    rw [g0]
   rw [e]
   exact World.ownsMap.mono d2 e3
end
end Go.Proofs.YtpchmdddkpocgaaGreatDoor
