/-
  No claim by itself: TopOrder: a stream is copied. | TopOrder: the server's Fire, its log's entries. | TopOrder: a push of a batch that was told already. | TopOrder: a push of a batch that was told already. | TopOrder: a client's file grows; a row's frame. | TopOrder: the world: its servers, its clients, its net. | TopOrder: checks of the first world's parts. | TopOrder: a row's frame; a queue writes. No condition.
-/
import Derived.Test.YtpchmdddkpocgaaGreatDoorP18
import Derived.Test.YtpchmdddkpocgaaGreatDoorP20
import Derived.Test.YtpchmdddkpocgaaGreatDoorP13
import Derived.KernelRfl
import Derived.Test.YtpchmdddkpocgaaGreatDoorP14
namespace Go.Proofs.YtpchmdddkpocgaaGreatDoor
set_option maxRecDepth 100000
set_option linter.unusedVariables false
set_option linter.unusedSimpArgs false
open Go.RowKit
def strC (p : Nat) : List (Q × SB) :=
 [(qn 11, .bk 117 [.p (qn 12) 0, slN (qn 15) p]),
  (qn 12, .bk 180 ([iN p, .p (qn 13) 0] ++ toldC (qn 2))),
  (qn 13, .bk 128 [.m (qn 14)]),
  (qn 14, .dm (9, 181, p) (qn 4) [])] ++
 (match p with | 0 => [] | _ => [(qn 15, .bk 50 (rowC (qn 5) p))])
noncomputable def copyK (p : Nat) : Bool := runS s161 [.p (qn 1) 0] (strS p) (qn 20) (fin1 20 (.p (qn 11) 0) [(qn 1, qn 1)] (strS p ++ strC p))
noncomputable def copyM (p : Nat) : Bool := matchS 20 (.mk (mkT (mkS (strC p))) (qn 20)) (strS p) [(qn 1, qn 11)]
theorem strSC_nd (p : Nat) : ndS (strS p ++ strC p) = true := by cases p <;> rfl
theorem Blk.sub {ρ : Q → Loc} {S S' : List (Q × SB)} (hn : ndS S = true) (hs : S' ⊆ S) {b : Nat} (h : Blk ρ S' b) : Blk ρ S b := by
 obtain ⟨q, hq, e⟩ := h
 obtain ⟨e', he', rfl, _⟩ := mkS_mem hq
 refine ⟨e'.1, ?_, e⟩
 rw [ndS_get hn e' (hs he')]
 cases e'.2 <;> simp [SB.ob]
theorem str_copy {w : World} {B : Nat} {a : Nat × Nat} {R : List (Nat × Nat)} {ρ : Q → Loc} (h : StrAt w B a R ρ) (hk : R.length ≤ 1000) (hK : copyK R.length = true) (hM : copyM R.length = true) :
  Calls Tryz.prog 161 #[.pointer (some ⟨a.1, a.2, none⟩)] w fun e w' => ∃ a' ρ' ρ2, e = .returned (.pointer (some ⟨a'.1, a'.2, none⟩)) ∧ StrAt w' B a R ρ' ∧ StrAt w' B a' R ρ2 ∧ But (Blk ρ (strS R.length)) w w' ∧
   (∀ b, StrF R ρ' b → StrF R ρ b ∨ w.heap.size ≤ b) ∧ (∀ b, StrF R ρ2 b → StrF R ρ b ∨ w.heap.size ≤ b) ∧ ∀ b, Blk ρ2 (strS R.length) b → ¬ Blk ρ' (strS R.length) b := by
 have hargs : RelL ρ (qn 20).num [.p (qn 1) 0] [.pointer (some ⟨a.1, a.2, none⟩)] := by
  refine .cons _ _ _ _ ?_ .nil
  have := Rel.p (ρ := ρ) (N := (qn 20).num) (qn 1) 0 (by decide)
  rw [h.root.1, h.root.2] at this
  exact this
 refine (SoundF.run1 d161 (nx := qn 20) h.E (by decide) (by decide) (f0 := [(qn 1, qn 1)]) (by decide) (by decide) hargs hK).mono ?_
 rintro e w' ⟨v, ρ', rfl, hv, ET, tn, hst⟩
 have hnd := strSC_nd R.length
 have s1 : strS R.length ⊆ strS R.length ++ strC R.length := List.subset_append_left _ _
 have s2 : strC R.length ⊆ strS R.length ++ strC R.length := List.subset_append_right _ _
 have EA : EmbS Tryz.prog ρ' (strS R.length) (qn 20) w' B := EmbS.sub ET hnd s1
 have EC : EmbS Tryz.prog ρ' (strC R.length) (qn 20) w' B := EmbS.sub ET hnd s2
 have hM' := hM
 unfold copyM at hM'
 rw [matchS_eq] at hM'
 obtain ⟨ρ2, E2, hc2, hl2⟩ := match_sound (N := 20) (nx := qn 20) EC (okK_spec (N := 20) (f := [(qn 1, qn 11)]) (by decide)) (by decide) rfl hM'
 have hops : ∀ {x : Value} {c' s' : Nat}, OpsAt w x c' s' → OpsAt w' x c' s' := fun {x c' s'} hx => by
  refine hx.stay (tn.frame _ hx.lt (fun q hq e => ?_))
  exact EmbS.notOp h.E (strL_noOp ..) hx q hq e
 have hρ'e : ρ' .e = ρ .e := tn.e
 have hρ2e : ρ2 .e = ρ .e := hc2.e.trans hρ'e
 have at2 : ∀ ρx : Q → Loc, ρx .e = ρ .e → EmbS Tryz.prog ρx (strS R.length) (qn 20) w' B → StrAt w' B ((ρx (qn 1)).blk, (ρx (qn 1)).base) R ρx := fun ρx hx Ex =>
  ⟨Ex, ⟨rfl, rfl⟩, fun i hi => by rw [hx]; exact ⟨(h.row i hi).1, (h.row i hi).2.1, hops (h.row i hi).2.2⟩, fun c h1 h3 => by rw [hx]; exact h.told c h1 h3, by rw [hx]; exact h.doc⟩
 have hr1 : ρ' (qn 1) = ρ (qn 1) := hst _ List.mem_cons_self
 have hAt := at2 ρ' hρ'e EA
 rw [hr1, h.root.1, h.root.2] at hAt
 have h2 : ρ2 (qn 1) = ρ' (qn 11) := (hc2.eq _ List.mem_cons_self).1
 refine ⟨((ρ2 (qn 1)).blk, (ρ2 (qn 1)).base), ρ', ρ2, ?_, hAt, at2 ρ2 hρ2e E2, ⟨tn.os, tn.tape, tn.output, tn.size, fun b hb hn => tn.frame b hb (fun q hq e => hn ⟨q, hq, e⟩)⟩, fun b hb => ?_, fun b hb => ?_, fun b hb => ?_⟩
 ·rw [h2]
  cases hv with
  | p _ _ hq => rfl
 ·rcases hb with hb | hb
  case inr => rw [hρ'e] at hb; exact .inl (.inr hb)
  obtain ⟨q, hq, rfl⟩ := Blk.sub hnd s1 hb
  rcases tn.img q hq with ⟨r, h3, h4⟩ | h3
  ·exact .inl (.inl ⟨r, h3, h4.symm⟩)
  ·exact .inr h3
 ·rcases hb with hb | hb
  case inr => rw [hρ2e] at hb; exact .inl (.inr hb)
  obtain ⟨q, hq, rfl⟩ := hb
  obtain ⟨r, h3, h4⟩ := hl2 q hq
  rw [h4]
  have hb2 : Blk ρ' (strC R.length) (ρ' r).blk := ⟨r, h3, rfl⟩
  obtain ⟨q', hq', e'⟩ := Blk.sub hnd s2 hb2
  rw [← e']
  rcases tn.img q' hq' with ⟨r', h5, h6⟩ | h5
  ·exact .inl (.inl ⟨r', h5, h6.symm⟩)
  ·exact .inr h5
 ·intro hb1
  obtain ⟨q, hq, rfl⟩ := hb
  obtain ⟨r, h3, h4⟩ := hl2 q hq
  rw [h4] at hb1
  obtain ⟨q1, hq1, e1⟩ := hb1
  obtain ⟨x1, hx1, rfl, _⟩ := mkS_mem hq1
  obtain ⟨x2, hx2, rfl, _⟩ := mkS_mem h3
  have l1 : (mkT (mkS (strS R.length ++ strC R.length))).get x1.1 ≠ .no := by rw [ndS_get hnd x1 (s1 hx1)]; cases x1.2 <;> simp [SB.ob]
  have l2 : (mkT (mkS (strS R.length ++ strC R.length))).get x2.1 ≠ .no := by rw [ndS_get hnd x2 (s2 hx2)]; cases x2.2 <;> simp [SB.ob]
  have := ET.inj _ _ l1 l2 e1
  have hsep : ∀ y1 ∈ strS R.length, ∀ y2 ∈ strC R.length, y1.1 ≠ y2.1 := by
   intro y1 h1 y2 h2
   have n1 : y1.1.num < 10 := by
    revert h1
    cases R.length <;> (intro h1; simp [strS, strL] at h1; rcases h1 with rfl | rfl | rfl | rfl | rfl <;> (dsimp only; decide))
   have n2 : 10 < y2.1.num := by
    revert h2
    cases R.length <;> (intro h2; simp [strC] at h2; rcases h2 with rfl | rfl | rfl | rfl | rfl <;> (dsimp only; decide))
   intro e
   rw [e] at n1
   omega
  exact hsep _ hx1 _ hx2 this
noncomputable def fireK (k : Nat) : Bool := runS s39 [.p (qn 1) 0] (srvS k) (qn 30) (fin1 30 .ns [(qn 1, qn 1)] (srvS k))
theorem SrvAt.same {w w' : World} {B : Nat} {a : Nat × Nat} {R : List (Nat × Nat)} {ρ ρ' : Q → Loc} (h : SrvAt w B a R ρ) (E : EmbS Tryz.prog ρ' (srvS R.length) (qn 30) w' B) (tn : Turn ρ (mkS (srvS R.length)) w ρ' (mkS (srvS R.length)) w') (hr : ρ' (qn 1) = ρ (qn 1)) :
  SrvAt w' B a R ρ' ∧ But (SrvF R ρ) w w' ∧ ∀ b, SrvF R ρ' b → SrvF R ρ b ∨ w.heap.size ≤ b := by
 have hops : ∀ {x : Value} {c' s' : Nat}, OpsAt w x c' s' → OpsAt w' x c' s' := fun {x c' s'} hx => by
  refine hx.stay (tn.frame _ hx.lt (fun q hq e => ?_))
  exact EmbS.notOp h.E (srvL_noOp ..) hx q hq e
 refine ⟨⟨E, by rw [hr]; exact h.root, fun i hi => by rw [tn.e]; exact ⟨(h.row i hi).1, (h.row i hi).2.1, hops (h.row i hi).2.2⟩, fun c h1 h3 => by rw [tn.e]; exact ⟨(h.told c h1 h3).1, fun hp => hops ((h.told c h1 h3).2 hp)⟩, by rw [tn.e]; exact h.sep, by rw [tn.e]; exact h.ge⟩, ⟨tn.os, tn.tape, tn.output, tn.size, fun b hb hn => tn.frame b hb (fun q hq e => hn (.inl ⟨q, hq, e⟩))⟩, fun b hb => ?_⟩
 rcases hb with hb | hb
 case inr => rw [tn.e] at hb; exact .inl (.inr hb)
 obtain ⟨q, hq, rfl⟩ := hb
 rcases tn.img q hq with ⟨r, h3, h4⟩ | h3
 ·exact .inl (.inl ⟨r, h3, h4.symm⟩)
 ·exact .inr h3
theorem SrvAt.arg {w : World} {B : Nat} {a : Nat × Nat} {R : List (Nat × Nat)} {ρ : Q → Loc} (h : SrvAt w B a R ρ) : RelL ρ (qn 30).num [.p (qn 1) 0] [.pointer (some ⟨a.1, a.2, none⟩)] := by
 refine .cons _ _ _ _ ?_ .nil
 have := Rel.p (ρ := ρ) (N := (qn 30).num) (qn 1) 0 (by decide)
 rw [h.root.1, h.root.2] at this
 exact this
theorem srv_fire {w : World} {B : Nat} {a : Nat × Nat} {R : List (Nat × Nat)} {ρ : Q → Loc} (h : SrvAt w B a R ρ) (hK : fireK R.length = true) :
  Calls Tryz.prog 39 #[.pointer (some ⟨a.1, a.2, none⟩)] w fun e w' => e = .returned (.slice none 0 0) ∧ ∃ ρ', SrvAt w' B a R ρ' ∧ But (SrvF R ρ) w w' ∧ ∀ b, SrvF R ρ' b → SrvF R ρ b ∨ w.heap.size ≤ b := by
 refine (SoundF.run1 d39 (nx := qn 30) h.E (by decide) (by decide) (f0 := [(qn 1, qn 1)]) (by decide) (by decide) h.arg hK).mono ?_
 rintro e w' ⟨v, ρ', rfl, hv, ET, tn, hst⟩
 cases hv
 exact ⟨rfl, ρ', h.same ET tn (hst _ List.mem_cons_self)⟩
def srvD (c s k : Nat) : List (Q × SB) := srvL k (entC (qn 6) k) (entC (qn 8) k) (rowC (qn 14) k) (setAt (setAt (toldC (qn 13)) (6 * c) (iN s)) (6 * c + 4) (.sl (qn 21) 0 1 (.u 0 1))) [] ++ [(qn 21, .bk 32 (opC c (s - 1)))]
def srvF (c s k : Nat) : List (Q × SB) := (srvL k (entC (qn 6) k) (entC (qn 8) k) (rowC (qn 14) k) (setAt (setAt (toldC (qn 13)) (6 * c) (iN s)) (6 * c + 4) (.sl (qn 31) 0 1 (.u 0 1))) [] ++ [(qn 30, .bk 32 (opC c (s - 1)))]) ++ [(qn 31, .bk 32 (opC c (s - 1)))]
noncomputable def toldK (c s k : Nat) : Bool := runS s43 [.p (qn 1) 0, .a [iN c, iN s, .sl (qn 30) 0 1 (.u 0 1)]] (srvF c s k) (qn 32) fun y h' => andB (agg5 y) (finT 30 [.d, .ns, iN 0] [(qn 1, qn 1), (qn 21, qn 31)] (srvD c s k) y h')
noncomputable def toldB (c s k : Nat) : Bool := respS 30 (srvD c s k) (srvS k)
theorem EmbS.toldT {ρ : Q → Loc} {w : World} {B k : Nat} {nx : Q} {es es2 rows told : List AV} {us : List (List Nat × Nat)} {tl : List (Q × SB)} (E : EmbS Tryz.prog ρ (srvL k es es2 rows told us ++ tl) nx w B) (hnd : ndS (srvL k es es2 rows told us ++ tl) = true) {n : Nat} {y : AV}
  (h : ∀ x, w.cell? ⟨(ρ (qn 13)).blk, (ρ (qn 13)).base + (2 + n), none⟩ = some x → (∀ z, told[n]? = some z → Rel ρ nx.num z x) → Rel ρ nx.num y x) : EmbS Tryz.prog ρ (srvL k es es2 rows (setAt told n y) us ++ tl) nx w B := by
 refine EmbS.recell E hnd (fun e' he' => ?_)
 rcases List.mem_append.1 he' with he' | h1
 case inr => exact .inl (List.mem_append_right _ h1)
 rw [srvL_eq] at he'
 rcases List.mem_append.1 he' with h1 | h1
 ·exact .inl (List.mem_append_left _ (by rw [srvL_eq]; exact List.mem_append_left _ h1))
 rcases List.mem_cons.1 h1 with rfl | h1
 ·refine .inr ⟨_, _, _, List.mem_append_left _ (srvL_fold ..), rfl, ?_, fun i hi hi' x hx hr => ?_⟩
  ·simp [setAt_len]
  ·match i, hi, hi', hr with
   | 0, _, _, hr => exact hr
   | 1, _, _, hr => exact hr
   | i + 2, hi, hi', hr =>
    have hr : Rel ρ nx.num (told[i]'(by simpa using hi)) x := hr
    show Rel ρ nx.num ((setAt told n y)[i]'(by simpa using hi')) x
    rw [setAt_get told n y i (by simpa using hi') (by simpa using hi)]
    by_cases e : i = n
    ·subst e
     rw [if_pos rfl]
     refine h x (by rw [Nat.add_comm 2 i]; exact hx) (fun z hz => ?_)
     obtain ⟨_, rfl⟩ := List.getElem?_eq_some_iff.1 hz
     exact hr
    ·rw [if_neg e]
     exact hr
 ·exact .inl (List.mem_append_left _ (by rw [srvL_eq]; exact List.mem_append_right _ (List.mem_cons_of_mem _ h1)))
theorem setAt_get? (l : List AV) (n : Nat) (y : AV) (i : Nat) : (setAt l n y)[i]? = if i = n ∧ i < l.length then some y else l[i]? := by
 by_cases h : i < l.length
 ·have h2 : i < (setAt l n y).length := by rw [setAt_len]; exact h
  rw [List.getElem?_eq_getElem h2, setAt_get l n y i h2 h]
  by_cases e : i = n
  ·rw [if_pos e, if_pos ⟨e, h⟩]
  ·rw [if_neg e, if_neg (fun x => e x.1), List.getElem?_eq_getElem h]
 ·rw [if_neg (fun x => h x.2), List.getElem?_eq_none (by rw [setAt_len]; omega), List.getElem?_eq_none (by omega)]
theorem toldC_len (q : Q) : (toldC q).length = 36 := rfl
theorem srvD_nd (c s k : Nat) : ndS (srvD c s k) = true := by cases k <;> rfl
theorem srvF_nd (c s k : Nat) (told : List AV) : ndS (srvL k (entC (qn 6) k) (entC (qn 8) k) (rowC (qn 14) k) told [] ++ ([(qn 30, SB.bk 32 (opC c (s - 1)))] ++ [(qn 31, SB.bk 32 (opC c (s - 1)))])) = true := by cases k <;> rfl
theorem srvL_rows' {k : Nat} (hk : 0 < k) (es es2 rows told : List AV) (us : List (List Nat × Nat)) : (qn 14, SB.bk 50 rows) ∈ srvL k es es2 rows told us := by
 cases k with
 | zero => omega
 | succ k => exact srvL_rows ..
theorem cntR_pos {R : List (Nat × Nat)} {c : Nat} (h : 0 < cntR R c) : 0 < R.length := by
 cases R with
 | nil => simp [cntR] at h
 | cons _ _ => simp
theorem srvL_live {k : Nat} {es es2 rows told told' : List AV} {us : List (List Nat × Nat)} {q : Q} (hq : (mkT (mkS (srvL k es es2 rows told us))).get q ≠ .no) : (mkT (mkS (srvL k es es2 rows told' us))).get q ≠ .no := by
 obtain ⟨e', he', rfl, hg⟩ := mkS_mem hq
 rw [srvL_eq] at he'
 have key : ∀ e2 ∈ srvL k es es2 rows told' us, e2.1 = e'.1 → (mkT (mkS (srvL k es es2 rows told' us))).get e'.1 ≠ .no := fun e2 h2 h3 => by
  have hx := ndS_get (S := srvL k es es2 rows told' us) (srvL_nd ..) e2 h2
  rw [← h3, hx]
  cases e2.2 <;> simp [SB.ob]
 rcases List.mem_append.1 he' with h1 | h1
 ·exact key e' (by rw [srvL_eq]; exact List.mem_append_left _ h1) rfl
 rcases List.mem_cons.1 h1 with rfl | h1
 ·exact key _ (srvL_fold ..) rfl
 ·exact key e' (by rw [srvL_eq]; exact List.mem_append_right _ (List.mem_cons_of_mem _ h1)) rfl
theorem srvS_live {k : Nat} {told' : List AV} {q : Q} (hq : (mkT (mkS (srvL k (entC (qn 6) k) (entC (qn 8) k) (rowC (qn 14) k) told' []))).get q ≠ .no) : (mkT (mkS (srvS k))).get q ≠ .no := by
 unfold srvS
 exact srvL_live hq
theorem EmbS.lt' {P : Program} {ρ : Q → Loc} {S : List (Q × SB)} {nx q : Q} {w : World} {B : Nat} (E : EmbS P ρ S nx w B) (h : (mkT (mkS S)).get q ≠ .no) : q.num < nx.num := E.lt q h
theorem live_append {S T : List (Q × SB)} {q : Q} (h : (mkT (mkS (S ++ T))).get q ≠ .no) : (∃ e ∈ T, e.1 = q) ∨ (mkT (mkS S)).get q ≠ .no := by
 by_cases hT : ∃ e ∈ T, e.1 = q
 ·exact .inl hT
 ·refine .inr ?_
  intro hS
  apply h
  clear h
  induction S with
  | nil =>
   by_cases h0 : (mkT (mkS T)).get q = .no
   ·exact h0
   ·obtain ⟨e, he, e1, _⟩ := mkS_mem h0
    exact (hT ⟨e, he, e1⟩).elim
  | cons a S ih =>
   by_cases h2 : q = a.1
   ·subst h2
    have e1 : (mkT (mkS (a :: S))).get a.1 = a.2.ob := HT.get_set_same a.2.ob a.1 (mkT (mkS S))
    rw [e1] at hS
    cases h3 : a.2 <;> (rw [h3] at hS; cases hS)
   ·have e1 : (mkT (mkS ((a :: S) ++ T))).get q = (mkT (mkS (S ++ T))).get q := HT.get_set_ne a.2.ob a.1 q _ h2
    have e2 : (mkT (mkS (a :: S))).get q = (mkT (mkS S)).get q := HT.get_set_ne a.2.ob a.1 q _ h2
    rw [e1]
    exact ih (by rw [← e2]; exact hS)
theorem srv_told {w0 w : World} {B : Nat} {a : Nat × Nat} {R : List (Nat × Nat)} {ρ : Q → Loc} (h : SrvAt w0 B a R ρ) (hb : Below w0.heap.size w0 w) {c s : Nat} (hc1 : 1 ≤ c) (hc3 : c ≤ 3) (hs : s = cntR R c) (hs0 : 0 < s) (hk : R.length ≤ 1000) {v : Value} (ho : OpsAt w v c (s - 1)) (hv : w0.heap.size ≤ opsB v)
  (hP : toldK c s R.length = true) (hB : toldB c s R.length = true) :
  Calls Tryz.prog 43 #[.pointer (some ⟨a.1, a.2, none⟩), .agg #[.int .i64 c, .int .i64 (s : Int), v]] w fun e w' =>
   (∃ r, RowVal r ∧ e = .returned (.tuple #[r, .slice none 0 0, .int .i64 0])) ∧ ∃ ρ', SrvAt w' B a R ρ' ∧ But (fun b => SrvF R ρ b ∨ b = opsB v) w w' ∧ ∀ b, SrvF R ρ' b → SrvF R ρ b ∨ w0.heap.size ≤ b := by
 have hsc : 0 < cntR R c := by omega
 have hRp := cntR_pos hsc
 obtain ⟨ht1, ht2⟩ := h.told c hc1 hc3
 obtain ⟨l2, hl20, hl21, hl22, hl23⟩ := (ht2 hsc).stay (w' := w) (hb.block _ (ht2 hsc).lt)
 have hlt2 : l2.blk < w0.heap.size := by
  have := (ht2 hsc).lt
  rw [hl20] at this
  exact this
 rw [← hs] at hl23
 obtain ⟨l, rfl, hl1, hl2, hl3⟩ := ho
 have hvb : opsB (.slice (some ⟨l.blk, l.base, none⟩) 1 l.cap) = l.blk := rfl
 rw [hvb] at hv
 have hwt : ∀ {x : Value} {c' s' : Nat}, OpsAt w0 x c' s' → OpsAt w x c' s' := fun {x c' s'} hx => hx.stay (hb.block _ hx.lt)
 have E1 : EmbS Tryz.prog ρ (srvS R.length) (qn 30) w B := Emb.stay h.E hb.size (fun q hq => hb.block _ (h.E.blk_lt' hq)) (fun b hB' => hb.block b (Nat.lt_of_lt_of_le hB' h.E.base))
 have E2 : EmbS Tryz.prog ρ (srvL R.length (entC (qn 6) R.length) (entC (qn 8) R.length) (rowC (qn 14) R.length) (setAt (toldC (qn 13)) (6 * c) (iN s)) []) (qn 30) w B := by
  refine EmbS.told E1 (fun x _ hr => ?_)
  have := rel_sv (hr _ (toldC_get (qn 13) c 0 hc1 hc3 (by omega)))
  rw [show 2 + 6 * c + 0 = 2 + 6 * c from rfl, ht1, ← hs] at this
  rw [this]
  exact iN_rel s
 have E3 := EmbS.add E2 (l := l) (ty := 32) (cs := opC c (s - 1)) (Nat.le_trans h.E.base hv) (fun q hq e => by
  have hlt : (ρ q).blk < w0.heap.size := Emb.blkLt h.E ⟨q, srvS_live hq, rfl⟩
  exact absurd hv (by rw [← e]; exact Nat.not_le.2 hlt)) (hl3 _ _)
 have hB2 : B ≤ l2.blk := by
  have := h.ge c hc1 hc3 hsc
  rw [hl20] at this
  exact this
 have E4 := EmbS.add E3 (l := l2) (ty := 32) (cs := opC c (s - 1)) hB2 (fun q hq e => by
  rcases live_append hq with ⟨e', he', rfl⟩ | hq
  ·obtain rfl := List.mem_singleton.1 he'
   rw [upd_same] at e
   omega
  ·have hq0 : (mkT (mkS (srvS R.length))).get q ≠ .no := srvS_live hq
   have hne : q ≠ qn 30 := fun e2 => by
    have := EmbS.lt' h.E hq0
    rw [e2] at this
    exact absurd this (by decide)
   rw [upd_ne _ _ hne] at e
   refine EmbS.notOp h.E (srvL_noOp ..) (ht2 hsc) q hq0 ?_
   rw [e, hl20]
   rfl) (hl23 _ _)
 have hρ1 : upd (upd ρ (qn 30) l) (qn 31) l2 (qn 1) = ρ (qn 1) := (upd_lt _ (qn 31) l2 _ (by decide)).trans (upd_lt ρ (qn 30) l _ (by decide))
 have hρe : upd (upd ρ (qn 30) l) (qn 31) l2 .e = ρ .e := (upd_lt _ (qn 31) l2 _ (by decide)).trans (upd_lt ρ (qn 30) l _ (by decide))
 have h31 : upd (upd ρ (qn 30) l) (qn 31) l2 (qn 31) = l2 := upd_same ..
 have h30 : upd (upd ρ (qn 30) l) (qn 31) l2 (qn 30) = l := (upd_lt _ (qn 31) l2 _ (by decide)).trans (upd_same ..)
 have E5 : EmbS Tryz.prog (upd (upd ρ (qn 30) l) (qn 31) l2) (srvF c s R.length) (qn 32) w B := by
  have E4' : EmbS Tryz.prog (upd (upd ρ (qn 30) l) (qn 31) l2) ((srvL R.length (entC (qn 6) R.length) (entC (qn 8) R.length) (rowC (qn 14) R.length) (setAt (toldC (qn 13)) (6 * c) (iN s)) [] ++ [(qn 30, SB.bk 32 (opC c (s - 1)))]) ++ [(qn 31, SB.bk 32 (opC c (s - 1)))]) (qn 32) w B := E4
  rw [List.append_assoc] at E4'
  unfold srvF
  rw [List.append_assoc]
  refine EmbS.toldT E4' (srvF_nd c s R.length _) (fun x _ hr => ?_)
  have := rel_sv (hr _ (by
   rw [setAt_get?, if_neg (by omega)]
   exact toldC_get (qn 13) c 4 hc1 hc3 (by omega)))
  rw [hρe, show 2 + 6 * c + 4 = 6 + 6 * c from by omega, hl20] at this
  rw [this]
  have := Rel.slu (ρ := upd (upd ρ (qn 30) l) (qn 31) l2) (N := (qn 32).num) (qn 31) 0 1 0 1 (by decide) (Nat.le_refl _) (by rw [h31]; omega) (by rw [h31]; exact hl22)
  rw [h31] at this
  exact this
 have hargs : RelL (upd (upd ρ (qn 30) l) (qn 31) l2) (qn 32).num [.p (qn 1) 0, .a [iN c, iN s, .sl (qn 30) 0 1 (.u 0 1)]] [.pointer (some ⟨a.1, a.2, none⟩), .agg #[.int .i64 c, .int .i64 (s : Int), .slice (some ⟨l.blk, l.base, none⟩) 1 l.cap]] := by
  refine .cons _ _ _ _ ?_ (.cons _ _ _ _ ?_ .nil)
  ·have := Rel.p (ρ := upd (upd ρ (qn 30) l) (qn 31) l2) (N := (qn 32).num) (qn 1) 0 (by decide)
   rw [hρ1, h.root.1, h.root.2] at this
   exact this
  ·refine .a [_, _, _] [_, _, _] (.cons _ _ _ _ (iN_rel c) (.cons _ _ _ _ (iN_rel s) (.cons _ _ _ _ ?_ .nil))) (by intro u hu; simp at hu; rcases hu with rfl | rfl | rfl <;> rfl)
   have := Rel.slu (ρ := upd (upd ρ (qn 30) l) (qn 31) l2) (N := (qn 32).num) (qn 30) 0 1 0 1 (by decide) (Nat.le_refl _) (by rw [h30]; omega) (by rw [h30]; exact hl2)
   rw [h30] at this
   exact this
 refine (SoundF.runA d43 (S0 := srvF c s R.length) (nx := qn 30) E5 (by decide) (by decide) (f0 := [(qn 1, qn 1), (qn 21, qn 31)]) (by decide) (by decide) hargs hP).mono ?_
 rintro e w' ⟨vs, ρ', rfl, hlen, hvs, ET, tn, hst, hrv⟩
 obtain ⟨r, x1, x2, rfl⟩ : ∃ r x1 x2, vs = [r, x1, x2] := by
  match vs, hlen with
  | [r, x1, x2], _ => exact ⟨r, x1, x2, rfl⟩
 have hx1 : x1 = .slice none 0 0 := by
  have := hvs 1 (by decide) (by simp)
  have : Rel ρ' (qn 30).num .ns x1 := this
  cases this
  rfl
 have hx2 : x2 = .int .i64 0 := by
  have := hvs 2 (by decide) (by simp)
  exact rel_iN (n := 0) this
 subst hx1
 subst hx2
 have hρ'e : ρ' .e = ρ .e := tn.e.trans hρe
 have h21 : ρ' (qn 21) = l2 := (hst (qn 21, qn 31) (by simp)).trans h31
 have hA : ∀ q, (mkT (mkS (srvF c s R.length))).get q ≠ .no → q = qn 30 ∨ q = qn 31 ∨ Blk ρ (srvS R.length) (upd (upd ρ (qn 30) l) (qn 31) l2 q).blk := fun q hq => by
  unfold srvF at hq
  rcases live_append hq with ⟨e', he', rfl⟩ | hq
  ·obtain rfl := List.mem_singleton.1 he'
   exact .inr (.inl rfl)
  rcases live_append hq with ⟨e', he', rfl⟩ | hq
  ·obtain rfl := List.mem_singleton.1 he'
   exact .inl rfl
  have hq0 : (mkT (mkS (srvS R.length))).get q ≠ .no := srvS_live hq
  have hlt := EmbS.lt' h.E hq0
  have e1 : upd (upd ρ (qn 30) l) (qn 31) l2 q = ρ q := (upd_lt _ (qn 31) l2 _ (Nat.lt_trans hlt (by decide))).trans (upd_lt ρ (qn 30) l _ hlt)
  exact .inr (.inr ⟨q, hq0, by rw [e1]⟩)
 have hfr : ∀ b, b < w.heap.size → ¬ (Blk ρ (srvS R.length) b ∨ b = l.blk ∨ b = l2.blk) → w'.heap[b]? = w.heap[b]? := fun b hbs hn => tn.frame b hbs (fun q hq e => by
  rcases hA q hq with rfl | rfl | h2
  ·rw [h30] at e; exact hn (.inr (.inl e.symm))
  ·rw [h31] at e; exact hn (.inr (.inr e.symm))
  ·rw [e] at h2; exact hn (.inl h2))
 have hops : ∀ {x : Value} {c' s' : Nat}, opsB x ≠ l2.blk → OpsAt w0 x c' s' → OpsAt w' x c' s' := fun {x c' s'} hxn hx => by
  have h1 := hx.lt
  refine hx.stay ((hfr _ (Nat.lt_of_lt_of_le h1 hb.size) ?_).trans (hb.block _ h1))
  rintro (⟨q, hq, e⟩ | e | e)
  ·exact EmbS.notOp h.E (srvL_noOp ..) hx q hq e
  ·omega
  ·exact hxn e
 have ER := Emb.retell ET (nx' := qn 30) (Nat.le_refl _) (by decide) hB
 have hnd := srvD_nd c s R.length
 have hm14 : (qn 14, SB.bk 50 (rowC (qn 14) R.length)) ∈ srvD c s R.length := List.mem_append_left _ (srvL_rows' hRp ..)
 have hm13 : (qn 13, SB.bk 180 ([iN R.length, .p (qn 15) 0] ++ setAt (setAt (toldC (qn 13)) (6 * c) (iN s)) (6 * c + 4) (.sl (qn 21) 0 1 (.u 0 1)))) ∈ srvD c s R.length := List.mem_append_left _ (srvL_fold ..)
 have cell : ∀ {q : Q} {ty : Nat} {cs : List AV} {j : Nat} {y : AV}, (q, SB.bk ty cs) ∈ srvD c s R.length → j < 1000000 → cs[j]? = some y → Rel ρ' (qn 30).num y ((reN ρ' (mkS (srvD c s R.length)) w' .e).vl q j) := fun {q ty cs j y} hm hj hy => by
  obtain ⟨x, c1, c2, _⟩ := EmbS.atq ET hnd hm hy
  rw [reN_vl hj c1]
  exact c2
 have hX : ∀ i j, i < R.length → j = 1 ∨ j = 2 ∨ j = 3 → (reN ρ' (mkS (srvD c s R.length)) w' .e).vl (qn 14) (5 * i + j) = (ρ .e).vl (qn 14) (5 * i + j) := fun i j hik hj => by
  rw [← hρ'e]
  exact rel_sv (cell hm14 (j := 5 * i + j) (y := .y (.sv (qn 14) (5 * i + j))) (by omega) (by
   rw [rowC_get _ _ _ j hik (by omega)]
   rcases hj with rfl | rfl | rfl <;> rfl))
 have tc : ∀ j y, (setAt (setAt (toldC (qn 13)) (6 * c) (iN s)) (6 * c + 4) (.sl (qn 21) 0 1 (.u 0 1)))[j]? = some y → j < 100000 → Rel ρ' (qn 30).num y ((reN ρ' (mkS (srvD c s R.length)) w' .e).vl (qn 13) (2 + j)) := fun j y hy hj => cell hm13 (j := 2 + j) (by omega) (by
  rw [List.getElem?_append_right (by simp only [List.length_cons, List.length_nil]; omega), show 2 + j - [iN R.length, AV.p (qn 15) 0].length = j from by simp only [List.length_cons, List.length_nil]; omega]
  exact hy)
 have hY : ∀ d j, 1 ≤ d → d ≤ 3 → c ≠ d → j = 0 ∨ j = 4 → (reN ρ' (mkS (srvD c s R.length)) w' .e).vl (qn 13) (2 + (6 * d + j)) = (ρ .e).vl (qn 13) (2 + (6 * d + j)) := fun d j hd1 hd3 hdc hj => by
  rw [← hρ'e]
  have := rel_sv (tc (6 * d + j) (.y (.sv (qn 13) (2 + 6 * d + j))) (by
   rw [setAt_get?, if_neg (by omega), setAt_get?, if_neg (by omega)]
   exact toldC_get (qn 13) d j hd1 hd3 (by omega)) (by omega))
  rw [this, Nat.add_assoc]
 have hYc0 := rel_iN (tc (6 * c) (iN s) (by
   rw [setAt_get?, if_neg (by omega), setAt_get?, if_pos ⟨rfl, by rw [toldC_len]; omega⟩]) (by omega))
 have hYc4 := tc (6 * c + 4) (.sl (qn 21) 0 1 (.u 0 1)) (by
   rw [setAt_get?, if_pos ⟨rfl, by rw [setAt_len, toldC_len]; omega⟩]) (by omega)
 have bl : ∀ {x : Value}, Rel ρ' (qn 30).num (.sl (qn 21) 0 1 (.u 0 1)) x → opsB x = l2.blk := fun hx => by cases hx; rw [← h21]; rfl
 have e26 : ∀ d, 2 + (6 * d + 4) = 6 + 6 * d := fun d => by omega
 have e20 : ∀ d, 2 + (6 * d + 0) = 2 + 6 * d := fun d => rfl
 have hYc4' := hYc4
 rw [e26] at hYc4'
 have o3 := OpsAt.of ET hnd (q := qn 21) (c := c) (s := s - 1) (by unfold srvD; simp) hYc4'
 have ops2 : opsB ((ρ .e).vl (qn 13) (6 + 6 * c)) = l2.blk := by rw [hl20]; rfl
 obtain ⟨sp1, sp2⟩ := h.sep c hc1 hc3 hsc
 rw [ops2] at sp1 sp2
 have hY4 : ∀ d, 1 ≤ d → d ≤ 3 → c ≠ d → (reN ρ' (mkS (srvD c s R.length)) w' .e).vl (qn 13) (6 + 6 * d) = (ρ .e).vl (qn 13) (6 + 6 * d) := fun d h1 h3 hdc => by
  have := hY d 4 h1 h3 hdc (.inr rfl)
  rw [e26] at this
  exact this
 have hY4b : ∀ d, 1 ≤ d → d ≤ 3 → opsB ((reN ρ' (mkS (srvD c s R.length)) w' .e).vl (qn 13) (6 + 6 * d)) = opsB ((ρ .e).vl (qn 13) (6 + 6 * d)) := fun d h1 h3 => by
  by_cases hdc : c = d
  ·subst hdc
   rw [bl hYc4', ops2]
  ·rw [hY4 d h1 h3 hdc]
 refine ⟨⟨r, hrv r rfl, rfl⟩, reN ρ' (mkS (srvD c s R.length)) w', ⟨ER, ?_, fun i hi => ?_, fun d hd1 hd3 => ?_, fun d hd1 hd3 hp => ⟨fun i hi => ?_, fun d' h1 h3 hp' hn' => ?_⟩, fun d hd1 hd3 hp => ?_⟩, ⟨tn.os, tn.tape, tn.output, tn.size, fun b hbs hn => hfr b hbs ?_⟩, fun b hbb => ?_⟩
 ·rw [reN_ne (by decide), hst _ List.mem_cons_self, hρ1]
  exact h.root
 ·rw [hX i 1 hi (.inl rfl), hX i 2 hi (.inr (.inl rfl)), hX i 3 hi (.inr (.inr rfl))]
  obtain ⟨o1, o2, o3⟩ := h.row i hi
  exact ⟨o1, o2, hops (sp1 i hi) o3⟩
 ·by_cases hdc : c = d
  ·subst hdc
   rw [hYc0, ← hs]
   exact ⟨rfl, fun _ => o3⟩
  ·rw [← e20 d, hY d 0 hd1 hd3 hdc (.inl rfl), hY4 d hd1 hd3 hdc]
   obtain ⟨o1, o2⟩ := h.told d hd1 hd3
   exact ⟨o1, fun hp => hops (sp2 d hd1 hd3 hp (Ne.symm hdc)) (o2 hp)⟩
 ·rw [hX i 3 hi (.inr (.inr rfl)), hY4b d hd1 hd3]
  exact (h.sep d hd1 hd3 hp).1 i hi
 ·rw [hY4b d hd1 hd3, hY4b d' h1 h3]
  exact (h.sep d hd1 hd3 hp).2 d' h1 h3 hp' hn'
 ·rw [hY4b d hd1 hd3]
  exact h.ge d hd1 hd3 hp
 ·rintro (h1 | h1 | h1)
  ·exact hn (.inl (.inl h1))
  ·exact hn (.inr h1)
  ·exact hn (.inl (.inr (.inr ⟨c, hc1, hc3, hsc, by rw [ops2]; exact h1⟩)))
 ·rcases hbb with hbb | ⟨i, hi, rfl⟩ | ⟨d, hd1, hd3, hp, rfl⟩
  ·obtain ⟨q, hq, rfl⟩ := hbb
   have hq1 := respT_get (respS_T hB) q hq
   have hq2 : (mkT (mkS (srvD c s R.length))).get q ≠ .no := live_of_respO hq1.2.2
   rw [reN_ne hq1.1]
   rcases tn.img q hq2 with ⟨r', h1, h2⟩ | h1
   ·rcases hA r' h1 with rfl | rfl | h3
    ·right; rw [h2, h30]; exact hv
    ·left; rw [h2, h31]; exact .inr (.inr ⟨c, hc1, hc3, hsc, ops2.symm⟩)
    ·left; left; rw [h2]; exact h3
   ·right; exact Nat.le_trans hb.size h1
  ·rw [hX i 3 hi (.inr (.inr rfl))]
   exact .inl (.inr (.inl ⟨i, hi, rfl⟩))
  ·rw [hY4b d hd1 hd3]
   exact .inl (.inr (.inr ⟨d, hd1, hd3, hp, rfl⟩))
section
variable {P : Program} {ρ : Q → Loc} {w w' : World} {B N : Nat}
theorem EmbS.addSp {S : List (Q × SB)} {nx : Q} (E : EmbS P ρ S nx w B) {l : Loc} {ty : Nat} (hB : B ≤ l.blk) (hni : ∀ q, (mkT (mkS S)).get q ≠ .no → (ρ q).blk ≠ l.blk)
  (hr : SoupAt P w l ty) : EmbS P (upd ρ nx l) (S ++ [(nx, .sp ty)]) nx.succ w B := by
 have hN : nx.num ≤ nx.succ.num := by rw [Q.num_succ]; omega
 have hme : ∀ r, r.num < nx.num → upd ρ nx l r = ρ r := upd_lt ρ nx l
 have hget : ∀ q, (mkT (mkS (S ++ [(nx, SB.sp ty)]))).get q = (if q = nx then (SB.sp ty).ob else (mkT (mkS S)).get q) := by
  intro q
  have hS : ∀ e ∈ S, e.1 = nx → False := fun e he e2 => by
   have h1 : (mkT (mkS S)).get e.1 ≠ .no := by
    clear hr hni hme hB E
    induction S with
    | nil => cases he
    | cons a S ih =>
     by_cases h2 : e.1 = a.1
     ·have : (mkT (mkS (a :: S))).get a.1 = a.2.ob := HT.get_set_same a.2.ob a.1 (mkT (mkS S))
      rw [h2, this]
      cases a.2 <;> simp [SB.ob]
     ·have : (mkT (mkS (a :: S))).get e.1 = (mkT (mkS S)).get e.1 := HT.get_set_ne a.2.ob a.1 e.1 (mkT (mkS S)) h2
      rw [this]
      rcases List.mem_cons.1 he with rfl | he
      ·exact (h2 rfl).elim
      ·exact ih he
   have := E.lt e.1 h1
   rw [e2] at this
   exact Nat.lt_irrefl _ this
  clear hr hni hme hB E
  induction S with
  | nil =>
   by_cases e : q = nx
   ·rw [if_pos e, e]
    exact HT.get_set_same _ _ _
   ·rw [if_neg e]
    exact (HT.get_set_ne _ _ _ _ e)
  | cons a S ih =>
   have ih := ih (fun e he => hS e (List.mem_cons_of_mem _ he))
   by_cases h2 : q = a.1
   ·have e1 : (mkT (mkS ((a :: S) ++ [(nx, SB.sp ty)]))).get q = a.2.ob := by rw [h2]; exact HT.get_set_same a.2.ob a.1 _
    have e2 : (mkT (mkS (a :: S))).get q = a.2.ob := by rw [h2]; exact HT.get_set_same a.2.ob a.1 _
    rw [e1, e2, if_neg (fun e => hS a List.mem_cons_self (by rw [← h2, e]))]
   ·have e1 : (mkT (mkS ((a :: S) ++ [(nx, SB.sp ty)]))).get q = (mkT (mkS (S ++ [(nx, SB.sp ty)]))).get q := HT.get_set_ne a.2.ob a.1 q _ h2
    have e2 : (mkT (mkS (a :: S))).get q = (mkT (mkS S)).get q := HT.get_set_ne a.2.ob a.1 q _ h2
    rw [e1, e2, ih]
 have hlive : ∀ r, (mkT (mkS (S ++ [(nx, SB.sp ty)]))).get r ≠ .no → r = nx ∨ ((mkT (mkS S)).get r ≠ .no ∧ r ≠ nx) := fun r hr => by
  by_cases e : r = nx
  ·exact .inl e
  ·rw [hget, if_neg e] at hr; exact .inr ⟨hr, e⟩
 have hold : ∀ r o, (mkT (mkS (S ++ [(nx, SB.sp ty)]))).get r = o → r ≠ nx → (mkT (mkS S)).get r = o := fun r o h e => by rw [hget, if_neg e] at h; exact h
 have hnew : ∀ o, (mkT (mkS (S ++ [(nx, SB.sp ty)]))).get nx = o → o = (SB.sp ty).ob := fun o h => by rw [hget, if_pos rfl] at h; exact h.symm
 refine ⟨E.base, fun r hr => ?_, fun r hr => ?_, fun r s hr hs e => ?_, fun r ty' n v' hg' => ?_, fun r es hg' => ?_, fun r o l' hg' => ?_, fun r i hg' => ?_, fun r ty' hg' => ?_, fun r ty' q0 us hg' => ?_, E.tab⟩
 ·show r.num < nx.succ.num
  rcases hlive r hr with rfl | ⟨h1, _⟩
  ·rw [Q.num_succ]; omega
  ·exact Nat.lt_of_lt_of_le (E.lt r h1) hN
 ·rcases hlive r hr with rfl | ⟨h1, h2⟩
  ·rw [upd_same]; exact hB
  ·rw [upd_ne _ _ h2]; exact E.ge r h1
 ·rcases hlive r hr with rfl | ⟨h1, h2⟩
  ·rcases hlive s hs with rfl | ⟨h3, h4⟩
   ·rfl
   ·rw [upd_same, upd_ne _ _ h4] at e; exact (hni s h3 e.symm).elim
  ·rcases hlive s hs with rfl | ⟨h3, h4⟩
   ·rw [upd_same, upd_ne _ _ h2] at e; exact (hni r h1 e).elim
   ·rw [upd_ne _ _ h2, upd_ne _ _ h4] at e; exact E.inj r s h1 h3 e
 ·by_cases e : r = nx
  ·subst e; cases hnew _ hg'
  ·have hg' := hold r _ hg' e
   rw [upd_ne _ _ e]
   exact (E.row r ty' n v' hg').mono hme hN rfl
 ·by_cases e : r = nx
  ·subst e; cases hnew _ hg'
  ·have hg' := hold r _ hg' e
   rw [upd_ne _ _ e]
   exact (E.map r es hg').mono hme hN rfl
 ·by_cases e : r = nx
  ·subst e; cases hnew _ hg'
  ·have hg' := hold r _ hg' e
   rw [upd_ne _ _ e]
   exact (E.si r o l' hg').mono rfl
 ·by_cases e : r = nx
  ·subst e; cases hnew _ hg'
  ·have hg' := hold r _ hg' e
   rw [upd_ne _ _ e]
   exact ⟨Nat.lt_of_lt_of_le (E.op r i hg').1 hN, (E.op r i hg').2.mono hme (E.op r i hg').1 rfl⟩
 ·by_cases e : r = nx
  ·subst e
   have := hnew _ hg'
   cases this
   rw [upd_same]
   exact hr
  ·have hg' := hold r _ hg' e
   rw [upd_ne _ _ e]
   exact (E.soup r ty' hg').mono rfl
 ·by_cases e : r = nx
  ·subst e; cases hnew _ hg'
  ·have hg' := hold r _ hg' e
   obtain ⟨d1, d2⟩ := E.dm r ty' q0 us hg'
   rw [upd_ne _ _ e, dmC_mono (hme .e (show (0 : Nat) < nx.num from d1))]
   exact ⟨Nat.lt_of_lt_of_le d1 hN, d2⟩
end
def dskL (lo hi cl : Nat) : List (Q × SB) :=
 [(qn 33, .bk 133 [.m (qn 34), .y (.iv .i64 9223372036854775808 (Nat.add 9223372036854775808 cl))]),
  (qn 34, .mp [(.s 5 [113, 117, 101, 117, 101], .p (qn 35) 0)]),
  (qn 35, .bk 265 [.y (.su (qn 36) lo hi), .d, .b true]),
  (qn 36, .sp 5)]
def dskS (p : Nat) : List (Q × SB) := dskL 0 (fileC p) (Nat.add 16 (Nat.mul 2 p))
def nameS : AV := .s 5 [113, 117, 101, 117, 101]
def dskM (p m : Nat) : List (Q × SB) := dskL 0 (fileC (Nat.add p m)) (Nat.add 17 (Nat.mul 2 p))
noncomputable def appK (p m : Nat) : Bool := runS s145 [.p (qn 33) 0, nameS, .y (.su (qn 40) (Nat.mul 17 m) (Nat.mul 17 m))] (dskS p ++ [(qn 40, .sp 5)]) (qn 41) (fin1 40 (iN 0) [(qn 33, qn 33)] (dskM p m))
noncomputable def syncK (p m : Nat) : Bool := runS s146 [.p (qn 33) 0, nameS] (dskM p m) (qn 40) (fin1 40 (iN 0) [(qn 33, qn 33)] (dskS (Nat.add p m)))
noncomputable def putK (p d t : Nat) : Bool := runS s166 [rowA p d t (qn 20)] [(qn 20, .bk 32 (opC d (Nat.pred t)))] (qn 21) (fin1 20 (.sl (qn 1) 0 17 (.u 0 17)) [] [(qn 1, .bk 5 (repS u8A 17))])
structure DskAt (w : World) (B : Nat) (a : Nat × Nat) (p : Nat) (ρ : Q → Loc) : Prop where
 E : EmbS Tryz.prog ρ (dskS p) (qn 40) w B
 root : (ρ (qn 33)).blk = a.1 ∧ (ρ (qn 33)).base = a.2
def qName : ByteArray := ⟨#[113, 117, 101, 117, 101]⟩
theorem nameS_rel {ρ : Q → Loc} {N : Nat} : Rel ρ N nameS (.string qName) := Rel.s (ρ := ρ) (N := N) qName
theorem cells_u8 : Tryz.prog.cellsOf 5 = 1 := by kernel_rfl
theorem dsk_sync {w : World} {B : Nat} {a : Nat × Nat} {p m : Nat} {ρ : Q → Loc} (E : EmbS Tryz.prog ρ (dskM p m) (qn 40) w B) (hr : (ρ (qn 33)).blk = a.1 ∧ (ρ (qn 33)).base = a.2) (hK : syncK p m = true) :
  Calls Tryz.prog 146 #[.pointer (some ⟨a.1, a.2, none⟩), .string qName] w fun e w' => e = .returned (.int .i64 0) ∧ ∃ ρ', DskAt w' B a (p + m) ρ' ∧ But (Blk ρ (dskM p m)) w w' ∧ ∀ b, Blk ρ' (dskS (p + m)) b → Blk ρ (dskM p m) b ∨ w.heap.size ≤ b := by
 have hargs : RelL ρ (qn 40).num [.p (qn 33) 0, nameS] [.pointer (some ⟨a.1, a.2, none⟩), .string qName] := by
  refine .cons _ _ _ _ ?_ (.cons _ _ _ _ nameS_rel .nil)
  have := Rel.p (ρ := ρ) (N := (qn 40).num) (qn 33) 0 (by decide)
  rw [hr.1, hr.2] at this
  exact this
 refine (SoundF.run1 d146 (nx := qn 40) E (by decide) (by decide) (f0 := [(qn 33, qn 33)]) (by decide) (by decide) hargs hK).mono ?_
 rintro e w' ⟨v, ρ', rfl, hv, ET, tn, hst⟩
 have hv := rel_iN (n := 0) hv
 subst hv
 have hr1 : ρ' (qn 33) = ρ (qn 33) := hst _ List.mem_cons_self
 refine ⟨rfl, ρ', ⟨ET, by rw [hr1]; exact hr⟩, ⟨tn.os, tn.tape, tn.output, tn.size, fun b hb hn => tn.frame b hb (fun q hq e => hn ⟨q, hq, e⟩)⟩, fun b hb => ?_⟩
 obtain ⟨q, hq, rfl⟩ := hb
 rcases tn.img q hq with ⟨r, h3, h4⟩ | h3
 ·exact .inl ⟨r, h3, h4.symm⟩
 ·exact .inr h3
theorem dsk_append {w : World} {B : Nat} {a : Nat × Nat} {p m : Nat} {ρ : Q → Loc} (h : DskAt w B a p ρ) {v : Value} {l : List UInt8} {base : Nat} (ho : OwnB w base 5 v l) (hl : l.length = 17 * m) (hm : 0 < m) (hbB : B ≤ base) (hne : ∀ g, v.ownBlock = some g → ¬ Blk ρ (dskS p) g) (hK : appK p m = true) :
  Calls Tryz.prog 145 #[.pointer (some ⟨a.1, a.2, none⟩), .string qName, v] w fun e w' => e = .returned (.int .i64 0) ∧ ∃ ρ', EmbS Tryz.prog ρ' (dskM p m) (qn 40) w' B ∧ ((ρ' (qn 33)).blk = a.1 ∧ (ρ' (qn 33)).base = a.2) ∧ But (fun b => Blk ρ (dskS p) b ∨ v.ownBlock = some b) w w' ∧ ∀ b, Blk ρ' (dskM p m) b → Blk ρ (dskS p) b ∨ v.ownBlock = some b ∨ w.heap.size ≤ b := by
 rcases ho.2 with ⟨_, hx⟩ | ⟨g, cap, cur, rfl, hb, hg, hnc, hcm, hcs, htake⟩
 ·omega
 have hng := hne g rfl
 have hglt : g < w.heap.size := (Array.getElem?_eq_some_iff.1 hg).1
 let L : Loc := ⟨g, 0, cap, l.length, fun _ => .empty, fun _ _ => .bool false, fun _ => .nil⟩
 have hsp : SoupAt Tryz.prog w L 5 := by
  refine ⟨⟨cur.size, by unfold World.shape?; simp only [L, hg], ?_, fun o ho => ?_⟩, fun i hi => ?_⟩
  ·show 0 + cap * _ ≤ _
   rw [hcs, cells_u8]
   omega
  ·unfold World.frozen?
   simp [L, hg]
  ·have hi : i < l.length := hi
   have hi2 : i < (l.map byteV).length := by simpa using hi
   have hcu : cur[i]? = some (byteV l[i]) := by
    have e1 : (l.map byteV)[i]? = some (byteV l[i]) := by rw [List.getElem?_map, List.getElem?_eq_getElem hi]; rfl
    rw [← e1, ← htake, List.getElem?_take_of_lt (by omega), Array.getElem?_toList]
   refine ⟨l[i], ?_⟩
   show w.cell? ⟨g, 0 + i, none⟩ = _
   unfold World.cell?
   simp only [hg, Nat.zero_add]
   simp [hcu, byteV]
 have E2 := EmbS.addSp h.E (l := L) (ty := 5) (Nat.le_trans hbB hb) (fun q hq e => hng ⟨q, hq, e⟩) hsp
 have hρ1 : upd ρ (qn 40) L (qn 33) = ρ (qn 33) := upd_lt ρ (qn 40) L _ (by decide)
 have hρL : upd ρ (qn 40) L (qn 40) = L := upd_same ..
 have hargs : RelL (upd ρ (qn 40) L) (qn 41).num [.p (qn 33) 0, nameS, .y (.su (qn 40) (Nat.mul 17 m) (Nat.mul 17 m))] [.pointer (some ⟨a.1, a.2, none⟩), .string qName, .slice (some ⟨g, 0, none⟩) l.length cap] := by
  refine .cons _ _ _ _ ?_ (.cons _ _ _ _ nameS_rel (.cons _ _ _ _ ?_ .nil))
  ·have := Rel.p (ρ := upd ρ (qn 40) L) (N := (qn 41).num) (qn 33) 0 (by decide)
   rw [hρ1, h.root.1, h.root.2] at this
   exact this
  ·have := Rel.su (ρ := upd ρ (qn 40) L) (N := (qn 41).num) (qn 40) (Nat.mul 17 m) (Nat.mul 17 m) l.length cap (by decide) (by show 17 * m ≤ _; omega) (by show _ ≤ 17 * m; omega) (by rw [hρL]; exact Nat.le_refl _) hnc (by rw [hρL]; exact Nat.le_refl _) (by simpa [maxLen] using hcm)
   rw [hρL] at this
   exact this
 have e40 : (qn 40).num = 40 := by decide
 have hK' : runS s145 [.p (qn 33) 0, nameS, .y (.su (qn 40) (Nat.mul 17 m) (Nat.mul 17 m))] (dskS p ++ [(qn 40, .sp 5)]) (qn 41) (fin1 (qn 40).num (iN 0) [(qn 33, qn 33)] (dskM p m)) = true := by
  rw [e40]
  exact hK
 have hrun := SoundF.run1 d145 (S0 := dskS p ++ [(qn 40, .sp 5)]) (S := dskM p m) (X := iN 0) (nx0 := qn 41) (nx := qn 40) E2 (by decide) (by decide) (f0 := [(qn 33, qn 33)]) (by decide) (by decide) hargs
 refine (hrun hK').mono ?_
 rintro e w' ⟨v, ρ', rfl, hv, ET, tn, hst⟩
 have hv := rel_iN (n := 0) hv
 subst hv
 have hr1 : ρ' (qn 33) = ρ (qn 33) := (hst _ List.mem_cons_self).trans hρ1
 have hA : ∀ q, (mkT (mkS (dskS p ++ [(qn 40, SB.sp 5)]))).get q ≠ .no → q = qn 40 ∨ Blk ρ (dskS p) (upd ρ (qn 40) L q).blk := fun q hq => by
  rcases live_append hq with ⟨e', he', rfl⟩ | hq
  ·obtain rfl := List.mem_singleton.1 he'
   exact .inl rfl
  ·refine .inr ⟨q, hq, ?_⟩
   rw [upd_lt ρ (qn 40) L _ (EmbS.lt' h.E hq)]
 refine ⟨rfl, ρ', ET, by rw [hr1]; exact h.root, ⟨tn.os, tn.tape, tn.output, tn.size, fun b hb hn => tn.frame b hb (fun q hq e => ?_)⟩, fun b hb => ?_⟩
 ·rcases hA q hq with rfl | h2
  ·rw [hρL] at e
   exact hn (.inr (by show some g = some b; rw [← e]))
  ·rw [e] at h2; exact hn (.inl h2)
 ·obtain ⟨q, hq, rfl⟩ := hb
  rcases tn.img q hq with ⟨r, h3, h4⟩ | h3
  ·rcases hA r h3 with rfl | h2
   ·rw [hρL] at h4
    exact .inr (.inl (by show some g = some _; rw [h4]))
   ·rw [h4]; exact .inl h2
  ·exact .inr (.inr h3)
end Go.Proofs.YtpchmdddkpocgaaGreatDoor
namespace Go.Proofs.YtpchmdddkpocgaaGreatDoor
set_option maxRecDepth 100000
set_option linter.unusedVariables false
set_option linter.unusedSimpArgs false
open Go.ChangeShapes Go.WideShapes Go.ChangeAt Go.RowKit
def wldW : List (Q × SB) :=
 [(qn 102, .bk 69 [.m (qn 103), .m (qn 104), .d, .d, .p (qn 105) 0]),
  (qn 103, .mp [(iN 1, .p (qn 111) 0)]),
  (qn 104, .mp [(iN 1, .p (qn 112) 0), (iN 2, .p (qn 113) 0), (iN 3, .p (qn 114) 0)]),
  (qn 105, .bk 130 [.ns])]
structure WldAt (w : World) (B : Nat) (wl sa : Nat × Nat) (ca : Nat → Nat × Nat) (ρ : Q → Loc) : Prop where
 E : EmbS Tryz.prog ρ wldW (qn 120) w B
 root : (ρ (qn 102)).blk = wl.1 ∧ (ρ (qn 102)).base = wl.2
 s : (ρ (qn 111)).blk = sa.1 ∧ (ρ (qn 111)).base = sa.2
 c1 : (ρ (qn 112)).blk = (ca 1).1 ∧ (ρ (qn 112)).base = (ca 1).2
 c2 : (ρ (qn 113)).blk = (ca 2).1 ∧ (ρ (qn 113)).base = (ca 2).2
 c3 : (ρ (qn 114)).blk = (ca 3).1 ∧ (ρ (qn 114)).base = (ca 3).2
def adr (a : Nat × Nat) : Value := .pointer (some ⟨a.1, a.2, none⟩)
theorem wldW_nd : ndS wldW = true := by decide
noncomputable def wldH : Hp := .mk (mkT (mkS wldW)) (qn 120)
noncomputable def lookSK (id : Nat) (y : AV) : Bool := lkK false false (zeroOf Tryz.prog 54) (.m (qn 103)) (iN id) wldH fun z => avEq z y
noncomputable def lookCK (id : Nat) (y : AV) : Bool := lkK false false (zeroOf Tryz.prog 39) (.m (qn 104)) (iN id) wldH fun z => avEq z y
def srvOf : Nat → AV
 | 1 => .p (qn 111) 0
 | _ => .np
def cliOf : Nat → AV
 | 1 => .p (qn 112) 0
 | 2 => .p (qn 113) 0
 | 3 => .p (qn 114) 0
 | _ => .np
theorem lookS_all : ∀ id, 1 ≤ id → id ≤ 7 → lookSK id (srvOf id) = true
 | 1, _, _ => by kernel_rfl
 | 2, _, _ => by kernel_rfl
 | 3, _, _ => by kernel_rfl
 | 4, _, _ => by kernel_rfl
 | 5, _, _ => by kernel_rfl
 | 6, _, _ => by kernel_rfl
 | 7, _, _ => by kernel_rfl
theorem lookC_all : ∀ id, 1 ≤ id → id ≤ 10 → lookCK id (cliOf id) = true
 | 1, _, _ => by kernel_rfl
 | 2, _, _ => by kernel_rfl
 | 3, _, _ => by kernel_rfl
 | 4, _, _ => by kernel_rfl
 | 5, _, _ => by kernel_rfl
 | 6, _, _ => by kernel_rfl
 | 7, _, _ => by kernel_rfl
 | 8, _, _ => by kernel_rfl
 | 9, _, _ => by kernel_rfl
 | 10, _, _ => by kernel_rfl
def srvV (sa : Nat × Nat) (id : Nat) : Value := if id = 1 then adr sa else .pointer none
def cliV (ca : Nat → Nat × Nat) (id : Nat) : Value := if id ≤ 3 then adr (ca id) else .pointer none
section
variable {w : World} {B : Nat} {wl sa : Nat × Nat} {ca : Nat → Nat × Nat} {ρ : Q → Loc}
theorem rel_adr {q : Q} {v : Value} {N : Nat} {a : Nat × Nat} (h : Rel ρ N (.p q 0) v) (ha : (ρ q).blk = a.1 ∧ (ρ q).base = a.2) : v = adr a := by
 cases h
 unfold adr
 rw [ha.1, ha.2]
 rfl
theorem WldAt.lookS (h : WldAt w B wl sa ca ρ) {id : Nat} (h1 : 1 ≤ id) (h7 : id ≤ 7) : (Instr.lookup 64 (.map (some (ρ (qn 103)).blk)) (.int .i64 id) false).run Tryz.prog w = .ok (srvV sa id) w := by
 have hm : Rel ρ wldH.nx.num (.m (qn 103)) (.map (some (ρ (qn 103)).blk)) := .m _ (by decide)
 obtain ⟨y, v, h2, h3, h4⟩ := lkK_sound (h := wldH) h.E (t := 64) (kt := 3) (et := 54) (by kernel_rfl) (str := false) (ok := false) (by kernel_rfl) (z := .pointer none) (by kernel_rfl) hm (iN_rel id) (lookS_all id h1 h7)
 have h4 := avEq_eq h4
 subst h4
 rw [h2]
 unfold srvV
 by_cases e : id = 1
 ·subst e
  rw [if_pos rfl, rel_adr h3 h.s]
 ·rw [if_neg e]
  have : srvOf id = .np := by unfold srvOf; split <;> first | rfl | omega
  rw [this] at h3
  cases h3
  rfl
theorem WldAt.lookC (h : WldAt w B wl sa ca ρ) {id : Nat} (h1 : 1 ≤ id) (h10 : id ≤ 10) : (Instr.lookup 65 (.map (some (ρ (qn 104)).blk)) (.int .i64 id) false).run Tryz.prog w = .ok (cliV ca id) w := by
 have hm : Rel ρ wldH.nx.num (.m (qn 104)) (.map (some (ρ (qn 104)).blk)) := .m _ (by decide)
 obtain ⟨y, v, h2, h3, h4⟩ := lkK_sound (h := wldH) h.E (t := 65) (kt := 3) (et := 39) (by kernel_rfl) (str := false) (ok := false) (by kernel_rfl) (z := .pointer none) (by kernel_rfl) hm (iN_rel id) (lookC_all id h1 h10)
 have h4 := avEq_eq h4
 subst h4
 rw [h2]
 unfold cliV
 match id, h1, h10, h3 with
 | 1, _, _, h3 => rw [if_pos (by decide), rel_adr h3 h.c1]
 | 2, _, _, h3 => rw [if_pos (by decide), rel_adr h3 h.c2]
 | 3, _, _, h3 => rw [if_pos (by decide), rel_adr h3 h.c3]
 | n + 4, _, _, h3 =>
  rw [if_neg (by omega)]
  have h3 : Rel ρ wldH.nx.num .np v := h3
  cases h3
  rfl
theorem nil_wld (u : World) (p : Addr) : (binOp .eql 40 (.pointer (some p)) (.pointer none)).run Tryz.prog u = .ok (.bool false) u := by go_simp
theorem wld_server (h : WldAt w B wl sa ca ρ) {id : Nat} (h1 : 1 ≤ id) (h7 : id ≤ 7) : Calls Tryz.prog 18 #[adr wl, .int .i64 id] w fun e w' => e = .returned (srvV sa id) ∧ w' = w := by
 have hl := h.lookS h1 h7
 obtain ⟨v, c1, c2, _⟩ := EmbS.atq h.E wldW_nd (q := qn 102) (ty := 69) (cs := [.m (qn 103), .m (qn 104), .d, .d, .p (qn 105) 0]) (by simp [wldW]) (i := 0) (y := .m (qn 103)) rfl
 rw [h.root.1, h.root.2, Nat.add_zero] at c1
 have hv : v = .map (some (ρ (qn 103)).blk) := by cases c2; rfl
 subst hv
 have hne := fun u => nil_wld u ⟨wl.1, wl.2, none⟩
 generalize srvV sa id = r at *
 unfold adr
 clear h c2
 go_enter Tryz.func18, Tryz.ntmps18
 go_wp2_with fail
 go_ret
 exact ⟨rfl, rfl⟩
theorem wld_client (h : WldAt w B wl sa ca ρ) {id : Nat} (h1 : 1 ≤ id) (h10 : id ≤ 10) : Calls Tryz.prog 13 #[adr wl, .int .i64 id] w fun e w' => e = .returned (cliV ca id) ∧ w' = w := by
 have hl := h.lookC h1 h10
 obtain ⟨v, c1, c2, _⟩ := EmbS.atq h.E wldW_nd (q := qn 102) (ty := 69) (cs := [.m (qn 103), .m (qn 104), .d, .d, .p (qn 105) 0]) (by simp [wldW]) (i := 1) (y := .m (qn 104)) rfl
 rw [h.root.1, h.root.2] at c1
 have hv : v = .map (some (ρ (qn 104)).blk) := by cases c2; rfl
 subst hv
 have hne := fun u => nil_wld u ⟨wl.1, wl.2, none⟩
 generalize cliV ca id = r at *
 unfold adr
 clear h c2
 go_enter Tryz.func13, Tryz.ntmps13
 go_wp2_with fail
 go_ret
 exact ⟨rfl, rfl⟩
theorem wld_net (h : WldAt w B wl sa ca ρ) : ∃ nt : Nat × Nat, w.cell? ⟨nt.1, nt.2, none⟩ = some (.slice none 0 0) ∧ Calls Tryz.prog 53 #[adr wl] w fun e w' => e = .returned (adr nt) ∧ w' = w := by
 obtain ⟨v, c1, c2, _⟩ := EmbS.atq h.E wldW_nd (q := qn 102) (ty := 69) (cs := [.m (qn 103), .m (qn 104), .d, .d, .p (qn 105) 0]) (by simp [wldW]) (i := 4) (y := .p (qn 105) 0) rfl
 rw [h.root.1, h.root.2] at c1
 have hv : v = .pointer (some ⟨(ρ (qn 105)).blk, (ρ (qn 105)).base, none⟩) := by cases c2; rfl
 subst hv
 obtain ⟨v, d1, d2, _⟩ := EmbS.atq h.E wldW_nd (q := qn 105) (ty := 130) (cs := [.ns]) (by simp [wldW]) (i := 0) (y := .ns) rfl
 have hv : v = .slice none 0 0 := by cases d2; rfl
 subst hv
 refine ⟨((ρ (qn 105)).blk, (ρ (qn 105)).base), d1, ?_⟩
 have hne := fun u => nil_wld u ⟨wl.1, wl.2, none⟩
 unfold adr
 clear h c2 d2 d1
 go_enter Tryz.func53, Tryz.ntmps53
 go_wp2_with fail
 go_ret
 exact ⟨rfl, rfl⟩
theorem net_len0 {nt : Nat × Nat} (h : w.cell? ⟨nt.1, nt.2, none⟩ = some (.slice none 0 0)) : Calls Tryz.prog 54 #[adr nt] w fun e w' => e = .returned (.int .i64 0) ∧ w' = w := by
 have hne : ∀ u : World, (binOp .eql 67 (.pointer (some ⟨nt.1, nt.2, none⟩)) (.pointer none)).run Tryz.prog u = .ok (.bool false) u := fun u => by go_simp
 unfold adr
 go_enter Tryz.func54, Tryz.ntmps54
 go_wp2_with fail
 go_ret
 exact ⟨rfl, rfl⟩
theorem wld_goes (a : Value) : Calls Tryz.prog 38 #[a, .slice none 0 0] w fun e w' => e = .returned (.tuple #[]) ∧ w' = w := by
 go_enter Tryz.func38, Tryz.ntmps38
 go_wp2_with fail
 go_loopw [8] (fun i wr => i = .int .i64 0 ∧ wr = w) (fun _ _ => 0)
 case atStart => exact ⟨rfl, rfl⟩
 case round =>
  obtain ⟨rfl, rfl⟩ := hrel
  go_wp2_with fail
  go_end0
  exact ⟨rfl, rfl⟩
theorem WldAt.stay {w' : World} (h : WldAt w B wl sa ca ρ) (hs : w.heap.size ≤ w'.heap.size) (hb : ∀ b, Blk ρ wldW b → w'.heap[b]? = w.heap[b]?) (ht : ∀ b, b < B → w'.heap[b]? = w.heap[b]?) : WldAt w' B wl sa ca ρ :=
 ⟨Emb.stay h.E hs (fun q hq => hb _ (blk_of_live hq)) ht, h.root, h.s, h.c1, h.c2, h.c3⟩
end
end Go.Proofs.YtpchmdddkpocgaaGreatDoor
namespace Go.Proofs.YtpchmdddkpocgaaGreatDoor
set_option maxRecDepth 100000
set_option linter.unusedVariables false
set_option linter.unusedSimpArgs false
theorem qn_num : ∀ n, (qn n).num = n
 | 0 => rfl
 | n + 1 => by show (qn n).succ.num = n + 1; rw [Q.num_succ, qn_num n]
noncomputable def wldM : Bool := matchS 120 (.mk (mkT (mkS wldN)) (qn 600)) wldW [(qn 102, qn 102), (qn 111, qn 201), (qn 112, oN (kC 1) 31), (qn 113, oN (kC 2) 31), (qn 114, oN (kC 3) 31)]
noncomputable def srvM : Bool := matchS 30 (.mk (mkT (mkS (srvN (oN 200)))) (qn 600)) (srvN qn) [(qn 1, qn 201)]
def srvO : List (Q × SB) := soupL (qn 19) (qn 18) 5 45 (srvN qn)
noncomputable def srvR : Bool := andB (soupK (qn 19) (qn 18) 5 45 (srvN qn)) (respS 30 srvO (srvS 0))
def cliO (n : Nat) : List (Q × SB) := soupL (qn 36) (qn 35) 5 (Nat.mul 15 n) (cliDN qn n)
noncomputable def cliM (k n : Nat) : Bool := andB (matchS 40 (.mk (mkT (mkS (cliDN (oN k) n))) (qn 600)) (cliDN qn n) [(qn 33, qn (Nat.add k 33))])
 (andB (soupK (qn 36) (qn 35) 5 (Nat.mul 15 n) (cliDN qn n)) (andB (matchS 40 (.mk (mkT (mkS (cliO n))) (qn 40)) (dskS 0) [(qn 33, qn 33)])
 (andB (matchS 20 (.mk (mkT (mkS (cliSN (oN k)))) (qn 600)) (cliSN qn) [(qn 1, qn (Nat.add k 1))]) (respS 20 (cliSN qn) (strS 0)))))
theorem wldM_ok : wldM = true := by kernel_rfl
theorem srvM_ok : srvM = true := by kernel_rfl
theorem srvR_ok : srvR = true := by kernel_rfl
theorem cliM_ok : ∀ c n, 1 ≤ c → c ≤ 3 → 1 ≤ n → n ≤ 8 → cliM (kC c) n = true
 | 1, 1, _, _, _, _ => by kernel_rfl
 | 1, 2, _, _, _, _ => by kernel_rfl
 | 1, 3, _, _, _, _ => by kernel_rfl
 | 1, 4, _, _, _, _ => by kernel_rfl
 | 1, 5, _, _, _, _ => by kernel_rfl
 | 1, 6, _, _, _, _ => by kernel_rfl
 | 1, 7, _, _, _, _ => by kernel_rfl
 | 1, 8, _, _, _, _ => by kernel_rfl
 | 2, 1, _, _, _, _ => by kernel_rfl
 | 2, 2, _, _, _, _ => by kernel_rfl
 | 2, 3, _, _, _, _ => by kernel_rfl
 | 2, 4, _, _, _, _ => by kernel_rfl
 | 2, 5, _, _, _, _ => by kernel_rfl
 | 2, 6, _, _, _, _ => by kernel_rfl
 | 2, 7, _, _, _, _ => by kernel_rfl
 | 2, 8, _, _, _, _ => by kernel_rfl
 | 3, 1, _, _, _, _ => by kernel_rfl
 | 3, 2, _, _, _, _ => by kernel_rfl
 | 3, 3, _, _, _, _ => by kernel_rfl
 | 3, 4, _, _, _, _ => by kernel_rfl
 | 3, 5, _, _, _, _ => by kernel_rfl
 | 3, 6, _, _, _, _ => by kernel_rfl
 | 3, 7, _, _, _, _ => by kernel_rfl
 | 3, 8, _, _, _, _ => by kernel_rfl
theorem allN_nd : ∀ n, 1 ≤ n → n ≤ 8 → ndS (allN n) = true
 | 1, _, _ => by kernel_rfl
 | 2, _, _ => by kernel_rfl
 | 3, _, _ => by kernel_rfl
 | 4, _, _ => by kernel_rfl
 | 5, _, _ => by kernel_rfl
 | 6, _, _ => by kernel_rfl
 | 7, _, _ => by kernel_rfl
 | 8, _, _ => by kernel_rfl
end Go.Proofs.YtpchmdddkpocgaaGreatDoor
namespace Go.Proofs.YtpchmdddkpocgaaGreatDoor
set_option maxRecDepth 100000
set_option linter.unusedVariables false
set_option linter.unusedSimpArgs false
open Go.ChangeShapes Go.WideShapes Go.ChangeAt Go.RowKit
theorem repS_get (x : AV) : ∀ (n i : Nat), i < n → (repS x n)[i]? = some x
 | 0, _, h => absurd h (by omega)
 | n + 1, 0, _ => rfl
 | n + 1, i + 1, h => repS_get x n i (by omega)
theorem rel_u8 {ρ : Q → Loc} {N : Nat} {x : Value} (h : Rel ρ N u8A x) : ∃ c : UInt8, x = byteV c := by
 unfold u8A at h
 cases h with
 | iv _ _ _ n h1 h2 =>
  refine ⟨UInt8.ofNat (n - 9223372036854775808), ?_⟩
  unfold byteV
  congr 1
  have : (UInt8.ofNat (n - 9223372036854775808)).toNat = n - 9223372036854775808 := by
   simp
   omega
  rw [this]
  omega
theorem put_row {w : World} {B p d t : Nat} {ρ : Q → Loc} {v : Value} (E0 : EmbS Tryz.prog ρ [] (qn 20) w B) (ho : OpsAt w v d (t - 1)) (hv : B ≤ opsB v) (hK : putK p d t = true) :
  Calls Tryz.prog 166 #[.agg #[.int .i64 ((p + 1 : Nat) : Int), .int .i64 d, .int .i64 t, v, .int .i64 0]] w fun e w' => ∃ v' l, e = .returned v' ∧ Bytes w' v' l ∧ l.length = 17 ∧ But (fun b => b = opsB v) w w' := by
 obtain ⟨l, rfl, hl1, hl2, hl3⟩ := ho
 have hvb : opsB (.slice (some ⟨l.blk, l.base, none⟩) 1 l.cap) = l.blk := rfl
 rw [hvb] at hv
 have hnil : ∀ q, (mkT (mkS ([] : List (Q × SB)))).get q = .no := fun q => by
  by_cases h : (mkT (mkS ([] : List (Q × SB)))).get q = .no
  ·exact h
  ·obtain ⟨e, he, _⟩ := mkS_mem h
   cases he
 have E1 := EmbS.add E0 (l := l) (ty := 32) (cs := opC d (t - 1)) hv (fun q hq e => hq (hnil q)) (hl3 _ _)
 have hρL : upd ρ (qn 20) l (qn 20) = l := upd_same ..
 have hargs : RelL (upd ρ (qn 20) l) (qn 21).num [rowA p d t (qn 20)] [.agg #[.int .i64 ((p + 1 : Nat) : Int), .int .i64 d, .int .i64 t, .slice (some ⟨l.blk, l.base, none⟩) 1 l.cap, .int .i64 0]] := by
  refine .cons _ _ _ _ ?_ .nil
  refine .a [_, _, _, _, _] [_, _, _, _, _] (.cons _ _ _ _ (iN_rel (p + 1)) (.cons _ _ _ _ (iN_rel d) (.cons _ _ _ _ (iN_rel t) (.cons _ _ _ _ ?_ (.cons _ _ _ _ (iN_rel 0) .nil))))) (by intro u hu; simp at hu; rcases hu with rfl | rfl | rfl | rfl | rfl <;> rfl)
  have := Rel.slu (ρ := upd ρ (qn 20) l) (N := (qn 21).num) (qn 20) 0 1 0 1 (by decide) (Nat.le_refl _) (by rw [hρL]; omega) (by rw [hρL]; exact hl2)
  rw [hρL] at this
  exact this
 have e20 : (qn 20).num = 20 := by decide
 have hrun := SoundF.run1 d166 (S0 := [(qn 20, .bk 32 (opC d (t - 1)))]) (S := [(qn 1, .bk 5 (repS u8A 17))]) (X := .sl (qn 1) 0 17 (.u 0 17)) (nx0 := qn 21) (nx := qn 20) E1 (by decide) (by decide) (f0 := []) (by decide) (by decide) hargs
 rw [e20] at hrun
 refine (hrun hK).mono ?_
 rintro e w' ⟨v', ρ', rfl, hv', ET, tn, _⟩
 have hb : But (fun b => b = l.blk) w w' := ⟨tn.os, tn.tape, tn.output, tn.size, fun b hbs hn => tn.frame b hbs (fun q hq e => by
  obtain ⟨e', he', rfl, _⟩ := mkS_mem hq
  obtain rfl := List.mem_singleton.1 he'
  dsimp only at e
  rw [hρL] at e
  exact hn e.symm)⟩
 have hcell : ∀ i, i < 17 → ∃ c : UInt8, w'.cell? ⟨(ρ' (qn 1)).blk, (ρ' (qn 1)).base + i, none⟩ = some (byteV c) := fun i hi => by
  obtain ⟨x, c1, c2, _⟩ := EmbS.atq ET (by decide) (q := qn 1) (ty := 5) (cs := repS u8A 17) (by simp) (i := i) (y := u8A) (repS_get _ _ _ hi)
  obtain ⟨c, rfl⟩ := rel_u8 c2
  exact ⟨c, c1⟩
 obtain ⟨bl, hbl, hbc⟩ := list_of_all 17 hcell
 cases hv' with
 | slu _ _ _ _ _ hq h1 h2 h3 =>
  refine ⟨_, bl, rfl, ⟨_, _, by rw [hbl], by rw [hbl]; omega, by omega, fun _ => ⟨_, _, rfl, fun j hj => ?_⟩⟩, hbl, hb⟩
  rw [Nat.add_zero]
  exact hbc j hj
end Go.Proofs.YtpchmdddkpocgaaGreatDoor
