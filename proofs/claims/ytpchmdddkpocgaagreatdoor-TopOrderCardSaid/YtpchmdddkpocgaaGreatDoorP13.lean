/-
  No claim by itself: the evaluator: heaps told by lists of cells. | TopOrder: the server's heap behind k rows, told by lists. | TopOrder: a client's stream and queue, told by lists. | the evaluator: told heaps: any check at the end; parts; cells read; a block added; a heap stays while its blocks do. | the evaluator: told heaps: a row of bytes becomes one of whatever content. | TopOrder: the world behind the first writes, told by lists. No condition.
-/
import Derived.Test.YtpchmdddkpocgaaGreatDoorP12
namespace Go.Proofs.YtpchmdddkpocgaaGreatDoor
set_option linter.unusedVariables false
set_option linter.unusedSimpArgs false
inductive SB where
 | bk (ty : Nat) (cs : List AV)
 | mp (es : List (AV × AV))
 | sp (ty : Nat)
 | dm (ty : Nat × Nat × Nat) (q : Q) (us : List (List Nat × Nat))
noncomputable def V.ofF : Nat → (Nat → AV) → V
 | 0, _ => .z
 | m + 1, f => .n (f 0) (V.ofF m fun j => f (4 * j + 1)) (V.ofF m fun j => f (4 * j + 2)) (V.ofF m fun j => f (4 * j + 3)) (V.ofF m fun j => f (4 * j + 4))
theorem V.ofF_get : ∀ (n : Nat) (f : Nat → AV) (i : Nat), i < n → (V.ofF n f).get i = f i
 | 0, _, i, h => absurd h (by omega)
 | m + 1, f, 0, _ => rfl
 | m + 1, f, i + 1, h => by
  show (V.n (f 0) (V.ofF m fun j => f (4 * j + 1)) (V.ofF m fun j => f (4 * j + 2)) (V.ofF m fun j => f (4 * j + 3)) (V.ofF m fun j => f (4 * j + 4))).get (i + 1) = _
  rw [V.get_n]
  show sel4 (i % 4) ((V.ofF m fun j => f (4 * j + 1)).get (i / 4)) ((V.ofF m fun j => f (4 * j + 2)).get (i / 4)) ((V.ofF m fun j => f (4 * j + 3)).get (i / 4)) ((V.ofF m fun j => f (4 * j + 4)).get (i / 4)) = _
  have hi : i / 4 < m := by omega
  have : i % 4 = 0 ∨ i % 4 = 1 ∨ i % 4 = 2 ∨ i % 4 = 3 := by omega
  rcases this with e | e | e | e
  ·rw [sel4_0 _ _ _ _ e, V.ofF_get m _ _ hi]; congr 1; omega
  ·rw [sel4_1 _ _ _ _ e, V.ofF_get m _ _ hi]; congr 1; omega
  ·rw [sel4_2 _ _ _ _ e, V.ofF_get m _ _ hi]; congr 1; omega
  ·rw [sel4_3 _ _ _ _ e, V.ofF_get m _ _ hi]; congr 1; omega
noncomputable def V.ofL (cs : List AV) : V := V.ofF cs.length fun i => cs.getD i .d
theorem V.ofL_get (cs : List AV) (i : Nat) (h : i < cs.length) : (V.ofL cs).get i = cs[i] := by
 unfold V.ofL
 rw [V.ofF_get _ _ _ h, List.getD_eq_getElem?_getD, List.getElem?_eq_getElem h]
 rfl
theorem V.ofL_range (cs : List AV) : (V.ofL cs).range cs.length 0 = cs := by
 apply List.ext_getElem
 ·rw [V.range_length]
 ·intro i h1 h2
  rw [V.range_get, Nat.zero_add, V.ofL_get cs i h2]
noncomputable def SB.ob : SB → OB
 | .bk ty cs => .bk ty cs.length (V.ofL cs)
 | .mp es => .mp es
 | .sp ty => .y (.soup ty)
 | .dm ty q us => .y (.dm ty q us)
noncomputable def mkS (S : List (Q × SB)) : List (Q × OB) := S.map fun e => (e.1, e.2.ob)
noncomputable def buildK (S : List (Q × SB)) (k : HT → Bool) : Bool :=
 List.rec (motive := fun _ => (HT → Bool) → Bool) (fun k => k .z)
  (fun e _ ih k => ih fun t => SB.casesOn (motive := fun _ => Bool) e.2 (fun ty cs => V.setL cs .z 0 fun v => natK cs.length fun n => HT.setK (.bk ty n v) e.1 t k) (fun es => HT.setK (.mp es) e.1 t k) (fun ty => HT.setK (.y (.soup ty)) e.1 t k) (fun ty q us => HT.setK (.y (.dm ty q us)) e.1 t k)) S k
def SameO (o o' : OB) : Prop := o = o' ∨ ∃ ty n v v', o = .bk ty n v ∧ o' = .bk ty n v' ∧ ∀ i, i < n → v'.get i = v.get i
theorem buildK_spec : ∀ {S : List (Q × SB)} {k : HT → Bool}, buildK S k = true → ∃ t, (∀ q, SameO ((mkT (mkS S)).get q) (t.get q)) ∧ k t = true
 | [], k, h => ⟨.z, fun q => .inl rfl, h⟩
 | e :: S, k, h => by
  obtain ⟨t, ht, hk⟩ := buildK_spec (show buildK S (fun t => SB.casesOn (motive := fun _ => Bool) e.2 (fun ty cs => V.setL cs .z 0 fun v => natK cs.length fun n => HT.setK (.bk ty n v) e.1 t k) (fun es => HT.setK (.mp es) e.1 t k) (fun ty => HT.setK (.y (.soup ty)) e.1 t k) (fun ty q us => HT.setK (.y (.dm ty q us)) e.1 t k)) = true from h)
  have fin : ∀ (o : OB), SameO e.2.ob o → HT.setK o e.1 t k = true → ∃ t, (∀ q, SameO ((mkT (mkS (e :: S))).get q) (t.get q)) ∧ k t = true := fun o ho hk => by
   rw [HT.setK_eq] at hk
   refine ⟨_, fun q => ?_, hk⟩
   by_cases he : q = e.1
   ·subst he
    have : (mkT (mkS (e :: S))).get e.1 = e.2.ob := HT.get_set_same e.2.ob e.1 (mkT (mkS S))
    rw [this, HT.get_set_same]
    exact ho
   ·have : (mkT (mkS (e :: S))).get q = (mkT (mkS S)).get q := HT.get_set_ne e.2.ob e.1 q (mkT (mkS S)) he
    rw [this, HT.get_set_ne _ _ _ _ he]
    exact ht q
  obtain ⟨q0, sb⟩ := e
  cases sb with
  | bk ty cs =>
   obtain ⟨v, h1, h2, _⟩ := V.setL_spec cs .z 0 _ hk
   rw [natK_eq] at h1
   refine fin _ (.inr ⟨ty, cs.length, V.ofL cs, v, rfl, rfl, fun i hi => ?_⟩) h1
   rw [V.ofL_get cs i hi]
   have := h2 i hi
   rw [Nat.zero_add] at this
   exact this
  | mp es => exact fin _ (.inl rfl) hk
  | sp ty => exact fin _ (.inl rfl) hk
  | dm ty q us => exact fin _ (.inl rfl) hk
theorem SameO.live {o o' : OB} (h : SameO o o') : o ≠ .no ↔ o' ≠ .no := by
 rcases h with rfl | ⟨_, _, _, _, rfl, rfl, _⟩
 ·exact Iff.rfl
 ·simp
section
variable {P : Program} {ρ : Q → Loc} {w w' : World} {B N : Nat}
theorem Emb.same {t t' : HT} {nx : Q} (E : Emb P ρ (.mk t nx) w B) (h : ∀ q, SameO (t.get q) (t'.get q)) : Emb P ρ (.mk t' nx) w B := by
 have hl : ∀ q, t'.get q ≠ .no → t.get q ≠ .no := fun q => (h q).live.2
 have hs : ∀ q o, t'.get q = o → (∀ ty n v, o ≠ .bk ty n v) → t.get q = o := fun q o hq hb => by
  rcases h q with e | ⟨ty, n, v, v', e1, e2, _⟩
  ·rw [e, hq]
  ·rw [hq] at e2; exact (hb ty n v' e2).elim
 refine ⟨E.base, fun q hq => E.lt q (hl q hq), fun q hq => E.ge q (hl q hq), fun q r hq hr => E.inj q r (hl q hq) (hl r hr), fun q ty n v hq => ?_, fun q es hq => E.map q es (hs q _ hq (by simp)), fun q o l hq => E.si q o l (hs q _ hq (by simp)), fun q i hq => E.op q i (hs q _ hq (by simp)), fun q ty hq => E.soup q ty (hs q _ hq (by simp)), fun q ty q0 us hq => E.dm q ty q0 us (hs q _ hq (by simp)), E.tab⟩
 rcases h q with e | ⟨ty', n', v0, v1, e1, e2, e3⟩
 ·exact E.row q ty n v (e.trans hq)
 ·have hq : t'.get q = .bk ty n v := hq
  rw [hq] at e2
  cases e2
  have R := E.row q _ _ _ e1
  refine ⟨R.at_, fun i hi => ?_⟩
  rw [e3 i hi]
  exact R.get i hi
abbrev EmbS (P : Program) (ρ : Q → Loc) (S : List (Q × SB)) (nx : Q) (w : World) (B : Nat) : Prop := Emb P ρ (.mk (mkT (mkS S)) nx) w B
noncomputable def renS (N : Nat) (sb : SB) (o' : OB) (f : List (Q × Q)) (k : List (Q × Q) → Bool) : Bool := SB.casesOn (motive := fun _ => Bool) sb
 (fun ty cs => o'.on fun ty' n' v' => ifT (Nat.beq ty ty') (natK cs.length fun n => ifT (Nat.ble n n') (renL N cs (v'.range n 0) f k)))
 (fun es => o'.onM fun es' => renE N es es' f k) (fun ty => o'.onY fun oy' => oy'.on_soup fun ty' => ifT (Nat.beq ty ty') (k f))
 (fun ty q us => o'.onY fun oy' => oy'.on_dm fun ty' q' us' => ifT (Nat.beq ty.1 ty'.1) (ifT (Nat.beq ty.2.1 ty'.2.1) (ifT (Nat.ble ty'.2.2 ty.2.2) (ifT (Q.eq q q') (ifT (usEq us us') (k f))))))
noncomputable def matchS (N : Nat) (h' : Hp) (S : List (Q × SB)) : List (Q × Q) → Bool :=
 List.rec (motive := fun _ => List (Q × Q) → Bool) (fun _ => true) (fun e _ ih f => lkQ f e.1 false fun r => renS N e.2 (HT.getR r h'.t) f ih) S
theorem renS_eq (N : Nat) (sb : SB) (o' : OB) (f : List (Q × Q)) (k : List (Q × Q) → Bool) : renS N sb o' f k = renO N sb.ob o' f k := by
 cases sb with
 | bk ty cs =>
  show (o'.on fun ty' n' v' => ifT (Nat.beq ty ty') (natK cs.length fun n => ifT (Nat.ble n n') (renL N cs (v'.range n 0) f k))) = o'.on fun ty' n' v' => ifT (Nat.beq ty ty') (ifT (Nat.ble cs.length n') (renL N ((V.ofL cs).range cs.length 0) (v'.range cs.length 0) f k))
  rw [V.ofL_range]
  simp only [natK_eq]
 | _ => rfl
theorem matchS_eq (N : Nat) (h' : Hp) : ∀ (S : List (Q × SB)) (f : List (Q × Q)), matchS N h' S f = matchT N h' (mkS S) f
 | [], f => rfl
 | e :: S, f => by
  show lkQ f e.1 false (fun r => renS N e.2 (HT.getR r h'.t) f (matchS N h' S)) = lkQ f e.1 false (fun r => renO N e.2.ob (HT.getR r h'.t) f (matchT N h' (mkS S)))
  have : matchS N h' S = matchT N h' (mkS S) := funext (matchS_eq N h' S)
  rw [this]
  simp only [renS_eq]
noncomputable def finT (N : Nat) (Xs : List AV) (f0 : List (Q × Q)) (S : List (Q × SB)) (y : AV) (h' : Hp) : Bool := y.on_t fun ys => ifT (Nat.beq ys.length Xs.length) (renL N Xs ys f0 fun f => matchS N h' S f)
noncomputable def fin1 (N : Nat) (X : AV) (f0 : List (Q × Q)) (S : List (Q × SB)) (y : AV) (h' : Hp) : Bool := renA N X y f0 fun f => matchS N h' S f
noncomputable def runS (sf : FS) (args : List AV) (S0 : List (Q × SB)) (nx0 : Q) (k : AV → Hp → Bool) : Bool := buildK S0 fun t => sf args (.mk t nx0) k
theorem SoundF.run {f : FuncId} {sf : FS} (hs : SoundF P f sf) {S0 S : List (Q × SB)} {nx0 nx : Q} {Xs : List AV} {f0 : List (Q × Q)} (E : EmbS P ρ S0 nx0 w B) (h0 : 0 < nx0.num) (h1 : 0 < nx.num) (hf : okK nx.num f0 = true) (hst : stayK nx0.num f0 = true)
  {args : List AV} {vals : List Value} (ha : RelL ρ nx0.num args vals) (hk : runS sf args S0 nx0 (finT nx.num Xs f0 S) = true) :
  Calls P f vals.toArray w fun e w' => ∃ (vs : List Value) (ρ' : Q → Loc), e = .returned (.tuple vs.toArray) ∧ vs.length = Xs.length ∧ (∀ i (hx : i < Xs.length) (hv : i < vs.length), Rel ρ' nx.num Xs[i] vs[i]) ∧ EmbS P ρ' S nx w' B ∧ Turn ρ (mkS S0) w ρ' (mkS S) w' ∧ ∀ e ∈ f0, ρ' e.1 = ρ e.2 := by
 obtain ⟨t, ht, hk⟩ := buildK_spec hk
 refine (hs.sound ρ _ w B args vals _ (E.same ht) ha hk).mono fun e w' hl => ?_
 cases e with
 | returned v =>
  obtain ⟨ρ1, h', y, E1, s, hr, hk⟩ := hl
  obtain ⟨ys, rfl, hk⟩ := AV.on_t_spec (show y.on_t _ = true from hk)
  obtain ⟨hl, hk⟩ := ifT_eq hk
  obtain ⟨f1, a1, a2, a3, a4, a5⟩ := renL_spec (okK_spec hf) hk
  rw [matchS_eq] at a5
  obtain ⟨ρ', b1, b2, b3⟩ := match_sound E1 a1 h1 rfl a5
  have s' : Step ρ (.mk (mkT (mkS S0)) nx0) w ρ1 h' w' := ⟨s.ext, s.nx, s.size, fun b hb hn => s.frame b hb fun q hq => hn q ((ht q).live.2 hq), fun q hq => (s.img q hq).imp (fun ⟨r, hr, e⟩ => ⟨r, (ht r).live.2 hr, e⟩) id, s.os, s.tape, s.output⟩
  obtain ⟨c1, c2⟩ := piece_turn s' (b2.sub a2) b3 h0 hst
  cases hr with
  | t _ vs hv =>
   have hlen := RelL.length hv
   exact ⟨vs, ρ', rfl, by omega, fun i hx hi => a4 i hx (by omega) _ _ _ _ b2 _ (RelL.get hv i (by omega) hi), b1, c1, c2⟩
 | _ => exact hl.elim
theorem SoundF.run1 {f : FuncId} {sf : FS} (hs : SoundF P f sf) {S0 S : List (Q × SB)} {nx0 nx : Q} {X : AV} {f0 : List (Q × Q)} (E : EmbS P ρ S0 nx0 w B) (h0 : 0 < nx0.num) (h1 : 0 < nx.num) (hf : okK nx.num f0 = true) (hst : stayK nx0.num f0 = true)
  {args : List AV} {vals : List Value} (ha : RelL ρ nx0.num args vals) (hk : runS sf args S0 nx0 (fin1 nx.num X f0 S) = true) :
  Calls P f vals.toArray w fun e w' => ∃ (v : Value) (ρ' : Q → Loc), e = .returned v ∧ Rel ρ' nx.num X v ∧ EmbS P ρ' S nx w' B ∧ Turn ρ (mkS S0) w ρ' (mkS S) w' ∧ ∀ e ∈ f0, ρ' e.1 = ρ e.2 := by
 obtain ⟨t, ht, hk⟩ := buildK_spec hk
 refine (hs.sound ρ _ w B args vals _ (E.same ht) ha hk).mono fun e w' hl => ?_
 cases e with
 | returned v =>
  obtain ⟨ρ1, h', y, E1, s, hr, hk⟩ := hl
  obtain ⟨f1, a1, a2, a3, a5⟩ := renA_spec (okK_spec hf) (show renA _ _ _ _ _ = true from hk)
  rw [matchS_eq] at a5
  obtain ⟨ρ', b1, b2, b3⟩ := match_sound E1 a1 h1 rfl a5
  have s' : Step ρ (.mk (mkT (mkS S0)) nx0) w ρ1 h' w' := ⟨s.ext, s.nx, s.size, fun b hb hn => s.frame b hb fun q hq => hn q ((ht q).live.2 hq), fun q hq => (s.img q hq).imp (fun ⟨r, hr, e⟩ => ⟨r, (ht r).live.2 hr, e⟩) id, s.os, s.tape, s.output⟩
  obtain ⟨c1, c2⟩ := piece_turn s' (b2.sub a2) b3 h0 hst
  exact ⟨v, ρ', rfl, a3 _ _ _ _ b2 _ hr, b1, c1, c2⟩
 | _ => exact hl.elim
noncomputable def respB (q : Q) (o o' : SB) : Bool := SB.casesOn (motive := fun _ => Bool) o'
 (fun ty' cs' => SB.casesOn (motive := fun _ => Bool) o (fun ty cs => ifT (Nat.beq ty ty') (ifT (Nat.beq cs'.length cs.length) (ifT (Nat.ble cs'.length 900000) (respL q cs cs' 0)))) (fun _ => false) (fun _ => false) (fun _ _ _ => false))
 (fun es' => SB.casesOn (motive := fun _ => Bool) o (fun _ _ => false) (fun es => respE es es') (fun _ => false) (fun _ _ _ => false))
 (fun ty' => SB.casesOn (motive := fun _ => Bool) o (fun _ _ => false) (fun _ => false) (fun ty => Nat.beq ty ty') (fun _ _ _ => false))
 (fun ty' q' us' => SB.casesOn (motive := fun _ => Bool) o (fun _ _ => false) (fun es => List.casesOn (motive := fun _ => Bool) es (ifT (Q.eq q q') (List.casesOn (motive := fun _ => Bool) us' true fun _ _ => false)) fun _ _ => false) (fun _ => false) (fun ty _ _ => ifT (Nat.beq ty.1 ty'.1) (ifT (Nat.beq ty.2.1 ty'.2.1) (ifT (Nat.ble ty.2.2 ty'.2.2) (ifT (Q.eq q q') (List.casesOn (motive := fun _ => Bool) us' true fun _ _ => false))))))
noncomputable def respS (N : Nat) (S : List (Q × SB)) : List (Q × SB) → Bool :=
 List.rec (motive := fun _ => List (Q × SB) → Bool) (fun S' => List.casesOn (motive := fun _ => Bool) S' true fun _ _ => false)
  (fun e _ ih S' => List.casesOn (motive := fun _ => Bool) S' true fun e' S' => ifT (Q.eq e.1 e'.1) (ifT e.1.notE (ifT (Nat.blt e.1.num N) (ifT (respB e.1 e.2 e'.2) (ih S'))))) S
theorem respB_ob {q : Q} {o o' : SB} (h : respB q o o' = true) : respO q o.ob o'.ob = true := by
 cases o' with
 | bk ty' cs' =>
  cases o with
  | bk ty cs =>
   obtain ⟨h1, h2⟩ := ifT_eq (show ifT (Nat.beq ty ty') (ifT (Nat.beq cs'.length cs.length) (ifT (Nat.ble cs'.length 900000) (respL q cs cs' 0))) = true from h)
   obtain ⟨h3, h4⟩ := ifT_eq h2
   obtain ⟨h5, h6⟩ := ifT_le h4
   subst h1
   show ifT (Nat.beq ty ty) (ifT (Nat.ble cs'.length cs.length) (ifT (Nat.ble cs'.length 900000) (respL q ((V.ofL cs).range cs'.length 0) ((V.ofL cs').range cs'.length 0) 0))) = true
   rw [V.ofL_range, h3, V.ofL_range, h6]
   have e1 : Nat.beq ty ty = true := Nat.beq_refl ty
   have e2 : Nat.ble cs.length cs.length = true := Nat.ble_eq_true_of_le (Nat.le_refl _)
   have e3 : Nat.ble cs.length 900000 = true := Nat.ble_eq_true_of_le (by omega)
   rw [e1, e2, e3]
   rfl
  | _ => cases h
 | mp es' => cases o <;> first | exact h | cases h
 | sp ty' => cases o <;> first | exact h | cases h
 | dm ty' q' us' => cases o <;> first | exact h | cases h
theorem respS_T {N : Nat} : ∀ {S S' : List (Q × SB)}, respS N S S' = true → respT N (mkS S) (mkS S') = true
 | [], [], _ => rfl
 | [], _ :: _, h => by cases h
 | _ :: _, [], _ => rfl
 | e :: S, e' :: S', h => by
  obtain ⟨h1, h2⟩ := ifT_spec (show ifT (Q.eq e.1 e'.1) (ifT e.1.notE (ifT (Nat.blt e.1.num N) (ifT (respB e.1 e.2 e'.2) (respS N S S')))) = true from h)
  obtain ⟨h3, h4⟩ := ifT_spec h2
  obtain ⟨h5, h6⟩ := ifT_spec h4
  obtain ⟨h7, h8⟩ := ifT_spec h6
  show ifT (Q.eq e.1 e'.1) (ifT e.1.notE (ifT (Nat.blt e.1.num N) (ifT (respO e.1 e.2.ob e'.2.ob) (respT N (mkS S) (mkS S'))))) = true
  rw [h1, h3, h5, respB_ob h7, respS_T h8]
  rfl
theorem Emb.retell {S S' : List (Q × SB)} {nx nx' : Q} (E : EmbS P ρ S nx w B) (hn : nx.num ≤ nx'.num) (h0 : 0 < nx'.num) (h : respS nx'.num S S' = true) : EmbS P (reN ρ (mkS S) w) S' nx' w B := Emb.respell E hn h0 (respS_T h)
end
def qn : Nat → Q
 | 0 => .e
 | n + 1 => (qn n).succ
def iN (n : Nat) : AV := .i .i64 (Nat.add 9223372036854775808 n)
def opC (c s : Nat) : List AV := [iN 1, .s 2 [107, Nat.add 48 c], iN 1, iN s, .s 0 [], iN 0, iN 0, .s 0 [], iN 0]
def dataB (c s : Nat) : AV := .s 9 [Nat.mul 2 c, Nat.add (Nat.mul 2 s) 2, 2, 2, 4, 107, Nat.add 48 c, 2, Nat.mul 2 s]
def entC (q : Q) : Nat → List AV
 | 0 => [iN 1, iN 1, iN 1, .s 0 []]
 | k + 1 => entC q k ++ [iN (Nat.add k 2), iN 1, iN 2, .y (.sv q (Nat.add 1000003 (Nat.mul 4 (Nat.succ k))))]
def rowC (q : Q) : Nat → List AV
 | 0 => []
 | k + 1 => rowC q k ++ [iN (Nat.succ k), .y (.sv q (Nat.add (Nat.mul 5 k) 1)), .y (.sv q (Nat.add (Nat.mul 5 k) 2)), .y (.sv q (Nat.add (Nat.mul 5 k) 3)), iN 0]
def slN (q : Q) (n : Nat) : AV := match n with
 | 0 => .ns
 | n + 1 => .sl q 0 (n + 1) (.u 0 (n + 1))
def svs (q : Q) (o : Nat) : Nat → List AV
 | 0 => []
 | n + 1 => .y (.sv q o) :: svs q (Nat.succ o) n
def zTold : List AV := [iN 0, iN 0, iN 0, iN 0, .ns, iN 0]
def toldC (q : Q) : List AV := zTold ++ svs q 8 18 ++ zTold ++ zTold
def fileN (k : Nat) : Nat := Nat.add 45 (Nat.mul 19 k)
def srvL (k : Nat) (es es2 rows told : List AV) (us : List (List Nat × Nat)) : List (Q × SB) :=
 [(qn 1, .bk 89 [.p (qn 2) 0, .p (qn 3) 0, .p (qn 4) 0, .b false]),
  (qn 2, .bk 184 [.p (qn 5) 0, iN 1, iN 1, iN 0, iN 0, .s 1 [49], .s 2 [0, 0], slN (qn 6) (Nat.succ k), iN (fileN k)]),
  (qn 3, .bk 99 [iN 1, iN 1, iN 1, .p (qn 7) 0, iN (Nat.succ k), iN 2, iN 1, .b false, .p (qn 9) 0, .p (qn 12) 0, .ns, .b false, iN 0, .b false]),
  (qn 4, .bk 206 [iN (Nat.succ k), .p (qn 13) 0, slN (qn 14) k]),
  (qn 5, .bk 133 [.m (qn 17), iN (Nat.add 4 (Nat.mul 2 k))]),
  (qn 6, .bk 193 es),
  (qn 7, .bk 221 [iN 0, iN 0, .s 1 [49], .s 2 [0, 0], slN (qn 8) (Nat.succ k)]),
  (qn 8, .bk 193 es2),
  (qn 9, .bk 295 [slN (qn 10) 1, slN (qn 11) 1, .ns]),
  (qn 10, .bk 3 [iN 1]),
  (qn 11, .bk 3 [iN 1]),
  (qn 12, .bk 323 [iN 1, iN 1, iN 1, iN 1, iN 1, iN 1, iN 1, iN 1, iN 0, iN 0, iN 0, iN 0, iN 0, iN 0, iN 0, iN 0]),
  (qn 13, .bk 180 ([iN k, .p (qn 15) 0] ++ told))] ++
 (match k with | 0 => [] | _ => [(qn 14, .bk 50 rows)]) ++
 [(qn 15, .bk 128 [.m (qn 16)]),
  (qn 16, .dm (9, 181, k) (qn 16) us),
  (qn 17, .mp [(.s 5 [115, 116, 97, 116, 101], .p (qn 18) 0)]),
  (qn 18, .bk 265 [.y (.su (qn 19) (fileN k) (fileN k)), .d, .b true]),
  (qn 19, .sp 5)]
def srvS (k : Nat) : List (Q × SB) := srvL k (entC (qn 6) k) (entC (qn 8) k) (rowC (qn 14) k) (toldC (qn 13)) []
def setAt : List AV → Nat → AV → List AV
 | [], _, _ => []
 | _ :: l, 0, y => y :: l
 | x :: l, n + 1, y => x :: setAt l n y
def srvA (c s k : Nat) : List (Q × SB) := srvL k (entC (qn 6) k) (entC (qn 8) k) (rowC (qn 14) k) (setAt (toldC (qn 13)) (Nat.mul 6 c) (iN s)) [] ++ [(qn 30, .bk 32 (opC c s))]
def setMany (l : List AV) (o : Nat) : List AV → List AV
 | [] => l
 | y :: ys => setMany (setAt l o y) (Nat.succ o) ys
def srvB (c s k : Nat) : List (Q × SB) :=
 srvL (Nat.succ k) (entC (qn 6) k ++ [iN (Nat.add k 2), iN 1, iN 2, dataB c s]) (entC (qn 8) k ++ [iN (Nat.add k 2), iN 1, iN 2, dataB c s])
  (rowC (qn 14) k ++ [iN (Nat.succ k), iN c, iN (Nat.succ s), .sl (qn 22) 0 1 (.u 0 1), iN 0])
  (setMany (toldC (qn 13)) (Nat.mul 6 c) [iN (Nat.succ s), iN (Nat.succ k), iN c, iN (Nat.succ s), .sl (qn 21) 0 1 (.u 0 1), iN 0]) [([107, Nat.add 48 c], Nat.add 9223372036854775808 s)] ++
 [(qn 21, .bk 32 (opC c s)), (qn 22, .bk 32 (opC c s))]
def batA (c s : Nat) : AV := .a [iN c, iN (Nat.succ s), .sl (qn 30) 0 1 (.u 0 1)]
def strL (p : Nat) (rows told : List AV) (us : List (List Nat × Nat)) : List (Q × SB) :=
 [(qn 1, .bk 117 [.p (qn 2) 0, slN (qn 5) p]),
  (qn 2, .bk 180 ([iN p, .p (qn 3) 0] ++ told)),
  (qn 3, .bk 128 [.m (qn 4)]),
  (qn 4, .dm (9, 181, p) (qn 4) us)] ++
 (match p with | 0 => [] | _ => [(qn 5, .bk 50 rows)])
def strS (p : Nat) : List (Q × SB) := strL p (rowC (qn 5) p) (toldC (qn 2)) []
def strA (p d t : Nat) : List (Q × SB) := strL p (rowC (qn 5) p) (setAt (toldC (qn 2)) (Nat.mul 6 d) (iN (Nat.pred t))) [] ++ [(qn 20, .bk 32 (opC d (Nat.pred t)))]
def strB (p d t : Nat) : List (Q × SB) :=
 strL (Nat.succ p) (rowC (qn 5) p ++ [iN (Nat.succ p), iN d, iN t, .sl (qn 8) 0 1 (.u 0 1), iN 0]) (setMany (toldC (qn 2)) (Nat.mul 6 d) [iN t, iN (Nat.succ p), iN d, iN t, .sl (qn 7) 0 1 (.u 0 1), iN 0]) [([107, Nat.add 48 d], Nat.add 9223372036854775808 (Nat.pred t))] ++
 [(qn 7, .bk 32 (opC d (Nat.pred t))), (qn 8, .bk 32 (opC d (Nat.pred t)))]
def rowA (p d t : Nat) (q : Q) : AV := .a [iN (Nat.succ p), iN d, iN t, .sl q 0 1 (.u 0 1), iN 0]
def fileC (p : Nat) : Nat := Nat.add 120 (Nat.mul 17 p)
section
variable {P : Program} {ρ : Q → Loc} {w w' : World} {B N : Nat}
theorem Emb.sub {t t' : HT} {nx : Q} (E : Emb P ρ (.mk t nx) w B) (h : ∀ q, t'.get q ≠ .no → t.get q = t'.get q) : Emb P ρ (.mk t' nx) w B := by
 have hl : ∀ q, t'.get q ≠ .no → t.get q ≠ .no := fun q hq => by rw [h q hq]; exact hq
 have hg : ∀ q o, o ≠ OB.no → t'.get q = o → t.get q = o := fun q o ho hq => by rw [h q (by rw [hq]; exact ho)]; exact hq
 exact ⟨E.base, fun q hq => E.lt q (hl q hq), fun q hq => E.ge q (hl q hq), fun q r hq hr => E.inj q r (hl q hq) (hl r hr), fun q ty n v hq => E.row q ty n v (hg q _ (by simp) hq), fun q es hq => E.map q es (hg q _ (by simp) hq), fun q o l hq => E.si q o l (hg q _ (by simp) hq), fun q i hq => E.op q i (hg q _ (by simp) hq), fun q ty hq => E.soup q ty (hg q _ (by simp) hq), fun q ty q0 us hq => E.dm q ty q0 us (hg q _ (by simp) hq), E.tab⟩
theorem Emb.stay {h : Hp} (E : Emb P ρ h w B) (hs : w.heap.size ≤ w'.heap.size) (hb : ∀ q, h.live q → w'.heap[(ρ q).blk]? = w.heap[(ρ q).blk]?) (ht : ∀ b, b < B → w'.heap[b]? = w.heap[b]?) : Emb P ρ h w' B := by
 refine ⟨Nat.le_trans E.base hs, E.lt, E.ge, E.inj, fun q ty n v hg => ?_, fun q es hg => ?_, fun q o l hg => ?_, fun q i hg => ?_, fun q ty hg => ?_, fun q ty q0 us hg => ?_, E.tab.mono ht⟩
 ·exact (E.row q ty n v hg).mono (fun _ _ => rfl) (Nat.le_refl _) (hb q (by rw [Hp.live, hg]; simp))
 ·exact (E.map q es hg).mono (fun _ _ => rfl) (Nat.le_refl _) (hb q (by rw [Hp.live, hg]; simp))
 ·exact (E.si q o l hg).mono (hb q (by rw [Hp.live, hg]; simp))
 ·exact ⟨(E.op q i hg).1, (E.op q i hg).2.mono (fun _ _ => rfl) (E.op q i hg).1 (hb q (by rw [Hp.live, hg]; simp))⟩
 ·exact (E.soup q ty hg).mono (hb q (by rw [Hp.live, hg]; simp))
 ·exact ⟨(E.dm q ty q0 us hg).1, (E.dm q ty q0 us hg).2.mono (hb q (by rw [Hp.live, hg]; simp))⟩
def ndS : List (Q × SB) → Bool
 | [] => true
 | e :: S => andB (S.all fun x => !(Q.eq e.1 x.1)) (ndS S)
theorem ndS_get : ∀ {S : List (Q × SB)}, ndS S = true → ∀ e ∈ S, (mkT (mkS S)).get e.1 = e.2.ob
 | [], _, e, he => by cases he
 | a :: S, h, e, he => by
  obtain ⟨h1, h2⟩ := andB_spec (show andB (S.all fun x => !(Q.eq a.1 x.1)) (ndS S) = true from h)
  rcases List.mem_cons.1 he with rfl | he
  ·exact HT.get_set_same e.2.ob e.1 (mkT (mkS S))
  ·have hne : e.1 ≠ a.1 := fun e2 => by
    have := List.all_eq_true.1 h1 e he
    rw [e2, Q.eq_rfl] at this
    cases this
   exact (HT.get_set_ne a.2.ob a.1 e.1 (mkT (mkS S)) hne).trans (ndS_get h2 e he)
theorem mkS_mem {S : List (Q × SB)} {q : Q} (h : (mkT (mkS S)).get q ≠ .no) : ∃ e ∈ S, e.1 = q ∧ (mkT (mkS S)).get q = e.2.ob := by
 have := mkT_get h
 unfold mkS at this
 obtain ⟨e, he, h1⟩ := List.mem_map.1 this
 exact ⟨e, he, congrArg Prod.fst h1, (congrArg Prod.snd h1).symm⟩
theorem EmbS.sub {S S' : List (Q × SB)} {nx : Q} (E : EmbS P ρ S nx w B) (hn : ndS S = true) (hs : S' ⊆ S) : EmbS P ρ S' nx w B :=
 Emb.sub E fun q hq => by
  obtain ⟨e, he, rfl, h2⟩ := mkS_mem hq
  rw [h2, ndS_get hn e (hs he)]
theorem EmbS.at {S : List (Q × SB)} {nx : Q} (E : EmbS P ρ S nx w B) (hn : ndS S = true) {q : Q} {ty : Nat} {cs : List AV} (hm : (q, SB.bk ty cs) ∈ S) (i : Nat) (hi : i < cs.length) :
  ∃ x, w.cell? ⟨(ρ q).blk, (ρ q).base + i, none⟩ = some x ∧ Rel ρ nx.num cs[i] x ∧ x.oneCell' = true := by
 obtain ⟨x, h1, h2, h3⟩ := (E.row q ty cs.length (V.ofL cs) (ndS_get hn _ hm)).get i hi
 rw [V.ofL_get cs i hi] at h2
 exact ⟨x, h1, h2, h3⟩
theorem EmbS.recell {S S' : List (Q × SB)} {nx : Q} (E : EmbS P ρ S nx w B) (hn : ndS S = true)
  (h : ∀ e' ∈ S', e' ∈ S ∨ ∃ ty cs cs', (e'.1, SB.bk ty cs) ∈ S ∧ e'.2 = .bk ty cs' ∧ cs'.length = cs.length ∧ ∀ i (hi : i < cs.length) (hi' : i < cs'.length), ∀ x, w.cell? ⟨(ρ e'.1).blk, (ρ e'.1).base + i, none⟩ = some x → Rel ρ nx.num cs[i] x → Rel ρ nx.num cs'[i] x) : EmbS P ρ S' nx w B := by
 have hl : ∀ q, (mkT (mkS S')).get q ≠ .no → (mkT (mkS S)).get q ≠ .no := fun q hq => by
  obtain ⟨e, he, rfl, h2⟩ := mkS_mem hq
  rcases h e he with h1 | ⟨ty, cs, cs', h1, _⟩
  ·rw [ndS_get hn e h1, ← h2]; exact hq
  ·rw [ndS_get hn _ h1]; simp [SB.ob]
 have hg : ∀ q o, (mkT (mkS S')).get q = o → o ≠ .no → (∀ ty n v, o ≠ .bk ty n v) → (mkT (mkS S)).get q = o := fun q o hq ho hb => by
  obtain ⟨e, he, rfl, h2⟩ := mkS_mem (S := S') (q := q) (by rw [hq]; exact ho)
  rcases h e he with h1 | ⟨ty, cs, cs', _, h3, _⟩
  ·rw [ndS_get hn e h1, ← h2]; exact hq
  ·rw [hq, h3] at h2; exact (hb _ _ _ h2).elim
 refine ⟨E.base, fun q hq => E.lt q (hl q hq), fun q hq => E.ge q (hl q hq), fun q r hq hr => E.inj q r (hl q hq) (hl r hr), fun q ty n v hq => ?_, fun q es hq => E.map q es (hg q _ hq (by simp) (by simp)), fun q o l hq => E.si q o l (hg q _ hq (by simp) (by simp)), fun q i hq => E.op q i (hg q _ hq (by simp) (by simp)), fun q ty hq => E.soup q ty (hg q _ hq (by simp) (by simp)), fun q ty q0 us hq => E.dm q ty q0 us (hg q _ hq (by simp) (by simp)), E.tab⟩
 have hq : (mkT (mkS S')).get q = .bk ty n v := hq
 obtain ⟨e, he, rfl, h2⟩ := mkS_mem (S := S') (q := q) (by rw [hq]; simp)
 rcases h e he with h1 | ⟨ty', cs, cs', h1, h3, h4, h5⟩
 ·exact E.row e.1 ty n v (by show (mkT (mkS S)).get e.1 = _; rw [ndS_get hn e h1, ← h2]; exact hq)
 ·rw [hq, h3] at h2
  cases h2
  have R := E.row e.1 _ cs.length (V.ofL cs) (ndS_get hn _ h1)
  obtain ⟨sz, r1, r2, r3, r4⟩ := R.at_
  refine ⟨⟨sz, r1, by omega, r3, r4⟩, fun i hi => ?_⟩
  obtain ⟨x, c1, c2, c3⟩ := R.get i (by omega)
  rw [V.ofL_get cs i (by omega)] at c2
  refine ⟨x, c1, ?_, c3⟩
  rw [V.ofL_get cs' i (by omega)]
  exact h5 i (by omega) (by omega) x c1 c2
theorem EmbS.add {S : List (Q × SB)} {nx : Q} (E : EmbS P ρ S nx w B) {l : Loc} {ty : Nat} {cs : List AV} (hB : B ≤ l.blk) (hni : ∀ q, (mkT (mkS S)).get q ≠ .no → (ρ q).blk ≠ l.blk)
  (hr : RowE P l (upd ρ nx l) nx.succ.num w ty cs.length (V.ofL cs)) : EmbS P (upd ρ nx l) (S ++ [(nx, .bk ty cs)]) nx.succ w B := by
 have hN : nx.num ≤ nx.succ.num := by rw [Q.num_succ]; omega
 have hme : ∀ r, r.num < nx.num → upd ρ nx l r = ρ r := upd_lt ρ nx l
 have hget : ∀ q, (mkT (mkS (S ++ [(nx, SB.bk ty cs)]))).get q = (if q = nx then (SB.bk ty cs).ob else (mkT (mkS S)).get q) := by
  intro q
  have hS : ∀ e ∈ S, e.1 = nx → False := fun e he e2 => by
   have h1 : (mkT (mkS S)).get e.1 ≠ .no := by
    clear hr hni hme hB E
    induction S with
    | nil => cases he
    | cons a S ih =>
     by_cases h2 : e.1 = a.1
     ·have : (mkT (mkS (a :: S))).get a.1 = a.2.ob := HT.get_set_same a.2.ob a.1 (mkT (mkS S))
      rw [h2, this]
      cases a.2 <;> simp [SB.ob]
     ·have : (mkT (mkS (a :: S))).get e.1 = (mkT (mkS S)).get e.1 := HT.get_set_ne a.2.ob a.1 e.1 (mkT (mkS S)) h2
      rw [this]
      rcases List.mem_cons.1 he with rfl | he
      ·exact (h2 rfl).elim
      ·exact ih he
   have := E.lt e.1 h1
   rw [e2] at this
   exact Nat.lt_irrefl _ this
  clear hr hni hme hB E
  induction S with
  | nil =>
   by_cases e : q = nx
   ·rw [if_pos e, e]
    exact HT.get_set_same _ _ _
   ·rw [if_neg e]
    exact (HT.get_set_ne _ _ _ _ e)
  | cons a S ih =>
   have ih := ih (fun e he => hS e (List.mem_cons_of_mem _ he))
   by_cases h2 : q = a.1
   ·have e1 : (mkT (mkS ((a :: S) ++ [(nx, SB.bk ty cs)]))).get q = a.2.ob := by rw [h2]; exact HT.get_set_same a.2.ob a.1 _
    have e2 : (mkT (mkS (a :: S))).get q = a.2.ob := by rw [h2]; exact HT.get_set_same a.2.ob a.1 _
    rw [e1, e2, if_neg (fun e => hS a List.mem_cons_self (by rw [← h2, e]))]
   ·have e1 : (mkT (mkS ((a :: S) ++ [(nx, SB.bk ty cs)]))).get q = (mkT (mkS (S ++ [(nx, SB.bk ty cs)]))).get q := HT.get_set_ne a.2.ob a.1 q _ h2
    have e2 : (mkT (mkS (a :: S))).get q = (mkT (mkS S)).get q := HT.get_set_ne a.2.ob a.1 q _ h2
    rw [e1, e2, ih]
 have hlive : ∀ r, (mkT (mkS (S ++ [(nx, SB.bk ty cs)]))).get r ≠ .no → r = nx ∨ ((mkT (mkS S)).get r ≠ .no ∧ r ≠ nx) := fun r hr => by
  by_cases e : r = nx
  ·exact .inl e
  ·rw [hget, if_neg e] at hr; exact .inr ⟨hr, e⟩
 have hold : ∀ r o, (mkT (mkS (S ++ [(nx, SB.bk ty cs)]))).get r = o → r ≠ nx → (mkT (mkS S)).get r = o := fun r o h e => by rw [hget, if_neg e] at h; exact h
 have hnew : ∀ o, (mkT (mkS (S ++ [(nx, SB.bk ty cs)]))).get nx = o → o = (SB.bk ty cs).ob := fun o h => by rw [hget, if_pos rfl] at h; exact h.symm
 refine ⟨E.base, fun r hr => ?_, fun r hr => ?_, fun r s hr hs e => ?_, fun r ty' n v' hg' => ?_, fun r es hg' => ?_, fun r o l' hg' => ?_, fun r i hg' => ?_, fun r ty' hg' => ?_, fun r ty' q0 us hg' => ?_, E.tab⟩
 ·show r.num < nx.succ.num
  rcases hlive r hr with rfl | ⟨h1, _⟩
  ·rw [Q.num_succ]; omega
  ·exact Nat.lt_of_lt_of_le (E.lt r h1) hN
 ·rcases hlive r hr with rfl | ⟨h1, h2⟩
  ·rw [upd_same]; exact hB
  ·rw [upd_ne _ _ h2]; exact E.ge r h1
 ·rcases hlive r hr with rfl | ⟨h1, h2⟩
  ·rcases hlive s hs with rfl | ⟨h3, h4⟩
   ·rfl
   ·rw [upd_same, upd_ne _ _ h4] at e; exact (hni s h3 e.symm).elim
  ·rcases hlive s hs with rfl | ⟨h3, h4⟩
   ·rw [upd_same, upd_ne _ _ h2] at e; exact (hni r h1 e).elim
   ·rw [upd_ne _ _ h2, upd_ne _ _ h4] at e; exact E.inj r s h1 h3 e
 ·by_cases e : r = nx
  ·subst e
   have := hnew _ hg'
   cases this
   rw [upd_same]
   exact hr
  ·have hg' := hold r _ hg' e
   rw [upd_ne _ _ e]
   exact (E.row r ty' n v' hg').mono hme hN rfl
 ·by_cases e : r = nx
  ·subst e; cases hnew _ hg'
  ·have hg' := hold r _ hg' e
   rw [upd_ne _ _ e]
   exact (E.map r es hg').mono hme hN rfl
 ·by_cases e : r = nx
  ·subst e; cases hnew _ hg'
  ·have hg' := hold r _ hg' e
   rw [upd_ne _ _ e]
   exact (E.si r o l' hg').mono rfl
 ·by_cases e : r = nx
  ·subst e; cases hnew _ hg'
  ·have hg' := hold r _ hg' e
   rw [upd_ne _ _ e]
   exact ⟨Nat.lt_of_lt_of_le (E.op r i hg').1 hN, (E.op r i hg').2.mono hme (E.op r i hg').1 rfl⟩
 ·by_cases e : r = nx
  ·subst e; cases hnew _ hg'
  ·have hg' := hold r _ hg' e
   rw [upd_ne _ _ e]
   exact (E.soup r ty' hg').mono rfl
 ·by_cases e : r = nx
  ·subst e; cases hnew _ hg'
  ·have hg' := hold r _ hg' e
   obtain ⟨d1, d2⟩ := E.dm r ty' q0 us hg'
   rw [upd_ne _ _ e, dmC_mono (hme .e (show (0 : Nat) < nx.num from d1))]
   exact ⟨Nat.lt_of_lt_of_le d1 hN, d2⟩
end
def plainB : AV → Bool
 | .y (.su _ _ _) => false
 | x => plainA x
def u8A : AV := .y (.iv .u8 9223372036854775808 9223372036854776063)
section
variable {P : Program} {ρ : Q → Loc} {w w' : World} {B N : Nat}
theorem plainB_rel {ρ' : Q → Loc} (hb : ∀ q, (ρ' q).blk = (ρ q).blk) (ho : ∀ q, (ρ' q).base = (ρ q).base) (hc : ∀ q, (ρ' q).cap = (ρ q).cap) {x : AV} {v : Value} (hx : plainB x = true) (h : Rel ρ N x v) : Rel ρ' N x v := by
 cases h with
 | d => cases hx
 | b => exact .b _
 | i => exact .i _ _
 | s => exact .s _
 | np => exact .np
 | p q o h => rw [← hb, ← ho]; exact .p q o h
 | ns => exact .ns
 | slk q o n c h hcc => rw [← hb, ← ho]; exact .slk q o n c h hcc
 | slu q o n d l h hn hcc hm => rw [← hb, ← ho, ← hc]; rw [← hc] at hcc hm; exact .slu q o n d l h hn hcc hm
 | se => exact .se _ _
 | f => cases hx
 | nf => exact .nf
 | nm => exact .nm
 | m q h => rw [← hb]; exact .m q h
 | ni => exact .ni
 | a => cases hx
 | t => cases hx
 | e t x v h =>
  cases x with
  | i k n => cases h; exact .e _ _ _ (.i _ _)
  | _ => cases hx
 | os => cases hx
 | iv k lo hi n h1 h2 => exact .iv k lo hi n h1 h2
 | so => cases hx
 | sv => cases hx
 | su => cases hx
def plainE : List (AV × AV) → Bool
 | [] => true
 | e :: es => andB (plainB e.1) (andB (plainB e.2) (plainE es))
theorem plainE_rel {ρ' : Q → Loc} (hb : ∀ q, (ρ' q).blk = (ρ q).blk) (ho : ∀ q, (ρ' q).base = (ρ q).base) (hc : ∀ q, (ρ' q).cap = (ρ q).cap) : ∀ {es : List (AV × AV)} {fs : List MapEntry}, plainE es = true → RelE ρ N es fs → RelE ρ' N es fs
 | [], _, _, h => by cases h; exact .nil
 | (k, x) :: es, _, h, hr => by
  obtain ⟨h1, h2⟩ := andB_spec (show andB (plainB k) (andB (plainB x) (plainE es)) = true from h)
  obtain ⟨h3, h4⟩ := andB_spec h2
  cases hr with
  | cons _ _ _ e fs hk hx t => exact .cons _ _ _ e fs (plainB_rel hb ho hc h1 hk) (plainB_rel hb ho hc h3 hx) (plainE_rel hb ho hc h4 t)
def plainS : SB → Bool
 | .bk _ cs => cs.all plainB
 | .mp es => plainE es
 | _ => false
def soupL (qb qf : Q) (u8 n : Nat) (S : List (Q × SB)) : List (Q × SB) := S.map fun e => cond (Q.eq e.1 qb) (e.1, .sp u8) (cond (Q.eq e.1 qf) (e.1, match e.2 with | .bk ty (_ :: cs) => .bk ty (.y (.su qb n n) :: cs) | o => o) e)
def soupK (qb qf : Q) (u8 n : Nat) (S : List (Q × SB)) : Bool := andB (ndS S) (andB qb.notE (S.all fun e => cond (Q.eq e.1 qb) (match e.2 with | .bk ty cs => andB (Nat.beq ty u8) (andB (Nat.beq cs.length n) (cs.all fun x => avEq x u8A)) | _ => false)
 (cond (Q.eq e.1 qf) (match e.2 with | .bk _ (x :: cs) => andB (avEq x (.sl qb 0 n (.u 0 n))) (cs.all plainB) | _ => false) (plainS e.2))))
theorem EmbS.soupify {S : List (Q × SB)} {nx qb qf : Q} {u8 n : Nat} (E : EmbS P ρ S nx w B) (hk : soupK qb qf u8 n S = true) (hin : (mkT (mkS S)).get qb ≠ .no) (hu : P.cellsOf u8 = 1) :
  EmbS P (fun q => if q = qb then { ρ qb with fil := n } else ρ q) (soupL qb qf u8 n S) nx w B := by
 obtain ⟨hnd, h1⟩ := andB_spec hk
 obtain ⟨hqe, h2⟩ := andB_spec h1
 have hall := List.all_eq_true.1 h2
 clear h1 h2 hk
 generalize hρ : (fun q => if q = qb then { ρ qb with fil := n } else ρ q) = ρ'
 have hb : ∀ q, (ρ' q).blk = (ρ q).blk := fun q => by rw [← hρ]; dsimp only; split <;> rename_i e <;> first | (rw [e]) | rfl
 have ho : ∀ q, (ρ' q).base = (ρ q).base := fun q => by rw [← hρ]; dsimp only; split <;> rename_i e <;> first | (rw [e]) | rfl
 have hc : ∀ q, (ρ' q).cap = (ρ q).cap := fun q => by rw [← hρ]; dsimp only; split <;> rename_i e <;> first | (rw [e]) | rfl
 have hf : (ρ' qb).fil = n := by rw [← hρ]; dsimp only; rw [if_pos rfl]
 have hget : ∀ q, (mkT (mkS (soupL qb qf u8 n S))).get q ≠ .no → ∃ e ∈ S, e.1 = q ∧ (mkT (mkS S)).get q = e.2.ob ∧ (mkT (mkS (soupL qb qf u8 n S))).get q = (cond (Q.eq e.1 qb) (e.1, SB.sp u8) (cond (Q.eq e.1 qf) (e.1, match e.2 with | .bk ty (_ :: cs) => .bk ty (.y (.su qb n n) :: cs) | o => o) e)).2.ob := fun q hq => by
  obtain ⟨e', he', h3, h4⟩ := mkS_mem hq
  unfold soupL at he'
  obtain ⟨e, he, rfl⟩ := List.mem_map.1 he'
  have e1 : e.1 = q := by
   rw [← h3]
   cases Q.eq e.1 qb <;> cases Q.eq e.1 qf <;> rfl
  subst e1
  exact ⟨e, he, rfl, ndS_get hnd e he, h4⟩
 have hl : ∀ q, (mkT (mkS (soupL qb qf u8 n S))).get q ≠ .no → (mkT (mkS S)).get q ≠ .no := fun q hq => by
  obtain ⟨e, _, _, h3, _⟩ := hget q hq
  rw [h3]
  cases e.2 <;> simp [SB.ob]
 refine ⟨E.base, fun q hq => E.lt q (hl q hq), fun q hq => by rw [hb]; exact E.ge q (hl q hq), fun q r hq hr he => by rw [hb, hb] at he; exact E.inj q r (hl q hq) (hl r hr) he, fun q ty m v hq => ?_, fun q es hq => ?_, fun q o l hq => ?_, fun q i hq => ?_, fun q ty hq => ?_, fun q ty q0 us hq => ?_, E.tab⟩
 ·have hq : (mkT (mkS (soupL qb qf u8 n S))).get q = .bk ty m v := hq
  obtain ⟨e, he, rfl, h3, h4⟩ := hget q (by rw [hq]; simp)
  rw [hq] at h4
  have ha := hall e he
  cases e1 : Q.eq e.1 qb with
  | true => rw [e1] at h4; cases h4
  | false =>
   rw [e1] at h4 ha
   have row : ∀ {cs cs' : List AV}, e.2 = .bk ty cs → m = cs'.length → v = V.ofL cs' → cs'.length = cs.length → (∀ i (hi : i < cs.length) (hi' : i < cs'.length), ∀ x, Rel ρ nx.num cs[i] x → Rel ρ' nx.num cs'[i] x) → RowE P (ρ' e.1) ρ' nx.num w ty m v := fun {cs cs'} g1 g2 g3 g4 g5 => by
    subst g2
    subst g3
    have R := E.row e.1 ty cs.length (V.ofL cs) (by show (mkT (mkS S)).get e.1 = _; rw [h3, g1]; rfl)
    obtain ⟨sz, r1, r2, r3, r4⟩ := R.at_
    refine ⟨⟨sz, by rw [hb]; exact r1, by rw [ho]; omega, by rw [ho, hc]; exact r3, fun o h => by rw [hb]; exact r4 o h⟩, fun i hi => ?_⟩
    obtain ⟨x, c1, c2, c3⟩ := R.get i (by omega)
    rw [V.ofL_get cs i (by omega)] at c2
    refine ⟨x, by rw [hb, ho]; exact c1, ?_, c3⟩
    rw [V.ofL_get cs' i hi]
    exact g5 i (by omega) hi x c2
   cases e2 : Q.eq e.1 qf with
   | true =>
    rw [e2] at h4 ha
    obtain ⟨q, sb⟩ := e
    cases sb with
    | mp _ => cases ha
    | sp _ => cases ha
    | dm _ _ _ => cases ha
    | bk ty' cs =>
    cases cs with
    | nil => cases ha
    | cons x cs =>
     obtain ⟨a1, a2⟩ := andB_spec (show andB (avEq x (.sl qb 0 n (.u 0 n))) (cs.all plainB) = true from ha)
     have := avEq_eq a1
     subst this
     have h4 : OB.bk ty m v = OB.bk ty' (AV.y (.su qb n n) :: cs).length (V.ofL (AV.y (.su qb n n) :: cs)) := h4
     simp only [OB.bk.injEq] at h4
     obtain ⟨b1, b2, b3⟩ := h4
     subst b1
     refine row rfl b2 b3 rfl (fun i hi hi' x hx => ?_)
     cases i with
     | zero =>
      have hx : Rel ρ nx.num (.sl qb 0 n (.u 0 n)) x := hx
      cases hx with
      | slu _ _ _ _ _ h hn hcc hm =>
       have := Rel.su (ρ := ρ') (N := nx.num) qb n n n ((ρ qb).cap - 0) h (Nat.le_refl _) (Nat.le_refl _) (by rw [hf]; omega) (by omega) (by rw [hc]; omega) (by omega)
       rw [hb, ho] at this
       exact this
     | succ i => exact plainB_rel hb ho hc (List.all_eq_true.1 a2 _ (List.getElem_mem (by simpa using hi))) hx
   | false =>
    rw [e2] at h4 ha
    obtain ⟨q, sb⟩ := e
    cases sb with
    | mp _ => cases h4
    | sp _ => cases h4
    | dm _ _ _ => cases h4
    | bk ty' cs =>
     have h4 : OB.bk ty m v = OB.bk ty' cs.length (V.ofL cs) := h4
     simp only [OB.bk.injEq] at h4
     obtain ⟨b1, b2, b3⟩ := h4
     subst b1
     exact row rfl b2 b3 rfl (fun i hi hi' x hx => plainB_rel hb ho hc (List.all_eq_true.1 (show cs.all plainB = true from ha) _ (List.getElem_mem hi)) hx)
 ·have hq : (mkT (mkS (soupL qb qf u8 n S))).get q = .mp es := hq
  obtain ⟨e, he, rfl, h3, h4⟩ := hget q (by rw [hq]; simp)
  rw [hq] at h4
  have ha := hall e he
  cases e1 : Q.eq e.1 qb with
  | true => rw [e1] at h4; cases h4
  | false =>
   rw [e1] at h4 ha
   cases e2 : Q.eq e.1 qf with
   | true =>
    rw [e2] at h4 ha
    obtain ⟨q, sb⟩ := e
    cases sb with
    | mp _ => cases ha
    | sp _ => cases ha
    | dm _ _ _ => cases ha
    | bk ty' cs =>
    cases cs with
    | nil => cases ha
    | cons x cs => cases h4
   | false =>
    rw [e2] at h4 ha
    obtain ⟨q, sb⟩ := e
    cases sb with
    | bk _ _ => cases h4
    | sp _ => cases ha
    | dm _ _ _ => cases ha
    | mp es' =>
     cases h4
     obtain ⟨fs, c, c1, c2, c3⟩ := E.map q _ h3
     refine ⟨fs, c, by rw [hb]; exact c1, plainE_rel hb ho hc ha c2, c3⟩
 ·have hq : (mkT (mkS (soupL qb qf u8 n S))).get q = .si o l := hq
  obtain ⟨e', he', rfl, h4⟩ := mkS_mem (S := soupL qb qf u8 n S) (q := q) (by rw [hq]; simp)
  rw [hq] at h4
  cases h5 : e'.2 <;> (rw [h5] at h4; cases h4)
 ·have hq : (mkT (mkS (soupL qb qf u8 n S))).get q = .y (.op i) := hq
  obtain ⟨e', he', rfl, h4⟩ := mkS_mem (S := soupL qb qf u8 n S) (q := q) (by rw [hq]; simp)
  rw [hq] at h4
  cases h5 : e'.2 <;> (rw [h5] at h4; cases h4)
 ·have hq : (mkT (mkS (soupL qb qf u8 n S))).get q = .y (.soup ty) := hq
  obtain ⟨e, he, rfl, h3, h4⟩ := hget q (by rw [hq]; simp)
  rw [hq] at h4
  have ha := hall e he
  cases e1 : Q.eq e.1 qb with
  | true =>
   rw [e1] at h4 ha
   cases h4
   have := Q.eq_eq e1
   obtain ⟨q, sb⟩ := e
   dsimp only at this h3
   subst this
   cases sb with
   | mp _ => cases ha
   | sp _ => cases ha
   | dm _ _ _ => cases ha
   | bk ty' cs =>
    obtain ⟨a1, a2⟩ := andB_spec (show andB (Nat.beq ty' u8) (andB (Nat.beq cs.length n) (cs.all fun x => avEq x u8A)) = true from ha)
    obtain ⟨a3, a4⟩ := andB_spec a2
    have a1 := Nat.eq_of_beq_eq_true a1
    have a3 := Nat.eq_of_beq_eq_true a3
    subst a1
    have R := E.row q ty' cs.length (V.ofL cs) h3
    obtain ⟨sz, r1, r2, r3, r4⟩ := R.at_
    refine ⟨⟨sz, by rw [hb]; exact r1, by rw [ho, hc]; exact r3, fun o h => by rw [hb]; exact r4 o h⟩, fun i hi => ?_⟩
    rw [hf] at hi
    obtain ⟨x, c1, c2, c3⟩ := R.get i (by omega)
    rw [V.ofL_get cs i (by omega), avEq_eq (List.all_eq_true.1 a4 _ (List.getElem_mem (by omega)))] at c2
    rw [hb, ho]
    cases c2 with
    | iv _ _ _ m h1 h2 =>
     refine ⟨UInt8.ofNat (m - 9223372036854775808), ?_⟩
     rw [c1]
     congr 2
     simp
     omega
  | false =>
   rw [e1] at h4 ha
   cases e2 : Q.eq e.1 qf with
   | true =>
    rw [e2] at h4 ha
    obtain ⟨q, sb⟩ := e
    cases sb with
    | mp _ => cases ha
    | sp _ => cases ha
    | dm _ _ _ => cases ha
    | bk ty' cs =>
    cases cs with
    | nil => cases ha
    | cons x cs => cases h4
   | false =>
    rw [e2] at h4 ha
    obtain ⟨q, sb⟩ := e
    cases sb with
    | bk _ _ => cases h4
    | mp _ => cases h4
    | sp _ => cases ha
    | dm _ _ _ => cases ha
 ·have hq : (mkT (mkS (soupL qb qf u8 n S))).get q = .y (.dm ty q0 us) := hq
  obtain ⟨e, he, rfl, h3, h4⟩ := hget q (by rw [hq]; simp)
  rw [hq] at h4
  have ha := hall e he
  cases e1 : Q.eq e.1 qb with
  | true => rw [e1] at h4; cases h4
  | false =>
   rw [e1] at h4 ha
   cases e2 : Q.eq e.1 qf with
   | true =>
    rw [e2] at h4 ha
    obtain ⟨q, sb⟩ := e
    cases sb with
    | mp _ => cases ha
    | sp _ => cases ha
    | dm _ _ _ => cases ha
    | bk ty' cs =>
    cases cs with
    | nil => cases ha
    | cons x cs => cases h4
   | false =>
    rw [e2] at h4 ha
    obtain ⟨q, sb⟩ := e
    cases sb with
    | bk _ _ => cases h4
    | mp _ => cases h4
    | sp _ => cases ha
    | dm _ _ _ => cases ha
end
def repS (x : AV) : Nat → List AV
 | 0 => []
 | n + 1 => x :: repS x n
def told0 : List AV := zTold ++ (zTold ++ (zTold ++ (zTold ++ (zTold ++ zTold))))
noncomputable def writesK (sw : FS) (t : AV) (l : List (Nat × Nat)) : Hp → (Hp → Bool) → Bool :=
 List.rec (motive := fun _ => Hp → (Hp → Bool) → Bool) (fun h k => k h) (fun e _ ih h k => nbK 32 9 (opC e.1 e.2) h fun q h' => sw [t, iN e.1, .sl q 0 1 (.k 1)] h' fun _ h'' => ih h'' k) l
def wrS (c : Nat) : Nat → List (Nat × Nat)
 | 0 => []
 | n + 1 => wrS c n ++ [(c, n)]
end Go.Proofs.YtpchmdddkpocgaaGreatDoor
