/-
  No claim by itself: TopOrder: an operation's block; the server, told by its rows. | TopOrder: lists of cells; names raised; the server, told by its rows. | TopOrder: a push of the next batch. | TopOrder: a push of the next batch. | TopOrder: a stream, told by its rows; one row more. | TopOrder: a stream takes one row more. No condition.
-/
import Derived.Test.YtpchmdddkpocgaaGreatDoorP13
import Derived.Test.YtpchmdddkpocgaaGreatDoorTG3
import Derived.KernelRfl
namespace Go.Proofs.YtpchmdddkpocgaaGreatDoor
set_option maxRecDepth 100000
set_option linter.unusedVariables false
set_option linter.unusedSimpArgs false
open Go.RowKit
section
variable {ρ ρ' : Q → Loc} {w w' : World} {B N N' : Nat}
theorem rel_any {x : AV} {v : Value} (hx : keyA x = true) (h : Rel ρ N x v) : Rel ρ' N' x v := by
 cases x with
 | i k n => cases h; exact .i _ _
 | s n l =>
  generalize hz : AV.s n l = a at h
  cases h with
  | s s => exact .s s
  | _ => cases hz
 | _ => cases hx
theorem opC_key (c s : Nat) : ∀ x ∈ opC c s, keyA x = true := by
 intro x hx
 simp only [opC, iN, List.mem_cons, List.not_mem_nil, or_false] at hx
 rcases hx with rfl | rfl | rfl | rfl | rfl | rfl | rfl | rfl | rfl <;> rfl
def OpsAt (w : World) (v : Value) (c s : Nat) : Prop := ∃ l : Loc, v = .slice (some ⟨l.blk, l.base, none⟩) 1 l.cap ∧ 1 ≤ l.cap ∧ l.cap ≤ 9223372036854775807 ∧ ∀ ρ N, RowE Tryz.prog l ρ N w 32 9 (V.ofL (opC c s))
def opsB (v : Value) : Nat := match v with
 | .slice (some a) _ _ => a.block
 | _ => 0
theorem OpsAt.lt {v : Value} {c s : Nat} (h : OpsAt w v c s) : opsB v < w.heap.size := by
 obtain ⟨l, rfl, _, _, h4⟩ := h
 obtain ⟨sz, h5, _⟩ := (h4 (fun _ => l) 0).at_
 show l.blk < _
 unfold World.shape? at h5
 cases hx : w.heap[l.blk]? with
 | none => rw [hx] at h5; cases h5
 | some o => exact (Array.getElem?_eq_some_iff.1 hx).1
theorem OpsAt.shape {v : Value} {c s : Nat} (h : OpsAt w v c s) : ∃ sz, w.shape? (opsB v) = some (32, sz) := by
 obtain ⟨l, rfl, _, _, h4⟩ := h
 obtain ⟨sz, h5, _⟩ := (h4 (fun _ => l) 0).at_
 exact ⟨sz, h5⟩
theorem OpsAt.stay {v : Value} {c s : Nat} (h : OpsAt w v c s) (hb : w'.heap[opsB v]? = w.heap[opsB v]?) : OpsAt w' v c s := by
 obtain ⟨l, rfl, h2, h3, h4⟩ := h
 exact ⟨l, rfl, h2, h3, fun ρ N => (h4 ρ N).mono (fun _ _ => rfl) (Nat.le_refl _) hb⟩
theorem OpsAt.of {S : List (Q × SB)} {nx q : Q} {c s : Nat} (E : EmbS Tryz.prog ρ S nx w B) (hn : ndS S = true) (hm : (q, SB.bk 32 (opC c s)) ∈ S) {v : Value} (hv : Rel ρ nx.num (.sl q 0 1 (.u 0 1)) v) : OpsAt w v c s := by
 have R := E.row q _ _ _ (ndS_get hn _ hm)
 cases hv with
 | slu _ _ _ _ _ hq h1 h2 h3 =>
  refine ⟨ρ q, rfl, by omega, h3, fun ρ' N' => ⟨R.at_, fun i hi => ?_⟩⟩
  obtain ⟨x, c1, c2, c3⟩ := R.get i hi
  refine ⟨x, c1, ?_, c3⟩
  have hi' : i < (opC c s).length := hi
  rw [V.ofL_get (opC c s) i hi'] at c2 ⊢
  exact rel_any (opC_key c s _ (List.getElem_mem hi')) c2
def noOp : List (Q × SB) → Bool
 | [] => true
 | e :: S => andB (match e.2 with | .bk ty _ => Nat.blt ty 32 || Nat.blt 32 ty | .sp ty => Nat.blt ty 32 || Nat.blt 32 ty | _ => true) (noOp S)
theorem noOp_spec : ∀ {S : List (Q × SB)}, noOp S = true → ∀ e ∈ S, (∀ ty cs, e.2 = .bk ty cs → ty ≠ 32) ∧ (∀ ty, e.2 = .sp ty → ty ≠ 32)
 | [], _, e, he => by cases he
 | a :: S, h, e, he => by
  obtain ⟨h1, h2⟩ := andB_spec (show andB (match a.2 with | .bk ty _ => Nat.blt ty 32 || Nat.blt 32 ty | .sp ty => Nat.blt ty 32 || Nat.blt 32 ty | _ => true) (noOp S) = true from h)
  rcases List.mem_cons.1 he with rfl | he
  ·constructor
   ·intro ty cs e2 e3
    rw [e2, e3] at h1
    exact absurd (show (Nat.blt 32 32 || Nat.blt 32 32) = true from h1) (by decide)
   ·intro ty e2 e3
    rw [e2, e3] at h1
    exact absurd (show (Nat.blt 32 32 || Nat.blt 32 32) = true from h1) (by decide)
  ·exact noOp_spec h2 e he
theorem EmbS.notOp {S : List (Q × SB)} {nx : Q} (E : EmbS Tryz.prog ρ S nx w B) (hs : noOp S = true) {v : Value} {c s : Nat} (h : OpsAt w v c s) : ∀ q, (mkT (mkS S)).get q ≠ .no → (ρ q).blk ≠ opsB v := fun q hq e => by
 obtain ⟨sz, hsh⟩ := h.shape
 obtain ⟨e', he', rfl, hg⟩ := mkS_mem hq
 obtain ⟨h1, h2⟩ := noOp_spec hs e' he'
 cases ho : e'.2 with
 | bk ty cs =>
  rw [ho] at hg
  obtain ⟨sz', r1, _⟩ := (E.row e'.1 ty cs.length (V.ofL cs) hg).at_
  rw [e, hsh] at r1
  cases r1
  exact h1 _ _ ho rfl
 | mp es =>
  rw [ho] at hg
  obtain ⟨fs, c', c1, _⟩ := E.map e'.1 es hg
  rw [e] at c1
  unfold World.shape? at hsh
  rw [c1] at hsh
  cases hsh
 | sp ty =>
  rw [ho] at hg
  obtain ⟨sz', r1, _⟩ := (E.soup e'.1 ty hg).at_
  rw [e, hsh] at r1
  cases r1
  exact h2 _ ho rfl
 | dm ty q0 us =>
  rw [ho] at hg
  obtain ⟨_, fs, c', c1, _⟩ := E.dm e'.1 ty q0 us hg
  rw [e] at c1
  unfold World.shape? at hsh
  rw [c1] at hsh
  cases hsh
end
section
variable {P : Program} {ρ ρ' : Q → Loc} {w w' : World} {B N N' : Nat}
theorem reN_vl {T : List (Q × OB)} {q : Q} {j : Nat} {x : Value} (hj : j < 1000000) (h : w.cell? ⟨(ρ q).blk, (ρ q).base + j, none⟩ = some x) : (reN ρ T w .e).vl q j = x := by
 unfold reN
 rw [if_pos rfl]
 dsimp only
 rw [if_pos hj, h]
 rfl
theorem setAt_len : ∀ (l : List AV) (n : Nat) (y : AV), (setAt l n y).length = l.length
 | [], _, _ => rfl
 | _ :: l, 0, _ => rfl
 | x :: l, n + 1, y => by show (setAt l n y).length + 1 = l.length + 1; rw [setAt_len l n y]
theorem setAt_get : ∀ (l : List AV) (n : Nat) (y : AV) (i : Nat) (h : i < (setAt l n y).length) (h' : i < l.length), (setAt l n y)[i] = if i = n then y else l[i]
 | [], _, _, _, _, h' => absurd h' (by simp)
 | x :: l, 0, y, 0, _, _ => rfl
 | x :: l, 0, y, i + 1, _, _ => by rw [if_neg (by omega)]; rfl
 | x :: l, n + 1, y, 0, _, _ => by rw [if_neg (by omega)]; rfl
 | x :: l, n + 1, y, i + 1, h, h' => by
  show (setAt l n y)[i]'(by simpa [setAt] using h) = _
  rw [setAt_get l n y i (by simpa [setAt] using h) (by simpa using h')]
  by_cases e : i = n
  ·rw [if_pos e, if_pos (by omega)]
  ·rw [if_neg e, if_neg (by omega)]
   rfl
theorem rowC_len (q : Q) : ∀ k, (rowC q k).length = 5 * k
 | 0 => rfl
 | k + 1 => by
  show (rowC q k ++ _).length = _
  rw [List.length_append, rowC_len q k]
  simp only [List.length_cons, List.length_nil]
  omega
def rowX (q : Q) (i : Nat) : List AV := [iN (Nat.succ i), .y (.sv q (Nat.add (Nat.mul 5 i) 1)), .y (.sv q (Nat.add (Nat.mul 5 i) 2)), .y (.sv q (Nat.add (Nat.mul 5 i) 3)), iN 0]
theorem rowC_get (q : Q) : ∀ (k i j : Nat), i < k → j < 5 → (rowC q k)[5 * i + j]? = (rowX q i)[j]?
 | 0, _, _, h, _ => absurd h (by omega)
 | k + 1, i, j, hi, hj => by
  have hl := rowC_len q k
  have e0 : rowC q (k + 1) = rowC q k ++ rowX q k := rfl
  rw [e0]
  by_cases e : i < k
  ·rw [List.getElem?_append_left (by omega)]
   exact rowC_get q k i j e hj
  ·have e : i = k := by omega
   subst e
   rw [List.getElem?_append_right (by omega), hl]
   congr 1
   omega
def cntR (R : List (Nat × Nat)) (c : Nat) : Nat := R.countP fun r => r.1 == c
theorem cntR_snoc (R : List (Nat × Nat)) (r : Nat × Nat) (c : Nat) : cntR (R ++ [r]) c = cntR R c + (if r.1 = c then 1 else 0) := by
 unfold cntR
 rw [List.countP_append]
 congr 1
 by_cases e : r.1 = c
 ·rw [if_pos e]; simp [e]
 ·rw [if_neg e]; simp [e]
end
structure SrvAt (w : World) (B : Nat) (a : Nat × Nat) (R : List (Nat × Nat)) (ρ : Q → Loc) : Prop where
 E : EmbS Tryz.prog ρ (srvS R.length) (qn 30) w B
 root : (ρ (qn 1)).blk = a.1 ∧ (ρ (qn 1)).base = a.2
 row : ∀ i (h : i < R.length), (ρ .e).vl (qn 14) (5 * i + 1) = .int .i64 R[i].1 ∧ (ρ .e).vl (qn 14) (5 * i + 2) = .int .i64 R[i].2 ∧ OpsAt w ((ρ .e).vl (qn 14) (5 * i + 3)) R[i].1 (R[i].2 - 1)
 told : ∀ c, 1 ≤ c → c ≤ 3 → (ρ .e).vl (qn 13) (2 + 6 * c) = .int .i64 (cntR R c) ∧ (0 < cntR R c → OpsAt w ((ρ .e).vl (qn 13) (6 + 6 * c)) c (cntR R c - 1))
 sep : ∀ c, 1 ≤ c → c ≤ 3 → 0 < cntR R c → (∀ i, i < R.length → opsB ((ρ .e).vl (qn 14) (5 * i + 3)) ≠ opsB ((ρ .e).vl (qn 13) (6 + 6 * c))) ∧ ∀ d, 1 ≤ d → d ≤ 3 → 0 < cntR R d → d ≠ c → opsB ((ρ .e).vl (qn 13) (6 + 6 * d)) ≠ opsB ((ρ .e).vl (qn 13) (6 + 6 * c))
 ge : ∀ c, 1 ≤ c → c ≤ 3 → 0 < cntR R c → B ≤ opsB ((ρ .e).vl (qn 13) (6 + 6 * c))
section
variable {P : Program} {ρ ρ' : Q → Loc} {w w' : World} {B N N' : Nat}
theorem EmbS.atq {S : List (Q × SB)} {nx : Q} (E : EmbS P ρ S nx w B) (hn : ndS S = true) {q : Q} {ty : Nat} {cs : List AV} (hm : (q, SB.bk ty cs) ∈ S) {i : Nat} {y : AV} (hy : cs[i]? = some y) :
  ∃ x, w.cell? ⟨(ρ q).blk, (ρ q).base + i, none⟩ = some x ∧ Rel ρ nx.num y x ∧ x.oneCell' = true := by
 obtain ⟨hi, rfl⟩ := List.getElem?_eq_some_iff.1 hy
 exact E.at hn hm i hi
theorem rel_sv {q : Q} {j : Nat} {v : Value} (h : Rel ρ N (.y (.sv q j)) v) : v = (ρ .e).vl q j := by
 cases h with
 | sv _ _ _ _ hv _ => exact hv.symm
theorem rel_iN {n : Nat} {v : Value} (h : Rel ρ N (iN n) v) : v = .int .i64 (n : Int) := by
 unfold iN at h
 cases h
 congr 1
 show ((9223372036854775808 + n : Nat) : Int) - _ = _
 omega
theorem iN_rel (n : Nat) : Rel ρ N (iN n) (.int .i64 (n : Int)) := by
 have := Rel.i (ρ := ρ) (N := N) .i64 (Nat.add 9223372036854775808 n)
 have e : ((Nat.add 9223372036854775808 n : Nat) : Int) - 9223372036854775808 = (n : Int) := by
  show ((9223372036854775808 + n : Nat) : Int) - _ = _
  omega
 rw [e] at this
 exact this
end
def srvPre (k : Nat) (es es2 : List AV) : List (Q × SB) := (srvL k es es2 [] [] []).take 12
def srvPost (k : Nat) (rows : List AV) (us : List (List Nat × Nat)) : List (Q × SB) := (srvL k [] [] rows [] us).drop 13
theorem srvL_eq (k : Nat) (es es2 rows told : List AV) (us : List (List Nat × Nat)) : srvL k es es2 rows told us = srvPre k es es2 ++ ((qn 13, .bk 180 ([iN k, .p (qn 15) 0] ++ told)) :: srvPost k rows us) := by
 cases k <;> rfl
theorem srvL_nd (k : Nat) (es es2 rows told : List AV) (us : List (List Nat × Nat)) : ndS (srvL k es es2 rows told us) = true := by
 cases k <;> rfl
theorem srvL_noOp (k : Nat) (es es2 rows told : List AV) (us : List (List Nat × Nat)) : noOp (srvL k es es2 rows told us) = true := by
 cases k <;> rfl
theorem srvL_fold (k : Nat) (es es2 rows told : List AV) (us : List (List Nat × Nat)) : (qn 13, SB.bk 180 ([iN k, .p (qn 15) 0] ++ told)) ∈ srvL k es es2 rows told us := by
 rw [srvL_eq]
 simp
theorem srvL_rows (k : Nat) (es es2 rows told : List AV) (us : List (List Nat × Nat)) : (qn 14, SB.bk 50 rows) ∈ srvL (k + 1) es es2 rows told us := by
 unfold srvL
 simp
theorem toldC_get (q : Q) (c j : Nat) (h1 : 1 ≤ c) (h3 : c ≤ 3) (hj : j < 6) : (toldC q)[6 * c + j]? = some (.y (.sv q (2 + 6 * c + j))) := by
 match c, h1, h3, j, hj with
 | 1, _, _, 0, _ => rfl
 | 1, _, _, 1, _ => rfl
 | 1, _, _, 2, _ => rfl
 | 1, _, _, 3, _ => rfl
 | 1, _, _, 4, _ => rfl
 | 1, _, _, 5, _ => rfl
 | 2, _, _, 0, _ => rfl
 | 2, _, _, 1, _ => rfl
 | 2, _, _, 2, _ => rfl
 | 2, _, _, 3, _ => rfl
 | 2, _, _, 4, _ => rfl
 | 2, _, _, 5, _ => rfl
 | 3, _, _, 0, _ => rfl
 | 3, _, _, 1, _ => rfl
 | 3, _, _, 2, _ => rfl
 | 3, _, _, 3, _ => rfl
 | 3, _, _, 4, _ => rfl
 | 3, _, _, 5, _ => rfl
theorem EmbS.told {ρ : Q → Loc} {w : World} {B k : Nat} {nx : Q} {es es2 rows told : List AV} {us : List (List Nat × Nat)} (E : EmbS Tryz.prog ρ (srvL k es es2 rows told us) nx w B) {n : Nat} {y : AV}
  (h : ∀ x, w.cell? ⟨(ρ (qn 13)).blk, (ρ (qn 13)).base + (2 + n), none⟩ = some x → (∀ z, told[n]? = some z → Rel ρ nx.num z x) → Rel ρ nx.num y x) : EmbS Tryz.prog ρ (srvL k es es2 rows (setAt told n y) us) nx w B := by
 refine EmbS.recell E (srvL_nd ..) (fun e' he' => ?_)
 rw [srvL_eq] at he'
 rcases List.mem_append.1 he' with h1 | h1
 ·exact .inl (by rw [srvL_eq]; exact List.mem_append_left _ h1)
 rcases List.mem_cons.1 h1 with rfl | h1
 ·refine .inr ⟨_, _, _, srvL_fold .., rfl, ?_, fun i hi hi' x hx hr => ?_⟩
  ·simp [setAt_len]
  ·match i, hi, hi', hr with
   | 0, _, _, hr => exact hr
   | 1, _, _, hr => exact hr
   | i + 2, hi, hi', hr =>
    have hr : Rel ρ nx.num (told[i]'(by simpa using hi)) x := hr
    show Rel ρ nx.num ((setAt told n y)[i]'(by simpa using hi')) x
    rw [setAt_get told n y i (by simpa using hi') (by simpa using hi)]
    by_cases e : i = n
    ·subst e
     rw [if_pos rfl]
     refine h x (by rw [Nat.add_comm 2 i]; exact hx) (fun z hz => ?_)
     obtain ⟨_, rfl⟩ := List.getElem?_eq_some_iff.1 hz
     exact hr
    ·rw [if_neg e]
     exact hr
 ·exact .inl (by rw [srvL_eq]; exact List.mem_append_right _ (List.mem_cons_of_mem _ h1))
def RowVal (r : Value) : Prop := ∃ v0 v1 v2 v3 v4 : Value, r = .agg #[v0, v1, v2, v3, v4] ∧ v0.oneCell' = true ∧ v1.oneCell' = true ∧ v2.oneCell' = true ∧ v3.oneCell' = true ∧ v4.oneCell' = true
noncomputable def agg5 (y : AV) : Bool := y.on_t fun ys => List.casesOn (motive := fun _ => Bool) ys false fun y0 _ => y0.on_a fun cs => Nat.beq cs.length 5
section
variable {P : Program} {ρ : Q → Loc} {w w' : World} {B N : Nat}
theorem agg5_val {ys : List AV} {vs : List Value} (h : agg5 (.t ys) = true) (hr : RelL ρ N ys vs) {v0 : Value} (h0 : vs[0]? = some v0) : RowVal v0 := by
 cases hr with
 | nil => cases h0
 | cons y v ys vs hy _ =>
  have h0 : some v = some v0 := h0
  cases h0
  obtain ⟨cs, rfl, hc⟩ := AV.on_a_spec (show y.on_a (fun cs => Nat.beq cs.length 5) = true from h)
  cases hy with
  | a _ us hu h1 =>
   have hl : us.length = 5 := by rw [← RelL.length hu]; exact Nat.eq_of_beq_eq_true hc
   match us, hl, h1 with
   | [a, b, c, d, e], _, h1 => exact ⟨a, b, c, d, e, rfl, h1 a (by simp), h1 b (by simp), h1 c (by simp), h1 d (by simp), h1 e (by simp)⟩
theorem SoundF.runA {f : FuncId} {sf : FS} (hs : SoundF P f sf) {S0 S : List (Q × SB)} {nx0 nx : Q} {Xs : List AV} {f0 : List (Q × Q)} (E : EmbS P ρ S0 nx0 w B) (h0 : 0 < nx0.num) (h1 : 0 < nx.num) (hf : okK nx.num f0 = true) (hst : stayK nx0.num f0 = true)
  {args : List AV} {vals : List Value} (ha : RelL ρ nx0.num args vals) (hk : runS sf args S0 nx0 (fun y h' => andB (agg5 y) (finT nx.num Xs f0 S y h')) = true) :
  Calls P f vals.toArray w fun e w' => ∃ (vs : List Value) (ρ' : Q → Loc), e = .returned (.tuple vs.toArray) ∧ vs.length = Xs.length ∧ (∀ i (hx : i < Xs.length) (hv : i < vs.length), Rel ρ' nx.num Xs[i] vs[i]) ∧ EmbS P ρ' S nx w' B ∧ Turn ρ (mkS S0) w ρ' (mkS S) w' ∧ (∀ e ∈ f0, ρ' e.1 = ρ e.2) ∧ ∀ v0, vs[0]? = some v0 → RowVal v0 := by
 obtain ⟨t, ht, hk⟩ := buildK_spec hk
 refine (hs.sound ρ _ w B args vals _ (E.same ht) ha hk).mono fun e w' hl => ?_
 cases e with
 | returned v =>
  obtain ⟨ρ1, h', y, E1, s, hr, hk⟩ := hl
  obtain ⟨hag, hk⟩ := andB_spec (show andB (agg5 y) (finT nx.num Xs f0 S y h') = true from hk)
  obtain ⟨ys, rfl, hk⟩ := AV.on_t_spec (show y.on_t _ = true from hk)
  obtain ⟨hl, hk⟩ := ifT_eq hk
  obtain ⟨f1, a1, a2, a3, a4, a5⟩ := renL_spec (okK_spec hf) hk
  rw [matchS_eq] at a5
  obtain ⟨ρ', b1, b2, b3⟩ := match_sound E1 a1 h1 rfl a5
  have s' : Step ρ (.mk (mkT (mkS S0)) nx0) w ρ1 h' w' := ⟨s.ext, s.nx, s.size, fun b hb hn => s.frame b hb fun q hq => hn q ((ht q).live.2 hq), fun q hq => (s.img q hq).imp (fun ⟨r, hr, e⟩ => ⟨r, (ht r).live.2 hr, e⟩) id, s.os, s.tape, s.output⟩
  obtain ⟨c1, c2⟩ := piece_turn s' (b2.sub a2) b3 h0 hst
  cases hr with
  | t _ vs hv =>
   have hlen := RelL.length hv
   exact ⟨vs, ρ', rfl, by omega, fun i hx hi => a4 i hx (by omega) _ _ _ _ b2 _ (RelL.get hv i (by omega) hi), b1, c1, c2, fun v0 h0 => agg5_val hag hv h0⟩
 | _ => exact hl.elim
end
noncomputable def pushK (c s k : Nat) : Bool := runS s43 [.p (qn 1) 0, batA c s] (srvA c s k) (qn 31) fun y h' => andB (agg5 y) (finT 30 [.d, .ns, iN 0] [(qn 1, qn 1)] (srvB c s k) y h')
noncomputable def backK (c s k : Nat) : Bool := respS 30 (srvB c s k) (srvS (Nat.succ k))
def Blk (ρ : Q → Loc) (S : List (Q × SB)) (b : Nat) : Prop := ∃ q, (mkT (mkS S)).get q ≠ .no ∧ (ρ q).blk = b
structure But (F : Nat → Prop) (w w' : World) : Prop where
 os : w'.os = w.os
 tape : w'.tape = w.tape
 output : w'.output = w.output
 size : w.heap.size ≤ w'.heap.size
 block : ∀ b, b < w.heap.size → ¬ F b → w'.heap[b]? = w.heap[b]?
theorem But.mono {F G : Nat → Prop} {w w' : World} (h : But F w w') (hF : ∀ b, b < w.heap.size → F b → G b) : But G w w' := ⟨h.os, h.tape, h.output, h.size, fun b hb hn => h.block b hb fun hf => hn (hF b hb hf)⟩
theorem But.trans {F G : Nat → Prop} {a b c : World} (h : But F a b) (k : But G b c) (hG : ∀ x, x < a.heap.size → G x → F x) : But F a c :=
 ⟨k.os.trans h.os, k.tape.trans h.tape, k.output.trans h.output, Nat.le_trans h.size k.size, fun x hx hn => (k.block x (Nat.lt_of_lt_of_le hx h.size) fun hg => hn (hG x hx hg)).trans (h.block x hx hn)⟩
theorem But.refl (F : Nat → Prop) (w : World) : But F w w := ⟨rfl, rfl, rfl, Nat.le_refl _, fun _ _ _ => rfl⟩
theorem But.of_below {F : Nat → Prop} {w w' : World} (h : Below w.heap.size w w') : But F w w' := ⟨h.os, h.tape, h.output, h.size, fun b hb _ => h.block b hb⟩
theorem Emb.blkLt {P : Program} {ρ : Q → Loc} {S : List (Q × SB)} {nx : Q} {w : World} {B : Nat} (E : EmbS P ρ S nx w B) {b : Nat} (h : Blk ρ S b) : b < w.heap.size := by
 obtain ⟨q, hq, rfl⟩ := h
 exact E.blk_lt' hq
def SrvF (R : List (Nat × Nat)) (ρ : Q → Loc) (b : Nat) : Prop := Blk ρ (srvS R.length) b ∨ (∃ i, i < R.length ∧ b = opsB ((ρ .e).vl (qn 14) (5 * i + 3))) ∨ ∃ c, 1 ≤ c ∧ c ≤ 3 ∧ 0 < cntR R c ∧ b = opsB ((ρ .e).vl (qn 13) (6 + 6 * c))
theorem SrvAt.lt {w : World} {B : Nat} {a : Nat × Nat} {R : List (Nat × Nat)} {ρ : Q → Loc} (h : SrvAt w B a R ρ) {b : Nat} (hb : SrvF R ρ b) : b < w.heap.size := by
 rcases hb with h1 | ⟨i, hi, rfl⟩ | ⟨c, h1, h3, hp, rfl⟩
 ·exact h.E.blkLt h1
 ·exact (h.row i hi).2.2.lt
 ·exact ((h.told c h1 h3).2 hp).lt
theorem srvB_nd (c s k : Nat) : ndS (srvB c s k) = true := by cases k <;> rfl
theorem setMany_same (q : Q) (c j : Nat) (h1 : 1 ≤ c) (h3 : c ≤ 3) (hj : j < 6) (y0 y1 y2 y3 y4 y5 : AV) : (setMany (toldC q) (Nat.mul 6 c) [y0, y1, y2, y3, y4, y5])[6 * c + j]? = [y0, y1, y2, y3, y4, y5][j]? := by
 match c, h1, h3, j, hj with
 | 1, _, _, 0, _ => rfl
 | 1, _, _, 1, _ => rfl
 | 1, _, _, 2, _ => rfl
 | 1, _, _, 3, _ => rfl
 | 1, _, _, 4, _ => rfl
 | 1, _, _, 5, _ => rfl
 | 2, _, _, 0, _ => rfl
 | 2, _, _, 1, _ => rfl
 | 2, _, _, 2, _ => rfl
 | 2, _, _, 3, _ => rfl
 | 2, _, _, 4, _ => rfl
 | 2, _, _, 5, _ => rfl
 | 3, _, _, 0, _ => rfl
 | 3, _, _, 1, _ => rfl
 | 3, _, _, 2, _ => rfl
 | 3, _, _, 3, _ => rfl
 | 3, _, _, 4, _ => rfl
 | 3, _, _, 5, _ => rfl
theorem setMany_other (q : Q) (c d j : Nat) (h1 : 1 ≤ c) (h3 : c ≤ 3) (d1 : 1 ≤ d) (d3 : d ≤ 3) (hne : c ≠ d) (hj : j = 0 ∨ j = 4) (y0 y1 y2 y3 y4 y5 : AV) : (setMany (toldC q) (Nat.mul 6 c) [y0, y1, y2, y3, y4, y5])[6 * d + j]? = some (.y (.sv q (2 + 6 * d + j))) := by
 match c, h1, h3, d, d1, d3, hne with
 | 1, _, _, 1, _, _, h => exact (h rfl).elim
 | 2, _, _, 2, _, _, h => exact (h rfl).elim
 | 3, _, _, 3, _, _, h => exact (h rfl).elim
 | 1, _, _, 2, _, _, _ => rcases hj with rfl | rfl <;> rfl
 | 1, _, _, 3, _, _, _ => rcases hj with rfl | rfl <;> rfl
 | 2, _, _, 1, _, _, _ => rcases hj with rfl | rfl <;> rfl
 | 2, _, _, 3, _, _, _ => rcases hj with rfl | rfl <;> rfl
 | 3, _, _, 1, _, _, _ => rcases hj with rfl | rfl <;> rfl
 | 3, _, _, 2, _, _, _ => rcases hj with rfl | rfl <;> rfl
theorem srv_push {w0 w : World} {B : Nat} {a : Nat × Nat} {R : List (Nat × Nat)} {ρ : Q → Loc} (h : SrvAt w0 B a R ρ) (hb : Below w0.heap.size w0 w) {c s : Nat} (hc1 : 1 ≤ c) (hc3 : c ≤ 3) (hs : s = cntR R c) (hk : R.length ≤ 1000) {v : Value} (ho : OpsAt w v c s) (hv : w0.heap.size ≤ opsB v)
  (hP : pushK c s R.length = true) (hB : backK c s R.length = true) :
  Calls Tryz.prog 43 #[.pointer (some ⟨a.1, a.2, none⟩), .agg #[.int .i64 c, .int .i64 ((s + 1 : Nat) : Int), v]] w fun e w' =>
   (∃ r, RowVal r ∧ e = .returned (.tuple #[r, .slice none 0 0, .int .i64 0])) ∧ ∃ ρ', SrvAt w' B a (R ++ [(c, s + 1)]) ρ' ∧ But (fun b => Blk ρ (srvS R.length) b ∨ b = opsB v) w w' ∧ ∀ b, SrvF (R ++ [(c, s + 1)]) ρ' b → SrvF R ρ b ∨ w0.heap.size ≤ b := by
 obtain ⟨l, rfl, hl1, hl2, hl3⟩ := ho
 have hvb : opsB (.slice (some ⟨l.blk, l.base, none⟩) 1 l.cap) = l.blk := rfl
 rw [hvb] at hv
 have E1 : EmbS Tryz.prog ρ (srvS R.length) (qn 30) w B := Emb.stay h.E hb.size (fun q hq => hb.block _ (h.E.blk_lt' hq)) (fun b hB' => hb.block b (Nat.lt_of_lt_of_le hB' h.E.base))
 have E2 : EmbS Tryz.prog ρ (srvL R.length (entC (qn 6) R.length) (entC (qn 8) R.length) (rowC (qn 14) R.length) (setAt (toldC (qn 13)) (6 * c) (iN s)) []) (qn 30) w B := by
  refine EmbS.told E1 (fun x _ hr => ?_)
  have := rel_sv (hr _ (toldC_get (qn 13) c 0 hc1 hc3 (by omega)))
  rw [show 2 + 6 * c + 0 = 2 + 6 * c from rfl, (h.told c hc1 hc3).1, ← hs] at this
  rw [this]
  exact iN_rel s
 have hlive : ∀ q, (mkT (mkS (srvL R.length (entC (qn 6) R.length) (entC (qn 8) R.length) (rowC (qn 14) R.length) (setAt (toldC (qn 13)) (6 * c) (iN s)) []))).get q ≠ .no → (mkT (mkS (srvS R.length))).get q ≠ .no := fun q hq => by
  obtain ⟨e', he', rfl, hg⟩ := mkS_mem hq
  rw [srvL_eq] at he'
  have key : ∀ e2 ∈ srvS R.length, e2.1 = e'.1 → (mkT (mkS (srvS R.length))).get e'.1 ≠ .no := fun e2 h2 h3 => by
   have hx := ndS_get (S := srvS R.length) (srvL_nd ..) e2 h2
   rw [← h3, hx]
   cases e2.2 <;> simp [SB.ob]
  rcases List.mem_append.1 he' with h1 | h1
  ·exact key e' (by unfold srvS; rw [srvL_eq]; exact List.mem_append_left _ h1) rfl
  rcases List.mem_cons.1 h1 with rfl | h1
  ·exact key _ (srvL_fold ..) rfl
  ·exact key e' (by unfold srvS; rw [srvL_eq]; exact List.mem_append_right _ (List.mem_cons_of_mem _ h1)) rfl
 have hrow : RowE Tryz.prog l (upd ρ (qn 30) l) (qn 30).succ.num w 32 (opC c s).length (V.ofL (opC c s)) := hl3 _ _
 have E3 := EmbS.add E2 (l := l) (ty := 32) (cs := opC c s) (Nat.le_trans h.E.base hv) (fun q hq e => by
  have hlt : (ρ q).blk < w0.heap.size := Emb.blkLt h.E ⟨q, hlive q hq, rfl⟩
  exact absurd hv (by rw [← e]; exact Nat.not_le.2 hlt)) hrow
 clear hrow
 have hρ1 : upd ρ (qn 30) l (qn 1) = ρ (qn 1) := upd_lt ρ (qn 30) l _ (by decide)
 have hρe : upd ρ (qn 30) l .e = ρ .e := upd_lt ρ (qn 30) l _ (by decide)
 have hargs : RelL (upd ρ (qn 30) l) (qn 31).num [.p (qn 1) 0, batA c s] [.pointer (some ⟨a.1, a.2, none⟩), .agg #[.int .i64 c, .int .i64 ((s + 1 : Nat) : Int), .slice (some ⟨l.blk, l.base, none⟩) 1 l.cap]] := by
  refine .cons _ _ _ _ ?_ (.cons _ _ _ _ ?_ .nil)
  ·have := Rel.p (ρ := upd ρ (qn 30) l) (N := (qn 31).num) (qn 1) 0 (by decide)
   rw [hρ1, h.root.1, h.root.2] at this
   exact this
  ·refine .a [_, _, _] [_, _, _] (.cons _ _ _ _ (iN_rel c) (.cons _ _ _ _ (iN_rel (s + 1)) (.cons _ _ _ _ ?_ .nil))) (by intro u hu; simp at hu; rcases hu with rfl | rfl | rfl <;> rfl)
   have := Rel.slu (ρ := upd ρ (qn 30) l) (N := (qn 31).num) (qn 30) 0 1 0 1 (by decide) (Nat.le_refl _) (by rw [upd_same]; omega) (by rw [upd_same]; exact hl2)
   rw [upd_same] at this
   exact this
 refine (SoundF.runA d43 (S0 := srvA c s R.length) (nx := qn 30) E3 (by decide) (by decide) (f0 := [(qn 1, qn 1)]) (by decide) (by decide) hargs hP).mono ?_
 rintro e w' ⟨vs, ρ', rfl, hlen, hvs, ET, tn, hst, hrv⟩
 obtain ⟨r, x1, x2, rfl⟩ : ∃ r x1 x2, vs = [r, x1, x2] := by
  match vs, hlen with
  | [r, x1, x2], _ => exact ⟨r, x1, x2, rfl⟩
 have hx1 : x1 = .slice none 0 0 := by
  have := hvs 1 (by decide) (by simp)
  have : Rel ρ' (qn 30).num .ns x1 := this
  cases this
  rfl
 have hx2 : x2 = .int .i64 0 := by
  have := hvs 2 (by decide) (by simp)
  exact rel_iN (n := 0) this
 subst hx1
 subst hx2
 have hρ'e : ρ' .e = ρ .e := tn.e.trans hρe
 have hA : ∀ q, (mkT (mkS (srvA c s R.length))).get q ≠ .no → q = qn 30 ∨ Blk ρ (srvS R.length) (upd ρ (qn 30) l q).blk := fun q hq => by
  by_cases e : q = qn 30
  ·exact .inl e
  ·refine .inr ⟨q, ?_, by rw [upd_ne _ _ e]⟩
   obtain ⟨e', he', rfl, hg⟩ := mkS_mem hq
   unfold srvA at he'
   rcases List.mem_append.1 he' with h1 | h1
   ·refine hlive _ ?_
    have hx := ndS_get (S := srvL R.length (entC (qn 6) R.length) (entC (qn 8) R.length) (rowC (qn 14) R.length) (setAt (toldC (qn 13)) (6 * c) (iN s)) []) (srvL_nd ..) e' h1
    rw [hx]
    cases e'.2 <;> simp [SB.ob]
   ·obtain rfl := List.mem_singleton.1 h1
    exact (e rfl).elim
 have hfr : ∀ b, b < w.heap.size → ¬ (Blk ρ (srvS R.length) b ∨ b = l.blk) → w'.heap[b]? = w.heap[b]? := fun b hbs hn => tn.frame b hbs (fun q hq e => by
  rcases hA q hq with rfl | h2
  ·rw [upd_same] at e; exact hn (.inr e.symm)
  ·rw [e] at h2; exact hn (.inl h2))
 have hops : ∀ {x : Value} {c' s' : Nat}, OpsAt w0 x c' s' → OpsAt w' x c' s' := fun {x c' s'} hx => by
  have h1 := hx.lt
  refine hx.stay ((hfr _ (Nat.lt_of_lt_of_le h1 hb.size) ?_).trans (hb.block _ h1))
  rintro (⟨q, hq, e⟩ | e)
  ·exact EmbS.notOp h.E (srvL_noOp ..) hx q hq e
  ·omega
 have ER := Emb.retell ET (nx' := qn 30) (Nat.le_refl _) (by decide) hB
 have hlen' : (R ++ [(c, s + 1)]).length = Nat.succ R.length := by simp
 have hm14 : (qn 14, SB.bk 50 (rowC (qn 14) R.length ++ [iN (Nat.succ R.length), iN c, iN (Nat.succ s), .sl (qn 22) 0 1 (.u 0 1), iN 0])) ∈ srvB c s R.length := List.mem_append_left _ (srvL_rows ..)
 have hm13 : (qn 13, SB.bk 180 ([iN (Nat.succ R.length), .p (qn 15) 0] ++ setMany (toldC (qn 13)) (Nat.mul 6 c) [iN (Nat.succ s), iN (Nat.succ R.length), iN c, iN (Nat.succ s), .sl (qn 21) 0 1 (.u 0 1), iN 0])) ∈ srvB c s R.length := List.mem_append_left _ (srvL_fold ..)
 have hnd := srvB_nd c s R.length
 have cell : ∀ {q : Q} {ty : Nat} {cs : List AV} {j : Nat} {y : AV}, (q, SB.bk ty cs) ∈ srvB c s R.length → j < 1000000 → cs[j]? = some y → Rel ρ' (qn 30).num y ((reN ρ' (mkS (srvB c s R.length)) w' .e).vl q j) := fun {q ty cs j y} hm hj hy => by
  obtain ⟨x, c1, c2, _⟩ := EmbS.atq ET hnd hm hy
  rw [reN_vl hj c1]
  exact c2
 have hX : ∀ i, i < R.length → (reN ρ' (mkS (srvB c s R.length)) w' .e).vl (qn 14) (5 * i + 3) = (ρ .e).vl (qn 14) (5 * i + 3) := fun i hik => by
  rw [← hρ'e]
  exact rel_sv (cell hm14 (j := 5 * i + 3) (by omega) (by
   rw [List.getElem?_append_left (by rw [rowC_len]; omega)]
   exact rowC_get _ _ _ 3 hik (by decide)))
 have hXk := cell hm14 (j := 5 * R.length + 3) (y := .sl (qn 22) 0 1 (.u 0 1)) (by omega) (by
  rw [List.getElem?_append_right (by rw [rowC_len]; omega), rowC_len, show 5 * R.length + 3 - 5 * R.length = 3 from by omega]
  rfl)
 have hYc := cell hm13 (j := 6 + 6 * c) (by omega) (y := .sl (qn 21) 0 1 (.u 0 1)) (by
  show ([iN (Nat.succ R.length), .p (qn 15) 0] ++ _)[6 + 6 * c]? = _
  rw [List.getElem?_append_right (by simp; omega)]
  have := setMany_same (qn 13) c 4 hc1 hc3 (by omega) (iN (Nat.succ s)) (iN (Nat.succ R.length)) (iN c) (iN (Nat.succ s)) (.sl (qn 21) 0 1 (.u 0 1)) (iN 0)
  rw [show 6 + 6 * c - [iN (Nat.succ R.length), AV.p (qn 15) 0].length = 6 * c + 4 from by simp only [List.length_cons, List.length_nil]; omega]
  exact this)
 have hY : ∀ d, 1 ≤ d → d ≤ 3 → c ≠ d → (reN ρ' (mkS (srvB c s R.length)) w' .e).vl (qn 13) (6 + 6 * d) = (ρ .e).vl (qn 13) (6 + 6 * d) := fun d hd1 hd3 hdc => by
  rw [← hρ'e]
  have := rel_sv (cell hm13 (j := 2 + 6 * d + 4) (y := .y (.sv (qn 13) (2 + 6 * d + 4))) (by omega) (by
   show ([iN (Nat.succ R.length), .p (qn 15) 0] ++ _)[2 + 6 * d + 4]? = _
   rw [List.getElem?_append_right (by simp only [List.length_cons, List.length_nil]; omega)]
   have := setMany_other (qn 13) c d 4 hc1 hc3 hd1 hd3 hdc (.inr rfl) (iN (Nat.succ s)) (iN (Nat.succ R.length)) (iN c) (iN (Nat.succ s)) (.sl (qn 21) 0 1 (.u 0 1)) (iN 0)
   rw [show 2 + 6 * d + 4 - [iN (Nat.succ R.length), AV.p (qn 15) 0].length = 6 * d + 4 from by simp only [List.length_cons, List.length_nil]; omega]
   exact this))
  rw [show 2 + 6 * d + 4 = 6 + 6 * d from by omega] at this
  exact this
 have bl : ∀ {q : Q} {x : Value}, Rel ρ' (qn 30).num (.sl q 0 1 (.u 0 1)) x → opsB x = (ρ' q).blk := fun hx => by cases hx; rfl
 have l21 : (mkT (mkS (srvB c s R.length))).get (qn 21) ≠ .no := by
  have := ndS_get hnd (qn 21, SB.bk 32 (opC c s)) (by unfold srvB; simp)
  dsimp only at this
  rw [this]; simp [SB.ob]
 have l22 : (mkT (mkS (srvB c s R.length))).get (qn 22) ≠ .no := by
  have := ndS_get hnd (qn 22, SB.bk 32 (opC c s)) (by unfold srvB; simp)
  dsimp only at this
  rw [this]; simp [SB.ob]
 have hne : ∀ {q : Q} {x : Value} {c' s' : Nat}, (mkT (mkS (srvB c s R.length))).get q ≠ .no → OpsAt w0 x c' s' → (ρ' q).blk ≠ opsB x := fun {q x c' s'} hq hx e => by
  have hxl := hx.lt
  rcases tn.img q hq with ⟨r', h1, h2⟩ | h1
  ·rcases hA r' h1 with rfl | ⟨q3, h3, h4⟩
   ·rw [upd_same] at h2; omega
   ·exact EmbS.notOp h.E (srvL_noOp ..) hx q3 h3 (by rw [h4, ← h2, e])
  ·have := hb.size
   omega
 have h12 : (ρ' (qn 21)).blk ≠ (ρ' (qn 22)).blk := fun e => absurd (ET.inj _ _ l21 l22 e) (by decide)
 have hgo : ∀ {q : Q}, (mkT (mkS (srvB c s R.length))).get q ≠ .no → SrvF R ρ (ρ' q).blk ∨ w0.heap.size ≤ (ρ' q).blk := fun {q} hq => by
  rcases tn.img q hq with ⟨r', h1, h2⟩ | h1
  ·rcases hA r' h1 with rfl | h3
   ·right; rw [h2, upd_same]; exact hv
   ·left; left; rw [h2]; exact h3
  ·right; exact Nat.le_trans hb.size h1
 refine ⟨⟨r, hrv r rfl, rfl⟩, reN ρ' (mkS (srvB c s R.length)) w', ⟨?_, ?_, fun i hi => ?_, fun d hd1 hd3 => ?_, ?_, fun d hd1 hd3 hp => ?_⟩, ⟨tn.os, tn.tape, tn.output, tn.size, hfr⟩, fun b hbb => ?_⟩
 ·rw [hlen']; exact ER
 ·rw [reN_ne (by decide), hst _ List.mem_cons_self, hρ1]
  exact h.root
 ·by_cases hik : i < R.length
  ·have g : ∀ j, j < 5 → (rowC (qn 14) R.length ++ [iN (Nat.succ R.length), iN c, iN (Nat.succ s), .sl (qn 22) 0 1 (.u 0 1), iN 0])[5 * i + j]? = (rowX (qn 14) i)[j]? := fun j hj => by
    rw [List.getElem?_append_left (by rw [rowC_len]; omega)]
    exact rowC_get _ _ _ _ hik hj
   have r1 := rel_sv (cell hm14 (j := 5 * i + 1) (by omega) (g 1 (by omega)))
   have r2 := rel_sv (cell hm14 (j := 5 * i + 2) (by omega) (g 2 (by omega)))
   have r3 := rel_sv (cell hm14 (j := 5 * i + 3) (by omega) (g 3 (by omega)))
   obtain ⟨o1, o2, o3⟩ := h.row i hik
   rw [r1, r2, r3, hρ'e, List.getElem_append_left hik]
   exact ⟨o1, o2, hops o3⟩
  ·have hik : i = R.length := by rw [hlen'] at hi; omega
   subst hik
   have g : ∀ j, j < 5 → (rowC (qn 14) R.length ++ [iN (Nat.succ R.length), iN c, iN (Nat.succ s), .sl (qn 22) 0 1 (.u 0 1), iN 0])[5 * R.length + j]? = [iN (Nat.succ R.length), iN c, iN (Nat.succ s), .sl (qn 22) 0 1 (.u 0 1), iN 0][j]? := fun j hj => by
    rw [List.getElem?_append_right (by rw [rowC_len]; omega), rowC_len]
    congr 1
    omega
   have r1 := rel_iN (cell hm14 (j := 5 * R.length + 1) (by omega) (g 1 (by omega)))
   have r2 := rel_iN (cell hm14 (j := 5 * R.length + 2) (by omega) (g 2 (by omega)))
   have r3 := cell hm14 (j := 5 * R.length + 3) (by omega) (g 3 (by omega))
   have o3 := OpsAt.of ET hnd (q := qn 22) (c := c) (s := s) (by unfold srvB; simp) r3
   rw [r1, r2, List.getElem_append_right (by omega)]
   simp only [Nat.sub_self, List.getElem_cons_zero, Nat.add_sub_cancel]
   exact ⟨trivial, trivial, o3⟩
 ·rw [cntR_snoc]
  by_cases hdc : c = d
  ·subst hdc
   have g0 := cell hm13 (j := 2 + 6 * c) (by omega) (y := iN (Nat.succ s)) (by
    show ([iN (Nat.succ R.length), .p (qn 15) 0] ++ _)[2 + 6 * c]? = _
    rw [List.getElem?_append_right (by simp)]
    have := setMany_same (qn 13) c 0 hc1 hc3 (by omega) (iN (Nat.succ s)) (iN (Nat.succ R.length)) (iN c) (iN (Nat.succ s)) (.sl (qn 21) 0 1 (.u 0 1)) (iN 0)
    simp only [List.length_cons, List.length_nil, Nat.add_zero, Nat.zero_add, Nat.add_sub_cancel_left] at this ⊢
    exact this)
   have g4 := cell hm13 (j := 6 + 6 * c) (by omega) (y := .sl (qn 21) 0 1 (.u 0 1)) (by
    show ([iN (Nat.succ R.length), .p (qn 15) 0] ++ _)[6 + 6 * c]? = _
    rw [List.getElem?_append_right (by simp; omega)]
    have := setMany_same (qn 13) c 4 hc1 hc3 (by omega) (iN (Nat.succ s)) (iN (Nat.succ R.length)) (iN c) (iN (Nat.succ s)) (.sl (qn 21) 0 1 (.u 0 1)) (iN 0)
    rw [show 6 + 6 * c - [iN (Nat.succ R.length), AV.p (qn 15) 0].length = 6 * c + 4 from by simp only [List.length_cons, List.length_nil]; omega]
    exact this)
   have o3 := OpsAt.of ET hnd (q := qn 21) (c := c) (s := s) (by unfold srvB; simp) g4
   rw [if_pos rfl, ← hs, rel_iN g0]
   exact ⟨rfl, fun _ => by rw [Nat.add_sub_cancel]; exact o3⟩
  ·have gj : ∀ j, j = 0 ∨ j = 4 → Rel ρ' (qn 30).num (.y (.sv (qn 13) (2 + 6 * d + j))) ((reN ρ' (mkS (srvB c s R.length)) w' .e).vl (qn 13) (2 + 6 * d + j)) := fun j hj => cell hm13 (by omega) (by
    show ([iN (Nat.succ R.length), .p (qn 15) 0] ++ _)[2 + 6 * d + j]? = _
    rw [List.getElem?_append_right (by simp; omega)]
    have := setMany_other (qn 13) c d j hc1 hc3 hd1 hd3 hdc hj (iN (Nat.succ s)) (iN (Nat.succ R.length)) (iN c) (iN (Nat.succ s)) (.sl (qn 21) 0 1 (.u 0 1)) (iN 0)
    rw [show 2 + 6 * d + j - [iN (Nat.succ R.length), AV.p (qn 15) 0].length = 6 * d + j from by simp only [List.length_cons, List.length_nil]; omega]
    exact this)
   have g0 := rel_sv (gj 0 (.inl rfl))
   have g4 := rel_sv (gj 4 (.inr rfl))
   rw [show 2 + 6 * d + 4 = 6 + 6 * d from by omega] at g4
   obtain ⟨o1, o2⟩ := h.told d hd1 hd3
   rw [if_neg hdc, Nat.add_zero, show 2 + 6 * d = 2 + 6 * d + 0 from rfl, g0, g4, hρ'e]
   exact ⟨o1, fun hp => hops (o2 hp)⟩
 ·intro d hd1 hd3 hpos
  by_cases hdc : c = d
  ·subst hdc
   refine ⟨fun i hi => ?_, fun d' h1 h3 hp hnd' => ?_⟩
   ·rw [bl hYc]
    by_cases hik : i < R.length
    ·rw [hX i hik]
     exact fun e => hne l21 (h.row i hik).2.2 e.symm
    ·have hik : i = R.length := by rw [hlen'] at hi; omega
     subst hik
     rw [bl hXk]
     exact fun e => h12 e.symm
   ·rw [bl hYc, hY d' h1 h3 (Ne.symm hnd')]
    have hp' : 0 < cntR R d' := by rw [cntR_snoc, if_neg (Ne.symm hnd')] at hp; exact hp
    exact fun e => hne l21 ((h.told d' h1 h3).2 hp') e.symm
  ·have hp0 : 0 < cntR R d := by rw [cntR_snoc, if_neg hdc] at hpos; exact hpos
   have hod := (h.told d hd1 hd3).2 hp0
   obtain ⟨s1, s2⟩ := h.sep d hd1 hd3 hp0
   refine ⟨fun i hi => ?_, fun d' h1 h3 hp hnd' => ?_⟩
   ·rw [hY d hd1 hd3 hdc]
    by_cases hik : i < R.length
    ·rw [hX i hik]; exact s1 i hik
    ·have hik : i = R.length := by rw [hlen'] at hi; omega
     subst hik
     rw [bl hXk]
     exact hne l22 hod
   ·rw [hY d hd1 hd3 hdc]
    by_cases hcd' : c = d'
    ·subst hcd'
     rw [bl hYc]
     exact hne l21 hod
    ·rw [hY d' h1 h3 hcd']
     have hp' : 0 < cntR R d' := by rw [cntR_snoc, if_neg hcd'] at hp; exact hp
     exact s2 d' h1 h3 hp' hnd'
 ·by_cases hdc : c = d
  ·subst hdc
   rw [bl hYc]
   exact ET.ge _ l21
  ·rw [hY d hd1 hd3 hdc]
   have hp' : 0 < cntR R d := by rw [cntR_snoc, if_neg hdc] at hp; exact hp
   exact h.ge d hd1 hd3 hp'
 ·rcases hbb with hbb | ⟨i, hi, rfl⟩ | ⟨d, hd1, hd3, hp, rfl⟩
  ·rw [hlen'] at hbb
   obtain ⟨q, hq, rfl⟩ := hbb
   have hq1 := respT_get (respS_T hB) q hq
   have hq2 : (mkT (mkS (srvB c s R.length))).get q ≠ .no := live_of_respO hq1.2.2
   rw [reN_ne hq1.1]
   exact hgo hq2
  ·by_cases hik : i < R.length
   ·rw [hX i hik]
    exact .inl (.inr (.inl ⟨i, hik, rfl⟩))
   ·have hik : i = R.length := by rw [hlen'] at hi; omega
    subst hik
    rw [bl hXk]
    exact hgo l22
  ·by_cases hdc : c = d
   ·subst hdc
    rw [bl hYc]
    exact hgo l21
   ·rw [hY d hd1 hd3 hdc]
    have hp' : 0 < cntR R d := by rw [cntR_snoc, if_neg hdc] at hp; exact hp
    exact .inl (.inr (.inr ⟨d, hd1, hd3, hp', rfl⟩))
def strPre (p : Nat) : List (Q × SB) := (strL p [] [] []).take 1
def strPost (p : Nat) (rows : List AV) (us : List (List Nat × Nat)) : List (Q × SB) := (strL p rows [] us).drop 2
theorem strL_eq (p : Nat) (rows told : List AV) (us : List (List Nat × Nat)) : strL p rows told us = strPre p ++ ((qn 2, .bk 180 ([iN p, .p (qn 3) 0] ++ told)) :: strPost p rows us) := by
 cases p <;> rfl
theorem strL_nd (p : Nat) (rows told : List AV) (us : List (List Nat × Nat)) : ndS (strL p rows told us) = true := by
 cases p <;> rfl
theorem strL_noOp (p : Nat) (rows told : List AV) (us : List (List Nat × Nat)) : noOp (strL p rows told us) = true := by
 cases p <;> rfl
theorem strL_fold (p : Nat) (rows told : List AV) (us : List (List Nat × Nat)) : (qn 2, SB.bk 180 ([iN p, .p (qn 3) 0] ++ told)) ∈ strL p rows told us := by
 rw [strL_eq]
 simp
theorem strL_rows (p : Nat) (rows told : List AV) (us : List (List Nat × Nat)) : (qn 5, SB.bk 50 rows) ∈ strL (p + 1) rows told us := by
 unfold strL
 simp
theorem strB_nd (p d t : Nat) : ndS (strB p d t) = true := by cases p <;> rfl
def keyB (c : Nat) : List Nat := [107, 48 + c]
def docR (R : List (Nat × Nat)) : DataW Unit := R.foldl (fun D r => updM D (keyB r.1, 9223372036854775808 + (r.2 - 1))) (.map [])
structure StrAt (w : World) (B : Nat) (a : Nat × Nat) (R : List (Nat × Nat)) (ρ : Q → Loc) : Prop where
 E : EmbS Tryz.prog ρ (strS R.length) (qn 20) w B
 root : (ρ (qn 1)).blk = a.1 ∧ (ρ (qn 1)).base = a.2
 row : ∀ i (h : i < R.length), (ρ .e).vl (qn 5) (5 * i + 1) = .int .i64 R[i].1 ∧ (ρ .e).vl (qn 5) (5 * i + 2) = .int .i64 R[i].2 ∧ OpsAt w ((ρ .e).vl (qn 5) (5 * i + 3)) R[i].1 (R[i].2 - 1)
 told : ∀ c, 1 ≤ c → c ≤ 3 → (ρ .e).vl (qn 2) (2 + 6 * c) = .int .i64 (cntR R c)
 doc : (ρ .e).mc (qn 4) = docR R
def StrF (R : List (Nat × Nat)) (ρ : Q → Loc) (b : Nat) : Prop := Blk ρ (strS R.length) b ∨ ∃ i, i < R.length ∧ b = opsB ((ρ .e).vl (qn 5) (5 * i + 3))
theorem StrAt.lt {w : World} {B : Nat} {a : Nat × Nat} {R : List (Nat × Nat)} {ρ : Q → Loc} (h : StrAt w B a R ρ) {b : Nat} (hb : StrF R ρ b) : b < w.heap.size := by
 rcases hb with h1 | ⟨i, hi, rfl⟩
 ·exact h.E.blkLt h1
 ·exact (h.row i hi).2.2.lt
theorem blk_of_live {ρ : Q → Loc} {S : List (Q × SB)} {nx q : Q} (hq : (Hp.mk (mkT (mkS S)) nx).live q) : Blk ρ S (ρ q).blk := ⟨q, hq, rfl⟩
theorem StrAt.stay {w w' : World} {B : Nat} {a : Nat × Nat} {R : List (Nat × Nat)} {ρ : Q → Loc} (h : StrAt w B a R ρ) (hs : w.heap.size ≤ w'.heap.size) (hb : ∀ b, StrF R ρ b → w'.heap[b]? = w.heap[b]?) (ht : ∀ b, b < B → w'.heap[b]? = w.heap[b]?) : StrAt w' B a R ρ := by
 refine ⟨Emb.stay h.E hs ?_ ht, h.root, fun i hi => ⟨(h.row i hi).1, (h.row i hi).2.1, (h.row i hi).2.2.stay ?_⟩, h.told, h.doc⟩
 ·intro q hq
  exact hb _ (Or.inl (blk_of_live hq))
 ·exact hb _ (Or.inr ⟨i, hi, rfl⟩)
theorem SrvAt.stay {w w' : World} {B : Nat} {a : Nat × Nat} {R : List (Nat × Nat)} {ρ : Q → Loc} (h : SrvAt w B a R ρ) (hs : w.heap.size ≤ w'.heap.size) (hb : ∀ b, SrvF R ρ b → w'.heap[b]? = w.heap[b]?) (ht : ∀ b, b < B → w'.heap[b]? = w.heap[b]?) : SrvAt w' B a R ρ := by
 refine ⟨Emb.stay h.E hs ?_ ht, h.root, fun i hi => ⟨(h.row i hi).1, (h.row i hi).2.1, (h.row i hi).2.2.stay ?_⟩, fun c h1 h3 => ⟨(h.told c h1 h3).1, fun hp => ((h.told c h1 h3).2 hp).stay ?_⟩, h.sep, h.ge⟩
 ·intro q hq
  exact hb _ (Or.inl (blk_of_live hq))
 ·exact hb _ (Or.inr (Or.inl ⟨i, hi, rfl⟩))
 ·exact hb _ (Or.inr (Or.inr ⟨c, h1, h3, hp, rfl⟩))
theorem EmbS.told2 {ρ : Q → Loc} {w : World} {B p : Nat} {nx : Q} {rows told : List AV} {us : List (List Nat × Nat)} (E : EmbS Tryz.prog ρ (strL p rows told us) nx w B) {n : Nat} {y : AV}
  (h : ∀ x, w.cell? ⟨(ρ (qn 2)).blk, (ρ (qn 2)).base + (2 + n), none⟩ = some x → (∀ z, told[n]? = some z → Rel ρ nx.num z x) → Rel ρ nx.num y x) : EmbS Tryz.prog ρ (strL p rows (setAt told n y) us) nx w B := by
 refine EmbS.recell E (strL_nd ..) (fun e' he' => ?_)
 rw [strL_eq] at he'
 rcases List.mem_append.1 he' with h1 | h1
 ·exact .inl (by rw [strL_eq]; exact List.mem_append_left _ h1)
 rcases List.mem_cons.1 h1 with rfl | h1
 ·refine .inr ⟨_, _, _, strL_fold .., rfl, ?_, fun i hi hi' x hx hr => ?_⟩
  ·simp [setAt_len]
  ·match i, hi, hi', hr with
   | 0, _, _, hr => exact hr
   | 1, _, _, hr => exact hr
   | i + 2, hi, hi', hr =>
    have hr : Rel ρ nx.num (told[i]'(by simpa using hi)) x := hr
    show Rel ρ nx.num ((setAt told n y)[i]'(by simpa using hi')) x
    rw [setAt_get told n y i (by simpa using hi') (by simpa using hi)]
    by_cases e : i = n
    ·subst e
     rw [if_pos rfl]
     refine h x (by rw [Nat.add_comm 2 i]; exact hx) (fun z hz => ?_)
     obtain ⟨_, rfl⟩ := List.getElem?_eq_some_iff.1 hz
     exact hr
    ·rw [if_neg e]
     exact hr
 ·exact .inl (by rw [strL_eq]; exact List.mem_append_right _ (List.mem_cons_of_mem _ h1))
noncomputable def oneK (p d t : Nat) : Bool := runS s214 [.p (qn 1) 0, rowA p d t (qn 20)] (strA p d t) (qn 21) (finT 20 [.b true, iN 0] [(qn 1, qn 1)] (strB p d t))
noncomputable def oneB (p d t : Nat) : Bool := respS 20 (strB p d t) (strS (Nat.succ p))
theorem str_one {w : World} {B : Nat} {a : Nat × Nat} {R : List (Nat × Nat)} {ρ : Q → Loc} (h : StrAt w B a R ρ) {c s : Nat} (hc1 : 1 ≤ c) (hc3 : c ≤ 3) (hs : s = cntR R c) (hk : R.length ≤ 1000) {v : Value} (ho : OpsAt w v c s) (hv : B ≤ opsB v) (hne : ¬ StrF R ρ (opsB v))
  (hP : oneK R.length c (s + 1) = true) (hB : oneB R.length c (s + 1) = true) :
  Calls Tryz.prog 214 #[.pointer (some ⟨a.1, a.2, none⟩), .agg #[.int .i64 ((R.length + 1 : Nat) : Int), .int .i64 c, .int .i64 ((s + 1 : Nat) : Int), v, .int .i64 0]] w fun e w' =>
   e = .returned (.tuple #[.bool true, .int .i64 0]) ∧ ∃ ρ', StrAt w' B a (R ++ [(c, s + 1)]) ρ' ∧ But (fun b => Blk ρ (strS R.length) b ∨ b = opsB v) w w' ∧ ∀ b, StrF (R ++ [(c, s + 1)]) ρ' b → StrF R ρ b ∨ b = opsB v ∨ w.heap.size ≤ b := by
 obtain ⟨l, rfl, hl1, hl2, hl3⟩ := ho
 have hvb : opsB (.slice (some ⟨l.blk, l.base, none⟩) 1 l.cap) = l.blk := rfl
 rw [hvb] at hv hne
 have E1 : EmbS Tryz.prog ρ (strS R.length) (qn 20) w B := h.E
 have E2 : EmbS Tryz.prog ρ (strL R.length (rowC (qn 5) R.length) (setAt (toldC (qn 2)) (6 * c) (iN s)) []) (qn 20) w B := by
  refine EmbS.told2 E1 (fun x _ hr => ?_)
  have := rel_sv (hr _ (toldC_get (qn 2) c 0 hc1 hc3 (by omega)))
  rw [show 2 + 6 * c + 0 = 2 + 6 * c from rfl, h.told c hc1 hc3, ← hs] at this
  rw [this]
  exact iN_rel s
 have hlive : ∀ q, (mkT (mkS (strL R.length (rowC (qn 5) R.length) (setAt (toldC (qn 2)) (6 * c) (iN s)) []))).get q ≠ .no → (mkT (mkS (strS R.length))).get q ≠ .no := fun q hq => by
  obtain ⟨e', he', rfl, hg⟩ := mkS_mem hq
  rw [strL_eq] at he'
  have key : ∀ e2 ∈ strS R.length, e2.1 = e'.1 → (mkT (mkS (strS R.length))).get e'.1 ≠ .no := fun e2 h2 h3 => by
   have hx := ndS_get (S := strS R.length) (strL_nd ..) e2 h2
   rw [← h3, hx]
   cases e2.2 <;> simp [SB.ob]
  rcases List.mem_append.1 he' with h1 | h1
  ·exact key e' (by unfold strS; rw [strL_eq]; exact List.mem_append_left _ h1) rfl
  rcases List.mem_cons.1 h1 with rfl | h1
  ·exact key _ (strL_fold ..) rfl
  ·exact key e' (by unfold strS; rw [strL_eq]; exact List.mem_append_right _ (List.mem_cons_of_mem _ h1)) rfl
 have hrow : RowE Tryz.prog l (upd ρ (qn 20) l) (qn 20).succ.num w 32 (opC c s).length (V.ofL (opC c s)) := hl3 _ _
 have E3 := EmbS.add E2 (l := l) (ty := 32) (cs := opC c s) hv (fun q hq e => hne (.inl ⟨q, hlive q hq, e⟩)) hrow
 clear hrow
 have hρ1 : upd ρ (qn 20) l (qn 1) = ρ (qn 1) := upd_lt ρ (qn 20) l _ (by decide)
 have hρe : upd ρ (qn 20) l .e = ρ .e := upd_lt ρ (qn 20) l _ (by decide)
 have hargs : RelL (upd ρ (qn 20) l) (qn 21).num [.p (qn 1) 0, rowA R.length c (s + 1) (qn 20)] [.pointer (some ⟨a.1, a.2, none⟩), .agg #[.int .i64 ((R.length + 1 : Nat) : Int), .int .i64 c, .int .i64 ((s + 1 : Nat) : Int), .slice (some ⟨l.blk, l.base, none⟩) 1 l.cap, .int .i64 0]] := by
  refine .cons _ _ _ _ ?_ (.cons _ _ _ _ ?_ .nil)
  ·have := Rel.p (ρ := upd ρ (qn 20) l) (N := (qn 21).num) (qn 1) 0 (by decide)
   rw [hρ1, h.root.1, h.root.2] at this
   exact this
  ·refine .a [_, _, _, _, _] [_, _, _, _, _] (.cons _ _ _ _ (iN_rel (R.length + 1)) (.cons _ _ _ _ (iN_rel c) (.cons _ _ _ _ (iN_rel (s + 1)) (.cons _ _ _ _ ?_ (.cons _ _ _ _ (iN_rel 0) .nil))))) (by intro u hu; simp at hu; rcases hu with rfl | rfl | rfl | rfl | rfl <;> rfl)
   have := Rel.slu (ρ := upd ρ (qn 20) l) (N := (qn 21).num) (qn 20) 0 1 0 1 (by decide) (Nat.le_refl _) (by rw [upd_same]; omega) (by rw [upd_same]; exact hl2)
   rw [upd_same] at this
   exact this
 refine (SoundF.run d214 (S0 := strA R.length c (s + 1)) (nx := qn 20) E3 (by decide) (by decide) (f0 := [(qn 1, qn 1)]) (by decide) (by decide) hargs hP).mono ?_
 rintro e w' ⟨vs, ρ', rfl, hlen, hvs, ET, tn, hst⟩
 obtain ⟨x1, x2, rfl⟩ : ∃ x1 x2, vs = [x1, x2] := by
  match vs, hlen with
  | [x1, x2], _ => exact ⟨x1, x2, rfl⟩
 have hx1 : x1 = .bool true := by
  have := hvs 0 (by decide) (by simp)
  have : Rel ρ' (qn 20).num (.b true) x1 := this
  cases this
  rfl
 have hx2 : x2 = .int .i64 0 := by
  have := hvs 1 (by decide) (by simp)
  exact rel_iN (n := 0) this
 subst hx1
 subst hx2
 have hρ'e : ρ' .e = ρ .e := tn.e.trans hρe
 have hA : ∀ q, (mkT (mkS (strA R.length c (s + 1)))).get q ≠ .no → q = qn 20 ∨ Blk ρ (strS R.length) (upd ρ (qn 20) l q).blk := fun q hq => by
  by_cases e : q = qn 20
  ·exact .inl e
  ·refine .inr ⟨q, ?_, by rw [upd_ne _ _ e]⟩
   obtain ⟨e', he', rfl, hg⟩ := mkS_mem hq
   unfold strA at he'
   rcases List.mem_append.1 he' with h1 | h1
   ·refine hlive _ ?_
    have hx := ndS_get (S := strL R.length (rowC (qn 5) R.length) (setAt (toldC (qn 2)) (6 * c) (iN s)) []) (strL_nd ..) e' h1
    rw [hx]
    cases e'.2 <;> simp [SB.ob]
   ·obtain rfl := List.mem_singleton.1 h1
    exact (e rfl).elim
 have hfr : ∀ b, b < w.heap.size → ¬ (Blk ρ (strS R.length) b ∨ b = l.blk) → w'.heap[b]? = w.heap[b]? := fun b hbs hn => tn.frame b hbs (fun q hq e => by
  rcases hA q hq with rfl | h2
  ·rw [upd_same] at e; exact hn (.inr e.symm)
  ·rw [e] at h2; exact hn (.inl h2))
 have hops : ∀ {x : Value} {c' s' : Nat}, opsB x ≠ l.blk → OpsAt w x c' s' → OpsAt w' x c' s' := fun {x c' s'} hxn hx => by
  have h1 := hx.lt
  refine hx.stay (hfr _ h1 ?_)
  rintro (⟨q, hq, e⟩ | e)
  ·exact EmbS.notOp h.E (strL_noOp ..) hx q hq e
  ·exact hxn e
 have ER := Emb.retell ET (nx' := qn 20) (Nat.le_refl _) (by decide) hB
 have hlen' : (R ++ [(c, s + 1)]).length = Nat.succ R.length := by simp
 have hm14 : (qn 5, SB.bk 50 (rowC (qn 5) R.length ++ [iN (Nat.succ R.length), iN c, iN (Nat.succ s), .sl (qn 8) 0 1 (.u 0 1), iN 0])) ∈ strB R.length c (s + 1) := List.mem_append_left _ (strL_rows ..)
 have hm13 : (qn 2, SB.bk 180 ([iN (Nat.succ R.length), .p (qn 3) 0] ++ setMany (toldC (qn 2)) (Nat.mul 6 c) [iN (Nat.succ s), iN (Nat.succ R.length), iN c, iN (Nat.succ s), .sl (qn 7) 0 1 (.u 0 1), iN 0])) ∈ strB R.length c (s + 1) := List.mem_append_left _ (strL_fold ..)
 have hnd := strB_nd R.length c (s + 1)
 have cell : ∀ {q : Q} {ty : Nat} {cs : List AV} {j : Nat} {y : AV}, (q, SB.bk ty cs) ∈ strB R.length c (s + 1) → j < 1000000 → cs[j]? = some y → Rel ρ' (qn 20).num y ((reN ρ' (mkS (strB R.length c (s + 1))) w' .e).vl q j) := fun {q ty cs j y} hm hj hy => by
  obtain ⟨x, c1, c2, _⟩ := EmbS.atq ET hnd hm hy
  rw [reN_vl hj c1]
  exact c2
 have hgo : ∀ {q : Q}, (mkT (mkS (strB R.length c (s + 1)))).get q ≠ .no → StrF R ρ (ρ' q).blk ∨ (ρ' q).blk = l.blk ∨ w.heap.size ≤ (ρ' q).blk := fun {q} hq => by
  rcases tn.img q hq with ⟨r', h1, h2⟩ | h1
  ·rcases hA r' h1 with rfl | h3
   ·right; left; rw [h2, upd_same]
   ·left; left; rw [h2]; exact h3
  ·right; right; exact h1
 refine ⟨rfl, reN ρ' (mkS (strB R.length c (s + 1))) w', ⟨?_, ?_, fun i hi => ?_, fun d hd1 hd3 => ?_, ?_⟩, ⟨tn.os, tn.tape, tn.output, tn.size, hfr⟩, fun b hbb => ?_⟩
 ·rw [hlen']; exact ER
 ·rw [reN_ne (by decide), hst _ List.mem_cons_self, hρ1]
  exact h.root
 ·by_cases hik : i < R.length
  ·have g : ∀ j, j < 5 → (rowC (qn 5) R.length ++ [iN (Nat.succ R.length), iN c, iN (Nat.succ s), .sl (qn 8) 0 1 (.u 0 1), iN 0])[5 * i + j]? = (rowX (qn 5) i)[j]? := fun j hj => by
    rw [List.getElem?_append_left (by rw [rowC_len]; omega)]
    exact rowC_get _ _ _ _ hik hj
   have r1 := rel_sv (cell hm14 (j := 5 * i + 1) (by omega) (g 1 (by omega)))
   have r2 := rel_sv (cell hm14 (j := 5 * i + 2) (by omega) (g 2 (by omega)))
   have r3 := rel_sv (cell hm14 (j := 5 * i + 3) (by omega) (g 3 (by omega)))
   obtain ⟨o1, o2, o3⟩ := h.row i hik
   rw [r1, r2, r3, hρ'e, List.getElem_append_left hik]
   exact ⟨o1, o2, hops (fun e => hne (.inr ⟨i, hik, e.symm⟩)) o3⟩
  ·have hik : i = R.length := by rw [hlen'] at hi; omega
   subst hik
   have g : ∀ j, j < 5 → (rowC (qn 5) R.length ++ [iN (Nat.succ R.length), iN c, iN (Nat.succ s), .sl (qn 8) 0 1 (.u 0 1), iN 0])[5 * R.length + j]? = [iN (Nat.succ R.length), iN c, iN (Nat.succ s), .sl (qn 8) 0 1 (.u 0 1), iN 0][j]? := fun j hj => by
    rw [List.getElem?_append_right (by rw [rowC_len]; omega), rowC_len]
    congr 1
    omega
   have r1 := rel_iN (cell hm14 (j := 5 * R.length + 1) (by omega) (g 1 (by omega)))
   have r2 := rel_iN (cell hm14 (j := 5 * R.length + 2) (by omega) (g 2 (by omega)))
   have r3 := cell hm14 (j := 5 * R.length + 3) (by omega) (g 3 (by omega))
   have o3 := OpsAt.of ET hnd (q := qn 8) (c := c) (s := s) (by unfold strB; simp) r3
   rw [r1, r2, List.getElem_append_right (by omega)]
   simp only [Nat.sub_self, List.getElem_cons_zero, Nat.add_sub_cancel]
   exact ⟨trivial, trivial, o3⟩
 ·rw [cntR_snoc]
  by_cases hdc : c = d
  ·subst hdc
   have g0 := cell hm13 (j := 2 + 6 * c) (by omega) (y := iN (Nat.succ s)) (by
    show ([iN (Nat.succ R.length), .p (qn 3) 0] ++ _)[2 + 6 * c]? = _
    rw [List.getElem?_append_right (by simp)]
    have := setMany_same (qn 2) c 0 hc1 hc3 (by omega) (iN (Nat.succ s)) (iN (Nat.succ R.length)) (iN c) (iN (Nat.succ s)) (.sl (qn 7) 0 1 (.u 0 1)) (iN 0)
    simp only [List.length_cons, List.length_nil, Nat.add_zero, Nat.zero_add, Nat.add_sub_cancel_left] at this ⊢
    exact this)
   rw [if_pos rfl, ← hs, rel_iN g0]
  ·have gj : ∀ j, j = 0 ∨ j = 4 → Rel ρ' (qn 20).num (.y (.sv (qn 2) (2 + 6 * d + j))) ((reN ρ' (mkS (strB R.length c (s + 1))) w' .e).vl (qn 2) (2 + 6 * d + j)) := fun j hj => cell hm13 (by omega) (by
    show ([iN (Nat.succ R.length), .p (qn 3) 0] ++ _)[2 + 6 * d + j]? = _
    rw [List.getElem?_append_right (by simp; omega)]
    have := setMany_other (qn 2) c d j hc1 hc3 hd1 hd3 hdc hj (iN (Nat.succ s)) (iN (Nat.succ R.length)) (iN c) (iN (Nat.succ s)) (.sl (qn 7) 0 1 (.u 0 1)) (iN 0)
    rw [show 2 + 6 * d + j - [iN (Nat.succ R.length), AV.p (qn 3) 0].length = 6 * d + j from by simp only [List.length_cons, List.length_nil]; omega]
    exact this)
   have g0 := rel_sv (gj 0 (.inl rfl))
   rw [if_neg hdc, Nat.add_zero, show 2 + 6 * d = 2 + 6 * d + 0 from rfl, g0, hρ'e]
   exact h.told d hd1 hd3
 ·have hm4 : (qn 4, SB.dm (9, 181, Nat.succ R.length) (qn 4) [([107, Nat.add 48 c], Nat.add 9223372036854775808 s)]) ∈ strB R.length c (s + 1) := by
   unfold strB strL
   simp
  have hg := ndS_get hnd _ hm4
  have e1 : (reN ρ' (mkS (strB R.length c (s + 1))) w' .e).mc (qn 4) = dmC ρ' (qn 4) [([107, Nat.add 48 c], Nat.add 9223372036854775808 s)] := by
   unfold reN
   rw [if_pos rfl]
   dsimp only
   have hg : (mkT (mkS (strB R.length c (s + 1)))).get (qn 4) = .y (.dm (9, 181, Nat.succ R.length) (qn 4) [([107, Nat.add 48 c], Nat.add 9223372036854775808 s)]) := hg
   rw [hg]
  rw [e1]
  unfold dmC docR
  rw [hρ'e, h.doc, List.foldl_append]
  rfl
 ·rcases hbb with hbb | ⟨i, hi, rfl⟩
  ·rw [hlen'] at hbb
   obtain ⟨q, hq, rfl⟩ := hbb
   have hq1 := respT_get (respS_T hB) q hq
   have hq2 : (mkT (mkS (strB R.length c (s + 1)))).get q ≠ .no := live_of_respO hq1.2.2
   rw [reN_ne hq1.1]
   exact hgo hq2
  ·by_cases hik : i < R.length
   ·have : (reN ρ' (mkS (strB R.length c (s + 1))) w' .e).vl (qn 5) (5 * i + 3) = (ρ .e).vl (qn 5) (5 * i + 3) := by
     rw [← hρ'e]
     exact rel_sv (cell hm14 (j := 5 * i + 3) (by omega) (by
      rw [List.getElem?_append_left (by rw [rowC_len]; omega)]
      exact rowC_get _ _ _ 3 hik (by decide)))
    rw [this]
    exact .inl (.inr ⟨i, hik, rfl⟩)
   ·have hik : i = R.length := by rw [hlen'] at hi; omega
    subst hik
    have hXk := cell hm14 (j := 5 * R.length + 3) (y := .sl (qn 8) 0 1 (.u 0 1)) (by omega) (by
     rw [List.getElem?_append_right (by rw [rowC_len]; omega), rowC_len, show 5 * R.length + 3 - 5 * R.length = 3 from by omega]
     rfl)
    have l8 : (mkT (mkS (strB R.length c (s + 1)))).get (qn 8) ≠ .no := by
     have := ndS_get hnd (qn 8, SB.bk 32 (opC c s)) (by unfold strB; simp)
     dsimp only at this
     rw [this]; simp [SB.ob]
    have bl : opsB ((reN ρ' (mkS (strB R.length c (s + 1))) w' .e).vl (qn 5) (5 * R.length + 3)) = (ρ' (qn 8)).blk := by
     revert hXk
     generalize (reN ρ' (mkS (strB R.length c (s + 1))) w' .e).vl (qn 5) (5 * R.length + 3) = x
     intro hx
     cases hx
     rfl
    rw [bl]
    exact hgo l8
end Go.Proofs.YtpchmdddkpocgaaGreatDoor
