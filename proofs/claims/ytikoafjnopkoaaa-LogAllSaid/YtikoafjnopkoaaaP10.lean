/-
  No claim by itself: the law of the texts before on drawn regions, with any invariant of the worlds, and with last operations that wait for all others. | the document's log, by value: Put: append to a row of one's own; a new log in memory. No condition.
-/
import Derived.Test.YtikoafjnopkoaaaP4
import Derived.Test.YtikoafjnopkoaaaP1
import Derived.Test.YtikoafjnopkoaaaP9
import Derived.RegionTactic
import Derived.BigRegion
namespace Go.Proofs.Ytikoafjnopkoaaa
set_option linter.unusedVariables false
set_option linter.unusedSimpArgs false
open Go.RowKit

/-- Which calls stand in the chain, which turn nothing that was there, and which operation ends what a call's result was known for. -/
structure PlanM where
  c : List Nat
  grow : List Nat
  kill : List (Nat × Nat)
  keep : List Nat
def PlanM.killOf (L : PlanM) (j : Nat) : Option Nat := (L.kill.find? fun p => p.1 == j).map (·.2)
def PlanM.free (L : PlanM) (k : Nat) : Bool := !L.grow.contains k
def PlanM.dead (L : PlanM) (i j : Nat) : Bool :=
  match L.killOf j with
  | none => false
  | some k => k == i || (decide (k < i) && L.c.contains k && L.c.contains i)

/-- Operation k waits for j, and what is known of j has not ended. -/
def depAM (ops : Array Oper) (L : PlanM) (k j : Nat) : Bool :=
  depB ops k j && (match L.killOf j with | none => true | some x => x == k || depB ops x k)
theorem depA_depM {ops : Array Oper} {L : PlanM} {k j : Nat} (h : depAM ops L k j = true) : depB ops k j = true := by
  unfold depAM at h
  exact (Bool.and_eq_true _ _ ▸ h).1
def hypCM (ops : Array Oper) (L : PlanM) (Φ : Nat → Option (Value → World → Prop)) (a0 : Act) (cs : Nat → Value) (k : Nat) (w : World) : Prop :=
  ∀ j φ, j < k → wtd ops a0 cs j = true → Φ j = some φ → depAM ops L k j = true → φ (cs j) w

section
variable {P : Program} (ops : Array Oper) (L : PlanM) (Φ : Nat → Option (Value → World → Prop)) (w0 : World → Prop) (Q : Exit → Act → World → Prop) (vals : Nat → Value)

/-- The walk in the text's order. 'H': what is known of the calls' results so far. -/
def wpSCM (P : Program) : List Oper → Nat → Act → List (Nat × (Value → World → Prop)) → Prop
  | [], _, a, H => ∀ w, w0 w → (∀ p ∈ H, L.killOf p.1 = none → p.2 (vals p.1) w) → Q .normal a w
  | o :: rest, k, a, H =>
    if Region.wanted o (yielded ops a.tmps) then
      match Φ k with
      | none => ∃ c, (∀ w, w0 w → (∀ p ∈ H, depAM ops L k p.1 = true → p.2 (vals p.1) w) → (execOp a.eval o).run P w = .ok (.value c) w) ∧ wpSCM P rest (k + 1) (a.put o.dst c) H
      | some φ => (∀ w, w0 w → (∀ p ∈ H, depAM ops L k p.1 = true → p.2 (vals p.1) w) → yieldsUpon P w (fun v w' => φ v w' ∧ w0 w' ∧ (L.free k = true → Below w.heap.size w w') ∧ (L.free k = false → (∀ p ∈ H, L.dead k p.1 = false → p.2 (vals p.1) w → p.2 (vals p.1) w') ∧ (∀ j ψ, j ∈ L.keep → Φ j = some ψ → ∀ u, ψ u w → ψ u w'))) ((execOp a.eval o).run P w)) ∧
          wpSCM P rest (k + 1) (a.put o.dst (vals k)) ((k, φ) :: H)
    else wpSCM P rest (k + 1) (a.put o.dst undef) H
end

section
variable {P : Program} {ops : Array Oper} {L : PlanM} {Φ : Nat → Option (Value → World → Prop)} {w0 : World → Prop} {Q : Exit → Act → World → Prop} {a0 : Act}

theorem yieldsUpon.monoM {P : Program} {w : World} {R R' : Value → World → Prop} {r : Result Next} (h : ∀ v w', R v w' → R' v w') (hy : yieldsUpon P w R r) : yieldsUpon P w R' r := by
  cases r with
  | halt x w' => exact hy.elim
  | ok nx w' =>
    cases nx with
    | value v => exact h _ _ hy
    | enter f args => exact Calls.mono hy fun e w'' he => by obtain ⟨v, rfl, h1⟩ := he; exact ⟨v, rfl, h _ _ h1⟩
    | _ => exact hy.elim

/-- The calls stand in a chain. -/
def chainBM (ops : Array Oper) : List Nat → Bool
  | a :: b :: r => decide (a < b) && depB ops b a && chainBM ops (b :: r)
  | _ => true
theorem chain_ltM : ∀ (c : List Nat) (a : Nat), chainBM ops (a :: c) = true → ∀ x ∈ c, a < x := by
  intro c
  induction c with
  | nil => intro a _ x hx; cases hx
  | cons b r ih =>
    intro a h x hx
    simp only [chainBM, Bool.and_eq_true, decide_eq_true_eq] at h
    rcases List.mem_cons.1 hx with rfl | hx
    · exact h.1.1
    · exact Nat.lt_trans h.1.1 (ih b h.2 x hx)
theorem chain_headM {listed : Array Bool} (hcl : ∀ j k, listed.getD j false = true → depB ops j k = true → listed.getD k false = true) :
    ∀ (c : List Nat) (a : Nat), chainBM ops (a :: c) = true → ∀ j ∈ a :: c, listed.getD j false = true → listed.getD a false = true := by
  intro c
  induction c with
  | nil => intro a _ j hj hl; rw [List.mem_singleton] at hj; subst hj; exact hl
  | cons b r ih =>
    intro a h j hj hl
    simp only [chainBM, Bool.and_eq_true, decide_eq_true_eq] at h
    rcases List.mem_cons.1 hj with rfl | hj
    · exact hl
    · exact hcl b a (ih b h.2 j hj hl) h.1.2
theorem chain_closedM {listed : Array Bool} (hcl : ∀ j k, listed.getD j false = true → depB ops j k = true → listed.getD k false = true) :
    ∀ (c : List Nat), chainBM ops c = true → ∀ i j, i ∈ c → j ∈ c → i < j → listed.getD j false = true → listed.getD i false = true := by
  intro c
  induction c with
  | nil => intro _ i j hi; cases hi
  | cons a r ih =>
    intro h i j hi hj hij hl
    rcases List.mem_cons.1 hi with rfl | hi2
    · exact chain_headM hcl r _ h j hj hl
    · have h2 : chainBM ops r = true := by
        cases r with
        | nil => rfl
        | cons b r => simp only [chainBM, Bool.and_eq_true] at h; exact h.2
      rcases List.mem_cons.1 hj with rfl | hj2
      · exact absurd (chain_ltM r _ h i hi2) (by omega)
      · exact ih h2 i j hi2 hj2 hij hl

/-- The values of one walk in the text's order. -/
structure SeqCM (P : Program) (ops : Array Oper) (L : PlanM) (Φ : Nat → Option (Value → World → Prop)) (w0 : World → Prop) (Q : Exit → Act → World → Prop) (a0 : Act) (vals cs : Nat → Value) : Prop where
  pure : ∀ k o, ops[k]? = some o → wtd ops a0 cs k = true → Φ k = none → ∀ w, w0 w → hypCM ops L Φ a0 cs k w → (execOp (actTo ops a0 cs k).eval o).run P w = .ok (.value (cs k)) w
  pred : ∀ k o φ, ops[k]? = some o → wtd ops a0 cs k = true → Φ k = some φ → cs k = vals k ∧ ∀ w, w0 w → hypCM ops L Φ a0 cs k w →
    yieldsUpon P w (fun v w' => φ v w' ∧ w0 w' ∧ (L.free k = true → Below w.heap.size w w') ∧ (L.free k = false → (∀ j ψ, j < k → wtd ops a0 cs j = true → Φ j = some ψ → L.dead k j = false → ψ (cs j) w → ψ (cs j) w') ∧ (∀ j ψ, j ∈ L.keep → Φ j = some ψ → ∀ u, ψ u w → ψ u w'))) ((execOp (actTo ops a0 cs k).eval o).run P w)
  skip : ∀ k o, ops[k]? = some o → wtd ops a0 cs k = false → cs k = undef
  done : ∀ w, w0 w → (∀ j φ, j < ops.size → wtd ops a0 cs j = true → Φ j = some φ → L.killOf j = none → φ (cs j) w) → Q .normal (actTo ops a0 cs ops.size) w

/-- From the walk to its values. -/
theorem seqC_of_walkM {vals : Nat → Value} : ∀ (l : List Oper) (k : Nat) (cs0 : Nat → Value) (H : List (Nat × (Value → World → Prop))), (∀ j, l[j]? = ops[k + j]?) → k + l.length = ops.size →
    wpSCM ops L Φ w0 Q vals P l k (actTo ops a0 cs0 k) H →
    (∀ p, p ∈ H ↔ (p.1 < k ∧ wtd ops a0 cs0 p.1 = true ∧ Φ p.1 = some p.2)) →
    (∀ p ∈ H, cs0 p.1 = vals p.1) →
    ∃ cs, (∀ j, j < k → cs j = cs0 j) ∧
      (∀ j o, k ≤ j → ops[j]? = some o → wtd ops a0 cs j = true → Φ j = none → ∀ w, w0 w → hypCM ops L Φ a0 cs j w → (execOp (actTo ops a0 cs j).eval o).run P w = .ok (.value (cs j)) w) ∧
      (∀ j o φ, k ≤ j → ops[j]? = some o → wtd ops a0 cs j = true → Φ j = some φ → cs j = vals j ∧ ∀ w, w0 w → hypCM ops L Φ a0 cs j w →
        yieldsUpon P w (fun v w' => φ v w' ∧ w0 w' ∧ (L.free j = true → Below w.heap.size w w') ∧ (L.free j = false → (∀ i ψ, i < j → wtd ops a0 cs i = true → Φ i = some ψ → L.dead j i = false → ψ (cs i) w → ψ (cs i) w') ∧ (∀ j ψ, j ∈ L.keep → Φ j = some ψ → ∀ u, ψ u w → ψ u w'))) ((execOp (actTo ops a0 cs j).eval o).run P w)) ∧
      (∀ j o, k ≤ j → ops[j]? = some o → wtd ops a0 cs j = false → cs j = undef) ∧
      (∀ w, w0 w → (∀ j φ, j < ops.size → wtd ops a0 cs j = true → Φ j = some φ → L.killOf j = none → φ (cs j) w) → Q .normal (actTo ops a0 cs ops.size) w) := by
  intro l
  induction l with
  | nil =>
    intro k cs0 H hl hk h hH hv
    have hk' : k = ops.size := by simpa using hk
    subst hk'
    refine ⟨cs0, fun _ _ => rfl, ?_, ?_, ?_, ?_⟩
    · intro j o hj ho; exact absurd (Array.getElem?_eq_some_iff.1 ho).1 (by omega)
    · intro j o φ hj ho; exact absurd (Array.getElem?_eq_some_iff.1 ho).1 (by omega)
    · intro j o hj ho; exact absurd (Array.getElem?_eq_some_iff.1 ho).1 (by omega)
    · intro w hw hf
      refine h w hw fun p hp hkl => ?_
      obtain ⟨h1, h2, h3⟩ := (hH p).1 hp
      rw [← hv p hp]
      exact hf p.1 p.2 h1 h2 h3 hkl
  | cons o rest ih =>
    intro k cs0 H hl hk h hH hv
    have ho : ops[k]? = some o := by have := hl 0; simpa using this.symm
    have hl' : ∀ j, rest[j]? = ops[k + 1 + j]? := fun j => by
      have := hl (j + 1)
      rw [List.getElem?_cons_succ] at this
      rw [this]
      congr 1
      omega
    have hk' : k + 1 + rest.length = ops.size := by simp at hk; omega
    have hdst : o.dst = dstOf ops k := by simp [dstOf, ho]
    -- the frame with one value more
    have put : ∀ c, (actTo ops a0 cs0 k).put o.dst c = actTo ops a0 (fun j => if j = k then c else cs0 j) (k + 1) := fun c => by
      show _ = (actTo ops a0 _ k).put _ (if k = k then c else cs0 k)
      rw [actTo_congr (cs' := cs0) k (fun j hj => if_neg (by omega)), hdst, if_pos rfl]
    have wold : ∀ c j, j ≤ k → wtd ops a0 (fun j => if j = k then c else cs0 j) j = wtd ops a0 cs0 j := fun c j hj =>
      wtd_congr j (fun i hi => if_neg (by omega))
    have wk : wtd ops a0 cs0 k = Region.wanted o (yielded ops (actTo ops a0 cs0 k).tmps) := by unfold wtd; rw [ho]
    -- what the rest gives, read at k as well
    have lift : ∀ (cs : Nat → Value) (c : Value), (∀ j, j < k + 1 → cs j = (fun j => if j = k then c else cs0 j) j) → (∀ j, j < k → cs j = cs0 j) ∧ cs k = c := fun cs c hc =>
      ⟨fun j hj => by rw [hc j (by omega)]; exact if_neg (by omega), by rw [hc k (by omega)]; exact if_pos rfl⟩
    simp only [wpSCM] at h
    by_cases hw : Region.wanted o (yielded ops (actTo ops a0 cs0 k).tmps) = true
    · rw [if_pos hw] at h
      cases hφ : Φ k with
      | none =>
        rw [hφ] at h
        obtain ⟨c, hc, h⟩ := h
        rw [put c] at h
        obtain ⟨cs, e0, e1, e2, e3, e4⟩ := ih (k + 1) _ H hl' hk' h (fun p => by
          rw [hH p]
          constructor
          · rintro ⟨h1, h2, h3⟩; exact ⟨by omega, by rw [wold c p.1 (by omega)]; exact h2, h3⟩
          · rintro ⟨h1, h2, h3⟩
            have hne : p.1 ≠ k := by intro e; rw [e, hφ] at h3; cases h3
            exact ⟨by omega, by rw [← wold c p.1 (by omega)]; exact h2, h3⟩) (fun p hp => by
          have := ((hH p).1 hp).1
          rw [if_neg (by omega)]
          exact hv p hp)
        obtain ⟨f0, fk⟩ := lift cs c e0
        refine ⟨cs, f0, ?_, ?_, ?_, e4⟩
        · intro j o' hj ho' hwj hn w hwB hyp
          rcases Nat.eq_or_lt_of_le hj with rfl | hlt
          · obtain rfl : o = o' := by rw [ho] at ho'; exact Option.some.inj ho'
            rw [actTo_congr (cs' := cs0) k f0, fk]
            refine hc w hwB fun p hp hd => ?_
            obtain ⟨h1, h2, h3⟩ := (hH p).1 hp
            have := hyp p.1 p.2 h1 (by rw [wtd_congr p.1 (fun i hi => f0 i (by omega))]; exact h2) h3 hd
            rw [f0 p.1 h1, hv p hp] at this
            exact this
          · exact e1 j o' hlt ho' hwj hn w hwB hyp
        · intro j o' φ hj ho' hwj hn
          rcases Nat.eq_or_lt_of_le hj with rfl | hlt
          · rw [hφ] at hn; cases hn
          · exact e2 j o' φ hlt ho' hwj hn
        · intro j o' hj ho' hwj
          rcases Nat.eq_or_lt_of_le hj with rfl | hlt
          · rw [wtd_congr k f0, wk, hw] at hwj; cases hwj
          · exact e3 j o' hlt ho' hwj
      | some φ =>
        rw [hφ] at h
        obtain ⟨hc, h⟩ := h
        rw [put (vals k)] at h
        obtain ⟨cs, e0, e1, e2, e3, e4⟩ := ih (k + 1) _ ((k, φ) :: H) hl' hk' h (fun p => by
          rw [List.mem_cons, hH p]
          constructor
          · rintro (rfl | ⟨h1, h2, h3⟩)
            · exact ⟨by simp, by rw [wold _ k (Nat.le_refl _), wk]; exact hw, hφ⟩
            · exact ⟨by omega, by rw [wold _ p.1 (by omega)]; exact h2, h3⟩
          · rintro ⟨h1, h2, h3⟩
            by_cases hpk : p.1 = k
            · left
              rw [hpk, hφ] at h3
              exact Prod.ext hpk (Option.some.inj h3).symm
            · exact .inr ⟨by omega, by rw [← wold (vals k) p.1 (by omega)]; exact h2, h3⟩) (fun p hp => by
          rcases List.mem_cons.1 hp with rfl | hp
          · exact if_pos rfl
          · have := ((hH p).1 hp).1
            rw [if_neg (by omega)]
            exact hv p hp)
        obtain ⟨f0, fk⟩ := lift cs (vals k) e0
        refine ⟨cs, f0, ?_, ?_, ?_, e4⟩
        · intro j o' hj ho' hwj hn w hwB hyp
          rcases Nat.eq_or_lt_of_le hj with rfl | hlt
          · rw [hφ] at hn; cases hn
          · exact e1 j o' hlt ho' hwj hn w hwB hyp
        · intro j o' φ' hj ho' hwj hn
          rcases Nat.eq_or_lt_of_le hj with rfl | hlt
          · obtain rfl : o = o' := by rw [ho] at ho'; exact Option.some.inj ho'
            obtain rfl : φ = φ' := by rw [hφ] at hn; exact Option.some.inj hn
            refine ⟨fk, fun w hwB hyp => ?_⟩
            rw [actTo_congr (cs' := cs0) k f0]
            refine yieldsUpon.monoM (fun v w' hy => ⟨hy.1, hy.2.1, hy.2.2.1, fun hfr => ⟨fun i ψ hi hwi hfi hdd hψ => ?_, (hy.2.2.2 hfr).2⟩⟩) (hc w hwB fun p hp hd => ?_)
            · have hmem : (i, ψ) ∈ H := (hH (i, ψ)).2 ⟨hi, by rw [← wtd_congr i (fun x hx => f0 x (by omega))]; exact hwi, hfi⟩
              rw [f0 i hi, hv (i, ψ) hmem] at hψ ⊢
              exact (hy.2.2.2 hfr).1 (i, ψ) hmem hdd hψ
            obtain ⟨h1, h2, h3⟩ := (hH p).1 hp
            have := hyp p.1 p.2 h1 (by rw [wtd_congr p.1 (fun i hi => f0 i (by omega))]; exact h2) h3 hd
            rw [f0 p.1 h1, hv p hp] at this
            exact this
          · exact e2 j o' φ' hlt ho' hwj hn
        · intro j o' hj ho' hwj
          rcases Nat.eq_or_lt_of_le hj with rfl | hlt
          · rw [wtd_congr k f0, wk, hw] at hwj; cases hwj
          · exact e3 j o' hlt ho' hwj
    · rw [if_neg hw] at h
      rw [put undef] at h
      obtain ⟨cs, e0, e1, e2, e3, e4⟩ := ih (k + 1) _ H hl' hk' h (fun p => by
        rw [hH p]
        constructor
        · rintro ⟨h1, h2, h3⟩; exact ⟨by omega, by rw [wold undef p.1 (by omega)]; exact h2, h3⟩
        · rintro ⟨h1, h2, h3⟩
          have hne : p.1 ≠ k := by
            intro e
            rw [e, wold undef k (Nat.le_refl _), wk] at h2
            exact hw h2
          exact ⟨by omega, by rw [← wold undef p.1 (by omega)]; exact h2, h3⟩) (fun p hp => by
        have := ((hH p).1 hp).1
        rw [if_neg (by omega)]
        exact hv p hp)
      obtain ⟨f0, fk⟩ := lift cs undef e0
      have hwf : wtd ops a0 cs k = false := by
        rw [wtd_congr k f0, wk]
        simpa using hw
      refine ⟨cs, f0, ?_, ?_, ?_, e4⟩
      · intro j o' hj ho' hwj hn w hwB hyp
        rcases Nat.eq_or_lt_of_le hj with rfl | hlt
        · rw [hwf] at hwj; cases hwj
        · exact e1 j o' hlt ho' hwj hn w hwB hyp
      · intro j o' φ' hj ho' hwj hn
        rcases Nat.eq_or_lt_of_le hj with rfl | hlt
        · rw [hwf] at hwj; cases hwj
        · exact e2 j o' φ' hlt ho' hwj hn
      · intro j o' hj ho' hwj
        rcases Nat.eq_or_lt_of_le hj with rfl | hlt
        · exact fk
        · exact e3 j o' hlt ho' hwj

theorem seqC_allM {vals : Nat → Value} (h : wpSCM ops L Φ w0 Q vals P ops.toList 0 a0 []) : ∃ cs, SeqCM P ops L Φ w0 Q a0 vals cs := by
  obtain ⟨cs, _, e1, e2, e3, e4⟩ := seqC_of_walkM (a0 := a0) ops.toList 0 (fun _ => undef) [] (fun j => by simp) (by simp) h (by simp) (by simp)
  exact ⟨cs, fun k o ho => e1 k o (Nat.zero_le _) ho, fun k o φ ho => e2 k o φ (Nat.zero_le _) ho, fun k o ho => e3 k o (Nat.zero_le _) ho, e4⟩

theorem seqC_agreeM (F : RForm ops) {vals vals' cs cs' : Nat → Value} (S : SeqCM P ops L Φ w0 Q a0 vals cs) (S' : SeqCM P ops L Φ w0 Q a0 vals' cs') {listed : Array Bool}
    (hcl : ∀ j k, listed.getD j false = true → depB ops j k = true → listed.getD k false = true)
    (hv : ∀ j, listed.getD j false = true → vals j = vals' j)
    (hφ : ∀ j, listed.getD j false = true → ∃ w, w0 w ∧ hypCM ops L Φ a0 cs j w) :
    ∀ n j, j < n → listed.getD j false = true → j < ops.size → cs j = cs' j ∧ wtd ops a0 cs j = wtd ops a0 cs' j := by
  intro n
  induction n with
  | zero => intro j hj; omega
  | succ n ih =>
    intro j hj hl hs
    have ho : ops[j]? = some ops[j] := Array.getElem?_eq_getElem hs
    have hdl : ∀ k, k < j → depB ops j k = true → cs k = cs' k := fun k hk hd => (ih k (by omega) (hcl j k hl hd) (by omega)).1
    obtain ⟨e1, e2⟩ := execOp_same F ho (look_two (a0 := a0) F ho hdl)
    have hwt : wtd ops a0 cs j = wtd ops a0 cs' j := by rw [wtd_eq ho, wtd_eq ho, e2]
    refine ⟨?_, hwt⟩
    obtain ⟨w, hw, hyp⟩ := hφ j hl
    have hyp' : hypCM ops L Φ a0 cs' j w := fun k φ hk hwk hf hd => by
      obtain ⟨g1, g2⟩ := ih k (by omega) (hcl j k hl (depA_depM hd)) (by omega)
      rw [← g1]
      exact hyp k φ hk (by rw [g2]; exact hwk) hf hd
    by_cases hwj : wtd ops a0 cs j = true
    · cases hf : Φ j with
      | none =>
        have r1 := S.pure j _ ho hwj hf w hw hyp
        have r2 := S'.pure j _ ho (hwt ▸ hwj) hf w hw hyp'
        rw [e1, r2] at r1
        injection r1 with r1 _
        injection r1 with r1
        exact r1.symm
      | some φ => rw [(S.pred j _ φ ho hwj hf).1, (S'.pred j _ φ ho (hwt ▸ hwj) hf).1, hv j hl]
    · have hwj : wtd ops a0 cs j = false := by simpa using hwj
      rw [S.skip j _ ho hwj, S'.skip j _ ho (hwt ▸ hwj)]

theorem chain_beforeM {listed : Array Bool} (hcl : ∀ j k, listed.getD j false = true → depB ops j k = true → listed.getD k false = true) {i : Nat} (hdep : ∀ a, depB ops i a = true → listed.getD a false = true) :
    ∀ (c : List Nat), chainBM ops c = true → ∀ k, i ∈ c → k ∈ c → k < i → listed.getD k false = true := by
  intro c
  induction c with
  | nil => intro _ k hi; cases hi
  | cons a r ih =>
    intro h k hi hk hki
    have h2 : chainBM ops r = true := by
      cases r with
      | nil => rfl
      | cons b r => simp only [chainBM, Bool.and_eq_true] at h; exact h.2
    rcases List.mem_cons.1 hk with rfl | hk2
    · rcases List.mem_cons.1 hi with rfl | hi2
      · omega
      · cases r with
        | nil => cases hi2
        | cons b r =>
          simp only [chainBM, Bool.and_eq_true, decide_eq_true_eq] at h
          by_cases hib : i = b
          · subst hib; exact hdep _ h.1.2
          · have hir : i ∈ r := by rcases List.mem_cons.1 hi2 with h | h; · exact absurd h hib
                                   · exact h
            exact hcl b _ (ih h2 b hi2 (List.mem_cons_self ..) (chain_ltM r b h.2 i hir)) h.1.2
    · rcases List.mem_cons.1 hi with rfl | hi2
      · exact absurd (chain_ltM r _ h k hk2) (by omega)
      · exact ih h2 k hi2 hk2 hki

structure PlanOkM (ops : Array Oper) (L : PlanM) (Φ : Nat → Option (Value → World → Prop)) : Prop where
  ch : chainBM ops L.c = true
  st : ∀ k φ, Φ k = some φ → ∀ v w w', φ v w → Below w.heap.size w w' → φ v w'
  un : ∀ i j φ ψ, Φ i = some φ → Φ j = some ψ → i < j → L.free i = true ∨ (i ∈ L.c ∧ j ∈ L.c) ∨ j ∈ L.keep

theorem anyC_of_seqM (F : RForm ops) (O : PlanOkM ops L Φ) (H : ∀ vals, ∃ cs, SeqCM P ops L Φ w0 Q a0 vals cs) :
    ∀ (fuel : Nat) (un : List Nat) (listed : Array Bool) (a : Act) (w : World) (vals cs : Nat → Value), un.length = fuel → un.Nodup → listed.size = ops.size →
      (∀ j, j < ops.size → (listed.getD j false = false ↔ j ∈ un)) → (∀ j k, listed.getD j false = true → depB ops j k = true → listed.getD k false = true) →
      w0 w → SeqCM P ops L Φ w0 Q a0 vals cs → (∀ j φ, listed.getD j false = true → wtd ops a0 cs j = true → Φ j = some φ → (∀ k, L.killOf j = some k → listed.getD k false = false) → φ (cs j) w) → (∀ j, listed.getD j false = true → ∃ w, w0 w ∧ hypCM ops L Φ a0 cs j w) → actL ops a0 listed cs a →
      wpAny P .any ops Q fuel listed a w := by
  have final : ∀ (listed : Array Bool) (a : Act) (w : World) (vals cs : Nat → Value), (∀ j, j < ops.size → listed.getD j false = true) →
      w0 w → SeqCM P ops L Φ w0 Q a0 vals cs → (∀ j φ, listed.getD j false = true → wtd ops a0 cs j = true → Φ j = some φ → (∀ k, L.killOf j = some k → listed.getD k false = false) → φ (cs j) w) → actL ops a0 listed cs a → Q .normal a w := by
    intro listed a w vals cs hall hw S hφ hA
    have : a = actTo ops a0 cs ops.size := by
      obtain ⟨t, d⟩ := a
      have h1 : t = (actTo ops a0 cs ops.size).tmps := by
        apply Array.ext_getElem?
        intro s
        by_cases hx : ∃ j, dstOf ops j = some s
        · obtain ⟨j, hj⟩ := hx
          have hjs : j < ops.size := by
            unfold dstOf at hj
            cases ho : ops[j]? with
            | none => rw [ho] at hj; cases hj
            | some o => exact (Array.getElem?_eq_some_iff.1 ho).1
          rw [hA.at_ j s (hall j hjs) hj, actTo_at F cs _ j s hjs hj]
        · rw [hA.old s fun j _ e => hx ⟨j, e⟩, actTo_old cs _ s fun j _ e => hx ⟨j, e⟩]
      have h2 : d = (actTo ops a0 cs ops.size).defers := by rw [actTo_defers]; exact hA.defers
      rw [h1, h2]
    rw [this]
    exact S.done w hw fun j φ hj hwj hf hkl => hφ j φ (hall j hj) hwj hf (fun k hk => by rw [hkl] at hk; cases hk)
  have noReady : ∀ listed : Array Bool, listed.size = ops.size → Region.ready .any ops listed = [] → ∀ j, j < ops.size → listed.getD j false = true := by
    intro listed hsz hr
    have : ∀ n j, j < n → j < ops.size → listed.getD j false = true := by
      intro n
      induction n with
      | zero => intro j hj; omega
      | succ n ih =>
        intro j hj hs
        by_cases hl : listed.getD j false = true
        · exact hl
        · exfalso
          have ho : ops[j]? = some ops[j] := Array.getElem?_eq_getElem hs
          have : j ∈ Region.ready .any ops listed := by
            rw [mem_ready]
            refine ⟨?_, _, ho, fun e he hb => ?_⟩
            · have hl' : listed.getD j false = false := by simpa using hl
              have hjl : j < listed.size := by omega
              simp [hjl] at hl' ⊢
              exact hl'
            · have := F.back j _ ho e he hb
              exact ih e.on (by omega) (by omega)
          rw [hr] at this
          cases this
    exact fun j hj => this (j + 1) j (Nat.lt_succ_self j) hj
  intro fuel
  induction fuel with
  | zero =>
    intro un listed a w vals cs hu hnd hsz hun hcl hw S hφ hK hA
    have hun0 : un = [] := List.eq_nil_of_length_eq_zero hu
    subst hun0
    have hall : ∀ j, j < ops.size → listed.getD j false = true := fun j hj => by
      cases hl : listed.getD j false with
      | true => rfl
      | false => exact absurd ((hun j hj).1 hl) (by simp)
    refine ⟨?_, final listed a w vals cs hall hw S hφ hA⟩
    apply List.eq_nil_iff_forall_not_mem.2
    intro j hj
    rw [mem_ready] at hj
    obtain ⟨h0, o, ho, _⟩ := hj
    have hjs := (Array.getElem?_eq_some_iff.1 ho).1
    have h1 := hall j hjs
    have hjl : j < listed.size := by omega
    simp [hjl] at h0 h1
    rw [h0] at h1
    cases h1
  | succ fuel ih =>
    intro un listed a w vals cs hu hnd hsz hun hcl hw S hφ hK hA
    refine ⟨fun hr => final listed a w vals cs (noReady listed hsz hr) hw S hφ hA, fun i hi => ?_⟩
    rw [mem_ready] at hi
    obtain ⟨h0, o, ho, hdeps⟩ := hi
    have his := (Array.getElem?_eq_some_iff.1 ho).1
    have hil : i < listed.size := by omega
    have hin : listed.getD i false = false := by simp [hil] at h0 ⊢; exact h0
    have hdep : ∀ j, depB ops i j = true → listed.getD j false = true := fun j hj => by
      obtain ⟨o', ho', e, he, hb, hon⟩ := depB_iff.1 hj
      obtain rfl : o = o' := by rw [ho] at ho'; exact Option.some.inj ho'
      rw [← hon]
      exact hdeps e he hb
    have hunb : ∀ j, depB ops j i = true → listed.getD j false = false := fun j hj => by
      cases hl : listed.getD j false with
      | false => rfl
      | true => have := hcl j i hl hj; rw [hin] at this; cases this
    obtain ⟨e1, e2⟩ := execOp_same F ho (look_seq F ho hA hdep hunb)
    have hset : ∀ j, (listed.setIfInBounds i true).getD j false = true ↔ j = i ∨ listed.getD j false = true := fun j => by
      by_cases hj : i = j
      · subst hj; simp [hil]
      · rw [getD_set_ne false hj]; simp [Ne.symm hj]
    have hiu : i ∈ un := (hun i his).1 hin
    have un1 : (un.erase i).length = fuel := by rw [List.length_erase_of_mem hiu, hu]; rfl
    have un2 : (un.erase i).Nodup := hnd.erase i
    have un3 : ∀ j, j < ops.size → ((listed.setIfInBounds i true).getD j false = false ↔ j ∈ un.erase i) := fun j hj => by
      rw [hnd.mem_erase_iff, ← hun j hj]
      by_cases hji : j = i
      · subst hji; simp [hil]
      · rw [getD_set_ne false (Ne.symm hji)]; simp [hji]
    have cl' : ∀ j k, (listed.setIfInBounds i true).getD j false = true → depB ops j k = true → (listed.setIfInBounds i true).getD k false = true := fun j k hj hd => by
      rw [hset] at hj ⊢
      rcases hj with rfl | hj
      · exact .inr (hdep k hd)
      · exact .inr (hcl j k hj hd)
    have next := fun (w' : World) (vals' cs' : Nat → Value) (v : Value) (hw' : w0 w') (S' : SeqCM P ops L Φ w0 Q a0 vals' cs')
        (hφ' : ∀ j φ, (listed.setIfInBounds i true).getD j false = true → wtd ops a0 cs' j = true → Φ j = some φ → (∀ k, L.killOf j = some k → (listed.setIfInBounds i true).getD k false = false) → φ (cs' j) w')
        (hK' : ∀ j, (listed.setIfInBounds i true).getD j false = true → ∃ w, w0 w ∧ hypCM ops L Φ a0 cs' j w) (hA' : actL ops a0 (listed.setIfInBounds i true) cs' (a.put o.dst v)) =>
      ih (un.erase i) (listed.setIfInBounds i true) (a.put o.dst v) w' vals' cs' un1 un2 (by simpa using hsz) un3 cl' hw' S' hφ' hK' hA'
    have hyp : hypCM ops L Φ a0 cs i w := fun k φ hk hwk hf hd => hφ k φ (hdep k (depA_depM hd)) hwk hf fun x hx => by
      unfold depAM at hd
      rw [hx] at hd
      simp only [Bool.and_eq_true, Bool.or_eq_true, beq_iff_eq] at hd
      rcases hd.2 with rfl | hy
      · exact hin
      · exact hunb x hy
    have notl : ∀ k, (listed.setIfInBounds i true).getD k false = false → k ≠ i ∧ listed.getD k false = false := fun k hk => by
      refine ⟨fun e => ?_, ?_⟩
      · rw [(hset k).2 (.inl e)] at hk; cases hk
      · cases hl : listed.getD k false with
        | false => rfl
        | true => rw [(hset k).2 (.inr hl)] at hk; cases hk
    have hKi : ∀ j, (listed.setIfInBounds i true).getD j false = true → ∃ w, w0 w ∧ hypCM ops L Φ a0 cs j w := fun j hj => by
      rcases (hset j).1 hj with rfl | hj
      · exact ⟨w, hw, hyp⟩
      · exact hK j hj
    unfold wpOp
    rw [ho]
    simp only []
    rw [e2, ← wtd_eq ho]
    by_cases hwi : wtd ops a0 cs i = true
    · rw [if_pos hwi]
      left
      unfold Oper.wp
      rw [e1]
      cases hf : Φ i with
      | none =>
        rw [S.pure i o ho hwi hf w hw hyp, Oper.upon_value]
        refine next w vals cs (cs i) hw S (fun j φ hj hwj hfj hkj => ?_) hKi (actL_put F hA i hil hin o ho _ rfl)
        rcases (hset j).1 hj with rfl | hj
        · rw [hf] at hfj; cases hfj
        · exact hφ j φ hj hwj hfj fun k hk => (notl k (hkj k hk)).2
      | some φ =>
        have Y := (S.pred i o φ ho hwi hf).2 w hw hyp
        -- behind the operation: the value v in the world w'
        have after : ∀ (v : Value) (w' : World), φ v w' → w0 w' → (L.free i = true → Below w.heap.size w w') → (L.free i = false → (∀ j ψ, j < i → wtd ops a0 cs j = true → Φ j = some ψ → L.dead i j = false → ψ (cs j) w → ψ (cs j) w') ∧ (∀ j ψ, j ∈ L.keep → Φ j = some ψ → ∀ u, ψ u w → ψ u w')) → wpAny P .any ops Q fuel (listed.setIfInBounds i true) (a.put o.dst v) w' := by
          intro v w' hv hb hfree hpr
          have hw' : w0 w' := hb
          obtain ⟨cs', S'⟩ := H (fun j => if j = i then v else vals j)
          have hagree := seqC_agreeM F S S' hcl (fun j hj => by
            have : j ≠ i := by intro e; rw [e, hin] at hj; cases hj
            exact (if_neg this).symm) hK
          have agree : ∀ j, listed.getD j false = true → j < ops.size → cs j = cs' j ∧ wtd ops a0 cs j = wtd ops a0 cs' j := fun j hj hs => hagree (j + 1) j (Nat.lt_succ_self j) hj hs
          have inr : ∀ j, listed.getD j false = true → j < ops.size := fun j hj => by
            rcases Nat.lt_or_ge j ops.size with h | h
            · exact h
            · rw [← hsz] at h; simp [Array.getElem?_eq_none h] at hj
          have hdl : ∀ k, k < i → depB ops i k = true → cs k = cs' k := fun k hk hd => (agree k (hdep k hd) (by omega)).1
          obtain ⟨f1, f2⟩ := execOp_same F ho (look_two (a0 := a0) F ho hdl)
          have hwt : wtd ops a0 cs i = wtd ops a0 cs' i := by rw [wtd_eq ho, wtd_eq ho, f2]
          have hci : cs' i = v := by
            rw [(S'.pred i o φ ho (hwt ▸ hwi) hf).1]
            exact if_pos rfl
          have hyp2 : ∀ j, (listed.setIfInBounds i true).getD j false = true → ∀ u, hypCM ops L Φ a0 cs j u → hypCM ops L Φ a0 cs' j u := fun j hj u hu k χ hk hwk hfk hd => by
            have hlk : listed.getD k false = true := by
              rcases (hset j).1 hj with rfl | hj
              · exact hdep k (depA_depM hd)
              · exact hcl j k hj (depA_depM hd)
            obtain ⟨g1, g2⟩ := agree k hlk (inr k hlk)
            rw [← g1]
            exact hu k χ hk (by rw [g2]; exact hwk) hfk hd
          have hA2 : actL ops a0 listed cs' a := ⟨hA.defers, hA.size, fun j d hj hd => by rw [← (agree j hj (inr j hj)).1]; exact hA.at_ j d hj hd, hA.old⟩
          refine next w' _ cs' v hw' S' (fun j ψ hj hwj hfj hkj => ?_) (fun j hj => by obtain ⟨u, h1, h2⟩ := hKi j hj; exact ⟨u, h1, hyp2 j hj u h2⟩) (actL_put F hA2 i hil hin o ho v hci)
          rcases (hset j).1 hj with rfl | hj
          · rw [hf] at hfj
            obtain rfl := Option.some.inj hfj
            rw [hci]
            exact hv
          · obtain ⟨g1, g2⟩ := agree j hj (inr j hj)
            rw [← g1]
            rw [← g2] at hwj
            have hold := hφ j ψ hj hwj hfj fun k hk => (notl k (hkj k hk)).2
            by_cases hfr : L.free i = true
            · exact O.st j ψ hfj _ w w' hold (hfree hfr)
            · have hfr : L.free i = false := by simpa using hfr
              have hjk : j < i ∨ j ∈ L.keep := by
                rcases Nat.lt_trichotomy j i with h | h | h
                · exact .inl h
                · rw [h, hin] at hj; cases hj
                · rcases O.un i j φ ψ hf hfj h with h1 | ⟨h1, h2⟩ | h1
                  · rw [hfr] at h1; cases h1
                  · have := chain_closedM hcl L.c O.ch i j h1 h2 h hj
                    rw [hin] at this; cases this
                  · exact .inr h1
              rcases hjk.symm with hjk | hji
              · exact (hpr hfr).2 j ψ hjk hfj _ hold
              refine (hpr hfr).1 j ψ hji hwj hfj ?_ hold
              unfold PlanM.dead
              cases hk : L.killOf j with
              | none => rfl
              | some k =>
                obtain ⟨n1, n2⟩ := notl k (hkj k hk)
                simp only [Bool.or_eq_false_iff, beq_eq_false_iff_ne, ne_eq, Bool.and_eq_false_iff, decide_eq_false_iff_not]
                refine ⟨n1, ?_⟩
                by_cases hki : k < i
                · by_cases hkc : L.c.contains k = true
                  · by_cases hic : L.c.contains i = true
                    · have := chain_beforeM hcl hdep L.c O.ch k (List.contains_iff_mem.1 hic) (List.contains_iff_mem.1 hkc) hki
                      rw [n2] at this; cases this
                    · exact .inr (by simpa using hic)
                  · exact .inl (.inr (by simpa using hkc))
                · exact .inl (.inl hki)
        generalize (execOp (actTo ops a0 cs i).eval o).run P w = r at Y
        cases r with
        | halt x w' => exact Y.elim
        | ok nx w' =>
          cases nx with
          | value v => rw [Oper.upon_value]; exact after v w' Y.1 Y.2.1 Y.2.2.1 Y.2.2.2
          | enter f args =>
            rw [Oper.upon_enter]
            refine Calls.mono Y fun e w'' he => ?_
            obtain ⟨v, rfl, h1, h2, h3, h4⟩ := he
            exact after v w'' h1 h2 h3 h4
          | _ => exact Y.elim
    · rw [if_neg hwi]
      have hwi : wtd ops a0 cs i = false := by simpa using hwi
      refine next w vals cs undef hw S (fun j φ hj hwj hfj hkj => ?_) hKi (actL_put F hA i hil hin o ho _ (S.skip i o ho hwi))
      rcases (hset j).1 hj with rfl | hj
      · rw [hwi] at hwj; cases hwj
      · exact hφ j φ hj hwj hfj fun k hk => (notl k (hkj k hk)).2

/-- What is to be checked of a plan, by counting. -/
def planBM (ops : Array Oper) (L : PlanM) (calls : List Nat) : Bool :=
  chainBM ops L.c && (calls.all fun i => calls.all fun j => !decide (i < j) || L.free i || (L.c.contains i && L.c.contains j) || L.keep.contains j)
theorem PlanOkM.of (calls : List Nat) (h : planBM ops L calls = true) (hc : ∀ k φ, Φ k = some φ → k ∈ calls) (st : ∀ k φ, Φ k = some φ → ∀ v w w', φ v w → Below w.heap.size w w' → φ v w') : PlanOkM ops L Φ := by
  unfold planBM at h
  rw [Bool.and_eq_true] at h
  obtain ⟨h1, h2⟩ := h
  refine ⟨h1, st, fun i j φ ψ hi hj hij => ?_⟩
  have := List.all_eq_true.1 (List.all_eq_true.1 h2 i (hc i φ hi)) j (hc j ψ hj)
  simp only [decide_eq_true hij, Bool.not_true, Bool.false_or, Bool.or_eq_true, Bool.and_eq_true, List.contains_iff_mem] at this
  exact or_assoc.1 this

/-- THE LAW. -/
theorem wp_region_cm {id : Nat} {l : List Oper} {w : World} (n : Nat) (hm : P.follows .mixedOrders = true) (hok' : tailOk l n = true) (I : World → Prop) (hI : I { w with drawn := w.drawn + 1 }) (Φ : Nat → Option (Value → World → Prop))
    (L : PlanM) (O : PlanOkM (l.take n).toArray L Φ) (h : ∀ vals, wpSCM (l.take n).toArray L Φ I (tailQ P l.toArray Q (l.drop n)) vals P (l.take n) 0 a0 []) : (Code.region id l.toArray true).wp P Q a0 w := by
  have hok2 := hok'
  unfold tailOk at hok2
  simp only [Bool.and_eq_true, decide_eq_true_eq] at hok2
  obtain ⟨⟨⟨⟨⟨hok, hn⟩, _⟩, _⟩, _⟩, _⟩ := hok2
  have F := rform_of_ok hok
  have hsz : (l.take n).toArray.size = n := by simp; omega
  have H : ∀ vals, ∃ cs, SeqCM P (l.take n).toArray L Φ I (tailQ P l.toArray Q (l.drop n)) a0 vals cs := fun vals => seqC_allM (by simpa using h vals)
  obtain ⟨cs, S⟩ := H (fun _ => undef)
  refine wp_region_any hm ?_
  have hrep : ∀ j, (Array.replicate n false).getD j false = false := fun j => by
    simp only [Array.getD_eq_getD_getElem?, Array.getElem?_replicate]
    split <;> rfl
  have hA : wpAny P .any (l.take n).toArray (tailQ P l.toArray Q (l.drop n)) (l.take n).toArray.size (Array.replicate n false) a0 { w with drawn := w.drawn + 1 } := by
    refine anyC_of_seqM F O H (l.take n).toArray.size (List.range (l.take n).toArray.size) _ a0 _ _ cs (by simp) List.nodup_range (by simp; omega) (fun j hj => ?_) (fun j k hj => ?_) hI S (fun j φ hj => ?_) (fun j hj => ?_) ⟨rfl, rfl, fun j d hj => ?_, fun s _ => rfl⟩
    · rw [hrep j]; simpa using hj
    · rw [hrep j] at hj; cases hj
    · rw [hrep j] at hj; cases hj
    · rw [hrep j] at hj; cases hj
    · rw [hrep j] at hj; cases hj
  rw [hsz] at hA
  have := any_tail hok' n (Array.replicate n false) a0 _ (by simp) (fun j oj _ _ hl => by rw [hrep j] at hl; cases hl) (by simp) hA
  have e1 : n + (l.length - n) = l.toArray.size := by simp; omega
  have e2 : Array.replicate n false ++ Array.replicate (l.length - n) false = Array.replicate l.toArray.size false := by
    apply Array.ext'
    simp
    omega
  rw [e1, e2] at this
  exact this
end

section
variable {P : Program} {ops : Array Oper} {L : PlanM} {Φ : Nat → Option (Value → World → Prop)} {w0 : World → Prop} {Q : Exit → Act → World → Prop} {vals : Nat → Value} {o : Oper} {rest : List Oper} {k : Nat} {a : Act} {H : List (Nat × (Value → World → Prop))}

/-- An operation that answers the same in every world. -/
theorem sc_pureM (hf : Φ k = none)
    (h : ∀ K : Act → Prop, (∀ a', wpSCM ops L Φ w0 Q vals P rest (k + 1) a' H → K a') →
      if Region.wanted o (yielded ops a.tmps) then ∃ v, (∀ w, okUpon w v ((execOp a.eval o).run P w)) ∧ K (a.put o.dst v) else K (a.put o.dst undef)) : wpSCM ops L Φ w0 Q vals P (o :: rest) k a H := by
  have h := h _ (fun _ h => h)
  simp only [wpSCM]
  by_cases hw : Region.wanted o (yielded ops a.tmps) = true
  · rw [if_pos hw] at h ⊢
    rw [hf]
    obtain ⟨v, h1, h2⟩ := h
    exact ⟨v, fun w _ _ => okUpon_eq (h1 w), h2⟩
  · rw [if_neg hw] at h ⊢
    exact h

/-- An operation whose value is told, and shown in the world it meets. -/
theorem sc_atM (v : Value) (hf : Φ k = none) (hw : Region.wanted o (yielded ops a.tmps) = true)
    (h1 : ∀ w, w0 w → (∀ p ∈ H, depAM ops L k p.1 = true → p.2 (vals p.1) w) → okUpon w v ((execOp a.eval o).run P w))
    (h : ∀ K : Act → Prop, (∀ a', wpSCM ops L Φ w0 Q vals P rest (k + 1) a' H → K a') → K (a.put o.dst v)) : wpSCM ops L Φ w0 Q vals P (o :: rest) k a H := by
  have h := h _ (fun _ h => h)
  simp only [wpSCM]
  rw [if_pos hw, hf]
  exact ⟨v, fun w hb hH => okUpon_eq (h1 w hb hH), h⟩

/-- A call, or what makes memory, and turns nothing that was there. -/
theorem sc_callM (hI : ∀ w w', w0 w → Below w.heap.size w w' → w0 w') (φ : Value → World → Prop) (hf : Φ k = some φ) (hw : Region.wanted o (yielded ops a.tmps) = true) (hfr : L.free k = true)
    (h1 : ∀ w, w0 w → (∀ p ∈ H, depAM ops L k p.1 = true → p.2 (vals p.1) w) → yieldsUpon P w (fun v w' => φ v w' ∧ Below w.heap.size w w') ((execOp a.eval o).run P w))
    (h : ∀ K : Act → Prop, (∀ a', wpSCM ops L Φ w0 Q vals P rest (k + 1) a' ((k, φ) :: H) → K a') → K (a.put o.dst (vals k))) : wpSCM ops L Φ w0 Q vals P (o :: rest) k a H := by
  have h := h _ (fun _ h => h)
  simp only [wpSCM]
  rw [if_pos hw, hf]
  exact ⟨fun w hb hH => yieldsUpon.monoM (fun v w' hy => ⟨hy.1, hI _ _ hb hy.2, fun _ => hy.2, fun h => by rw [hfr] at h; cases h⟩) (h1 w hb hH), h⟩

/-- A call that may turn what calls before it made. -/
theorem sc_growM (φ : Value → World → Prop) (hf : Φ k = some φ) (hw : Region.wanted o (yielded ops a.tmps) = true) (hfr : L.free k = false)
    (h1 : ∀ w, w0 w → (∀ p ∈ H, depAM ops L k p.1 = true → p.2 (vals p.1) w) → yieldsUpon P w (fun v w' => φ v w' ∧ w0 w' ∧ (∀ p ∈ H, L.dead k p.1 = false → p.2 (vals p.1) w → p.2 (vals p.1) w') ∧ (∀ j ψ, j ∈ L.keep → Φ j = some ψ → ∀ u, ψ u w → ψ u w')) ((execOp a.eval o).run P w))
    (h : ∀ K : Act → Prop, (∀ a', wpSCM ops L Φ w0 Q vals P rest (k + 1) a' ((k, φ) :: H) → K a') → K (a.put o.dst (vals k))) : wpSCM ops L Φ w0 Q vals P (o :: rest) k a H := by
  have h := h _ (fun _ h => h)
  simp only [wpSCM]
  rw [if_pos hw, hf]
  refine ⟨fun w hb hH => yieldsUpon.monoM (fun v w' hy => ⟨hy.1, hy.2.1, fun (h : L.free k = true) => ?_, fun _ => hy.2.2⟩) (h1 w hb hH), h⟩
  rw [hfr] at h; cases h

theorem sc_doneM (h : ∀ w, w0 w → (∀ p ∈ H, L.killOf p.1 = none → p.2 (vals p.1) w) → Q .normal a w) : wpSCM ops L Φ w0 Q vals P [] k a H := h
end
end Go.Proofs.Ytikoafjnopkoaaa
namespace Go.Proofs.Ytikoafjnopkoaaa
set_option linter.unusedVariables false
set_option linter.unusedSimpArgs false
open Go.ChangeShapes Go.WideShapes Go.ChangeAt Go.RowKit

theorem run_append_ownE {w : World} (ot : TypeId) {base : Nat} {v src : Value} {es fs : List Ent} (hown : EntO w base v es) (hsrc : EntR w src fs) (hl : es.length + fs.length ≤ 1000000000000) (hbase : base ≤ w.heap.size) :
    ∃ v' w', (Builtin.append_ #[24, 24] ot #[v, src]).run Try.prog w = .ok v' w' ∧ EntO w' base v' (es ++ fs) ∧ w.grownBy w' v.ownBlock := by
  obtain ⟨i, hi, hi'⟩ := Option.map_eq_some_iff.1 info_ent
  simp only [Prod.mk.injEq] at hi'
  obtain ⟨hz0, hz1, hz2⟩ := hi'
  obtain ⟨ao, cap, rfl⟩ := hsrc.slice
  obtain ⟨v', w', h1, h2, h3, _⟩ := run_append_src (P := Try.prog) (w := w) 24 ot base _ i _ 4 40 Try.underlying24 hi hz0 hz1 hz2 rfl (by decide) v es.length _ hown ao fs.length cap (fs.flatMap entCells) (entCells_len fs)
    (fun hm => by
      obtain ⟨b, off, rfl, _, hc⟩ := hsrc.flat (by intro e; subst e; exact hm rfl)
      exact ⟨_, rfl, fun j u hj => by rw [Addr.add_lit]; exact hc j u hj⟩) (entCells_oneCell fs) (by unfold maxLen; omega) (by omega) hbase
  refine ⟨v', w', h1, ?_, h3⟩
  unfold EntO
  rw [List.length_append, List.flatMap_append]
  exact h2
/-- A log in memory that is new and empty. -/
def BoxZ (base : Nat) (v : Value) (w : World) : Prop := ∃ b, v = .pointer (some ⟨b, 0, none⟩) ∧ base ≤ b ∧ w.heap[b]? = some (.cells #[.int .i64 0, .int .i64 0, .string ⟨#[]⟩, .string ⟨#[]⟩, .slice none 0 0] 32 (0, 0))
theorem BoxZ.below {base : Nat} {v : Value} {w w' : World} (h : BoxZ base v w) (hb : Below w.heap.size w w') : BoxZ base v w' := by
  obtain ⟨b, rfl, h1, h2⟩ := h
  exact ⟨b, rfl, h1, (hb.block b (Array.getElem?_eq_some_iff.1 h2).1).trans h2⟩
theorem BoxZ.keep {base b2 : Nat} {v u : Value} {w w' : World} {es : List Ent} (h : BoxZ base v w) (ho : EntO w b2 u es) (hg : w.grownBy w' u.ownBlock) : BoxZ base v w' := by
  obtain ⟨b, rfl, h1, h2⟩ := h
  have hne : u.ownBlock ≠ some b := by
    intro e
    rcases ho.2 with ⟨h3, _⟩ | ⟨g, cap, cur, h3, hbg, hg2, _⟩
    · rw [h3] at e; cases e
    · rw [h3] at e
      obtain rfl : g = b := Option.some.inj e
      rw [hg2] at h2
      simp at h2
  exact ⟨b, rfl, h1, (hg.block b (Array.getElem?_eq_some_iff.1 h2).1 (fun e => hne e.symm)).trans h2⟩
theorem BoxZ.fresh (w : World) (base : Nat) (h : base ≤ w.heap.size) : BoxZ base (.pointer (some ⟨w.heap.size, 0, none⟩)) (w.alloc (.cells #[.int .i64 0, .int .i64 0, .string ⟨#[]⟩, .string ⟨#[]⟩, .slice none 0 0] 32)) :=
  ⟨_, rfl, h, heap_alloc_new w _⟩
/-- All five cells are written. -/
theorem LogS.setAll {w : World} {b : Nat} {s s' : Snp} {lv rv : Value} {es es' : List Ent} (h : LogS w b s lv es) (hr : EntR w rv es') (hn : ∀ g off n c, rv = .slice (some ⟨g, off, none⟩) n c → g ≠ b) :
    LogS (((((w.setCell ⟨b, 0, none⟩ (.int .i64 s'.i)).setCell ⟨b, 1, none⟩ (.int .i64 s'.t)).setCell ⟨b, 2, none⟩ (.string s'.c)).setCell ⟨b, 3, none⟩ (.string s'.d)).setCell ⟨b, 4, none⟩ rv) b s' rv es' ∧
    Keeps [b] w (((((w.setCell ⟨b, 0, none⟩ (.int .i64 s'.i)).setCell ⟨b, 1, none⟩ (.int .i64 s'.t)).setCell ⟨b, 2, none⟩ (.string s'.c)).setCell ⟨b, 3, none⟩ (.string s'.d)).setCell ⟨b, 4, none⟩ rv) := by
  have hk : Keeps [b] w (((((w.setCell ⟨b, 0, none⟩ (.int .i64 s'.i)).setCell ⟨b, 1, none⟩ (.int .i64 s'.t)).setCell ⟨b, 2, none⟩ (.string s'.c)).setCell ⟨b, 3, none⟩ (.string s'.d)).setCell ⟨b, 4, none⟩ rv) :=
    (((((Keeps.refl [b] w).setCell (.inl (by simp)) _).setCell (.inl (by simp)) _).setCell (.inl (by simp)) _).setCell (.inl (by simp)) _).setCell (.inl (by simp)) _
  refine ⟨⟨Nat.lt_of_lt_of_le h.lt hk.size, ?_, ?_, ?_, ?_, ?_, fun j => ?_, EntR.keeps hr hk (fun g off n c e => by have := hn g off n c e; simpa using this), hn⟩, hk⟩
  · rw [World.cell?_setCell_other (h := by simp), World.cell?_setCell_other (h := by simp), World.cell?_setCell_other (h := by simp), World.cell?_setCell_other (h := by simp)]
    exact World.cell?_setCell_same _ _ _ h.c0
  · rw [World.cell?_setCell_other (h := by simp), World.cell?_setCell_other (h := by simp), World.cell?_setCell_other (h := by simp)]
    exact World.cell?_setCell_same _ _ _ (show World.cell? _ _ = some (.int .i64 s.t) from by rw [World.cell?_setCell_other (h := by simp)]; exact h.c1)
  · rw [World.cell?_setCell_other (h := by simp), World.cell?_setCell_other (h := by simp)]
    exact World.cell?_setCell_same _ _ _ (show World.cell? _ _ = some (.string s.c) from by rw [World.cell?_setCell_other (h := by simp), World.cell?_setCell_other (h := by simp)]; exact h.c2)
  · rw [World.cell?_setCell_other (h := by simp)]
    exact World.cell?_setCell_same _ _ _ (show World.cell? _ _ = some (.string s.d) from by rw [World.cell?_setCell_other (h := by simp), World.cell?_setCell_other (h := by simp), World.cell?_setCell_other (h := by simp)]; exact h.c3)
  · exact World.cell?_setCell_same _ _ _ (show World.cell? _ _ = some lv from by rw [World.cell?_setCell_other (h := by simp), World.cell?_setCell_other (h := by simp), World.cell?_setCell_other (h := by simp), World.cell?_setCell_other (h := by simp)]; exact h.c4)
  · rw [World.frozen?_setCell, World.frozen?_setCell, World.frozen?_setCell, World.frozen?_setCell, World.frozen?_setCell]; exact h.fr j
theorem EntO.ne_box {w : World} {b2 b : Nat} {u : Value} {es : List Ent} {cs : Array Value} (ho : EntO w b2 u es) (h2 : w.heap[b]? = some (.cells cs 32 (0, 0))) : u.ownBlock ≠ some b := by
  intro e
  rcases ho.2 with ⟨h3, _⟩ | ⟨g, cap, cur, h3, hbg, hg2, _⟩
  · rw [h3] at e; cases e
  · rw [h3] at e
    obtain rfl : g = b := Option.some.inj e
    rw [hg2] at h2
    simp at h2
/-- The store into a new box: what is known behind it. -/
theorem box_store {w : World} {b base : Nat} {v : Value} {s : Snp} {es : List Ent} (hv : EntO w base v es) (hh : w.heap[b]? = some (.cells #[.int .i64 0, .int .i64 0, .string ⟨#[]⟩, .string ⟨#[]⟩, .slice none 0 0] 32 (0, 0))) :
    LogS (((((w.setCell ⟨b, 0, none⟩ (.int .i64 s.i)).setCell ⟨b, 1, none⟩ (.int .i64 s.t)).setCell ⟨b, 2, none⟩ (.string s.c)).setCell ⟨b, 3, none⟩ (.string s.d)).setCell ⟨b, 4, none⟩ v) b s v es ∧
    EntO (((((w.setCell ⟨b, 0, none⟩ (.int .i64 s.i)).setCell ⟨b, 1, none⟩ (.int .i64 s.t)).setCell ⟨b, 2, none⟩ (.string s.c)).setCell ⟨b, 3, none⟩ (.string s.d)).setCell ⟨b, 4, none⟩ v) base v es ∧
    Keeps [b] w (((((w.setCell ⟨b, 0, none⟩ (.int .i64 s.i)).setCell ⟨b, 1, none⟩ (.int .i64 s.t)).setCell ⟨b, 2, none⟩ (.string s.c)).setCell ⟨b, 3, none⟩ (.string s.d)).setCell ⟨b, 4, none⟩ v) := by
  have hne := hv.ne_box hh
  have hc : ∀ j, w.cell? ⟨b, j, none⟩ = #[.int .i64 0, .int .i64 0, .string ⟨#[]⟩, .string ⟨#[]⟩, .slice none 0 0][j]? := fun j => cell_of_row w b j _ _ (0, 0) hh
  have hL : LogS w b ⟨0, 0, ⟨#[]⟩, ⟨#[]⟩⟩ (.slice none 0 0) [] := by
    refine ⟨(Array.getElem?_eq_some_iff.1 hh).1, ?_, ?_, ?_, ?_, ?_, fun j => ?_, EntR.nil _ _ _ (by omega), fun g off n c e => by cases e⟩
    · rw [hc 0]; rfl
    · rw [hc 1]; rfl
    · rw [hc 2]; rfl
    · rw [hc 3]; rfl
    · rw [hc 4]; rfl
    · unfold World.frozen?
      rw [hh]
      simp
  have hn : ∀ g off n c, v = .slice (some ⟨g, off, none⟩) n c → g ≠ b := fun g off n c e h => by
    rcases hv.2 with ⟨h3, _⟩ | ⟨g', cap, cur, h3, _⟩
    · rw [h3] at e; cases e
    · rw [h3] at e
      simp only [Value.slice.injEq, Option.some.injEq, Addr.mk.injEq, and_true] at e
      refine hne ?_
      rw [h3, ← h, ← e.1.1]
      rfl
  obtain ⟨h1, h2⟩ := hL.setAll (s' := s) hv.r hn
  refine ⟨h1, ?_, h2⟩
  have hg : w.grownBy (((((w.setCell ⟨b, 0, none⟩ (.int .i64 s.i)).setCell ⟨b, 1, none⟩ (.int .i64 s.t)).setCell ⟨b, 2, none⟩ (.string s.c)).setCell ⟨b, 3, none⟩ (.string s.d)).setCell ⟨b, 4, none⟩ v) (some b) :=
    ⟨h2.os, h2.tape, h2.output, h2.size, fun k hk hne => h2.block k hk (by simpa using fun e => hne (by rw [e]))⟩
  exact World.ownsRow.kept hv hg (.inr hne)
end Go.Proofs.Ytikoafjnopkoaaa
