/-
  No claim by itself: one law for a region that draws its order, where some calls turn what a call before them made: these stand in a chain. Walked once, in the text's order. | how the program writes a record. No condition.
-/
import Derived.Test.YtcogmohepcifiaaP4
import Derived.Test.YtcogmohepcifiaaP5
namespace Go.Proofs.Ytcogmohepcifiaa
open Go.RowKit

/-- Which calls stand in the chain, which turn nothing that was there, and which operation ends what a call's result was known for. -/
structure Plan where
  c : List Nat
  grow : List Nat
  kill : List (Nat × Nat)
def Plan.killOf (L : Plan) (j : Nat) : Option Nat := (L.kill.find? fun p => p.1 == j).map (·.2)
def Plan.free (L : Plan) (k : Nat) : Bool := !L.grow.contains k
def Plan.dead (L : Plan) (i j : Nat) : Bool :=
  match L.killOf j with
  | none => false
  | some k => k == i || (decide (k < i) && L.c.contains k && L.c.contains i)

/-- Operation k waits for j, and what is known of j has not ended. -/
def depA (ops : Array Oper) (L : Plan) (k j : Nat) : Bool :=
  depB ops k j && (match L.killOf j with | none => true | some x => x == k || depB ops x k)
theorem depA_dep {ops : Array Oper} {L : Plan} {k j : Nat} (h : depA ops L k j = true) : depB ops k j = true := by
  unfold depA at h
  exact (Bool.and_eq_true _ _ ▸ h).1
def hypC (ops : Array Oper) (L : Plan) (Φ : Nat → Option (Value → World → Prop)) (a0 : Act) (cs : Nat → Value) (k : Nat) (w : World) : Prop :=
  ∀ j φ, j < k → wtd ops a0 cs j = true → Φ j = some φ → depA ops L k j = true → φ (cs j) w

section
variable {P : Program} (ops : Array Oper) (L : Plan) (Φ : Nat → Option (Value → World → Prop)) (w0 : World) (Q : Exit → Act → World → Prop) (vals : Nat → Value)

/-- The walk in the text's order. 'H': what is known of the calls' results so far. -/
def wpSC (P : Program) : List Oper → Nat → Act → List (Nat × (Value → World → Prop)) → Prop
  | [], _, a, H => ∀ w, Below w0.heap.size w0 w → (∀ p ∈ H, L.killOf p.1 = none → p.2 (vals p.1) w) → Q .normal a w
  | o :: rest, k, a, H =>
    if Region.wanted o (yielded ops a.tmps) then
      match Φ k with
      | none => ∃ c, (∀ w, Below w0.heap.size w0 w → (∀ p ∈ H, depA ops L k p.1 = true → p.2 (vals p.1) w) → (execOp a.eval o).run P w = .ok (.value c) w) ∧ wpSC P rest (k + 1) (a.put o.dst c) H
      | some φ => (∀ w, Below w0.heap.size w0 w → (∀ p ∈ H, depA ops L k p.1 = true → p.2 (vals p.1) w) → yieldsUpon P w (fun v w' => φ v w' ∧ Below w0.heap.size w w' ∧ (L.free k = true → Below w.heap.size w w') ∧ (L.free k = false → ∀ p ∈ H, L.dead k p.1 = false → p.2 (vals p.1) w → p.2 (vals p.1) w')) ((execOp a.eval o).run P w)) ∧
          wpSC P rest (k + 1) (a.put o.dst (vals k)) ((k, φ) :: H)
    else wpSC P rest (k + 1) (a.put o.dst undef) H
end

section
variable {P : Program} {ops : Array Oper} {L : Plan} {Φ : Nat → Option (Value → World → Prop)} {w0 : World} {Q : Exit → Act → World → Prop} {a0 : Act}

theorem yieldsUpon.mono {P : Program} {w : World} {R R' : Value → World → Prop} {r : Result Next} (h : ∀ v w', R v w' → R' v w') (hy : yieldsUpon P w R r) : yieldsUpon P w R' r := by
  cases r with
  | halt x w' => exact hy.elim
  | ok nx w' =>
    cases nx with
    | value v => exact h _ _ hy
    | enter f args => exact Calls.mono hy fun e w'' he => by obtain ⟨v, rfl, h1⟩ := he; exact ⟨v, rfl, h _ _ h1⟩
    | _ => exact hy.elim

/-- The calls stand in a chain. -/
def chainB (ops : Array Oper) : List Nat → Bool
  | a :: b :: r => decide (a < b) && depB ops b a && chainB ops (b :: r)
  | _ => true
theorem chain_lt : ∀ (c : List Nat) (a : Nat), chainB ops (a :: c) = true → ∀ x ∈ c, a < x := by
  intro c
  induction c with
  | nil => intro a _ x hx; cases hx
  | cons b r ih =>
    intro a h x hx
    simp only [chainB, Bool.and_eq_true, decide_eq_true_eq] at h
    rcases List.mem_cons.1 hx with rfl | hx
    · exact h.1.1
    · exact Nat.lt_trans h.1.1 (ih b h.2 x hx)
theorem chain_head {listed : Array Bool} (hcl : ∀ j k, listed.getD j false = true → depB ops j k = true → listed.getD k false = true) :
    ∀ (c : List Nat) (a : Nat), chainB ops (a :: c) = true → ∀ j ∈ a :: c, listed.getD j false = true → listed.getD a false = true := by
  intro c
  induction c with
  | nil => intro a _ j hj hl; rw [List.mem_singleton] at hj; subst hj; exact hl
  | cons b r ih =>
    intro a h j hj hl
    simp only [chainB, Bool.and_eq_true, decide_eq_true_eq] at h
    rcases List.mem_cons.1 hj with rfl | hj
    · exact hl
    · exact hcl b a (ih b h.2 j hj hl) h.1.2
theorem chain_closed {listed : Array Bool} (hcl : ∀ j k, listed.getD j false = true → depB ops j k = true → listed.getD k false = true) :
    ∀ (c : List Nat), chainB ops c = true → ∀ i j, i ∈ c → j ∈ c → i < j → listed.getD j false = true → listed.getD i false = true := by
  intro c
  induction c with
  | nil => intro _ i j hi; cases hi
  | cons a r ih =>
    intro h i j hi hj hij hl
    rcases List.mem_cons.1 hi with rfl | hi2
    · exact chain_head hcl r _ h j hj hl
    · have h2 : chainB ops r = true := by
        cases r with
        | nil => rfl
        | cons b r => simp only [chainB, Bool.and_eq_true] at h; exact h.2
      rcases List.mem_cons.1 hj with rfl | hj2
      · exact absurd (chain_lt r _ h i hi2) (by omega)
      · exact ih h2 i j hi2 hj2 hij hl

/-- The values of one walk in the text's order. -/
structure SeqC (P : Program) (ops : Array Oper) (L : Plan) (Φ : Nat → Option (Value → World → Prop)) (w0 : World) (Q : Exit → Act → World → Prop) (a0 : Act) (vals cs : Nat → Value) : Prop where
  pure : ∀ k o, ops[k]? = some o → wtd ops a0 cs k = true → Φ k = none → ∀ w, Below w0.heap.size w0 w → hypC ops L Φ a0 cs k w → (execOp (actTo ops a0 cs k).eval o).run P w = .ok (.value (cs k)) w
  pred : ∀ k o φ, ops[k]? = some o → wtd ops a0 cs k = true → Φ k = some φ → cs k = vals k ∧ ∀ w, Below w0.heap.size w0 w → hypC ops L Φ a0 cs k w →
    yieldsUpon P w (fun v w' => φ v w' ∧ Below w0.heap.size w w' ∧ (L.free k = true → Below w.heap.size w w') ∧ (L.free k = false → ∀ j ψ, j < k → wtd ops a0 cs j = true → Φ j = some ψ → L.dead k j = false → ψ (cs j) w → ψ (cs j) w')) ((execOp (actTo ops a0 cs k).eval o).run P w)
  skip : ∀ k o, ops[k]? = some o → wtd ops a0 cs k = false → cs k = undef
  done : ∀ w, Below w0.heap.size w0 w → (∀ j φ, j < ops.size → wtd ops a0 cs j = true → Φ j = some φ → L.killOf j = none → φ (cs j) w) → Q .normal (actTo ops a0 cs ops.size) w

/-- From the walk to its values. -/
theorem seqC_of_walk {vals : Nat → Value} : ∀ (l : List Oper) (k : Nat) (cs0 : Nat → Value) (H : List (Nat × (Value → World → Prop))), (∀ j, l[j]? = ops[k + j]?) → k + l.length = ops.size →
    wpSC ops L Φ w0 Q vals P l k (actTo ops a0 cs0 k) H →
    (∀ p, p ∈ H ↔ (p.1 < k ∧ wtd ops a0 cs0 p.1 = true ∧ Φ p.1 = some p.2)) →
    (∀ p ∈ H, cs0 p.1 = vals p.1) →
    ∃ cs, (∀ j, j < k → cs j = cs0 j) ∧
      (∀ j o, k ≤ j → ops[j]? = some o → wtd ops a0 cs j = true → Φ j = none → ∀ w, Below w0.heap.size w0 w → hypC ops L Φ a0 cs j w → (execOp (actTo ops a0 cs j).eval o).run P w = .ok (.value (cs j)) w) ∧
      (∀ j o φ, k ≤ j → ops[j]? = some o → wtd ops a0 cs j = true → Φ j = some φ → cs j = vals j ∧ ∀ w, Below w0.heap.size w0 w → hypC ops L Φ a0 cs j w →
        yieldsUpon P w (fun v w' => φ v w' ∧ Below w0.heap.size w w' ∧ (L.free j = true → Below w.heap.size w w') ∧ (L.free j = false → ∀ i ψ, i < j → wtd ops a0 cs i = true → Φ i = some ψ → L.dead j i = false → ψ (cs i) w → ψ (cs i) w')) ((execOp (actTo ops a0 cs j).eval o).run P w)) ∧
      (∀ j o, k ≤ j → ops[j]? = some o → wtd ops a0 cs j = false → cs j = undef) ∧
      (∀ w, Below w0.heap.size w0 w → (∀ j φ, j < ops.size → wtd ops a0 cs j = true → Φ j = some φ → L.killOf j = none → φ (cs j) w) → Q .normal (actTo ops a0 cs ops.size) w) := by
  intro l
  induction l with
  | nil =>
    intro k cs0 H hl hk h hH hv
    have hk' : k = ops.size := by simpa using hk
    subst hk'
    refine ⟨cs0, fun _ _ => rfl, ?_, ?_, ?_, ?_⟩
    · intro j o hj ho; exact absurd (Array.getElem?_eq_some_iff.1 ho).1 (by omega)
    · intro j o φ hj ho; exact absurd (Array.getElem?_eq_some_iff.1 ho).1 (by omega)
    · intro j o hj ho; exact absurd (Array.getElem?_eq_some_iff.1 ho).1 (by omega)
    · intro w hw hf
      refine h w hw fun p hp hkl => ?_
      obtain ⟨h1, h2, h3⟩ := (hH p).1 hp
      rw [← hv p hp]
      exact hf p.1 p.2 h1 h2 h3 hkl
  | cons o rest ih =>
    intro k cs0 H hl hk h hH hv
    have ho : ops[k]? = some o := by have := hl 0; simpa using this.symm
    have hl' : ∀ j, rest[j]? = ops[k + 1 + j]? := fun j => by
      have := hl (j + 1)
      rw [List.getElem?_cons_succ] at this
      rw [this]
      congr 1
      omega
    have hk' : k + 1 + rest.length = ops.size := by simp at hk; omega
    have hdst : o.dst = dstOf ops k := by simp [dstOf, ho]
    -- the frame with one value more
    have put : ∀ c, (actTo ops a0 cs0 k).put o.dst c = actTo ops a0 (fun j => if j = k then c else cs0 j) (k + 1) := fun c => by
      show _ = (actTo ops a0 _ k).put _ (if k = k then c else cs0 k)
      rw [actTo_congr (cs' := cs0) k (fun j hj => if_neg (by omega)), hdst, if_pos rfl]
    have wold : ∀ c j, j ≤ k → wtd ops a0 (fun j => if j = k then c else cs0 j) j = wtd ops a0 cs0 j := fun c j hj =>
      wtd_congr j (fun i hi => if_neg (by omega))
    have wk : wtd ops a0 cs0 k = Region.wanted o (yielded ops (actTo ops a0 cs0 k).tmps) := by unfold wtd; rw [ho]
    -- what the rest gives, read at k as well
    have lift : ∀ (cs : Nat → Value) (c : Value), (∀ j, j < k + 1 → cs j = (fun j => if j = k then c else cs0 j) j) → (∀ j, j < k → cs j = cs0 j) ∧ cs k = c := fun cs c hc =>
      ⟨fun j hj => by rw [hc j (by omega)]; exact if_neg (by omega), by rw [hc k (by omega)]; exact if_pos rfl⟩
    simp only [wpSC] at h
    by_cases hw : Region.wanted o (yielded ops (actTo ops a0 cs0 k).tmps) = true
    · rw [if_pos hw] at h
      cases hφ : Φ k with
      | none =>
        rw [hφ] at h
        obtain ⟨c, hc, h⟩ := h
        rw [put c] at h
        obtain ⟨cs, e0, e1, e2, e3, e4⟩ := ih (k + 1) _ H hl' hk' h (fun p => by
          rw [hH p]
          constructor
          · rintro ⟨h1, h2, h3⟩; exact ⟨by omega, by rw [wold c p.1 (by omega)]; exact h2, h3⟩
          · rintro ⟨h1, h2, h3⟩
            have hne : p.1 ≠ k := by intro e; rw [e, hφ] at h3; cases h3
            exact ⟨by omega, by rw [← wold c p.1 (by omega)]; exact h2, h3⟩) (fun p hp => by
          have := ((hH p).1 hp).1
          rw [if_neg (by omega)]
          exact hv p hp)
        obtain ⟨f0, fk⟩ := lift cs c e0
        refine ⟨cs, f0, ?_, ?_, ?_, e4⟩
        · intro j o' hj ho' hwj hn w hwB hyp
          rcases Nat.eq_or_lt_of_le hj with rfl | hlt
          · obtain rfl : o = o' := by rw [ho] at ho'; exact Option.some.inj ho'
            rw [actTo_congr (cs' := cs0) k f0, fk]
            refine hc w hwB fun p hp hd => ?_
            obtain ⟨h1, h2, h3⟩ := (hH p).1 hp
            have := hyp p.1 p.2 h1 (by rw [wtd_congr p.1 (fun i hi => f0 i (by omega))]; exact h2) h3 hd
            rw [f0 p.1 h1, hv p hp] at this
            exact this
          · exact e1 j o' hlt ho' hwj hn w hwB hyp
        · intro j o' φ hj ho' hwj hn
          rcases Nat.eq_or_lt_of_le hj with rfl | hlt
          · rw [hφ] at hn; cases hn
          · exact e2 j o' φ hlt ho' hwj hn
        · intro j o' hj ho' hwj
          rcases Nat.eq_or_lt_of_le hj with rfl | hlt
          · rw [wtd_congr k f0, wk, hw] at hwj; cases hwj
          · exact e3 j o' hlt ho' hwj
      | some φ =>
        rw [hφ] at h
        obtain ⟨hc, h⟩ := h
        rw [put (vals k)] at h
        obtain ⟨cs, e0, e1, e2, e3, e4⟩ := ih (k + 1) _ ((k, φ) :: H) hl' hk' h (fun p => by
          rw [List.mem_cons, hH p]
          constructor
          · rintro (rfl | ⟨h1, h2, h3⟩)
            · exact ⟨by simp, by rw [wold _ k (Nat.le_refl _), wk]; exact hw, hφ⟩
            · exact ⟨by omega, by rw [wold _ p.1 (by omega)]; exact h2, h3⟩
          · rintro ⟨h1, h2, h3⟩
            by_cases hpk : p.1 = k
            · left
              rw [hpk, hφ] at h3
              exact Prod.ext hpk (Option.some.inj h3).symm
            · exact .inr ⟨by omega, by rw [← wold (vals k) p.1 (by omega)]; exact h2, h3⟩) (fun p hp => by
          rcases List.mem_cons.1 hp with rfl | hp
          · exact if_pos rfl
          · have := ((hH p).1 hp).1
            rw [if_neg (by omega)]
            exact hv p hp)
        obtain ⟨f0, fk⟩ := lift cs (vals k) e0
        refine ⟨cs, f0, ?_, ?_, ?_, e4⟩
        · intro j o' hj ho' hwj hn w hwB hyp
          rcases Nat.eq_or_lt_of_le hj with rfl | hlt
          · rw [hφ] at hn; cases hn
          · exact e1 j o' hlt ho' hwj hn w hwB hyp
        · intro j o' φ' hj ho' hwj hn
          rcases Nat.eq_or_lt_of_le hj with rfl | hlt
          · obtain rfl : o = o' := by rw [ho] at ho'; exact Option.some.inj ho'
            obtain rfl : φ = φ' := by rw [hφ] at hn; exact Option.some.inj hn
            refine ⟨fk, fun w hwB hyp => ?_⟩
            rw [actTo_congr (cs' := cs0) k f0]
            refine yieldsUpon.mono (fun v w' hy => ⟨hy.1, hy.2.1, hy.2.2.1, fun hfr i ψ hi hwi hfi hdd hψ => ?_⟩) (hc w hwB fun p hp hd => ?_)
            · have hmem : (i, ψ) ∈ H := (hH (i, ψ)).2 ⟨hi, by rw [← wtd_congr i (fun x hx => f0 x (by omega))]; exact hwi, hfi⟩
              rw [f0 i hi, hv (i, ψ) hmem] at hψ ⊢
              exact hy.2.2.2 hfr (i, ψ) hmem hdd hψ
            obtain ⟨h1, h2, h3⟩ := (hH p).1 hp
            have := hyp p.1 p.2 h1 (by rw [wtd_congr p.1 (fun i hi => f0 i (by omega))]; exact h2) h3 hd
            rw [f0 p.1 h1, hv p hp] at this
            exact this
          · exact e2 j o' φ' hlt ho' hwj hn
        · intro j o' hj ho' hwj
          rcases Nat.eq_or_lt_of_le hj with rfl | hlt
          · rw [wtd_congr k f0, wk, hw] at hwj; cases hwj
          · exact e3 j o' hlt ho' hwj
    · rw [if_neg hw] at h
      rw [put undef] at h
      obtain ⟨cs, e0, e1, e2, e3, e4⟩ := ih (k + 1) _ H hl' hk' h (fun p => by
        rw [hH p]
        constructor
        · rintro ⟨h1, h2, h3⟩; exact ⟨by omega, by rw [wold undef p.1 (by omega)]; exact h2, h3⟩
        · rintro ⟨h1, h2, h3⟩
          have hne : p.1 ≠ k := by
            intro e
            rw [e, wold undef k (Nat.le_refl _), wk] at h2
            exact hw h2
          exact ⟨by omega, by rw [← wold undef p.1 (by omega)]; exact h2, h3⟩) (fun p hp => by
        have := ((hH p).1 hp).1
        rw [if_neg (by omega)]
        exact hv p hp)
      obtain ⟨f0, fk⟩ := lift cs undef e0
      have hwf : wtd ops a0 cs k = false := by
        rw [wtd_congr k f0, wk]
        simpa using hw
      refine ⟨cs, f0, ?_, ?_, ?_, e4⟩
      · intro j o' hj ho' hwj hn w hwB hyp
        rcases Nat.eq_or_lt_of_le hj with rfl | hlt
        · rw [hwf] at hwj; cases hwj
        · exact e1 j o' hlt ho' hwj hn w hwB hyp
      · intro j o' φ' hj ho' hwj hn
        rcases Nat.eq_or_lt_of_le hj with rfl | hlt
        · rw [hwf] at hwj; cases hwj
        · exact e2 j o' φ' hlt ho' hwj hn
      · intro j o' hj ho' hwj
        rcases Nat.eq_or_lt_of_le hj with rfl | hlt
        · exact fk
        · exact e3 j o' hlt ho' hwj

theorem seqC_all {vals : Nat → Value} (h : wpSC ops L Φ w0 Q vals P ops.toList 0 a0 []) : ∃ cs, SeqC P ops L Φ w0 Q a0 vals cs := by
  obtain ⟨cs, _, e1, e2, e3, e4⟩ := seqC_of_walk (a0 := a0) ops.toList 0 (fun _ => undef) [] (fun j => by simp) (by simp) h (by simp) (by simp)
  exact ⟨cs, fun k o ho => e1 k o (Nat.zero_le _) ho, fun k o φ ho => e2 k o φ (Nat.zero_le _) ho, fun k o ho => e3 k o (Nat.zero_le _) ho, e4⟩

theorem seqC_agree (F : RForm ops) {vals vals' cs cs' : Nat → Value} (S : SeqC P ops L Φ w0 Q a0 vals cs) (S' : SeqC P ops L Φ w0 Q a0 vals' cs') {listed : Array Bool}
    (hcl : ∀ j k, listed.getD j false = true → depB ops j k = true → listed.getD k false = true)
    (hv : ∀ j, listed.getD j false = true → vals j = vals' j)
    (hφ : ∀ j, listed.getD j false = true → ∃ w, Below w0.heap.size w0 w ∧ hypC ops L Φ a0 cs j w) :
    ∀ n j, j < n → listed.getD j false = true → j < ops.size → cs j = cs' j ∧ wtd ops a0 cs j = wtd ops a0 cs' j := by
  intro n
  induction n with
  | zero => intro j hj; omega
  | succ n ih =>
    intro j hj hl hs
    have ho : ops[j]? = some ops[j] := Array.getElem?_eq_getElem hs
    have hdl : ∀ k, k < j → depB ops j k = true → cs k = cs' k := fun k hk hd => (ih k (by omega) (hcl j k hl hd) (by omega)).1
    obtain ⟨e1, e2⟩ := execOp_same F ho (look_two (a0 := a0) F ho hdl)
    have hwt : wtd ops a0 cs j = wtd ops a0 cs' j := by rw [wtd_eq ho, wtd_eq ho, e2]
    refine ⟨?_, hwt⟩
    obtain ⟨w, hw, hyp⟩ := hφ j hl
    have hyp' : hypC ops L Φ a0 cs' j w := fun k φ hk hwk hf hd => by
      obtain ⟨g1, g2⟩ := ih k (by omega) (hcl j k hl (depA_dep hd)) (by omega)
      rw [← g1]
      exact hyp k φ hk (by rw [g2]; exact hwk) hf hd
    by_cases hwj : wtd ops a0 cs j = true
    · cases hf : Φ j with
      | none =>
        have r1 := S.pure j _ ho hwj hf w hw hyp
        have r2 := S'.pure j _ ho (hwt ▸ hwj) hf w hw hyp'
        rw [e1, r2] at r1
        injection r1 with r1 _
        injection r1 with r1
        exact r1.symm
      | some φ => rw [(S.pred j _ φ ho hwj hf).1, (S'.pred j _ φ ho (hwt ▸ hwj) hf).1, hv j hl]
    · have hwj : wtd ops a0 cs j = false := by simpa using hwj
      rw [S.skip j _ ho hwj, S'.skip j _ ho (hwt ▸ hwj)]

theorem chain_before {listed : Array Bool} (hcl : ∀ j k, listed.getD j false = true → depB ops j k = true → listed.getD k false = true) {i : Nat} (hdep : ∀ a, depB ops i a = true → listed.getD a false = true) :
    ∀ (c : List Nat), chainB ops c = true → ∀ k, i ∈ c → k ∈ c → k < i → listed.getD k false = true := by
  intro c
  induction c with
  | nil => intro _ k hi; cases hi
  | cons a r ih =>
    intro h k hi hk hki
    have h2 : chainB ops r = true := by
      cases r with
      | nil => rfl
      | cons b r => simp only [chainB, Bool.and_eq_true] at h; exact h.2
    rcases List.mem_cons.1 hk with rfl | hk2
    · rcases List.mem_cons.1 hi with rfl | hi2
      · omega
      · cases r with
        | nil => cases hi2
        | cons b r =>
          simp only [chainB, Bool.and_eq_true, decide_eq_true_eq] at h
          by_cases hib : i = b
          · subst hib; exact hdep _ h.1.2
          · have hir : i ∈ r := by rcases List.mem_cons.1 hi2 with h | h; · exact absurd h hib
                                   · exact h
            exact hcl b _ (ih h2 b hi2 (List.mem_cons_self ..) (chain_lt r b h.2 i hir)) h.1.2
    · rcases List.mem_cons.1 hi with rfl | hi2
      · exact absurd (chain_lt r _ h k hk2) (by omega)
      · exact ih h2 k hi2 hk2 hki

structure PlanOk (ops : Array Oper) (L : Plan) (Φ : Nat → Option (Value → World → Prop)) : Prop where
  ch : chainB ops L.c = true
  st : ∀ k φ, Φ k = some φ → ∀ v w w', φ v w → Below w.heap.size w w' → φ v w'
  un : ∀ i j φ ψ, Φ i = some φ → Φ j = some ψ → i < j → L.free i = true ∨ (i ∈ L.c ∧ j ∈ L.c)

theorem anyC_of_seq (F : RForm ops) (O : PlanOk ops L Φ) (H : ∀ vals, ∃ cs, SeqC P ops L Φ w0 Q a0 vals cs) :
    ∀ (fuel : Nat) (un : List Nat) (listed : Array Bool) (a : Act) (w : World) (vals cs : Nat → Value), un.length = fuel → un.Nodup → listed.size = ops.size →
      (∀ j, j < ops.size → (listed.getD j false = false ↔ j ∈ un)) → (∀ j k, listed.getD j false = true → depB ops j k = true → listed.getD k false = true) →
      Below w0.heap.size w0 w → SeqC P ops L Φ w0 Q a0 vals cs → (∀ j φ, listed.getD j false = true → wtd ops a0 cs j = true → Φ j = some φ → (∀ k, L.killOf j = some k → listed.getD k false = false) → φ (cs j) w) → (∀ j, listed.getD j false = true → ∃ w, Below w0.heap.size w0 w ∧ hypC ops L Φ a0 cs j w) → actL ops a0 listed cs a →
      wpAny P .any ops Q fuel listed a w := by
  have final : ∀ (listed : Array Bool) (a : Act) (w : World) (vals cs : Nat → Value), (∀ j, j < ops.size → listed.getD j false = true) →
      Below w0.heap.size w0 w → SeqC P ops L Φ w0 Q a0 vals cs → (∀ j φ, listed.getD j false = true → wtd ops a0 cs j = true → Φ j = some φ → (∀ k, L.killOf j = some k → listed.getD k false = false) → φ (cs j) w) → actL ops a0 listed cs a → Q .normal a w := by
    intro listed a w vals cs hall hw S hφ hA
    have : a = actTo ops a0 cs ops.size := by
      obtain ⟨t, d⟩ := a
      have h1 : t = (actTo ops a0 cs ops.size).tmps := by
        apply Array.ext_getElem?
        intro s
        by_cases hx : ∃ j, dstOf ops j = some s
        · obtain ⟨j, hj⟩ := hx
          have hjs : j < ops.size := by
            unfold dstOf at hj
            cases ho : ops[j]? with
            | none => rw [ho] at hj; cases hj
            | some o => exact (Array.getElem?_eq_some_iff.1 ho).1
          rw [hA.at_ j s (hall j hjs) hj, actTo_at F cs _ j s hjs hj]
        · rw [hA.old s fun j _ e => hx ⟨j, e⟩, actTo_old cs _ s fun j _ e => hx ⟨j, e⟩]
      have h2 : d = (actTo ops a0 cs ops.size).defers := by rw [actTo_defers]; exact hA.defers
      rw [h1, h2]
    rw [this]
    exact S.done w hw fun j φ hj hwj hf hkl => hφ j φ (hall j hj) hwj hf (fun k hk => by rw [hkl] at hk; cases hk)
  have noReady : ∀ listed : Array Bool, listed.size = ops.size → Region.ready .any ops listed = [] → ∀ j, j < ops.size → listed.getD j false = true := by
    intro listed hsz hr
    have : ∀ n j, j < n → j < ops.size → listed.getD j false = true := by
      intro n
      induction n with
      | zero => intro j hj; omega
      | succ n ih =>
        intro j hj hs
        by_cases hl : listed.getD j false = true
        · exact hl
        · exfalso
          have ho : ops[j]? = some ops[j] := Array.getElem?_eq_getElem hs
          have : j ∈ Region.ready .any ops listed := by
            rw [mem_ready]
            refine ⟨?_, _, ho, fun e he hb => ?_⟩
            · have hl' : listed.getD j false = false := by simpa using hl
              have hjl : j < listed.size := by omega
              simp [hjl] at hl' ⊢
              exact hl'
            · have := F.back j _ ho e he hb
              exact ih e.on (by omega) (by omega)
          rw [hr] at this
          cases this
    exact fun j hj => this (j + 1) j (Nat.lt_succ_self j) hj
  intro fuel
  induction fuel with
  | zero =>
    intro un listed a w vals cs hu hnd hsz hun hcl hw S hφ hK hA
    have hun0 : un = [] := List.eq_nil_of_length_eq_zero hu
    subst hun0
    have hall : ∀ j, j < ops.size → listed.getD j false = true := fun j hj => by
      cases hl : listed.getD j false with
      | true => rfl
      | false => exact absurd ((hun j hj).1 hl) (by simp)
    refine ⟨?_, final listed a w vals cs hall hw S hφ hA⟩
    apply List.eq_nil_iff_forall_not_mem.2
    intro j hj
    rw [mem_ready] at hj
    obtain ⟨h0, o, ho, _⟩ := hj
    have hjs := (Array.getElem?_eq_some_iff.1 ho).1
    have h1 := hall j hjs
    have hjl : j < listed.size := by omega
    simp [hjl] at h0 h1
    rw [h0] at h1
    cases h1
  | succ fuel ih =>
    intro un listed a w vals cs hu hnd hsz hun hcl hw S hφ hK hA
    refine ⟨fun hr => final listed a w vals cs (noReady listed hsz hr) hw S hφ hA, fun i hi => ?_⟩
    rw [mem_ready] at hi
    obtain ⟨h0, o, ho, hdeps⟩ := hi
    have his := (Array.getElem?_eq_some_iff.1 ho).1
    have hil : i < listed.size := by omega
    have hin : listed.getD i false = false := by simp [hil] at h0 ⊢; exact h0
    have hdep : ∀ j, depB ops i j = true → listed.getD j false = true := fun j hj => by
      obtain ⟨o', ho', e, he, hb, hon⟩ := depB_iff.1 hj
      obtain rfl : o = o' := by rw [ho] at ho'; exact Option.some.inj ho'
      rw [← hon]
      exact hdeps e he hb
    have hunb : ∀ j, depB ops j i = true → listed.getD j false = false := fun j hj => by
      cases hl : listed.getD j false with
      | false => rfl
      | true => have := hcl j i hl hj; rw [hin] at this; cases this
    obtain ⟨e1, e2⟩ := execOp_same F ho (look_seq F ho hA hdep hunb)
    have hset : ∀ j, (listed.setIfInBounds i true).getD j false = true ↔ j = i ∨ listed.getD j false = true := fun j => by
      by_cases hj : i = j
      · subst hj; simp [hil]
      · rw [getD_set_ne false hj]; simp [Ne.symm hj]
    have hiu : i ∈ un := (hun i his).1 hin
    have un1 : (un.erase i).length = fuel := by rw [List.length_erase_of_mem hiu, hu]; rfl
    have un2 : (un.erase i).Nodup := hnd.erase i
    have un3 : ∀ j, j < ops.size → ((listed.setIfInBounds i true).getD j false = false ↔ j ∈ un.erase i) := fun j hj => by
      rw [hnd.mem_erase_iff, ← hun j hj]
      by_cases hji : j = i
      · subst hji; simp [hil]
      · rw [getD_set_ne false (Ne.symm hji)]; simp [hji]
    have cl' : ∀ j k, (listed.setIfInBounds i true).getD j false = true → depB ops j k = true → (listed.setIfInBounds i true).getD k false = true := fun j k hj hd => by
      rw [hset] at hj ⊢
      rcases hj with rfl | hj
      · exact .inr (hdep k hd)
      · exact .inr (hcl j k hj hd)
    have next := fun (w' : World) (vals' cs' : Nat → Value) (v : Value) (hw' : Below w0.heap.size w0 w') (S' : SeqC P ops L Φ w0 Q a0 vals' cs')
        (hφ' : ∀ j φ, (listed.setIfInBounds i true).getD j false = true → wtd ops a0 cs' j = true → Φ j = some φ → (∀ k, L.killOf j = some k → (listed.setIfInBounds i true).getD k false = false) → φ (cs' j) w')
        (hK' : ∀ j, (listed.setIfInBounds i true).getD j false = true → ∃ w, Below w0.heap.size w0 w ∧ hypC ops L Φ a0 cs' j w) (hA' : actL ops a0 (listed.setIfInBounds i true) cs' (a.put o.dst v)) =>
      ih (un.erase i) (listed.setIfInBounds i true) (a.put o.dst v) w' vals' cs' un1 un2 (by simpa using hsz) un3 cl' hw' S' hφ' hK' hA'
    have hyp : hypC ops L Φ a0 cs i w := fun k φ hk hwk hf hd => hφ k φ (hdep k (depA_dep hd)) hwk hf fun x hx => by
      unfold depA at hd
      rw [hx] at hd
      simp only [Bool.and_eq_true, Bool.or_eq_true, beq_iff_eq] at hd
      rcases hd.2 with rfl | hy
      · exact hin
      · exact hunb x hy
    have notl : ∀ k, (listed.setIfInBounds i true).getD k false = false → k ≠ i ∧ listed.getD k false = false := fun k hk => by
      refine ⟨fun e => ?_, ?_⟩
      · rw [(hset k).2 (.inl e)] at hk; cases hk
      · cases hl : listed.getD k false with
        | false => rfl
        | true => rw [(hset k).2 (.inr hl)] at hk; cases hk
    have hKi : ∀ j, (listed.setIfInBounds i true).getD j false = true → ∃ w, Below w0.heap.size w0 w ∧ hypC ops L Φ a0 cs j w := fun j hj => by
      rcases (hset j).1 hj with rfl | hj
      · exact ⟨w, hw, hyp⟩
      · exact hK j hj
    unfold wpOp
    rw [ho]
    simp only []
    rw [e2, ← wtd_eq ho]
    by_cases hwi : wtd ops a0 cs i = true
    · rw [if_pos hwi]
      left
      unfold Oper.wp
      rw [e1]
      cases hf : Φ i with
      | none =>
        rw [S.pure i o ho hwi hf w hw hyp, Oper.upon_value]
        refine next w vals cs (cs i) hw S (fun j φ hj hwj hfj hkj => ?_) hKi (actL_put F hA i hil hin o ho _ rfl)
        rcases (hset j).1 hj with rfl | hj
        · rw [hf] at hfj; cases hfj
        · exact hφ j φ hj hwj hfj fun k hk => (notl k (hkj k hk)).2
      | some φ =>
        have Y := (S.pred i o φ ho hwi hf).2 w hw hyp
        -- behind the operation: the value v in the world w'
        have after : ∀ (v : Value) (w' : World), φ v w' → Below w0.heap.size w w' → (L.free i = true → Below w.heap.size w w') → (L.free i = false → ∀ j ψ, j < i → wtd ops a0 cs j = true → Φ j = some ψ → L.dead i j = false → ψ (cs j) w → ψ (cs j) w') → wpAny P .any ops Q fuel (listed.setIfInBounds i true) (a.put o.dst v) w' := by
          intro v w' hv hb hfree hpr
          have hw' : Below w0.heap.size w0 w' := hw.trans hb
          obtain ⟨cs', S'⟩ := H (fun j => if j = i then v else vals j)
          have hagree := seqC_agree F S S' hcl (fun j hj => by
            have : j ≠ i := by intro e; rw [e, hin] at hj; cases hj
            exact (if_neg this).symm) hK
          have agree : ∀ j, listed.getD j false = true → j < ops.size → cs j = cs' j ∧ wtd ops a0 cs j = wtd ops a0 cs' j := fun j hj hs => hagree (j + 1) j (Nat.lt_succ_self j) hj hs
          have inr : ∀ j, listed.getD j false = true → j < ops.size := fun j hj => by
            rcases Nat.lt_or_ge j ops.size with h | h
            · exact h
            · rw [← hsz] at h; simp [Array.getElem?_eq_none h] at hj
          have hdl : ∀ k, k < i → depB ops i k = true → cs k = cs' k := fun k hk hd => (agree k (hdep k hd) (by omega)).1
          obtain ⟨f1, f2⟩ := execOp_same F ho (look_two (a0 := a0) F ho hdl)
          have hwt : wtd ops a0 cs i = wtd ops a0 cs' i := by rw [wtd_eq ho, wtd_eq ho, f2]
          have hci : cs' i = v := by
            rw [(S'.pred i o φ ho (hwt ▸ hwi) hf).1]
            exact if_pos rfl
          have hyp2 : ∀ j, (listed.setIfInBounds i true).getD j false = true → ∀ u, hypC ops L Φ a0 cs j u → hypC ops L Φ a0 cs' j u := fun j hj u hu k χ hk hwk hfk hd => by
            have hlk : listed.getD k false = true := by
              rcases (hset j).1 hj with rfl | hj
              · exact hdep k (depA_dep hd)
              · exact hcl j k hj (depA_dep hd)
            obtain ⟨g1, g2⟩ := agree k hlk (inr k hlk)
            rw [← g1]
            exact hu k χ hk (by rw [g2]; exact hwk) hfk hd
          have hA2 : actL ops a0 listed cs' a := ⟨hA.defers, hA.size, fun j d hj hd => by rw [← (agree j hj (inr j hj)).1]; exact hA.at_ j d hj hd, hA.old⟩
          refine next w' _ cs' v hw' S' (fun j ψ hj hwj hfj hkj => ?_) (fun j hj => by obtain ⟨u, h1, h2⟩ := hKi j hj; exact ⟨u, h1, hyp2 j hj u h2⟩) (actL_put F hA2 i hil hin o ho v hci)
          rcases (hset j).1 hj with rfl | hj
          · rw [hf] at hfj
            obtain rfl := Option.some.inj hfj
            rw [hci]
            exact hv
          · obtain ⟨g1, g2⟩ := agree j hj (inr j hj)
            rw [← g1]
            rw [← g2] at hwj
            have hold := hφ j ψ hj hwj hfj fun k hk => (notl k (hkj k hk)).2
            by_cases hfr : L.free i = true
            · exact O.st j ψ hfj _ w w' hold (hfree hfr)
            · have hfr : L.free i = false := by simpa using hfr
              have hji : j < i := by
                rcases Nat.lt_trichotomy j i with h | h | h
                · exact h
                · rw [h, hin] at hj; cases hj
                · rcases O.un i j φ ψ hf hfj h with h1 | ⟨h1, h2⟩
                  · rw [hfr] at h1; cases h1
                  · have := chain_closed hcl L.c O.ch i j h1 h2 h hj
                    rw [hin] at this; cases this
              refine hpr hfr j ψ hji hwj hfj ?_ hold
              unfold Plan.dead
              cases hk : L.killOf j with
              | none => rfl
              | some k =>
                obtain ⟨n1, n2⟩ := notl k (hkj k hk)
                simp only [Bool.or_eq_false_iff, beq_eq_false_iff_ne, ne_eq, Bool.and_eq_false_iff, decide_eq_false_iff_not]
                refine ⟨n1, ?_⟩
                by_cases hki : k < i
                · by_cases hkc : L.c.contains k = true
                  · by_cases hic : L.c.contains i = true
                    · have := chain_before hcl hdep L.c O.ch k (List.contains_iff_mem.1 hic) (List.contains_iff_mem.1 hkc) hki
                      rw [n2] at this; cases this
                    · exact .inr (by simpa using hic)
                  · exact .inl (.inr (by simpa using hkc))
                · exact .inl (.inl hki)
        generalize (execOp (actTo ops a0 cs i).eval o).run P w = r at Y
        cases r with
        | halt x w' => exact Y.elim
        | ok nx w' =>
          cases nx with
          | value v => rw [Oper.upon_value]; exact after v w' Y.1 Y.2.1 Y.2.2.1 Y.2.2.2
          | enter f args =>
            rw [Oper.upon_enter]
            refine Calls.mono Y fun e w'' he => ?_
            obtain ⟨v, rfl, h1, h2, h3, h4⟩ := he
            exact after v w'' h1 h2 h3 h4
          | _ => exact Y.elim
    · rw [if_neg hwi]
      have hwi : wtd ops a0 cs i = false := by simpa using hwi
      refine next w vals cs undef hw S (fun j φ hj hwj hfj hkj => ?_) hKi (actL_put F hA i hil hin o ho _ (S.skip i o ho hwi))
      rcases (hset j).1 hj with rfl | hj
      · rw [hwi] at hwj; cases hwj
      · exact hφ j φ hj hwj hfj fun k hk => (notl k (hkj k hk)).2

/-- What is to be checked of a plan, by counting. -/
def planB (ops : Array Oper) (L : Plan) (calls : List Nat) : Bool :=
  chainB ops L.c && (calls.all fun i => calls.all fun j => !decide (i < j) || L.free i || (L.c.contains i && L.c.contains j))
theorem PlanOk.of (calls : List Nat) (h : planB ops L calls = true) (hc : ∀ k φ, Φ k = some φ → k ∈ calls) (st : ∀ k φ, Φ k = some φ → ∀ v w w', φ v w → Below w.heap.size w w' → φ v w') : PlanOk ops L Φ := by
  unfold planB at h
  rw [Bool.and_eq_true] at h
  obtain ⟨h1, h2⟩ := h
  refine ⟨h1, st, fun i j φ ψ hi hj hij => ?_⟩
  have := List.all_eq_true.1 (List.all_eq_true.1 h2 i (hc i φ hi)) j (hc j ψ hj)
  simp only [decide_eq_true hij, Bool.not_true, Bool.false_or, Bool.or_eq_true, Bool.and_eq_true, List.contains_iff_mem] at this
  exact this

/-- THE LAW. -/
theorem wp_region_ch {id : Nat} {l : List Oper} {w : World} (hm : P.follows .mixedOrders = true) (hok : regionOk l.toArray = true) (Φ : Nat → Option (Value → World → Prop))
    (L : Plan) (O : PlanOk l.toArray L Φ) (h : ∀ vals, wpSC l.toArray L Φ w Q vals P l 0 a0 []) : (Code.region id l.toArray true).wp P Q a0 w := by
  have F := rform_of_ok hok
  have H : ∀ vals, ∃ cs, SeqC P l.toArray L Φ w Q a0 vals cs := fun vals => seqC_all (by simpa using h vals)
  obtain ⟨cs, S⟩ := H (fun _ => undef)
  refine wp_region_any hm ?_
  have hrep : ∀ j, (Array.replicate l.toArray.size false).getD j false = false := fun j => by
    simp only [Array.getD_eq_getD_getElem?, Array.getElem?_replicate]
    split <;> rfl
  refine anyC_of_seq F O H l.toArray.size (List.range l.toArray.size) _ a0 _ _ cs (by simp) List.nodup_range (by simp) (fun j hj => ?_) (fun j k hj => ?_) ?_ S (fun j φ hj => ?_) (fun j hj => ?_) ⟨rfl, rfl, fun j d hj => ?_, fun s _ => rfl⟩
  · rw [hrep j]; simpa using hj
  · rw [hrep j] at hj; cases hj
  · exact ⟨rfl, rfl, rfl, Nat.le_refl _, fun _ _ => rfl⟩
  · rw [hrep j] at hj; cases hj
  · rw [hrep j] at hj; cases hj
  · rw [hrep j] at hj; cases hj
end

section
variable {P : Program} {ops : Array Oper} {L : Plan} {Φ : Nat → Option (Value → World → Prop)} {w0 : World} {Q : Exit → Act → World → Prop} {vals : Nat → Value} {o : Oper} {rest : List Oper} {k : Nat} {a : Act} {H : List (Nat × (Value → World → Prop))}

/-- An operation that answers the same in every world. -/
theorem sc_pure (hf : Φ k = none)
    (h : ∀ K : Act → Prop, (∀ a', wpSC ops L Φ w0 Q vals P rest (k + 1) a' H → K a') →
      if Region.wanted o (yielded ops a.tmps) then ∃ v, (∀ w, okUpon w v ((execOp a.eval o).run P w)) ∧ K (a.put o.dst v) else K (a.put o.dst undef)) : wpSC ops L Φ w0 Q vals P (o :: rest) k a H := by
  have h := h _ (fun _ h => h)
  simp only [wpSC]
  by_cases hw : Region.wanted o (yielded ops a.tmps) = true
  · rw [if_pos hw] at h ⊢
    rw [hf]
    obtain ⟨v, h1, h2⟩ := h
    exact ⟨v, fun w _ _ => okUpon_eq (h1 w), h2⟩
  · rw [if_neg hw] at h ⊢
    exact h

/-- An operation whose value is told, and shown in the world it meets. -/
theorem sc_at (v : Value) (hf : Φ k = none) (hw : Region.wanted o (yielded ops a.tmps) = true)
    (h1 : ∀ w, Below w0.heap.size w0 w → (∀ p ∈ H, depA ops L k p.1 = true → p.2 (vals p.1) w) → okUpon w v ((execOp a.eval o).run P w))
    (h : ∀ K : Act → Prop, (∀ a', wpSC ops L Φ w0 Q vals P rest (k + 1) a' H → K a') → K (a.put o.dst v)) : wpSC ops L Φ w0 Q vals P (o :: rest) k a H := by
  have h := h _ (fun _ h => h)
  simp only [wpSC]
  rw [if_pos hw, hf]
  exact ⟨v, fun w hb hH => okUpon_eq (h1 w hb hH), h⟩

/-- A call, or what makes memory, and turns nothing that was there. -/
theorem sc_call (φ : Value → World → Prop) (hf : Φ k = some φ) (hw : Region.wanted o (yielded ops a.tmps) = true) (hfr : L.free k = true)
    (h1 : ∀ w, Below w0.heap.size w0 w → (∀ p ∈ H, depA ops L k p.1 = true → p.2 (vals p.1) w) → yieldsUpon P w (fun v w' => φ v w' ∧ Below w.heap.size w w') ((execOp a.eval o).run P w))
    (h : ∀ K : Act → Prop, (∀ a', wpSC ops L Φ w0 Q vals P rest (k + 1) a' ((k, φ) :: H) → K a') → K (a.put o.dst (vals k))) : wpSC ops L Φ w0 Q vals P (o :: rest) k a H := by
  have h := h _ (fun _ h => h)
  simp only [wpSC]
  rw [if_pos hw, hf]
  exact ⟨fun w hb hH => yieldsUpon.mono (fun v w' hy => ⟨hy.1, hy.2.mono hb.size, fun _ => hy.2, fun h => by rw [hfr] at h; cases h⟩) (h1 w hb hH), h⟩

/-- A call that may turn what calls before it made. -/
theorem sc_grow (φ : Value → World → Prop) (hf : Φ k = some φ) (hw : Region.wanted o (yielded ops a.tmps) = true) (hfr : L.free k = false)
    (h1 : ∀ w, Below w0.heap.size w0 w → (∀ p ∈ H, depA ops L k p.1 = true → p.2 (vals p.1) w) → yieldsUpon P w (fun v w' => φ v w' ∧ Below w0.heap.size w w' ∧ ∀ p ∈ H, L.dead k p.1 = false → p.2 (vals p.1) w → p.2 (vals p.1) w') ((execOp a.eval o).run P w))
    (h : ∀ K : Act → Prop, (∀ a', wpSC ops L Φ w0 Q vals P rest (k + 1) a' ((k, φ) :: H) → K a') → K (a.put o.dst (vals k))) : wpSC ops L Φ w0 Q vals P (o :: rest) k a H := by
  have h := h _ (fun _ h => h)
  simp only [wpSC]
  rw [if_pos hw, hf]
  refine ⟨fun w hb hH => yieldsUpon.mono (fun v w' hy => ⟨hy.1, hy.2.1, fun (h : L.free k = true) => ?_, fun _ => hy.2.2⟩) (h1 w hb hH), h⟩
  rw [hfr] at h; cases h

theorem sc_done (h : ∀ w, Below w0.heap.size w0 w → (∀ p ∈ H, L.killOf p.1 = none → p.2 (vals p.1) w) → Q .normal a w) : wpSC ops L Φ w0 Q vals P [] k a H := h
end
end Go.Proofs.Ytcogmohepcifiaa
namespace Go.Proofs.Ytcogmohepcifiaa
open Go.ChangeShapes Go.WideShapes Go.ChangeAt Go.RowKit

/-- A record's cells in a block of their own. -/
structure RecS (w : World) (b : Nat) (r : Rec) : Prop where
  lt : b < w.heap.size
  c0 : w.cell? ⟨b, 0, none⟩ = some (.bool r.hd)
  c1 : w.cell? ⟨b, 1, none⟩ = some (.int .i64 r.t)
  c2 : w.cell? ⟨b, 2, none⟩ = some (.int .i64 r.v)
  c3 : w.cell? ⟨b, 3, none⟩ = some (.int .i64 r.e.i)
  c4 : w.cell? ⟨b, 4, none⟩ = some (.int .i64 r.e.t)
  c5 : w.cell? ⟨b, 5, none⟩ = some (.int .i64 r.e.k)
  c6 : w.cell? ⟨b, 6, none⟩ = some (.string r.e.d)
  fr : ∀ j, w.frozen? ⟨b, j, none⟩ = false
theorem RecS.below {w w' : World} {b : Nat} {r : Rec} (h : RecS w b r) (hb : Below w.heap.size w w') : RecS w' b r :=
  ⟨Nat.lt_of_lt_of_le h.lt hb.size, (hb.cell (p := ⟨b, 0, none⟩) h.lt).trans h.c0, (hb.cell (p := ⟨b, 1, none⟩) h.lt).trans h.c1, (hb.cell (p := ⟨b, 2, none⟩) h.lt).trans h.c2, (hb.cell (p := ⟨b, 3, none⟩) h.lt).trans h.c3,
    (hb.cell (p := ⟨b, 4, none⟩) h.lt).trans h.c4, (hb.cell (p := ⟨b, 5, none⟩) h.lt).trans h.c5, (hb.cell (p := ⟨b, 6, none⟩) h.lt).trans h.c6, fun j => (hb.frozen (p := ⟨b, j, none⟩) h.lt).trans (h.fr j)⟩
theorem recS_box (w : World) (r : Rec) (T : TypeId) : RecS (w.alloc (.cells #[.bool r.hd, .int .i64 r.t, .int .i64 r.v, .int .i64 r.e.i, .int .i64 r.e.t, .int .i64 r.e.k, .string r.e.d] T)) w.heap.size r :=
  ⟨by simp, World.cell?_alloc_new _ _ _ _, World.cell?_alloc_new _ _ _ _, World.cell?_alloc_new _ _ _ _, World.cell?_alloc_new _ _ _ _, World.cell?_alloc_new _ _ _ _, World.cell?_alloc_new _ _ _ _, World.cell?_alloc_new _ _ _ _, fun j => World.frozen?_alloc_new _ _ _ _⟩

/-- The row that a call yields, told of later too. -/
def BytesAt (N : Nat) (l : List UInt8) (v : Value) (w : World) : Prop := OwnB w N 5 v l

set_option maxRecDepth 100000 in
set_option maxHeartbeats 2000000 in
theorem wal_encode (r : Rec) (w : World) : Calls Try.prog 50 #[recAgg r] w fun e w' => RetNew w (encR r) e w' := by
  by_cases hm : mayR r = true
  case neg =>
    have hm : mayR r = false := by simpa using hm
    have hE : encR r = [] := by unfold encR; rw [hm]; rfl
    have HE := Lib.hid hE
    have HM := Lib.hid hm
    have hb := (Below.refl w.heap.size w).alloc (Nat.le_refl _) (.cells #[.bool r.hd, .int .i64 r.t, .int .i64 r.v, .int .i64 r.e.i, .int .i64 r.e.t, .int .i64 r.e.k, .string r.e.d] 89)
    have hc := recS_box w r 89
    clear hm hE
    unfold recAgg
    have c0 := hc.c0
    have c1 := hc.c1
    have c2 := hc.c2
    have c3 := hc.c3
    have c4 := hc.c4
    have c5 := hc.c5
    have c6 := hc.c6
    go_enter Try.func50, Try.ntmps50
    go_wp2_with fail
    refine (wal_may r _).mono ?_
    rintro e w1 ⟨rfl, hb1⟩
    rw [HM.out]
    have hbw := hb.trans (hb1.mono hb.size)
    clear hb hb1 hc c0 c1 c2 c3 c4 c5 c6
    go_wp2_with fail
    go_ret
    exact ⟨_, rfl, by rw [HE.out]; exact OwnB.nil _ _ _, hbw⟩
  case pos =>
    have hE : encR r = sealP (if r.hd then 1 else 2) (bodyR r) := by unfold encR; rw [if_pos hm]
    have hbody := mayR_body hm
    have HM := Lib.hid hm
    have hb := (Below.refl w.heap.size w).alloc (Nat.le_refl _) (.cells #[.bool r.hd, .int .i64 r.t, .int .i64 r.v, .int .i64 r.e.i, .int .i64 r.e.t, .int .i64 r.e.k, .string r.e.d] 89)
    have hc := recS_box w r 89
    by_cases hh : r.hd = true
    · obtain ⟨k0, k1, k2, k3, -⟩ := (mayR_hd hh).1 hm
      have hB : bodyR r = putN r.t ++ putN r.v := by unfold bodyR; rw [if_pos hh]
      rw [if_pos hh, hB] at hE
      have HE := Lib.hid hE
      clear hm hE hB hbody
      obtain ⟨hd, t, v, ⟨i, t', k, d⟩⟩ := r
      obtain rfl : hd = true := hh
      unfold recAgg
      dsimp only at *
      have c0 := hc.c0
      have c1 := hc.c1
      have c2 := hc.c2
      have c3 := hc.c3
      have c4 := hc.c4
      have c5 := hc.c5
      have c6 := hc.c6
      go_enter Try.func50, Try.ntmps50
      go_wp2_with fail
      refine (wal_may ⟨true, t, v, ⟨i, t', k, d⟩⟩ _).mono ?_
      rintro e w1 ⟨rfl, hb1⟩
      rw [HM.out]
      have hbw := hb.trans (hb1.mono hb.size)
      have hc1 := hc.below hb1
      clear hb hb1 hc c0 c1 c2 c3 c4 c5 c6
      have c0 := hc1.c0
      have c1 := hc1.c1
      have c2 := hc1.c2
      dsimp only at c0 c1 c2
      have hblt := hc1.lt
      go_upto_region 4 with fail
      go_cut [2] (fun x wx => OwnB wx w.heap.size 5 x (sealP 1 (putN t ++ putN v)) ∧ Below w.heap.size w wx)
      case first =>
        have hN := hbw.size
        generalize hNN : w.heap.size = N at *
        have hp1 := putN_len t
        have hp2 := putN_len v
        refine wp_region_ch (by rfl) (by kernel_rfl) (fun k => match k with | 3 => some (BytesAt w1.heap.size (putN t)) | 7 => some (BytesAt w1.heap.size (putN t ++ putN v)) | 8 => some (BytesAt w1.heap.size (sealP 1 (putN t ++ putN v))) | _ => none) ⟨[3, 7, 8], [7], [(3, 7)]⟩ (PlanOk.of [3, 7, 8] (by kernel_rfl) (fun k φ hk => ?_) (fun k φ hk v w1 w2 h1 h2 => ?_)) (fun vals => ?_)
        · split at hk
          all_goals first | (cases hk; done) | simp
        · split at hk
          all_goals first | (cases hk; exact OwnB.below h1 h2) | cases hk
        iterate 2 ((with_reducible refine sc_pure ?_ (fun K hK => ?_)); (· rfl); go_simp; with_reducible refine hK _ ?_; clear hK K)
        refine sc_at (.int .i64 t) rfl rfl (fun wz hz' hH => ?_) (fun K hK => ?_)
        · have g := (hz'.cell (p := ⟨N, 1, none⟩) hblt).trans c1
          go_simp
        go_simp; refine hK _ ?_; clear hK K
        refine sc_call _ rfl rfl rfl (fun wz hz' hH => ?_) (fun K hK => ?_)
        · go_simp
          go_at_call 36
          refine (num_put _ [] t w1.heap.size _ (by omega) (by omega) (by simp) hz'.size (OwnB.nil _ _ _)).mono ?_
          rintro e w2 ⟨v2, rfl, ho, hg, -⟩
          exact ⟨v2, rfl, ho, below_of_grown hg⟩
        go_simp; refine hK _ ?_; clear hK K
        iterate 2 ((with_reducible refine sc_pure ?_ (fun K hK => ?_)); (· rfl); go_simp; with_reducible refine hK _ ?_; clear hK K)
        refine sc_at (.int .i64 v) rfl rfl (fun wz hz' hH => ?_) (fun K hK => ?_)
        · have g := (hz'.cell (p := ⟨N, 2, none⟩) hblt).trans c2
          go_simp
        go_simp; refine hK _ ?_; clear hK K
        refine sc_grow _ rfl rfl rfl (fun wz hz' hH => ?_) (fun K hK => ?_)
        · have e3 := hH _ (List.Mem.head _) rfl
          unfold BytesAt at e3
          go_simp
          go_at_call 36
          refine (num_put _ (putN t) v w1.heap.size _ (by omega) (by omega) (by omega) hz'.size e3).mono ?_
          rintro e w2 ⟨v2, rfl, ho, hg, -⟩
          refine ⟨v2, rfl, ho, (Below.refl _ _).grown hg hz'.size (fun k hk => (e3.lt k hk).1), fun hd => by cases hd⟩
        go_simp; refine hK _ ?_; clear hK K
        refine sc_call _ rfl rfl rfl (fun wz hz' hH => ?_) (fun K hK => ?_)
        · have e7 := hH _ (List.Mem.head _) rfl
          unfold BytesAt at e7
          go_simp
          go_at_call 35
          refine (frame_seal 1 _ (putN t ++ putN v) _ (by omega) (by omega) e7.bytes).mono ?_
          rintro e w2 ⟨v2, rfl, ho, hb2⟩
          exact ⟨v2, rfl, ho.rebase hz'.size, hb2⟩
        go_simp; refine hK _ ?_; clear hK K
        ((with_reducible refine sc_pure ?_ (fun K hK => ?_)); (· rfl); go_simp; with_reducible refine hK _ ?_; clear hK K)
        refine sc_done (fun wz hz hH => ?_)
        have e8 := hH _ (List.Mem.head _) rfl
        unfold BytesAt at e8
        go_wp2_with fail
        go_meet
        exact ⟨e8.rebase hN, hbw.trans (hz.mono hN)⟩
      case rest =>
        obtain ⟨ho, hbz⟩ := hcut
        go_wp2_with fail
        go_ret
        exact ⟨_, rfl, by rw [HE.out]; exact ho, hbz⟩
    · have hh : r.hd = false := by simpa using hh
      obtain ⟨-, -, k0, k1, k2, k3, k4, k5, k6⟩ := (mayR_en hh).1 hm
      have hB : bodyR r = putN r.e.i ++ putN r.e.t ++ putN r.e.k ++ putT r.e.d.data.toList := by unfold bodyR; rw [if_neg (by rw [hh]; decide)]
      rw [if_neg (by rw [hh]; decide), hB] at hE
      have HE := Lib.hid hE
      clear hm hE hB hbody
      obtain ⟨hd, t, v, ⟨i, t', k, d⟩⟩ := r
      obtain rfl : hd = false := hh
      unfold recAgg
      dsimp only at *
      have c0 := hc.c0
      have c1 := hc.c1
      have c2 := hc.c2
      have c3 := hc.c3
      have c4 := hc.c4
      have c5 := hc.c5
      have c6 := hc.c6
      go_enter Try.func50, Try.ntmps50
      go_wp2_with fail
      refine (wal_may ⟨false, t, v, ⟨i, t', k, d⟩⟩ _).mono ?_
      rintro e w1 ⟨rfl, hb1⟩
      rw [HM.out]
      have hbw := hb.trans (hb1.mono hb.size)
      have hc1 := hc.below hb1
      clear hb hb1 hc c0 c1 c2 c3 c4 c5 c6
      have c0 := hc1.c0
      dsimp only at c0
      have hblt := hc1.lt
      have hp1 := putN_len i
      have hp2 := putN_len t'
      have hp3 := putN_len k
      go_upto_region 5 with fail
      go_cut [3] (fun x wx => OwnB wx w1.heap.size 5 x (putN i ++ putN t' ++ putN k) ∧ Below w1.heap.size w1 wx)
      case first =>
        have c3 := hc1.c3
        have c4 := hc1.c4
        have c5 := hc1.c5
        dsimp only at c3 c4 c5
        generalize hNN : w.heap.size = N at *
        refine wp_region_ch (by rfl) (by kernel_rfl) (fun k' => match k' with | 3 => some (BytesAt w1.heap.size (putN i)) | 7 => some (BytesAt w1.heap.size (putN i ++ putN t')) | 11 => some (BytesAt w1.heap.size (putN i ++ putN t' ++ putN k)) | _ => none) ⟨[3, 7, 11], [7, 11], [(3, 7), (7, 11)]⟩ (PlanOk.of [3, 7, 11] (by kernel_rfl) (fun k φ hk => ?_) (fun k φ hk v w1 w2 h1 h2 => ?_)) (fun vals => ?_)
        · split at hk
          all_goals first | (cases hk; done) | simp
        · split at hk
          all_goals first | (cases hk; exact OwnB.below h1 h2) | cases hk
        iterate 2 ((with_reducible refine sc_pure ?_ (fun K hK => ?_)); (· rfl); go_simp; with_reducible refine hK _ ?_; clear hK K)
        refine sc_at (.int .i64 i) rfl rfl (fun wz hz' hH => ?_) (fun K hK => ?_)
        · have g := (hz'.cell (p := ⟨N, 3, none⟩) hblt).trans c3
          go_simp
        go_simp; refine hK _ ?_; clear hK K
        refine sc_call _ rfl rfl rfl (fun wz hz' hH => ?_) (fun K hK => ?_)
        · go_simp
          go_at_call 36
          refine (num_put _ [] i w1.heap.size _ (by omega) (by omega) (by simp) hz'.size (OwnB.nil _ _ _)).mono ?_
          rintro e w2 ⟨v2, rfl, ho, hg, -⟩
          exact ⟨v2, rfl, ho, below_of_grown hg⟩
        go_simp; refine hK _ ?_; clear hK K
        iterate 2 ((with_reducible refine sc_pure ?_ (fun K hK => ?_)); (· rfl); go_simp; with_reducible refine hK _ ?_; clear hK K)
        refine sc_at (.int .i64 t') rfl rfl (fun wz hz' hH => ?_) (fun K hK => ?_)
        · have g := (hz'.cell (p := ⟨N, 4, none⟩) hblt).trans c4
          go_simp
        go_simp; refine hK _ ?_; clear hK K
        refine sc_grow _ rfl rfl rfl (fun wz hz' hH => ?_) (fun K hK => ?_)
        · have e3 := hH _ (List.Mem.head _) rfl
          unfold BytesAt at e3
          go_simp
          go_at_call 36
          refine (num_put _ (putN i) t' w1.heap.size _ (by omega) (by omega) (by omega) hz'.size e3).mono ?_
          rintro e w2 ⟨v2, rfl, ho, hg, -⟩
          exact ⟨v2, rfl, ho, (Below.refl _ _).grown hg hz'.size (fun k hk => (e3.lt k hk).1), fun hd => by cases hd⟩
        go_simp; refine hK _ ?_; clear hK K
        iterate 2 ((with_reducible refine sc_pure ?_ (fun K hK => ?_)); (· rfl); go_simp; with_reducible refine hK _ ?_; clear hK K)
        refine sc_at (.int .i64 k) rfl rfl (fun wz hz' hH => ?_) (fun K hK => ?_)
        · have g := (hz'.cell (p := ⟨N, 5, none⟩) hblt).trans c5
          go_simp
        go_simp; refine hK _ ?_; clear hK K
        refine sc_grow _ rfl rfl rfl (fun wz hz' hH => ?_) (fun K hK => ?_)
        · have e3 := hH _ (List.Mem.head _) rfl
          unfold BytesAt at e3
          go_simp
          go_at_call 36
          refine (num_put _ (putN i ++ putN t') k w1.heap.size _ (by omega) (by omega) (by rw [List.length_append]; omega) hz'.size e3).mono ?_
          rintro e w2 ⟨v2, rfl, ho, hg, -⟩
          exact ⟨v2, rfl, by unfold BytesAt; rw [← List.append_assoc]; exact ho, (Below.refl _ _).grown hg hz'.size (fun k hk => (e3.lt k hk).1), fun hd => (by cases hd), fun hd => (by cases hd)⟩
        go_simp; refine hK _ ?_; clear hK K
        ((with_reducible refine sc_pure ?_ (fun K hK => ?_)); (· rfl); go_simp; with_reducible refine hK _ ?_; clear hK K)
        refine sc_done (fun wz hz hH => ?_)
        have e8 := hH _ (List.Mem.head _) rfl
        unfold BytesAt at e8
        go_wp2_with fail
        go_meet
        exact ⟨e8, hz⟩
      case rest =>
        obtain ⟨ho, hbz⟩ := hcut
        have hc2 := hc1.below hbz
        have c6 := hc2.c6
        dsimp only at c6
        have hbzz := hbz.size
        clear hc1 hc2 c0
        have hl1 : (putN i ++ putN t' ++ putN k).length ≤ 30 := by rw [List.length_append, List.length_append]; omega
        obtain ⟨A, hA⟩ : ∃ A, A = putN i ++ putN t' ++ putN k := ⟨_, rfl⟩
        rw [← hA] at ho hl1 HE
        go_wp2_with fail
        refine (num_putText _ A d w1.heap.size _ (by omega) hbzz ho).mono ?_
        rintro e w3 ⟨v3, rfl, ho3, hg3, -⟩
        have hb3 : Below w1.heap.size w1 w3 := hbz.grown hg3 hbzz (fun k hk => (ho.lt k hk).1)
        go_wp2_with fail
        refine (frame_seal 2 _ _ _ (by omega) (by omega) ho3.bytes).mono ?_
        rintro e w4 ⟨v4, rfl, ho4, hb4⟩
        have hb5 := hbw.trans ((hb3.trans (hb4.mono hb3.size)).mono hbw.size)
        go_wp2_with fail
        go_ret
        exact ⟨_, rfl, by rw [HE.out]; exact ho4.rebase (Nat.le_trans hbw.size hb3.size), hb5⟩
end Go.Proofs.Ytcogmohepcifiaa
