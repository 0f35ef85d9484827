/-
  No claim by itself: op.text with symbols is sound. | the law on drawn regions in which one call turns the world from one phase into another: before it one invariant holds, behind it another. | op.Decode of the one batch. | op.Decode of the one batch: the walk. | op.Decode with symbols is sound. | the document's own decoder of UTF-8, plain: it is the model's. | the document's own decoder of UTF-8. Condition: a text that is not empty. | the document's Runes: all runes of a text, and whether all of them stand there. Condition: a text of at most a million bytes. No condition.
-/
import Derived.Test.YtmddhlfjilkdfaaGreatDoorE8
import Derived.Test.YtmddhlfjilkdfaaGreatDoorE7
import Derived.Deep.CutBlock
import Derived.Lib.BufferMore
import Derived.Test.YtmddhlfjilkdfaaGreatDoorE1
import Derived.Lib.DecodeNEq
import Derived.Lib.TrimUEq
import Derived.Test.YtmddhlfjilkdfaaGreatDoorRows
import Derived.Test.YtmddhlfjilkdfaaGreatDoorE6
import Derived.WalkKit
import Derived.WalkMore
import Derived.Deep.DeepCutAuto
import Derived.Deep.Cut
import Derived.Lib.Hide
import Derived.Lib.Strings
namespace Go.Proofs.YtmddhlfjilkdfaaGreatDoor
set_option linter.unusedVariables false
set_option linter.unusedSimpArgs false
open Go.RowKit

section
variable {P : Program} {ρ : Q → Loc} {h : Hp} {w w' : World} {B : Nat}
theorem txt_upd (q : Q) (l : Loc) (hq : 0 < q.num) : txt (upd ρ q l) = txt ρ := by
  unfold txt
  rw [upd_lt ρ q l .e (by simpa [Q.num] using hq)]
theorem syOk_upd {i : Nat} (q : Q) (l : Loc) (hq : 0 < q.num) (h : SyOk ρ i) : SyOk (upd ρ q l) i := by
  unfold SyOk
  rw [txt_upd q l hq]
  exact h
/-- A new row of a text's bytes. -/
theorem Left.of_op (E : Emb P ρ h w B) {i : Nat} (h0 : 0 < h.nx.num) (hy : SyOk ρ i) (hb : Below w.heap.size w w') {el : Nat} {v' : Value} {l : List UInt8} (hl : l = (txt ρ i).data.toList) (ho : OwnB w' w.heap.size el v' l) (hne : l ≠ []) {k : AV → Hp → Bool}
    (hk : k (.y (.so h.nx i)) (.mk (h.t.set (.y (.op i)) h.nx) h.nx.succ) = true) : Left P ρ h w B k (.returned v') w' := by
  have hlen : l.length = (txt ρ i).size := by rw [hl]; simp
  obtain ⟨g, cap, rfl, hg1, hg2, hc⟩ := ho.shape hne
  have hcm : cap ≤ 9223372036854775807 := by
    rcases ho.2 with ⟨h1, _⟩ | ⟨g', cap', cur, h1, _, _, _, hcm, _⟩
    · cases h1
    · cases h1
      simpa [maxLen] using hcm
  have hlt := fun r (hr : h.t.get r ≠ .no) => E.blk_lt' (q := r) hr
  have hob : ∃ o, w'.heap[g]? = some o := ⟨_, Array.getElem?_eq_getElem hg2⟩
  have ht := txt_upd (ρ := ρ) h.nx { blk := g, base := 0, cap := cap } h0
  obtain ⟨a1, a2⟩ := E.lay (w' := w') h.t (fun _ => .inr rfl) (.y (.op i)) (by simp) { blk := g, base := 0, cap := cap } hb.size (Nat.le_trans E.base hg1)
    (fun r hr => hb.block _ (hlt r hr)) (fun r hr e => by have := hlt r hr; rw [e] at this; exact absurd this (by show ¬ g < _; omega)) (fun c hc _ => hb.block c hc) (.inr hg1) hb.os hb.tape hb.output
    (by intro _ _ _ hb; cases hb) (by intro _ hb; cases hb) (hop := fun j hj => by
      cases hj
      refine ⟨h0, ?_⟩
      unfold OpAt
      rw [ht]
      refine ⟨hob, fun j hj => ?_⟩
      have hjl : j < l.length := by omega
      have := ho.cellAt j hjl
      show World.cell? w' ⟨g, 0 + j, none⟩ = _
      rw [Nat.zero_add, this]
      subst hl
      rfl)
  refine ⟨_, _, _, a1, a2, ?_, hk⟩
  have hq : h.nx.num < h.nx.succ.num := by rw [Q.num_succ]; omega
  have := Rel.so (ρ := upd ρ h.nx { blk := g, base := 0, cap := cap }) (N := h.nx.succ.num) h.nx i cap hq (by omega) (syOk_upd _ _ h0 hy) (by rw [ht]; omega) hcm
  rw [upd_same, ht, ← hlen] at this
  exact this
end
theorem isBat_spec {x : AV} {h : Hp} (hb : isBat x h = true) : ∃ q o cp ty m v, x = .a [.i .i64 9223372036854775809, .i .i64 9223372036854775809, .sl q o 1 cp] ∧ h.t.get q = .bk ty m v ∧ o + 9 ≤ m ∧ v.range 9 o = opCs := by
  obtain ⟨l, rfl, h1⟩ := AV.on_a_spec (show x.on_a _ = true from hb)
  match l, h1 with
  | [], h1 => cases h1
  | [_], h1 => cases h1
  | [_, _], h1 => cases h1
  | _ :: _ :: _ :: _ :: _, h1 => cases h1
  | [a, b, c], h1 =>
    have h1 : ifT (avEq a (.i .i64 9223372036854775809)) (ifT (avEq b (.i .i64 9223372036854775809)) (c.on_sl fun q o n _ => ifT (Nat.beq n 1) ((HT.getR q h.t).on fun _ m v => ifT (Nat.ble (Nat.add o 9) m) (avEqL (v.range 9 o) opCs)))) = true := h1
    obtain ⟨e1, h2⟩ := ifT_spec h1
    obtain ⟨e2, h3⟩ := ifT_spec h2
    obtain ⟨q, o, n, cp, rfl, h4⟩ := AV.on_sl_spec h3
    obtain ⟨e3, h5⟩ := ifT_eq h4
    subst e3
    rw [HT.getR_eq] at h5
    obtain ⟨ty, m, v, hg, h6⟩ := OB.on_spec h5
    obtain ⟨e4, h7⟩ := ifT_le h6
    exact ⟨q, o, cp, ty, m, v, by rw [avEq_eq e1, avEq_eq e2], hg, e4, avEqL_eq h7⟩
section
variable {P : Program} {ρ : Q → Loc} {h : Hp} {w w' : World} {B N : Nat}
theorem rel_i {k : IntKind} {n : Nat} {x : Value} (h : Rel ρ N (.i k n) x) : x = .int k ((n : Int) - 9223372036854775808) := by cases h; rfl
theorem rel_os {i : Nat} {x : Value} (h : Rel ρ N (.y (.os i)) x) : x = .string (txt ρ i) ∧ SyOk ρ i ∧ 0 < N := by
  cases h with
  | os _ h0 hb => exact ⟨rfl, hb, h0⟩
theorem rel_s0 {x : Value} (h : Rel ρ N (.s 0 []) x) : x = .string { data := #[] } := by
  generalize hz : AV.s 0 [] = a at h
  cases h with
  | s s =>
    injection hz with h1 h2
    have : s = { data := #[] } := by
      apply ByteArray.ext
      apply Array.ext'
      have : s.data.toList.length = 0 := by simpa using h1.symm
      rw [List.eq_nil_of_length_eq_zero this]
    rw [this]
  | _ => cases hz
theorem rel_sl {q : Q} {o n : Nat} {cp : AC} {x : Value} (h : Rel ρ N (.sl q o n cp) x) : ∃ cap, x = .slice (some ⟨(ρ q).blk, (ρ q).base + o, none⟩) n cap := by
  cases h with
  | slk => exact ⟨_, rfl⟩
  | slu => exact ⟨_, rfl⟩
/-- The one batch, as a value: its one operation's cells, the texts in them. -/
theorem bat_open (E : Emb P ρ h w B) {x : AV} {u : Value} (hx : Rel ρ h.nx.num x u) (hb : isBat x h = true) :
    ∃ X o cap, u = .agg #[.int .i64 1, .int .i64 1, .slice (some ⟨X, o, none⟩) 1 cap] ∧ X < w.heap.size ∧ (∀ j (h : j < (opV (txt ρ 0) (txt ρ 1)).length), w.cell? ⟨X, o + j, none⟩ = some (opV (txt ρ 0) (txt ρ 1))[j]) ∧ SyOk ρ 0 ∧ SyOk ρ 1 ∧ 0 < h.nx.num := by
  obtain ⟨q, o, cp, ty, m, v, rfl, hg, hm, hr⟩ := isBat_spec hb
  cases hx with
  | a _ vs hl h1 =>
    cases hl with
    | cons _ v0 _ _ r0 t0 =>
      cases t0 with
      | cons _ v1 _ _ r1 t1 =>
        cases t1 with
        | cons _ v2 _ _ r2 t2 =>
          cases t2
          obtain rfl := rel_i r0
          obtain rfl := rel_i r1
          obtain ⟨cap, rfl⟩ := rel_sl r2
          have hlt := E.blk_lt' (q := q) (by rw [Hp.live, hg]; simp)
          have hc : ∀ j, j < 9 → ∃ x, w.cell? ⟨(ρ q).blk, (ρ q).base + o + j, none⟩ = some x ∧ Rel ρ h.nx.num (opCs.getD j .d) x := fun j hj => by
            obtain ⟨x, c1, c2, _⟩ := (E.row q ty m v hg).get (o + j) (by omega)
            have hgj := V.range_get? v 9 o j hj
            rw [hr] at hgj
            refine ⟨x, by rw [Nat.add_assoc]; exact c1, ?_⟩
            rw [List.getD_eq_getElem?_getD, hgj]
            exact c2
          obtain ⟨x0, c0, g0⟩ := hc 0 (by omega); obtain rfl := rel_i g0
          obtain ⟨x1, c1, g1⟩ := hc 1 (by omega); obtain ⟨rfl, k0, kn⟩ := rel_os g1
          obtain ⟨x2, c2, g2⟩ := hc 2 (by omega); obtain rfl := rel_i g2
          obtain ⟨x3, c3, g3⟩ := hc 3 (by omega); obtain rfl := rel_i g3
          obtain ⟨x4, c4, g4⟩ := hc 4 (by omega); obtain ⟨rfl, k1, -⟩ := rel_os g4
          obtain ⟨x5, c5, g5⟩ := hc 5 (by omega); obtain rfl := rel_i g5
          obtain ⟨x6, c6, g6⟩ := hc 6 (by omega); obtain rfl := rel_i g6
          obtain ⟨x7, c7, g7⟩ := hc 7 (by omega); obtain rfl := rel_s0 g7
          obtain ⟨x8, c8, g8⟩ := hc 8 (by omega); obtain rfl := rel_i g8
          refine ⟨_, _, cap, rfl, hlt, fun j hj => ?_, k0, k1, kn⟩
          have hj9 : j < 9 := by simpa [opV] using hj
          match j, hj9 with
          | 0, _ => exact c0
          | 1, _ => exact c1
          | 2, _ => exact c2
          | 3, _ => exact c3
          | 4, _ => exact c4
          | 5, _ => exact c5
          | 6, _ => exact c6
          | 7, _ => exact c7
          | 8, _ => exact c8
theorem lenB_len (n : Nat) : 1 ≤ (lenB n).length ∧ (lenB n).length ≤ 2 := by
  unfold lenB
  split <;> simp
/-- The batch's bytes: so many. -/
theorem syOk2 (h0 : SyOk ρ 0) (h1 : SyOk ρ 1) : SyOk ρ 2 := by
  obtain ⟨a0, a1, hy⟩ := h0
  obtain ⟨b0, b1, -⟩ := h1
  have hs : (txt ρ 2).size = (encD (txt ρ 0).data.toList (txt ρ 1).data.toList).length := by rw [← hy.enc]; simp
  have l0 := lenB_len (txt ρ 0).data.toList.length
  have l1 := lenB_len (txt ρ 1).data.toList.length
  have e0 : (txt ρ 0).data.toList.length = (txt ρ 0).size := by simp
  have e1 : (txt ρ 1).data.toList.length = (txt ρ 1).size := by simp
  have a0 : 1 ≤ (txt ρ 0).size := a0
  have a1 : (txt ρ 0).size ≤ 100 := a1
  have b1 : (txt ρ 1).size ≤ 200 := b1
  rw [e0] at l0
  rw [e1] at l1
  have hl : (txt ρ 2).size = 4 + ((lenB (txt ρ 0).size).length + (txt ρ 0).size) + (1 + ((lenB (txt ρ 1).size).length + (txt ρ 1).size)) := by
    rw [hs]
    unfold encD
    simp only [List.length_append, List.length_cons, List.length_nil, e0, e1]
  refine ⟨?_, ?_, hy⟩
  · show 8 ≤ _
    omega
  · show _ ≤ 309
    omega
end
theorem opTextF_sound {o : FS} (ho : SoundF Tryz.prog 100 o) : SoundF Tryz.prog 100 (opTextF o) := by
  refine ⟨ho.enter, fun args h => ?_, fun ρ h w B args vals k E ha hk => ?_⟩
  · match args with
    | [] => exact Det2.fail
    | _ :: _ :: _ => exact Det2.fail
    | [x] =>
      show Det2 (fun k : AV → Hp → Bool => Bool.casesOn (motive := fun _ => Bool) (isBat x h) (o [x] h k) (HT.setK (.y (.op 2)) h.nx h.t fun t' => h.nx.succK fun n' => k (.y (.so h.nx 2)) (.mk t' n')))
      cases isBat x h with
      | false => exact ho.det [x] h
      | true =>
        have e : (fun k : AV → Hp → Bool => HT.setK (.y (.op 2)) h.nx h.t fun t' => h.nx.succK fun n' => k (.y (.so h.nx 2)) (.mk t' n')) = fun k => k (.y (.so h.nx 2)) (.mk (h.t.set (.y (.op 2)) h.nx) h.nx.succ) := by
          funext k
          rw [HT.setK_eq, Q.succK_eq]
        show Det2 (fun k : AV → Hp → Bool => HT.setK (.y (.op 2)) h.nx h.t fun t' => h.nx.succK fun n' => k (.y (.so h.nx 2)) (.mk t' n'))
        rw [e]
        exact Det2.ret _ _
  · match args, ha, hk with
    | [], _, hk => cases hk
    | _ :: _ :: _, _, hk => cases hk
    | [x], ha, hk =>
      have hk : Bool.casesOn (motive := fun _ => Bool) (isBat x h) (o [x] h k) (HT.setK (.y (.op 2)) h.nx h.t fun t' => h.nx.succK fun n' => k (.y (.so h.nx 2)) (.mk t' n')) = true := hk
      cases hb : isBat x h with
      | false =>
        rw [hb] at hk
        exact ho.sound ρ h w B [x] vals k E ha hk
      | true =>
        rw [hb] at hk
        have hk : (HT.setK (.y (.op 2)) h.nx h.t fun t' => h.nx.succK fun n' => k (.y (.so h.nx 2)) (.mk t' n')) = true := hk
        rw [HT.setK_eq, Q.succK_eq] at hk
        cases ha with
        | cons _ u _ _ hx t =>
          cases t
          obtain ⟨X, of, cap, rfl, hX, hc, k0, k1, kn⟩ := bat_open E hx hb
          have b0 : (txt ρ 0).size ≤ 100 := k0.2.1
          have b1 : (txt ρ 1).size ≤ 200 := k1.2.1
          have hsy := syOk2 k0 k1
          have hne : 8 ≤ (txt ρ 2).size := hsy.1
          refine (op_text X of cap (txt ρ 0) (txt ρ 1) w (by omega) (by omega) hX hc).mono ?_
          rintro e w' ⟨v', rfl, hO, hbw⟩
          exact Left.of_op E kn hsy hbw k0.2.2.enc.symm hO (fun e => by
            have h9 := congrArg List.length e
            have h8 : (txt ρ 2).data.toList.length = (txt ρ 2).size := by simp
            rw [← k0.2.2.enc, h8, List.length_nil] at h9
            omega) hk
end Go.Proofs.YtmddhlfjilkdfaaGreatDoor
namespace Go.Proofs.YtmddhlfjilkdfaaGreatDoor
set_option linter.unusedVariables false
set_option linter.unusedSimpArgs false
open Go.RowKit

/-- The operation that turns the phase; what holds before it, and behind it. -/
structure Ph where
  g : Nat
  I0 : World → Prop
  I1 : World → Prop
def Ph.at (F : Ph) (k : Nat) (w : World) : Prop := if k = F.g then F.I0 w else F.I0 w ∨ F.I1 w
def Ph.to (F : Ph) (k : Nat) (w w' : World) : Prop := if k = F.g then F.I1 w' else (F.I0 w → F.I0 w') ∧ (F.I1 w → F.I1 w')
def Ph.ph (F : Ph) (b : Bool) (w : World) : Prop := if b = true then F.I1 w else F.I0 w
section
variable {P : Program} (ops : Array Oper) (L : PlanK) (Φ : Nat → Option (Value → World → Prop)) (w0 : Ph) (Q : Exit → Act → World → Prop) (vals : Nat → Value)

/-- The walk in the text's order. 'H': what is known of the calls' results so far. -/
def wpSCP (P : Program) : List Oper → Nat → Act → List (Nat × (Value → World → Prop)) → Prop
  | [], _, a, H => ∀ w, w0.I1 w → (∀ p ∈ H, L.killOf p.1 = none → p.2 (vals p.1) w) → Q .normal a w
  | o :: rest, k, a, H =>
    if Region.wanted o (yielded ops a.tmps) then
      match Φ k with
      | none => ∃ c, (∀ w, w0.at k w → (∀ p ∈ H, depAK ops L k p.1 = true → p.2 (vals p.1) w) → (execOp a.eval o).run P w = .ok (.value c) w) ∧ wpSCP P rest (k + 1) (a.put o.dst c) H
      | some φ => (∀ w, w0.at k w → (∀ p ∈ H, depAK ops L k p.1 = true → p.2 (vals p.1) w) → yieldsUpon P w (fun v w' => φ v w' ∧ w0.to k w w' ∧ (L.free k = true → Below w.heap.size w w') ∧ (L.free k = false → ∀ p ∈ H, L.dead k p.1 = false → p.2 (vals p.1) w → p.2 (vals p.1) w')) ((execOp a.eval o).run P w)) ∧
          wpSCP P rest (k + 1) (a.put o.dst (vals k)) ((k, φ) :: H)
    else wpSCP P rest (k + 1) (a.put o.dst undef) H
end

section
variable {P : Program} {ops : Array Oper} {L : PlanK} {Φ : Nat → Option (Value → World → Prop)} {w0 : Ph} {Q : Exit → Act → World → Prop} {a0 : Act}

/-- The values of one walk in the text's order. -/
structure SeqCP (P : Program) (ops : Array Oper) (L : PlanK) (Φ : Nat → Option (Value → World → Prop)) (w0 : Ph) (Q : Exit → Act → World → Prop) (a0 : Act) (vals cs : Nat → Value) : Prop where
  pure : ∀ k o, ops[k]? = some o → wtd ops a0 cs k = true → Φ k = none → ∀ w, w0.at k w → hypCK ops L Φ a0 cs k w → (execOp (actTo ops a0 cs k).eval o).run P w = .ok (.value (cs k)) w
  pred : ∀ k o φ, ops[k]? = some o → wtd ops a0 cs k = true → Φ k = some φ → cs k = vals k ∧ ∀ w, w0.at k w → hypCK ops L Φ a0 cs k w →
    yieldsUpon P w (fun v w' => φ v w' ∧ w0.to k w w' ∧ (L.free k = true → Below w.heap.size w w') ∧ (L.free k = false → ∀ j ψ, j < k → wtd ops a0 cs j = true → Φ j = some ψ → L.dead k j = false → ψ (cs j) w → ψ (cs j) w')) ((execOp (actTo ops a0 cs k).eval o).run P w)
  skip : ∀ k o, ops[k]? = some o → wtd ops a0 cs k = false → cs k = undef
  done : ∀ w, w0.I1 w → (∀ j φ, j < ops.size → wtd ops a0 cs j = true → Φ j = some φ → L.killOf j = none → φ (cs j) w) → Q .normal (actTo ops a0 cs ops.size) w

/-- From the walk to its values. -/
theorem seqC_of_walkP {vals : Nat → Value} : ∀ (l : List Oper) (k : Nat) (cs0 : Nat → Value) (H : List (Nat × (Value → World → Prop))), (∀ j, l[j]? = ops[k + j]?) → k + l.length = ops.size →
    wpSCP ops L Φ w0 Q vals P l k (actTo ops a0 cs0 k) H →
    (∀ p, p ∈ H ↔ (p.1 < k ∧ wtd ops a0 cs0 p.1 = true ∧ Φ p.1 = some p.2)) →
    (∀ p ∈ H, cs0 p.1 = vals p.1) →
    ∃ cs, (∀ j, j < k → cs j = cs0 j) ∧
      (∀ j o, k ≤ j → ops[j]? = some o → wtd ops a0 cs j = true → Φ j = none → ∀ w, w0.at j w → hypCK ops L Φ a0 cs j w → (execOp (actTo ops a0 cs j).eval o).run P w = .ok (.value (cs j)) w) ∧
      (∀ j o φ, k ≤ j → ops[j]? = some o → wtd ops a0 cs j = true → Φ j = some φ → cs j = vals j ∧ ∀ w, w0.at j w → hypCK ops L Φ a0 cs j w →
        yieldsUpon P w (fun v w' => φ v w' ∧ w0.to j w w' ∧ (L.free j = true → Below w.heap.size w w') ∧ (L.free j = false → ∀ i ψ, i < j → wtd ops a0 cs i = true → Φ i = some ψ → L.dead j i = false → ψ (cs i) w → ψ (cs i) w')) ((execOp (actTo ops a0 cs j).eval o).run P w)) ∧
      (∀ j o, k ≤ j → ops[j]? = some o → wtd ops a0 cs j = false → cs j = undef) ∧
      (∀ w, w0.I1 w → (∀ j φ, j < ops.size → wtd ops a0 cs j = true → Φ j = some φ → L.killOf j = none → φ (cs j) w) → Q .normal (actTo ops a0 cs ops.size) w) := by
  intro l
  induction l with
  | nil =>
    intro k cs0 H hl hk h hH hv
    have hk' : k = ops.size := by simpa using hk
    subst hk'
    refine ⟨cs0, fun _ _ => rfl, ?_, ?_, ?_, ?_⟩
    · intro j o hj ho; exact absurd (Array.getElem?_eq_some_iff.1 ho).1 (by omega)
    · intro j o φ hj ho; exact absurd (Array.getElem?_eq_some_iff.1 ho).1 (by omega)
    · intro j o hj ho; exact absurd (Array.getElem?_eq_some_iff.1 ho).1 (by omega)
    · intro w hw hf
      refine h w hw fun p hp hkl => ?_
      obtain ⟨h1, h2, h3⟩ := (hH p).1 hp
      rw [← hv p hp]
      exact hf p.1 p.2 h1 h2 h3 hkl
  | cons o rest ih =>
    intro k cs0 H hl hk h hH hv
    have ho : ops[k]? = some o := by have := hl 0; simpa using this.symm
    have hl' : ∀ j, rest[j]? = ops[k + 1 + j]? := fun j => by
      have := hl (j + 1)
      rw [List.getElem?_cons_succ] at this
      rw [this]
      congr 1
      omega
    have hk' : k + 1 + rest.length = ops.size := by simp at hk; omega
    have hdst : o.dst = dstOf ops k := by simp [dstOf, ho]
    -- the frame with one value more
    have put : ∀ c, (actTo ops a0 cs0 k).put o.dst c = actTo ops a0 (fun j => if j = k then c else cs0 j) (k + 1) := fun c => by
      show _ = (actTo ops a0 _ k).put _ (if k = k then c else cs0 k)
      rw [actTo_congr (cs' := cs0) k (fun j hj => if_neg (by omega)), hdst, if_pos rfl]
    have wold : ∀ c j, j ≤ k → wtd ops a0 (fun j => if j = k then c else cs0 j) j = wtd ops a0 cs0 j := fun c j hj =>
      wtd_congr j (fun i hi => if_neg (by omega))
    have wk : wtd ops a0 cs0 k = Region.wanted o (yielded ops (actTo ops a0 cs0 k).tmps) := by unfold wtd; rw [ho]
    -- what the rest gives, read at k as well
    have lift : ∀ (cs : Nat → Value) (c : Value), (∀ j, j < k + 1 → cs j = (fun j => if j = k then c else cs0 j) j) → (∀ j, j < k → cs j = cs0 j) ∧ cs k = c := fun cs c hc =>
      ⟨fun j hj => by rw [hc j (by omega)]; exact if_neg (by omega), by rw [hc k (by omega)]; exact if_pos rfl⟩
    simp only [wpSCP] at h
    by_cases hw : Region.wanted o (yielded ops (actTo ops a0 cs0 k).tmps) = true
    · rw [if_pos hw] at h
      cases hφ : Φ k with
      | none =>
        rw [hφ] at h
        obtain ⟨c, hc, h⟩ := h
        rw [put c] at h
        obtain ⟨cs, e0, e1, e2, e3, e4⟩ := ih (k + 1) _ H hl' hk' h (fun p => by
          rw [hH p]
          constructor
          · rintro ⟨h1, h2, h3⟩; exact ⟨by omega, by rw [wold c p.1 (by omega)]; exact h2, h3⟩
          · rintro ⟨h1, h2, h3⟩
            have hne : p.1 ≠ k := by intro e; rw [e, hφ] at h3; cases h3
            exact ⟨by omega, by rw [← wold c p.1 (by omega)]; exact h2, h3⟩) (fun p hp => by
          have := ((hH p).1 hp).1
          rw [if_neg (by omega)]
          exact hv p hp)
        obtain ⟨f0, fk⟩ := lift cs c e0
        refine ⟨cs, f0, ?_, ?_, ?_, e4⟩
        · intro j o' hj ho' hwj hn w hwB hyp
          rcases Nat.eq_or_lt_of_le hj with rfl | hlt
          · obtain rfl : o = o' := by rw [ho] at ho'; exact Option.some.inj ho'
            rw [actTo_congr (cs' := cs0) k f0, fk]
            refine hc w hwB fun p hp hd => ?_
            obtain ⟨h1, h2, h3⟩ := (hH p).1 hp
            have := hyp p.1 p.2 h1 (by rw [wtd_congr p.1 (fun i hi => f0 i (by omega))]; exact h2) h3 hd
            rw [f0 p.1 h1, hv p hp] at this
            exact this
          · exact e1 j o' hlt ho' hwj hn w hwB hyp
        · intro j o' φ hj ho' hwj hn
          rcases Nat.eq_or_lt_of_le hj with rfl | hlt
          · rw [hφ] at hn; cases hn
          · exact e2 j o' φ hlt ho' hwj hn
        · intro j o' hj ho' hwj
          rcases Nat.eq_or_lt_of_le hj with rfl | hlt
          · rw [wtd_congr k f0, wk, hw] at hwj; cases hwj
          · exact e3 j o' hlt ho' hwj
      | some φ =>
        rw [hφ] at h
        obtain ⟨hc, h⟩ := h
        rw [put (vals k)] at h
        obtain ⟨cs, e0, e1, e2, e3, e4⟩ := ih (k + 1) _ ((k, φ) :: H) hl' hk' h (fun p => by
          rw [List.mem_cons, hH p]
          constructor
          · rintro (rfl | ⟨h1, h2, h3⟩)
            · exact ⟨by simp, by rw [wold _ k (Nat.le_refl _), wk]; exact hw, hφ⟩
            · exact ⟨by omega, by rw [wold _ p.1 (by omega)]; exact h2, h3⟩
          · rintro ⟨h1, h2, h3⟩
            by_cases hpk : p.1 = k
            · left
              rw [hpk, hφ] at h3
              exact Prod.ext hpk (Option.some.inj h3).symm
            · exact .inr ⟨by omega, by rw [← wold (vals k) p.1 (by omega)]; exact h2, h3⟩) (fun p hp => by
          rcases List.mem_cons.1 hp with rfl | hp
          · exact if_pos rfl
          · have := ((hH p).1 hp).1
            rw [if_neg (by omega)]
            exact hv p hp)
        obtain ⟨f0, fk⟩ := lift cs (vals k) e0
        refine ⟨cs, f0, ?_, ?_, ?_, e4⟩
        · intro j o' hj ho' hwj hn w hwB hyp
          rcases Nat.eq_or_lt_of_le hj with rfl | hlt
          · rw [hφ] at hn; cases hn
          · exact e1 j o' hlt ho' hwj hn w hwB hyp
        · intro j o' φ' hj ho' hwj hn
          rcases Nat.eq_or_lt_of_le hj with rfl | hlt
          · obtain rfl : o = o' := by rw [ho] at ho'; exact Option.some.inj ho'
            obtain rfl : φ = φ' := by rw [hφ] at hn; exact Option.some.inj hn
            refine ⟨fk, fun w hwB hyp => ?_⟩
            rw [actTo_congr (cs' := cs0) k f0]
            refine yieldsUpon.monoK (fun v w' hy => ⟨hy.1, hy.2.1, hy.2.2.1, fun hfr i ψ hi hwi hfi hdd hψ => ?_⟩) (hc w hwB fun p hp hd => ?_)
            · have hmem : (i, ψ) ∈ H := (hH (i, ψ)).2 ⟨hi, by rw [← wtd_congr i (fun x hx => f0 x (by omega))]; exact hwi, hfi⟩
              rw [f0 i hi, hv (i, ψ) hmem] at hψ ⊢
              exact hy.2.2.2 hfr (i, ψ) hmem hdd hψ
            obtain ⟨h1, h2, h3⟩ := (hH p).1 hp
            have := hyp p.1 p.2 h1 (by rw [wtd_congr p.1 (fun i hi => f0 i (by omega))]; exact h2) h3 hd
            rw [f0 p.1 h1, hv p hp] at this
            exact this
          · exact e2 j o' φ' hlt ho' hwj hn
        · intro j o' hj ho' hwj
          rcases Nat.eq_or_lt_of_le hj with rfl | hlt
          · rw [wtd_congr k f0, wk, hw] at hwj; cases hwj
          · exact e3 j o' hlt ho' hwj
    · rw [if_neg hw] at h
      rw [put undef] at h
      obtain ⟨cs, e0, e1, e2, e3, e4⟩ := ih (k + 1) _ H hl' hk' h (fun p => by
        rw [hH p]
        constructor
        · rintro ⟨h1, h2, h3⟩; exact ⟨by omega, by rw [wold undef p.1 (by omega)]; exact h2, h3⟩
        · rintro ⟨h1, h2, h3⟩
          have hne : p.1 ≠ k := by
            intro e
            rw [e, wold undef k (Nat.le_refl _), wk] at h2
            exact hw h2
          exact ⟨by omega, by rw [← wold undef p.1 (by omega)]; exact h2, h3⟩) (fun p hp => by
        have := ((hH p).1 hp).1
        rw [if_neg (by omega)]
        exact hv p hp)
      obtain ⟨f0, fk⟩ := lift cs undef e0
      have hwf : wtd ops a0 cs k = false := by
        rw [wtd_congr k f0, wk]
        simpa using hw
      refine ⟨cs, f0, ?_, ?_, ?_, e4⟩
      · intro j o' hj ho' hwj hn w hwB hyp
        rcases Nat.eq_or_lt_of_le hj with rfl | hlt
        · rw [hwf] at hwj; cases hwj
        · exact e1 j o' hlt ho' hwj hn w hwB hyp
      · intro j o' φ' hj ho' hwj hn
        rcases Nat.eq_or_lt_of_le hj with rfl | hlt
        · rw [hwf] at hwj; cases hwj
        · exact e2 j o' φ' hlt ho' hwj hn
      · intro j o' hj ho' hwj
        rcases Nat.eq_or_lt_of_le hj with rfl | hlt
        · exact fk
        · exact e3 j o' hlt ho' hwj

theorem seqC_allP {vals : Nat → Value} (h : wpSCP ops L Φ w0 Q vals P ops.toList 0 a0 []) : ∃ cs, SeqCP P ops L Φ w0 Q a0 vals cs := by
  obtain ⟨cs, _, e1, e2, e3, e4⟩ := seqC_of_walkP (a0 := a0) ops.toList 0 (fun _ => undef) [] (fun j => by simp) (by simp) h (by simp) (by simp)
  exact ⟨cs, fun k o ho => e1 k o (Nat.zero_le _) ho, fun k o φ ho => e2 k o φ (Nat.zero_le _) ho, fun k o ho => e3 k o (Nat.zero_le _) ho, e4⟩

theorem seqC_agreeP (F : RForm ops) {vals vals' cs cs' : Nat → Value} (S : SeqCP P ops L Φ w0 Q a0 vals cs) (S' : SeqCP P ops L Φ w0 Q a0 vals' cs') {listed : Array Bool}
    (hcl : ∀ j k, listed.getD j false = true → depB ops j k = true → listed.getD k false = true)
    (hv : ∀ j, listed.getD j false = true → vals j = vals' j)
    (hφ : ∀ j, listed.getD j false = true → ∃ w, w0.at j w ∧ hypCK ops L Φ a0 cs j w) :
    ∀ n j, j < n → listed.getD j false = true → j < ops.size → cs j = cs' j ∧ wtd ops a0 cs j = wtd ops a0 cs' j := by
  intro n
  induction n with
  | zero => intro j hj; omega
  | succ n ih =>
    intro j hj hl hs
    have ho : ops[j]? = some ops[j] := Array.getElem?_eq_getElem hs
    have hdl : ∀ k, k < j → depB ops j k = true → cs k = cs' k := fun k hk hd => (ih k (by omega) (hcl j k hl hd) (by omega)).1
    obtain ⟨e1, e2⟩ := execOp_same F ho (look_two (a0 := a0) F ho hdl)
    have hwt : wtd ops a0 cs j = wtd ops a0 cs' j := by rw [wtd_eq ho, wtd_eq ho, e2]
    refine ⟨?_, hwt⟩
    obtain ⟨w, hw, hyp⟩ := hφ j hl
    have hyp' : hypCK ops L Φ a0 cs' j w := fun k φ hk hwk hf hd => by
      obtain ⟨g1, g2⟩ := ih k (by omega) (hcl j k hl (depA_depK hd)) (by omega)
      rw [← g1]
      exact hyp k φ hk (by rw [g2]; exact hwk) hf hd
    by_cases hwj : wtd ops a0 cs j = true
    · cases hf : Φ j with
      | none =>
        have r1 := S.pure j _ ho hwj hf w hw hyp
        have r2 := S'.pure j _ ho (hwt ▸ hwj) hf w hw hyp'
        rw [e1, r2] at r1
        injection r1 with r1 _
        injection r1 with r1
        exact r1.symm
      | some φ => rw [(S.pred j _ φ ho hwj hf).1, (S'.pred j _ φ ho (hwt ▸ hwj) hf).1, hv j hl]
    · have hwj : wtd ops a0 cs j = false := by simpa using hwj
      rw [S.skip j _ ho hwj, S'.skip j _ ho (hwt ▸ hwj)]

theorem anyC_of_seqP (F : RForm ops) (O : PlanOkK ops L Φ) (hg : w0.g < ops.size) (hgw : ∀ o, ops[w0.g]? = some o → o.guard = none) (hgf : Φ w0.g ≠ none) (H : ∀ vals, ∃ cs, SeqCP P ops L Φ w0 Q a0 vals cs) :
    ∀ (fuel : Nat) (un : List Nat) (listed : Array Bool) (a : Act) (w : World) (vals cs : Nat → Value), un.length = fuel → un.Nodup → listed.size = ops.size →
      (∀ j, j < ops.size → (listed.getD j false = false ↔ j ∈ un)) → (∀ j k, listed.getD j false = true → depB ops j k = true → listed.getD k false = true) →
      w0.ph (listed.getD w0.g false) w → SeqCP P ops L Φ w0 Q a0 vals cs → (∀ j φ, listed.getD j false = true → wtd ops a0 cs j = true → Φ j = some φ → (∀ k, L.killOf j = some k → listed.getD k false = false) → φ (cs j) w) → (∀ j, listed.getD j false = true → ∃ w, w0.at j w ∧ hypCK ops L Φ a0 cs j w) → actL ops a0 listed cs a →
      wpAny P .any ops Q fuel listed a w := by
  have final : ∀ (listed : Array Bool) (a : Act) (w : World) (vals cs : Nat → Value), (∀ j, j < ops.size → listed.getD j false = true) →
      w0.ph (listed.getD w0.g false) w → SeqCP P ops L Φ w0 Q a0 vals cs → (∀ j φ, listed.getD j false = true → wtd ops a0 cs j = true → Φ j = some φ → (∀ k, L.killOf j = some k → listed.getD k false = false) → φ (cs j) w) → actL ops a0 listed cs a → Q .normal a w := by
    intro listed a w vals cs hall hw S hφ hA
    have : a = actTo ops a0 cs ops.size := by
      obtain ⟨t, d⟩ := a
      have h1 : t = (actTo ops a0 cs ops.size).tmps := by
        apply Array.ext_getElem?
        intro s
        by_cases hx : ∃ j, dstOf ops j = some s
        · obtain ⟨j, hj⟩ := hx
          have hjs : j < ops.size := by
            unfold dstOf at hj
            cases ho : ops[j]? with
            | none => rw [ho] at hj; cases hj
            | some o => exact (Array.getElem?_eq_some_iff.1 ho).1
          rw [hA.at_ j s (hall j hjs) hj, actTo_at F cs _ j s hjs hj]
        · rw [hA.old s fun j _ e => hx ⟨j, e⟩, actTo_old cs _ s fun j _ e => hx ⟨j, e⟩]
      have h2 : d = (actTo ops a0 cs ops.size).defers := by rw [actTo_defers]; exact hA.defers
      rw [h1, h2]
    rw [this]
    exact S.done w (by have := hall _ hg; rw [this] at hw; exact hw) fun j φ hj hwj hf hkl => hφ j φ (hall j hj) hwj hf (fun k hk => by rw [hkl] at hk; cases hk)
  have noReady : ∀ listed : Array Bool, listed.size = ops.size → Region.ready .any ops listed = [] → ∀ j, j < ops.size → listed.getD j false = true := by
    intro listed hsz hr
    have : ∀ n j, j < n → j < ops.size → listed.getD j false = true := by
      intro n
      induction n with
      | zero => intro j hj; omega
      | succ n ih =>
        intro j hj hs
        by_cases hl : listed.getD j false = true
        · exact hl
        · exfalso
          have ho : ops[j]? = some ops[j] := Array.getElem?_eq_getElem hs
          have : j ∈ Region.ready .any ops listed := by
            rw [mem_ready]
            refine ⟨?_, _, ho, fun e he hb => ?_⟩
            · have hl' : listed.getD j false = false := by simpa using hl
              have hjl : j < listed.size := by omega
              simp [hjl] at hl' ⊢
              exact hl'
            · have := F.back j _ ho e he hb
              exact ih e.on (by omega) (by omega)
          rw [hr] at this
          cases this
    exact fun j hj => this (j + 1) j (Nat.lt_succ_self j) hj
  intro fuel
  induction fuel with
  | zero =>
    intro un listed a w vals cs hu hnd hsz hun hcl hw S hφ hK hA
    have hun0 : un = [] := List.eq_nil_of_length_eq_zero hu
    subst hun0
    have hall : ∀ j, j < ops.size → listed.getD j false = true := fun j hj => by
      cases hl : listed.getD j false with
      | true => rfl
      | false => exact absurd ((hun j hj).1 hl) (by simp)
    refine ⟨?_, final listed a w vals cs hall hw S hφ hA⟩
    apply List.eq_nil_iff_forall_not_mem.2
    intro j hj
    rw [mem_ready] at hj
    obtain ⟨h0, o, ho, _⟩ := hj
    have hjs := (Array.getElem?_eq_some_iff.1 ho).1
    have h1 := hall j hjs
    have hjl : j < listed.size := by omega
    simp [hjl] at h0 h1
    rw [h0] at h1
    cases h1
  | succ fuel ih =>
    intro un listed a w vals cs hu hnd hsz hun hcl hw S hφ hK hA
    refine ⟨fun hr => final listed a w vals cs (noReady listed hsz hr) hw S hφ hA, fun i hi => ?_⟩
    rw [mem_ready] at hi
    obtain ⟨h0, o, ho, hdeps⟩ := hi
    have his := (Array.getElem?_eq_some_iff.1 ho).1
    have hil : i < listed.size := by omega
    have hin : listed.getD i false = false := by simp [hil] at h0 ⊢; exact h0
    have hdep : ∀ j, depB ops i j = true → listed.getD j false = true := fun j hj => by
      obtain ⟨o', ho', e, he, hb, hon⟩ := depB_iff.1 hj
      obtain rfl : o = o' := by rw [ho] at ho'; exact Option.some.inj ho'
      rw [← hon]
      exact hdeps e he hb
    have hunb : ∀ j, depB ops j i = true → listed.getD j false = false := fun j hj => by
      cases hl : listed.getD j false with
      | false => rfl
      | true => have := hcl j i hl hj; rw [hin] at this; cases this
    obtain ⟨e1, e2⟩ := execOp_same F ho (look_seq F ho hA hdep hunb)
    have hset : ∀ j, (listed.setIfInBounds i true).getD j false = true ↔ j = i ∨ listed.getD j false = true := fun j => by
      by_cases hj : i = j
      · subst hj; simp [hil]
      · rw [getD_set_ne false hj]; simp [Ne.symm hj]
    have hiu : i ∈ un := (hun i his).1 hin
    have un1 : (un.erase i).length = fuel := by rw [List.length_erase_of_mem hiu, hu]; rfl
    have un2 : (un.erase i).Nodup := hnd.erase i
    have un3 : ∀ j, j < ops.size → ((listed.setIfInBounds i true).getD j false = false ↔ j ∈ un.erase i) := fun j hj => by
      rw [hnd.mem_erase_iff, ← hun j hj]
      by_cases hji : j = i
      · subst hji; simp [hil]
      · rw [getD_set_ne false (Ne.symm hji)]; simp [hji]
    have cl' : ∀ j k, (listed.setIfInBounds i true).getD j false = true → depB ops j k = true → (listed.setIfInBounds i true).getD k false = true := fun j k hj hd => by
      rw [hset] at hj ⊢
      rcases hj with rfl | hj
      · exact .inr (hdep k hd)
      · exact .inr (hcl j k hj hd)
    have next := fun (w' : World) (vals' cs' : Nat → Value) (v : Value) (hw' : w0.ph ((listed.setIfInBounds i true).getD w0.g false) w') (S' : SeqCP P ops L Φ w0 Q a0 vals' cs')
        (hφ' : ∀ j φ, (listed.setIfInBounds i true).getD j false = true → wtd ops a0 cs' j = true → Φ j = some φ → (∀ k, L.killOf j = some k → (listed.setIfInBounds i true).getD k false = false) → φ (cs' j) w')
        (hK' : ∀ j, (listed.setIfInBounds i true).getD j false = true → ∃ w, w0.at j w ∧ hypCK ops L Φ a0 cs' j w) (hA' : actL ops a0 (listed.setIfInBounds i true) cs' (a.put o.dst v)) =>
      ih (un.erase i) (listed.setIfInBounds i true) (a.put o.dst v) w' vals' cs' un1 un2 (by simpa using hsz) un3 cl' hw' S' hφ' hK' hA'
    have hyp : hypCK ops L Φ a0 cs i w := fun k φ hk hwk hf hd => hφ k φ (hdep k (depA_depK hd)) hwk hf fun x hx => by
      unfold depAK at hd
      rw [hx] at hd
      simp only [Bool.and_eq_true, Bool.or_eq_true, beq_iff_eq] at hd
      rcases hd.2 with rfl | hy
      · exact hin
      · exact hunb x hy
    have notl : ∀ k, (listed.setIfInBounds i true).getD k false = false → k ≠ i ∧ listed.getD k false = false := fun k hk => by
      refine ⟨fun e => ?_, ?_⟩
      · rw [(hset k).2 (.inl e)] at hk; cases hk
      · cases hl : listed.getD k false with
        | false => rfl
        | true => rw [(hset k).2 (.inr hl)] at hk; cases hk
    have hwi0 : w0.at i w := by
      unfold Ph.at
      by_cases hgi : i = w0.g
      · rw [if_pos hgi]
        rw [← hgi, hin] at hw
        exact hw
      · rw [if_neg hgi]
        unfold Ph.ph at hw
        split at hw
        · exact .inr hw
        · exact .inl hw
    have hsame : i ≠ w0.g → (listed.setIfInBounds i true).getD w0.g false = listed.getD w0.g false := fun hne => getD_set_ne false hne
    have hKi : ∀ j, (listed.setIfInBounds i true).getD j false = true → ∃ w, w0.at j w ∧ hypCK ops L Φ a0 cs j w := fun j hj => by
      rcases (hset j).1 hj with rfl | hj
      · exact ⟨w, hwi0, hyp⟩
      · exact hK j hj
    unfold wpOp
    rw [ho]
    simp only []
    rw [e2, ← wtd_eq ho]
    by_cases hwi : wtd ops a0 cs i = true
    · rw [if_pos hwi]
      left
      unfold Oper.wp
      rw [e1]
      cases hf : Φ i with
      | none =>
        rw [S.pure i o ho hwi hf w hwi0 hyp, Oper.upon_value]
        refine next w vals cs (cs i) (by rw [hsame (fun e => hgf (e ▸ hf))]; exact hw) S (fun j φ hj hwj hfj hkj => ?_) hKi (actL_put F hA i hil hin o ho _ rfl)
        rcases (hset j).1 hj with rfl | hj
        · rw [hf] at hfj; cases hfj
        · exact hφ j φ hj hwj hfj fun k hk => (notl k (hkj k hk)).2
      | some φ =>
        have Y := (S.pred i o φ ho hwi hf).2 w hwi0 hyp
        -- behind the operation: the value v in the world w'
        have after : ∀ (v : Value) (w' : World), φ v w' → w0.to i w w' → (L.free i = true → Below w.heap.size w w') → (L.free i = false → ∀ j ψ, j < i → wtd ops a0 cs j = true → Φ j = some ψ → L.dead i j = false → ψ (cs j) w → ψ (cs j) w') → wpAny P .any ops Q fuel (listed.setIfInBounds i true) (a.put o.dst v) w' := by
          intro v w' hv hb hfree hpr
          have hw' : w0.ph ((listed.setIfInBounds i true).getD w0.g false) w' := by
            unfold Ph.to at hb
            by_cases hgi : i = w0.g
            · rw [if_pos hgi] at hb
              rw [(hset w0.g).2 (.inl hgi.symm)]
              exact hb
            · rw [if_neg hgi] at hb
              rw [hsame hgi]
              unfold Ph.ph at hw ⊢
              split
              · rename_i hl
                rw [if_pos hl] at hw
                exact hb.2 hw
              · rename_i hl
                rw [if_neg hl] at hw
                exact hb.1 hw
          obtain ⟨cs', S'⟩ := H (fun j => if j = i then v else vals j)
          have hagree := seqC_agreeP F S S' hcl (fun j hj => by
            have : j ≠ i := by intro e; rw [e, hin] at hj; cases hj
            exact (if_neg this).symm) hK
          have agree : ∀ j, listed.getD j false = true → j < ops.size → cs j = cs' j ∧ wtd ops a0 cs j = wtd ops a0 cs' j := fun j hj hs => hagree (j + 1) j (Nat.lt_succ_self j) hj hs
          have inr : ∀ j, listed.getD j false = true → j < ops.size := fun j hj => by
            rcases Nat.lt_or_ge j ops.size with h | h
            · exact h
            · rw [← hsz] at h; simp [Array.getElem?_eq_none h] at hj
          have hdl : ∀ k, k < i → depB ops i k = true → cs k = cs' k := fun k hk hd => (agree k (hdep k hd) (by omega)).1
          obtain ⟨f1, f2⟩ := execOp_same F ho (look_two (a0 := a0) F ho hdl)
          have hwt : wtd ops a0 cs i = wtd ops a0 cs' i := by rw [wtd_eq ho, wtd_eq ho, f2]
          have hci : cs' i = v := by
            rw [(S'.pred i o φ ho (hwt ▸ hwi) hf).1]
            exact if_pos rfl
          have hyp2 : ∀ j, (listed.setIfInBounds i true).getD j false = true → ∀ u, hypCK ops L Φ a0 cs j u → hypCK ops L Φ a0 cs' j u := fun j hj u hu k χ hk hwk hfk hd => by
            have hlk : listed.getD k false = true := by
              rcases (hset j).1 hj with rfl | hj
              · exact hdep k (depA_depK hd)
              · exact hcl j k hj (depA_depK hd)
            obtain ⟨g1, g2⟩ := agree k hlk (inr k hlk)
            rw [← g1]
            exact hu k χ hk (by rw [g2]; exact hwk) hfk hd
          have hA2 : actL ops a0 listed cs' a := ⟨hA.defers, hA.size, fun j d hj hd => by rw [← (agree j hj (inr j hj)).1]; exact hA.at_ j d hj hd, hA.old⟩
          refine next w' _ cs' v hw' S' (fun j ψ hj hwj hfj hkj => ?_) (fun j hj => by obtain ⟨u, h1, h2⟩ := hKi j hj; exact ⟨u, h1, hyp2 j hj u h2⟩) (actL_put F hA2 i hil hin o ho v hci)
          rcases (hset j).1 hj with rfl | hj
          · rw [hf] at hfj
            obtain rfl := Option.some.inj hfj
            rw [hci]
            exact hv
          · obtain ⟨g1, g2⟩ := agree j hj (inr j hj)
            rw [← g1]
            rw [← g2] at hwj
            have hold := hφ j ψ hj hwj hfj fun k hk => (notl k (hkj k hk)).2
            by_cases hfr : L.free i = true
            · exact O.st j ψ hfj _ w w' hold (hfree hfr)
            · have hfr : L.free i = false := by simpa using hfr
              have hji : j < i := by
                rcases Nat.lt_trichotomy j i with h | h | h
                · exact h
                · rw [h, hin] at hj; cases hj
                · rcases O.un i j φ ψ hf hfj h with h1 | ⟨h1, h2⟩
                  · rw [hfr] at h1; cases h1
                  · have := chain_closedK hcl L.c O.ch i j h1 h2 h hj
                    rw [hin] at this; cases this
              refine hpr hfr j ψ hji hwj hfj ?_ hold
              unfold PlanK.dead
              cases hk : L.killOf j with
              | none => rfl
              | some k =>
                obtain ⟨n1, n2⟩ := notl k (hkj k hk)
                simp only [Bool.or_eq_false_iff, beq_eq_false_iff_ne, ne_eq, Bool.and_eq_false_iff, decide_eq_false_iff_not]
                refine ⟨n1, ?_⟩
                by_cases hki : k < i
                · by_cases hkc : L.c.contains k = true
                  · by_cases hic : L.c.contains i = true
                    · have := chain_beforeK hcl hdep L.c O.ch k (List.contains_iff_mem.1 hic) (List.contains_iff_mem.1 hkc) hki
                      rw [n2] at this; cases this
                    · exact .inr (by simpa using hic)
                  · exact .inl (.inr (by simpa using hkc))
                · exact .inl (.inl hki)
        generalize (execOp (actTo ops a0 cs i).eval o).run P w = r at Y
        cases r with
        | halt x w' => exact Y.elim
        | ok nx w' =>
          cases nx with
          | value v => rw [Oper.upon_value]; exact after v w' Y.1 Y.2.1 Y.2.2.1 Y.2.2.2
          | enter f args =>
            rw [Oper.upon_enter]
            refine Calls.mono Y fun e w'' he => ?_
            obtain ⟨v, rfl, h1, h2, h3, h4⟩ := he
            exact after v w'' h1 h2 h3 h4
          | _ => exact Y.elim
    · rw [if_neg hwi]
      have hwi : wtd ops a0 cs i = false := by simpa using hwi
      have hgi : i ≠ w0.g := fun e => by
        have := hgw o (e ▸ ho)
        rw [wtd_eq ho] at hwi
        unfold Region.wanted at hwi
        rw [this] at hwi
        cases hwi
      refine next w vals cs undef (by rw [hsame hgi]; exact hw) S (fun j φ hj hwj hfj hkj => ?_) hKi (actL_put F hA i hil hin o ho _ (S.skip i o ho hwi))
      rcases (hset j).1 hj with rfl | hj
      · rw [hwi] at hwj; cases hwj
      · exact hφ j φ hj hwj hfj fun k hk => (notl k (hkj k hk)).2

/-- THE LAW. -/
theorem wp_region_cp {id : Nat} {l : List Oper} {w : World} (n : Nat) (hm : P.follows .mixedOrders = true) (hok' : tailOk l n = true) (I : Ph) (hI : I.I0 { w with drawn := w.drawn + 1 }) (hg : I.g < n) (hgw : ((l.take n).toArray[I.g]?.bind (·.guard)) = none) (Φ : Nat → Option (Value → World → Prop))
    (L : PlanK) (O : PlanOkK (l.take n).toArray L Φ) (hgf : Φ I.g ≠ none) (h : ∀ vals, wpSCP (l.take n).toArray L Φ I (tailQ P l.toArray Q (l.drop n)) vals P (l.take n) 0 a0 []) : (Code.region id l.toArray true).wp P Q a0 w := by
  have hok2 := hok'
  unfold tailOk at hok2
  simp only [Bool.and_eq_true, decide_eq_true_eq] at hok2
  obtain ⟨⟨⟨⟨⟨hok, hn⟩, _⟩, _⟩, _⟩, _⟩ := hok2
  have F := rform_of_ok hok
  have hsz : (l.take n).toArray.size = n := by simp; omega
  have H : ∀ vals, ∃ cs, SeqCP P (l.take n).toArray L Φ I (tailQ P l.toArray Q (l.drop n)) a0 vals cs := fun vals => seqC_allP (by simpa using h vals)
  obtain ⟨cs, S⟩ := H (fun _ => undef)
  refine wp_region_any hm ?_
  have hrep : ∀ j, (Array.replicate n false).getD j false = false := fun j => by
    simp only [Array.getD_eq_getD_getElem?, Array.getElem?_replicate]
    split <;> rfl
  have hA : wpAny P .any (l.take n).toArray (tailQ P l.toArray Q (l.drop n)) (l.take n).toArray.size (Array.replicate n false) a0 { w with drawn := w.drawn + 1 } := by
    refine anyC_of_seqP F O (by rw [hsz]; exact hg) (fun o ho => by rw [ho] at hgw; exact hgw) hgf H (l.take n).toArray.size (List.range (l.take n).toArray.size) _ a0 _ _ cs (by simp) List.nodup_range (by simp; omega) (fun j hj => ?_) (fun j k hj => ?_) (by rw [hrep]; exact hI) S (fun j φ hj => ?_) (fun j hj => ?_) ⟨rfl, rfl, fun j d hj => ?_, fun s _ => rfl⟩
    · rw [hrep j]; simpa using hj
    · rw [hrep j] at hj; cases hj
    · rw [hrep j] at hj; cases hj
    · rw [hrep j] at hj; cases hj
    · rw [hrep j] at hj; cases hj
  rw [hsz] at hA
  have := any_tail hok' n (Array.replicate n false) a0 _ (by simp) (fun j oj _ _ hl => by rw [hrep j] at hl; cases hl) (by simp) hA
  have e1 : n + (l.length - n) = l.toArray.size := by simp; omega
  have e2 : Array.replicate n false ++ Array.replicate (l.length - n) false = Array.replicate l.toArray.size false := by
    apply Array.ext'
    simp
    omega
  rw [e1, e2] at this
  exact this
end

section
variable {P : Program} {ops : Array Oper} {L : PlanK} {Φ : Nat → Option (Value → World → Prop)} {w0 : Ph} {Q : Exit → Act → World → Prop} {vals : Nat → Value} {o : Oper} {rest : List Oper} {k : Nat} {a : Act} {H : List (Nat × (Value → World → Prop))}

/-- An operation that answers the same in every world. -/
theorem sc_pureP (hf : Φ k = none)
    (h : ∀ K : Act → Prop, (∀ a', wpSCP ops L Φ w0 Q vals P rest (k + 1) a' H → K a') →
      if Region.wanted o (yielded ops a.tmps) then ∃ v, (∀ w, okUpon w v ((execOp a.eval o).run P w)) ∧ K (a.put o.dst v) else K (a.put o.dst undef)) : wpSCP ops L Φ w0 Q vals P (o :: rest) k a H := by
  have h := h _ (fun _ h => h)
  simp only [wpSCP]
  by_cases hw : Region.wanted o (yielded ops a.tmps) = true
  · rw [if_pos hw] at h ⊢
    rw [hf]
    obtain ⟨v, h1, h2⟩ := h
    exact ⟨v, fun w _ _ => okUpon_eq (h1 w), h2⟩
  · rw [if_neg hw] at h ⊢
    exact h

/-- An operation whose value is told, and shown in the world it meets. -/
theorem sc_atP (v : Value) (hf : Φ k = none) (hw : Region.wanted o (yielded ops a.tmps) = true)
    (h1 : ∀ w, w0.at k w → (∀ p ∈ H, depAK ops L k p.1 = true → p.2 (vals p.1) w) → okUpon w v ((execOp a.eval o).run P w))
    (h : ∀ K : Act → Prop, (∀ a', wpSCP ops L Φ w0 Q vals P rest (k + 1) a' H → K a') → K (a.put o.dst v)) : wpSCP ops L Φ w0 Q vals P (o :: rest) k a H := by
  have h := h _ (fun _ h => h)
  simp only [wpSCP]
  rw [if_pos hw, hf]
  exact ⟨v, fun w hb hH => okUpon_eq (h1 w hb hH), h⟩

/-- A call, or what makes memory, and turns nothing that was there. -/
theorem sc_callP (hkg : k ≠ w0.g) (hI : ∀ w w', w0.I0 w → Below w.heap.size w w' → w0.I0 w') (hI' : ∀ w w', w0.I1 w → Below w.heap.size w w' → w0.I1 w') (φ : Value → World → Prop) (hf : Φ k = some φ) (hw : Region.wanted o (yielded ops a.tmps) = true) (hfr : L.free k = true)
    (h1 : ∀ w, w0.at k w → (∀ p ∈ H, depAK ops L k p.1 = true → p.2 (vals p.1) w) → yieldsUpon P w (fun v w' => φ v w' ∧ Below w.heap.size w w') ((execOp a.eval o).run P w))
    (h : ∀ K : Act → Prop, (∀ a', wpSCP ops L Φ w0 Q vals P rest (k + 1) a' ((k, φ) :: H) → K a') → K (a.put o.dst (vals k))) : wpSCP ops L Φ w0 Q vals P (o :: rest) k a H := by
  have h := h _ (fun _ h => h)
  simp only [wpSCP]
  rw [if_pos hw, hf]
  exact ⟨fun w hb hH => yieldsUpon.monoK (fun v w' hy => ⟨hy.1, (by unfold Ph.to; rw [if_neg hkg]; exact ⟨fun h => hI _ _ h hy.2, fun h => hI' _ _ h hy.2⟩), fun _ => hy.2, fun h => by rw [hfr] at h; cases h⟩) (h1 w hb hH), h⟩

/-- A call that may turn what calls before it made. -/
theorem sc_growP (hkg : k = w0.g) (φ : Value → World → Prop) (hf : Φ k = some φ) (hw : Region.wanted o (yielded ops a.tmps) = true) (hfr : L.free k = false)
    (h1 : ∀ w, w0.I0 w → (∀ p ∈ H, depAK ops L k p.1 = true → p.2 (vals p.1) w) → yieldsUpon P w (fun v w' => φ v w' ∧ w0.I1 w' ∧ ∀ p ∈ H, L.dead k p.1 = false → p.2 (vals p.1) w → p.2 (vals p.1) w') ((execOp a.eval o).run P w))
    (h : ∀ K : Act → Prop, (∀ a', wpSCP ops L Φ w0 Q vals P rest (k + 1) a' ((k, φ) :: H) → K a') → K (a.put o.dst (vals k))) : wpSCP ops L Φ w0 Q vals P (o :: rest) k a H := by
  have h := h _ (fun _ h => h)
  simp only [wpSCP]
  rw [if_pos hw, hf]
  refine ⟨fun w hb hH => yieldsUpon.monoK (fun v w' hy => ⟨hy.1, (by unfold Ph.to; rw [if_pos hkg]; exact hy.2.1), fun (h : L.free k = true) => ?_, fun _ => hy.2.2⟩) (h1 w (by unfold Ph.at at hb; rwa [if_pos hkg] at hb) hH), h⟩
  rw [hfr] at h; cases h

theorem sc_doneP (h : ∀ w, w0.I1 w → (∀ p ∈ H, L.killOf p.1 = none → p.2 (vals p.1) w) → Q .normal a w) : wpSCP ops L Φ w0 Q vals P [] k a H := h
end
end Go.Proofs.YtmddhlfjilkdfaaGreatDoor
namespace Go.Proofs.YtmddhlfjilkdfaaGreatDoor
set_option linter.unusedVariables false
set_option linter.unusedSimpArgs false
open Go.ChangeShapes Go.WideShapes Go.ChangeAt Go.RowKit

theorem bytes_equal2 (v1 v2 : Value) (l1 l2 : List UInt8) (w : World) (h1 : Bytes w v1 l1) (h2 : Bytes w v2 l2) :
    Calls Tryz.prog 88 #[v1, v2] w fun e w' => e = .returned (.bool (decide (l1 = l2))) ∧ w' = w := by
  have k1 := conv_str h1
  have k2 := conv_str h2
  obtain ⟨a1, c1, rfl, -⟩ := h1
  obtain ⟨a2, c2, rfl, -⟩ := h2
  have hd : ((⟨l1.toArray⟩ : ByteArray).toList == (⟨l2.toArray⟩ : ByteArray).toList) = decide (l1 = l2) := by
    rw [ByteArray.toList_eq, ByteArray.toList_eq]
    by_cases h : l1 = l2
    · rw [h]; simp
    · simp [h]
  go_enter Tryz.func88, Tryz.ntmps88
  go_wp2_with fail
  go_ret
  refine ⟨?_, rfl⟩
  by_cases h : l1 = l2 <;> simp [h]
theorem yields_append9 {P : Program} {w w' : World} {o : Oper} {a : Act} {R : Value → World → Prop} (s x : Operand) (t : TypeId) (ho : o.op = .call { callee := .builtin .append, args := #[s, x], argTypes := #[t, t] }) {v src v' : Value} (hs : a.eval s = v) (hx : a.eval x = src)
    (hr : (Builtin.append_ #[t, t] o.type #[v, src]).run P w = .ok v' w') (h : R v' w') : yieldsUpon P w R ((execOp a.eval o).run P w) := by
  unfold execOp
  simp only [ho, resolve, invoke, builtin, Sem.run_bind, Sem.run_pure, Result.andThen_ok, List.map_toArray, List.map_cons, List.map_nil, hs, hx, hr]
  exact h
theorem info_op : (Tryz.prog.info? 31).map (fun i => (i.zero, i.size, i.bytes)) = some (some (.agg #[.int .i64 0, .string .empty, .int .i64 0, .int .i64 0, .string .empty, .int .i64 0, .int .i64 0, .string .empty, .int .i64 0]), 9, 96) := by kernel_rfl
/-- A row of the one operation. -/
structure RowOp (u : World) (X cap : Nat) (k s : ByteArray) : Prop where
  at_ : ∃ sz, u.shape? X = some (31, sz) ∧ cap * 9 ≤ sz ∧ ∀ o, o < sz → u.frozen? ⟨X, o, none⟩ = false
  one : 1 ≤ cap
  cap : cap ≤ 9223372036854775807
  c : ∀ j (h : j < (opV k s).length), u.cell? ⟨X, j, none⟩ = some (opV k s)[j]
theorem RowOp.lt {u : World} {X cap : Nat} {k s : ByteArray} (h : RowOp u X cap k s) : X < u.heap.size := by
  obtain ⟨sz, h1, _⟩ := h.at_
  unfold World.shape? at h1
  by_cases hh : X < u.heap.size
  · exact hh
  · rw [Array.getElem?_eq_none (by omega)] at h1; cases h1
theorem RowOp.keep {u u' : World} {X cap : Nat} {k s : ByteArray} (h : RowOp u X cap k s) (hk : u'.heap[X]? = u.heap[X]?) : RowOp u' X cap k s := by
  have hf : ∀ o, u'.frozen? ⟨X, o, none⟩ = u.frozen? ⟨X, o, none⟩ := fun o => by unfold World.frozen?; simp only [hk]
  have hc : ∀ o, u'.cell? ⟨X, o, none⟩ = u.cell? ⟨X, o, none⟩ := fun o => by unfold World.cell?; simp only [hk]
  obtain ⟨sz, h1, h2, h3⟩ := h.at_
  exact ⟨⟨sz, by unfold World.shape? at *; rw [hk]; exact h1, h2, fun o ho => by rw [hf]; exact h3 o ho⟩, h.one, h.cap, fun j hj => by rw [hc]; exact h.c j hj⟩
theorem RowOp.keeps {u u' : World} {X cap : Nat} {k s : ByteArray} {F : List Nat} (h : RowOp u X cap k s) (hk : Keeps F u u') (hF : X ∉ F) : RowOp u' X cap k s := h.keep (hk.block X h.lt hF)
theorem RowOp.of_owns {u : World} {base : Nat} {v : Value} {k s : ByteArray} (h : u.ownsRow base 31 9 v 1 (opV k s)) : ∃ X cap, v = .slice (some ⟨X, 0, none⟩) 1 cap ∧ base ≤ X ∧ RowOp u X cap k s := by
  rcases h.2 with ⟨_, h0⟩ | ⟨g, cap, cur, rfl, hb, hg, hnc, hcm, hcs, htake⟩
  · cases h0
  · refine ⟨g, cap, rfl, hb, ⟨cur.size, by unfold World.shape?; simp only [hg], by omega, fun o _ => by unfold World.frozen?; simp only [hg]; simp⟩, hnc, by simpa [maxLen] using hcm, fun j hj => ?_⟩
    rw [World.cell?_of_cells hg j]
    have h9 : j < 1 * 9 := by simpa [opV] using hj
    have h7 : (cur.toList.take (1 * 9))[j]? = cur.toList[j]? := List.getElem?_take_of_lt h9
    rw [htake] at h7
    rw [← Array.getElem?_toList, ← h7]
    exact List.getElem?_eq_getElem hj
/-- Where op.Decode stands: the reader, the batch, the result's cells. -/
structure DSit (w u : World) (a2 : Nat) (rs : List UInt8 × Bool) (xs : List Value) : Prop where
  rd : ∃ v', RdS u (w.heap.size + 1) v' rs
  bt : CL u a2 xs
  rt : CL u w.heap.size [.int .i64 0, .int .i64 0, .slice none 0 0]
  be : Below w.heap.size w u
  lt : w.heap.size + 1 < a2
theorem DSit.keeps {w u u' : World} {a2 : Nat} {rs rs' : List UInt8 × Bool} {xs : List Value} (h : DSit w u a2 rs xs) (hk : Keeps [w.heap.size + 1] u u') (hr : ∃ v', RdS u' (w.heap.size + 1) v' rs') : DSit w u' a2 rs' xs :=
  ⟨hr, h.bt.keeps hk (by have := h.lt; simp; omega), h.rt.keeps hk (by simp), h.be.trans (hk.below (B := w.heap.size) (by simp) h.be.size), h.lt⟩
theorem DSit.below {w u u' : World} {a2 : Nat} {rs : List UInt8 × Bool} {xs : List Value} (h : DSit w u a2 rs xs) (hb : Below u.heap.size u u') : DSit w u' a2 rs xs := by
  obtain ⟨v', hr⟩ := h.rd
  exact h.keeps ((Keeps.of_below (F := []) hb).mono (by simp)) ⟨v', hr.keeps (Keeps.of_below (F := []) hb) (by simp)⟩
theorem DSit.set {w u : World} {a2 : Nat} {rs : List UInt8 × Bool} {xs : List Value} (h : DSit w u a2 rs xs) (i : Nat) (hi : i < xs.length) (v : Value) : DSit w (u.setCell ⟨a2, i, none⟩ v) a2 rs (xs.set i v) := by
  have hk : Keeps [a2] u (u.setCell ⟨a2, i, none⟩ v) := (Keeps.refl _ u).setCell (.inl (by simp)) _
  have hl := h.lt
  obtain ⟨v', hr⟩ := h.rd
  exact ⟨⟨v', hr.keeps hk (by simp; omega)⟩, h.bt.set i hi v, h.rt.keeps hk (by simp; omega), h.be.trans (hk.below (B := w.heap.size) (by simp; omega) h.be.size), hl⟩
end Go.Proofs.YtmddhlfjilkdfaaGreatDoor
namespace Go.Proofs.YtmddhlfjilkdfaaGreatDoor
set_option linter.unusedVariables false
set_option linter.unusedSimpArgs false
open Go.ChangeShapes Go.WideShapes Go.ChangeAt Go.RowKit

theorem encD_ne (k s : List UInt8) : encD k s ≠ [] := by unfold encD; simp
theorem Bytes.blk {w : World} {v : Value} {l : List UInt8} (h : Bytes w v l) (hl : l ≠ []) : ∃ b off cap, v = .slice (some ⟨b, off, none⟩) l.length cap ∧ b < w.heap.size ∧ l.length ≤ cap := by
  obtain ⟨a, cap, hv, h1, h2, h3⟩ := h
  obtain ⟨b, off, rfl, hc⟩ := h3 hl
  have : 0 < l.length := List.length_pos_iff.2 hl
  exact ⟨b, off, cap, hv, World.block_lt_of_cell? w _ (hc 0 this), h1⟩
set_option maxRecDepth 100000 in
set_option maxHeartbeats 4000000 in
theorem op_decode (v : Value) (k s : ByteArray) (w : World) (hs : s.size ≤ 200) (hks : k.size ≤ 1000) (hT : Lib.Utf8Tabs (rV.g 3) (rV.g 4) w) (hg3 : rV.g 3 < w.heap.size) (hg4 : rV.g 4 < w.heap.size) (hv : Lib.validD s.data.toList = true)
    (hb : Bytes w v (encD k.data.toList s.data.toList))
    (HE : Hid (∀ (u : World) (X cap : Nat), Below w.heap.size w u → w.heap.size ≤ X → RowOp u X cap k s → Calls Tryz.prog 56 #[.agg #[.int .i64 1, .int .i64 1, .slice (some ⟨X, 0, none⟩) 1 cap]] u fun e w' => ∃ v', e = .returned v' ∧ Bytes w' v' (encD k.data.toList s.data.toList) ∧ Keeps [X] u w' ∧ RowOp w' X cap k s)) :
    Calls Tryz.prog 86 #[v] w fun e w' => ∃ X cap, e = .returned (.tuple #[.agg #[.int .i64 1, .int .i64 1, .slice (some ⟨X, 0, none⟩) 1 cap], .int .i64 0]) ∧ RowOp w' X cap k s ∧ w.heap.size ≤ X ∧ Below w.heap.size w w' := by
  have hL := encD_parts (k := k.data.toList) (s := s.data.toList) (by simp; omega) (by simp; omega)
  have hN1 := rdN_put 1 (putN 1 ++ (putN 1 ++ (putN 1 ++ (putT k.data.toList ++ (putN 2 ++ putT s.data.toList))))) (by omega) (by omega)
  have hN2 := rdN_put 1 (putN 1 ++ (putN 1 ++ (putT k.data.toList ++ (putN 2 ++ putT s.data.toList)))) (by omega) (by omega)
  have hN3 := rdN_put 1 (putN 1 ++ (putT k.data.toList ++ (putN 2 ++ putT s.data.toList))) (by omega) (by omega)
  obtain ⟨b, off, vc, rfl, hbl, hvl⟩ := hb.blk (encD_ne _ _)
  have hbz := hb
  have hlz : (encD k.data.toList s.data.toList).length ≤ 9223372036854775807 := by obtain ⟨_, _, hv', h1, h2, -⟩ := hb; exact Nat.le_trans h1 h2
  have hb1 := (Below.refl w.heap.size w).alloc (Nat.le_refl _) (.cells #[.int .i64 0, .int .i64 0, .slice none 0 0] 51)
  have hC := CL.new w [.int .i64 0, .int .i64 0, .slice none 0 0] 51 _ rfl
  have hb2 := hb1.alloc hb1.size (.cells #[.slice (some ⟨b, off, none⟩) (encD k.data.toList s.data.toList).length vc, .bool false] 255)
  have hD := CL.new (w.alloc (.cells #[.int .i64 0, .int .i64 0, .slice none 0 0] 51)) [.slice (some ⟨b, off, none⟩) (encD k.data.toList s.data.toList).length vc, .bool false] 255 _ rfl
  have lA : (w.alloc (.cells #[.int .i64 0, .int .i64 0, .slice none 0 0] 51)).heap.size = w.heap.size + 1 := Array.size_push ..
  have hkB : Keeps [] (w.alloc (.cells #[.int .i64 0, .int .i64 0, .slice none 0 0] 51)) ((w.alloc (.cells #[.int .i64 0, .int .i64 0, .slice none 0 0] 51)).alloc (.cells #[.slice (some ⟨b, off, none⟩) (encD k.data.toList s.data.toList).length vc, .bool false] 255)) := Keeps.of_below ((Below.refl _ _).alloc (Nat.le_refl _) _)
  have hC2 := hC.keeps hkB (by simp)
  rw [lA] at hD
  have hbA := (hb.alloc (.cells #[.int .i64 0, .int .i64 0, .slice none 0 0] 51)).alloc (.cells #[.slice (some ⟨b, off, none⟩) (encD k.data.toList s.data.toList).length vc, .bool false] 255)
  have hR : RdS ((w.alloc (.cells #[.int .i64 0, .int .i64 0, .slice none 0 0] 51)).alloc (.cells #[.slice (some ⟨b, off, none⟩) (encD k.data.toList s.data.toList).length vc, .bool false] 255)) (w.heap.size + 1) (.slice (some ⟨b, off, none⟩) (encD k.data.toList s.data.toList).length vc) (encD k.data.toList s.data.toList, false) :=
    ⟨hD.lt, hD.c 0 (by simp), hD.c 1 (by simp), hD.fr, hbA, fun _ ad n c hh => by cases hh; show b < _; omega⟩
  have HN := Lib.hid (And.intro hN1 (And.intro hN2 hN3))
  have HB := Lib.hid (And.intro hbz hlz)
  generalize (encD k.data.toList s.data.toList).length = vn at *
  rw [hL] at hR
  clear hN1 hN2 hN3 hD hkB hC hb1 hbz hlz hb hbA lA
  go_enter Tryz.func86, Tryz.ntmps86
  go_wp2_with fail
  generalize ((w.alloc (.cells _ 51)).alloc (.cells _ 255)) = W2 at *
  refine (o_num hR).mono ?_
  rintro e w3 ⟨rfl, ⟨v3, hR3⟩, hk3⟩
  rw [HN.out.1] at hR3 ⊢
  dsimp only at hR3 ⊢
  have hlW := hC2.lt
  have hsz3 := hk3.size
  have hsW := hR.lt
  have hbx := (Below.refl w3.heap.size w3).alloc (Nat.le_refl _) (.cells #[.int .i64 1, .int .i64 0, .slice none 0 0] 51)
  have hX := CL.new w3 [.int .i64 1, .int .i64 0, .slice none 0 0] 51 _ rfl
  have hS3 : DSit w (w3.alloc (.cells #[.int .i64 1, .int .i64 0, .slice none 0 0] 51)) w3.heap.size (putN 1 ++ (putN 1 ++ (putN 1 ++ (putT k.data.toList ++ (putN 2 ++ putT s.data.toList)))), false) [.int .i64 1, .int .i64 0, .slice none 0 0] :=
    ⟨⟨v3, hR3.keeps (Keeps.of_below (F := []) hbx) (by simp)⟩, hX, (hC2.keeps hk3 (by simp)).keeps (Keeps.of_below (F := []) hbx) (by simp), (hb2.trans (hk3.below (B := w.heap.size) (by simp) (by omega))).trans (hbx.mono (by omega)), by omega⟩
  clear hR hC2 hb2 hk3 hX hbx hR3
  go_wp2_with fail
  generalize w3.alloc (.cells _ 51) = W4 at *
  have hS4 := hS3
  obtain ⟨v4, hR4⟩ := hS4.rd
  refine (o_num hR4).mono ?_
  rintro e w5 ⟨rfl, hR5, hk5⟩
  rw [HN.out.2.1] at hR5 ⊢
  dsimp only at hR5 ⊢
  have hS5 := hS3.keeps hk5 hR5
  have hS6 := hS5.set 1 (by simp) (.int .i64 1)
  have y1 := hS5.bt.c 1 (by simp)
  have yf := hS5.bt.fr
  simp only [List.getElem_cons_zero, List.getElem_cons_succ, List.set_cons_zero, List.set_cons_succ] at y1 hS6
  clear hS3 hS4 hR4 hk5 hR5 hS5
  go_wp2_with fail
  clear y1 yf
  generalize w5.setCell _ _ = W6 at *
  obtain ⟨v6, hR6⟩ := hS6.rd
  refine (o_num hR6).mono ?_
  rintro e w7 ⟨rfl, hR7, hk7⟩
  rw [HN.out.2.2] at hR7 ⊢
  dsimp only at hR7 ⊢
  have hS7 := hS6.keeps hk7 hR7
  clear hS6 hR6 hk7 hR7 HN
  go_wp2_with fail
  refine wp_loop_rounds 2 ?_
  rw [rounds_succ]
  obtain ⟨v7, hR7⟩ := hS7.rd
  have r1 := hR7.c1
  have x2 := hS7.bt.c 2 (by simp)
  simp only [List.getElem_cons_zero, List.getElem_cons_succ] at x2 r1
  go_upto_block 1 with fail
  go_cut [] (fun wx => ∃ X cap, DSit w wx w3.heap.size ([], false) [.int .i64 1, .int .i64 1, .slice (some ⟨X, 0, none⟩) 1 cap] ∧ w.heap.size ≤ X ∧ X ≠ w.heap.size ∧ X ≠ w.heap.size + 1 ∧ X ≠ w3.heap.size ∧ RowOp wx X cap k s)
  case first =>
    go_upto_region 7 with fail
    have hDr := hS7.below (u' := { w7 with drawn := w7.drawn + 1 }) ⟨rfl, rfl, rfl, Nat.le_refl _, fun _ _ => rfl⟩
    have hAT : ∀ (q : Nat) u, Ph.at ⟨3, fun u => DSit w u w3.heap.size (putN 1 ++ (putT k.data.toList ++ (putN 2 ++ putT s.data.toList)), false) [.int .i64 1, .int .i64 1, .slice none 0 0], fun u => DSit w u w3.heap.size ([], false) [.int .i64 1, .int .i64 1, .slice none 0 0]⟩ q u → ∃ rs, DSit w u w3.heap.size rs [.int .i64 1, .int .i64 1, .slice none 0 0] := fun q u hu => by
      unfold Ph.at at hu
      split at hu
      · exact ⟨_, hu⟩
      · rcases hu with hu | hu
        · exact ⟨_, hu⟩
        · exact ⟨_, hu⟩
    have HAT := Lib.hid hAT
    have HO : Hid (∀ (u : World) (x : Value), Below w.heap.size w u → RdS u (w.heap.size + 1) x (putN 1 ++ (putT k.data.toList ++ (putN 2 ++ putT s.data.toList)), false) → Calls Tryz.prog 138 #[.pointer (some ⟨w.heap.size + 1, 0, none⟩)] u fun e w' => e = .returned (.agg (opV k s).toArray) ∧ (∃ v', RdS w' (w.heap.size + 1) v' ([], false)) ∧ Keeps [w.heap.size + 1] u w') := Lib.hid (fun u x h1 h2 => o_op k s hs hks (Utf8Tabs_below hT h1) hv (by omega) (by omega) h2)
    clear hAT hT hL hS7 hR7 r1 x2
    have h9 : (opV k s).length = 9 := rfl
    refine wp_region_cp 6 (by rfl) (by kernel_rfl) ⟨3, fun u => DSit w u w3.heap.size (putN 1 ++ (putT k.data.toList ++ (putN 2 ++ putT s.data.toList)), false) [.int .i64 1, .int .i64 1, .slice none 0 0], fun u => DSit w u w3.heap.size ([], false) [.int .i64 1, .int .i64 1, .slice none 0 0]⟩ hDr (by show 3 < 6; decide) (by kernel_rfl)
      (fun j => match j with | 3 => some (fun v _ => v = .agg (opV k s).toArray) | 4 => some (fun v u => ∃ g, v = .slice (some ⟨g, 0, none⟩) 1 1 ∧ g < u.heap.size ∧ ∀ j (h : j < (opV k s).length), u.cell? ⟨g, j, none⟩ = some (opV k s)[j]) | 5 => some (fun v u => ∃ X cap, v = .slice (some ⟨X, 0, none⟩) 1 cap ∧ w3.heap.size < X ∧ RowOp u X cap k s) | _ => none) ⟨[3, 4, 5], [3], []⟩ (PlanOkK.of [3, 4, 5] (by kernel_rfl) (fun j φ hj => ?_) (fun j φ hj v u u' h1 h2 => ?_)) (by simp) (fun vals => ?_)
    · split at hj
      all_goals first | (cases hj; done) | simp
    · split at hj
      · cases hj
        exact h1
      · cases hj
        obtain ⟨g, hv, hg, hc⟩ := h1
        exact ⟨g, hv, Nat.lt_of_lt_of_le hg h2.size, fun j hj => (h2.cell (p := ⟨g, j, none⟩) hg).trans (hc j hj)⟩
      · cases hj
        obtain ⟨X, cap, hv, hX, hr⟩ := h1
        exact ⟨X, cap, hv, hX, hr.keep (h2.block X hr.lt)⟩
      · cases hj
    dsimp only [List.take, List.drop]
    iterate 1 ((with_reducible refine sc_pureP ?_ (fun K hK => ?_)); (· rfl); go_simp; with_reducible refine hK _ ?_; clear hK K)
    refine sc_atP (.slice none 0 0) rfl rfl (fun wz hz' hH => ?_) (fun K hK => ?_)
    · obtain ⟨rs, hz⟩ := HAT.out _ _ hz'
      have y2 := hz.bt.c 2 (by simp)
      simp only [List.getElem_cons_zero, List.getElem_cons_succ] at y2
      go_simp
    go_simp; refine hK _ ?_; clear hK K
    iterate 1 ((with_reducible refine sc_pureP ?_ (fun K hK => ?_)); (· rfl); go_simp; with_reducible refine hK _ ?_; clear hK K)
    refine sc_growP rfl _ rfl rfl rfl (fun wz hz' hH => ?_) (fun K hK => ?_)
    · obtain ⟨vz, hz⟩ := DSit.rd hz'
      go_simp
      go_at_call 138
      refine (HO.out wz vz (DSit.be hz') hz).mono ?_
      rintro e w12 ⟨rfl, hR', hk'⟩
      exact ⟨_, rfl, rfl, DSit.keeps hz' hk' hR'⟩
    go_simp; refine hK _ ?_; clear hK K
    refine sc_callP (by show 4 ≠ 3; decide) (fun u u' h1 h2 => DSit.below h1 h2) (fun u u' h1 h2 => DSit.below h1 h2) _ rfl rfl rfl (fun wz hz' hH => ?_) (fun K hK => ?_)
    · have e3 := hH _ (List.Mem.head _) rfl
      dsimp only at e3
      rw [show (0 + 1 + 1 + 1 : Nat) = 3 from rfl] at e3
      rw [e3]
      unfold opV
      go_simp
      exact (Below.refl wz.heap.size wz).alloc (Nat.le_refl _) _
    go_simp; refine hK _ ?_; clear hK K
    refine sc_callP (by show 5 ≠ 3; decide) (fun u u' h1 h2 => DSit.below h1 h2) (fun u u' h1 h2 => DSit.below h1 h2) _ rfl rfl rfl (fun wz hz' hH => ?_) (fun K hK => ?_)
    · obtain ⟨g, e4, hg, hc⟩ := hH _ (List.Mem.head _) rfl
      dsimp only at e4
      rw [show (0 + 1 + 1 + 1 + 1 : Nat) = 4 from rfl] at e4
      obtain ⟨rs, hz⟩ := HAT.out _ _ hz'
      obtain ⟨i, hi, hi'⟩ := Option.map_eq_some_iff.1 info_op
      simp only [Prod.mk.injEq] at hi'
      obtain ⟨hz0, hz1, hz2⟩ := hi'
      obtain ⟨v8, w8, hr, hown8, hg8, hk8, hkeep⟩ := run_append_src2 (P := Tryz.prog) 49 49 wz.heap.size 31 i _ 9 96 Tryz.underlying49 hi hz0 hz1 hz2 rfl (by decide) (.slice none 0 0) 0 [] (World.ownsRow_nil _ _ _ _) (some ⟨g, 0, none⟩) 1 1 (opV k s) rfl (fun _ => ⟨_, rfl, fun j u hu => by
        obtain ⟨hj, rfl⟩ := List.getElem?_eq_some_iff.1 hu
        rw [Addr.add_lit, Nat.zero_add]; exact hc j hj⟩) (by intro u hu; simp [opV] at hu; rcases hu with rfl | rfl | rfl | rfl | rfl | rfl | rfl | rfl | rfl <;> rfl) (by unfold maxLen; omega) (by omega) (Nat.le_refl _)
      refine yields_append9 _ _ _ rfl rfl e4 hr ?_
      rw [List.nil_append] at hown8
      obtain ⟨X, cap, rfl, hX, hrow⟩ := RowOp.of_owns hown8
      exact ⟨⟨X, cap, rfl, Nat.lt_of_lt_of_le hz.bt.lt hX, hrow⟩, below_of_grown hg8⟩
    go_simp; refine hK _ ?_; clear hK K
    refine sc_doneP (fun wz hz' hH => ?_)
    obtain ⟨X, cap, e5, hX, hrow⟩ := hH _ (List.Mem.head _) rfl
    dsimp only at e5
    rw [show (0 + 1 + 1 + 1 + 1 + 1 : Nat) = 5 from rfl] at e5
    rw [e5]
    have y2 := (DSit.bt hz').c 2 (by simp)
    have yf := (DSit.bt hz').fr
    have hset := DSit.set hz' 2 (by simp) (.slice (some ⟨X, 0, none⟩) 1 cap)
    simp only [List.getElem_cons_zero, List.getElem_cons_succ, List.set_cons_zero, List.set_cons_succ] at y2 hset
    have hlt := hz'.lt
    have hrow2 := hrow.keeps (F := [w3.heap.size]) ((Keeps.refl _ wz).setCell (p := ⟨w3.heap.size, 2, none⟩) (.inl (by simp)) (.slice (some ⟨X, 0, none⟩) 1 cap)) (by simp; omega)
    have HZ := Lib.hid (And.intro hset hrow2)
    clear hset hrow2 hrow e5
    unfold tailQ
    go_wp2_with fail
    go_meet
    exact ⟨X, cap, HZ.out.1, by omega, by omega, by omega, by omega, HZ.out.2⟩
  case rest =>
    obtain ⟨X, cap, hS, hX, hX1, hX2, hX3, hrow⟩ := hcut
    have z0 := hS.bt.c 0 (by simp)
    have z1 := hS.bt.c 1 (by simp)
    have z2 := hS.bt.c 2 (by simp)
    simp only [List.getElem_cons_zero, List.getElem_cons_succ] at z0 z1 z2
    have hE := HE.out wc X cap hS.be hX hrow
    have HEE := Lib.hid hE
    clear hT hL hS7 hR7 r1 x2 HE hE
    go_wp2_with fail
    rw [rounds_succ]
    go_wp2_with fail
    refine HEE.out.mono ?_
    rintro e w9 ⟨v9, rfl, hb9, hk9, hrow9⟩
    have hS9 : DSit w w9 w3.heap.size ([], false) [.int .i64 1, .int .i64 1, .slice (some ⟨X, 0, none⟩) 1 cap] := by
      obtain ⟨vr, hr⟩ := hS.rd
      have hlt := hS.lt
      obtain ⟨l1, l2, l3, l4, l5, l6⟩ := hr
      exact ⟨⟨vr, Nat.lt_of_lt_of_le l1 hk9.size, (hk9.cell (p := ⟨_, 0, none⟩) l1 (by simp; omega)).trans l2, (hk9.cell (p := ⟨_, 1, none⟩) l1 (by simp; omega)).trans l3, fun j => (hk9.frozen (p := ⟨_, j, none⟩) l1 (by simp; omega)).trans (l4 j), l5.keeps hk9 (fun h => absurd rfl h), fun h => absurd rfl h⟩,
        hS.bt.keeps hk9 (by simp; omega), hS.rt.keeps hk9 (by simp; omega), hS.be.trans (hk9.below (B := w.heap.size) (by simp; omega) hS.be.size), hlt⟩
    clear hS z0 z1 z2 HEE hk9 hrow
    obtain ⟨vr, hr9⟩ := hS9.rd
    have r1 := hr9.c1
    have z0 := hS9.bt.c 0 (by simp)
    have z1 := hS9.bt.c 1 (by simp)
    have z2 := hS9.bt.c 2 (by simp)
    have q0 := hS9.rt.c 0 (by simp)
    have q1 := hS9.rt.c 1 (by simp)
    have q2 := hS9.rt.c 2 (by simp)
    have qf := hS9.rt.fr
    simp only [List.getElem_cons_zero, List.getElem_cons_succ] at z0 z1 z2 r1 q0 q1 q2
    have hbw := HB.out.1.below hS9.be rfl
    have hEQ : Calls Tryz.prog 88 #[v9, .slice (some ⟨b, off, none⟩) vn vc] w9 fun e w' => e = .returned (.bool true) ∧ w' = w9 := by
      have hq := bytes_equal2 _ _ _ _ w9 hb9 hbw
      rw [decide_eq_true rfl] at hq
      exact hq
    obtain ⟨b9, o9, c9, rfl, hl9, hle9⟩ := hb9.blk (encD_ne _ _)
    have HH := Lib.hid (And.intro hEQ (And.intro hS9 hrow9))
    clear hEQ hS9 hrow9 hbw hb9 hr9
    generalize (encD k.data.toList s.data.toList).length = n9 at *
    have e1 : ∀ (w : World) a n c, (binOp .eql 143 (.slice (some a) n c) (.slice none 0 0)).run Tryz.prog w = .ok (.bool false) w := fun W a n c => Lib.run_eql_slice_some_nil W _ _ _ Tryz.underlying143
    go_wp2_with fail
    refine HH.out.1.mono ?_
    rintro e w10 ⟨rfl, rfl⟩
    obtain ⟨-, hS10, hrow10⟩ := HH.out
    have hset := ((hS10.rt.set 0 (by simp) (.int .i64 1)).set 1 (by simp) (.int .i64 1)).set 2 (by simp) (.slice (some ⟨X, 0, none⟩) 1 cap)
    have hkz : Keeps [w.heap.size] w10 (((w10.setCell ⟨w.heap.size, 0, none⟩ (.int .i64 1)).setCell ⟨w.heap.size, 1, none⟩ (.int .i64 1)).setCell ⟨w.heap.size, 2, none⟩ (.slice (some ⟨X, 0, none⟩) 1 cap)) := (((Keeps.refl _ w10).setCell (.inl (by simp)) _).setCell (.inl (by simp)) _).setCell (.inl (by simp)) _
    have hbe := hS10.be.trans (hkz.below (B := w.heap.size) (by simp) hS10.be.size)
    have hrz := hrow10.keeps hkz (by simp; omega)
    have p0 := hset.c 0 (by simp)
    have p1 := hset.c 1 (by simp)
    have p2 := hset.c 2 (by simp)
    simp only [List.getElem_cons_zero, List.getElem_cons_succ, List.set_cons_zero, List.set_cons_succ] at p0 p1 p2
    have hl : (loadVar 51 ⟨w.heap.size, 0, none⟩).run Tryz.prog (((w10.setCell ⟨w.heap.size, 0, none⟩ (.int .i64 1)).setCell ⟨w.heap.size, 1, none⟩ (.int .i64 1)).setCell ⟨w.heap.size, 2, none⟩ (.slice (some ⟨X, 0, none⟩) 1 cap)) = .ok (.agg #[.int .i64 1, .int .i64 1, .slice (some ⟨X, 0, none⟩) 1 cap]) (((w10.setCell ⟨w.heap.size, 0, none⟩ (.int .i64 1)).setCell ⟨w.heap.size, 1, none⟩ (.int .i64 1)).setCell ⟨w.heap.size, 2, none⟩ (.slice (some ⟨X, 0, none⟩) 1 cap)) := by
      unfold loadVar
      go_simp
    have HZ := Lib.hid (And.intro hl (And.intro hrz hbe))
    clear HH hS10 hrow10 hset hkz hbe hrz p0 p1 p2 hl e1
    go_wp2_with fail
    refine bodyPost_ret (results_cell2 rfl _ _ _ _ _ rfl HZ.out.1) rfl ?_
    exact ⟨X, cap, rfl, HZ.out.2.1, hX, HZ.out.2.2⟩
end Go.Proofs.YtmddhlfjilkdfaaGreatDoor
namespace Go.Proofs.YtmddhlfjilkdfaaGreatDoor
set_option linter.unusedVariables false
set_option linter.unusedSimpArgs false
open Go.RowKit

/-- Behind op.Encode: the batch's bytes; the operation stands as it stood. -/
noncomputable def chkE (ot : Nat) (q : Q) (y : AV) (h : Hp) : Bool :=
  y.yK (fun s => s.on_so fun q2 i => ifT (Nat.beq i 2) ((HT.getR q2 h.t).onY fun oy => oy.on_op fun j => ifT (Nat.beq j 2) ((HT.getR q h.t).on fun ty m v => ifT (Nat.beq ty ot) (ifT (Nat.ble 9 m) (avEqL (v.range 9 0) opCs))))) false
noncomputable def evE (ot : Nat) (sE : FS) : Bool := nbK ot 9 opCs h00 fun q h => sE [.a [.i .i64 9223372036854775809, .i .i64 9223372036854775809, .sl q 0 1 (.u 0 1)]] h (chkE ot q)
theorem chkE_spec {ot : Nat} {q : Q} {y : AV} {h : Hp} (hk : chkE ot q y h = true) : ∃ q2 m v, y = .y (.so q2 2) ∧ h.t.get q2 = .y (.op 2) ∧ h.t.get q = .bk ot m v ∧ 9 ≤ m ∧ v.range 9 0 = opCs := by
  rcases AV.yK_spec (show y.yK _ _ = true from hk) with ⟨s, rfl, h1⟩ | h1
  · obtain ⟨q2, i, rfl, h2⟩ := Sy.on_so_spec h1
    obtain ⟨e1, h3⟩ := ifT_eq h2
    subst e1
    rw [HT.getR_eq] at h3
    obtain ⟨oy, hg, h4⟩ := OB.onY_spec h3
    obtain ⟨j, rfl, h5⟩ := Oy.on_op_spec h4
    obtain ⟨e2, h6⟩ := ifT_eq h5
    subst e2
    rw [HT.getR_eq] at h6
    obtain ⟨ty, m, v, hg2, h7⟩ := OB.on_spec h6
    obtain ⟨e3, h8⟩ := ifT_eq h7
    subst e3
    obtain ⟨e4, h9⟩ := ifT_le h8
    exact ⟨q2, m, v, rfl, hg, hg2, e4, avEqL_eq h9⟩
  · cases h1
theorem cells_op : Tryz.prog.cellsOf 31 = 9 := by kernel_rfl
section
variable {ρ : Q → Loc} {h : Hp} {w w' : World} {B N : Nat}
theorem RowOp.rowE {X cap : Nat} (hR : RowOp w X cap (txt ρ 0) (txt ρ 1)) {l : Loc} (hl : l = { blk := X, base := 0, cap := cap }) (h0 : SyOk ρ 0) (h1 : SyOk ρ 1) (hN : 0 < N) {v : V} (hv : ∀ (j : Nat) (hj : j < opCs.length), v.get j = opCs[j]) : RowE Tryz.prog l ρ N w 31 9 v := by
  subst hl
  obtain ⟨sz, a1, a2, a3⟩ := hR.at_
  have hone := hR.one
  refine ⟨⟨sz, a1, by show 0 + 9 ≤ sz; omega, by rw [cells_op]; show 0 + cap * 9 ≤ sz; omega, a3⟩, fun i hi => ?_⟩
  have hc := hR.c i (by simpa [opV] using hi)
  have hvi := hv i (by simpa [opCs] using hi)
  refine ⟨_, by show World.cell? w ⟨X, 0 + i, none⟩ = _; rw [Nat.zero_add]; exact hc, ?_, ?_⟩
  · rw [hvi]
    match i, hi with
    | 0, _ => exact Rel.i .i64 9223372036854775809
    | 1, _ => exact Rel.os 0 hN h0
    | 2, _ => exact Rel.i .i64 9223372036854775810
    | 3, _ => exact Rel.i .i64 9223372036854775808
    | 4, _ => exact Rel.os 1 hN h1
    | 5, _ => exact Rel.i .i64 9223372036854775808
    | 6, _ => exact Rel.i .i64 9223372036854775808
    | 7, _ => exact Rel.s { data := #[] }
    | 8, _ => exact Rel.i .i64 9223372036854775808
  · match i, hi with
    | 0, _ => rfl
    | 1, _ => rfl
    | 2, _ => rfl
    | 3, _ => rfl
    | 4, _ => rfl
    | 5, _ => rfl
    | 6, _ => rfl
    | 7, _ => rfl
    | 8, _ => rfl
theorem RowE.op {l : Loc} {m : Nat} {v : V} (R : RowE Tryz.prog l ρ N w 31 m v) (hm : 9 ≤ m) (hr : v.range 9 0 = opCs) (hb : l.base = 0) (h1 : 1 ≤ l.cap) (h2 : l.cap ≤ 9223372036854775807) : RowOp w l.blk l.cap (txt ρ 0) (txt ρ 1) := by
  obtain ⟨sz, a1, a2, a3, a4⟩ := R.at_
  rw [cells_op, hb] at a3
  refine ⟨⟨sz, a1, by omega, a4⟩, h1, h2, fun j hj => ?_⟩
  have hj9 : j < 9 := by simpa [opV] using hj
  obtain ⟨x, c1, c2, _⟩ := R.get j (by omega)
  have hgj := V.range_get? v 9 0 j hj9
  rw [hr, Nat.zero_add] at hgj
  have hD : v.get j = opCs.getD j .d := by rw [List.getD_eq_getElem?_getD, hgj]; rfl
  rw [hD] at c2
  clear hgj hD
  rw [hb, Nat.zero_add] at c1
  rw [c1]
  match j, hj9 with
  | 0, _ => exact congrArg some (rel_i c2)
  | 1, _ => exact congrArg some (rel_os c2).1
  | 2, _ => exact congrArg some (rel_i c2)
  | 3, _ => exact congrArg some (rel_i c2)
  | 4, _ => exact congrArg some (rel_os c2).1
  | 5, _ => exact congrArg some (rel_i c2)
  | 6, _ => exact congrArg some (rel_i c2)
  | 7, _ => exact congrArg some (rel_s0 c2)
  | 8, _ => exact congrArg some (rel_i c2)
/-- What op.Encode does, by its evaluation. -/
theorem encode_of {sE : FS} (hE : SoundF Tryz.prog 56 sE) (hev : evE 31 sE = true) (hT : Tabs Tryz.prog w.heap.size w) (hk0 : SyOk ρ 0) (hk1 : SyOk ρ 1) (u : World) (X cap : Nat) (hb : Below w.heap.size w u) (hX : w.heap.size ≤ X) (hR : RowOp u X cap (txt ρ 0) (txt ρ 1)) :
    Calls Tryz.prog 56 #[.agg #[.int .i64 1, .int .i64 1, .slice (some ⟨X, 0, none⟩) 1 cap]] u fun e w' => ∃ v', e = .returned v' ∧ Bytes w' v' (encD (txt ρ 0).data.toList (txt ρ 1).data.toList) ∧ Keeps [X] u w' ∧ RowOp w' X cap (txt ρ 0) (txt ρ 1) := by
  have E0 := emb00 Tryz.prog ρ w hT
  obtain ⟨v, hg, hk⟩ := nbK_spec (h := h00) rfl (show nbK 31 9 opCs h00 _ = true from hev)
  have hnx : h00.nx = .d1 .e := rfl
  have h0 : 0 < h00.nx.num := by decide
  have ht := txt_upd (ρ := ρ) h00.nx { blk := X, base := 0, cap := cap } h0
  have hno : ∀ r, ¬ h00.t.get r ≠ .no := fun r hr => no00 r hr
  have hcap := hR.cap
  have hone := hR.one
  obtain ⟨E1, s1⟩ := E0.lay (w' := u) h00.t (fun _ => .inr rfl) (.bk 31 9 v) (by simp) { blk := X, base := 0, cap := cap } hb.size hX
    (fun r hr => (hno r hr).elim) (fun r hr => (hno r hr).elim) (fun c hc _ => hb.block c hc) (.inr hX) hb.os hb.tape hb.output
    (fun ty n v' he => by
      cases he
      refine RowOp.rowE (by rw [ht]; exact hR) rfl (syOk_upd _ _ h0 hk0) (syOk_upd _ _ h0 hk1) (by rw [Q.num_succ]; omega) hg)
    (by intro _ he; cases he)
  generalize hρ : upd ρ h00.nx { blk := X, base := 0, cap := cap } = ρ1 at *
  have hq : ρ1 h00.nx = { blk := X, base := 0, cap := cap } := by rw [← hρ]; exact upd_same _ _ _
  have hsl := Rel.slu (ρ := ρ1) (N := h00.nx.succ.num) h00.nx 0 1 0 1 (by rw [Q.num_succ]; omega) (Nat.le_refl _) (by rw [hq]; show 1 + 0 ≤ cap; omega) (by rw [hq]; exact hcap)
  rw [hq] at hsl
  have hval : Rel ρ1 h00.nx.succ.num (.a [.i .i64 9223372036854775809, .i .i64 9223372036854775809, .sl h00.nx 0 1 (.u 0 1)]) (.agg #[.int .i64 1, .int .i64 1, .slice (some ⟨X, 0, none⟩) 1 cap]) :=
    Rel.a _ [.int .i64 1, .int .i64 1, .slice (some ⟨X, 0, none⟩) 1 cap] (.cons _ _ _ _ (Rel.i .i64 9223372036854775809) (.cons _ _ _ _ (Rel.i .i64 9223372036854775809) (.cons _ _ _ _ (by simpa using hsl) .nil))) (by simp [Value.oneCell'])
  refine (hE.sound ρ1 _ u w.heap.size [_] [_] _ E1 (.cons _ _ _ _ hval .nil) hk).mono ?_
  intro e w' hl
  cases e with
  | returned v' =>
    obtain ⟨ρ', h', y, E', s', hr, hc⟩ := hl
    obtain ⟨q2, m, v2, rfl, g1, g2, hm, hrg⟩ := chkE_spec hc
    have hex : ∀ q : Q, q.num < 2 → ρ' q = ρ1 q := fun q hq => s'.ext q (by show q.num < h00.nx.succ.num; exact hq)
    have htx : txt ρ' = txt ρ := by
      rw [← ht]
      unfold txt
      rw [hex .e (by decide)]
    have hqq : ρ' h00.nx = { blk := X, base := 0, cap := cap } := by rw [hex h00.nx (by decide)]; exact hq
    refine ⟨v', rfl, ?_, ?_, ?_⟩
    · cases hr with
      | so _ _ c hq h0 hy hc hm =>
        have hO := (E'.op q2 2 g1).2
        rw [← hk0.2.2.enc, ← htx]
        refine ⟨_, c, rfl, by simpa using hc, hm, fun _ => ⟨_, _, rfl, fun j hj => ?_⟩⟩
        have hj2 : j < (txt ρ' 2).size := by simpa using hj
        rw [hO.2 j hj2]
        rfl
    · exact ⟨s'.os, s'.tape, s'.output, s'.size, fun b hb hnb => s'.frame b hb fun q hql e => by
        have hqn : q = h00.nx := by
          by_cases e2 : q = h00.nx
          · exact e2
          · exact (hql (by show (HT.set _ h00.nx h00.t).get q = .no; rw [HT.get_set_ne _ _ _ _ e2]; exact HT.get_z q)).elim
        subst hqn
        have e3 : (ρ1 h00.nx).blk = b := e
        rw [hq] at e3
        exact hnb (by simp [← e3])⟩
    · have hrow := E'.row h00.nx _ _ _ g2
      rw [hqq] at hrow
      have := RowE.op hrow hm hrg rfl hone hcap
      rw [htx] at this
      exact this
  | _ => exact hl.elim
end
theorem syOk_of {ρ : Q → Loc} (h : TxOk (txt ρ)) : SyOk ρ 0 ∧ SyOk ρ 1 := by
  refine ⟨⟨?_, h.kLen, h⟩, ⟨Nat.zero_le _, h.sLen, h⟩⟩
  show 1 ≤ (txt ρ 0).size
  have h1 := h.key.some_
  rcases Nat.eq_zero_or_pos (txt ρ 0).size with e | e
  · have e2 : (txt ρ 0).data.toList.length = 0 := by simpa using e
    rw [List.eq_nil_of_length_eq_zero e2] at h1
    exact absurd h1 (by decide)
  · exact e
theorem decodeF_sound {sE o : FS} (hE : SoundF Tryz.prog 56 sE) (hev : evE 31 sE = true) (ho : SoundF Tryz.prog 86 o) : SoundF Tryz.prog 86 (decodeF 31 o) := by
  refine arm1_sound (fun s h => decodeG_det 31 s h) (fun ρ h w B s v k E hx hk => ?_) ho
  obtain ⟨q, i, rfl, h1⟩ := Sy.on_so_spec (show s.on_so _ = true from hk)
  obtain ⟨e1, h2⟩ := ifT_eq h1
  subst e1
  rw [HT.getR_eq] at h2
  obtain ⟨oy, hg, h3⟩ := OB.onY_spec h2
  obtain ⟨j, rfl, h4⟩ := Oy.on_op_spec h3
  obtain ⟨e2, h5⟩ := ifT_eq h4
  subst e2
  obtain ⟨vt, hvt, h6⟩ := nbK_spec (h := h) (m := 9) (cs := opCs) rfl h5
  clear hk h1 h2 h3 h4 h5
  cases hx with
  | so _ _ c hq h0 hy hc hm =>
    have hO := (E.op q 2 hg).2
    obtain ⟨k0, k1⟩ := syOk_of hy.2.2
    have b0 : (txt ρ 0).size ≤ 100 := k0.2.1
    have b1 : (txt ρ 1).size ≤ 200 := k1.2.1
    have hT : Tabs Tryz.prog w.heap.size w := by
      obtain ⟨w0, a1, a2, a3⟩ := E.tab
      exact ⟨w0, a1, Nat.le_trans a2 E.base, a3⟩
    have hU := tabs_utf8 E.tab
    have hg3 : rV.g 3 < w.heap.size := World.block_lt_of_cell? w _ (hU.1 0 (by decide))
    have hg4 : rV.g 4 < w.heap.size := World.block_lt_of_cell? w _ (hU.2 0 (by decide)).1
    have hb : Bytes w (.slice (some ⟨(ρ q).blk, (ρ q).base, none⟩) (txt ρ 2).size c) (encD (txt ρ 0).data.toList (txt ρ 1).data.toList) := by
      rw [← k0.2.2.enc]
      refine ⟨_, c, rfl, by simpa using hc, hm, fun _ => ⟨_, _, rfl, fun j hj => ?_⟩⟩
      have hj2 : j < (txt ρ 2).size := by simpa using hj
      rw [hO.2 j hj2]
      rfl
    have HE := Lib.hid (encode_of hE hev hT k0 k1)
    refine (op_decode _ (txt ρ 0) (txt ρ 1) w (by omega) (by omega) hU hg3 hg4 k1.2.2.valid hb HE).mono ?_
    rintro e w' ⟨X, cap, rfl, hR, hX, hbw⟩
    have ht := txt_upd (ρ := ρ) h.nx { blk := X, base := 0, cap := cap } h0
    have hlt := fun r (hr : h.t.get r ≠ .no) => E.blk_lt' (q := r) hr
    have hcap := hR.cap
    have hone := hR.one
    obtain ⟨E1, s1⟩ := E.lay (w' := w') h.t (fun _ => .inr rfl) (.bk 31 9 vt) (by simp) { blk := X, base := 0, cap := cap } hbw.size (Nat.le_trans E.base hX)
      (fun r hr => hbw.block _ (hlt r hr)) (fun r hr e => by have := hlt r hr; rw [e] at this; exact absurd this (by show ¬ X < _; omega)) (fun c hc _ => hbw.block c hc) (.inr hX) hbw.os hbw.tape hbw.output
      (fun ty n v' he => by
        cases he
        refine RowOp.rowE (by rw [ht]; exact hR) rfl (syOk_upd _ _ h0 k0) (syOk_upd _ _ h0 k1) (by rw [Q.num_succ]; omega) hvt)
      (by intro _ he; cases he)
    refine ⟨_, _, _, E1, s1, ?_, h6⟩
    generalize hρ : upd ρ h.nx { blk := X, base := 0, cap := cap } = ρ1 at *
    have hqx : ρ1 h.nx = { blk := X, base := 0, cap := cap } := by rw [← hρ]; exact upd_same _ _ _
    have hsl := Rel.slu (ρ := ρ1) (N := h.nx.succ.num) h.nx 0 1 0 1 (by rw [Q.num_succ]; omega) (Nat.le_refl _) (by rw [hqx]; show 1 + 0 ≤ cap; omega) (by rw [hqx]; exact hcap)
    rw [hqx] at hsl
    have hval : Rel ρ1 h.nx.succ.num (.a [.i .i64 9223372036854775809, .i .i64 9223372036854775809, .sl h.nx 0 1 (.u 0 1)]) (.agg #[.int .i64 1, .int .i64 1, .slice (some ⟨X, 0, none⟩) 1 cap]) :=
      Rel.a _ [.int .i64 1, .int .i64 1, .slice (some ⟨X, 0, none⟩) 1 cap] (.cons _ _ _ _ (Rel.i .i64 9223372036854775809) (.cons _ _ _ _ (Rel.i .i64 9223372036854775809) (.cons _ _ _ _ (by simpa using hsl) .nil))) (by simp [Value.oneCell'])
    exact Rel.t _ [_, _] (.cons _ _ _ _ hval (.cons _ _ _ _ (Rel.i .i64 9223372036854775808) .nil))
end Go.Proofs.YtmddhlfjilkdfaaGreatDoor
namespace Go.Proofs.YtmddhlfjilkdfaaGreatDoor
set_option linter.unusedVariables false
set_option linter.unusedSimpArgs false

/-- A text's byte. -/
def byA (l : List UInt8) (i : Nat) : Nat := (l.getD i 0).toNat
/-- The bytes behind the first, as the document joins them. -/
def contGo (l : List UInt8) : Nat → Nat → Nat → Option Nat
  | 0, _, r => some r
  | f + 1, i, r => if byA l i < 128 ∨ 191 < byA l i then none else contGo l f (i + 1) (r * 64 + byA l i - 128)
def endGo (low n : Nat) : Option Nat → Nat × Nat
  | none => (65533, 1)
  | some r => if r < low ∨ 1114111 < r ∨ (55296 ≤ r ∧ r < 57344) then (65533, 1) else (r, n)
theorem endGo_no (low n : Nat) : endGo low n none = (65533, 1) := rfl
theorem endGo_ok (low n r : Nat) : endGo low n (some r) = if r < low ∨ 1114111 < r ∨ (55296 ≤ r ∧ r < 57344) then (65533, 1) else (r, n) := rfl
def armGo (l : List UInt8) (n low r : Nat) : Nat × Nat := if l.length < n then (65533, 1) else endGo low n (contGo l (n - 1) 1 r)
def refD (l : List UInt8) : Nat × Nat :=
  if byA l 0 < 128 then (byA l 0, 1)
  else if 192 ≤ byA l 0 ∧ byA l 0 < 224 then armGo l 2 128 (byA l 0 - 192)
  else if 224 ≤ byA l 0 ∧ byA l 0 < 240 then armGo l 3 2048 (byA l 0 - 224)
  else if 240 ≤ byA l 0 ∧ byA l 0 < 248 then armGo l 4 65536 (byA l 0 - 240)
  else (65533, 1)
theorem contGo2 (l : List UInt8) (r : Nat) : contGo l 1 1 r = if byA l 1 < 128 ∨ 191 < byA l 1 then none else some (r * 64 + byA l 1 - 128) := rfl
theorem contGo3 (l : List UInt8) (r : Nat) : contGo l 2 1 r = if byA l 1 < 128 ∨ 191 < byA l 1 then none else if byA l 2 < 128 ∨ 191 < byA l 2 then none else some ((r * 64 + byA l 1 - 128) * 64 + byA l 2 - 128) := rfl
theorem contGo4 (l : List UInt8) (r : Nat) : contGo l 3 1 r = if byA l 1 < 128 ∨ 191 < byA l 1 then none else if byA l 2 < 128 ∨ 191 < byA l 2 then none else if byA l 3 < 128 ∨ 191 < byA l 3 then none else some (((r * 64 + byA l 1 - 128) * 64 + byA l 2 - 128) * 64 + byA l 3 - 128) := rfl

set_option maxRecDepth 100000 in
set_option maxHeartbeats 4000000 in
theorem arm2_eq (n b0 b1 b2 b3 : Nat) (hn : 1 ≤ n) (h1 : b1 < 256) (hb : 192 ≤ b0 ∧ b0 < 224) :
    (if n < 2 then (65533, 1) else endGo 128 2 (if b1 < 128 ∨ 191 < b1 then none else some ((b0 - 192) * 64 + b1 - 128))) = Lib.decodeN n b0 b1 b2 b3 := by
  unfold Lib.decodeN
  by_cases hn2 : n < 2
  · rw [if_pos hn2]
    repeat' split
    all_goals first | rfl | (exfalso; omega)
  · rw [if_neg hn2]
    by_cases hc : b1 < 128 ∨ 191 < b1
    · rw [if_pos hc, endGo_no]
      repeat' split
      all_goals first | rfl | (exfalso; omega)
    · rw [if_neg hc, endGo_ok]
      repeat' split
      all_goals first | rfl | (exfalso; omega) | (apply Prod.ext <;> simp only <;> omega)
set_option maxRecDepth 100000 in
set_option maxHeartbeats 4000000 in
theorem arm3_eq (n b0 b1 b2 b3 : Nat) (hn : 1 ≤ n) (h1 : b1 < 256) (h2 : b2 < 256) (hb : 224 ≤ b0 ∧ b0 < 240) :
    (if n < 3 then (65533, 1) else endGo 2048 3 (if b1 < 128 ∨ 191 < b1 then none else if b2 < 128 ∨ 191 < b2 then none else some (((b0 - 224) * 64 + b1 - 128) * 64 + b2 - 128))) = Lib.decodeN n b0 b1 b2 b3 := by
  unfold Lib.decodeN
  by_cases hn2 : n < 3
  · rw [if_pos hn2]
    repeat' split
    all_goals first | rfl | (exfalso; omega)
  · rw [if_neg hn2]
    by_cases hc : b1 < 128 ∨ 191 < b1
    · rw [if_pos hc, endGo_no]
      repeat' split
      all_goals first | rfl | (exfalso; omega)
    · rw [if_neg hc]
      by_cases hc2 : b2 < 128 ∨ 191 < b2
      · rw [if_pos hc2, endGo_no]
        repeat' split
        all_goals first | rfl | (exfalso; omega)
      · rw [if_neg hc2, endGo_ok]
        repeat' split
        all_goals first | rfl | (exfalso; omega) | (apply Prod.ext <;> simp only <;> omega)
set_option maxRecDepth 100000 in
set_option maxHeartbeats 8000000 in
theorem arm4_eq (n b0 b1 b2 b3 : Nat) (hn : 1 ≤ n) (h1 : b1 < 256) (h2 : b2 < 256) (h3 : b3 < 256) (hb : 240 ≤ b0 ∧ b0 < 248) :
    (if n < 4 then (65533, 1) else endGo 65536 4 (if b1 < 128 ∨ 191 < b1 then none else if b2 < 128 ∨ 191 < b2 then none else if b3 < 128 ∨ 191 < b3 then none else some ((((b0 - 240) * 64 + b1 - 128) * 64 + b2 - 128) * 64 + b3 - 128))) = Lib.decodeN n b0 b1 b2 b3 := by
  unfold Lib.decodeN
  by_cases hn2 : n < 4
  · rw [if_pos hn2]
    repeat' split
    all_goals first | rfl | (exfalso; omega)
  · rw [if_neg hn2]
    by_cases hc : b1 < 128 ∨ 191 < b1
    · rw [if_pos hc, endGo_no]
      repeat' split
      all_goals first | rfl | (exfalso; omega)
    · rw [if_neg hc]
      by_cases hc2 : b2 < 128 ∨ 191 < b2
      · rw [if_pos hc2, endGo_no]
        repeat' split
        all_goals first | rfl | (exfalso; omega)
      · rw [if_neg hc2]
        by_cases hc3 : b3 < 128 ∨ 191 < b3
        · rw [if_pos hc3, endGo_no]
          repeat' split
          all_goals first | rfl | (exfalso; omega)
        · rw [if_neg hc3, endGo_ok]
          repeat' split
          all_goals first | rfl | (exfalso; omega) | (apply Prod.ext <;> simp only <;> omega)
theorem refD_eq {l : List UInt8} (h : l ≠ []) : refD l = Lib.decodeL l := by
  have hn : 1 ≤ l.length := by cases l with | nil => exact (h rfl).elim | cons => simp
  have hb : ∀ i, byA l i < 256 := fun i => UInt8.toNat_lt _
  have b0 := hb 0; have b1 := hb 1; have b2 := hb 2; have b3 := hb 3
  rw [Lib.decodeL_N]
  show _ = Lib.decodeN l.length (byA l 0) (byA l 1) (byA l 2) (byA l 3)
  unfold refD armGo
  by_cases h0 : byA l 0 < 128
  · rw [if_pos h0]
    unfold Lib.decodeN
    rw [if_pos h0]
  · rw [if_neg h0]
    by_cases h1 : 192 ≤ byA l 0 ∧ byA l 0 < 224
    · rw [if_pos h1, show 2 - 1 = 1 from rfl, contGo2]
      exact arm2_eq _ _ _ _ _ hn b1 h1
    · rw [if_neg h1]
      by_cases h2 : 224 ≤ byA l 0 ∧ byA l 0 < 240
      · rw [if_pos h2, show 3 - 1 = 2 from rfl, contGo3]
        exact arm3_eq _ _ _ _ _ hn b1 b2 h2
      · rw [if_neg h2]
        by_cases h3 : 240 ≤ byA l 0 ∧ byA l 0 < 248
        · rw [if_pos h3, show 4 - 1 = 3 from rfl, contGo4]
          exact arm4_eq _ _ _ _ _ hn b1 b2 b3 h3
        · rw [if_neg h3]
          unfold Lib.decodeN
          repeat' split
          all_goals first | rfl | (exfalso; omega)
/-- What the decoder tells: a rune up to 0x10ffff, a width of 1 to 4 bytes that are there; U+FFFD takes three bytes, or one that does not go. -/
theorem decodeL_ok {l : List UInt8} (h : l ≠ []) : (Lib.decodeL l).1 ≤ 1114111 ∧ 1 ≤ (Lib.decodeL l).2 ∧ (Lib.decodeL l).2 ≤ l.length ∧ ((Lib.decodeL l).1 = 65533 → (Lib.decodeL l).2 = 1 ∨ (Lib.decodeL l).2 = 3) := by
  have hn : 1 ≤ l.length := by cases l with | nil => exact (h rfl).elim | cons => simp
  refine ⟨Lib.decodeL_rune l, Lib.decodeL_width l, ?_, ?_⟩
  · rw [Lib.decodeL_N]
    unfold Lib.decodeN
    repeat' split
    all_goals (simp only; omega)
  · rw [Lib.decodeL_N]
    unfold Lib.decodeN
    repeat' split
    all_goals first | (intro _; left; rfl) | (intro _; right; rfl) | (intro h; exfalso; simp only at h; omega)
end Go.Proofs.YtmddhlfjilkdfaaGreatDoor
namespace Go.Proofs.YtmddhlfjilkdfaaGreatDoor
set_option linter.unusedVariables false
set_option linter.unusedSimpArgs false
open Go.RowKit

theorem byA_get (s : ByteArray) (i : Nat) (h : i < s.size) : (s[i]'h).toNat = byA s.data.toList i := by
  unfold byA
  rw [List.getD_eq_getElem?_getD, List.getElem?_eq_getElem (by simpa using h)]
  rfl
/-- A rune and its bytes, as values. -/
def runeV (d : Nat × Nat) : Value := .tuple #[.int .i32 (d.1 : Int), .int .i64 (d.2 : Int)]
set_option maxRecDepth 100000 in
set_option maxHeartbeats 2000000 in
theorem ref_decode (s : ByteArray) (w : World) (hs : 0 < s.size) (hs2 : s.size ≤ 9223372036854775807) :
    Calls Tryz.prog 28 #[.string s] w fun e w' => e = .returned (runeV (refD s.data.toList)) ∧ w' = w := by
  have hemp : s.toList.isEmpty = false := by
    rw [ByteArray.toList_eq]
    cases h : s.data.toList with
    | nil => have h2 : s.data.toList.length = s.size := by simp
             rw [h] at h2; simp at h2; omega
    | cons => rfl
  have hby := byA_get s
  have hlen : s.data.toList.length = s.size := by simp
  generalize s.data.toList = l at *
  have h0 := hby 0 hs
  have hc8 := (s[0]'hs).toNat_lt
  have HBY := Lib.hid hby
  clear hby
  rw [h0] at hc8
  generalize hb : byA l 0 = b at *
  have HR : Hid (refD l = if b < 128 then (b, 1) else if 192 ≤ b ∧ b < 224 then armGo l 2 128 (b - 192) else if 224 ≤ b ∧ b < 240 then armGo l 3 2048 (b - 224) else if 240 ≤ b ∧ b < 248 then armGo l 4 65536 (b - 240) else (65533, 1)) := Lib.hid (by rw [← hb]; rfl)
  generalize hd : refD l = d at *
  clear hd hb
  unfold runeV
  go_enter Tryz.func28, Tryz.ntmps28
  by_cases c1 : b < 128
  · have c1' : (b : Int) < 128 := by omega
    have D := HR.out
    rw [if_pos c1] at D
    subst D
    clear HR
    go_wp2_with fail
    go_ret2
    exact ⟨rfl, rfl⟩
  · have c1' : ¬ (b : Int) < 128 := by omega
    by_cases c5 : (192 ≤ b ∧ b < 224) ∨ (224 ≤ b ∧ b < 240) ∨ (240 ≤ b ∧ b < 248)
    · go_upto_block 0 with fail
      go_cut [5, 6, 7] (fun x y z wx => ∃ n low r : Nat, x = .int .i64 n ∧ y = .int .i32 low ∧ z = .int .i32 r ∧ wx = w ∧ d = armGo l n low r ∧ 2 ≤ n ∧ n ≤ 4 ∧ (r + 1) * 64 ^ (n - 1) ≤ 2097152 ∧ low ≤ 65536)
      case first =>
        have HD := Lib.hid HR.out
        clear HR
        rcases c5 with c5 | c5 | c5
        · have z1 : (192 : Int) ≤ b := by omega
          have z2 : (b : Int) < 224 := by omega
          go_wp2_with fail
          go_meet
          refine ⟨2, 128, b - 192, rfl, rfl, congrArg (Value.int .i32) (by omega), rfl, ?_, by omega, by omega, by omega, by omega⟩
          rw [HD.out, if_neg c1, if_pos c5]
        · have z1 : (192 : Int) ≤ b := by omega
          have z2 : ¬ (b : Int) < 224 := by omega
          have z3 : (224 : Int) ≤ b := by omega
          have z4 : (b : Int) < 240 := by omega
          go_wp2_with fail
          go_meet
          refine ⟨3, 2048, b - 224, rfl, rfl, congrArg (Value.int .i32) (by omega), rfl, ?_, by omega, by omega, by omega, by omega⟩
          rw [HD.out, if_neg c1, if_neg (by omega), if_pos c5]
        · have z1 : (192 : Int) ≤ b := by omega
          have z2 : ¬ (b : Int) < 224 := by omega
          have z3 : (224 : Int) ≤ b := by omega
          have z4 : ¬ (b : Int) < 240 := by omega
          have z5 : (240 : Int) ≤ b := by omega
          have z6 : (b : Int) < 248 := by omega
          go_wp2_with fail
          go_meet
          refine ⟨4, 65536, b - 240, rfl, rfl, congrArg (Value.int .i32) (by omega), rfl, ?_, by omega, by omega, by omega, by omega⟩
          rw [HD.out, if_neg c1, if_neg (by omega), if_neg (by omega), if_pos c5]
      case rest =>
        obtain ⟨n, low, r, rfl, rfl, rfl, rfl, hd, hn2, hn4, hr, hlow⟩ := hcut
        clear HR c5 c1 c1' hc8 h0
        have HD := Lib.hid hd
        clear hd
        by_cases hsn : s.size < n
        · have z1 : (s.size : Int) < n := by omega
          have D : d = (65533, 1) := by rw [HD.out]; unfold armGo; rw [if_pos (by omega)]
          subst D
          clear HD
          go_wp2_with fail
          go_ret2
          exact ⟨rfl, rfl⟩
        · have z1 : ¬ (s.size : Int) < n := by omega
          have HE : Hid (d = endGo low n (contGo l (n - 1) 1 r)) := Lib.hid (by rw [HD.out]; unfold armGo; rw [if_neg (by omega)])
          clear HD
          go_wp2_with fail
          go_loopw [7, 8] (fun z i wr => ∃ k r : Nat, 1 ≤ k ∧ k ≤ n ∧ z = .int .i32 r ∧ i = .int .i64 k ∧ wr = wc ∧ d = endGo low n (contGo l (n - k) k r) ∧ (r + 1) * 64 ^ (n - k) ≤ 2097152) (fun _ i _ => n - (intOf i).toNat)
          case atStart => exact ⟨1, r, by omega, by omega, rfl, rfl, rfl, HE.out, hr⟩
          case round =>
            clear HE hr
            obtain ⟨k, r, hk1, hkn, rfl, rfl, rfl, he, hr⟩ := hrel
            by_cases hlt : k < n
            · have y1 : (k : Int) < n := by omega
              have hks : k < s.size := by omega
              have g0 := HBY.out k hks
              have hb8 := (s[k]'hks).toNat_lt
              rw [g0] at hb8
              obtain ⟨f, hf⟩ : ∃ f, n - k = f + 1 := ⟨n - k - 1, by omega⟩
              have hf2 : n - (k + 1) = f := by omega
              rw [hf] at he hr
              have hc : contGo l (f + 1) k r = if byA l k < 128 ∨ 191 < byA l k then none else contGo l f (k + 1) (r * 64 + byA l k - 128) := rfl
              rw [hc] at he
              clear hc
              generalize byA l k = b at *
              by_cases hbad : b < 128 ∨ 191 < b
              · rw [if_pos hbad, endGo_no] at he
                subst he
                rcases hbad with hbad | hbad
                · have y2 : (b : Int) < 128 := by omega
                  go_wp2_with fail
                  go_ret2
                  exact ⟨rfl, rfl⟩
                · have y2 : ¬ (b : Int) < 128 := by omega
                  have y3 : (191 : Int) < b := by omega
                  go_wp2_with fail
                  go_ret2
                  exact ⟨rfl, rfl⟩
              · rw [if_neg hbad] at he
                have y2 : ¬ (b : Int) < 128 := by omega
                have y3 : ¬ (191 : Int) < b := by omega
                have hp : 1 ≤ 64 ^ f := Nat.one_le_pow _ _ (by omega)
                have hr2 : (r + 1) * 64 ≤ 2097152 := by
                  refine Nat.le_trans ?_ hr
                  rw [Nat.pow_succ, Nat.mul_comm (64 ^ f) 64, ← Nat.mul_assoc]
                  exact Nat.le_mul_of_pos_right _ hp
                have hr3 : (r * 64 + b - 128 + 1) * 64 ^ f ≤ 2097152 := by
                  refine Nat.le_trans ?_ hr
                  rw [Nat.pow_succ, Nat.mul_comm (64 ^ f) 64, ← Nat.mul_assoc]
                  exact Nat.mul_le_mul_right _ (by omega)
                have HE := Lib.hid (And.intro he hr3)
                clear he hr hr3 hp hf
                go_wp2_with fail
                go_roundw
                case rel => exact ⟨k + 1, r * 64 + b - 128, by omega, by omega, congrArg (Value.int .i32) (by omega), by go_num, (by first | exact rfl | trivial), by rw [hf2]; exact HE.out.1, by rw [hf2]; exact HE.out.2⟩
                case measure => simp [intOf]; omega
            · obtain rfl : k = n := by omega
              have hnn : k - k = 0 := Nat.sub_self k
              rw [hnn] at he hr
              have hc : contGo l 0 k r = some r := rfl
              rw [hc, endGo_ok] at he
              have hr2 : r ≤ 2097152 := by simp at hr; omega
              clear hr hc hnn
              by_cases q1 : r < low
              · have y1 : (r : Int) < low := by omega
                rw [if_pos (by omega)] at he
                subst he
                go_wp2_with fail
                go_ret2
                exact ⟨rfl, rfl⟩
              · have y1 : ¬ (r : Int) < low := by omega
                by_cases q2 : 1114111 < r
                · have y2 : (1114111 : Int) < r := by omega
                  rw [if_pos (by omega)] at he
                  subst he
                  go_wp2_with fail
                  go_ret2
                  exact ⟨rfl, rfl⟩
                · have y2 : ¬ (1114111 : Int) < r := by omega
                  by_cases q3 : 55296 ≤ r
                  · have y3 : (55296 : Int) ≤ r := by omega
                    by_cases q4 : r < 57344
                    · have y4 : (r : Int) < 57344 := by omega
                      rw [if_pos (by omega)] at he
                      subst he
                      go_wp2_with fail
                      go_ret2
                      exact ⟨rfl, rfl⟩
                    · have y4 : ¬ (r : Int) < 57344 := by omega
                      rw [if_neg (by omega)] at he
                      subst he
                      go_wp2_with fail
                      go_ret2
                      exact ⟨rfl, rfl⟩
                  · have y3 : ¬ (55296 : Int) ≤ r := by omega
                    rw [if_neg (by omega)] at he
                    subst he
                    go_wp2_with fail
                    go_ret2
                    exact ⟨rfl, rfl⟩
    · have D := HR.out
      rw [if_neg c1, if_neg (by omega), if_neg (by omega), if_neg (by omega)] at D
      subst D
      clear HR
      by_cases c6 : b < 192
      · have z1 : ¬ (192 : Int) ≤ b := by omega
        have z2 : ¬ (224 : Int) ≤ b := by omega
        have z3 : ¬ (240 : Int) ≤ b := by omega
        go_wp2_with fail
        go_ret2
        exact ⟨rfl, rfl⟩
      · have z1 : (192 : Int) ≤ b := by omega
        have z2 : (224 : Int) ≤ b := by omega
        have z3 : (240 : Int) ≤ b := by omega
        have z4 : ¬ (b : Int) < 224 := by omega
        have z5 : ¬ (b : Int) < 240 := by omega
        have z6 : ¬ (b : Int) < 248 := by omega
        go_wp2_with fail
        go_ret2
        exact ⟨rfl, rfl⟩
end Go.Proofs.YtmddhlfjilkdfaaGreatDoor
namespace Go.Proofs.YtmddhlfjilkdfaaGreatDoor
set_option linter.unusedVariables false
set_option linter.unusedSimpArgs false
open Go.ChangeShapes Go.WideShapes Go.ChangeAt Go.RowKit

theorem info_i32 : (Tryz.prog.info? 21).map (fun i => (i.zero, i.size, i.bytes)) = some (some (.int .i32 0), 1, 4) := by kernel_rfl
theorem info_i64b : (Tryz.prog.info? 3).map (fun i => (i.zero, i.size, i.bytes)) = some (some (.int .i64 0), 1, 8) := by kernel_rfl
/-- Runes, as cells. -/
def runeCs (l : List Nat) : List Value := l.map fun r : Nat => Value.int .i32 (r : Int)
theorem sub_data (s : ByteArray) (i : Nat) : (s.extract i s.size).data.toList = s.data.toList.drop i := by
  rw [Lib.extract_data, List.take_of_length_le (by simp)]
theorem runesL_nil : ∀ f, runesL f [] = []
  | 0 => rfl
  | _ + 1 => rfl
theorem validGoD_nil : ∀ f, Lib.validGoD f [] = true
  | 0 => rfl
  | _ + 1 => rfl
set_option maxRecDepth 100000 in
set_option maxHeartbeats 2000000 in
theorem ref_runes (s : ByteArray) (w : World) (hs : s.size ≤ 1048576) :
    Calls Tryz.prog 17 #[.string s] w fun e w' => ∃ v u, e = .returned (.tuple #[v, u, .bool (Lib.validD s.data.toList)]) ∧ Row w' 21 v (runeCs (runesL s.size s.data.toList)) ∧ Below w.heap.size w w' := by
  have hlen : s.data.toList.length = s.size := by simp
  have HD := Lib.hid (fun i => sub_data s i)
  generalize s.data.toList = l at *
  go_enter Tryz.func17, Tryz.ntmps17
  go_wp2_with fail
  go_loopw [5, 6, 7, 8] (fun v u g i wr => ∃ (pos f : Nat) (good : Bool) (R : List Nat) (ys : List Value), i = .int .i64 pos ∧ g = .bool good ∧ pos ≤ s.size ∧ s.size - pos ≤ f ∧ runesL s.size l = R ++ runesL f (l.drop pos) ∧ Lib.validD l = (good && Lib.validGoD f (l.drop pos)) ∧ Row wr 21 v (runeCs R) ∧ Row wr 3 u ys ∧ ys.length = R.length ∧ R.length ≤ pos ∧ (∀ g, v.ownBlock = some g → w.heap.size ≤ g) ∧ (∀ g, u.ownBlock = some g → w.heap.size ≤ g) ∧ (∀ g, v.ownBlock = some g → u.ownBlock ≠ some g) ∧ Below w.heap.size w wr) (fun _ _ _ i _ => s.size - (intOf i).toNat)
  case atStart => exact ⟨0, s.size, true, [], [], rfl, rfl, by omega, by omega, rfl, by rw [← hlen]; rfl, Row.nil _ _, Row.nil _ _, rfl, Nat.le_refl _, (fun g h => by cases h), (fun g h => by cases h), (fun g h => by cases h), Below.refl _ _⟩
  case round =>
    obtain ⟨pos, f, good, R, ys, rfl, rfl, hpos, hf, hr, hv, hrow, hrow2, hy, hR, hb1, hb2, hne, hbel⟩ := hrel
    by_cases hlt : pos < s.size
    · have y1 : (pos : Int) < s.size := by omega
      obtain ⟨f, rfl⟩ : ∃ f', f = f' + 1 := ⟨f - 1, by omega⟩
      have hnil : l.drop pos ≠ [] := by intro e; have := congrArg List.length e; rw [List.length_drop, List.length_nil] at this; omega
      have hsx : (s.extract pos s.size).size = s.size - pos := by
        have h1 := congrArg List.length (HD.out pos)
        rw [List.length_drop] at h1
        have h2 : (s.extract pos s.size).data.toList.length = (s.extract pos s.size).size := by simp
        omega
      have hdec := ref_decode (s.extract pos s.size) wr (by omega) (by omega)
      rw [HD.out pos, refD_eq hnil] at hdec
      obtain ⟨d1, d2, d3, d4⟩ := decodeL_ok hnil
      rw [List.length_drop] at d3
      have hr2 : runesL s.size l = (R ++ [(Lib.decodeL (l.drop pos)).1]) ++ runesL f (l.drop (pos + (Lib.decodeL (l.drop pos)).2)) := by
        rw [hr, runesL, if_neg hnil, List.drop_drop]
        simp
      have hv2 : Lib.validD l = ((good && ((!decide ((Lib.decodeL (l.drop pos)).1 = 65533)) || decide ((Lib.decodeL (l.drop pos)).2 = 3))) && Lib.validGoD f (l.drop (pos + (Lib.decodeL (l.drop pos)).2))) := by
        rw [hv, Lib.validGoD, if_neg hnil, List.drop_drop]
        by_cases e1 : (Lib.decodeL (l.drop pos)).1 = 65533
        · rcases d4 e1 with e2 | e2
          · rw [if_pos ⟨e1, e2⟩, e1, e2]; simp
          · rw [if_neg (by omega), e1, e2]; simp
        · rw [if_neg (by simp [e1]), decide_eq_false e1]; simp
      generalize hd : Lib.decodeL (l.drop pos) = d at *
      obtain ⟨r, n⟩ := d
      dsimp only at d1 d2 d3 d4 hr2 hv2
      unfold runeV at hdec
      dsimp only at hdec
      have hbA := (Below.refl wr.heap.size wr).alloc (Nat.le_refl _) (.cells #[Value.int .i32 (r : Int)] 21)
      have hlt5 := hrow.lt
      have hlt6 := hrow2.lt
      have hown : Row (wr.alloc (.cells #[Value.int .i32 (r : Int)] 21)) 21 u5 (runeCs R) := hrow.keeps (Keeps.of_below (F := []) hbA) (by simp)
      have hown6 : Row (wr.alloc (.cells #[Value.int .i32 (r : Int)] 21)) 3 u6 ys := hrow2.keeps (Keeps.of_below (F := []) hbA) (by simp)
      have hsrc := Reads.fresh wr [Value.int .i32 (r : Int)] 21 (0, 0) #[.int .i32 (r : Int)] 1 rfl rfl (by simp)
      have hRl : (runeCs R).length = R.length := by simp [runeCs]
      have HH := Lib.hid (And.intro hdec (And.intro hr2 hv2))
      have HOWN := Lib.hid (And.intro hown (And.intro hown6 hsrc))
      have HLT := Lib.hid (And.intro hlt5 (And.intro hlt6 (And.intro hb1 (And.intro hb2 hne))))
      clear hdec hr2 hv2 hr hv hown hown6 hsrc hlt5 hlt6 hb1 hb2 hne hd hnil hsx hrow hrow2
      go_wp2_with fail
      refine HH.out.1.mono ?_
      rintro e w1 ⟨rfl, rfl⟩
      go_wp2_with (at_builtin; refine wpList_append_row 44 21 (.int .i32 0) 4 Tryz.underlying44 info_i32 rfl rfl _ _ rfl HOWN.out.1 HOWN.out.2.2 (by simp [Value.oneCell']) rfl rfl (by simp [maxLen]; omega) (by simp; omega) ?_)
      intro v2 w2 ho2 hg2 hk2
      have hbB : Below w.heap.size w w2 := (hbel.trans (hbA.mono hbel.size)).grown hg2 (by have := hbel.size; have := hbA.size; omega) HLT.out.2.2.1
      have hgA : Keeps u5.ownBlock.toList (w1.alloc (.cells #[Value.int .i32 (r : Int)] 21)) w2 := Keeps.of_grown hg2
      have hlA : (w1.alloc (.cells #[Value.int .i32 (r : Int)] 21)).heap.size = w1.heap.size + 1 := Array.size_push ..
      have hs2 := hg2.size
      rw [hlA] at hs2
      have h62 : Row w2 3 u6 ys := HOWN.out.2.1.keeps hgA (fun g hg hx => HLT.out.2.2.2.2 g (by simpa using hx) hg)
      have hbC := (Below.refl w2.heap.size w2).alloc (Nat.le_refl _) (.cells #[Value.int .i64 (pos : Int)] 3)
      have hown : Row (w2.alloc (.cells #[Value.int .i64 (pos : Int)] 3)) 3 u6 ys := h62.keeps (Keeps.of_below (F := []) hbC) (by simp)
      have hown5 : Row (w2.alloc (.cells #[Value.int .i64 (pos : Int)] 3)) 21 v2 (runeCs R ++ [Value.int .i32 (r : Int)]) := ho2.keeps (Keeps.of_below (F := []) hbC) (by simp)
      have hsrc := Reads.fresh w2 [Value.int .i64 (pos : Int)] 3 (0, 0) #[.int .i64 (pos : Int)] 1 rfl rfl (by simp)
      have HOWN2 := Lib.hid (And.intro hown (And.intro hown5 hsrc))
      have HK2 := Lib.hid hk2
      clear hown hown5 hsrc h62 hgA hg2 hk2 ho2 hlA HOWN
      go_wp2_with (at_builtin; refine wpList_append_row 45 3 (.int .i64 0) 8 Tryz.underlying45 info_i64b rfl rfl _ _ rfl HOWN2.out.1 HOWN2.out.2.2 (by simp [Value.oneCell']) rfl rfl (by simp [maxLen]; omega) (by simp; omega) ?_)
      intro v3 w3 ho3 hg3 hk3
      have hbD : Below w.heap.size w w3 := (hbB.trans (hbC.mono hbB.size)).grown hg3 (by have := hbB.size; have := hbC.size; omega) HLT.out.2.2.2.1
      have hlC : (w2.alloc (.cells #[Value.int .i64 (pos : Int)] 3)).heap.size = w2.heap.size + 1 := Array.size_push ..
      have hR3 : Row w3 21 v2 (runeCs (R ++ [r])) := by
        have h1 := HOWN2.out.2.1.keeps (Keeps.of_grown hg3) (fun g hg hx => by
          have hx : u6.ownBlock = some g := by simpa using hx
          rcases HK2.out g hg with h | h
          · exact HLT.out.2.2.2.2 g h hx
          · have := HLT.out.2.1 g hx
            omega)
        unfold runeCs at h1 ⊢
        rw [List.map_append]
        exact h1
      have hbv2 : ∀ g, v2.ownBlock = some g → w.heap.size ≤ g := fun g hg => (HK2.out g hg).elim (HLT.out.2.2.1 g) (fun h => by have := hbel.size; omega)
      have hbv3 : ∀ g, v3.ownBlock = some g → w.heap.size ≤ g := fun g hg => (hk3 g hg).elim (HLT.out.2.2.2.1 g) (fun h => by have := hbB.size; omega)
      have hnev : ∀ g, v2.ownBlock = some g → v3.ownBlock ≠ some g := fun g h1 h2 => by
        have hlt2 := HOWN2.out.2.1.lt g h1
        rw [hlC] at hlt2
        rcases hk3 g h2 with h3 | h3
        · rcases HK2.out g h1 with h | h
          · exact HLT.out.2.2.2.2 g h h3
          · have := HLT.out.2.1 g h3
            omega
        · omega
      have HZ := Lib.hid (And.intro hR3 (And.intro ho3 (And.intro hbv2 (And.intro hbv3 (And.intro hnev hbD)))))
      have hg7 : ∃ g2 : Bool, (good && (!decide (r = 65533) || decide (n = 3))) = g2 := ⟨_, rfl⟩
      obtain ⟨g2, hg7⟩ := hg7
      have HG7 := Lib.hid hg7
      clear hR3 hbv2 hbv3 hnev hbD ho3 hk3 hg3 HOWN2 HK2 hbC hbB hbA hbel HLT hlC hg7
      have hrel0 : pos + n ≤ s.size ∧ s.size - (pos + n) ≤ f ∧ runesL s.size l = (R ++ [r]) ++ runesL f (l.drop (pos + n)) ∧ Lib.validD l = (g2 && Lib.validGoD f (l.drop (pos + n))) ∧ Row w3 21 v2 (runeCs (R ++ [r])) ∧ Row w3 3 v3 (ys ++ [Value.int .i64 (pos : Int)]) ∧ (ys ++ [Value.int .i64 (pos : Int)]).length = (R ++ [r]).length ∧ (R ++ [r]).length ≤ pos + n ∧ (∀ g, v2.ownBlock = some g → w.heap.size ≤ g) ∧ (∀ g, v3.ownBlock = some g → w.heap.size ≤ g) ∧ (∀ g, v2.ownBlock = some g → v3.ownBlock ≠ some g) ∧ Below w.heap.size w w3 :=
        ⟨by omega, by omega, HH.out.2.1, by rw [HH.out.2.2, HG7.out], HZ.out.1, HZ.out.2.1, by simp [hy], by simp; omega, HZ.out.2.2.1, HZ.out.2.2.2.1, HZ.out.2.2.2.2.1, HZ.out.2.2.2.2.2⟩
      have HREL := Lib.hid hrel0
      clear hrel0 HZ HH HD
      by_cases q1 : good = true
      · subst q1
        by_cases q2 : r = 65533
        · have z2 : (r : Int) = 65533 := by omega
          by_cases q3 : n = 3
          · have z3 : (n : Int) = 3 := by omega
            obtain rfl : g2 = true := by rw [← HG7.out, decide_eq_true q3]; simp
            clear HG7
            go_wp2_with fail
            go_roundw
            case rel => exact ⟨pos + n, f, true, R ++ [r], ys ++ [Value.int .i64 (pos : Int)], by go_num, rfl, HREL.out⟩
            case measure => simp [intOf]; omega
          · have z3 : ¬ (n : Int) = 3 := by omega
            have z4 : decide ((n : Int) = 3) = false := decide_eq_false z3
            have z5 : ((n : Int) == 3) = false := by simpa using z3
            obtain rfl : g2 = false := by rw [← HG7.out, decide_eq_false q3, decide_eq_true q2]; rfl
            clear HG7
            go_wp2_with fail
            go_roundw
            case rel => exact ⟨pos + n, f, false, R ++ [r], ys ++ [Value.int .i64 (pos : Int)], by go_num, rfl, HREL.out⟩
            case measure => simp [intOf]; omega
        · have z2 : ¬ (r : Int) = 65533 := by omega
          have z4 : decide ((r : Int) = 65533) = false := decide_eq_false z2
          obtain rfl : g2 = true := by rw [← HG7.out, decide_eq_false q2]; rfl
          clear HG7
          go_wp2_with fail
          go_roundw
          case rel => exact ⟨pos + n, f, true, R ++ [r], ys ++ [Value.int .i64 (pos : Int)], by go_num, rfl, HREL.out⟩
          case measure => simp [intOf]; omega
      · obtain rfl : good = false := by cases good <;> simp_all
        obtain rfl : g2 = false := by rw [← HG7.out]; rfl
        clear HG7 q1
        go_wp2_with fail
        go_roundw
        case rel => exact ⟨pos + n, f, false, R ++ [r], ys ++ [Value.int .i64 (pos : Int)], by go_num, rfl, HREL.out⟩
        case measure => simp [intOf]; omega
    · obtain rfl : pos = s.size := by omega
      have hd0 : l.drop s.size = [] := List.drop_eq_nil_of_le (by omega)
      rw [hd0, runesL_nil, List.append_nil] at hr
      rw [hd0, validGoD_nil, Bool.and_true] at hv
      have HZ := Lib.hid (And.intro hr (And.intro hv (And.intro hrow hbel)))
      clear hr hv hrow hbel hrow2 hb1 hb2 hne hd0
      go_wp2_with fail
      go_ret3
      rw [HZ.out.1, HZ.out.2.1]
      exact ⟨u5, u6, rfl, HZ.out.2.2.1, HZ.out.2.2.2⟩
end Go.Proofs.YtmddhlfjilkdfaaGreatDoor
