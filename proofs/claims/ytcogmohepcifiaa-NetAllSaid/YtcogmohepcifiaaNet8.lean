/-
  No claim by itself: a net and a list beside it, what each step leaves. No condition.
-/
import Derived.Test.YtcogmohepcifiaaNet7
namespace Go.Proofs.Ytcogmohepcifiaa
open Go.ChangeShapes Go.WideShapes Go.ChangeAt Go.RowKit

/-- The blocks of a net. -/
def InNet (b : Nat) (nv : Value) (ms : List VMsg) (g : Nat) : Prop := g = b ∨ nv.ownBlock = some g ∨ ∃ p ∈ ms, p.1.ownBlock = some g
/-- A net, a list of the law's own (and messages that the law holds), boxes of the law: apart. -/
structure Two (w : World) (base b : Nat) (nv : Value) (ms : List VMsg) (lv : Value) (lm ex : List VMsg) (hs : List Nat) : Prop where
  net : NetS w b nv ms
  l : LOwn w base lv lm
  ents : ∀ p ∈ lm ++ ex, EntO w base p.1 p.2.es
  bb : base ≤ b
  sep : ∀ g, InNet b nv ms g → lv.ownBlock ≠ some g ∧ (∀ p ∈ lm ++ ex, p.1.ownBlock ≠ some g) ∧ g ∉ hs
  apart : ∀ p ∈ lm ++ ex, ∀ g, p.1.ownBlock = some g → lv.ownBlock ≠ some g
  held : ∀ g ∈ hs, g < w.heap.size ∧ base ≤ g ∧ lv.ownBlock ≠ some g
theorem InNet.lt {w : World} {b : Nat} {nv : Value} {ms : List VMsg} (h : NetS w b nv ms) {g : Nat} (hg : InNet b nv ms g) : b ≤ g ∧ g < w.heap.size := by
  rcases hg with rfl | hg | ⟨p, hp, hg⟩
  · exact ⟨Nat.le_refl _, h.lt⟩
  · have := World.ownsRow.lt h.m.row g hg
    exact ⟨by omega, this.2⟩
  · have := World.ownsRow.lt (h.m.ents p hp) g hg
    exact ⟨by omega, this.2⟩
section
variable {w w' : World} {base b : Nat} {nv nv' : Value} {ms ms' : List VMsg} {lv lv' : Value} {lm lm' ex ex' : List VMsg} {hs hs' : List Nat}
theorem Two.below (T : Two w base b nv ms lv lm ex hs) (hb : Below w.heap.size w w') : Two w' base b nv ms lv lm ex hs :=
  ⟨T.net.below hb, T.l.below hb, fun p hp => (T.ents p hp).below hb, T.bb, T.sep, T.apart, fun g hg => ⟨Nat.lt_of_lt_of_le (T.held g hg).1 hb.size, (T.held g hg).2⟩⟩
theorem Two.sub (T : Two w base b nv ms lv lm ex hs) (hex : ∀ p ∈ ex', p ∈ lm ++ ex) (hhs : ∀ g ∈ hs', g ∈ hs) : Two w base b nv ms lv lm ex' hs' := by
  have hm : ∀ p ∈ lm ++ ex', p ∈ lm ++ ex := fun p hp => (List.mem_append.1 hp).elim (fun h => List.mem_append_left _ h) (hex p)
  exact ⟨T.net, T.l, fun p hp => T.ents p (hm p hp), T.bb, fun g hg => ⟨(T.sep g hg).1, fun p hp => (T.sep g hg).2.1 p (hm p hp), fun h => (T.sep g hg).2.2 (hhs g h)⟩, fun p hp => T.apart p (hm p hp), fun g hg => T.held g (hhs g hg)⟩
theorem Two.entLt (T : Two w base b nv ms lv lm ex hs) : ∀ p ∈ lm ++ ex, ∀ g, p.1.ownBlock = some g → g < w.heap.size := fun p hp g hg => (World.ownsRow.lt (T.ents p hp) g hg).2
/-- The net moved on: its own blocks and new ones alone. -/
theorem Two.netTo (T : Two w base b nv ms lv lm ex hs) (hN : NetS w' b nv' ms') (hk : Keeps (b :: nv.ownBlock.toList) w w') (hg : ∀ g, nv'.ownBlock = some g → nv.ownBlock = some g ∨ w.heap.size ≤ g) (hm : ∀ p ∈ ms', p ∈ ms ∨ ∀ g, p.1.ownBlock = some g → w.heap.size ≤ g) :
    Two w' base b nv' ms' lv lm ex hs := by
  have hF : ∀ x ∈ b :: nv.ownBlock.toList, InNet b nv ms x := fun x hx => by
    rcases List.mem_cons.1 hx with rfl | hx
    · exact .inl rfl
    · exact .inr (.inl (by simpa using hx))
  refine ⟨hN, T.l.keeps hk (fun x hx => (T.sep x (hF x hx)).1), fun p hp => (T.ents p hp).keepsD hk (fun x hx => (T.sep x (hF x hx)).2.1 p hp), T.bb, fun g hi => ?_, T.apart, fun g hg => ⟨Nat.lt_of_lt_of_le (T.held g hg).1 hk.size, (T.held g hg).2⟩⟩
  have hc : InNet b nv ms g ∨ w.heap.size ≤ g := by
    rcases hi with rfl | hi | ⟨p, hp, hi⟩
    · exact .inl (.inl rfl)
    · exact (hg g hi).imp (fun h => .inr (.inl h)) id
    · rcases hm p hp with h | h
      · exact .inl (.inr (.inr ⟨p, h, hi⟩))
      · exact .inr (h g hi)
  rcases hc with hc | hc
  · exact T.sep g hc
  · refine ⟨fun e => ?_, fun p hp e => ?_, fun h => ?_⟩
    · have := (T.l.lt g e).2
      omega
    · have := T.entLt p hp g e
      omega
    · have := (T.held g h).1
      omega
/-- What the net's steps leave alone. -/
theorem Two.apartNet (T : Two w base b nv ms lv lm ex hs) {g : Nat} (hg : g ∈ hs) : g ∉ b :: nv.ownBlock.toList := fun hx => by
  have hi : InNet b nv ms g := by
    rcases List.mem_cons.1 hx with rfl | hx
    · exact .inl rfl
    · exact .inr (.inl (by simpa using hx))
  exact (T.sep g hi).2.2 hg
theorem Two.netBase (T : Two w base b nv ms lv lm ex hs) : ∀ x ∈ b :: nv.ownBlock.toList, base ≤ x := fun x hx => by
  have := T.bb
  rcases List.mem_cons.1 hx with rfl | hx
  · exact this
  · have := (World.ownsRow.lt T.net.m.row x (by simpa using hx)).1
    omega
/-- The list moved on. -/
theorem Two.lTo (T : Two w base b nv ms lv lm ex hs) (hL : LOwn w' base lv' lm') (hk : Keeps lv.ownBlock.toList w w') (hg : ∀ g, lv'.ownBlock = some g → lv.ownBlock = some g ∨ w.heap.size ≤ g) (hm : ∀ p ∈ lm', p ∈ lm ++ ex) :
    Two w' base b nv ms lv' lm' ex hs := by
  have hm' : ∀ p ∈ lm' ++ ex, p ∈ lm ++ ex := fun p hp => (List.mem_append.1 hp).elim (hm p) (fun h => List.mem_append_right _ h)
  have hF : ∀ x ∈ lv.ownBlock.toList, lv.ownBlock = some x := fun x hx => by simpa using hx
  refine ⟨T.net.keepsD hk (fun hx => (T.sep b (.inl rfl)).1 (hF _ hx)) (fun x hx e => (T.sep x (.inr (.inl e))).1 (hF x hx)) (fun x hx p hp e => (T.sep x (.inr (.inr ⟨p, hp, e⟩))).1 (hF x hx)), hL, fun p hp => (T.ents p (hm' p hp)).keepsD hk (fun x hx e => T.apart p (hm' p hp) x e (hF x hx)), T.bb, fun g hi => ⟨fun e => ?_, fun p hp => (T.sep g hi).2.1 p (hm' p hp), (T.sep g hi).2.2⟩, fun p hp g e e' => ?_, fun g hh => ⟨Nat.lt_of_lt_of_le (T.held g hh).1 hk.size, (T.held g hh).2.1, fun e => ?_⟩⟩
  · rcases hg g e with h | h
    · exact (T.sep g hi).1 h
    · have := (hi.lt T.net).2
      omega
  · rcases hg g e' with h | h
    · exact T.apart p (hm' p hp) g e h
    · have := T.entLt p (hm' p hp) g e
      omega
  · rcases hg g e with h | h
    · exact (T.held g hh).2.2 h
    · have := (T.held g hh).1
      omega
theorem Two.lBase (T : Two w base b nv ms lv lm ex hs) : ∀ x ∈ lv.ownBlock.toList, base ≤ x := fun x hx => (T.l.lt x (by simpa using hx)).1
theorem Two.apartL (T : Two w base b nv ms lv lm ex hs) {g : Nat} (hg : g ∈ hs) : g ∉ lv.ownBlock.toList := fun hx => (T.held g hg).2.2 (by simpa using hx)
/-- A message is held. -/
theorem Two.hold (T : Two w base b nv ms lv lm ex hs) {p : VMsg} (hp : EntO w base p.1 p.2.es) (h1 : ∀ g, p.1.ownBlock = some g → ¬ InNet b nv ms g ∧ lv.ownBlock ≠ some g) : Two w base b nv ms lv lm (p :: ex) hs := by
  have hc : ∀ q ∈ lm ++ p :: ex, q = p ∨ q ∈ lm ++ ex := fun q hq => by
    rcases List.mem_append.1 hq with h | h
    · exact .inr (List.mem_append_left _ h)
    · rcases List.mem_cons.1 h with h | h
      · exact .inl h
      · exact .inr (List.mem_append_right _ h)
  refine ⟨T.net, T.l, fun q hq => ?_, T.bb, fun g hg => ⟨(T.sep g hg).1, fun q hq e => ?_, (T.sep g hg).2.2⟩, fun q hq g e => ?_, T.held⟩
  · rcases hc q hq with rfl | h
    · exact hp
    · exact T.ents q h
  · rcases hc q hq with rfl | h
    · exact (h1 g e).1 hg
    · exact (T.sep g hg).2.1 q h e
  · rcases hc q hq with rfl | h
    · exact (h1 g e).2
    · exact T.apart q h g e
/-- A message is held whose entries are new. -/
theorem Two.got (T : Two w base b nv ms lv lm ex hs) (hb : Below w.heap.size w w') {p : VMsg} (hp : EntO w' w.heap.size p.1 p.2.es) : Two w' base b nv ms lv lm (p :: ex) hs := by
  have hbs : base ≤ w.heap.size := Nat.le_of_lt (Nat.lt_of_le_of_lt T.bb T.net.lt)
  refine (T.below hb).hold (hp.rebase hbs) (fun g e => ?_)
  have := (World.ownsRow.lt hp g e).1
  refine ⟨fun hi => ?_, fun e' => ?_⟩
  · have := (hi.lt T.net).2
    omega
  · have := (T.l.lt g e').2
    omega
/-- A box of the law's. -/
theorem Two.box (T : Two w base b nv ms lv lm ex hs) (hb : Below w.heap.size w w') (hlt : w.heap.size < w'.heap.size) : Two w' base b nv ms lv lm ex (w.heap.size :: hs) := by
  have T' := T.below hb
  have hbs : base ≤ w.heap.size := Nat.le_of_lt (Nat.lt_of_le_of_lt T.bb T.net.lt)
  refine ⟨T'.net, T'.l, T'.ents, T'.bb, fun g hg => ⟨(T.sep g hg).1, (T.sep g hg).2.1, fun h => ?_⟩, T.apart, fun g hg => ?_⟩
  · rcases List.mem_cons.1 h with h | h
    · have := (hg.lt T.net).2
      omega
    · exact (T.sep g hg).2.2 h
  · rcases List.mem_cons.1 hg with rfl | h
    · refine ⟨hlt, hbs, fun e => ?_⟩
      have := (T.l.lt _ e).2
      omega
    · exact T'.held g h
/-- Another list in new memory, of the list's messages. -/
theorem Two.lNew (T : Two w base b nv ms lv lm ex hs) (hL : LOwn w base lv' lm') (hm : ∀ p ∈ lm', p ∈ lm) (hg : ∀ g, lv'.ownBlock = some g → ¬ InNet b nv ms g ∧ (∀ p ∈ lm ++ ex, p.1.ownBlock ≠ some g) ∧ g ∉ hs) : Two w base b nv ms lv' lm' ex hs := by
  have hm' : ∀ p ∈ lm' ++ ex, p ∈ lm ++ ex := fun p hp => (List.mem_append.1 hp).elim (fun h => List.mem_append_left _ (hm p h)) (fun h => List.mem_append_right _ h)
  exact ⟨T.net, hL, fun p hp => T.ents p (hm' p hp), T.bb, fun g hi => ⟨fun e => (hg g e).1 hi, fun p hp => (T.sep g hi).2.1 p (hm' p hp), (T.sep g hi).2.2⟩, fun p hp g e e' => (hg g e').2.1 p (hm' p hp) e, fun g hh => ⟨(T.held g hh).1, (T.held g hh).2.1, fun e => (hg g e).2.2 hh⟩⟩
/-- Another list that was made behind a world. -/
theorem Two.lNew' (T : Two w base b nv ms lv lm ex hs) (hb : Below w.heap.size w w') (hL : LOwn w' base lv' lm') (hm : ∀ p ∈ lm', p ∈ lm) (hg : ∀ g, lv'.ownBlock = some g → w.heap.size ≤ g) : Two w' base b nv ms lv' lm' ex hs := by
  refine (T.below hb).lNew hL hm (fun g e => ⟨fun hi => ?_, fun p hp e' => ?_, fun hh => ?_⟩)
  · have := (hi.lt T.net).2
    have := hg g e
    omega
  · have := T.entLt p hp g e'
    have := hg g e
    omega
  · have := (T.held g hh).1
    have := hg g e
    omega
end
/-- Take: the message is held. -/
theorem Two.took {w w' : World} {base b : Nat} {nv nv' : Value} {ms ms' : List VMsg} {lv : Value} {lm ex : List VMsg} {hs : List Nat} (T : Two w base b nv ms lv lm ex hs) (hN : NetS w' b nv' ms') (hk : Keeps (b :: nv.ownBlock.toList) w w') (hg : ∀ g, nv'.ownBlock = some g → nv.ownBlock = some g) (hm : ∀ p ∈ ms', p ∈ ms) {p : VMsg} (hp : EntO w' w.heap.size p.1 p.2.es) :
    Two w' base b nv' ms' lv lm (p :: ex) hs := by
  have hbs : base ≤ w.heap.size := Nat.le_of_lt (Nat.lt_of_le_of_lt T.bb T.net.lt)
  refine (T.netTo hN hk (fun g h => .inl (hg g h)) (fun p h => .inl (hm p h))).hold (hp.rebase hbs) (fun g e => ?_)
  have hge := (World.ownsRow.lt hp g e).1
  refine ⟨fun hi => ?_, fun e' => ?_⟩
  · have : InNet b nv ms g := by
      rcases hi with rfl | hi | ⟨q, hq, hi⟩
      · exact .inl rfl
      · exact .inr (.inl (hg g hi))
      · exact .inr (.inr ⟨q, hm q hq, hi⟩)
    have := (this.lt T.net).2
    omega
  · have := (T.l.lt g e').2
    omega
theorem vms_len (ms : List VMsg) : (vms ms).length = ms.length := by unfold vms; rw [List.length_map]
theorem vms_get {ms lm : List VMsg} (h : vms ms = vms lm) (k : Nat) (h1 : k < ms.length) (h2 : k < lm.length) : ms[k].2 = lm[k].2 := by
  have := congrArg (fun l => l[k]?) h
  simpa [vms, h1, h2] using this
theorem vms_erase {ms lm : List VMsg} (h : vms ms = vms lm) (k : Nat) : vms (ms.eraseIdx k) = vms (lm.eraseIdx k) := by
  have : ∀ l : List VMsg, vms (l.eraseIdx k) = (vms l).eraseIdx k := fun l => by
    unfold vms
    rw [List.eraseIdx_eq_take_drop_succ, List.eraseIdx_eq_take_drop_succ, List.map_append, List.map_take, List.map_drop]
  rw [this, this, h]
theorem vms_filter {ms lm : List VMsg} (h : vms ms = vms lm) (id : Int) : vms (ms.filter (notTo id)) = vms (lm.filter (notTo id)) := by
  have : ∀ l : List VMsg, vms (l.filter (notTo id)) = (vms l).filter (fun m => !(m.o == id)) := fun l => by
    unfold vms
    rw [List.filter_map]
    rfl
  rw [this, this, h]
end Go.Proofs.Ytcogmohepcifiaa
