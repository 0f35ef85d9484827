/-
  No claim by itself: frames one behind the other: All. No condition.
-/
import Derived.Test.YtcogmohepcifiaaP5
namespace Go.Proofs.Ytcogmohepcifiaa
open Go.ChangeShapes Go.WideShapes Go.ChangeAt Go.RowKit

theorem info_found : (Try.prog.info? 71).map (fun i => (i.zero, i.size, i.bytes)) = some (some (.agg #[.int .i64 0, .slice none 0 0]), 2, 32) := by kernel_rfl

/-- What All has found so far: a row of its own, each body a slice of bytes. -/
def foundCells (r : Int × Value × List UInt8) : List Value := [.int .i64 r.1, r.2.1]
def FoundO (w : World) (base : Nat) (v : Value) (rs : List (Int × Value × List UInt8)) : Prop :=
  w.ownsRow base 71 2 v rs.length (rs.flatMap foundCells) ∧ ∀ r ∈ rs, OwnB w base 5 r.2.1 r.2.2 ∧ ∀ g, r.2.1.ownBlock = some g → v.ownBlock ≠ some g
def told (rs : List (Int × Value × List UInt8)) : List (Int × List UInt8) := rs.map fun r => (r.1, r.2.2)

theorem foundCells_len (rs : List (Int × Value × List UInt8)) : (rs.flatMap foundCells).length = rs.length * 2 := by
  induction rs with
  | nil => rfl
  | cons r rs ih => simp only [List.flatMap_cons, List.length_append, ih, List.length_cons]; unfold foundCells; simp; omega

theorem FoundO.below {w w' : World} {base : Nat} {v : Value} {rs : List (Int × Value × List UInt8)} (h : FoundO w base v rs) (hb : Below w.heap.size w w') : FoundO w' base v rs :=
  ⟨ownsRow_below h.1 hb, fun r hr => ⟨OwnB.below (h.2 r hr).1 hb, (h.2 r hr).2⟩⟩

section
variable {P : Program}
/-- 'append(out, src...)' of rows whose elements have several cells. -/
theorem wpList_append_recs {w : World} {ops : Array Oper} {rest : List Oper} {o : Oper} {a : Act} {Q : Exit → Act → World → Prop} (t : TypeId) (base e m : Nat) (z : Value) (bytes : Nat)
    (ht : P.underlying t = some (.slice e)) (hinfo : (P.info? e).map (fun i => (i.zero, i.size, i.bytes)) = some (some z, m, bytes)) (hzs : z.cells.size = m) (hm : 0 < m)
    (hgd : o.guard = none) (s x : Operand) (ho : o.op = .call { callee := .builtin .append, args := #[s, x], argTypes := #[t, t] })
    {v : Value} {n : Nat} {l : List Value} (hown : w.ownsRow base e m v n l) {ao : Option Addr} {k c : Nat} {news : List Value} (hl : news.length = k * m)
    (hnews : k ≠ 0 → ∃ ad, ao = some ad ∧ ∀ j u, news[j]? = some u → w.cell? (ad.add j) = some u) (h1 : ∀ u ∈ news, u.oneCell' = true) (hs : a.eval s = v) (hx : a.eval x = .slice ao k c)
    (h63 : n + k ≤ maxLen) (hlen : (n + k) * bytes ≤ 140737488355328) (hbase : base ≤ w.heap.size)
    (h : ∀ v' w', w'.ownsRow base e m v' (n + k) (l ++ news) → w.grownBy w' v.ownBlock → (∀ k, v'.ownBlock = some k → v.ownBlock = some k ∨ w.heap.size ≤ k) → wpList P ops Q rest (a.put o.dst v') w') : wpList P ops Q (o :: rest) a w := by
  obtain ⟨i, hi, hi'⟩ := Option.map_eq_some_iff.1 hinfo
  simp only [Prod.mk.injEq] at hi'
  obtain ⟨hz0, hz1, hz2⟩ := hi'
  exact wpList_append_src (P := P) hgd s x t ho base e i z m bytes ht hi hz0 hz1 hz2 hzs hm v n l hs hown ao k c news hx hl hnews h1 h63 hlen hbase h
end

theorem FoundO.push {w w' : World} {base : Nat} {v v' : Value} {rs : List (Int × Value × List UInt8)} (h : FoundO w base v rs) {k : Int} {bv : Value} {body : List UInt8} (hb : OwnB w base 5 bv body) (hne : ∀ g, bv.ownBlock = some g → v.ownBlock ≠ some g)
    (hown : w'.ownsRow base 71 2 v' (rs.length + 1) (rs.flatMap foundCells ++ [.int .i64 k, bv])) (hg : w.grownBy w' v.ownBlock) (hk : ∀ k, v'.ownBlock = some k → v.ownBlock = some k ∨ w.heap.size ≤ k) : FoundO w' base v' (rs ++ [(k, bv, body)]) := by
  refine ⟨?_, fun r hr => ?_⟩
  · have e : (rs ++ [(k, bv, body)]).flatMap foundCells = rs.flatMap foundCells ++ [.int .i64 k, bv] := by simp [foundCells]
    rw [e, List.length_append]
    exact hown
  · have key : OwnB w base 5 r.2.1 r.2.2 ∧ ∀ g, r.2.1.ownBlock = some g → v.ownBlock ≠ some g := by
      rcases List.mem_append.1 hr with hr | hr
      · exact h.2 r hr
      · obtain rfl := List.mem_singleton.1 hr
        exact ⟨hb, hne⟩
    refine ⟨OwnB.kept key.1 hg ?_, fun g h1 h2 => ?_⟩
    · cases ho : r.2.1.ownBlock with
      | none => exact .inl rfl
      | some g => exact .inr fun e => key.2 g ho e.symm
    · rcases hk g h2 with h3 | h3
      · exact key.2 g h1 h3
      · have := (World.ownsRow.lt key.1 g h1).1
        have := (World.ownsRow.lt key.1 g h1).2
        omega

def RetAll (w : World) (l : List UInt8) (e : Ending) (w' : World) : Prop :=
  ∃ v rs, e = .returned (.tuple #[v, .int .i64 ((allP l).2 : Nat)]) ∧ FoundO w' w.heap.size v rs ∧ told rs = (allP l).1 ∧ Below w.heap.size w w'

set_option maxRecDepth 100000 in
set_option maxHeartbeats 4000000 in
theorem frame_all (v : Value) (l : List UInt8) (w : World) (h : Bytes w v l) (hl : l.length ≤ 1000000) :
    Calls Try.prog 37 #[v] w fun e w' => RetAll w l e w' := by
  have hb := h
  obtain ⟨a, cap, rfl, hcap, hcm, -⟩ := h
  go_enter Try.func37, Try.ntmps37
  go_wp2_with fail
  go_loopw [4, 5] (fun s i wr => ∃ (k : Nat) (rs : List (Int × Value × List UInt8)), k ≤ l.length ∧ i = .int .i64 k ∧ FoundO wr w.heap.size s rs ∧ rs.length ≤ k ∧ Hid (allP l = (told rs ++ (allP (l.drop k)).1, k + (allP (l.drop k)).2)) ∧ Below w.heap.size w wr) (fun _ i _ => l.length - (intOf i).toNat)
  case atStart => exact ⟨0, [], by omega, rfl, ⟨World.ownsRow_nil w _ _ _, by simp⟩, by simp, Lib.hid (by simp [told]), Below.refl _ _⟩
  case round =>
    obtain ⟨k, rs, hk, rfl, hF, hrl, hA, hbel⟩ := hrel
    by_cases hlt : k < l.length
    · have hsub := (hb.below hbel rfl).sub k (l.length - k) (by omega)
      rw [List.take_of_length_le (by rw [List.length_drop]; omega), if_neg (by omega)] at hsub
      have hlen : (l.drop k).length ≤ 1000000000 := by rw [List.length_drop]; omega
      have hOk : (openP (l.drop k)).2.2.2 = 0 → 5 ≤ (openP (l.drop k)).2.2.1 ∧ (openP (l.drop k)).2.2.1 ≤ l.length - k ∧ (openP (l.drop k)).2.1.length ≤ 4000 ∧ 0 ≤ (openP (l.drop k)).1 ∧ (openP (l.drop k)).1 ≤ 255 := fun h => by
        have := openP_ok h
        rw [List.length_drop] at this
        exact this
      have hAy : (openP (l.drop k)).2.2.2 = 0 → allP l = (told rs ++ ((openP (l.drop k)).1, (openP (l.drop k)).2.1) :: (allP (l.drop (k + (openP (l.drop k)).2.2.1))).1, k + (openP (l.drop k)).2.2.1 + (allP (l.drop (k + (openP (l.drop k)).2.2.1))).2) := fun h => by
        rw [hA.out, allP_yes h, List.drop_drop, Nat.add_assoc]
      have hAn : (openP (l.drop k)).2.2.2 ≠ 0 → allP l = (told rs, k) := fun h => by
        rw [hA.out, allP_no h]
        simp
      generalize hr : openP (l.drop k) = r at *
      have HOk := Lib.hid hOk
      have HAy := Lib.hid hAy
      have HAn := Lib.hid hAn
      have HR := Lib.hid hr
      clear hOk hAy hAn hr hA
      obtain ⟨rk, rb, rn, re⟩ := r
      dsimp only at HOk HAy HAn
      go_wp2_with fail
      refine (frame_openO _ _ wr hsub hlen).mono ?_
      rw [HR.out]
      rintro e w2 ⟨bv, rfl, hbv, hb2⟩
      dsimp only at hbv ⊢
      clear HR hsub hlen
      by_cases hre : re = 0
      · subst hre
        obtain ⟨o1, o2, o3, o4, o5⟩ := HOk.out rfl
        have HA := Lib.hid (HAy.out rfl)
        clear HOk HAy HAn
        have hF2 := hF.below hb2
        obtain ⟨ab, nb, cb, hbe⟩ : ∃ a n c, bv = .slice a n c := by
          obtain ⟨a, c, h, _⟩ := hbv.bytes
          exact ⟨a, _, c, h⟩
        subst hbe
        have hb3 : Below w.heap.size w w2 := hbel.trans (hb2.mono hbel.size)
        have hba := (Below.refl w2.heap.size w2).alloc (Nat.le_refl _) (.cells #[Value.int .i64 rk, .slice ab nb cb] 71)
        have hF3 := hF2.below hba
        have hbv3 := OwnB.below hbv hba
        have hne : ∀ g, (Value.slice ab nb cb).ownBlock = some g → u4.ownBlock ≠ some g := fun g h1 h2 => absurd (World.ownsRow.lt hF.1 g h2).2 (Nat.not_lt.2 (World.ownsRow.lt hbv g h1).1)
        have HNE := Lib.hid hne
        have hbvr := OwnB.rebase hbv3 hbel.size
        clear hne hbv3
        have hcell : ∀ j u, ([Value.int .i64 rk, .slice ab nb cb] : List Value)[j]? = some u → (w2.alloc (.cells #[Value.int .i64 rk, .slice ab nb cb] 71)).cell? ((⟨w2.heap.size, 0, none⟩ : Addr).add j) = some u := fun j u hu => by
          rw [Addr.add_lit, Nat.zero_add, World.cell?_alloc_new]
          simpa using hu
        have HC := Lib.hid hcell
        have hb4 : Below w.heap.size w (w2.alloc (.cells #[Value.int .i64 rk, .slice ab nb cb] 71)) := hb3.alloc hb3.size _
        clear hcell hF hF2 hb2 hbel hbv
        rw [show ((0 : Nat) : Int) = 0 from rfl]
        go_wp2_with (at_builtin; refine wpList_append_recs 67 w.heap.size 71 2 (.agg #[.int .i64 0, .slice none 0 0]) 32 Try.underlying67 info_found rfl (by decide) rfl _ _ rfl hF3.1 (news := [Value.int .i64 rk, .slice ab nb cb]) (k := 1) rfl (fun _ => ⟨_, rfl, HC.out⟩) (by simp; exact ⟨rfl, rfl⟩) rfl rfl (by simp [maxLen]; omega) (by omega) hb4.size ?_)
        intro v5 w5 hown5 hg5 hk5
        have hP := FoundO.push hF3 hbvr (k := rk) HNE.out hown5 hg5 (fun k h => (hk5 k h).imp id fun h => by simpa using h)
        have hb5 : Below w.heap.size w w5 := hb4.grown hg5 hb4.size (fun k hk => (World.ownsRow.lt hF3.1 k hk).1)
        clear hF3 hbvr hown5 hg5 hk5 hb4
        go_wp2_with fail
        go_roundw
        case rel => exact ⟨k + rn, _, by omega, by go_num, hP, by simp; omega, Lib.hid (by rw [HA.out]; simp [told]), hb5⟩
        case measure => simp [intOf]; omega
      · have HA := Lib.hid (HAn.out hre)
        have hre' : ((re : Int) != 0) = true := by simp; omega
        clear HOk HAy HAn
        go_wp2_with fail
        go_ret2
        refine ⟨_, rs, ?_, hF.below hb2, by rw [HA.out], hbel.trans (hb2.mono hbel.size)⟩
        rw [HA.out]
        rfl
    · have hkl : k = l.length := by omega
      subst hkl
      have hA2 : allP l = (told rs, l.length) := by
        have := hA.out
        rw [List.drop_length, allP_nil] at this
        simpa using this
      have HA2 := Lib.hid hA2
      clear hA2
      go_wp2_with fail
      go_ret2
      refine ⟨_, rs, ?_, hF, by rw [HA2.out], hbel⟩
      rw [HA2.out]
      rfl
end Go.Proofs.Ytcogmohepcifiaa
