/-
  No claim by itself: num.PutText: what stood in front of the bytes that it writes to stands there still. Conditions: what is written to is the call's own. | the reader of a batch's parts. | value.Of of a text. | value.Get of a text. | the reader's value. | value.Put of a text. Conditions: what is written to is the call's own. | the reader's operation. | the one batch's bytes, by the numbers' and texts' plain functions. | a law on drawn regions of which the last operations (a store, an append) wait for all others: all but they are walked once, in the text's order; then they. | the law of the texts before on drawn regions, with any invariant of the worlds, and with last operations that wait for all others. | op.text of the one batch. No condition.
-/
import Derived.Test.YtmddhlfjilkdfaaGreatDoorE6
import Derived.Test.YtmddhlfjilkdfaaGreatDoorE7
import Derived.Test.YtmddhlfjilkdfaaGreatDoorE3
import Derived.Test.YtmddhlfjilkdfaaGreatDoorE1
import Derived.StillTail
namespace Go.Proofs.YtmddhlfjilkdfaaGreatDoor
set_option linter.unusedVariables false
set_option linter.unusedSimpArgs false
open Go.RowKit

theorem wpList_append_str2 {P : Program} {w : World} {ops : Array Oper} {rest : List Oper} {o : Oper} {a : Act} {Q : Exit → Act → World → Prop} (t u : TypeId) (base : Nat) (e : TypeId)
    (ht : P.underlying t = some (.slice e)) (hu : P.underlying u = some .string) (hinfo : (P.info? e).map (fun i => (i.zero, i.size, i.bytes)) = some (some (.int .u8 0), 1, 1))
    (hgd : o.guard = none) (sl x : Operand) (ho : o.op = .call { callee := .builtin .append, args := #[sl, x], argTypes := #[t, u] })
    {v : Value} {l : List UInt8} (hown : OwnB w base e v l) (s : ByteArray) (hs : a.eval sl = v) (hx : a.eval x = .string s)
    (hlen : l.length + s.size ≤ 140737488355328) (hbase : base ≤ w.heap.size)
    (h : ∀ v' w', OwnB w' base e v' (l ++ s.data.toList) → w.grownBy w' v.ownBlock → (∀ k, v'.ownBlock = some k → v.ownBlock = some k ∨ w.heap.size ≤ k) → OwnB w' base e v l → wpList P ops Q rest (a.put o.dst v') w') : wpList P ops Q (o :: rest) a w := by
  obtain ⟨i, hi, hz, hsize, hby⟩ := info_parts hinfo
  refine wpList_plain hgd fun K hK => ?_
  have key : ∃ v' w', (Builtin.append_ #[t, u] o.type #[v, .string s]).run P w = .ok v' w' ∧ w'.ownsRow base e 1 v' (l.length + s.size) (l.map byteV ++ Lib.strCells s) ∧ w.grownBy w' v.ownBlock ∧ (∀ k, v'.ownBlock = some k → v.ownBlock = some k ∨ w.heap.size ≤ k) ∧ w'.ownsRow base e 1 v l.length (l.map byteV) := by
    generalize hn : l.length = n at *
    have hown' : w.ownsRow base e 1 v n (l.map byteV) := by rw [← hn]; exact hown
    generalize l.map byteV = xs at hown'
    have hxl : xs.length = n := by simpa using hown'.1
    have hl : (xs ++ Lib.strCells s).length = (n + s.size) * 1 := by rw [List.length_append, hxl, Lib.strCells_length, Nat.mul_one]
    have grown : ∀ (old : Nat), old < n + s.size → ∀ (row : Option Nat),
        (w.drew.alloc (.cells (xs.toArray ++ (Lib.strCells s).toArray ++ Builtin.zeroCells (Value.int .u8 0).cells (grownCap w (n + s.size) old e - (n + s.size))) e)).ownsRow base e 1
          (.slice (some ⟨w.heap.size, 0, none⟩) (n + s.size) (grownCap w (n + s.size) old e)) (n + s.size) (xs ++ Lib.strCells s) ∧
        w.grownBy (w.drew.alloc (.cells (xs.toArray ++ (Lib.strCells s).toArray ++ Builtin.zeroCells (Value.int .u8 0).cells (grownCap w (n + s.size) old e - (n + s.size))) e)) row := by
      intro old ho row
      have hge := grownCap_ge w (n + s.size) old e
      have hcm : grownCap w (n + s.size) old e ≤ maxLen := grownCap_le_maxLen w (n + s.size) old e (by unfold maxLen; omega)
      refine ⟨⟨hl, .inr ⟨w.heap.size, _, _, rfl, hbase, _root_.Go.heap_alloc_new w.drew _, hge, hcm, ?_, ?_⟩⟩, ⟨rfl, rfl, rfl, by simp, fun k hk _ => Below.heap_alloc w.drew _ k hk⟩⟩
      · have hz1 : (Value.int IntKind.u8 0).cells.size = 1 := rfl
        simp only [Array.size_append, List.size_toArray, size_zeroCells, hz1, hxl, Lib.strCells_length]
        omega
      · simp only [Array.toList_append, List.append_assoc]
        rw [← List.append_assoc, ← hl]
        exact List.take_left
    rcases hown'.2 with ⟨rfl, rfl⟩ | ⟨g, cap, cur, rfl, hbg, hg, hnc, hcm, hcs, htake⟩
    · have hx0 : xs = [] := List.eq_nil_of_length_eq_zero hxl
      subst hx0
      by_cases hm : s.size = 0
      · have hn0 : Lib.strCells s = [] := List.eq_nil_of_length_eq_zero (by rw [Lib.strCells_length]; exact hm)
        refine ⟨.slice none 0 0, w, ?_, by rw [hm, hn0]; exact World.ownsRow_nil w base e 1, ⟨rfl, rfl, rfl, Nat.le_refl _, fun _ _ _ => rfl⟩, fun k hk => .inl hk, World.ownsRow_nil w base e 1⟩
        have hf := Lib.run_firstCells_string (P := P) w 1 s
        rw [hm] at hf
        simp [Builtin.append_, run_underlying ht, run_underlying hu, sizeOf, typeInfo, hi, hsize, Builtin.lenOf, hm, hf]
      · have hr := run_append_nil_string (P := P) w t u o.type e i (.int .u8 0) ht hu hi hz s (by omega) (by omega) (by rw [hby]; omega)
        have hgr := grown 0 (by omega) (Value.ownBlock (.slice none 0 0))
        simp only [Nat.zero_add, List.nil_append, Array.empty_append] at hgr ⊢
        have e1 : (s.data.map fun b => Value.int .u8 b.toNat) = (Lib.strCells s).toArray := by
          apply Array.ext'
          simp [Lib.strCells]
        rw [e1] at hr
        exact ⟨_, _, hr, hgr.1, hgr.2, fun k hk => .inr (by simp [Value.ownBlock] at hk; omega), World.ownsRow_nil _ _ _ _⟩
    · by_cases hroom : n + s.size ≤ cap
      · have hcs' : cur.size = cap := by simpa using hcs
        have hr := Lib.run_append_room_string (P := P) w t u o.type e i ht hu hi hsize g n cap cur hg s hroom (by omega)
        refine ⟨_, _, hr, ⟨hl, .inr ⟨g, cap, _, rfl, hbg, setRow_heap w g cur _ e _ hg, hroom, hcm, ?_, ?_⟩⟩, ⟨rfl, rfl, rfl, by simp, fun k _ hk => setRow_other w g k _ (fun e => hk (by simp [Value.ownBlock, e]))⟩, fun k hk => .inl hk, ⟨hown'.1, .inr ⟨g, cap, _, rfl, hbg, setRow_heap w g cur _ e _ hg, hnc, hcm, ?_, ?_⟩⟩⟩
        · simp only [List.size_toArray, List.length_append, List.length_take, List.length_drop, Array.length_toList, Lib.strCells_length]
          omega
        · have ht' : cur.toList.take n = xs := by simpa using htake
          rw [ht', ← hl]
          exact List.take_left
        · simp only [List.size_toArray, List.length_append, List.length_take, List.length_drop, Array.length_toList, Lib.strCells_length]
          omega
        · have ht' : cur.toList.take n = xs := by simpa using htake
          show List.take (n * 1) _ = xs
          simp only [ht', List.append_assoc]
          rw [Nat.mul_one, ← hxl]
          exact List.take_left
      · have holds : ∀ j u, xs[j]? = some u → w.cell? ((⟨g, 0, none⟩ : Addr).add j) = some u := hown'.cells (g := g) rfl
        have hr := Lib.run_append_grow_string (P := P) w t u o.type e i (.int .u8 0) ht hu hi hz ⟨g, 0, none⟩ n cap xs (by rw [hsize]; simpa using hxl) holds s (by omega) (by omega) (by rw [hby]; exact growslice_fits (by omega) (by omega))
        have hgr := grown cap (by omega) (Value.ownBlock (.slice (some ⟨g, 0, none⟩) n cap))
        exact ⟨_, _, hr, hgr.1, hgr.2, fun k hk => .inr (by simp [Value.ownBlock] at hk; omega), World.ownsRow.alloc (w := w.drew) hown' _⟩
  obtain ⟨v', w', hr, h2, h3, h4, h5⟩ := key
  unfold Oper.wp execOp
  simp only [ho, resolve, invoke, builtin, Sem.run_bind, Sem.run_pure, Result.andThen_ok, List.map_toArray, List.map_cons, List.map_nil, hs, hx, hr]
  refine hK _ _ (h v' w' ?_ h3 h4 h5)
  unfold OwnB
  rw [List.length_append, List.map_append, size_data, ← strCells_bytes]
  exact h2
theorem num_putText2 (v : Value) (l : List UInt8) (s : ByteArray) (B : Nat) (w : World) (hl : l.length + s.size ≤ 140737488354000) (hB : B ≤ w.heap.size) (ho : OwnB w B 5 v l) :
    Calls Tryz.prog 82 #[v, .string s] w fun e w' => RetOwn w B 5 v (l ++ putT s.data.toList) e w' ∧ OwnB w' B 5 v l := by
  go_enter Tryz.func82, Tryz.ntmps82
  go_wp2_with fail
  refine (num_put2 v l s.size B w (by omega) (by omega) (by omega) hB ho).mono ?_
  rintro e w1 ⟨⟨v1, rfl, ho1, hg1, hk1⟩, hv1⟩
  have hpl := putN_len s.size
  have hsz := hg1.size
  have HK1 := Lib.hid hk1
  clear hk1
  go_wp2_with (at_builtin; refine wpList_append_str2 143 9 B 5 Tryz.underlying143 Tryz.underlying9 info8 rfl _ _ rfl ho1 s rfl rfl (by simp; omega) (by omega) ?_)
  intro v2 w2 ho2 hg2 hk2 hold2
  have hv2 := OwnB.keep2 hv1 ho1 hold2 hg2
  have HK2 := Lib.hid hk2
  clear hk2
  go_wp2_with fail
  go_ret
  refine ⟨⟨v2, rfl, ?_, grownBy_trans hg1 hg2 (fun x hx => (HK1.out x hx).symm), fun k hk => ?_⟩, hv2⟩
  · unfold putT
    rw [size_data]
    first | exact ho2 | (rw [← List.append_assoc]; exact ho2)
  · rcases HK2.out k hk with h | h
    · exact HK1.out k h
    · exact .inr (by omega)
end Go.Proofs.YtmddhlfjilkdfaaGreatDoor
namespace Go.Proofs.YtmddhlfjilkdfaaGreatDoor
set_option linter.unusedVariables false
set_option linter.unusedSimpArgs false
open Go.ChangeShapes Go.WideShapes Go.ChangeAt Go.RowKit

def rdN (s : List UInt8 × Bool) : Int × List UInt8 × Bool :=
  ((getN s.1).1, if (s.2 || decide ((getN s.1).2.2 ≠ 0)) then s.1 else s.1.drop (getN s.1).2.1, s.2 || decide ((getN s.1).2.2 ≠ 0))
theorem Bytes.keeps {w w' : World} {v : Value} {l : List UInt8} {F : List Nat} (h : Bytes w v l) (hk : Keeps F w w') (hF : l ≠ [] → ∀ ad n c, v = .slice (some ad) n c → ad.block ∉ F) : Bytes w' v l := by
  obtain ⟨a, cap, hv, h1, h2, h3⟩ := h
  refine ⟨a, cap, hv, h1, h2, fun hne => ?_⟩
  obtain ⟨b, off, ha, hc⟩ := h3 hne
  refine ⟨b, off, ha, fun j hj => ?_⟩
  have hcj := hc j hj
  have hlt : b < w.heap.size := by
    rcases Nat.lt_or_ge b w.heap.size with h | h
    · exact h
    · exfalso
      unfold World.cell? at hcj
      rw [Array.getElem?_eq_none h] at hcj
      simp at hcj
  rw [hk.cell (p := ⟨b, off + j, none⟩) hlt (hF hne ⟨b, off, none⟩ _ _ (by rw [hv, ha]))]
  exact hcj

/-- A reader in a block of its own: what is left, and whether something did not go. -/
structure RdS (w : World) (b : Nat) (v : Value) (s : List UInt8 × Bool) : Prop where
  lt : b < w.heap.size
  c0 : w.cell? ⟨b, 0, none⟩ = some v
  c1 : w.cell? ⟨b, 1, none⟩ = some (.bool s.2)
  fr : ∀ j, w.frozen? ⟨b, j, none⟩ = false
  r : Bytes w v s.1
  ne : s.1 ≠ [] → ∀ ad n c, v = .slice (some ad) n c → ad.block < b
def RetRd (w : World) (b : Nat) (x : Value) (s : List UInt8 × Bool) (e : Ending) (w' : World) : Prop := e = .returned x ∧ (∃ v', RdS w' b v' s) ∧ Keeps [b] w w'

theorem RdS.keeps {w w' : World} {b : Nat} {v : Value} {s : List UInt8 × Bool} {F : List Nat} (h : RdS w b v s) (hk : Keeps F w w') (hF : ∀ x ∈ F, b < x) : RdS w' b v s :=
  have hb : b ∉ F := fun hx => Nat.lt_irrefl _ (hF b hx)
  ⟨Nat.lt_of_lt_of_le h.lt hk.size, (hk.cell (p := ⟨b, 0, none⟩) h.lt hb).trans h.c0, (hk.cell (p := ⟨b, 1, none⟩) h.lt hb).trans h.c1, fun j => (hk.frozen (p := ⟨b, j, none⟩) h.lt hb).trans (h.fr j), h.r.keeps hk (fun hn ad n c hv hx => absurd (hF _ hx) (Nat.not_lt.2 (Nat.le_of_lt (h.ne hn ad n c hv)))), h.ne⟩
theorem RdS.setBad {w : World} {b : Nat} {v : Value} {s : List UInt8 × Bool} (h : RdS w b v s) (x : Bool) : RdS (w.setCell ⟨b, 1, none⟩ (.bool x)) b v (s.1, x) ∧ Keeps [b] w (w.setCell ⟨b, 1, none⟩ (.bool x)) := by
  have hk : Keeps [b] w (w.setCell ⟨b, 1, none⟩ (.bool x)) := (Keeps.refl [b] w).setCell (.inl (by simp)) _
  refine ⟨⟨Nat.lt_of_lt_of_le h.lt hk.size, ?_, World.cell?_setCell_same _ _ _ h.c1, fun j => ?_, h.r.keeps hk (fun hn ad n c hg => by have := h.ne hn ad n c hg; simp; omega), h.ne⟩, hk⟩
  · rw [World.cell?_setCell_other (h := by simp)]; exact h.c0
  · rw [World.frozen?_setCell]; exact h.fr j
theorem RdS.setB {w : World} {b : Nat} {v : Value} {s : List UInt8 × Bool} (h : RdS w b v s) {v' : Value} {l : List UInt8} (hv : Bytes w v' l) (hne : l ≠ [] → ∀ ad n c, v' = .slice (some ad) n c → ad.block < b) :
    RdS (w.setCell ⟨b, 0, none⟩ v') b v' (l, s.2) ∧ Keeps [b] w (w.setCell ⟨b, 0, none⟩ v') := by
  have hk : Keeps [b] w (w.setCell ⟨b, 0, none⟩ v') := (Keeps.refl [b] w).setCell (.inl (by simp)) _
  refine ⟨⟨Nat.lt_of_lt_of_le h.lt hk.size, World.cell?_setCell_same _ _ _ h.c0, ?_, fun j => ?_, hv.keeps hk (fun hn ad n c hg => by have := hne hn ad n c hg; simp; omega), hne⟩, hk⟩
  · rw [World.cell?_setCell_other (h := by simp)]; exact h.c1
  · rw [World.frozen?_setCell]; exact h.fr j

theorem sub_ne {a : Option Addr} {n cap k b : Nat} {l : List UInt8} (hne : l ≠ [] → ∀ ad m c, Value.slice a n cap = .slice (some ad) m c → ad.block < b) {m c : Nat} :
    l.drop k ≠ [] → ∀ ad m' c', Value.slice (if cap = k then a else a.map (·.add k)) m c = .slice (some ad) m' c' → ad.block < b := by
  intro hn ad m' c' hg
  have hl : l ≠ [] := fun e => hn (by rw [e]; exact List.drop_nil)
  simp only [Value.slice.injEq] at hg
  obtain ⟨hg, -, -⟩ := hg
  by_cases hc : cap = k
  · rw [if_pos hc] at hg
    exact hne hl ad n cap (by rw [hg])
  · rw [if_neg hc] at hg
    cases a with
    | none => cases hg
    | some a0 =>
      simp only [Option.map_some, Option.some.injEq] at hg
      have h0 := hne hl a0 n cap rfl
      rw [← hg]
      unfold Addr.add
      split <;> exact h0

def tookP (s : List UInt8 × Bool) (n err : Nat) : List UInt8 × Bool := (if (s.2 || decide (err ≠ 0)) then s.1 else s.1.drop n, s.2 || decide (err ≠ 0))
theorem rdN_took (s : List UInt8 × Bool) : rdN s = ((getN s.1).1, tookP s (getN s.1).2.1 (getN s.1).2.2) := rfl

set_option maxRecDepth 100000 in
set_option maxHeartbeats 1000000 in
theorem o_took {w : World} {b : Nat} {v : Value} {s : List UInt8 × Bool} (h : RdS w b v s) (n err : Nat) (hn : err = 0 → n ≤ s.1.length) :
    Calls Tryz.prog 170 #[.pointer (some ⟨b, 0, none⟩), .int .i64 n, .int .i64 err] w fun e w' => e = .returned (.tuple #[]) ∧ (∃ v', RdS w' b v' (tookP s n err)) ∧ Keeps [b] w w' := by
  obtain ⟨l, bad⟩ := s
  have hr := h.r
  have c0 := h.c0
  have c1 := h.c1
  have fr := h.fr
  have hne := h.ne
  dsimp only at hr c1 hn
  obtain ⟨a, cap, rfl, hcap, hcm, -⟩ := hr
  have hr := h.r
  dsimp only at hr
  cases bad with
  | true =>
    have hset := h.setBad true
    dsimp only at hset
    have HSET := Lib.hid hset
    have hR : tookP (l, true) n err = (l, true) := rfl
    have HR := Lib.hid hR
    have c1' := HSET.out.1.c1
    dsimp only at c1'
    clear h hne hset hR
    go_enter Tryz.func170, Tryz.ntmps170
    go_wp2_with fail
    go_end0
    rw [HR.out]
    exact ⟨rfl, ⟨_, HSET.out.1⟩, HSET.out.2⟩
  | false =>
    by_cases he : err = 0
    case neg =>
      have hset := h.setBad true
      dsimp only at hset
      have HSET := Lib.hid hset
      have hR : tookP (l, false) n err = (l, true) := by unfold tookP; simp [he]
      have HR := Lib.hid hR
      have te : ((err : Int) != 0) = true := by simp; omega
      have c1' := HSET.out.1.c1
      dsimp only at c1'
      clear h hne hset hR
      go_enter Tryz.func170, Tryz.ntmps170
      go_wp2_with fail
      go_end0
      rw [HR.out]
      exact ⟨rfl, ⟨_, HSET.out.1⟩, HSET.out.2⟩
    case pos =>
      subst he
      have hn := hn rfl
      have hset := h.setBad false
      dsimp only at hset
      have hsub := hset.1.r.sub n (l.length - n) (by dsimp only; omega)
      dsimp only at hsub
      rw [List.take_of_length_le (by rw [List.length_drop]; omega)] at hsub
      have hset2 := hset.1.setB hsub (sub_ne hne)
      dsimp only at hset2
      have hR : tookP (l, false) n 0 = (l.drop n, false) := rfl
      have HR := Lib.hid hR
      clear hR hsub
      have HSET := Lib.hid hset
      have c1' := HSET.out.1.c1
      have c0' := HSET.out.1.c0
      have fr' := HSET.out.1.fr
      dsimp only at c1' c0'
      have HSET2 := Lib.hid (And.intro hset2.1 (hset.2.trans hset2.2 (fun x hx => .inl hx)))
      clear hset hset2 h hne
      go_enter Tryz.func170, Tryz.ntmps170
      by_cases hck : cap = n
      · rw [if_pos hck] at HSET2
        subst hck
        rw [Nat.sub_self, show l.length - cap = 0 by omega] at HSET2
        go_wp2_with fail
        go_end0
        rw [HR.out]
        exact ⟨rfl, ⟨_, HSET2.out.1⟩, HSET2.out.2⟩
      · rw [if_neg hck] at HSET2
        go_wp2_with fail
        go_end0
        rw [HR.out]
        exact ⟨rfl, ⟨_, HSET2.out.1⟩, HSET2.out.2⟩

set_option maxRecDepth 100000 in
set_option maxHeartbeats 1000000 in
theorem o_num {w : World} {b : Nat} {v : Value} {s : List UInt8 × Bool} (h : RdS w b v s) :
    Calls Tryz.prog 137 #[.pointer (some ⟨b, 0, none⟩)] w fun e w' => RetRd w b (.int .i64 (rdN s).1) (rdN s).2 e w' := by
  have hr := h.r
  have c0 := h.c0
  have HR := Lib.hid (rdN_took s)
  have HH := Lib.hid h
  have hk : (getN s.1).2.2 = 0 → (getN s.1).2.1 ≤ s.1.length := by
    rcases getN_any s.1 with (h | h) | ⟨x, k, h, -, -, -, h2, -⟩ <;> rw [h]
    · intro h; cases h
    · intro h; cases h
    · exact fun _ => h2
  clear h
  obtain ⟨a, cap, rfl⟩ : ∃ a cap, v = .slice a s.1.length cap := by obtain ⟨a, cap, hv, -⟩ := hr; exact ⟨a, cap, hv⟩
  obtain ⟨x, k, e, hg⟩ : ∃ x k e, getN s.1 = (x, k, e) := ⟨_, _, _, rfl⟩
  rw [hg] at HR hk
  have HG := Lib.hid hg
  clear hg
  go_enter Tryz.func137, Tryz.ntmps137
  go_wp2_with fail
  refine (num_get _ s.1 _ hr).mono ?_
  rintro e' w' ⟨rfl, rfl⟩
  rw [HG.out]
  unfold getV
  go_wp2_with fail
  refine (o_took HH.out k e hk).mono ?_
  rintro e' w2 ⟨rfl, hrd, hkp⟩
  go_wp2_with fail
  go_ret
  rw [HR.out]
  exact ⟨rfl, hrd, hkp⟩

theorem results_cell1 {fn : Func} {p : Tmp} {ty : TypeId} (h : fn.results = #[.cell p ty]) (tmps : Array Value) (P : Program) (w : World) (a : Addr) (v : Value)
    (hp : tmps.getD p undef = .pointer (some a)) (hl : (loadVar ty a).run P w = .ok v w) : (results fn tmps).run P w = .ok v w := by
  simp only [results, h]
  simp only [Array.getD_eq_getD_getElem?] at hp
  simp [hp, asAddr, hl]
theorem results_cell2 {fn : Func} {p u : Tmp} {ty : TypeId} (h : fn.results = #[.cell p ty, .tmp u]) (tmps : Array Value) (P : Program) (w : World) (a : Addr) (v : Value)
    (hp : tmps.getD p undef = .pointer (some a)) (hl : (loadVar ty a).run P w = .ok v w) : (results fn tmps).run P w = .ok (.tuple #[v, tmps.getD u undef]) w := by
  simp only [results, h]
  simp only [Array.getD_eq_getD_getElem?] at hp
  simp [Result.andThen, hp, asAddr, hl]
end Go.Proofs.YtmddhlfjilkdfaaGreatDoor
namespace Go.Proofs.YtmddhlfjilkdfaaGreatDoor
set_option linter.unusedVariables false
set_option linter.unusedSimpArgs false
open Go.ChangeShapes Go.WideShapes Go.ChangeAt Go.RowKit

set_option maxRecDepth 100000 in
set_option maxHeartbeats 1000000 in
theorem value_of (s : ByteArray) (w : World) (hs : s.size ≤ 200) (hT : Lib.Utf8Tabs (rV.g 3) (rV.g 4) w) (hv : Lib.validD s.data.toList = true) :
    Calls Tryz.prog 226 #[.agg #[.int .i64 2, .int .i64 0, .string s]] w fun e w' => (∃ x, e = .returned (.tuple #[x, .int .i64 0])) ∧ Below w.heap.size w w' := by
  have hb1 := (Below.refl w.heap.size w).alloc (Nat.le_refl _) (.cells #[.int .i64 2, .int .i64 0, .string s] 24)
  have hz : (s.size : Int) ≤ 200 := by omega
  go_enter Tryz.func226, Tryz.ntmps226
  go_wp2_with fail
  have hW : ∃ W0, W0 = (w.alloc (.cells #[.int .i64 2, .int .i64 0, .string s] 24)).alloc (.cells #[.nilIface] 74) := ⟨_, rfl⟩
  obtain ⟨W0, hW⟩ := hW
  have hb2 : Below w.heap.size w W0 := by rw [hW]; exact hb1.alloc hb1.size _
  have e0 : W0.heap[w.heap.size]? = some (.cells #[.int .i64 2, .int .i64 0, .string s] 24 (0, 0)) := by rw [hW, heap_alloc_old _ _ (by show w.heap.size < (w.heap.push _).size; rw [Array.size_push]; omega)]; exact heap_alloc_new w _
  have e1 : W0.heap[w.heap.size + 1]? = some (.cells #[.nilIface] 74 (0, 0)) := by
    have := heap_alloc_new (w.alloc (.cells #[.int .i64 2, .int .i64 0, .string s] 24)) (.cells #[.nilIface] 74 (0, 0))
    rw [hW]
    rw [show (w.alloc (.cells #[.int .i64 2, .int .i64 0, .string s] 24)).heap.size = w.heap.size + 1 from Array.size_push ..] at this
    exact this
  have q2 : W0.cell? ⟨w.heap.size, 2, none⟩ = some (.string s) := World.cell?_of_cells e0 2
  have q9 : W0.cell? ⟨w.heap.size + 1, 0, none⟩ = some .nilIface := World.cell?_of_cells e1 0
  have f9 : W0.frozen? ⟨w.heap.size + 1, 0, none⟩ = false := by unfold World.frozen?; simp only [e1]; rfl
  have l0 : w.heap.size + 1 < W0.heap.size := (Array.getElem?_eq_some_iff.1 e1).1
  clear e0 e1
  rw [← hW]
  clear hW hb1
  refine (valid_walk s W0 (by omega) (Utf8Tabs_below hT hb2)).mono ?_
  rintro e w1 ⟨rfl, hb⟩
  rw [hv]
  have g2 := (hb.cell (p := ⟨w.heap.size, 2, none⟩) (by show w.heap.size < _; omega)).trans q2
  have g9 := (hb.cell (p := ⟨w.heap.size + 1, 0, none⟩) (by show w.heap.size + 1 < _; omega)).trans q9
  have k9 := (hb.frozen (p := ⟨w.heap.size + 1, 0, none⟩) (by show w.heap.size + 1 < _; omega)).trans f9
  have hbz := hb2.trans (hb.mono hb2.size)
  clear hb hb2 q2 q9 f9 hT hv
  go_wp2_with fail
  have gz := World.cell?_setCell_same w1 ⟨w.heap.size + 1, 0, none⟩ (.iface 104 (.string s)) g9
  have hl : (loadVar 74 ⟨w.heap.size + 1, 0, none⟩).run Tryz.prog (w1.setCell ⟨w.heap.size + 1, 0, none⟩ (.iface 104 (.string s))) = .ok (.agg #[.iface 104 (.string s)]) (w1.setCell ⟨w.heap.size + 1, 0, none⟩ (.iface 104 (.string s))) := by unfold loadVar; go_simp
  refine bodyPost_ret (results_cell2 rfl _ _ _ _ _ rfl hl) rfl ?_
  exact ⟨⟨_, rfl⟩, hbz.setCell (by simp) _⟩
end Go.Proofs.YtmddhlfjilkdfaaGreatDoor
namespace Go.Proofs.YtmddhlfjilkdfaaGreatDoor
set_option linter.unusedVariables false
set_option linter.unusedSimpArgs false
open Go.ChangeShapes Go.WideShapes Go.ChangeAt Go.RowKit

theorem results_cell3 {fn : Func} {p u x : Tmp} {ty : TypeId} (h : fn.results = #[.cell p ty, .tmp u, .tmp x]) (tmps : Array Value) (P : Program) (w : World) (a : Addr) (v : Value)
    (hp : tmps.getD p undef = .pointer (some a)) (hl : (loadVar ty a).run P w = .ok v w) : (results fn tmps).run P w = .ok (.tuple #[v, tmps.getD u undef, tmps.getD x undef]) w := by
  simp only [results, h]
  simp only [Array.getD_eq_getD_getElem?] at hp
  simp [Result.andThen, hp, asAddr, hl]
theorem str_back (s : ByteArray) : (⟨s.data.toList.toArray⟩ : ByteArray) = s := by
  apply ByteArray.ext
  simp
set_option maxRecDepth 100000 in
set_option maxHeartbeats 1000000 in
theorem value_get (v : Value) (s : ByteArray) (w : World) (hs : s.size ≤ 200) (hT : Lib.Utf8Tabs (rV.g 3) (rV.g 4) w) (hv : Lib.validD s.data.toList = true) (h : Bytes w v (putN 2 ++ putT s.data.toList)) :
    Calls Tryz.prog 225 #[v] w fun e w' => e = .returned (.tuple #[.agg #[.int .i64 2, .int .i64 0, .string s], .int .i64 (1 + (putT s.data.toList).length : Nat), .int .i64 0]) ∧ Below w.heap.size w w' := by
  have hg : getN (putN 2 ++ putT s.data.toList) = (2, 1, 0) := by rw [getN_putN _ _ (by omega) (by omega)]; rfl
  have ht : getT (putT s.data.toList) = (s.data.toList, (putT s.data.toList).length, 0) := by
    have := getT_putT s.data.toList [] (by simp; omega)
    simpa using this
  have hl1 : (putN 2).length = 1 := rfl
  have hn : 1 ≤ (putT s.data.toList).length := by unfold putT; have := (putN_len (s.data.toList.length : Int)).1; rw [List.length_append]; omega
  have hn2 : (putT s.data.toList).length ≤ 400 := by unfold putT; have := (putN_len (s.data.toList.length : Int)).2; rw [List.length_append]; simp at *; omega
  have hd : (putN 2 ++ putT s.data.toList).drop 1 = putT s.data.toList := by rfl
  have hL : (putN 2 ++ putT s.data.toList).length = 1 + (putT s.data.toList).length := by rw [List.length_append, hl1]
  have hb := h
  obtain ⟨a, cap, rfl, hcap, hcm, hc⟩ := h
  obtain ⟨b, off, rfl, -⟩ := hc (by intro e; have := congrArg List.length e; rw [hL] at this; simp at this)
  rw [hL] at hcap
  have hsub := hb.sub 1 (putT s.data.toList).length (by rw [hL]; omega)
  rw [hd, List.take_of_length_le (Nat.le_refl _), if_neg (by omega), Option.map_some, Addr.add_lit] at hsub
  rw [hL] at hb ⊢
  have HG := Lib.hid hg
  have HT := Lib.hid ht
  have HN := Lib.hid (And.intro hT hv)
  generalize (putT s.data.toList).length = n at *
  clear hg ht hd hL hl1 hT hv
  go_enter Tryz.func225, Tryz.ntmps225
  go_wp2_with fail
  refine (num_get _ _ _ (hb.alloc _)).mono ?_
  rintro e' w' ⟨rfl, rfl⟩
  rw [HG.out]
  unfold getV
  go_wp2_with fail
  refine (num_getText _ _ _ ((hsub.alloc _).alloc _)).mono ?_
  rintro e' w' ⟨rfl, rfl⟩
  rw [HT.out]
  unfold getTV
  dsimp only
  rw [str_back]
  have hb1 := ((Below.refl w.heap.size w).alloc (Nat.le_refl _) (.cells #[.int .i64 0, .int .i64 0, .string { data := #[] }] 24))
  have hb2 := hb1.alloc hb1.size (.cells #[.int .i64 2, .int .i64 0, .string { data := #[] }] 24)
  generalize hW0 : (w.alloc (.cells #[.int .i64 0, .int .i64 0, .string { data := #[] }] 24)).alloc (.cells #[.int .i64 2, .int .i64 0, .string { data := #[] }] 24) = W0 at *
  have e0 : W0.heap[w.heap.size]? = some (.cells #[.int .i64 0, .int .i64 0, .string { data := #[] }] 24 (0, 0)) := by rw [← hW0, heap_alloc_old _ _ (by show w.heap.size < (w.heap.push _).size; rw [Array.size_push]; omega)]; exact heap_alloc_new w _
  have e1 : W0.heap[w.heap.size + 1]? = some (.cells #[.int .i64 2, .int .i64 0, .string { data := #[] }] 24 (0, 0)) := by
    have := heap_alloc_new (w.alloc (.cells #[.int .i64 0, .int .i64 0, .string { data := #[] }] 24)) (.cells #[.int .i64 2, .int .i64 0, .string { data := #[] }] 24 (0, 0))
    rw [← hW0]
    rw [show (w.alloc (.cells #[.int .i64 0, .int .i64 0, .string { data := #[] }] 24)).heap.size = w.heap.size + 1 from Array.size_push ..] at this
    exact this
  have l1 : w.heap.size + 1 < W0.heap.size := (Array.getElem?_eq_some_iff.1 e1).1
  clear hW0 hb1 hsub hb
  have p0 : W0.cell? ⟨w.heap.size, 0, none⟩ = some (.int .i64 0) := World.cell?_of_cells e0 0
  have p1 : W0.cell? ⟨w.heap.size, 1, none⟩ = some (.int .i64 0) := World.cell?_of_cells e0 1
  have p2 : W0.cell? ⟨w.heap.size, 2, none⟩ = some (.string { data := #[] }) := World.cell?_of_cells e0 2
  have q0 : W0.cell? ⟨w.heap.size + 1, 0, none⟩ = some (.int .i64 2) := World.cell?_of_cells e1 0
  have q1 : W0.cell? ⟨w.heap.size + 1, 1, none⟩ = some (.int .i64 0) := World.cell?_of_cells e1 1
  have q2 : W0.cell? ⟨w.heap.size + 1, 2, none⟩ = some (.string { data := #[] }) := World.cell?_of_cells e1 2
  have f0 : ∀ j, W0.frozen? ⟨w.heap.size, j, none⟩ = false := fun j => by unfold World.frozen?; simp only [e0]; simp
  have f1 : ∀ j, W0.frozen? ⟨w.heap.size + 1, j, none⟩ = false := fun j => by unfold World.frozen?; simp only [e1]; simp
  clear e0 e1
  go_wp2_with fail
  have hb3 : Below w.heap.size w (W0.setCell ⟨w.heap.size + 1, 2, none⟩ (.string s)) := hb2.setCell (by simp) _
  have u0 : (W0.setCell ⟨w.heap.size + 1, 2, none⟩ (.string s)).cell? ⟨w.heap.size, 0, none⟩ = some (.int .i64 0) := by rw [World.cell?_setCell_other (h := by simp)]; exact p0
  have u1 : (W0.setCell ⟨w.heap.size + 1, 2, none⟩ (.string s)).cell? ⟨w.heap.size, 1, none⟩ = some (.int .i64 0) := by rw [World.cell?_setCell_other (h := by simp)]; exact p1
  have u2 : (W0.setCell ⟨w.heap.size + 1, 2, none⟩ (.string s)).cell? ⟨w.heap.size, 2, none⟩ = some (.string { data := #[] }) := by rw [World.cell?_setCell_other (h := by simp)]; exact p2
  have v0 : (W0.setCell ⟨w.heap.size + 1, 2, none⟩ (.string s)).cell? ⟨w.heap.size + 1, 0, none⟩ = some (.int .i64 2) := by rw [World.cell?_setCell_other (h := by simp)]; exact q0
  have v1 : (W0.setCell ⟨w.heap.size + 1, 2, none⟩ (.string s)).cell? ⟨w.heap.size + 1, 1, none⟩ = some (.int .i64 0) := by rw [World.cell?_setCell_other (h := by simp)]; exact q1
  have v2 : (W0.setCell ⟨w.heap.size + 1, 2, none⟩ (.string s)).cell? ⟨w.heap.size + 1, 2, none⟩ = some (.string s) := World.cell?_setCell_same _ _ _ q2
  have g0 : ∀ j, (W0.setCell ⟨w.heap.size + 1, 2, none⟩ (.string s)).frozen? ⟨w.heap.size, j, none⟩ = false := fun j => by rw [World.frozen?_setCell]; exact f0 j
  have l2 : w.heap.size + 1 < (W0.setCell ⟨w.heap.size + 1, 2, none⟩ (.string s)).heap.size := Nat.lt_of_lt_of_le l1 ((Keeps.refl [w.heap.size + 1] W0).setCell (.inl (by simp)) _).size
  generalize W0.setCell ⟨w.heap.size + 1, 2, none⟩ (.string s) = W1 at *
  refine (value_of s W1 hs (Utf8Tabs_below HN.out.1 hb3) HN.out.2).mono ?_
  rintro e' w2 ⟨⟨x, rfl⟩, hb⟩
  have a0 := (hb.cell (p := ⟨w.heap.size, 0, none⟩) (by show w.heap.size < _; omega)).trans u0
  have a1 := (hb.cell (p := ⟨w.heap.size, 1, none⟩) (by show w.heap.size < _; omega)).trans u1
  have a2 := (hb.cell (p := ⟨w.heap.size, 2, none⟩) (by show w.heap.size < _; omega)).trans u2
  have b0 := (hb.cell (p := ⟨w.heap.size + 1, 0, none⟩) (by show w.heap.size + 1 < _; omega)).trans v0
  have b1 := (hb.cell (p := ⟨w.heap.size + 1, 1, none⟩) (by show w.heap.size + 1 < _; omega)).trans v1
  have b2 := (hb.cell (p := ⟨w.heap.size + 1, 2, none⟩) (by show w.heap.size + 1 < _; omega)).trans v2
  have c0 := fun j => (hb.frozen (p := ⟨w.heap.size, j, none⟩) (by show w.heap.size < _; omega)).trans (g0 j)
  have hbz := hb3.trans (hb.mono hb3.size)
  clear hb hb2 hb3 u0 u1 u2 v0 v1 v2 g0 p0 p1 p2 q0 q1 q2 f0 f1 l1 l2 HN HG HT hc
  go_wp2_with fail
  have z0 : (((w2.setCell ⟨w.heap.size, 0, none⟩ (.int .i64 2)).setCell ⟨w.heap.size, 1, none⟩ (.int .i64 0)).setCell ⟨w.heap.size, 2, none⟩ (.string s)).cell? ⟨w.heap.size, 0, none⟩ = some (.int .i64 2) := by
    rw [World.cell?_setCell_other (h := by simp), World.cell?_setCell_other (h := by simp)]; exact World.cell?_setCell_same _ _ _ a0
  have z1 : (((w2.setCell ⟨w.heap.size, 0, none⟩ (.int .i64 2)).setCell ⟨w.heap.size, 1, none⟩ (.int .i64 0)).setCell ⟨w.heap.size, 2, none⟩ (.string s)).cell? ⟨w.heap.size, 1, none⟩ = some (.int .i64 0) := by
    rw [World.cell?_setCell_other (h := by simp)]; exact World.cell?_setCell_same _ _ _ (by rw [World.cell?_setCell_other (h := by simp)]; exact a1)
  have z2 : (((w2.setCell ⟨w.heap.size, 0, none⟩ (.int .i64 2)).setCell ⟨w.heap.size, 1, none⟩ (.int .i64 0)).setCell ⟨w.heap.size, 2, none⟩ (.string s)).cell? ⟨w.heap.size, 2, none⟩ = some (.string s) := World.cell?_setCell_same _ _ _ (by rw [World.cell?_setCell_other (h := by simp), World.cell?_setCell_other (h := by simp)]; exact a2)
  have hbe := ((hbz.setCell (p := ⟨w.heap.size, 0, none⟩) (by simp) (.int .i64 2)).setCell (p := ⟨w.heap.size, 1, none⟩) (by simp) (.int .i64 0)).setCell (p := ⟨w.heap.size, 2, none⟩) (by simp) (.string s)
  have hl : (loadVar 24 ⟨w.heap.size, 0, none⟩).run Tryz.prog (((w2.setCell ⟨w.heap.size, 0, none⟩ (.int .i64 2)).setCell ⟨w.heap.size, 1, none⟩ (.int .i64 0)).setCell ⟨w.heap.size, 2, none⟩ (.string s)) = .ok (.agg #[.int .i64 2, .int .i64 0, .string s]) (((w2.setCell ⟨w.heap.size, 0, none⟩ (.int .i64 2)).setCell ⟨w.heap.size, 1, none⟩ (.int .i64 0)).setCell ⟨w.heap.size, 2, none⟩ (.string s)) := by unfold loadVar; go_simp
  refine bodyPost_ret (results_cell3 rfl _ _ _ _ _ rfl hl) rfl ?_
  refine ⟨?_, hbe⟩
  simp
end Go.Proofs.YtmddhlfjilkdfaaGreatDoor
namespace Go.Proofs.YtmddhlfjilkdfaaGreatDoor
set_option linter.unusedVariables false
set_option linter.unusedSimpArgs false
open Go.ChangeShapes Go.WideShapes Go.ChangeAt Go.RowKit

/-- Three cells of a block of their own. -/
structure C3 (w : World) (X : Nat) (x0 x1 x2 : Value) : Prop where
  lt : X < w.heap.size
  c0 : w.cell? ⟨X, 0, none⟩ = some x0
  c1 : w.cell? ⟨X, 1, none⟩ = some x1
  c2 : w.cell? ⟨X, 2, none⟩ = some x2
  fr : ∀ j, w.frozen? ⟨X, j, none⟩ = false
theorem C3.new (w : World) (x0 x1 x2 : Value) (T : TypeId) : C3 (w.alloc (.cells #[x0, x1, x2] T)) w.heap.size x0 x1 x2 := by
  have e := heap_alloc_new w (.cells #[x0, x1, x2] T (0, 0))
  exact ⟨(Array.getElem?_eq_some_iff.1 e).1, World.cell?_of_cells e 0, World.cell?_of_cells e 1, World.cell?_of_cells e 2, fun j => by unfold World.frozen?; simp only [e]; simp⟩
theorem C3.keeps {w w' : World} {X : Nat} {x0 x1 x2 : Value} {F : List Nat} (h : C3 w X x0 x1 x2) (hk : Keeps F w w') (hF : X ∉ F) : C3 w' X x0 x1 x2 :=
  ⟨Nat.lt_of_lt_of_le h.lt hk.size, (hk.cell (p := ⟨X, 0, none⟩) h.lt hF).trans h.c0, (hk.cell (p := ⟨X, 1, none⟩) h.lt hF).trans h.c1, (hk.cell (p := ⟨X, 2, none⟩) h.lt hF).trans h.c2, fun j => (hk.frozen (p := ⟨X, j, none⟩) h.lt hF).trans (h.fr j)⟩
/-- The world behind a store of three cells. -/
def set3 (w : World) (X : Nat) (a b c : Value) : World := ((w.setCell ⟨X, 0, none⟩ a).setCell ⟨X, 1, none⟩ b).setCell ⟨X, 2, none⟩ c
theorem keeps_set3 (w : World) (X : Nat) (a b c : Value) : Keeps [X] w (set3 w X a b c) := ((((Keeps.refl [X] w).setCell (.inl (by simp)) _).setCell (.inl (by simp)) _).setCell (.inl (by simp)) _)
theorem C3.set {w : World} {X : Nat} {x0 x1 x2 : Value} (h : C3 w X x0 x1 x2) (a b c : Value) : C3 (set3 w X a b c) X a b c := by
  refine ⟨Nat.lt_of_lt_of_le h.lt (keeps_set3 w X a b c).size, ?_, ?_, ?_, fun j => ?_⟩
  · unfold set3; rw [World.cell?_setCell_other (h := by simp), World.cell?_setCell_other (h := by simp)]; exact World.cell?_setCell_same _ _ _ h.c0
  · unfold set3; rw [World.cell?_setCell_other (h := by simp)]; exact World.cell?_setCell_same _ _ _ (by rw [World.cell?_setCell_other (h := by simp)]; exact h.c1)
  · exact World.cell?_setCell_same _ _ _ (by rw [World.cell?_setCell_other (h := by simp), World.cell?_setCell_other (h := by simp)]; exact h.c2)
  · unfold set3; rw [World.frozen?_setCell, World.frozen?_setCell, World.frozen?_setCell]; exact h.fr j
theorem C3.load {w : World} {X : Nat} {x0 x1 x2 : Value} (h : C3 w X x0 x1 x2) : (loadVar 24 ⟨X, 0, none⟩).run Tryz.prog w = .ok (.agg #[x0, x1, x2]) w := by
  have c0 := h.c0
  have c1 := h.c1
  have c2 := h.c2
  unfold loadVar
  go_simp
set_option maxRecDepth 100000 in
set_option maxHeartbeats 1000000 in
theorem o_value {w : World} {b : Nat} {v : Value} (s : ByteArray) (hs : s.size ≤ 200) (hT : Lib.Utf8Tabs (rV.g 3) (rV.g 4) w) (hv : Lib.validD s.data.toList = true) (h : RdS w b v (putN 2 ++ putT s.data.toList, false)) :
    Calls Tryz.prog 171 #[.pointer (some ⟨b, 0, none⟩)] w fun e w' => e = .returned (.agg #[.int .i64 2, .int .i64 0, .string s]) ∧ (∃ v', RdS w' b v' ([], false)) ∧ Keeps [b] w w' := by
  have c0 := h.c0
  have hlt := h.lt
  have hbA := (Below.refl w.heap.size w).alloc (Nat.le_refl _) (.cells #[.int .i64 0, .int .i64 0, .string { data := #[] }] 24)
  have hA := h.keeps (Keeps.of_below (F := []) hbA) (by simp)
  have h2 := C3.new w (.int .i64 0) (.int .i64 0) (.string { data := #[] }) 24
  go_enter Tryz.func171, Tryz.ntmps171
  go_wp2_with fail
  generalize w.alloc (.cells #[.int .i64 0, .int .i64 0, .string { data := #[] }] 24) = WA at *
  refine (value_get v s WA hs (Utf8Tabs_below hT hbA) hv hA.r).mono ?_
  rintro e w1 ⟨rfl, hb⟩
  have hk1 := Keeps.of_below (F := []) hb
  have hA1 := hA.keeps hk1 (by simp)
  have h21 := h2.keeps hk1 (by simp)
  have hb1 := hbA.trans (hb.mono hbA.size)
  have hL : (putN 2 ++ putT s.data.toList).length = 1 + (putT s.data.toList).length := by rw [List.length_append]; rfl
  have hd : tookP (putN 2 ++ putT s.data.toList, false) (1 + (putT s.data.toList).length) 0 = ([], false) := by
    unfold tookP
    simp [← hL]
  generalize hn : 1 + (putT s.data.toList).length = n at *
  generalize putN 2 ++ putT s.data.toList = L at *
  have hb2 := (Below.refl w1.heap.size w1).alloc (Nat.le_refl _) (.cells #[.int .i64 2, .int .i64 0, .string s] 24)
  have hk2 := Keeps.of_below (F := []) hb2
  have hA2 := hA1.keeps hk2 (by simp)
  have h22 := h21.keeps hk2 (by simp)
  have h32 := C3.new w1 (.int .i64 2) (.int .i64 0) (.string s) 24
  have hHD := Lib.hid hd
  have hHL := Lib.hid hL
  clear hA hA1 h2 h21 hk1 hd hT hv hL
  go_wp2_with fail
  generalize w1.alloc (.cells #[.int .i64 2, .int .i64 0, .string s] 24) = W2 at *
  refine (o_took hA2 n 0 (fun _ => by rw [hHL.out]; exact Nat.le_refl _)).mono ?_
  rintro e w3 ⟨rfl, ⟨v3, hR⟩, hk3⟩
  rw [hHD.out] at hR
  have hX : w.heap.size ∉ [b] := by simp; omega
  have hY : w1.heap.size ∉ [b] := by have := hb1.size; simp; omega
  have h23 := h22.keeps hk3 hX
  have h33 := h32.keeps hk3 hY
  have hK : Keeps [b] w w3 := (Keeps.of_below (F := [b]) (hb1.trans (hb2.mono hb1.size))).trans hk3 (fun x hx => .inl hx)
  have z0 := h23.c0; have z1 := h23.c1; have z2 := h23.c2; have zf := h23.fr
  have y0 := h33.c0; have y1 := h33.c1; have y2 := h33.c2
  have hS := h23.set (.int .i64 2) (.int .i64 0) (.string s)
  have hR2 := hR.keeps (keeps_set3 w3 w.heap.size (.int .i64 2) (.int .i64 0) (.string s)) (by simp; omega)
  have HZ := Lib.hid (And.intro hS (And.intro hR2 (hK.trans (keeps_set3 w3 w.heap.size (.int .i64 2) (.int .i64 0) (.string s)) (fun x hx => .inr (by simp at hx; omega)))))
  clear hS hR2 hK h23 h33 hR hk3 h22 h32 hA2 hk2 hb2 hbA hb hb1 hHD hHL h c0
  go_wp2_with fail
  refine bodyPost_ret (results_cell1 rfl _ _ _ _ _ rfl HZ.out.1.load) rfl ?_
  exact ⟨rfl, ⟨_, HZ.out.2.1⟩, HZ.out.2.2⟩
end Go.Proofs.YtmddhlfjilkdfaaGreatDoor
namespace Go.Proofs.YtmddhlfjilkdfaaGreatDoor
set_option linter.unusedVariables false
set_option linter.unusedSimpArgs false
open Go.ChangeShapes Go.WideShapes Go.ChangeAt Go.RowKit

set_option maxRecDepth 100000 in
set_option maxHeartbeats 1000000 in
theorem value_put (v : Value) (l : List UInt8) (s : ByteArray) (B : Nat) (w : World) (hl : l.length + s.size ≤ 140737488350000) (hB : B ≤ w.heap.size) (ho : OwnB w B 5 v l) :
    Calls Tryz.prog 148 #[v, .agg #[.int .i64 2, .int .i64 0, .string s]] w fun e w' => RetOwn w B 5 v (l ++ (putN 2 ++ putT s.data.toList)) e w' := by
  have hlt := fun g h => (ho.lt g h).2
  have hoA := OwnB.alloc ho (.cells #[.int .i64 2, .int .i64 0, .string s] 24)
  have hC := C3.new w (.int .i64 2) (.int .i64 0) (.string s) 24
  have hgA : w.grownBy (w.alloc (.cells #[.int .i64 2, .int .i64 0, .string s] 24)) v.ownBlock := World.grownBy_alloc w _ _
  have hBA : B ≤ (w.alloc (.cells #[.int .i64 2, .int .i64 0, .string s] 24)).heap.size := Nat.le_trans hB hgA.size
  have hl2 : (putN 2).length = 1 := rfl
  have hsA := hgA.size
  go_enter Tryz.func148, Tryz.ntmps148
  have c0 := hC.c0
  go_wp2_with fail
  generalize w.alloc (.cells #[.int .i64 2, .int .i64 0, .string s] 24) = wA at *
  refine (num_put v l 2 B wA (by omega) (by omega) (by omega) hBA hoA).mono ?_
  rintro e w1 ⟨v1, rfl, ho1, hg1, hk1⟩
  have hX : w.heap.size ∉ v.ownBlock.toList := fun hx => by have := hlt w.heap.size (by simpa using hx); omega
  have hC1 := hC.keeps (Keeps.of_grown hg1) hX
  have d0 := hC1.c0
  have d2 := hC1.c2
  have hgB := grownBy_trans hgA hg1 (fun x hx => .inr hx)
  have hsz1 := hgB.size
  have HK1 := Lib.hid hk1
  clear hC hC1 hoA hgA hg1 c0 hk1
  go_wp2_with fail
  refine (num_putText v1 _ s B w1 (by rw [List.length_append]; omega) (by omega) ho1).mono ?_
  rintro e w2 ⟨v2, rfl, ho2, hg2, hk2⟩
  have HK2 := Lib.hid hk2
  clear hk2
  go_wp2_with fail
  go_ret
  refine ⟨v2, rfl, by rw [← List.append_assoc]; exact ho2, grownBy_trans hgB hg2 (fun x hx => ?_), fun k hk => ?_⟩
  · rcases HK1.out x hx with h | h
    · exact .inr h
    · exact .inl (by omega)
  · rcases HK2.out k hk with h | h
    · rcases HK1.out k h with h | h
      · exact .inl h
      · exact .inr (by omega)
    · exact .inr (by omega)
end Go.Proofs.YtmddhlfjilkdfaaGreatDoor
namespace Go.Proofs.YtmddhlfjilkdfaaGreatDoor
set_option linter.unusedVariables false
set_option linter.unusedSimpArgs false
open Go.ChangeShapes Go.WideShapes Go.ChangeAt Go.RowKit

/-- The cells of a block of its own. -/
structure CL (w : World) (X : Nat) (xs : List Value) : Prop where
  lt : X < w.heap.size
  c : ∀ j (h : j < xs.length), w.cell? ⟨X, j, none⟩ = some xs[j]
  fr : ∀ j, w.frozen? ⟨X, j, none⟩ = false
theorem CL.new (w : World) (xs : List Value) (T : TypeId) (A : Array Value) (hA : A = xs.toArray) : CL (w.alloc (.cells A T)) w.heap.size xs := by
  subst hA
  have e := heap_alloc_new w (.cells xs.toArray T (0, 0))
  exact ⟨(Array.getElem?_eq_some_iff.1 e).1, fun j hj => by rw [World.cell?_of_cells e j]; simp [hj], fun j => by unfold World.frozen?; simp only [e]; simp⟩
theorem CL.keeps {w w' : World} {X : Nat} {xs : List Value} {F : List Nat} (h : CL w X xs) (hk : Keeps F w w') (hF : X ∉ F) : CL w' X xs :=
  ⟨Nat.lt_of_lt_of_le h.lt hk.size, fun j hj => (hk.cell (p := ⟨X, j, none⟩) h.lt hF).trans (h.c j hj), fun j => (hk.frozen (p := ⟨X, j, none⟩) h.lt hF).trans (h.fr j)⟩
theorem CL.set {w : World} {X : Nat} {xs : List Value} (h : CL w X xs) (i : Nat) (hi : i < xs.length) (v : Value) : CL (w.setCell ⟨X, i, none⟩ v) X (xs.set i v) := by
  refine ⟨Nat.lt_of_lt_of_le h.lt (((Keeps.refl [X] w).setCell (p := ⟨X, i, none⟩) (.inl (by simp)) v)).size, fun j hj => ?_, fun j => by rw [World.frozen?_setCell]; exact h.fr j⟩
  rw [List.length_set] at hj
  by_cases e : i = j
  · subst e
    rw [World.cell?_setCell_same _ _ _ (h.c i hi)]
    simp
  · rw [World.cell?_setCell_other (h := by simp [e]), h.c j hj]
    simp [e]
theorem rdN_put (n : Int) (R : List UInt8) (h0 : -9223372036854775808 ≤ n) (h1 : n ≤ 9223372036854775807) : rdN (putN n ++ R, false) = (n, R, false) := by
  unfold rdN
  dsimp only
  rw [getN_putN _ _ h0 h1]
  simp
/-- The world behind a store of three cells. -/
def set3' (w : World) (X j : Nat) (a b c : Value) : World := ((w.setCell ⟨X, j, none⟩ a).setCell ⟨X, j + 1, none⟩ b).setCell ⟨X, j + 2, none⟩ c
/-- The one operation, as cells. -/
def opV (k s : ByteArray) : List Value := [.int .i64 1, .string k, .int .i64 2, .int .i64 0, .string s, .int .i64 0, .int .i64 0, .string { data := #[] }, .int .i64 0]
def zeroV (n : Int) : List Value := [.int .i64 n, .string { data := #[] }, .int .i64 0, .int .i64 0, .string { data := #[] }, .int .i64 0, .int .i64 0, .string { data := #[] }, .int .i64 0]
theorem load_op {w : World} {X : Nat} {k s : ByteArray} (h : CL w X (opV k s)) : (loadVar 31 ⟨X, 0, none⟩).run Tryz.prog w = .ok (.agg (opV k s).toArray) w := by
  have c0 := h.c 0 (by simp [opV])
  have c1 := h.c 1 (by simp [opV])
  have c2 := h.c 2 (by simp [opV])
  have c3 := h.c 3 (by simp [opV])
  have c4 := h.c 4 (by simp [opV])
  have c5 := h.c 5 (by simp [opV])
  have c6 := h.c 6 (by simp [opV])
  have c7 := h.c 7 (by simp [opV])
  have c8 := h.c 8 (by simp [opV])
  simp only [opV, List.getElem_cons_zero, List.getElem_cons_succ] at c0 c1 c2 c3 c4 c5 c6 c7 c8
  unfold loadVar opV
  go_simp
theorem Utf8Tabs_keeps {g3 g4 : Nat} {w w' : World} {F : List Nat} (h : Lib.Utf8Tabs g3 g4 w) (hk : Keeps F w w') (h3 : g3 ∉ F) (h4 : g4 ∉ F) : Lib.Utf8Tabs g3 g4 w' := by
  have key : ∀ (g j : Nat) (v : Value), g ∉ F → w.cell? ⟨g, j, none⟩ = some v → w'.cell? ⟨g, j, none⟩ = some v := fun g j v hg hc => by
    have hlt : g < w.heap.size := by
      rcases Nat.lt_or_ge g w.heap.size with h | h
      · exact h
      · exfalso
        unfold World.cell? at hc
        rw [Array.getElem?_eq_none h] at hc
        simp at hc
    exact (hk.cell (p := ⟨g, j, none⟩) hlt hg).trans hc
  exact ⟨fun c hc => key _ _ _ h3 (h.1 c hc), fun i hi => ⟨key _ _ _ h4 (h.2 i hi).1, key _ _ _ h4 (h.2 i hi).2⟩⟩
set_option maxRecDepth 100000 in
set_option maxHeartbeats 2000000 in
theorem o_op {w : World} {b : Nat} {v : Value} (k s : ByteArray) (hs : s.size ≤ 200) (hks : k.size ≤ 1000) (hT : Lib.Utf8Tabs (rV.g 3) (rV.g 4) w) (hv : Lib.validD s.data.toList = true) (h3 : rV.g 3 ≠ b) (h4 : rV.g 4 ≠ b) (h : RdS w b v (putN 1 ++ (putT k.data.toList ++ (putN 2 ++ putT s.data.toList)), false)) :
    Calls Tryz.prog 138 #[.pointer (some ⟨b, 0, none⟩)] w fun e w' => e = .returned (.agg (opV k s).toArray) ∧ (∃ v', RdS w' b v' ([], false)) ∧ Keeps [b] w w' := by
  have hlt := h.lt
  have hbA := (Below.refl w.heap.size w).alloc (Nat.le_refl _) (.cells (zeroV 0).toArray 31)
  have hA := h.keeps (Keeps.of_below (F := []) hbA) (by simp)
  have hX := CL.new w (zeroV 0) 31 _ rfl
  have hN := rdN_put 1 (putT k.data.toList ++ (putN 2 ++ putT s.data.toList)) (by omega) (by omega)
  have hG : getT (putT k.data.toList ++ (putN 2 ++ putT s.data.toList)) = (k.data.toList, (putT k.data.toList).length, 0) := getT_putT _ _ (by simp; omega)
  have hD : tookP (putT k.data.toList ++ (putN 2 ++ putT s.data.toList), false) (putT k.data.toList).length 0 = (putN 2 ++ putT s.data.toList, false) := by unfold tookP; simp
  unfold zeroV at hbA hA hX
  go_enter Tryz.func138, Tryz.ntmps138
  go_wp2_with fail
  generalize hWA : w.alloc (.cells _ 31) = WA at *
  refine (o_num hA).mono ?_
  rintro e w1 ⟨rfl, ⟨v1, hR1⟩, hk1⟩
  rw [hN] at hR1 ⊢
  dsimp only at hR1 ⊢
  have hbB := (Below.refl w1.heap.size w1).alloc (Nat.le_refl _) (.cells (zeroV 1).toArray 31)
  have hkB := Keeps.of_below (F := []) hbB
  have hR2 := hR1.keeps hkB (by simp)
  have hY := CL.new w1 (zeroV 1) 31 _ rfl
  have hlA : w.heap.size < WA.heap.size := hX.lt
  have hX1 := hX.keeps hk1 (by simp; omega)
  have hX2 := hX1.keeps hkB (by simp)
  have hsz1 : WA.heap.size ≤ w1.heap.size := hk1.size
  have hK1 : Keeps [b] w (w1.alloc (.cells (zeroV 1).toArray 31)) := ((Keeps.of_below (F := [b]) hbA).trans hk1 (fun x hx => .inl hx)).trans (Keeps.of_below (F := []) hbB) (by simp)
  unfold zeroV at hbB hkB hR2 hY hX2 hK1
  clear hX1 hX hk1 hA hWA h hN
  have c0 := hR2.c0
  go_wp2_with fail
  generalize hWB : w1.alloc (.cells _ 31) = WB at *
  refine (num_getText _ _ _ hR2.r).mono ?_
  rintro e w2 ⟨rfl, rfl⟩
  rw [hG]
  unfold getTV
  dsimp only
  rw [str_back]
  go_wp2_with fail
  refine (o_took hR2 _ 0 (fun _ => by simp)).mono ?_
  rintro e w3 ⟨rfl, ⟨v3, hR3⟩, hk3⟩
  rw [hD] at hR3
  have hY3 := hY.keeps hk3 (by simp; omega)
  have hX3 := hX2.keeps hk3 (by simp; omega)
  have hK3 := hK1.trans hk3 (fun x hx => .inl hx)
  have hlY : w1.heap.size < w2.heap.size := hY.lt
  have hsz3 := hk3.size
  clear hY hX2 hK1 hk3 hR2 c0 hWB hbB hkB hG hD
  have hY4 := hY3.set 1 (by simp) (.string k)
  have hkS : Keeps [w1.heap.size] w3 (w3.setCell ⟨w1.heap.size, 1, none⟩ (.string k)) := (Keeps.refl _ w3).setCell (.inl (by simp)) _
  have hX4 := hX3.keeps hkS (by simp; omega)
  have hR4 := hR3.keeps hkS (by simp; omega)
  have hK4 := hK3.trans hkS (fun x hx => .inr (by simp at hx; omega))
  have y1 := hY3.c 1 (by simp)
  have y0 := hY4.c 0 (by simp)
  have yf := hY3.fr
  simp only [List.getElem_cons_zero, List.getElem_cons_succ, List.set_cons_zero, List.set_cons_succ] at y1 y0 hY4
  go_wp2_with fail
  have hT4 := Utf8Tabs_keeps hT hK4 (by simp; exact h3) (by simp; exact h4)
  have hsz4 : w3.heap.size ≤ (w3.setCell ⟨w1.heap.size, 1, none⟩ (.string k)).heap.size := hkS.size
  clear y0 y1 yf hY3 hX3 hR3 hK3 hR1 hkS
  generalize w3.setCell ⟨w1.heap.size, 1, none⟩ (.string k) = W4 at *
  refine (o_value s hs hT4 hv hR4).mono ?_
  rintro e w5 ⟨rfl, ⟨v5, hR5⟩, hk5⟩
  have hY5 := hY4.keeps hk5 (by simp; omega)
  have hX5 := hX4.keeps hk5 (by simp; omega)
  have hK5 := hK4.trans hk5 (fun x hx => .inl hx)
  have hsz5 := hk5.size
  clear hY4 hX4 hK4 hR4 hk5 hT4 hT
  have hYw : CL (set3' w5 w1.heap.size 2 (.int .i64 2) (.int .i64 0) (.string s)) w1.heap.size _ := ((hY5.set 2 (by simp) (.int .i64 2)).set 3 (by simp) (.int .i64 0)).set 4 (by simp) (.string s)
  have hkW : Keeps [w1.heap.size] w5 (set3' w5 w1.heap.size 2 (.int .i64 2) (.int .i64 0) (.string s)) := ((((Keeps.refl [w1.heap.size] w5).setCell (.inl (by simp)) _).setCell (.inl (by simp)) _).setCell (.inl (by simp)) _)
  have hX6 := hX5.keeps hkW (by simp; omega)
  have hR6 := hR5.keeps hkW (by simp; omega)
  have hK6 := hK5.trans hkW (fun x hx => .inr (by simp at hx; omega))
  have y2 := hY5.c 2 (by simp)
  have y3 := hY5.c 3 (by simp)
  have y4 := hY5.c 4 (by simp)
  have yf := hY5.fr
  have q0 := hYw.c 0 (by simp)
  have q1 := hYw.c 1 (by simp)
  have q2 := hYw.c 2 (by simp)
  have q3 := hYw.c 3 (by simp)
  have q4 := hYw.c 4 (by simp)
  have q5 := hYw.c 5 (by simp)
  have q6 := hYw.c 6 (by simp)
  have q7 := hYw.c 7 (by simp)
  have q8 := hYw.c 8 (by simp)
  have x0 := hX6.c 0 (by simp)
  have x1 := hX6.c 1 (by simp)
  have x2 := hX6.c 2 (by simp)
  have x3 := hX6.c 3 (by simp)
  have x4 := hX6.c 4 (by simp)
  have x5 := hX6.c 5 (by simp)
  have x6 := hX6.c 6 (by simp)
  have x7 := hX6.c 7 (by simp)
  have x8 := hX6.c 8 (by simp)
  have xf := hX6.fr
  have hX7 := ((((((((hX6.set 0 (by simp) (.int .i64 1)).set 1 (by simp) (.string k)).set 2 (by simp) (.int .i64 2)).set 3 (by simp) (.int .i64 0)).set 4 (by simp) (.string s)).set 5 (by simp) (.int .i64 0)).set 6 (by simp) (.int .i64 0)).set 7 (by simp) (.string { data := #[] })).set 8 (by simp) (.int .i64 0)
  have hkX : Keeps [w.heap.size] (set3' w5 w1.heap.size 2 (.int .i64 2) (.int .i64 0) (.string s)) _ := (((((((((Keeps.refl [w.heap.size] (set3' w5 w1.heap.size 2 (.int .i64 2) (.int .i64 0) (.string s))).setCell (p := ⟨w.heap.size, 0, none⟩) (.inl (by simp)) (.int .i64 1)).setCell (p := ⟨w.heap.size, 1, none⟩) (.inl (by simp)) (.string k)).setCell (p := ⟨w.heap.size, 2, none⟩) (.inl (by simp)) (.int .i64 2)).setCell (p := ⟨w.heap.size, 3, none⟩) (.inl (by simp)) (.int .i64 0)).setCell (p := ⟨w.heap.size, 4, none⟩) (.inl (by simp)) (.string s)).setCell (p := ⟨w.heap.size, 5, none⟩) (.inl (by simp)) (.int .i64 0)).setCell (p := ⟨w.heap.size, 6, none⟩) (.inl (by simp)) (.int .i64 0)).setCell (p := ⟨w.heap.size, 7, none⟩) (.inl (by simp)) (.string { data := #[] })).setCell (p := ⟨w.heap.size, 8, none⟩) (.inl (by simp)) (.int .i64 0)
  have hR7 := hR6.keeps hkX (by simp; omega)
  have hK7 := hK6.trans hkX (fun x hx => .inr (by simp at hx; omega))
  simp only [List.getElem_cons_zero, List.getElem_cons_succ, List.set_cons_zero, List.set_cons_succ] at y2 y3 y4 q0 q1 q2 q3 q4 q5 q6 q7 q8 x0 x1 x2 x3 x4 x5 x6 x7 x8 hX7
  have HZ := Lib.hid (And.intro hX7 (And.intro hR7 hK7))
  clear hX7 hR7 hK7 hkX hX6 hR6 hK6 hkW hYw hX5 hY5 hK5 hR5
  unfold set3' at *
  go_wp2_with fail
  refine bodyPost_ret (results_cell1 rfl _ _ _ _ _ rfl (load_op HZ.out.1)) rfl ?_
  exact ⟨rfl, ⟨_, HZ.out.2.1⟩, HZ.out.2.2⟩
end Go.Proofs.YtmddhlfjilkdfaaGreatDoor
namespace Go.Proofs.YtmddhlfjilkdfaaGreatDoor
set_option linter.unusedVariables false
set_option linter.unusedSimpArgs false

theorem lenB_putN {n : Nat} (hn : n ≤ 8000) : lenB n = putN n := by
  have hz : zig (n : Int) = 2 * n := by unfold zig; rw [if_neg (by omega)]; omega
  unfold lenB putN
  rw [hz]
  unfold leb
  by_cases h : n < 64
  · rw [if_pos h, if_pos (by omega)]
  · rw [if_neg h, if_neg (by omega)]
    unfold leb
    rw [if_pos (by omega)]
theorem lenB_putT {l : List UInt8} (hn : l.length ≤ 8000) : lenB l.length ++ l = putT l := by
  unfold putT
  rw [lenB_putN hn]
theorem encD_parts {k s : List UInt8} (hk : k.length ≤ 8000) (hs : s.length ≤ 8000) : encD k s = putN 1 ++ (putN 1 ++ (putN 1 ++ (putN 1 ++ (putT k ++ (putN 2 ++ putT s))))) := by
  unfold encD
  rw [lenB_putT hk, lenB_putT hs]
  have h1 : putN 1 = [2] := by decide
  have h2 : putN 2 = [4] := by decide
  rw [h1, h2]
  simp
end Go.Proofs.YtmddhlfjilkdfaaGreatDoor
namespace Go.Proofs.YtmddhlfjilkdfaaGreatDoor
set_option linter.unusedVariables false
set_option linter.unusedSimpArgs false
open Go.RowKit

/-- What the head of a region must reach: the tail's walk. -/
def tailQ (P : Program) (ops : Array Oper) (Q : Exit → Act → World → Prop) (tail : List Oper) : Exit → Act → World → Prop
  | .normal, a, w => wpList P ops Q tail a w
  | e, a, w => Q e a w

/-- The form: the head is one, its guards lead into it, and the tail waits for all of it. -/
def tailOk (l : List Oper) (n : Nat) : Bool :=
  regionOk (l.take n).toArray && decide (n < l.length) &&
  ((l.take n).all fun o => match o.guard with | some (g, _) => decide (g < n) | none => true) &&
  Region.sinkB .any l.toArray n && Region.chainB .any l.toArray n &&
  Region.seqB .any l.toArray (l.length - n) n (Array.replicate n true ++ Array.replicate (l.length - n) false)

section
variable {P : Program} {l : List Oper} {n : Nat} {Q : Exit → Act → World → Prop}

theorem head_at {i : Nat} (hi : i < n) : (l.take n).toArray[i]? = l.toArray[i]? := by simp [hi]

theorem upon_tail {o : Oper} {ops : Array Oper} {tail : List Oper} {K : Act → World → Prop} {a : Act} {r : Result Next} (h : o.upon P a K (tailQ P ops Q tail) r) : o.upon P a K Q r := by
  cases r with
  | halt x w =>
    cases x <;> exact h
  | ok nx w =>
    cases nx with
    | enter f args =>
      refine Calls.mono (show Calls P f args w _ from h) fun e w'' he => ?_
      cases e <;> exact he
    | _ => exact h

theorem wpOp_head {K : Act → World → Prop} {i : Nat} {a : Act} {w : World} {tail : List Oper} (hi : i < n) (hg : ((l.take n).all fun o => match o.guard with | some (g, _) => decide (g < n) | none => true) = true)
    (h : wpOp P (l.take n).toArray (tailQ P l.toArray Q tail) i K a w) : wpOp P l.toArray Q i K a w := by
  unfold wpOp at h ⊢
  rw [head_at hi] at h
  cases ho : l.toArray[i]? with
  | none => rw [ho] at h; exact h
  | some o =>
    rw [ho] at h
    simp only [] at h ⊢
    have hw : Region.wanted o (yielded (l.take n).toArray a.tmps) = Region.wanted o (yielded l.toArray a.tmps) := by
      unfold Region.wanted
      cases hgd : o.guard with
      | none => rfl
      | some g =>
        obtain ⟨j, b⟩ := g
        have hmem : o ∈ l.take n := by
          have : l[i]? = some o := by simpa using ho
          exact List.mem_of_getElem? (i := i) (by rw [List.getElem?_take, if_pos hi]; exact this)
        have := List.all_eq_true.1 hg o hmem
        rw [hgd] at this
        have hj : j < n := by simpa using this
        simp only []
        unfold yielded
        rw [head_at hj]
    rw [hw] at h
    split
    · rename_i hwt
      rw [if_pos hwt] at h
      rcases h with h | ⟨h1, h2⟩
      · exact .inl (upon_tail h)
      · exact .inr ⟨h1, h2⟩
    · rename_i hwt
      rwa [if_neg hwt] at h

theorem app_get {L : Array Bool} {g j : Nat} (hL : L.size = n) (hj : j < n) (b : Bool) : (L ++ Array.replicate g false).getD j b = L.getD j b := by
  have h1 : j < L.size := by omega
  simp [Array.getD_eq_getD_getElem?, Array.getElem?_append_left h1]
theorem app_get' {L : Array Bool} {g j : Nat} (hL : L.size = n) (hj : n ≤ j) (hj2 : j < n + g) (b : Bool) : (L ++ Array.replicate g false).getD j b = false := by
  simp only [Array.getD_eq_getD_getElem?]
  rw [Array.getElem?_append_right (by omega), Array.getElem?_replicate, if_pos (by omega)]
  rfl

theorem any_tail (hok : tailOk l n = true) : ∀ (f : Nat) (L : Array Bool) (a : Act) (w : World), L.size = n →
    (∀ j oj, j < n → l.toArray[j]? = some oj → L.getD j false = true → ∀ e ∈ oj.after, Region.binds .any e = true → L.getD e.on false = true) → L.toList.count false = f →
    wpAny P .any (l.take n).toArray (tailQ P l.toArray Q (l.drop n)) f L a w → wpAny P .any l.toArray Q (f + (l.length - n)) (L ++ Array.replicate (l.length - n) false) a w := by
  unfold tailOk at hok
  simp only [Bool.and_eq_true, decide_eq_true_eq] at hok
  obtain ⟨⟨⟨⟨⟨hreg, hn⟩, hg⟩, hs⟩, hc⟩, hseq⟩ := hok
  have F := rform_of_ok hreg
  have hsz : (l.take n).toArray.size = n := by simp; omega
  have back : ∀ j oj, j < n → l.toArray[j]? = some oj → ∀ e ∈ oj.after, Region.binds .any e = true → e.on < j := fun j oj hj ho e he hb =>
    F.back j oj (by rw [head_at hj]; exact ho) e he hb
  intro f
  induction f with
  | zero =>
    intro L a w hL hcl hcnt h
    have hall : L = Array.replicate n true := by
      apply Array.ext'
      rw [Array.toList_replicate]
      apply List.ext_getElem
      · simpa using hL
      · intro i h1 h2
        rw [List.getElem_replicate]
        have := List.count_eq_zero.1 hcnt
        cases hb : L.toList[i] with
        | true => rfl
        | false => exact absurd (hb ▸ List.getElem_mem h1) this
    subst hall
    have hq : wpList P l.toArray Q (l.drop n) a w := h.2
    have hd : (l.drop n).length = l.length - n := List.length_drop
    have := wpAny_of_seq (P := P) (md := .any) (ops := l.toArray) (Q' := Q) (l.drop n) n _ a w (fun j => by simp) (by rw [hd]; exact hseq) hq
    rw [hd] at this
    rw [Nat.zero_add]
    exact this
  | succ f ih =>
    intro L a w hL hcl hcnt h
    have hdeps : ∀ j, j < n → (j ∈ Region.ready .any l.toArray (L ++ Array.replicate (l.length - n) false) ↔ j ∈ Region.ready .any (l.take n).toArray L) := fun j hj => by
      rw [mem_ready, mem_ready, app_get hL hj, head_at hj]
      constructor
      · rintro ⟨h1, o, h2, h3⟩
        exact ⟨h1, o, h2, fun e he hb => by rw [← app_get (g := l.length - n) hL (by have := back j o hj h2 e he hb; omega)]; exact h3 e he hb⟩
      · rintro ⟨h1, o, h2, h3⟩
        exact ⟨h1, o, h2, fun e he hb => by rw [app_get hL (by have := back j o hj h2 e he hb; omega)]; exact h3 e he hb⟩
    have inv : HeadInv .any l.toArray n (L ++ Array.replicate (l.length - n) false) := by
      refine ⟨by simp; omega, fun j oj ho hl e he hb => ?_, fun t h1 h2 => app_get' hL h1 (by simp at h2; omega) _⟩
      have hjs := (Array.getElem?_eq_some_iff.1 ho).1
      rcases Nat.lt_or_ge j n with hj | hj
      · rw [app_get hL hj] at hl
        rw [app_get hL (by have := back j oj hj ho e he hb; omega)]
        exact hcl j oj hj ho hl e he hb
      · rw [app_get' hL hj (by simp at hjs; omega)] at hl
        cases hl
    have some_un : ∃ i, i < n ∧ L.getD i false = false := by
      have : false ∈ L.toList := by
        rw [← List.count_pos_iff]
        omega
      obtain ⟨i, hi, he⟩ := List.mem_iff_getElem.1 this
      have hi' : i < L.size := by simpa using hi
      exact ⟨i, by omega, by simpa [hi'] using he⟩
    obtain ⟨i0, hi0, hu0⟩ := some_un
    have least : ∃ j, j ∈ Region.ready .any (l.take n).toArray L := by
      have key : ∀ m i, i < m → i < n → L.getD i false = false → ∃ j, j ∈ Region.ready .any (l.take n).toArray L := by
        intro m
        induction m with
        | zero => intro i hi; omega
        | succ m ihm =>
          intro i hi hin hun
          by_cases hex : ∃ k, k < i ∧ L.getD k false = false
          · obtain ⟨k, hk, hku⟩ := hex
            exact ihm k (by omega) (by omega) hku
          · refine ⟨i, mem_ready.2 ⟨getD_in (by omega) hun, ?_⟩⟩
            have his : i < (l.take n).toArray.size := by omega
            refine ⟨_, Array.getElem?_eq_getElem his, fun e he hb => ?_⟩
            have := F.back i _ (Array.getElem?_eq_getElem his) e he hb
            cases hl : L.getD e.on false with
            | true => rfl
            | false => exact absurd ⟨e.on, this, hl⟩ hex
      exact key (i0 + 1) i0 (by omega) hi0 hu0
    obtain ⟨j0, hj0⟩ := least
    have hj0n : j0 < n := by
      obtain ⟨_, o, ho, _⟩ := mem_ready.1 hj0
      have := (Array.getElem?_eq_some_iff.1 ho).1
      omega
    rw [Nat.add_right_comm]
    refine ⟨fun hr => ?_, fun i hi => ?_⟩
    · have := (hdeps j0 hj0n).2 hj0
      rw [hr] at this
      cases this
    · have hin : i < n := by
        rcases Nat.lt_or_ge i n with h1 | h1
        · exact h1
        · exact absurd hi (tail_waits hs hc (by simpa using hn) inv (n - i0) i0 rfl hi0 (by rw [app_get hL hi0]; exact getD_in (by omega) hu0) i h1)
      have hih := (hdeps i hin).1 hi
      obtain ⟨hiu, oi, hoi, hdi⟩ := mem_ready.1 hih
      refine wpOp_mono (fun a' w' h' => ?_) (wpOp_head hin hg (h.2 i hih))
      have hset : (L ++ Array.replicate (l.length - n) false).setIfInBounds i true = L.setIfInBounds i true ++ Array.replicate (l.length - n) false := by
        rw [Array.setIfInBounds_append_left (by omega)]
      rw [hset]
      refine ih (L.setIfInBounds i true) a' w' (by simpa using hL) (fun j oj hj ho hl e he hb => ?_) ?_ h'
      · by_cases hij : i = j
        · subst hij
          rw [head_at hin] at hoi
          obtain rfl : oj = oi := Option.some.inj (ho.symm.trans hoi)
          exact getD_set_true (hdi e he hb)
        · rw [getD_set_ne false hij] at hl
          exact getD_set_true (hcl j oj hj ho hl e he hb)
      · have hiL : i < L.toList.length := by simp; omega
        have hib : L.toList[i] = false := by
          have : i < L.size := by omega
          simpa [this] using hiu
        rw [Array.toList_setIfInBounds, List.count_set hiL, hcnt, hib]
        simp

theorem any_of_tail {w : World} {a0 : Act} (n : Nat) (hok : tailOk l n = true) (Φ : Nat → Option (Value → World → Prop))
    (hst : ∀ k φ, Φ k = some φ → ∀ v w w', φ v w → Below w.heap.size w w' → φ v w') (h : ∀ vals, wpSW (l.take n).toArray Φ w (tailQ P l.toArray Q (l.drop n)) vals P (l.take n) 0 a0 []) : wpAny P .any l.toArray Q l.toArray.size (Array.replicate l.toArray.size false) a0 { w with drawn := w.drawn + 1 } := by
  have hok' := hok
  unfold tailOk at hok'
  simp only [Bool.and_eq_true, decide_eq_true_eq] at hok'
  obtain ⟨⟨⟨⟨⟨hreg, hn⟩, _⟩, _⟩, _⟩, _⟩ := hok'
  have F := rform_of_ok hreg
  have hsz : (l.take n).toArray.size = n := by simp; omega
  have H : ∀ vals, ∃ cs, SeqV P (l.take n).toArray Φ w (tailQ P l.toArray Q (l.drop n)) a0 vals cs := fun vals => seqV_of_walk (by simpa using h vals)
  obtain ⟨cs, S⟩ := H (fun _ => undef)
  have hrep : ∀ j, (Array.replicate n false).getD j false = false := fun j => by
    simp only [Array.getD_eq_getD_getElem?, Array.getElem?_replicate]
    split <;> rfl
  have hA := any_of_seq F hst H (l.take n).toArray.size (List.range (l.take n).toArray.size) (Array.replicate n false) a0 { w with drawn := w.drawn + 1 } (fun _ => undef) cs (by simp) List.nodup_range (by simp; omega) (fun j hj => by rw [hrep j]; simpa using hj) (fun j k hj => by rw [hrep j] at hj; cases hj) ⟨rfl, rfl, rfl, Nat.le_refl _, fun _ _ => rfl⟩ S
    (fun j φ hj => by rw [hrep j] at hj; cases hj) ⟨rfl, rfl, fun j d hj => (by rw [hrep j] at hj; cases hj), fun s _ => rfl⟩
  rw [hsz] at hA
  have := any_tail hok n (Array.replicate n false) a0 _ (by simp) (fun j oj _ _ hl => by rw [hrep j] at hl; cases hl) (by simp) hA
  have e1 : n + (l.length - n) = l.toArray.size := by simp; omega
  have e2 : Array.replicate n false ++ Array.replicate (l.length - n) false = Array.replicate l.toArray.size false := by
    apply Array.ext'
    simp
    omega
  rw [e1, e2] at this
  exact this

/-- THE LAW. -/
theorem wp_region_tail {id : Nat} {w : World} {a0 : Act} (n : Nat) (hm : P.follows .mixedOrders = true) (hok : tailOk l n = true) (Φ : Nat → Option (Value → World → Prop))
    (hst : ∀ k φ, Φ k = some φ → ∀ v w w', φ v w → Below w.heap.size w w' → φ v w') (h : ∀ vals, wpSW (l.take n).toArray Φ w (tailQ P l.toArray Q (l.drop n)) vals P (l.take n) 0 a0 []) : (Code.region id l.toArray true).wp P Q a0 w :=
  wp_region_any hm (any_of_tail n hok Φ hst h)
end
end Go.Proofs.YtmddhlfjilkdfaaGreatDoor
namespace Go.Proofs.YtmddhlfjilkdfaaGreatDoor
set_option linter.unusedVariables false
set_option linter.unusedSimpArgs false
open Go.RowKit

/-- Which calls stand in the chain, which turn nothing that was there, and which operation ends what a call's result was known for. -/
structure PlanK where
  c : List Nat
  grow : List Nat
  kill : List (Nat × Nat)
def PlanK.killOf (L : PlanK) (j : Nat) : Option Nat := (L.kill.find? fun p => p.1 == j).map (·.2)
def PlanK.free (L : PlanK) (k : Nat) : Bool := !L.grow.contains k
def PlanK.dead (L : PlanK) (i j : Nat) : Bool :=
  match L.killOf j with
  | none => false
  | some k => k == i || (decide (k < i) && L.c.contains k && L.c.contains i)

/-- Operation k waits for j, and what is known of j has not ended. -/
def depAK (ops : Array Oper) (L : PlanK) (k j : Nat) : Bool :=
  depB ops k j && (match L.killOf j with | none => true | some x => x == k || depB ops x k)
theorem depA_depK {ops : Array Oper} {L : PlanK} {k j : Nat} (h : depAK ops L k j = true) : depB ops k j = true := by
  unfold depAK at h
  exact (Bool.and_eq_true _ _ ▸ h).1
def hypCK (ops : Array Oper) (L : PlanK) (Φ : Nat → Option (Value → World → Prop)) (a0 : Act) (cs : Nat → Value) (k : Nat) (w : World) : Prop :=
  ∀ j φ, j < k → wtd ops a0 cs j = true → Φ j = some φ → depAK ops L k j = true → φ (cs j) w

section
variable {P : Program} (ops : Array Oper) (L : PlanK) (Φ : Nat → Option (Value → World → Prop)) (w0 : World → Prop) (Q : Exit → Act → World → Prop) (vals : Nat → Value)

/-- The walk in the text's order. 'H': what is known of the calls' results so far. -/
def wpSCK (P : Program) : List Oper → Nat → Act → List (Nat × (Value → World → Prop)) → Prop
  | [], _, a, H => ∀ w, w0 w → (∀ p ∈ H, L.killOf p.1 = none → p.2 (vals p.1) w) → Q .normal a w
  | o :: rest, k, a, H =>
    if Region.wanted o (yielded ops a.tmps) then
      match Φ k with
      | none => ∃ c, (∀ w, w0 w → (∀ p ∈ H, depAK ops L k p.1 = true → p.2 (vals p.1) w) → (execOp a.eval o).run P w = .ok (.value c) w) ∧ wpSCK P rest (k + 1) (a.put o.dst c) H
      | some φ => (∀ w, w0 w → (∀ p ∈ H, depAK ops L k p.1 = true → p.2 (vals p.1) w) → yieldsUpon P w (fun v w' => φ v w' ∧ w0 w' ∧ (L.free k = true → Below w.heap.size w w') ∧ (L.free k = false → ∀ p ∈ H, L.dead k p.1 = false → p.2 (vals p.1) w → p.2 (vals p.1) w')) ((execOp a.eval o).run P w)) ∧
          wpSCK P rest (k + 1) (a.put o.dst (vals k)) ((k, φ) :: H)
    else wpSCK P rest (k + 1) (a.put o.dst undef) H
end

section
variable {P : Program} {ops : Array Oper} {L : PlanK} {Φ : Nat → Option (Value → World → Prop)} {w0 : World → Prop} {Q : Exit → Act → World → Prop} {a0 : Act}

theorem yieldsUpon.monoK {P : Program} {w : World} {R R' : Value → World → Prop} {r : Result Next} (h : ∀ v w', R v w' → R' v w') (hy : yieldsUpon P w R r) : yieldsUpon P w R' r := by
  cases r with
  | halt x w' => exact hy.elim
  | ok nx w' =>
    cases nx with
    | value v => exact h _ _ hy
    | enter f args => exact Calls.mono hy fun e w'' he => by obtain ⟨v, rfl, h1⟩ := he; exact ⟨v, rfl, h _ _ h1⟩
    | _ => exact hy.elim

/-- The calls stand in a chain. -/
def chainBK (ops : Array Oper) : List Nat → Bool
  | a :: b :: r => decide (a < b) && depB ops b a && chainBK ops (b :: r)
  | _ => true
theorem chain_ltK : ∀ (c : List Nat) (a : Nat), chainBK ops (a :: c) = true → ∀ x ∈ c, a < x := by
  intro c
  induction c with
  | nil => intro a _ x hx; cases hx
  | cons b r ih =>
    intro a h x hx
    simp only [chainBK, Bool.and_eq_true, decide_eq_true_eq] at h
    rcases List.mem_cons.1 hx with rfl | hx
    · exact h.1.1
    · exact Nat.lt_trans h.1.1 (ih b h.2 x hx)
theorem chain_headK {listed : Array Bool} (hcl : ∀ j k, listed.getD j false = true → depB ops j k = true → listed.getD k false = true) :
    ∀ (c : List Nat) (a : Nat), chainBK ops (a :: c) = true → ∀ j ∈ a :: c, listed.getD j false = true → listed.getD a false = true := by
  intro c
  induction c with
  | nil => intro a _ j hj hl; rw [List.mem_singleton] at hj; subst hj; exact hl
  | cons b r ih =>
    intro a h j hj hl
    simp only [chainBK, Bool.and_eq_true, decide_eq_true_eq] at h
    rcases List.mem_cons.1 hj with rfl | hj
    · exact hl
    · exact hcl b a (ih b h.2 j hj hl) h.1.2
theorem chain_closedK {listed : Array Bool} (hcl : ∀ j k, listed.getD j false = true → depB ops j k = true → listed.getD k false = true) :
    ∀ (c : List Nat), chainBK ops c = true → ∀ i j, i ∈ c → j ∈ c → i < j → listed.getD j false = true → listed.getD i false = true := by
  intro c
  induction c with
  | nil => intro _ i j hi; cases hi
  | cons a r ih =>
    intro h i j hi hj hij hl
    rcases List.mem_cons.1 hi with rfl | hi2
    · exact chain_headK hcl r _ h j hj hl
    · have h2 : chainBK ops r = true := by
        cases r with
        | nil => rfl
        | cons b r => simp only [chainBK, Bool.and_eq_true] at h; exact h.2
      rcases List.mem_cons.1 hj with rfl | hj2
      · exact absurd (chain_ltK r _ h i hi2) (by omega)
      · exact ih h2 i j hi2 hj2 hij hl

/-- The values of one walk in the text's order. -/
structure SeqCK (P : Program) (ops : Array Oper) (L : PlanK) (Φ : Nat → Option (Value → World → Prop)) (w0 : World → Prop) (Q : Exit → Act → World → Prop) (a0 : Act) (vals cs : Nat → Value) : Prop where
  pure : ∀ k o, ops[k]? = some o → wtd ops a0 cs k = true → Φ k = none → ∀ w, w0 w → hypCK ops L Φ a0 cs k w → (execOp (actTo ops a0 cs k).eval o).run P w = .ok (.value (cs k)) w
  pred : ∀ k o φ, ops[k]? = some o → wtd ops a0 cs k = true → Φ k = some φ → cs k = vals k ∧ ∀ w, w0 w → hypCK ops L Φ a0 cs k w →
    yieldsUpon P w (fun v w' => φ v w' ∧ w0 w' ∧ (L.free k = true → Below w.heap.size w w') ∧ (L.free k = false → ∀ j ψ, j < k → wtd ops a0 cs j = true → Φ j = some ψ → L.dead k j = false → ψ (cs j) w → ψ (cs j) w')) ((execOp (actTo ops a0 cs k).eval o).run P w)
  skip : ∀ k o, ops[k]? = some o → wtd ops a0 cs k = false → cs k = undef
  done : ∀ w, w0 w → (∀ j φ, j < ops.size → wtd ops a0 cs j = true → Φ j = some φ → L.killOf j = none → φ (cs j) w) → Q .normal (actTo ops a0 cs ops.size) w

/-- From the walk to its values. -/
theorem seqC_of_walkK {vals : Nat → Value} : ∀ (l : List Oper) (k : Nat) (cs0 : Nat → Value) (H : List (Nat × (Value → World → Prop))), (∀ j, l[j]? = ops[k + j]?) → k + l.length = ops.size →
    wpSCK ops L Φ w0 Q vals P l k (actTo ops a0 cs0 k) H →
    (∀ p, p ∈ H ↔ (p.1 < k ∧ wtd ops a0 cs0 p.1 = true ∧ Φ p.1 = some p.2)) →
    (∀ p ∈ H, cs0 p.1 = vals p.1) →
    ∃ cs, (∀ j, j < k → cs j = cs0 j) ∧
      (∀ j o, k ≤ j → ops[j]? = some o → wtd ops a0 cs j = true → Φ j = none → ∀ w, w0 w → hypCK ops L Φ a0 cs j w → (execOp (actTo ops a0 cs j).eval o).run P w = .ok (.value (cs j)) w) ∧
      (∀ j o φ, k ≤ j → ops[j]? = some o → wtd ops a0 cs j = true → Φ j = some φ → cs j = vals j ∧ ∀ w, w0 w → hypCK ops L Φ a0 cs j w →
        yieldsUpon P w (fun v w' => φ v w' ∧ w0 w' ∧ (L.free j = true → Below w.heap.size w w') ∧ (L.free j = false → ∀ i ψ, i < j → wtd ops a0 cs i = true → Φ i = some ψ → L.dead j i = false → ψ (cs i) w → ψ (cs i) w')) ((execOp (actTo ops a0 cs j).eval o).run P w)) ∧
      (∀ j o, k ≤ j → ops[j]? = some o → wtd ops a0 cs j = false → cs j = undef) ∧
      (∀ w, w0 w → (∀ j φ, j < ops.size → wtd ops a0 cs j = true → Φ j = some φ → L.killOf j = none → φ (cs j) w) → Q .normal (actTo ops a0 cs ops.size) w) := by
  intro l
  induction l with
  | nil =>
    intro k cs0 H hl hk h hH hv
    have hk' : k = ops.size := by simpa using hk
    subst hk'
    refine ⟨cs0, fun _ _ => rfl, ?_, ?_, ?_, ?_⟩
    · intro j o hj ho; exact absurd (Array.getElem?_eq_some_iff.1 ho).1 (by omega)
    · intro j o φ hj ho; exact absurd (Array.getElem?_eq_some_iff.1 ho).1 (by omega)
    · intro j o hj ho; exact absurd (Array.getElem?_eq_some_iff.1 ho).1 (by omega)
    · intro w hw hf
      refine h w hw fun p hp hkl => ?_
      obtain ⟨h1, h2, h3⟩ := (hH p).1 hp
      rw [← hv p hp]
      exact hf p.1 p.2 h1 h2 h3 hkl
  | cons o rest ih =>
    intro k cs0 H hl hk h hH hv
    have ho : ops[k]? = some o := by have := hl 0; simpa using this.symm
    have hl' : ∀ j, rest[j]? = ops[k + 1 + j]? := fun j => by
      have := hl (j + 1)
      rw [List.getElem?_cons_succ] at this
      rw [this]
      congr 1
      omega
    have hk' : k + 1 + rest.length = ops.size := by simp at hk; omega
    have hdst : o.dst = dstOf ops k := by simp [dstOf, ho]
    -- the frame with one value more
    have put : ∀ c, (actTo ops a0 cs0 k).put o.dst c = actTo ops a0 (fun j => if j = k then c else cs0 j) (k + 1) := fun c => by
      show _ = (actTo ops a0 _ k).put _ (if k = k then c else cs0 k)
      rw [actTo_congr (cs' := cs0) k (fun j hj => if_neg (by omega)), hdst, if_pos rfl]
    have wold : ∀ c j, j ≤ k → wtd ops a0 (fun j => if j = k then c else cs0 j) j = wtd ops a0 cs0 j := fun c j hj =>
      wtd_congr j (fun i hi => if_neg (by omega))
    have wk : wtd ops a0 cs0 k = Region.wanted o (yielded ops (actTo ops a0 cs0 k).tmps) := by unfold wtd; rw [ho]
    -- what the rest gives, read at k as well
    have lift : ∀ (cs : Nat → Value) (c : Value), (∀ j, j < k + 1 → cs j = (fun j => if j = k then c else cs0 j) j) → (∀ j, j < k → cs j = cs0 j) ∧ cs k = c := fun cs c hc =>
      ⟨fun j hj => by rw [hc j (by omega)]; exact if_neg (by omega), by rw [hc k (by omega)]; exact if_pos rfl⟩
    simp only [wpSCK] at h
    by_cases hw : Region.wanted o (yielded ops (actTo ops a0 cs0 k).tmps) = true
    · rw [if_pos hw] at h
      cases hφ : Φ k with
      | none =>
        rw [hφ] at h
        obtain ⟨c, hc, h⟩ := h
        rw [put c] at h
        obtain ⟨cs, e0, e1, e2, e3, e4⟩ := ih (k + 1) _ H hl' hk' h (fun p => by
          rw [hH p]
          constructor
          · rintro ⟨h1, h2, h3⟩; exact ⟨by omega, by rw [wold c p.1 (by omega)]; exact h2, h3⟩
          · rintro ⟨h1, h2, h3⟩
            have hne : p.1 ≠ k := by intro e; rw [e, hφ] at h3; cases h3
            exact ⟨by omega, by rw [← wold c p.1 (by omega)]; exact h2, h3⟩) (fun p hp => by
          have := ((hH p).1 hp).1
          rw [if_neg (by omega)]
          exact hv p hp)
        obtain ⟨f0, fk⟩ := lift cs c e0
        refine ⟨cs, f0, ?_, ?_, ?_, e4⟩
        · intro j o' hj ho' hwj hn w hwB hyp
          rcases Nat.eq_or_lt_of_le hj with rfl | hlt
          · obtain rfl : o = o' := by rw [ho] at ho'; exact Option.some.inj ho'
            rw [actTo_congr (cs' := cs0) k f0, fk]
            refine hc w hwB fun p hp hd => ?_
            obtain ⟨h1, h2, h3⟩ := (hH p).1 hp
            have := hyp p.1 p.2 h1 (by rw [wtd_congr p.1 (fun i hi => f0 i (by omega))]; exact h2) h3 hd
            rw [f0 p.1 h1, hv p hp] at this
            exact this
          · exact e1 j o' hlt ho' hwj hn w hwB hyp
        · intro j o' φ hj ho' hwj hn
          rcases Nat.eq_or_lt_of_le hj with rfl | hlt
          · rw [hφ] at hn; cases hn
          · exact e2 j o' φ hlt ho' hwj hn
        · intro j o' hj ho' hwj
          rcases Nat.eq_or_lt_of_le hj with rfl | hlt
          · rw [wtd_congr k f0, wk, hw] at hwj; cases hwj
          · exact e3 j o' hlt ho' hwj
      | some φ =>
        rw [hφ] at h
        obtain ⟨hc, h⟩ := h
        rw [put (vals k)] at h
        obtain ⟨cs, e0, e1, e2, e3, e4⟩ := ih (k + 1) _ ((k, φ) :: H) hl' hk' h (fun p => by
          rw [List.mem_cons, hH p]
          constructor
          · rintro (rfl | ⟨h1, h2, h3⟩)
            · exact ⟨by simp, by rw [wold _ k (Nat.le_refl _), wk]; exact hw, hφ⟩
            · exact ⟨by omega, by rw [wold _ p.1 (by omega)]; exact h2, h3⟩
          · rintro ⟨h1, h2, h3⟩
            by_cases hpk : p.1 = k
            · left
              rw [hpk, hφ] at h3
              exact Prod.ext hpk (Option.some.inj h3).symm
            · exact .inr ⟨by omega, by rw [← wold (vals k) p.1 (by omega)]; exact h2, h3⟩) (fun p hp => by
          rcases List.mem_cons.1 hp with rfl | hp
          · exact if_pos rfl
          · have := ((hH p).1 hp).1
            rw [if_neg (by omega)]
            exact hv p hp)
        obtain ⟨f0, fk⟩ := lift cs (vals k) e0
        refine ⟨cs, f0, ?_, ?_, ?_, e4⟩
        · intro j o' hj ho' hwj hn w hwB hyp
          rcases Nat.eq_or_lt_of_le hj with rfl | hlt
          · rw [hφ] at hn; cases hn
          · exact e1 j o' hlt ho' hwj hn w hwB hyp
        · intro j o' φ' hj ho' hwj hn
          rcases Nat.eq_or_lt_of_le hj with rfl | hlt
          · obtain rfl : o = o' := by rw [ho] at ho'; exact Option.some.inj ho'
            obtain rfl : φ = φ' := by rw [hφ] at hn; exact Option.some.inj hn
            refine ⟨fk, fun w hwB hyp => ?_⟩
            rw [actTo_congr (cs' := cs0) k f0]
            refine yieldsUpon.monoK (fun v w' hy => ⟨hy.1, hy.2.1, hy.2.2.1, fun hfr i ψ hi hwi hfi hdd hψ => ?_⟩) (hc w hwB fun p hp hd => ?_)
            · have hmem : (i, ψ) ∈ H := (hH (i, ψ)).2 ⟨hi, by rw [← wtd_congr i (fun x hx => f0 x (by omega))]; exact hwi, hfi⟩
              rw [f0 i hi, hv (i, ψ) hmem] at hψ ⊢
              exact hy.2.2.2 hfr (i, ψ) hmem hdd hψ
            obtain ⟨h1, h2, h3⟩ := (hH p).1 hp
            have := hyp p.1 p.2 h1 (by rw [wtd_congr p.1 (fun i hi => f0 i (by omega))]; exact h2) h3 hd
            rw [f0 p.1 h1, hv p hp] at this
            exact this
          · exact e2 j o' φ' hlt ho' hwj hn
        · intro j o' hj ho' hwj
          rcases Nat.eq_or_lt_of_le hj with rfl | hlt
          · rw [wtd_congr k f0, wk, hw] at hwj; cases hwj
          · exact e3 j o' hlt ho' hwj
    · rw [if_neg hw] at h
      rw [put undef] at h
      obtain ⟨cs, e0, e1, e2, e3, e4⟩ := ih (k + 1) _ H hl' hk' h (fun p => by
        rw [hH p]
        constructor
        · rintro ⟨h1, h2, h3⟩; exact ⟨by omega, by rw [wold undef p.1 (by omega)]; exact h2, h3⟩
        · rintro ⟨h1, h2, h3⟩
          have hne : p.1 ≠ k := by
            intro e
            rw [e, wold undef k (Nat.le_refl _), wk] at h2
            exact hw h2
          exact ⟨by omega, by rw [← wold undef p.1 (by omega)]; exact h2, h3⟩) (fun p hp => by
        have := ((hH p).1 hp).1
        rw [if_neg (by omega)]
        exact hv p hp)
      obtain ⟨f0, fk⟩ := lift cs undef e0
      have hwf : wtd ops a0 cs k = false := by
        rw [wtd_congr k f0, wk]
        simpa using hw
      refine ⟨cs, f0, ?_, ?_, ?_, e4⟩
      · intro j o' hj ho' hwj hn w hwB hyp
        rcases Nat.eq_or_lt_of_le hj with rfl | hlt
        · rw [hwf] at hwj; cases hwj
        · exact e1 j o' hlt ho' hwj hn w hwB hyp
      · intro j o' φ' hj ho' hwj hn
        rcases Nat.eq_or_lt_of_le hj with rfl | hlt
        · rw [hwf] at hwj; cases hwj
        · exact e2 j o' φ' hlt ho' hwj hn
      · intro j o' hj ho' hwj
        rcases Nat.eq_or_lt_of_le hj with rfl | hlt
        · exact fk
        · exact e3 j o' hlt ho' hwj

theorem seqC_allK {vals : Nat → Value} (h : wpSCK ops L Φ w0 Q vals P ops.toList 0 a0 []) : ∃ cs, SeqCK P ops L Φ w0 Q a0 vals cs := by
  obtain ⟨cs, _, e1, e2, e3, e4⟩ := seqC_of_walkK (a0 := a0) ops.toList 0 (fun _ => undef) [] (fun j => by simp) (by simp) h (by simp) (by simp)
  exact ⟨cs, fun k o ho => e1 k o (Nat.zero_le _) ho, fun k o φ ho => e2 k o φ (Nat.zero_le _) ho, fun k o ho => e3 k o (Nat.zero_le _) ho, e4⟩

theorem seqC_agreeK (F : RForm ops) {vals vals' cs cs' : Nat → Value} (S : SeqCK P ops L Φ w0 Q a0 vals cs) (S' : SeqCK P ops L Φ w0 Q a0 vals' cs') {listed : Array Bool}
    (hcl : ∀ j k, listed.getD j false = true → depB ops j k = true → listed.getD k false = true)
    (hv : ∀ j, listed.getD j false = true → vals j = vals' j)
    (hφ : ∀ j, listed.getD j false = true → ∃ w, w0 w ∧ hypCK ops L Φ a0 cs j w) :
    ∀ n j, j < n → listed.getD j false = true → j < ops.size → cs j = cs' j ∧ wtd ops a0 cs j = wtd ops a0 cs' j := by
  intro n
  induction n with
  | zero => intro j hj; omega
  | succ n ih =>
    intro j hj hl hs
    have ho : ops[j]? = some ops[j] := Array.getElem?_eq_getElem hs
    have hdl : ∀ k, k < j → depB ops j k = true → cs k = cs' k := fun k hk hd => (ih k (by omega) (hcl j k hl hd) (by omega)).1
    obtain ⟨e1, e2⟩ := execOp_same F ho (look_two (a0 := a0) F ho hdl)
    have hwt : wtd ops a0 cs j = wtd ops a0 cs' j := by rw [wtd_eq ho, wtd_eq ho, e2]
    refine ⟨?_, hwt⟩
    obtain ⟨w, hw, hyp⟩ := hφ j hl
    have hyp' : hypCK ops L Φ a0 cs' j w := fun k φ hk hwk hf hd => by
      obtain ⟨g1, g2⟩ := ih k (by omega) (hcl j k hl (depA_depK hd)) (by omega)
      rw [← g1]
      exact hyp k φ hk (by rw [g2]; exact hwk) hf hd
    by_cases hwj : wtd ops a0 cs j = true
    · cases hf : Φ j with
      | none =>
        have r1 := S.pure j _ ho hwj hf w hw hyp
        have r2 := S'.pure j _ ho (hwt ▸ hwj) hf w hw hyp'
        rw [e1, r2] at r1
        injection r1 with r1 _
        injection r1 with r1
        exact r1.symm
      | some φ => rw [(S.pred j _ φ ho hwj hf).1, (S'.pred j _ φ ho (hwt ▸ hwj) hf).1, hv j hl]
    · have hwj : wtd ops a0 cs j = false := by simpa using hwj
      rw [S.skip j _ ho hwj, S'.skip j _ ho (hwt ▸ hwj)]

theorem chain_beforeK {listed : Array Bool} (hcl : ∀ j k, listed.getD j false = true → depB ops j k = true → listed.getD k false = true) {i : Nat} (hdep : ∀ a, depB ops i a = true → listed.getD a false = true) :
    ∀ (c : List Nat), chainBK ops c = true → ∀ k, i ∈ c → k ∈ c → k < i → listed.getD k false = true := by
  intro c
  induction c with
  | nil => intro _ k hi; cases hi
  | cons a r ih =>
    intro h k hi hk hki
    have h2 : chainBK ops r = true := by
      cases r with
      | nil => rfl
      | cons b r => simp only [chainBK, Bool.and_eq_true] at h; exact h.2
    rcases List.mem_cons.1 hk with rfl | hk2
    · rcases List.mem_cons.1 hi with rfl | hi2
      · omega
      · cases r with
        | nil => cases hi2
        | cons b r =>
          simp only [chainBK, Bool.and_eq_true, decide_eq_true_eq] at h
          by_cases hib : i = b
          · subst hib; exact hdep _ h.1.2
          · have hir : i ∈ r := by rcases List.mem_cons.1 hi2 with h | h; · exact absurd h hib
                                   · exact h
            exact hcl b _ (ih h2 b hi2 (List.mem_cons_self ..) (chain_ltK r b h.2 i hir)) h.1.2
    · rcases List.mem_cons.1 hi with rfl | hi2
      · exact absurd (chain_ltK r _ h k hk2) (by omega)
      · exact ih h2 k hi2 hk2 hki

structure PlanOkK (ops : Array Oper) (L : PlanK) (Φ : Nat → Option (Value → World → Prop)) : Prop where
  ch : chainBK ops L.c = true
  st : ∀ k φ, Φ k = some φ → ∀ v w w', φ v w → Below w.heap.size w w' → φ v w'
  un : ∀ i j φ ψ, Φ i = some φ → Φ j = some ψ → i < j → L.free i = true ∨ (i ∈ L.c ∧ j ∈ L.c)

theorem anyC_of_seqK (F : RForm ops) (O : PlanOkK ops L Φ) (H : ∀ vals, ∃ cs, SeqCK P ops L Φ w0 Q a0 vals cs) :
    ∀ (fuel : Nat) (un : List Nat) (listed : Array Bool) (a : Act) (w : World) (vals cs : Nat → Value), un.length = fuel → un.Nodup → listed.size = ops.size →
      (∀ j, j < ops.size → (listed.getD j false = false ↔ j ∈ un)) → (∀ j k, listed.getD j false = true → depB ops j k = true → listed.getD k false = true) →
      w0 w → SeqCK P ops L Φ w0 Q a0 vals cs → (∀ j φ, listed.getD j false = true → wtd ops a0 cs j = true → Φ j = some φ → (∀ k, L.killOf j = some k → listed.getD k false = false) → φ (cs j) w) → (∀ j, listed.getD j false = true → ∃ w, w0 w ∧ hypCK ops L Φ a0 cs j w) → actL ops a0 listed cs a →
      wpAny P .any ops Q fuel listed a w := by
  have final : ∀ (listed : Array Bool) (a : Act) (w : World) (vals cs : Nat → Value), (∀ j, j < ops.size → listed.getD j false = true) →
      w0 w → SeqCK P ops L Φ w0 Q a0 vals cs → (∀ j φ, listed.getD j false = true → wtd ops a0 cs j = true → Φ j = some φ → (∀ k, L.killOf j = some k → listed.getD k false = false) → φ (cs j) w) → actL ops a0 listed cs a → Q .normal a w := by
    intro listed a w vals cs hall hw S hφ hA
    have : a = actTo ops a0 cs ops.size := by
      obtain ⟨t, d⟩ := a
      have h1 : t = (actTo ops a0 cs ops.size).tmps := by
        apply Array.ext_getElem?
        intro s
        by_cases hx : ∃ j, dstOf ops j = some s
        · obtain ⟨j, hj⟩ := hx
          have hjs : j < ops.size := by
            unfold dstOf at hj
            cases ho : ops[j]? with
            | none => rw [ho] at hj; cases hj
            | some o => exact (Array.getElem?_eq_some_iff.1 ho).1
          rw [hA.at_ j s (hall j hjs) hj, actTo_at F cs _ j s hjs hj]
        · rw [hA.old s fun j _ e => hx ⟨j, e⟩, actTo_old cs _ s fun j _ e => hx ⟨j, e⟩]
      have h2 : d = (actTo ops a0 cs ops.size).defers := by rw [actTo_defers]; exact hA.defers
      rw [h1, h2]
    rw [this]
    exact S.done w hw fun j φ hj hwj hf hkl => hφ j φ (hall j hj) hwj hf (fun k hk => by rw [hkl] at hk; cases hk)
  have noReady : ∀ listed : Array Bool, listed.size = ops.size → Region.ready .any ops listed = [] → ∀ j, j < ops.size → listed.getD j false = true := by
    intro listed hsz hr
    have : ∀ n j, j < n → j < ops.size → listed.getD j false = true := by
      intro n
      induction n with
      | zero => intro j hj; omega
      | succ n ih =>
        intro j hj hs
        by_cases hl : listed.getD j false = true
        · exact hl
        · exfalso
          have ho : ops[j]? = some ops[j] := Array.getElem?_eq_getElem hs
          have : j ∈ Region.ready .any ops listed := by
            rw [mem_ready]
            refine ⟨?_, _, ho, fun e he hb => ?_⟩
            · have hl' : listed.getD j false = false := by simpa using hl
              have hjl : j < listed.size := by omega
              simp [hjl] at hl' ⊢
              exact hl'
            · have := F.back j _ ho e he hb
              exact ih e.on (by omega) (by omega)
          rw [hr] at this
          cases this
    exact fun j hj => this (j + 1) j (Nat.lt_succ_self j) hj
  intro fuel
  induction fuel with
  | zero =>
    intro un listed a w vals cs hu hnd hsz hun hcl hw S hφ hK hA
    have hun0 : un = [] := List.eq_nil_of_length_eq_zero hu
    subst hun0
    have hall : ∀ j, j < ops.size → listed.getD j false = true := fun j hj => by
      cases hl : listed.getD j false with
      | true => rfl
      | false => exact absurd ((hun j hj).1 hl) (by simp)
    refine ⟨?_, final listed a w vals cs hall hw S hφ hA⟩
    apply List.eq_nil_iff_forall_not_mem.2
    intro j hj
    rw [mem_ready] at hj
    obtain ⟨h0, o, ho, _⟩ := hj
    have hjs := (Array.getElem?_eq_some_iff.1 ho).1
    have h1 := hall j hjs
    have hjl : j < listed.size := by omega
    simp [hjl] at h0 h1
    rw [h0] at h1
    cases h1
  | succ fuel ih =>
    intro un listed a w vals cs hu hnd hsz hun hcl hw S hφ hK hA
    refine ⟨fun hr => final listed a w vals cs (noReady listed hsz hr) hw S hφ hA, fun i hi => ?_⟩
    rw [mem_ready] at hi
    obtain ⟨h0, o, ho, hdeps⟩ := hi
    have his := (Array.getElem?_eq_some_iff.1 ho).1
    have hil : i < listed.size := by omega
    have hin : listed.getD i false = false := by simp [hil] at h0 ⊢; exact h0
    have hdep : ∀ j, depB ops i j = true → listed.getD j false = true := fun j hj => by
      obtain ⟨o', ho', e, he, hb, hon⟩ := depB_iff.1 hj
      obtain rfl : o = o' := by rw [ho] at ho'; exact Option.some.inj ho'
      rw [← hon]
      exact hdeps e he hb
    have hunb : ∀ j, depB ops j i = true → listed.getD j false = false := fun j hj => by
      cases hl : listed.getD j false with
      | false => rfl
      | true => have := hcl j i hl hj; rw [hin] at this; cases this
    obtain ⟨e1, e2⟩ := execOp_same F ho (look_seq F ho hA hdep hunb)
    have hset : ∀ j, (listed.setIfInBounds i true).getD j false = true ↔ j = i ∨ listed.getD j false = true := fun j => by
      by_cases hj : i = j
      · subst hj; simp [hil]
      · rw [getD_set_ne false hj]; simp [Ne.symm hj]
    have hiu : i ∈ un := (hun i his).1 hin
    have un1 : (un.erase i).length = fuel := by rw [List.length_erase_of_mem hiu, hu]; rfl
    have un2 : (un.erase i).Nodup := hnd.erase i
    have un3 : ∀ j, j < ops.size → ((listed.setIfInBounds i true).getD j false = false ↔ j ∈ un.erase i) := fun j hj => by
      rw [hnd.mem_erase_iff, ← hun j hj]
      by_cases hji : j = i
      · subst hji; simp [hil]
      · rw [getD_set_ne false (Ne.symm hji)]; simp [hji]
    have cl' : ∀ j k, (listed.setIfInBounds i true).getD j false = true → depB ops j k = true → (listed.setIfInBounds i true).getD k false = true := fun j k hj hd => by
      rw [hset] at hj ⊢
      rcases hj with rfl | hj
      · exact .inr (hdep k hd)
      · exact .inr (hcl j k hj hd)
    have next := fun (w' : World) (vals' cs' : Nat → Value) (v : Value) (hw' : w0 w') (S' : SeqCK P ops L Φ w0 Q a0 vals' cs')
        (hφ' : ∀ j φ, (listed.setIfInBounds i true).getD j false = true → wtd ops a0 cs' j = true → Φ j = some φ → (∀ k, L.killOf j = some k → (listed.setIfInBounds i true).getD k false = false) → φ (cs' j) w')
        (hK' : ∀ j, (listed.setIfInBounds i true).getD j false = true → ∃ w, w0 w ∧ hypCK ops L Φ a0 cs' j w) (hA' : actL ops a0 (listed.setIfInBounds i true) cs' (a.put o.dst v)) =>
      ih (un.erase i) (listed.setIfInBounds i true) (a.put o.dst v) w' vals' cs' un1 un2 (by simpa using hsz) un3 cl' hw' S' hφ' hK' hA'
    have hyp : hypCK ops L Φ a0 cs i w := fun k φ hk hwk hf hd => hφ k φ (hdep k (depA_depK hd)) hwk hf fun x hx => by
      unfold depAK at hd
      rw [hx] at hd
      simp only [Bool.and_eq_true, Bool.or_eq_true, beq_iff_eq] at hd
      rcases hd.2 with rfl | hy
      · exact hin
      · exact hunb x hy
    have notl : ∀ k, (listed.setIfInBounds i true).getD k false = false → k ≠ i ∧ listed.getD k false = false := fun k hk => by
      refine ⟨fun e => ?_, ?_⟩
      · rw [(hset k).2 (.inl e)] at hk; cases hk
      · cases hl : listed.getD k false with
        | false => rfl
        | true => rw [(hset k).2 (.inr hl)] at hk; cases hk
    have hKi : ∀ j, (listed.setIfInBounds i true).getD j false = true → ∃ w, w0 w ∧ hypCK ops L Φ a0 cs j w := fun j hj => by
      rcases (hset j).1 hj with rfl | hj
      · exact ⟨w, hw, hyp⟩
      · exact hK j hj
    unfold wpOp
    rw [ho]
    simp only []
    rw [e2, ← wtd_eq ho]
    by_cases hwi : wtd ops a0 cs i = true
    · rw [if_pos hwi]
      left
      unfold Oper.wp
      rw [e1]
      cases hf : Φ i with
      | none =>
        rw [S.pure i o ho hwi hf w hw hyp, Oper.upon_value]
        refine next w vals cs (cs i) hw S (fun j φ hj hwj hfj hkj => ?_) hKi (actL_put F hA i hil hin o ho _ rfl)
        rcases (hset j).1 hj with rfl | hj
        · rw [hf] at hfj; cases hfj
        · exact hφ j φ hj hwj hfj fun k hk => (notl k (hkj k hk)).2
      | some φ =>
        have Y := (S.pred i o φ ho hwi hf).2 w hw hyp
        -- behind the operation: the value v in the world w'
        have after : ∀ (v : Value) (w' : World), φ v w' → w0 w' → (L.free i = true → Below w.heap.size w w') → (L.free i = false → ∀ j ψ, j < i → wtd ops a0 cs j = true → Φ j = some ψ → L.dead i j = false → ψ (cs j) w → ψ (cs j) w') → wpAny P .any ops Q fuel (listed.setIfInBounds i true) (a.put o.dst v) w' := by
          intro v w' hv hb hfree hpr
          have hw' : w0 w' := hb
          obtain ⟨cs', S'⟩ := H (fun j => if j = i then v else vals j)
          have hagree := seqC_agreeK F S S' hcl (fun j hj => by
            have : j ≠ i := by intro e; rw [e, hin] at hj; cases hj
            exact (if_neg this).symm) hK
          have agree : ∀ j, listed.getD j false = true → j < ops.size → cs j = cs' j ∧ wtd ops a0 cs j = wtd ops a0 cs' j := fun j hj hs => hagree (j + 1) j (Nat.lt_succ_self j) hj hs
          have inr : ∀ j, listed.getD j false = true → j < ops.size := fun j hj => by
            rcases Nat.lt_or_ge j ops.size with h | h
            · exact h
            · rw [← hsz] at h; simp [Array.getElem?_eq_none h] at hj
          have hdl : ∀ k, k < i → depB ops i k = true → cs k = cs' k := fun k hk hd => (agree k (hdep k hd) (by omega)).1
          obtain ⟨f1, f2⟩ := execOp_same F ho (look_two (a0 := a0) F ho hdl)
          have hwt : wtd ops a0 cs i = wtd ops a0 cs' i := by rw [wtd_eq ho, wtd_eq ho, f2]
          have hci : cs' i = v := by
            rw [(S'.pred i o φ ho (hwt ▸ hwi) hf).1]
            exact if_pos rfl
          have hyp2 : ∀ j, (listed.setIfInBounds i true).getD j false = true → ∀ u, hypCK ops L Φ a0 cs j u → hypCK ops L Φ a0 cs' j u := fun j hj u hu k χ hk hwk hfk hd => by
            have hlk : listed.getD k false = true := by
              rcases (hset j).1 hj with rfl | hj
              · exact hdep k (depA_depK hd)
              · exact hcl j k hj (depA_depK hd)
            obtain ⟨g1, g2⟩ := agree k hlk (inr k hlk)
            rw [← g1]
            exact hu k χ hk (by rw [g2]; exact hwk) hfk hd
          have hA2 : actL ops a0 listed cs' a := ⟨hA.defers, hA.size, fun j d hj hd => by rw [← (agree j hj (inr j hj)).1]; exact hA.at_ j d hj hd, hA.old⟩
          refine next w' _ cs' v hw' S' (fun j ψ hj hwj hfj hkj => ?_) (fun j hj => by obtain ⟨u, h1, h2⟩ := hKi j hj; exact ⟨u, h1, hyp2 j hj u h2⟩) (actL_put F hA2 i hil hin o ho v hci)
          rcases (hset j).1 hj with rfl | hj
          · rw [hf] at hfj
            obtain rfl := Option.some.inj hfj
            rw [hci]
            exact hv
          · obtain ⟨g1, g2⟩ := agree j hj (inr j hj)
            rw [← g1]
            rw [← g2] at hwj
            have hold := hφ j ψ hj hwj hfj fun k hk => (notl k (hkj k hk)).2
            by_cases hfr : L.free i = true
            · exact O.st j ψ hfj _ w w' hold (hfree hfr)
            · have hfr : L.free i = false := by simpa using hfr
              have hji : j < i := by
                rcases Nat.lt_trichotomy j i with h | h | h
                · exact h
                · rw [h, hin] at hj; cases hj
                · rcases O.un i j φ ψ hf hfj h with h1 | ⟨h1, h2⟩
                  · rw [hfr] at h1; cases h1
                  · have := chain_closedK hcl L.c O.ch i j h1 h2 h hj
                    rw [hin] at this; cases this
              refine hpr hfr j ψ hji hwj hfj ?_ hold
              unfold PlanK.dead
              cases hk : L.killOf j with
              | none => rfl
              | some k =>
                obtain ⟨n1, n2⟩ := notl k (hkj k hk)
                simp only [Bool.or_eq_false_iff, beq_eq_false_iff_ne, ne_eq, Bool.and_eq_false_iff, decide_eq_false_iff_not]
                refine ⟨n1, ?_⟩
                by_cases hki : k < i
                · by_cases hkc : L.c.contains k = true
                  · by_cases hic : L.c.contains i = true
                    · have := chain_beforeK hcl hdep L.c O.ch k (List.contains_iff_mem.1 hic) (List.contains_iff_mem.1 hkc) hki
                      rw [n2] at this; cases this
                    · exact .inr (by simpa using hic)
                  · exact .inl (.inr (by simpa using hkc))
                · exact .inl (.inl hki)
        generalize (execOp (actTo ops a0 cs i).eval o).run P w = r at Y
        cases r with
        | halt x w' => exact Y.elim
        | ok nx w' =>
          cases nx with
          | value v => rw [Oper.upon_value]; exact after v w' Y.1 Y.2.1 Y.2.2.1 Y.2.2.2
          | enter f args =>
            rw [Oper.upon_enter]
            refine Calls.mono Y fun e w'' he => ?_
            obtain ⟨v, rfl, h1, h2, h3, h4⟩ := he
            exact after v w'' h1 h2 h3 h4
          | _ => exact Y.elim
    · rw [if_neg hwi]
      have hwi : wtd ops a0 cs i = false := by simpa using hwi
      refine next w vals cs undef hw S (fun j φ hj hwj hfj hkj => ?_) hKi (actL_put F hA i hil hin o ho _ (S.skip i o ho hwi))
      rcases (hset j).1 hj with rfl | hj
      · rw [hwi] at hwj; cases hwj
      · exact hφ j φ hj hwj hfj fun k hk => (notl k (hkj k hk)).2

/-- What is to be checked of a plan, by counting. -/
def planBK (ops : Array Oper) (L : PlanK) (calls : List Nat) : Bool :=
  chainBK ops L.c && (calls.all fun i => calls.all fun j => !decide (i < j) || L.free i || (L.c.contains i && L.c.contains j))
theorem PlanOkK.of (calls : List Nat) (h : planBK ops L calls = true) (hc : ∀ k φ, Φ k = some φ → k ∈ calls) (st : ∀ k φ, Φ k = some φ → ∀ v w w', φ v w → Below w.heap.size w w' → φ v w') : PlanOkK ops L Φ := by
  unfold planBK at h
  rw [Bool.and_eq_true] at h
  obtain ⟨h1, h2⟩ := h
  refine ⟨h1, st, fun i j φ ψ hi hj hij => ?_⟩
  have := List.all_eq_true.1 (List.all_eq_true.1 h2 i (hc i φ hi)) j (hc j ψ hj)
  simp only [decide_eq_true hij, Bool.not_true, Bool.false_or, Bool.or_eq_true, Bool.and_eq_true, List.contains_iff_mem] at this
  exact this

/-- THE LAW. -/
theorem wp_region_ck {id : Nat} {l : List Oper} {w : World} (n : Nat) (hm : P.follows .mixedOrders = true) (hok' : tailOk l n = true) (I : World → Prop) (hI : I { w with drawn := w.drawn + 1 }) (Φ : Nat → Option (Value → World → Prop))
    (L : PlanK) (O : PlanOkK (l.take n).toArray L Φ) (h : ∀ vals, wpSCK (l.take n).toArray L Φ I (tailQ P l.toArray Q (l.drop n)) vals P (l.take n) 0 a0 []) : (Code.region id l.toArray true).wp P Q a0 w := by
  have hok2 := hok'
  unfold tailOk at hok2
  simp only [Bool.and_eq_true, decide_eq_true_eq] at hok2
  obtain ⟨⟨⟨⟨⟨hok, hn⟩, _⟩, _⟩, _⟩, _⟩ := hok2
  have F := rform_of_ok hok
  have hsz : (l.take n).toArray.size = n := by simp; omega
  have H : ∀ vals, ∃ cs, SeqCK P (l.take n).toArray L Φ I (tailQ P l.toArray Q (l.drop n)) a0 vals cs := fun vals => seqC_allK (by simpa using h vals)
  obtain ⟨cs, S⟩ := H (fun _ => undef)
  refine wp_region_any hm ?_
  have hrep : ∀ j, (Array.replicate n false).getD j false = false := fun j => by
    simp only [Array.getD_eq_getD_getElem?, Array.getElem?_replicate]
    split <;> rfl
  have hA : wpAny P .any (l.take n).toArray (tailQ P l.toArray Q (l.drop n)) (l.take n).toArray.size (Array.replicate n false) a0 { w with drawn := w.drawn + 1 } := by
    refine anyC_of_seqK F O H (l.take n).toArray.size (List.range (l.take n).toArray.size) _ a0 _ _ cs (by simp) List.nodup_range (by simp; omega) (fun j hj => ?_) (fun j k hj => ?_) hI S (fun j φ hj => ?_) (fun j hj => ?_) ⟨rfl, rfl, fun j d hj => ?_, fun s _ => rfl⟩
    · rw [hrep j]; simpa using hj
    · rw [hrep j] at hj; cases hj
    · rw [hrep j] at hj; cases hj
    · rw [hrep j] at hj; cases hj
    · rw [hrep j] at hj; cases hj
  rw [hsz] at hA
  have := any_tail hok' n (Array.replicate n false) a0 _ (by simp) (fun j oj _ _ hl => by rw [hrep j] at hl; cases hl) (by simp) hA
  have e1 : n + (l.length - n) = l.toArray.size := by simp; omega
  have e2 : Array.replicate n false ++ Array.replicate (l.length - n) false = Array.replicate l.toArray.size false := by
    apply Array.ext'
    simp
    omega
  rw [e1, e2] at this
  exact this
end

section
variable {P : Program} {ops : Array Oper} {L : PlanK} {Φ : Nat → Option (Value → World → Prop)} {w0 : World → Prop} {Q : Exit → Act → World → Prop} {vals : Nat → Value} {o : Oper} {rest : List Oper} {k : Nat} {a : Act} {H : List (Nat × (Value → World → Prop))}

/-- An operation that answers the same in every world. -/
theorem sc_pureK (hf : Φ k = none)
    (h : ∀ K : Act → Prop, (∀ a', wpSCK ops L Φ w0 Q vals P rest (k + 1) a' H → K a') →
      if Region.wanted o (yielded ops a.tmps) then ∃ v, (∀ w, okUpon w v ((execOp a.eval o).run P w)) ∧ K (a.put o.dst v) else K (a.put o.dst undef)) : wpSCK ops L Φ w0 Q vals P (o :: rest) k a H := by
  have h := h _ (fun _ h => h)
  simp only [wpSCK]
  by_cases hw : Region.wanted o (yielded ops a.tmps) = true
  · rw [if_pos hw] at h ⊢
    rw [hf]
    obtain ⟨v, h1, h2⟩ := h
    exact ⟨v, fun w _ _ => okUpon_eq (h1 w), h2⟩
  · rw [if_neg hw] at h ⊢
    exact h

/-- An operation whose value is told, and shown in the world it meets. -/
theorem sc_atK (v : Value) (hf : Φ k = none) (hw : Region.wanted o (yielded ops a.tmps) = true)
    (h1 : ∀ w, w0 w → (∀ p ∈ H, depAK ops L k p.1 = true → p.2 (vals p.1) w) → okUpon w v ((execOp a.eval o).run P w))
    (h : ∀ K : Act → Prop, (∀ a', wpSCK ops L Φ w0 Q vals P rest (k + 1) a' H → K a') → K (a.put o.dst v)) : wpSCK ops L Φ w0 Q vals P (o :: rest) k a H := by
  have h := h _ (fun _ h => h)
  simp only [wpSCK]
  rw [if_pos hw, hf]
  exact ⟨v, fun w hb hH => okUpon_eq (h1 w hb hH), h⟩

/-- A call, or what makes memory, and turns nothing that was there. -/
theorem sc_callK (hI : ∀ w w', w0 w → Below w.heap.size w w' → w0 w') (φ : Value → World → Prop) (hf : Φ k = some φ) (hw : Region.wanted o (yielded ops a.tmps) = true) (hfr : L.free k = true)
    (h1 : ∀ w, w0 w → (∀ p ∈ H, depAK ops L k p.1 = true → p.2 (vals p.1) w) → yieldsUpon P w (fun v w' => φ v w' ∧ Below w.heap.size w w') ((execOp a.eval o).run P w))
    (h : ∀ K : Act → Prop, (∀ a', wpSCK ops L Φ w0 Q vals P rest (k + 1) a' ((k, φ) :: H) → K a') → K (a.put o.dst (vals k))) : wpSCK ops L Φ w0 Q vals P (o :: rest) k a H := by
  have h := h _ (fun _ h => h)
  simp only [wpSCK]
  rw [if_pos hw, hf]
  exact ⟨fun w hb hH => yieldsUpon.monoK (fun v w' hy => ⟨hy.1, hI _ _ hb hy.2, fun _ => hy.2, fun h => by rw [hfr] at h; cases h⟩) (h1 w hb hH), h⟩

/-- A call that may turn what calls before it made. -/
theorem sc_growK (φ : Value → World → Prop) (hf : Φ k = some φ) (hw : Region.wanted o (yielded ops a.tmps) = true) (hfr : L.free k = false)
    (h1 : ∀ w, w0 w → (∀ p ∈ H, depAK ops L k p.1 = true → p.2 (vals p.1) w) → yieldsUpon P w (fun v w' => φ v w' ∧ w0 w' ∧ ∀ p ∈ H, L.dead k p.1 = false → p.2 (vals p.1) w → p.2 (vals p.1) w') ((execOp a.eval o).run P w))
    (h : ∀ K : Act → Prop, (∀ a', wpSCK ops L Φ w0 Q vals P rest (k + 1) a' ((k, φ) :: H) → K a') → K (a.put o.dst (vals k))) : wpSCK ops L Φ w0 Q vals P (o :: rest) k a H := by
  have h := h _ (fun _ h => h)
  simp only [wpSCK]
  rw [if_pos hw, hf]
  refine ⟨fun w hb hH => yieldsUpon.monoK (fun v w' hy => ⟨hy.1, hy.2.1, fun (h : L.free k = true) => ?_, fun _ => hy.2.2⟩) (h1 w hb hH), h⟩
  rw [hfr] at h; cases h

theorem sc_doneK (h : ∀ w, w0 w → (∀ p ∈ H, L.killOf p.1 = none → p.2 (vals p.1) w) → Q .normal a w) : wpSCK ops L Φ w0 Q vals P [] k a H := h
end
end Go.Proofs.YtmddhlfjilkdfaaGreatDoor
namespace Go.Proofs.YtmddhlfjilkdfaaGreatDoor
set_option linter.unusedVariables false
set_option linter.unusedSimpArgs false
open Go.ChangeShapes Go.WideShapes Go.ChangeAt Go.RowKit

theorem putN1 : putN 1 = [2] := by decide
set_option maxRecDepth 100000 in
set_option maxHeartbeats 2000000 in
theorem op_text (X o cap : Nat) (k s : ByteArray) (w : World) (hk : k.size ≤ 1000) (hs : s.size ≤ 1000) (hX : X < w.heap.size) (hc : ∀ j (h : j < (opV k s).length), w.cell? ⟨X, o + j, none⟩ = some (opV k s)[j]) :
    Calls Tryz.prog 100 #[.agg #[.int .i64 1, .int .i64 1, .slice (some ⟨X, o, none⟩) 1 cap]] w fun e w' => RetNew w (encD k.data.toList s.data.toList) e w' := by
  have hb1 := (Below.refl w.heap.size w).alloc (Nat.le_refl _) (.cells #[.int .i64 1, .int .i64 1, .slice (some ⟨X, o, none⟩) 1 cap] 51)
  have hC := CL.new w [.int .i64 1, .int .i64 1, .slice (some ⟨X, o, none⟩) 1 cap] 51 _ rfl
  have hb2 := hb1.alloc hb1.size (.cells #[.int .i64 1, .int .i64 1, .int .i64 1] 2)
  have hD := CL.new (w.alloc (.cells #[.int .i64 1, .int .i64 1, .slice (some ⟨X, o, none⟩) 1 cap] 51)) [.int .i64 1, .int .i64 1, .int .i64 1] 2 _ rfl
  have hC2 := hC.keeps (Keeps.of_below (F := []) ((Below.refl _ _).alloc (Nat.le_refl (w.alloc (.cells #[.int .i64 1, .int .i64 1, .slice (some ⟨X, o, none⟩) 1 cap] 51)).heap.size) (.cells #[.int .i64 1, .int .i64 1, .int .i64 1] 2))) (by simp)
  have lA : (w.alloc (.cells #[.int .i64 1, .int .i64 1, .slice (some ⟨X, o, none⟩) 1 cap] 51)).heap.size = w.heap.size + 1 := Array.size_push ..
  rw [lA] at hD
  clear hC hb1
  go_enter Tryz.func100, Tryz.ntmps100
  go_wp2_with fail
  generalize ((w.alloc _).alloc _) = w1 at *
  go_loopw [3, 5, 17] (fun x _ i wr => ∃ n : Nat, n ≤ 3 ∧ i = .int .i64 n ∧ OwnB wr w1.heap.size 5 x (List.replicate n 2) ∧ Below w1.heap.size w1 wr) (fun _ _ i _ => 3 - (intOf i).toNat)
  case atStart => exact ⟨0, by omega, rfl, OwnB.nil _ _ _, Below.refl _ _⟩
  case round =>
    obtain ⟨n, hn, rfl, ho, hbel⟩ := hrel
    by_cases hlt : n < 3
    · have d0 := (hD.keeps (Keeps.of_below (F := []) hbel) (by simp)).c n (by simpa using hlt)
      have d1 : wr.cell? ⟨w.heap.size + 1, n, none⟩ = some (.int .i64 1) := by
        rw [d0]
        match n, hlt with
        | 0, _ => rfl
        | 1, _ => rfl
        | 2, _ => rfl
      clear d0
      go_wp2_with fail
      refine (num_put _ _ 1 w1.heap.size _ (by omega) (by omega) (by simp; omega) hbel.size ho).mono ?_
      rintro e w2 ⟨v2, rfl, ho2, hg2, hk2⟩
      have hb3 : Below w1.heap.size w1 w2 := hbel.grown hg2 hbel.size (fun k hk => (ho.lt k hk).1)
      rw [putN1] at ho2
      clear hg2 hk2 ho hbel
      go_wp2_with fail
      go_roundw
      case rel => exact ⟨n + 1, by omega, by go_num, by rw [List.replicate_succ']; exact ho2, hb3⟩
      case measure => simp [intOf]; omega
    · obtain rfl : n = 3 := by omega
      have hCr := hC2.keeps (Keeps.of_below (F := []) hbel) (by simp)
      have q2 := hCr.c 2 (by simp)
      have hbz := hb2.trans (hbel.mono hb2.size)
      have hcr : ∀ j (h : j < (opV k s).length), wr.cell? ⟨X, o + j, none⟩ = some (opV k s)[j] := fun j h => (hbz.cell (p := ⟨X, o + j, none⟩) hX).trans (hc j h)
      have e0 := hcr 0 (by simp [opV])
      have e1 := hcr 1 (by simp [opV])
      have e2 := hcr 2 (by simp [opV])
      have e3 := hcr 3 (by simp [opV])
      have e4 := hcr 4 (by simp [opV])
      have e5 := hcr 5 (by simp [opV])
      have e6 := hcr 6 (by simp [opV])
      have e7 := hcr 7 (by simp [opV])
      have e8 := hcr 8 (by simp [opV])
      simp only [opV, List.getElem_cons_zero, List.getElem_cons_succ, Nat.add_zero] at e0 e1 e2 e3 e4 e5 e6 e7 e8 q2
      have hN := hbel.size
      have hN0 := hb2.size
      have HB2 := Lib.hid hb2
      clear hCr hC2 hD hc hcr hb2 hlt hn lA
      go_wp2_with fail
      refine wp_loop_rounds 2 ?_
      rw [rounds_succ]
      go_upto_region 10 with fail
      have hlt3 := fun g h => (ho.lt g h).2
      have hbW : Below w1.heap.size w1 (wr.alloc (.cells (opV k s).toArray 31)) := hbel.alloc hN _
      have hCL := CL.new wr (opV k s) 31 _ rfl
      have hoW := OwnB.alloc ho (.cells (opV k s).toArray 31)
      have hbZ := hbz.alloc (Nat.le_trans hN0 hN) (.cells (opV k s).toArray 31)
      unfold opV at hbW hCL hoW hbZ
      go_cut [3] (fun x wx => OwnB wx w1.heap.size 5 x (List.replicate 3 2 ++ putN 1 ++ putT k.data.toList) ∧ CL wx wr.heap.size (opV k s) ∧ Below w1.heap.size w1 wx)
      case first =>
        refine wp_region_ck 7 (by rfl) (by kernel_rfl) (fun u => OwnB u w1.heap.size 5 u3 (List.replicate 3 2) ∧ CL u wr.heap.size (opV k s) ∧ Below w1.heap.size w1 u) ⟨hoW, hCL.keeps (F := []) ⟨rfl, rfl, rfl, Nat.le_refl _, fun _ _ _ => rfl⟩ (by simp), ⟨hbW.os, hbW.tape, hbW.output, hbW.size, hbW.block⟩⟩
          (fun j => match j with | 3 => some (fun v u => OwnB u w1.heap.size 5 v (List.replicate 3 2 ++ putN 1) ∧ ∀ g, v.ownBlock = some g → g ≠ wr.heap.size) | 6 => some (fun v u => OwnB u w1.heap.size 5 v (List.replicate 3 2 ++ putN 1 ++ putT k.data.toList)) | _ => none) ⟨[3, 6], [3, 6], [(3, 6)]⟩ (PlanOkK.of [3, 6] (by kernel_rfl) (fun j φ hj => ?_) (fun j φ hj v u u' h1 h2 => ?_)) (fun vals => ?_)
        · split at hj
          all_goals first | (cases hj; done) | simp
        · split at hj
          · cases hj
            exact ⟨h1.1.below h2, h1.2⟩
          · cases hj
            exact OwnB.below h1 h2
          · cases hj
        dsimp only [List.take, List.drop]
        iterate 2 ((with_reducible refine sc_pureK ?_ (fun K hK => ?_)); (· rfl); go_simp; with_reducible refine hK _ ?_; clear hK K)
        refine sc_atK (.int .i64 1) rfl rfl (fun wz hz' hH => ?_) (fun K hK => ?_)
        · have g0 := hz'.2.1.c 0 (by simp [opV])
          simp only [opV, List.getElem_cons_zero] at g0
          go_simp
        go_simp; refine hK _ ?_; clear hK K
        refine sc_growK _ rfl rfl rfl (fun wz hz' hH => ?_) (fun K hK => ?_)
        · go_simp
          go_at_call 81
          refine (num_put2 _ (List.replicate 3 2) 1 w1.heap.size _ (by omega) (by omega) (by simp) hz'.2.2.size hz'.1).mono ?_
          rintro e w2 ⟨⟨v2, rfl, ho2, hg2, hk2⟩, hold⟩
          have hne : wr.heap.size ∉ u3.ownBlock.toList := fun hx => by have := hlt3 wr.heap.size (by simpa using hx); omega
          have kc := hz'.2.1.keeps (Keeps.of_grown hg2) hne
          have kb := hz'.2.2.grown hg2 hz'.2.2.size (fun g hg => (hz'.1.lt g hg).1)
          refine ⟨v2, rfl, ⟨ho2, fun g hg e => ?_⟩, hold, kc, kb⟩
          subst e
          have hl := hz'.2.1.lt
          rcases hk2 _ hg with h | h
          · have := hlt3 _ h; omega
          · omega
        go_simp; refine hK _ ?_; clear hK K
        iterate 1 ((with_reducible refine sc_pureK ?_ (fun K hK => ?_)); (· rfl); go_simp; with_reducible refine hK _ ?_; clear hK K)
        refine sc_atK (.string k) rfl rfl (fun wz hz' hH => ?_) (fun K hK => ?_)
        · have g1 := hz'.2.1.c 1 (by simp [opV])
          simp only [opV, List.getElem_cons_zero, List.getElem_cons_succ] at g1
          go_simp
        go_simp; refine hK _ ?_; clear hK K
        refine sc_growK _ rfl rfl rfl (fun wz hz' hH => ?_) (fun K hK => ?_)
        · obtain ⟨e3, n3⟩ := hH _ (List.Mem.head _) rfl
          go_simp
          go_at_call 82
          refine (num_putText2 _ (List.replicate 3 2 ++ putN 1) k w1.heap.size _ (by rw [putN1]; simp; omega) hz'.2.2.size e3).mono ?_
          rintro e w2 ⟨⟨v2, rfl, ho2, hg2, hk2⟩, hold⟩
          have ku := OwnB.keep2 hz'.1 e3 hold hg2
          have kc := hz'.2.1.keeps (Keeps.of_grown hg2) (fun hx => n3 _ (by simpa using hx) rfl)
          have kb := hz'.2.2.grown hg2 hz'.2.2.size (fun g hg => (e3.lt g hg).1)
          exact ⟨v2, rfl, ho2, ⟨ku, kc, kb⟩, fun hd => by cases hd⟩
        go_simp; refine hK _ ?_; clear hK K
        refine sc_doneK (fun wz hz hH => ?_)
        have e6 := hH _ (List.Mem.head _) rfl
        unfold tailQ
        go_wp2_with fail
        go_meet
        exact ⟨e6, hz.2.1, hz.2.2⟩
      case rest =>
        obtain ⟨hox, hcx, hbx⟩ := hcut
        have z0 := hcx.c 0 (by simp [opV])
        have z2 := hcx.c 2 (by simp [opV])
        have z3 := hcx.c 3 (by simp [opV])
        have z4 := hcx.c 4 (by simp [opV])
        simp only [opV, List.getElem_cons_zero, List.getElem_cons_succ] at z0 z2 z3 z4
        have hszx := hbx.size
        have hlk : (putT k.data.toList).length ≤ 2000 := by unfold putT; have := (putN_len (k.data.toList.length : Int)).2; rw [List.length_append]; simp at *; omega
        have hl1 : (putN 1).length = 1 := rfl
        clear hbW hCL hoW hbZ hlt3 hbel ho q2 hbz e0 e1 e2 e3 e4 e5 e6 e7 e8 hcx
        go_wp2_with fail
        refine (value_put u3 _ s w1.heap.size wc (by simp only [List.length_append, List.length_replicate]; omega) hszx hox).mono ?_
        rintro e w3 ⟨v3, rfl, ho3, hg3, hk3⟩
        have hb4 : Below w1.heap.size w1 w3 := hbx.grown hg3 hszx (fun g hg => (hox.lt g hg).1)
        clear hg3 hk3 hox hbx z0 z2 z3 z4
        go_wp2_with fail
        rw [rounds_succ]
        go_wp2_with fail
        go_ret
        refine ⟨v3, rfl, ?_, HB2.out.trans (hb4.mono HB2.out.size)⟩
        rw [encD_parts (by simp; omega) (by simp; omega)]
        have h3 : List.replicate 3 2 = putN 1 ++ (putN 1 ++ putN 1) := by rw [putN1]; rfl
        rw [h3] at ho3
        have hz := OwnB.rebase ho3 HB2.out.size
        simp only [List.append_assoc] at hz ⊢
        exact hz
end Go.Proofs.YtmddhlfjilkdfaaGreatDoor
