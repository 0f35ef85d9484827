/-
  No claim by itself: 'append(b, make([]byte, n)...)': b the call's own: n noughts more. No condition.
-/
import Derived.Test.YtankebgpkhcgnaaCrc
import Derived.Lib.AppendZerosOnto
namespace Go.Proofs.Ytankebgpkhcgnaa
open Go.RowKit

theorem zeroCells_u8 (n : Nat) : (Builtin.zeroCells (Value.int .u8 0).cells n).toList = (List.replicate n (0 : UInt8)).map byteV := by
  rw [map_replicate0]
  apply List.ext_getElem
  · simp [size_zeroCells, Builtin.zeroCells, Value.cells]
  · intro i h1 h2
    simp [Builtin.zeroCells, Value.cells, Nat.mod_one]

section
variable {P : Program}
theorem run_append_room_zeros {w : World} (t tn ty e : TypeId) (i : TypeInfo) (kq kn : IntKind) (ht : P.underlying t = some (.slice e)) (htn : P.underlying tn = some (.int kn)) (hi : P.info? e = some i) (hz : i.zero = some (.int .u8 0)) (hs1 : i.size = 1) (hb1 : i.bytes = 1)
    (g sLen sCap : Nat) (cur : Array Value) (hg : w.heap[g]? = some (.cells cur e (0, 0))) (k : Nat) (h0 : 0 < k) (hk : k ≤ 140737488355328)
    (hroom : sLen + k ≤ sCap) (hfit : sLen + k ≤ cur.size) :
    (Builtin.append_ #[t, tn] ty #[.slice (some ⟨g, 0, none⟩) sLen sCap, .int kq k]).run P w =
      .ok (.slice (some ⟨g, 0, none⟩) (sLen + k) sCap) (w.setRow g (cur.toList.take sLen ++ (List.replicate k (0 : UInt8)).map byteV ++ cur.toList.drop (sLen + k)).toArray) := by
  have hst := run_storeCells_at P g sLen e ((List.replicate k (0 : UInt8)).map byteV) 0 cur w hg (by simpa using hfit) (byteV_oneCell _)
  simp only [Nat.add_zero, List.length_map, List.length_replicate] at hst
  rw [← zeroCells_u8] at hst
  have hk' : k ≠ 0 := by omega
  have hw : IntKind.i64.wrap (k : Int) = k := by rw [IntKind.wrap_i64]; omega
  have h48i : ¬ (281474976710656 < (k : Int)) := by omega
  have hneg : ¬ ((k : Int) < 0) := by omega
  rw [← zeroCells_u8]
  simp [Builtin.append_, run_underlying ht, run_underlying htn, sizeOf, typeInfo, zeroValue, hi, hz, hs1, hb1, asInt, asIntOf, hw, hk', hneg, h48i, hroom, Addr.add_lit, hst]

/-- 'append(out, make([]byte, n)...)': out the call's own. -/
theorem wpList_append_zeros {w : World} {ops : Array Oper} {rest : List Oper} {o : Oper} {a : Act} {Q : Exit → Act → World → Prop} (t tn : TypeId) (base : Nat) (e : TypeId) (kn : IntKind)
    (ht : P.underlying t = some (.slice e)) (hu : P.underlying tn = some (.int kn)) (hinfo : (P.info? e).map (fun i => (i.zero, i.size, i.bytes)) = some (some (.int .u8 0), 1, 1))
    (hgd : o.guard = none) (sl x : Operand) (ho : o.op = .call { callee := .builtin .append, args := #[sl, x], argTypes := #[t, tn] })
    {v : Value} {l : List UInt8} (hown : OwnB w base e v l) (k : Nat) (kq : IntKind) (hs : a.eval sl = v) (hx : a.eval x = .int kq k) (h0 : 0 < k)
    (hlen : l.length + k ≤ 140737488355328) (hbase : base ≤ w.heap.size)
    (h : ∀ v' w', OwnB w' base e v' (l ++ List.replicate k 0) → w.grownBy w' v.ownBlock → (∀ k, v'.ownBlock = some k → v.ownBlock = some k ∨ w.heap.size ≤ k) → wpList P ops Q rest (a.put o.dst v') w') : wpList P ops Q (o :: rest) a w := by
  obtain ⟨i, hi, hz, hsize, hby⟩ := info_parts hinfo
  have key : ∃ v' w', (Builtin.append_ #[t, tn] o.type #[v, .int kq k]).run P w = .ok v' w' ∧ OwnB w' base e v' (l ++ List.replicate k 0) ∧ w.grownBy w' v.ownBlock ∧ (∀ k, v'.ownBlock = some k → v.ownBlock = some k ∨ w.heap.size ≤ k) := by
    have hll : (l ++ List.replicate k (0 : UInt8)).length = l.length + k := by simp
    have hml : ((l ++ List.replicate k (0 : UInt8)).map byteV).length = l.length + k := by simp
    have grown : ∀ (old : Nat), old < l.length + k → ∀ (row : Option Nat),
        OwnB (w.drew.alloc (.cells ((l.map byteV).toArray ++ Builtin.zeroCells (Value.int .u8 0).cells k ++ Builtin.zeroCells (Value.int .u8 0).cells (grownCap w (l.length + k) old e - (l.length + k))) e)) base e
          (.slice (some ⟨w.heap.size, 0, none⟩) (l.length + k) (grownCap w (l.length + k) old e)) (l ++ List.replicate k 0) ∧
        w.grownBy (w.drew.alloc (.cells ((l.map byteV).toArray ++ Builtin.zeroCells (Value.int .u8 0).cells k ++ Builtin.zeroCells (Value.int .u8 0).cells (grownCap w (l.length + k) old e - (l.length + k))) e)) row := by
      intro old ho row
      have hge := grownCap_ge w (l.length + k) old e
      have hcm : grownCap w (l.length + k) old e ≤ maxLen := grownCap_le_maxLen w (l.length + k) old e (by unfold maxLen; omega)
      refine ⟨⟨by rw [hml, hll, Nat.mul_one], .inr ⟨w.heap.size, _, _, by rw [hll], hbase, _root_.Go.heap_alloc_new w.drew _, by rw [hll]; exact hge, hcm, ?_, ?_⟩⟩, ⟨rfl, rfl, rfl, by simp, fun k hk _ => Below.heap_alloc w.drew _ k hk⟩⟩
      · have hz1 : (Value.int IntKind.u8 0).cells.size = 1 := rfl
        simp only [Array.size_append, List.size_toArray, size_zeroCells, hz1, List.length_map]
        omega
      · rw [Array.toList_append, Array.toList_append, zeroCells_u8, hll, Nat.mul_one, List.map_append, List.take_append_of_le_length (by simp)]
        exact List.take_of_length_le (by simp)
    have hw0 := hown
    unfold OwnB at hown
    rcases hown.2 with ⟨rfl, hn0⟩ | ⟨g, cap, cur, rfl, hbg, hg, hnc, hcm, hcs, htake⟩
    · have hl0 : l = [] := List.eq_nil_of_length_eq_zero hn0
      subst hl0
      have hr := Lib.run_append_nil_zeros (P := P) w t tn o.type e i (.int .u8 0) kq kn ht hu hi hz k h0 (by omega) (by omega) (by rw [hby]; omega)
      have hgr := grown 0 (by simp; omega) (Value.ownBlock (.slice none 0 0))
      simp only [List.length_nil, Nat.zero_add, List.map_nil, Array.empty_append] at hgr
      exact ⟨_, _, hr, hgr.1, hgr.2, fun k hk => .inr (by simp [Value.ownBlock] at hk; omega)⟩
    · by_cases hroom : l.length + k ≤ cap
      · have hcs' : cur.size = cap := by simpa using hcs
        have hr := run_append_room_zeros (P := P) t tn o.type e i kq kn ht hu hi hz hsize hby g l.length cap cur hg k h0 (by omega) hroom (by omega)
        have ht' : cur.toList.take l.length = l.map byteV := by simpa using htake
        refine ⟨_, _, hr, ⟨by rw [hml, hll, Nat.mul_one], .inr ⟨g, cap, _, by rw [hll], hbg, setRow_heap w g cur _ e _ hg, by rw [hll]; exact hroom, hcm, ?_, ?_⟩⟩, ⟨rfl, rfl, rfl, by simp, fun k _ hk => setRow_other w g k _ (fun e => hk (by simp [Value.ownBlock, e]))⟩, fun k hk => .inl hk⟩
        · simp only [List.size_toArray, List.length_append, List.length_take, List.length_drop, Array.length_toList, List.length_map, List.length_replicate]
          omega
        · simp only [ht', hll, Nat.mul_one, List.map_append]
          exact List.take_left' (by simp)
      · have holds : ∀ j u, (l.map byteV)[j]? = some u → w.cell? ((⟨g, 0, none⟩ : Addr).add j) = some u := hown.cells (g := g) rfl
        have hfo := run_firstCells_some (P := P) w.drew i.size l.length ⟨g, 0, none⟩ l.length cap (l.map byteV) (by rw [hsize]; simp) (by simpa using holds)
        have hr := Lib.run_append_grow_zeros (P := P) w t tn o.type e i (.int .u8 0) kq kn ht hu hi hz (some ⟨g, 0, none⟩) l.length cap (l.map byteV) hfo k h0 (by omega) (by omega) (by omega) (by rw [hby]; omega) (by rw [hby]; exact growslice_fits (by omega) (by omega))
        have hgr := grown cap (by omega) (Value.ownBlock (.slice (some ⟨g, 0, none⟩) l.length cap))
        exact ⟨_, _, hr, hgr.1, hgr.2, fun k hk => .inr (by simp [Value.ownBlock] at hk; omega)⟩
  obtain ⟨v', w', hr, h2, h3, h4⟩ := key
  exact Lib.wpList_append_run w hgd sl x t tn ho v (.int kq k) hs hx v' w' hr (h v' w' h2 h3 h4)
end

/-- 'Short', of any world in which the bytes read so. -/
theorem short_fun (v : Value) (l : List UInt8) (n : Nat) (w : World) (hn : n ≤ 9223372036854775807) (hb : Bytes w v l) :
    Calls Try.prog 23 #[v, .int .i64 n] w fun e w' => ∃ v', e = .returned v' ∧ (∀ W, Bytes W v l → Bytes W v' (l.take n)) ∧ w' = w := by
  have hb0 := hb
  obtain ⟨a, cap, rfl, hcap, hcm, hc⟩ := hb
  clear hc
  by_cases h : n < l.length
  · go_enter Try.func23, Try.ntmps23
    go_wp2
    go_ret
    exact ⟨_, rfl, fun W hW => hW.take n (by omega), rfl⟩
  · go_enter Try.func23, Try.ntmps23
    go_wp2
    go_ret
    exact ⟨_, rfl, fun W hW => by rw [List.take_of_length_le (by omega)]; exact hW, rfl⟩
end Go.Proofs.Ytankebgpkhcgnaa
