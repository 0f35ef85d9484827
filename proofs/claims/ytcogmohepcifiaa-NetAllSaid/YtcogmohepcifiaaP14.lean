/-
  No claim by itself: how the program writes a message's text. | the reader of a record's parts: a number, a text, whether all went. No condition.
-/
import Derived.Test.YtcogmohepcifiaaP12
import Derived.Test.YtcogmohepcifiaaP10
import Derived.Test.YtcogmohepcifiaaP2
namespace Go.Proofs.Ytcogmohepcifiaa
open Go.ChangeShapes Go.WideShapes Go.ChangeAt Go.RowKit

theorem flat_snoc {α : Type} (f : α → List UInt8) (l : List α) (k : Nat) (h : k < l.length) : (l.take (k + 1)).flatMap f = (l.take k).flatMap f ++ f l[k] := by
  rw [List.take_succ_eq_append_getElem h, List.flatMap_append]
  simp
theorem RI.fresh9 (w : World) (T : TypeId) (x1 x2 x3 x4 x5 x6 x7 x8 x9 : Int) (b : Nat) (hb : w.heap.size = b) : RI (w.alloc (.cells #[.int .i64 x1, .int .i64 x2, .int .i64 x3, .int .i64 x4, .int .i64 x5, .int .i64 x6, .int .i64 x7, .int .i64 x8, .int .i64 x9] T)) (.slice (some ⟨b, 0, none⟩) 9 9) [x1, x2, x3, x4, x5, x6, x7, x8, x9] := by
  subst hb
  exact Reads.fresh w _ T (0, 0) _ _ rfl rfl (by simp)
theorem numsM_bd {m : Msg} (h : mayM m = true) : ∀ k (hk : k < (numsM m).length), -9223372036854775808 ≤ (numsM m)[k] ∧ (numsM m)[k] ≤ 9223372036854775807 := by
  obtain ⟨h1, h2, h3, h4⟩ := mayM_parts h
  obtain ⟨a1, a2, a3, a4, a5, a6, a7, a8, a9, a10, a11, a12, a13, a14⟩ := headM_iff.1 h1
  obtain ⟨⟨b1, -⟩, -⟩ := kindM_iff.1 h3
  have hy : yesN m.y = 0 ∨ yesN m.y = 1 := by unfold yesN; split <;> simp
  have key : ∀ x ∈ numsM m, -9223372036854775808 ≤ x ∧ x ≤ 9223372036854775807 := by
    intro x hx
    simp only [numsM, List.mem_cons, List.not_mem_nil, or_false] at hx
    omega
  exact fun k hk => key _ (List.getElem_mem hk)

set_option maxRecDepth 100000 in
set_option maxHeartbeats 4000000 in
theorem msg_text (v : Value) (m : Msg) (w : World) (h : EntR w v m.es) (hm : mayM m = true) :
    Calls Try.prog 34 #[msgAgg v m] w fun e w' => RetNew w (textM m) e w' := by
  obtain ⟨a, cap, rfl⟩ := h.slice
  have hbd := numsM_bd hm
  have hents := entsM_all (mayM_parts hm).2.1
  have hln := (kindM_iff.1 (mayM_parts hm).2.2.1).1.1
  have hT : textM m = (numsM m).flatMap putN ++ m.es.flatMap (fun e => encR (recE e)) ++ (if m.k = 5 then putS m.s else []) := rfl
  have hN9 : (numsM m).length = 9 := rfl
  have hfl : ∀ k, ((numsM m).take k).flatMap putN = ((numsM m).take k).flatMap putN ∧ (((numsM m).take k).flatMap putN).length ≤ 90 := fun k => ⟨rfl, by
    have := flat_le putN 10 ((numsM m).take k) (fun x _ => (putN_len x).2)
    have h2 : ((numsM m).take k).length ≤ 9 := by rw [List.length_take]; omega
    omega⟩
  have hfe : ∀ k, ((m.es.take k).flatMap (fun e => encR (recE e))).length ≤ 40000 := fun k => by
    have := flat_le (fun e => encR (recE e)) 4016 (m.es.take k) (fun x _ => encR_le _)
    have h2 : (m.es.take k).length ≤ 8 := by rw [List.length_take]; omega
    omega
  have HBD := Lib.hid hbd
  have HEN := Lib.hid hents
  have HT := Lib.hid hT
  have HFL := Lib.hid hfl
  have HFE := Lib.hid hfe
  have HLN := Lib.hid (show numsM m = [m.k, m.f, m.o, m.t, m.i, m.l, m.c, yesN m.y, (m.es.length : Int)] from rfl)
  generalize numsM m = L at *
  generalize textM m = T at *
  clear hbd hents hT hfl hfe hm
  obtain ⟨mk, mf, mo, mt, mi, ml, mc, my, es, ⟨si, st, sc, sd⟩⟩ := m
  dsimp only at *
  have hbx := (Below.refl w.heap.size w).alloc (Nat.le_refl _) (.cells #[.int .i64 mk, .int .i64 mf, .int .i64 mo, .int .i64 mt, .int .i64 mi, .int .i64 ml, .int .i64 mc, .bool my, .slice a es.length cap, .int .i64 si, .int .i64 st, .string sc, .string sd] 30)
  have hS := msgS_box w (.slice a es.length cap) ⟨mk, mf, mo, mt, mi, ml, mc, my, es, ⟨si, st, sc, sd⟩⟩ 30
  dsimp only at hS
  have hE := h.below hbx
  have hRI := RI.fresh9 (w.alloc (.cells #[.int .i64 mk, .int .i64 mf, .int .i64 mo, .int .i64 mt, .int .i64 mi, .int .i64 ml, .int .i64 mc, .bool my, .slice a es.length cap, .int .i64 si, .int .i64 st, .string sc, .string sd] 30)) 2 mk mf mo mt mi ml mc (yesN my) (es.length : Int) (w.heap.size + 1) (by simp)
  rw [← HLN.out] at hRI
  have hb2 := hbx.alloc hbx.size (.cells #[.int .i64 mk, .int .i64 mf, .int .i64 mo, .int .i64 mt, .int .i64 mi, .int .i64 ml, .int .i64 mc, .int .i64 (yesN my), .int .i64 (es.length : Int)] 2)
  have hbA := (Below.refl _ _).alloc (Nat.le_refl (w.alloc (.cells #[.int .i64 mk, .int .i64 mf, .int .i64 mo, .int .i64 mt, .int .i64 mi, .int .i64 ml, .int .i64 mc, .bool my, .slice a es.length cap, .int .i64 si, .int .i64 st, .string sc, .string sd] 30)).heap.size) (.cells #[.int .i64 mk, .int .i64 mf, .int .i64 mo, .int .i64 mt, .int .i64 mi, .int .i64 ml, .int .i64 mc, .int .i64 (yesN my), .int .i64 (es.length : Int)] 2)
  have hS2 := hS.below hbA
  have hE2 := hE.below hbA
  clear h hS hE hbx hbA
  unfold msgAgg
  dsimp only
  go_enter Try.func34, Try.ntmps34
  cases my
  all_goals
    first
      | rw [show yesN false = 0 from rfl] at hRI hb2 hS2 hE2
      | rw [show yesN true = 1 from rfl] at hRI hb2 hS2 hE2
    go_wp2_with fail
    generalize ((w.alloc _).alloc _) = w1 at *
    have hw1 := hb2.size
    obtain ⟨al, capl, hal, hcapl, hcml, hcl⟩ := hRI.open_
    have hL9 : L.length = 9 := hN9
    simp only [Value.slice.injEq] at hal
    obtain ⟨rfl, -, rfl⟩ := hal
    go_loopw [3, 6, 31] (fun x _ i wr => ∃ k : Nat, k ≤ L.length ∧ i = .int .i64 k ∧ OwnB wr w1.heap.size 5 x ((L.take k).flatMap putN) ∧ Below w1.heap.size w1 wr) (fun _ _ i _ => L.length - (intOf i).toNat)
    case atStart => exact ⟨0, by omega, rfl, OwnB.nil _ _ _, Below.refl _ _⟩
    case round =>
      obtain ⟨k, hk, rfl, ho, hbel⟩ := hrel
      by_cases hlt : k < L.length
      · obtain ⟨b, off, hbo, hbl, hcj⟩ := hcl.out k hlt
        simp only [Option.some.injEq, Addr.mk.injEq] at hbo
        obtain ⟨rfl, rfl, -⟩ := hbo
        have hcj := (hbel.cell (p := ⟨w.heap.size + 1, 0 + k, none⟩) hbl).trans hcj
        rw [Nat.zero_add] at hcj
        have HU := Lib.hid (flat_snoc putN L k hlt)
        have hf := (HFL.out k).2
        obtain ⟨n0, n1⟩ := HBD.out k hlt
        generalize (L.take k).flatMap putN = Y at *
        generalize L[k] = n at *
        go_wp2_with fail
        refine (num_put _ Y n w1.heap.size _ n0 n1 (by omega) hbel.size ho).mono ?_
        rintro e w2 ⟨v2, rfl, ho2, hg2, hk2⟩
        have hb3 : Below w1.heap.size w1 w2 := hbel.grown hg2 hbel.size (fun k hk => (ho.lt k hk).1)
        clear hg2 hk2 ho hbel
        go_wp2_with fail
        go_roundw
        case rel => exact ⟨k + 1, by omega, by go_num, by rw [HU.out]; exact ho2, hb3⟩
        case measure => simp [intOf]; omega
      · obtain rfl : k = L.length := by omega
        rw [List.take_length] at ho
        have hfA := (HFL.out L.length).2
        rw [List.take_length] at hfA
        have HT2 := Lib.hid HT.out
        clear HT HFL HBD hcl hRI HLN
        generalize L.flatMap putN = A at *
        have hSr := hS2.below hbel
        have d0 := hSr.c0
        have d8 := hSr.c8
        dsimp only at d0 d8
        clear hSr
        go_wp2_with fail
        clear hL9 hN9
        generalize L.length = LL at *
        go_loopw [3, 8, 42] (fun x _ i wr => ∃ k : Nat, k ≤ es.length ∧ i = .int .i64 k ∧ OwnB wr w1.heap.size 5 x (A ++ (es.take k).flatMap (fun e => encR (recE e))) ∧ Below w1.heap.size w1 wr) (fun _ _ i _ => es.length - (intOf i).toNat)
        case atStart => exact ⟨0, by omega, rfl, by simpa using ho, hbel⟩
        case round =>
          clear ho hbel d0 d8
          obtain ⟨k, hk, rfl, ho, hbel⟩ := hrel
          by_cases hlt : k < es.length
          · obtain ⟨b, off, rfl, hb1, e0, e1, e2, e3⟩ := (hE2.below hbel).cells k hlt
            have HU := Lib.hid (flat_snoc (fun e => encR (recE e)) es k hlt)
            have hf := HFE.out k
            have hl2 := encR_le (recE es[k])
            generalize (es.take k).flatMap (fun e => encR (recE e)) = Y at *
            generalize es[k] = e at *
            obtain ⟨ei, et, ek, ed⟩ := e
            dsimp only at e0 e1 e2 e3
            have hbx1 := hbel.alloc hbel.size (.cells #[.int .i64 ei, .int .i64 et, .int .i64 ek, .string ed] 35)
            have hox := ho.alloc (.cells #[.int .i64 ei, .int .i64 et, .int .i64 ek, .string ed] 35)
            go_wp2_with fail
            refine (wal_encode (recE ⟨ei, et, ek, ed⟩) _).mono ?_
            rintro e w2 ⟨v2, rfl, ho2, hb2'⟩
            have hb3 := hbx1.trans (hb2'.mono hbx1.size)
            have ho3 := hox.below hb2'
            clear ho hox hbx1 hb2' hbel e0 e1 e2 e3
            go_wp2_with (at_builtin; refine wpList_append_bytes 46 w1.heap.size 5 Try.underlying46 info_u8 rfl _ _ rfl ho3 ho2.bytes rfl rfl (by rw [List.length_append]; omega) hb3.size ?_)
            intro v7 w7 ho7 hg7 hk7
            have hb8 : Below w1.heap.size w1 w7 := hb3.grown hg7 hb3.size (fun k hk => (ho3.lt k hk).1)
            clear hg7 hk7 ho2 ho3 hb3
            go_wp2_with fail
            go_roundw
            case rel => exact ⟨k + 1, by omega, by go_num, by rw [HU.out]; exact ho7, hb8⟩
            case measure => simp [intOf]; omega
          · obtain rfl : k = es.length := by omega
            have hf := HFE.out es.length
            rw [List.take_length] at ho hf
            generalize es.flatMap (fun e => encR (recE e)) = Y at *
            have hSr := hS2.below hbel
            have d0 := hSr.c0
            have d9 := hSr.c9
            have d10 := hSr.c10
            have d11 := hSr.c11
            have d12 := hSr.c12
            dsimp only at d0 d9 d10 d11 d12
            have hbw := hb2.trans (hbel.mono hb2.size)
            clear hSr
            by_cases h5 : mk = 5
            · have HT3 : Hid (T = A ++ (Y ++ putS ⟨si, st, sc, sd⟩)) := Lib.hid (by rw [HT2.out, if_pos h5, List.append_assoc])
              have hpl := putS_le ⟨si, st, sc, sd⟩
              subst h5
              go_wp2_with fail
              refine (wal_putSnap ⟨si, st, sc, sd⟩ _).mono ?_
              rintro e w2 ⟨v2, rfl, ho2, hb2'⟩
              have hb3 := hbel.trans (hb2'.mono hbel.size)
              have ho3 := ho.below hb2'
              generalize putS ⟨si, st, sc, sd⟩ = Z at *
              go_wp2_with (at_builtin; refine wpList_append_bytes 46 w1.heap.size 5 Try.underlying46 info_u8 rfl _ _ rfl ho3 ho2.bytes rfl rfl (by rw [List.length_append]; omega) hb3.size ?_)
              intro v7 w7 ho7 hg7 hk7
              have hb8 : Below w1.heap.size w1 w7 := hb3.grown hg7 hb3.size (fun k hk => (ho3.lt k hk).1)
              go_wp2_with fail
              go_ret
              exact ⟨_, rfl, by rw [HT3.out]; exact ho7.rebase hw1, hb2.trans (hb8.mono hb2.size)⟩
            · have HT3 : Hid (T = A ++ Y) := Lib.hid (by rw [HT2.out, if_neg h5, List.append_nil])
              have n5 : (mk == 5) = false := beq_eq_false_iff_ne.2 h5
              go_wp2_with fail
              go_ret
              exact ⟨_, rfl, by rw [HT3.out]; exact ho.rebase hw1, hbw⟩
end Go.Proofs.Ytcogmohepcifiaa
namespace Go.Proofs.Ytcogmohepcifiaa
open Go.ChangeShapes Go.WideShapes Go.ChangeAt Go.RowKit

theorem Bytes.keeps {w w' : World} {v : Value} {l : List UInt8} {F : List Nat} (h : Bytes w v l) (hk : Keeps F w w') (hF : l ≠ [] → ∀ ad n c, v = .slice (some ad) n c → ad.block ∉ F) : Bytes w' v l := by
  obtain ⟨a, cap, hv, h1, h2, h3⟩ := h
  refine ⟨a, cap, hv, h1, h2, fun hne => ?_⟩
  obtain ⟨b, off, ha, hc⟩ := h3 hne
  refine ⟨b, off, ha, fun j hj => ?_⟩
  have hcj := hc j hj
  have hlt : b < w.heap.size := by
    rcases Nat.lt_or_ge b w.heap.size with h | h
    · exact h
    · exfalso
      unfold World.cell? at hcj
      rw [Array.getElem?_eq_none h] at hcj
      simp at hcj
  rw [hk.cell (p := ⟨b, off + j, none⟩) hlt (hF hne ⟨b, off, none⟩ _ _ (by rw [hv, ha]))]
  exact hcj

/-- A reader in a block of its own: what is left, and whether something did not go. -/
structure RdS (w : World) (b : Nat) (v : Value) (s : List UInt8 × Bool) : Prop where
  lt : b < w.heap.size
  c0 : w.cell? ⟨b, 0, none⟩ = some v
  c1 : w.cell? ⟨b, 1, none⟩ = some (.bool s.2)
  fr : ∀ j, w.frozen? ⟨b, j, none⟩ = false
  r : Bytes w v s.1
  ne : s.1 ≠ [] → ∀ ad n c, v = .slice (some ad) n c → ad.block < b
def RetRd (w : World) (b : Nat) (x : Value) (s : List UInt8 × Bool) (e : Ending) (w' : World) : Prop := e = .returned x ∧ (∃ v', RdS w' b v' s) ∧ Keeps [b] w w'

theorem RdS.keeps {w w' : World} {b : Nat} {v : Value} {s : List UInt8 × Bool} {F : List Nat} (h : RdS w b v s) (hk : Keeps F w w') (hF : ∀ x ∈ F, b < x) : RdS w' b v s :=
  have hb : b ∉ F := fun hx => Nat.lt_irrefl _ (hF b hx)
  ⟨Nat.lt_of_lt_of_le h.lt hk.size, (hk.cell (p := ⟨b, 0, none⟩) h.lt hb).trans h.c0, (hk.cell (p := ⟨b, 1, none⟩) h.lt hb).trans h.c1, fun j => (hk.frozen (p := ⟨b, j, none⟩) h.lt hb).trans (h.fr j), h.r.keeps hk (fun hn ad n c hv hx => absurd (hF _ hx) (Nat.not_lt.2 (Nat.le_of_lt (h.ne hn ad n c hv)))), h.ne⟩
theorem RdS.setBad {w : World} {b : Nat} {v : Value} {s : List UInt8 × Bool} (h : RdS w b v s) (x : Bool) : RdS (w.setCell ⟨b, 1, none⟩ (.bool x)) b v (s.1, x) ∧ Keeps [b] w (w.setCell ⟨b, 1, none⟩ (.bool x)) := by
  have hk : Keeps [b] w (w.setCell ⟨b, 1, none⟩ (.bool x)) := (Keeps.refl [b] w).setCell (.inl (by simp)) _
  refine ⟨⟨Nat.lt_of_lt_of_le h.lt hk.size, ?_, World.cell?_setCell_same _ _ _ h.c1, fun j => ?_, h.r.keeps hk (fun hn ad n c hg => by have := h.ne hn ad n c hg; simp; omega), h.ne⟩, hk⟩
  · rw [World.cell?_setCell_other (h := by simp)]; exact h.c0
  · rw [World.frozen?_setCell]; exact h.fr j
theorem RdS.setB {w : World} {b : Nat} {v : Value} {s : List UInt8 × Bool} (h : RdS w b v s) {v' : Value} {l : List UInt8} (hv : Bytes w v' l) (hne : l ≠ [] → ∀ ad n c, v' = .slice (some ad) n c → ad.block < b) :
    RdS (w.setCell ⟨b, 0, none⟩ v') b v' (l, s.2) ∧ Keeps [b] w (w.setCell ⟨b, 0, none⟩ v') := by
  have hk : Keeps [b] w (w.setCell ⟨b, 0, none⟩ v') := (Keeps.refl [b] w).setCell (.inl (by simp)) _
  refine ⟨⟨Nat.lt_of_lt_of_le h.lt hk.size, World.cell?_setCell_same _ _ _ h.c0, ?_, fun j => ?_, hv.keeps hk (fun hn ad n c hg => by have := hne hn ad n c hg; simp; omega), hne⟩, hk⟩
  · rw [World.cell?_setCell_other (h := by simp)]; exact h.c1
  · rw [World.frozen?_setCell]; exact h.fr j

theorem sub_ne {a : Option Addr} {n cap k b : Nat} {l : List UInt8} (hne : l ≠ [] → ∀ ad m c, Value.slice a n cap = .slice (some ad) m c → ad.block < b) {m c : Nat} :
    l.drop k ≠ [] → ∀ ad m' c', Value.slice (if cap = k then a else a.map (·.add k)) m c = .slice (some ad) m' c' → ad.block < b := by
  intro hn ad m' c' hg
  have hl : l ≠ [] := fun e => hn (by rw [e]; exact List.drop_nil)
  simp only [Value.slice.injEq] at hg
  obtain ⟨hg, -, -⟩ := hg
  by_cases hc : cap = k
  · rw [if_pos hc] at hg
    exact hne hl ad n cap (by rw [hg])
  · rw [if_neg hc] at hg
    cases a with
    | none => cases hg
    | some a0 =>
      simp only [Option.map_some, Option.some.injEq] at hg
      have h0 := hne hl a0 n cap rfl
      rw [← hg]
      unfold Addr.add
      split <;> exact h0

set_option maxRecDepth 100000 in
set_option maxHeartbeats 1000000 in
theorem rd_num {w : World} {b : Nat} {v : Value} {s : List UInt8 × Bool} (h : RdS w b v s) : Calls Try.prog 64 #[.pointer (some ⟨b, 0, none⟩)] w fun e w' => RetRd w b (.int .i64 (rdN s).1) (rdN s).2 e w' := by
  obtain ⟨l, bad⟩ := s
  have hr := h.r
  have c0 := h.c0
  have c1 := h.c1
  have fr := h.fr
  have hne := h.ne
  dsimp only at hr c1
  obtain ⟨a, cap, rfl, hcap, hcm, -⟩ := hr
  have hr := h.r
  dsimp only at hr
  have hL := l.length
  cases bad with
  | true =>
    have hset := h.setBad true
    dsimp only at hset
    have HSET := Lib.hid hset
    have hR : rdN (l, true) = ((getN l).1, l, true) := rfl
    have HR := Lib.hid hR
    clear hset hR
    obtain ⟨x, k, e, hg⟩ : ∃ x k e, getN l = (x, k, e) := ⟨_, _, _, rfl⟩
    have c1' := HSET.out.1.c1
    dsimp only at c1'
    have HG := Lib.hid hg
    clear h hne hg
    go_enter Try.func64, Try.ntmps64
    go_wp2_with fail
    refine (num_get _ l _ hr).mono ?_
    rintro e' w' ⟨rfl, rfl⟩
    rw [HG.out]
    unfold getV
    go_wp2_with fail
    go_ret
    rw [HR.out, HG.out]
    exact ⟨rfl, ⟨_, HSET.out.1⟩, HSET.out.2⟩
  | false =>
    rcases getN_any l with hg | ⟨x, k, hg, hx0, hx1, hk0, hkl, -⟩
    · have hset := h.setBad true
      dsimp only at hset
      have HSET := Lib.hid hset
      have c1' := HSET.out.1.c1
      dsimp only at c1'
      have hR : ∃ e : Nat, getN l = (0, 0, e) ∧ ((e : Int) != 0) = true ∧ rdN (l, false) = (0, l, true) := by
        rcases hg with hg | hg <;> exact ⟨_, hg, by decide, by unfold rdN; rw [hg]; rfl⟩
      obtain ⟨e, hg, he, hR⟩ := hR
      have HR := Lib.hid hR
      have HG := Lib.hid hg
      clear hset hR h hne hg
      go_enter Try.func64, Try.ntmps64
      go_wp2_with fail
      refine (num_get _ l _ hr).mono ?_
      rintro e' w' ⟨rfl, rfl⟩
      rw [HG.out]
      unfold getV
      go_wp2_with fail
      go_ret
      rw [HR.out]
      exact ⟨rfl, ⟨_, HSET.out.1⟩, HSET.out.2⟩
    · have hset := h.setBad false
      dsimp only at hset
      have hsub := hset.1.r.sub k (l.length - k) (by dsimp only; omega)
      dsimp only at hsub
      rw [List.take_of_length_le (by rw [List.length_drop]; omega)] at hsub
      have hset2 := hset.1.setB hsub (sub_ne hne)
      dsimp only at hset2
      have hR : rdN (l, false) = (x, l.drop k, false) := by unfold rdN; rw [hg]; rfl
      have HR := Lib.hid hR
      have HG := Lib.hid hg
      clear hR hg hsub
      have HSET := Lib.hid hset
      have c1' := HSET.out.1.c1
      have c0' := HSET.out.1.c0
      have fr' := HSET.out.1.fr
      dsimp only at c1' c0'
      have HSET2 := Lib.hid (And.intro hset2.1 (hset.2.trans hset2.2 (fun x hx => .inl hx)))
      clear hset hset2 h hne
      go_enter Try.func64, Try.ntmps64
      go_wp2_with fail
      refine (num_get _ l _ hr).mono ?_
      rintro e' w' ⟨rfl, rfl⟩
      rw [HG.out]
      unfold getV
      by_cases hck : cap = k
      · rw [if_pos hck] at HSET2
        subst hck
        rw [Nat.sub_self, show l.length - cap = 0 by omega] at HSET2
        go_wp2_with fail
        go_ret
        rw [HR.out]
        exact ⟨rfl, ⟨_, HSET2.out.1⟩, HSET2.out.2⟩
      · rw [if_neg hck] at HSET2
        go_wp2_with fail
        go_ret
        rw [HR.out]
        exact ⟨rfl, ⟨_, HSET2.out.1⟩, HSET2.out.2⟩
theorem getT_any (l : List UInt8) : (getT l = ([], 0, 1) ∨ getT l = ([], 0, 2)) ∨ ∃ t k, getT l = (t, k, 0) ∧ 0 < k ∧ k ≤ l.length ∧ t.length ≤ 1048576 := by
  rcases getN_any l with (h | h) | ⟨x, k, h, hx0, hx1, hk0, hkl, -⟩
  · left; left; simp [getT, h]
  · left; right; simp [getT, h]
  · unfold getT
    rw [h]
    simp only []
    by_cases c1 : x < 0 ∨ 1048576 < x
    · left; left; rw [if_neg (by decide), if_pos c1]
    · by_cases c2 : (l.length : Int) - (k : Nat) < x
      · left; right; rw [if_neg (by decide), if_neg c1, if_pos c2]
      · right
        rw [if_neg (by decide), if_neg c1, if_neg c2]
        exact ⟨_, _, rfl, by omega, by omega, by rw [List.length_take]; omega⟩

set_option maxRecDepth 100000 in
set_option maxHeartbeats 1000000 in
theorem rd_text {w : World} {b : Nat} {v : Value} {s : List UInt8 × Bool} (h : RdS w b v s) : Calls Try.prog 65 #[.pointer (some ⟨b, 0, none⟩)] w fun e w' => RetRd w b (.string ⟨(rdT s).1.toArray⟩) (rdT s).2 e w' := by
  obtain ⟨l, bad⟩ := s
  have hr := h.r
  have c0 := h.c0
  have c1 := h.c1
  have fr := h.fr
  have hne := h.ne
  dsimp only at hr c1
  obtain ⟨a, cap, rfl, hcap, hcm, -⟩ := hr
  have hr := h.r
  dsimp only at hr
  have hL := l.length
  cases bad with
  | true =>
    have hset := h.setBad true
    dsimp only at hset
    have HSET := Lib.hid hset
    have hR : rdT (l, true) = ((getT l).1, l, true) := rfl
    have HR := Lib.hid hR
    clear hset hR
    obtain ⟨x, k, e, hg⟩ : ∃ x k e, getT l = (x, k, e) := ⟨_, _, _, rfl⟩
    have c1' := HSET.out.1.c1
    dsimp only at c1'
    have HG := Lib.hid hg
    clear h hne hg
    go_enter Try.func65, Try.ntmps65
    go_wp2_with fail
    refine (num_getText _ l _ hr).mono ?_
    rintro e' w' ⟨rfl, rfl⟩
    rw [HG.out]
    unfold getTV
    go_wp2_with fail
    go_ret
    rw [HR.out, HG.out]
    exact ⟨rfl, ⟨_, HSET.out.1⟩, HSET.out.2⟩
  | false =>
    rcases getT_any l with hg | ⟨x, k, hg, hk0, hkl, -⟩
    · have hset := h.setBad true
      dsimp only at hset
      have HSET := Lib.hid hset
      have c1' := HSET.out.1.c1
      dsimp only at c1'
      have hR : ∃ e : Nat, getT l = ([], 0, e) ∧ ((e : Int) != 0) = true ∧ rdT (l, false) = ([], l, true) := by
        rcases hg with hg | hg <;> exact ⟨_, hg, by decide, by unfold rdT; rw [hg]; rfl⟩
      obtain ⟨e, hg, he, hR⟩ := hR
      have HR := Lib.hid hR
      have HG := Lib.hid hg
      clear hset hR h hne hg
      go_enter Try.func65, Try.ntmps65
      go_wp2_with fail
      refine (num_getText _ l _ hr).mono ?_
      rintro e' w' ⟨rfl, rfl⟩
      rw [HG.out]
      unfold getTV
      go_wp2_with fail
      go_ret
      rw [HR.out]
      exact ⟨rfl, ⟨_, HSET.out.1⟩, HSET.out.2⟩
    · have hset := h.setBad false
      dsimp only at hset
      have hsub := hset.1.r.sub k (l.length - k) (by dsimp only; omega)
      dsimp only at hsub
      rw [List.take_of_length_le (by rw [List.length_drop]; omega)] at hsub
      have hset2 := hset.1.setB hsub (sub_ne hne)
      dsimp only at hset2
      have hR : rdT (l, false) = (x, l.drop k, false) := by unfold rdT; rw [hg]; rfl
      have HR := Lib.hid hR
      have HG := Lib.hid hg
      clear hR hg hsub
      have HSET := Lib.hid hset
      have c1' := HSET.out.1.c1
      have c0' := HSET.out.1.c0
      have fr' := HSET.out.1.fr
      dsimp only at c1' c0'
      have HSET2 := Lib.hid (And.intro hset2.1 (hset.2.trans hset2.2 (fun x hx => .inl hx)))
      clear hset hset2 h hne
      go_enter Try.func65, Try.ntmps65
      go_wp2_with fail
      refine (num_getText _ l _ hr).mono ?_
      rintro e' w' ⟨rfl, rfl⟩
      rw [HG.out]
      unfold getTV
      by_cases hck : cap = k
      · rw [if_pos hck] at HSET2
        subst hck
        rw [Nat.sub_self, show l.length - cap = 0 by omega] at HSET2
        go_wp2_with fail
        go_ret
        rw [HR.out]
        exact ⟨rfl, ⟨_, HSET2.out.1⟩, HSET2.out.2⟩
      · rw [if_neg hck] at HSET2
        go_wp2_with fail
        go_ret
        rw [HR.out]
        exact ⟨rfl, ⟨_, HSET2.out.1⟩, HSET2.out.2⟩

theorem rd_done {w : World} {b : Nat} {v : Value} {s : List UInt8 × Bool} (h : RdS w b v s) : Calls Try.prog 66 #[.pointer (some ⟨b, 0, none⟩)] w fun e w' => e = .returned (.bool (rdD s)) ∧ w' = w := by
  obtain ⟨l, bad⟩ := s
  have hr := h.r
  have c0 := h.c0
  have c1 := h.c1
  dsimp only at hr c1
  obtain ⟨a, cap, rfl, hcap, hcm, -⟩ := hr
  clear h
  cases bad with
  | true =>
    go_enter Try.func66, Try.ntmps66
    go_wp2_with fail
    go_ret
    exact ⟨rfl, rfl⟩
  | false =>
    have hD : rdD (l, false) = decide (l.length = 0) := by unfold rdD; rfl
    have HD := Lib.hid hD
    clear hD
    rcases dec_cases (l.length = 0) with ⟨hz, td⟩ | ⟨hz, td⟩
    · have HT := Lib.hid td
      go_enter Try.func66, Try.ntmps66
      go_wp2_with fail
      go_ret
      rw [HD.out, HT.out]
      exact ⟨rfl, rfl⟩
    · have HT := Lib.hid td
      have t2 : ((l.length : Int) == 0) = false := beq_eq_false_iff_ne.2 (by omega)
      go_enter Try.func66, Try.ntmps66
      go_wp2_with fail
      go_ret
      rw [HD.out, HT.out]
      exact ⟨rfl, rfl⟩
end Go.Proofs.Ytcogmohepcifiaa
