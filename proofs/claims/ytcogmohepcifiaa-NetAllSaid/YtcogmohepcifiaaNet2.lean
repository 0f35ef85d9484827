/-
  No claim by itself: Send. No condition.
-/
import Derived.Test.YtcogmohepcifiaaNet1
namespace Go.Proofs.Ytcogmohepcifiaa
open Go.ChangeShapes Go.WideShapes Go.ChangeAt Go.RowKit

theorem MRow.push {w w' : World} {base : Nat} {lv lv' : Value} {ms : List VMsg} (h : MRow w base lv ms) {p : VMsg} (hp : EntO w base p.1 p.2.es) (hne : ∀ g, p.1.ownBlock = some g → lv.ownBlock ≠ some g)
    (hown : w'.ownsRow base 30 13 lv' (ms.length + 1) (ms.flatMap vmCells ++ vmCells p)) (hg : w.grownBy w' lv.ownBlock) (hk : ∀ k, lv'.ownBlock = some k → lv.ownBlock = some k ∨ w.heap.size ≤ k) : MRow w' base lv' (ms ++ [p]) := by
  have key : ∀ q ∈ ms ++ [p], EntO w base q.1 q.2.es ∧ ∀ g, q.1.ownBlock = some g → lv.ownBlock ≠ some g := fun q hq => by
    rcases List.mem_append.1 hq with hq | hq
    · exact ⟨h.ents q hq, h.apart q hq⟩
    · obtain rfl := List.mem_singleton.1 hq
      exact ⟨hp, hne⟩
  refine ⟨?_, fun q hq => ?_, fun q hq g h1 h2 => ?_⟩
  · rw [List.length_append, List.flatMap_append]
    simpa using hown
  · refine World.ownsRow.kept (key q hq).1 hg ?_
    cases ho : q.1.ownBlock with
    | none => exact .inl rfl
    | some g => exact .inr fun e => (key q hq).2 g ho e.symm
  · rcases hk g h2 with h3 | h3
    · exact (key q hq).2 g h1 h3
    · have := (World.ownsRow.lt (key q hq).1 g h1).2
      omega
section
variable {P : Program}

/-- What 'append' does; what was told of the row before is true still. -/
theorem run_append_keep {w : World} (t ot : TypeId)
    (base : Nat) (e : TypeId) (i : TypeInfo) (z : Value) (size bytes : Nat) (ht : P.underlying t = some (.slice e)) (hi : P.info? e = some i) (hz : i.zero = some z)
    (hsize : i.size = size) (hby : i.bytes = bytes) (hzs : z.cells.size = size) (hsz : 0 < size)
    (v : Value) (n : Nat) (xs : List Value) (hown : w.ownsRow base e size v n xs)
    (ao : Option Addr) (m c : Nat) (news : List Value) (hl : news.length = m * size)
    (hnews : m ≠ 0 → ∃ ad, ao = some ad ∧ ∀ j u, news[j]? = some u → w.cell? (ad.add j) = some u) (h1 : ∀ u ∈ news, u.oneCell' = true)
    (h63 : n + m ≤ maxLen) (hbytes : (n + m) * bytes ≤ 140737488355328) (hbase : base ≤ w.heap.size) :
    ∃ v' w', (Builtin.append_ #[t, t] ot #[v, .slice ao m c]).run P w = .ok v' w' ∧ w'.ownsRow base e size v' (n + m) (xs ++ news) ∧ w.grownBy w' v.ownBlock ∧ (∀ k, v'.ownBlock = some k → v.ownBlock = some k ∨ w.heap.size ≤ k) ∧ w'.ownsRow base e size v n xs := by
  by_cases hm : m = 0
  · subst hm
    have hn : news = [] := List.eq_nil_of_length_eq_zero (by simpa using hl)
    subst hn
    have hrun : (Builtin.append_ #[t, t] ot #[v, .slice ao 0 c]).run P w = .ok v w := by
      rcases hown.2 with ⟨rfl, rfl⟩ | ⟨g, cap, cur, rfl, _, _, hnc, _⟩
      · cases ao <;> simp [Builtin.append_, run_underlying ht, sizeOf, typeInfo, hi, Builtin.lenOf, Builtin.firstCells, loadCells, loadCellsFrom]
      · cases ao <;> simp [Builtin.append_, run_underlying ht, sizeOf, typeInfo, hi, Builtin.lenOf, Builtin.firstCells, hnc, storeCells, loadCells, loadCellsFrom]
    exact ⟨v, w, hrun, by simpa using hown, ⟨rfl, rfl, rfl, Nat.le_refl _, fun _ _ _ => rfl⟩, fun k hk => .inl hk, hown⟩
  · obtain ⟨ad, rfl, hc⟩ := hnews hm
    subst hsize
    subst hby
    have hsmall : n + m ≤ 9223372036854775807 := by simp only [maxLen] at h63; omega
    have hlen : (xs ++ news).length = (n + m) * i.size := by rw [List.length_append, hown.1, hl, Nat.add_mul]
    have grown : ∀ (old : Nat), old < n + m → ∀ (row : Option Nat),
        (w.drew.alloc (.cells (xs.toArray ++ news.toArray ++ Builtin.zeroCells z.cells (grownCap w (n + m) old e - (n + m))) e)).ownsRow base e i.size
          (.slice (some ⟨w.heap.size, 0, none⟩) (n + m) (grownCap w (n + m) old e)) (n + m) (xs ++ news) ∧
        w.grownBy (w.drew.alloc (.cells (xs.toArray ++ news.toArray ++ Builtin.zeroCells z.cells (grownCap w (n + m) old e - (n + m))) e)) row := by
      intro old ho row
      have hge := grownCap_ge w (n + m) old e
      have hcm : grownCap w (n + m) old e ≤ maxLen := grownCap_le_maxLen w (n + m) old e h63
      refine ⟨⟨hlen, .inr ⟨w.heap.size, _, _, rfl, hbase, _root_.Go.heap_alloc_new w.drew _, hge, hcm, ?_, ?_⟩⟩, ⟨rfl, rfl, rfl, by simp, fun k hk _ => Below.heap_alloc w.drew _ k hk⟩⟩
      · simp only [Array.size_append, List.size_toArray, size_zeroCells, hzs, hown.1, hl, ← Nat.add_mul]
        congr 1
        omega
      · simp only [Array.toList_append, List.append_assoc]
        rw [← List.append_assoc, ← hlen]
        exact List.take_left
    rcases hown.2 with ⟨rfl, rfl⟩ | ⟨g, cap, cur, rfl, hbg, hg, hnc, hcm, hcs, htake⟩
    · have hx : xs = [] := List.eq_nil_of_length_eq_zero (by simpa using hown.1)
      subst hx
      have hr := run_append_nil (P := P) w t ot e i z ht hi hz ad m c news hl hc (by omega) (by omega) (by have hb := hbytes; simp only [Nat.zero_add] at hb; omega)
      have hgr := grown 0 (by omega) (Value.ownBlock (.slice none 0 0))
      simp only [Nat.zero_add, List.nil_append, Array.empty_append] at hgr ⊢
      exact ⟨_, _, hr, hgr.1, hgr.2, fun k hk => .inr (by simp [Value.ownBlock] at hk; omega), World.ownsRow_nil _ _ _ _⟩
    · by_cases hroom : n + m ≤ cap
      · have hfit : n * i.size + news.length ≤ cur.size := by rw [hl, hcs, ← Nat.add_mul]; exact Nat.mul_le_mul_right _ hroom
        have hr := run_append_room (P := P) w t ot e i ht hi g n cap cur hg ad m c news hl hc h1 hroom hfit
        refine ⟨_, _, hr, ⟨hlen, .inr ⟨g, cap, _, rfl, hbg, setRow_heap w g cur _ e _ hg, hroom, hcm, ?_, ?_⟩⟩, ⟨rfl, rfl, rfl, by simp, fun k _ hk => setRow_other w g k _ (fun e => hk (by simp [Value.ownBlock, e]))⟩, fun k hk => .inl hk, ⟨hown.1, .inr ⟨g, cap, _, rfl, hbg, setRow_heap w g cur _ e _ hg, hnc, hcm, ?_, ?_⟩⟩⟩
        · simp only [List.size_toArray, List.length_append, List.length_take, List.length_drop, Array.length_toList]
          omega
        · rw [htake, ← hlen]
          exact List.take_left
        · simp only [List.size_toArray, List.length_append, List.length_take, List.length_drop, Array.length_toList]
          omega
        · rw [htake, List.append_assoc, ← hown.1]
          exact List.take_left
      · have holds : ∀ j u, xs[j]? = some u → w.cell? ((⟨g, 0, none⟩ : Addr).add j) = some u := hown.cells (g := g) rfl
        have hr := run_append_grow (P := P) w t ot e i z ht hi hz ⟨g, 0, none⟩ n cap xs hown.1 holds ad m c news hl hc (by omega) (by omega) (growslice_fits (by omega) hbytes)
        have hgr := grown cap (by omega) (Value.ownBlock (.slice (some ⟨g, 0, none⟩) n cap))
        exact ⟨_, _, hr, hgr.1, hgr.2, fun k hk => .inr (by simp [Value.ownBlock] at hk; omega), World.ownsRow.alloc (w := w.drew) hown _⟩
end

/-- 'append' as an operation of a region that draws its order. -/
theorem yields_appendM {P : Program} {w w' : World} {o : Oper} {a : Act} {R : Value → World → Prop} (s x : Operand) (t : TypeId) (ho : o.op = .call { callee := .builtin .append, args := #[s, x], argTypes := #[t, t] }) {v src v' : Value} (hs : a.eval s = v) (hx : a.eval x = src)
    (hr : (Builtin.append_ #[t, t] o.type #[v, src]).run P w = .ok v' w') (h : R v' w') : yieldsUpon P w R ((execOp a.eval o).run P w) := by
  unfold execOp
  simp only [ho, resolve, invoke, builtin, Sem.run_bind, Sem.run_pure, Result.andThen_ok, List.map_toArray, List.map_cons, List.map_nil, hs, hx, hr]
  exact h
def sendB (ms : List VMsg) (m : Msg) : Bool := mayM m && decide (ms.length < 400)
def sentM (b : Bool) (l : List Msg) (m : Msg) : List Msg := if b then l ++ [m] else l
def RetSend (w : World) (b : Nat) (lv : Value) (ms : List VMsg) (m : Msg) (e : Ending) (w' : World) : Prop :=
  e = .returned (.bool (sendB ms m)) ∧ ∃ lv' ms', NetS w' b lv' ms' ∧ vms ms' = sentM (sendB ms m) (vms ms) m ∧ Keeps (b :: lv.ownBlock.toList) w w' ∧ (∀ g, lv'.ownBlock = some g → lv.ownBlock = some g ∨ w.heap.size ≤ g) ∧ ∀ p ∈ ms', p ∈ ms ∨ ∀ g, p.1.ownBlock = some g → w.heap.size ≤ g

set_option maxRecDepth 100000 in
set_option maxHeartbeats 4000000 in
theorem net_send {w : World} {b : Nat} {lv : Value} {ms : List VMsg} (h : NetS w b lv ms) (v : Value) (m : Msg) (hE : EntR w v m.es) (hl : m.es.length ≤ 1000000000) (hc : m.s.c.size ≤ 1000000000) (hn : ms.length ≤ 1000) (hap : ∀ g off n c, v = .slice (some ⟨g, off, none⟩) n c → lv.ownBlock ≠ some g) :
    Calls Try.prog 9 #[.pointer (some ⟨b, 0, none⟩), msgAgg v m] w fun e w' => RetSend w b lv ms m e w' := by
  obtain ⟨a, cap, rfl⟩ := hE.slice
  have HB : Hid (sendB ms m = (mayM m && decide (ms.length < 400))) := Lib.hid rfl
  have HMAY := Lib.hid (fun (u : World) (x : Value) (hx : EntR u x m.es) => raft_may x m u hx (by omega) hc)
  have HOWN := Lib.hid (fun (u : World) (x : Value) (hx : EntR u x m.es) => net_own x m u hx hl)
  have HAG : Hid (∀ v (m : Msg), msgAgg v m = .agg #[.int .i64 m.k, .int .i64 m.f, .int .i64 m.o, .int .i64 m.t, .int .i64 m.i, .int .i64 m.l, .int .i64 m.c, .bool m.y, v, .int .i64 m.s.i, .int .i64 m.s.t, .string m.s.c, .string m.s.d]) := Lib.hid (fun _ _ => rfl)
  unfold RetSend
  generalize sendB ms m = R at *
  have hX := msgS_box w (.slice a m.es.length cap) m 30
  have hbx := (Below.refl w.heap.size w).alloc (Nat.le_refl _) (.cells #[.int .i64 m.k, .int .i64 m.f, .int .i64 m.o, .int .i64 m.t, .int .i64 m.i, .int .i64 m.l, .int .i64 m.c, .bool m.y, .slice a m.es.length cap, .int .i64 m.s.i, .int .i64 m.s.t, .string m.s.c, .string m.s.d] 30)
  have hN := h.below hbx
  have hE1 := hE.below hbx
  have hbl := h.lt
  have hlv := h.m.slice
  obtain ⟨la, lc, rfl⟩ := hlv
  have hown : ∀ g, (Value.slice la ms.length lc).ownBlock = some g → g < w.heap.size := fun g hg => (World.ownsRow.lt h.m.row g hg).2
  clear h hE
  rw [HAG.out]
  go_enter Try.func9, Try.ntmps9
  go_wp2_with fail
  generalize w.alloc _ = w1 at *
  refine (HMAY.out _ _ hE1).mono ?_
  rintro e w2 ⟨rfl, hb2⟩
  replace hX := hX.below hb2
  replace hN := hN.below hb2
  replace hE1 := hE1.below hb2
  replace hbx := hbx.trans (hb2.mono hbx.size)
  clear hb2
  have n0 := hN.c0
  cases hm : mayM m with
  | false =>
    have HR : Hid (R = false) := Lib.hid (by rw [HB.out, hm]; rfl)
    clear hm
    go_wp2_with fail
    go_ret
    rw [HR.out]
    exact ⟨rfl, _, ms, hN, rfl, Keeps.mono (Keeps.of_below (F := []) hbx) (by simp), fun g hg => .inl hg, fun p hp => .inl hp⟩
  | true =>
    by_cases hfull : ms.length < 400
    case neg =>
      have HR : Hid (R = false) := Lib.hid (by rw [HB.out, decide_eq_false hfull, Bool.and_false])
      have t4 : decide (400 ≤ (ms.length : Int)) = true := decide_eq_true (by omega)
      have t5 : decide ((ms.length : Int) < 400) = false := decide_eq_false (by omega)
      have t6 : 400 ≤ ms.length := by omega
      clear hm
      go_wp2_with fail
      go_ret
      rw [HR.out]
      exact ⟨rfl, _, ms, hN, rfl, Keeps.mono (Keeps.of_below (F := []) hbx) (by simp), fun g hg => .inl hg, fun p hp => .inl hp⟩
    have HR : Hid (R = true) := Lib.hid (by rw [HB.out, hm, decide_eq_true hfull]; rfl)
    have t4 : decide (400 ≤ (ms.length : Int)) = false := decide_eq_false (by omega)
    clear hm HB
    go_upto_region 3 with fail
    go_cut [] (fun wx => ∃ lv' ms', NetS wx b lv' ms' ∧ vms ms' = vms ms ++ [m] ∧ Keeps (b :: (Value.slice la ms.length lc).ownBlock.toList) w wx ∧ (∀ g, lv'.ownBlock = some g → (Value.slice la ms.length lc).ownBlock = some g ∨ w.heap.size ≤ g) ∧ ∀ p ∈ ms', p ∈ ms ∨ ∀ g, p.1.ownBlock = some g → w.heap.size ≤ g)
    case first =>
      have hI : ∀ u u', (Keeps (Value.slice la ms.length lc).ownBlock.toList w2 u ∧ MRow u (b + 1) (.slice la ms.length lc) ms) → Below u.heap.size u u' → (Keeps (Value.slice la ms.length lc).ownBlock.toList w2 u' ∧ MRow u' (b + 1) (.slice la ms.length lc) ms) := fun u u' hu hb =>
        ⟨hu.1.trans (Keeps.of_below (F := []) hb) (by simp), hu.2.below hb⟩
      refine wp_region_ck 9 (by rfl) (by kernel_rfl) (fun u => Keeps (Value.slice la ms.length lc).ownBlock.toList w2 u ∧ MRow u (b + 1) (.slice la ms.length lc) ms) ⟨⟨rfl, rfl, rfl, Nat.le_refl _, fun _ _ _ => rfl⟩, hN.m.keeps (F := []) ⟨rfl, rfl, rfl, Nat.le_refl _, fun _ _ _ => rfl⟩ (by simp)⟩
        (fun k => match k with | 6 => some (fun v w' => ∃ ov, v = msgAgg ov m ∧ EntO w' w2.heap.size ov m.es) | 7 => some (fun v w' => ∃ g7 ov, v = .slice (some ⟨g7, 0, none⟩) 1 1 ∧ w2.heap.size ≤ g7 ∧ g7 < w'.heap.size ∧ (∀ j u, (vmCells (ov, m))[j]? = some u → w'.cell? ⟨g7, j, none⟩ = some u) ∧ EntO w' w2.heap.size ov m.es) | 8 => some (fun v w' => ∃ ov, MRow w' (b + 1) v (ms ++ [(ov, m)]) ∧ (∀ g, v.ownBlock = some g → (Value.slice la ms.length lc).ownBlock = some g ∨ w2.heap.size ≤ g) ∧ ∀ g, ov.ownBlock = some g → w2.heap.size ≤ g) | _ => none) ⟨[], [8], []⟩ (PlanOkK.of [6, 7, 8] (by kernel_rfl) (fun k φ hk => ?_) (fun k φ hk v w1 w2 h1 h2 => ?_)) (fun vals => ?_)
      · split at hk
        all_goals first | (cases hk; done) | simp
      · split at hk
        · cases hk
          obtain ⟨ov, hv, ho⟩ := h1
          exact ⟨ov, hv, ho.below h2⟩
        · cases hk
          obtain ⟨g7, ov, hv, h3, h4, h5, h6⟩ := h1
          exact ⟨g7, ov, hv, h3, Nat.lt_of_lt_of_le h4 h2.size, fun j u hu => (h2.cell (p := ⟨g7, j, none⟩) h4).trans (h5 j u hu), h6.below h2⟩
        · cases hk
          obtain ⟨ov, h3, h4⟩ := h1
          exact ⟨ov, h3.below h2, h4⟩
        · cases hk
      dsimp only [List.take, List.drop]
      iterate 4 ((with_reducible refine sc_pureK ?_ (fun K hK => ?_)); (· rfl); go_simp; with_reducible refine hK _ ?_; clear hK K)
      refine sc_atK (.slice la ms.length lc) rfl rfl (fun wz hz' hH => ?_) (fun K hK => ?_)
      · have g0 := (hz'.1.cell (p := ⟨b, 0, none⟩) hN.lt (fun hx => by have := (World.ownsRow.lt hN.m.row b (by simpa using hx)).1; omega)).trans n0
        go_simp
      go_simp; refine hK _ ?_; clear hK K
      refine sc_atK (msgAgg (.slice a m.es.length cap) m) rfl rfl (fun wz hz' hH => ?_) (fun K hK => ?_)
      · have hq := hX.keeps hz'.1 (fun hx => by have := hown w.heap.size (by simpa using hx); omega)
        have y0 := hq.c0
        have y1 := hq.c1
        have y2 := hq.c2
        have y3 := hq.c3
        have y4 := hq.c4
        have y5 := hq.c5
        have y6 := hq.c6
        have y7 := hq.c7
        have y8 := hq.c8
        have y9 := hq.c9
        have y10 := hq.c10
        have y11 := hq.c11
        have y12 := hq.c12
        unfold msgAgg
        go_simp
      go_simp; refine hK _ ?_; clear hK K
      refine sc_callK hI _ rfl rfl rfl (fun wz hz' hH => ?_) (fun K hK => ?_)
      · go_simp
        go_at_call 21
        refine (HOWN.out _ _ (hE1.keeps hz'.1 (fun g off n c hv hx => hap g off n c hv (by simpa using hx)))).mono ?_
        rintro e w12 ⟨v12, rfl, ho12, hb12⟩
        exact ⟨_, rfl, ⟨_, rfl, ho12.rebase hz'.1.size⟩, hb12⟩
      go_simp; refine hK _ ?_; clear hK K
      refine sc_callK hI _ rfl rfl rfl (fun wz hz' hH => ?_) (fun K hK => ?_)
      · obtain ⟨ov, e6, o6⟩ := hH _ (List.Mem.head _) rfl
        obtain ⟨oa, oc, rfl⟩ := o6.r.slice
        dsimp only at e6
        rw [show (0 + 1 + 1 + 1 + 1 + 1 + 1 : Nat) = 6 from rfl] at e6
        have hbx7 := (Below.refl wz.heap.size wz).alloc (Nat.le_refl _) (.cells #[.int .i64 m.k, .int .i64 m.f, .int .i64 m.o, .int .i64 m.t, .int .i64 m.i, .int .i64 m.l, .int .i64 m.c, .bool m.y, .slice oa m.es.length oc, .int .i64 m.s.i, .int .i64 m.s.t, .string m.s.c, .string m.s.d] 30)
        rw [e6, HAG.out (.slice oa m.es.length oc) m]
        go_simp
        exact ⟨hz'.1.size, .slice oa m.es.length oc, fun j u hu => hu, o6.below hbx7⟩
      go_simp; refine hK _ ?_; clear hK K
      refine sc_growK _ rfl rfl rfl (fun wz hz' hH => ?_) (fun K hK => ?_)
      · obtain ⟨g7, ov, e7, h3, h4, h5, o6⟩ := hH _ (List.Mem.head _) rfl
        dsimp only at e7
        rw [show (0 + 1 + 1 + 1 + 1 + 1 + 1 + 1 : Nat) = 7 from rfl] at e7
        obtain ⟨oa, oc, rfl⟩ := o6.r.slice
        obtain ⟨i, hi, hi'⟩ := Option.map_eq_some_iff.1 info_msg
        simp only [Prod.mk.injEq] at hi'
        obtain ⟨hz0, hz1, hz2⟩ := hi'
        obtain ⟨v8, w8, hr, hown8, hg8, hk8, hkeep⟩ := run_append_keep (P := Try.prog) 42 42 (b + 1) 30 i _ 13 136 Try.underlying42 hi hz0 hz1 hz2 rfl (by decide) _ ms.length _ hz'.2.row (some ⟨g7, 0, none⟩) 1 1 (vmCells (.slice oa m.es.length oc, m)) rfl (fun _ => ⟨_, rfl, fun j u hu => by rw [Addr.add_lit, Nat.zero_add]; exact h5 j u hu⟩) (by intro u hu; simp [vmCells, msgCells] at hu; rcases hu with rfl | rfl | rfl | rfl | rfl | rfl | rfl | rfl | rfl | rfl | rfl | rfl | rfl <;> rfl) (by unfold maxLen; omega) (by omega) (by have := hN.lt; have := hz'.1.size; omega)
        refine yields_appendM _ _ _ rfl rfl e7 hr ?_
        have hne : ∀ g, (Value.slice oa m.es.length oc).ownBlock = some g → (Value.slice la ms.length lc).ownBlock ≠ some g := fun g h1 h2 => by
          have := (World.ownsRow.lt o6 g h1).1
          have := hown g h2
          have := hbx.size
          omega
        have hpush : MRow w8 (b + 1) v8 (ms ++ [(.slice oa m.es.length oc, m)]) := MRow.push hz'.2 (o6.rebase (by have := hN.lt; omega)) hne hown8 hg8 hk8
        have hI8 : Keeps (Value.slice la ms.length lc).ownBlock.toList w2 w8 := hz'.1.trans (Keeps.of_grown hg8) (fun x hx => .inl hx)
        have hrow8 : MRow w8 (b + 1) (.slice la ms.length lc) ms := ⟨hkeep, fun p hp => hpush.ents p (List.mem_append_left _ hp), hz'.2.apart⟩
        refine ⟨⟨_, hpush, fun g hg => (hk8 g hg).imp id (fun h => Nat.le_trans hz'.1.size h), fun g hg => (World.ownsRow.lt o6 g hg).1⟩, ⟨hI8, hrow8⟩, fun p hp hd hf => ?_⟩
        have hkg := Keeps.of_grown hg8
        have hF : ∀ x ∈ (Value.slice la ms.length lc).ownBlock.toList, x < w2.heap.size := fun x hx => by
          have := hown x (by simpa using hx)
          have := hbx.size
          omega
        rcases List.mem_cons.1 hp with rfl | hp
        · obtain ⟨g7', ov', q1, q2, q3, q4, q5⟩ := hf
          exact ⟨g7', ov', q1, q2, Nat.lt_of_lt_of_le q3 hkg.size, fun j u hu => (hkg.cell (p := ⟨g7', j, none⟩) q3 (fun hx => by have h1 : g7' < w2.heap.size := hF _ hx; omega)).trans (q4 j u hu), q5.keeps hkg hF⟩
        · obtain rfl := List.mem_singleton.1 hp
          obtain ⟨ov', q1, q2⟩ := hf
          exact ⟨ov', q1, q2.keeps hkg hF⟩
      go_simp; refine hK _ ?_; clear hK K
      refine sc_doneK (fun wz hz' hH => ?_)
      obtain ⟨ov, m8, g8⟩ := hH _ (List.Mem.head _) rfl
      dsimp only at m8 g8
      rw [show (0 + 1 + 1 + 1 + 1 + 1 + 1 + 1 + 1 : Nat) = 8 from rfl] at m8 g8
      obtain ⟨na, nc, hv8⟩ := m8.slice
      rw [hv8] at m8 g8 ⊢
      rw [List.length_append, List.length_singleton] at m8 g8 ⊢
      have hbr : b ∉ (Value.slice la ms.length lc).ownBlock.toList := fun hx => by
        have := (World.ownsRow.lt hN.m.row b (by simpa using hx)).1
        omega
      have x0 := (hz'.1.cell (p := ⟨b, 0, none⟩) hN.lt hbr).trans n0
      have xf := (hz'.1.frozen (p := ⟨b, 0, none⟩) hN.lt hbr).trans (hN.fr 0)
      have hlt := Nat.lt_of_lt_of_le hN.lt hz'.1.size
      have hfr : ∀ j, wz.frozen? ⟨b, j, none⟩ = false := fun j => (hz'.1.frozen (p := ⟨b, j, none⟩) hN.lt hbr).trans (hN.fr j)
      have hk1 := fun u => (Keeps.refl [b] wz).setCell (p := ⟨b, 0, none⟩) (.inl (by simp)) u
      have HM8 := Lib.hid m8
      have HG8 := Lib.hid g8
      have HK1 := Lib.hid hk1
      have HFR := Lib.hid hfr
      have HZ := Lib.hid hz'.1
      have HBX := Lib.hid hbx
      have hww := hbx.size
      clear hH m8 g8 hk1 hfr hz' hX hN hE1 hbx
      unfold tailQ
      go_wp2_with fail
      go_meet
      refine ⟨.slice na (ms.length + 1) nc, ms ++ [(ov, m)], ⟨Nat.lt_of_lt_of_le hlt (HK1.out _).size, World.cell?_setCell_same _ _ _ x0, fun j => by rw [World.frozen?_setCell]; exact HFR.out j, HM8.out.keeps (HK1.out _) (by simp)⟩, by simp [vms], ?_, fun g hg => (HG8.out.1 g hg).imp id (fun h => Nat.le_trans hww h), fun p hp => ?_⟩
      · exact (Keeps.mono (F := []) (Keeps.of_below HBX.out) (by simp)).trans (G := b :: (Value.slice la ms.length lc).ownBlock.toList) ((HZ.out.mono (fun x hx _ => List.mem_cons_of_mem _ hx)).trans (HK1.out _) (by simp)) (fun x hx => .inl hx)
      · rcases List.mem_append.1 hp with hp | hp
        · exact .inl hp
        · obtain rfl := List.mem_singleton.1 hp
          exact .inr fun g hg => Nat.le_trans hww (HG8.out.2 g hg)
    case rest =>
      obtain ⟨lv', ms', hN', hv, hk, hg⟩ := hcut
      go_wp2_with fail
      go_ret
      rw [HR.out]
      exact ⟨rfl, lv', ms', hN', hv, hk, hg⟩
end Go.Proofs.Ytcogmohepcifiaa
