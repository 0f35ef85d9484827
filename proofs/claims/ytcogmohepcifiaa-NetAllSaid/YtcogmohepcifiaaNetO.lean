/-
  No claim by itself: how a list of operations on a net is opened. No condition.
-/
import Derived.Test.YtcogmohepcifiaaNet8
import Derived.Test.YtcogmohepcifiaaP13
namespace Go.Proofs.Ytcogmohepcifiaa
open Go.ChangeShapes Go.WideShapes Go.ChangeAt Go.RowKit Go.Deep

/-- An operation as it came in: its kind, its place, the value of its entries, its message. -/
structure OpV where
  k : Int
  i : Int
  ev : Value
  m : Msg
def opCells (o : OpV) : List Value := .int .i64 o.k :: .int .i64 o.i :: vmCells (o.ev, o.m)
def OpV.good (W : World) (o : OpV) : Prop := (-9223372036854775808 ≤ o.k ∧ o.k ≤ 9223372036854775807) ∧ (-9223372036854775808 ≤ o.i ∧ o.i ≤ 9223372036854775807) ∧ EntR W o.ev o.m.es ∧ o.m.wf
section
variable {H : Type} {enc : TypeId × Value → H} {W : World} {base base' : Nat} {r : Reach}
set_option maxRecDepth 100000 in
set_option maxHeartbeats 1000000 in
theorem op_of_trod {n : Nat} {cs : List Value} {x : DataW H × List MemPlace} (h : DataW.trod enc Try.prog W base (fun _ => true) true n 44 cs = some x) (hl : cs.length = 15) :
    ∃ o : OpV, opCells o = cs ∧ o.good W := by
  have k3 : Try.prog.cellsOf 3 = 1 := by kernel_rfl
  have kM : Try.prog.cellsOf 30 = 13 := by kernel_rfl
  match cs, hl with
  | [a0, a1, c0, c1, c2, c3, c4, c5, c6, c7, c8, c9, c10, c11, c12], _ =>
    obtain ⟨xs, n1, -, -, -, hxl, hf⟩ := DataW.trod_struct Try.underlying44 h
    have hx : ∀ i, i < 3 → ∃ y, xs[i]? = some y := fun i hi => ⟨_, List.getElem?_eq_getElem (show i < xs.length by rw [hxl]; exact hi)⟩
    obtain ⟨y0, q0⟩ := hx 0 (by decide)
    have f0 : DataW.trod enc Try.prog W base (fun _ => true) true n1 3 (([a0, a1, c0, c1, c2, c3, c4, c5, c6, c7, c8, c9, c10, c11, c12].drop 0).take (Try.prog.cellsOf 3)) = some y0 := (hf 0 _ rfl).trans q0
    obtain ⟨y1, q1⟩ := hx 1 (by decide)
    have f1 : DataW.trod enc Try.prog W base (fun _ => true) true n1 3 (([a0, a1, c0, c1, c2, c3, c4, c5, c6, c7, c8, c9, c10, c11, c12].drop 1).take (Try.prog.cellsOf 3)) = some y1 := (hf 1 _ rfl).trans q1
    obtain ⟨y2, q2⟩ := hx 2 (by decide)
    have f2 : DataW.trod enc Try.prog W base (fun _ => true) true n1 30 (([a0, a1, c0, c1, c2, c3, c4, c5, c6, c7, c8, c9, c10, c11, c12].drop 2).take (Try.prog.cellsOf 30)) = some y2 := (hf 2 _ rfl).trans q2
    clear hf hx
    simp only [k3, kM, List.drop, List.take] at f0 f1 f2
    obtain ⟨x0, e0, _, w0⟩ := DataW.trod_int Try.underlying3 f0
    obtain ⟨x1, e1, _, w1⟩ := DataW.trod_int Try.underlying3 f1
    obtain ⟨m, ev, hc, hE, hw⟩ := msg_of_trod f2 rfl
    simp only [List.cons.injEq, and_true] at e0 e1
    subst e0 e1
    refine ⟨⟨x0, x1, ev, m⟩, ?_, wf_i64 w0, wf_i64 w1, hE, hw⟩
    unfold opCells vmCells
    rw [← hc]
set_option maxRecDepth 100000 in
theorem open_ops {v : Value} {d : DataW H} {ps : List MemPlace} (hv : Value.okWide Try.prog W r base' 41 v) (h : DataW.Trod enc Try.prog W base (fun _ => true) true 41 v d ps) :
    ∃ ops : List OpV, Recs 15 opCells W v ops ∧ ∀ o ∈ ops, o.good W := by
  obtain ⟨a, n, c, rfl⟩ := okWide_slice Try.underlying41 hv
  obtain ⟨fuel, hf⟩ := h
  exact recs_of_trod opCells (OpV.good W) 15 Try.underlying41 (by kernel_rfl) (by decide) (fun vs hl ⟨_, _, h⟩ => op_of_trod h hl) hf
end
/-- A box that holds an operation. -/
structure OpB (w : World) (b : Nat) (o : OpV) : Prop where
  lt : b < w.heap.size
  c0 : w.cell? ⟨b, 0, none⟩ = some (.int .i64 o.k)
  c1 : w.cell? ⟨b, 1, none⟩ = some (.int .i64 o.i)
  c2 : w.cell? ⟨b, 2, none⟩ = some (.int .i64 o.m.k)
  c3 : w.cell? ⟨b, 3, none⟩ = some (.int .i64 o.m.f)
  c4 : w.cell? ⟨b, 4, none⟩ = some (.int .i64 o.m.o)
  c5 : w.cell? ⟨b, 5, none⟩ = some (.int .i64 o.m.t)
  c6 : w.cell? ⟨b, 6, none⟩ = some (.int .i64 o.m.i)
  c7 : w.cell? ⟨b, 7, none⟩ = some (.int .i64 o.m.l)
  c8 : w.cell? ⟨b, 8, none⟩ = some (.int .i64 o.m.c)
  c9 : w.cell? ⟨b, 9, none⟩ = some (.bool o.m.y)
  c10 : w.cell? ⟨b, 10, none⟩ = some o.ev
  c11 : w.cell? ⟨b, 11, none⟩ = some (.int .i64 o.m.s.i)
  c12 : w.cell? ⟨b, 12, none⟩ = some (.int .i64 o.m.s.t)
  c13 : w.cell? ⟨b, 13, none⟩ = some (.string o.m.s.c)
  c14 : w.cell? ⟨b, 14, none⟩ = some (.string o.m.s.d)
theorem OpB.keeps {w w' : World} {b : Nat} {o : OpV} {F : List Nat} (h : OpB w b o) (hk : Keeps F w w') (hF : b ∉ F) : OpB w' b o := by
  have g : ∀ j, w'.cell? ⟨b, j, none⟩ = w.cell? ⟨b, j, none⟩ := fun j => hk.cell (p := ⟨b, j, none⟩) h.lt hF
  exact ⟨Nat.lt_of_lt_of_le h.lt hk.size, (g 0).trans h.c0, (g 1).trans h.c1, (g 2).trans h.c2, (g 3).trans h.c3, (g 4).trans h.c4, (g 5).trans h.c5, (g 6).trans h.c6, (g 7).trans h.c7, (g 8).trans h.c8, (g 9).trans h.c9, (g 10).trans h.c10, (g 11).trans h.c11, (g 12).trans h.c12, (g 13).trans h.c13, (g 14).trans h.c14⟩
theorem OpB.below {w w' : World} {b : Nat} {o : OpV} (h : OpB w b o) (hb : Below w.heap.size w w') : OpB w' b o := h.keeps (F := []) (Keeps.of_below hb) (by simp)
theorem opB_box (w : World) (o : OpV) (T : TypeId) : OpB (w.alloc (.cells #[.int .i64 o.k, .int .i64 o.i, .int .i64 o.m.k, .int .i64 o.m.f, .int .i64 o.m.o, .int .i64 o.m.t, .int .i64 o.m.i, .int .i64 o.m.l, .int .i64 o.m.c, .bool o.m.y, o.ev, .int .i64 o.m.s.i, .int .i64 o.m.s.t, .string o.m.s.c, .string o.m.s.d] T)) w.heap.size o :=
  ⟨by simp, World.cell?_alloc_new _ _ _ _, World.cell?_alloc_new _ _ _ _, World.cell?_alloc_new _ _ _ _, World.cell?_alloc_new _ _ _ _, World.cell?_alloc_new _ _ _ _, World.cell?_alloc_new _ _ _ _, World.cell?_alloc_new _ _ _ _, World.cell?_alloc_new _ _ _ _, World.cell?_alloc_new _ _ _ _, World.cell?_alloc_new _ _ _ _, World.cell?_alloc_new _ _ _ _, World.cell?_alloc_new _ _ _ _, World.cell?_alloc_new _ _ _ _, World.cell?_alloc_new _ _ _ _, World.cell?_alloc_new _ _ _ _⟩

/-- Where the law stands: a net, its list, a box with a message that it holds, the operation's box. -/
structure Sit (W w : World) (b : Nat) (nv : Value) (ms : List VMsg) (lv : Value) (lm : List VMsg) (X O : Nat) (mv : Value) (M : Msg) (o : OpV) : Prop where
  two : Two w W.heap.size b nv ms lv lm [(mv, M)] [X, O]
  x : MsgS w X mv M
  o : OpB w O o
  bel : Below W.heap.size W w
section
variable {W w w' : World} {b : Nat} {nv nv' lv lv' : Value} {ms ms' lm lm' : List VMsg} {X O : Nat} {mv : Value} {M : Msg} {o : OpV}
theorem Sit.below (S : Sit W w b nv ms lv lm X O mv M o) (hb : Below w.heap.size w w') : Sit W w' b nv ms lv lm X O mv M o :=
  ⟨S.two.below hb, S.x.below hb, S.o.below hb, S.bel.trans (hb.mono S.bel.size)⟩
theorem Sit.ent (S : Sit W w b nv ms lv lm X O mv M o) : EntO w W.heap.size mv M.es := S.two.ents (mv, M) (by simp)
theorem Sit.netTo (S : Sit W w b nv ms lv lm X O mv M o) (hN : NetS w' b nv' ms') (hk : Keeps (b :: nv.ownBlock.toList) w w') (hg : ∀ g, nv'.ownBlock = some g → nv.ownBlock = some g ∨ w.heap.size ≤ g) (hm : ∀ p ∈ ms', p ∈ ms ∨ ∀ g, p.1.ownBlock = some g → w.heap.size ≤ g) : Sit W w' b nv' ms' lv lm X O mv M o :=
  ⟨S.two.netTo hN hk hg hm, S.x.keeps hk (S.two.apartNet (by simp)), S.o.keeps hk (S.two.apartNet (by simp)), S.bel.trans (hk.below (B := W.heap.size) S.two.netBase S.bel.size)⟩
theorem Sit.lTo (S : Sit W w b nv ms lv lm X O mv M o) (hL : LOwn w' W.heap.size lv' lm') (hk : Keeps lv.ownBlock.toList w w') (hg : ∀ g, lv'.ownBlock = some g → lv.ownBlock = some g ∨ w.heap.size ≤ g) (hm : ∀ p ∈ lm', p ∈ lm ++ [(mv, M)]) : Sit W w' b nv ms lv' lm' X O mv M o :=
  ⟨S.two.lTo hL hk hg hm, S.x.keeps hk (S.two.apartL (by simp)), S.o.keeps hk (S.two.apartL (by simp)), S.bel.trans (hk.below (B := W.heap.size) S.two.lBase S.bel.size)⟩
theorem Sit.send (S : Sit W w b nv ms lv lm X O mv M o) (hlen : ms.length < 400) {e : Ending} (h : RetSend w b nv ms M e w') :
    e = .returned (.bool (mayM M)) ∧ ∃ nv' ms', Sit W w' b nv' ms' lv lm X O mv M o ∧ vms ms' = sentM (mayM M) (vms ms) M := by
  obtain ⟨he, nv', ms', hN, hv, hk, hg, hm⟩ := h
  have hs : sendB ms M = mayM M := by unfold sendB; rw [decide_eq_true hlen, Bool.and_true]
  rw [hs] at he hv
  exact ⟨he, nv', ms', S.netTo hN hk hg hm, hv⟩
theorem Sit.apSend (S : Sit W w b nv ms lv lm X O mv M o) : ∀ g off n c, mv = .slice (some ⟨g, off, none⟩) n c → nv.ownBlock ≠ some g := by
  intro g off n c hv e
  have hE := S.ent
  rcases hE.2 with ⟨h, _⟩ | ⟨g', cap, cur, h, _⟩
  · rw [hv] at h
    cases h
  · rw [hv] at h
    simp only [Value.slice.injEq, Option.some.injEq, Addr.mk.injEq, and_true] at h
    obtain ⟨⟨rfl, rfl⟩, -⟩ := h
    exact (S.two.sep g (.inr (.inl e))).2.1 (mv, M) (by simp) (by rw [hv]; rfl)
/-- The list behind 'append(l, m)'. -/
theorem Sit.pushM (S : Sit W w b nv ms lv lm X O mv M o) (hl : lm.length ≤ 1000) (T : TypeId) (hT : T = 30) : ∃ lv' w',
    (Builtin.append_ #[42, 42] 42 #[lv, .slice (some ⟨w.heap.size, 0, none⟩) 1 1]).run Try.prog (w.alloc (.cells #[.int .i64 M.k, .int .i64 M.f, .int .i64 M.o, .int .i64 M.t, .int .i64 M.i, .int .i64 M.l, .int .i64 M.c, .bool M.y, mv, .int .i64 M.s.i, .int .i64 M.s.t, .string M.s.c, .string M.s.d] T)) = .ok lv' w' ∧ Sit W w' b nv ms lv' (lm ++ [(mv, M)]) X O mv M o := by
  subst hT
  have hb := (Below.refl w.heap.size w).alloc (Nat.le_refl _) (.cells #[.int .i64 M.k, .int .i64 M.f, .int .i64 M.o, .int .i64 M.t, .int .i64 M.i, .int .i64 M.l, .int .i64 M.c, .bool M.y, mv, .int .i64 M.s.i, .int .i64 M.s.t, .string M.s.c, .string M.s.d] 30)
  have S1 := S.below hb
  obtain ⟨lv', w', hr, hL, hk, hg⟩ := S1.two.l.append (some ⟨w.heap.size, 0, none⟩) 1 [(mv, M)] (fun _ => ⟨_, rfl, fun j u hu => by
    rw [Addr.add_lit, Nat.zero_add, World.cell?_alloc_new]
    simpa [vmCells, msgCells] using hu⟩) (fun p hp => by
    rw [List.mem_singleton.1 hp]
    exact S.ent.oneCell) (by simp; omega) (Nat.le_trans (Nat.le_of_lt (Nat.lt_of_le_of_lt S.two.bb S.two.net.lt)) hb.size)
  exact ⟨lv', w', hr, S1.lTo hL hk hg (fun p hp => hp)⟩
/-- The list behind 'append(l[:i:i], l[i+1:]...)'. -/
theorem Sit.erase {a : Option Addr} {n cap : Nat} (S : Sit W w b nv ms (.slice a n cap) lm X O mv M o) (hl : lm.length ≤ 1000) (k : Nat) (hk : k < lm.length) : ∃ g, a = some ⟨g, 0, none⟩ ∧ n = lm.length ∧ lm.length ≤ cap ∧ cap ≤ 9223372036854775807 ∧ ∀ u, Below w.heap.size w u → ∃ lv' w',
    (Builtin.append_ #[42, 42] 42 #[.slice (some ⟨g, 0, none⟩) k k, .slice (if cap = k + 1 then some (⟨g, 0, none⟩ : Addr) else some ⟨g, (k + 1) * 13, none⟩) (lm.length - (k + 1)) (cap - (k + 1))]).run Try.prog u = .ok lv' w' ∧ Sit W w' b nv ms lv' (lm.eraseIdx k) X O mv M o := by
  obtain ⟨g, rfl, rfl, hgb, hgl, hcap, hcm, hcc⟩ := S.two.l.cells k hk
  refine ⟨g, rfl, rfl, hcap, hcm, fun u hu => ?_⟩
  have S1 := S.below hu
  have hall := S1.two.l.all
  have hp := S1.two.l.front k (Nat.le_of_lt hk)
  have htl : (lm.take k).length = k := by rw [List.length_take]; omega
  have hdl : (lm.drop (k + 1)).length = lm.length - (k + 1) := List.length_drop
  obtain ⟨lv', w', hr, hL, hkk, hg⟩ := hp.append (if cap = k + 1 then some (⟨g, 0, none⟩ : Addr) else some ⟨g, (k + 1) * 13, none⟩) (cap - (k + 1)) (lm.drop (k + 1)) (fun hne => by
    have : lm.length ≠ k + 1 := fun e => hne (List.eq_nil_of_length_eq_zero (by rw [hdl]; omega))
    refine ⟨⟨g, (k + 1) * 13, none⟩, by rw [if_neg (by omega)], fun j x hx => ?_⟩
    rw [Addr.add_lit]
    refine hall.2.2.2 _ _ ?_
    have e2 : ((lm.take (k + 1)).flatMap vmCells).length = (k + 1) * 13 := by rw [vmFlat_len, List.length_take, Nat.min_eq_left (by omega)]
    conv => lhs; rw [← List.take_append_drop (k + 1) lm, List.flatMap_append]
    rw [List.getElem?_append_right (by omega), e2, Nat.add_sub_cancel_left]
    exact hx) (fun p hp => (S1.two.ents p (List.mem_append_left _ (List.mem_of_mem_drop hp))).oneCell) (by rw [htl, hdl]; omega) (Nat.le_of_lt (Nat.lt_of_le_of_lt S1.two.bb S1.two.net.lt))
  rw [hdl] at hr
  refine ⟨lv', w', hr, ?_⟩
  rw [List.eraseIdx_eq_take_drop_succ]
  refine S1.lTo (by exact hL) ?_ ?_ (fun p hp => ?_)
  · exact hkk
  · exact hg
  · rcases List.mem_append.1 hp with hp | hp
    · exact List.mem_append_left _ (List.mem_of_mem_take hp)
    · exact List.mem_append_left _ (List.mem_of_mem_drop hp)
end

theorem Sit.lNew' {W w w' : World} {b : Nat} {nv lv lv' : Value} {ms lm lm' : List VMsg} {X O : Nat} {mv : Value} {M : Msg} {o : OpV} (S : Sit W w b nv ms lv lm X O mv M o) (hb : Below w.heap.size w w') (hL : LOwn w' w.heap.size lv' lm') (hm : ∀ p ∈ lm', p ∈ lm) : Sit W w' b nv ms lv' lm' X O mv M o :=
  have S' := S.below hb
  ⟨S.two.lNew' hb (hL.rebase (Nat.le_of_lt (Nat.lt_of_le_of_lt S.two.bb S.two.net.lt))) hm (fun g e => (hL.lt g e).1), S'.x, S'.o, S'.bel⟩
/-- Another list behind 'append(k, m)'. -/
theorem LOwn.pushM {w : World} {base : Nat} {kv : Value} {ks : List VMsg} (h : LOwn w base kv ks) (hl : ks.length ≤ 1000) (hbase : base ≤ w.heap.size) (mv : Value) (M : Msg) (h1 : mv.oneCell' = true) : ∃ lv' w',
    (Builtin.append_ #[42, 42] 42 #[kv, .slice (some ⟨w.heap.size, 0, none⟩) 1 1]).run Try.prog (w.alloc (.cells #[.int .i64 M.k, .int .i64 M.f, .int .i64 M.o, .int .i64 M.t, .int .i64 M.i, .int .i64 M.l, .int .i64 M.c, .bool M.y, mv, .int .i64 M.s.i, .int .i64 M.s.t, .string M.s.c, .string M.s.d] 30)) = .ok lv' w' ∧ LOwn w' base lv' (ks ++ [(mv, M)]) ∧ Below base w w' := by
  have hb := (Below.refl w.heap.size w).alloc (Nat.le_refl _) (.cells #[.int .i64 M.k, .int .i64 M.f, .int .i64 M.o, .int .i64 M.t, .int .i64 M.i, .int .i64 M.l, .int .i64 M.c, .bool M.y, mv, .int .i64 M.s.i, .int .i64 M.s.t, .string M.s.c, .string M.s.d] 30)
  obtain ⟨lv', w', hr, hL, hk, hg⟩ := (h.below hb).append (some ⟨w.heap.size, 0, none⟩) 1 [(mv, M)] (fun _ => ⟨_, rfl, fun j u hu => by
    rw [Addr.add_lit, Nat.zero_add, World.cell?_alloc_new]
    simpa [vmCells, msgCells] using hu⟩) (fun p hp => by
    rw [List.mem_singleton.1 hp]
    exact h1) (by simp; omega) (Nat.le_trans hbase hb.size)
  exact ⟨lv', w', hr, hL, (hb.mono hbase).trans (hk.below (B := base) (fun x hx => (h.lt x (by simpa using hx)).1) (Nat.le_trans hbase hb.size))⟩
/-- One operation whose run is known. -/
theorem wpList_val {P : Program} {w w' : World} {ops : Array Oper} {rest : List Oper} {o : Oper} {a : Act} {Q : Exit → Act → World → Prop} (hgd : o.guard = none) {v : Value} (hr : (execOp a.eval o).run P w = .ok (.value v) w') (h : wpList P ops Q rest (a.put o.dst v) w') : wpList P ops Q (o :: rest) a w := by
  refine wpList_plain hgd fun K hK => ?_
  unfold Oper.wp
  rw [hr]
  exact hK _ _ h
theorem wpList_valK {P : Program} {w w' : World} {ops : Array Oper} {rest : List Oper} {o : Oper} {a : Act} {Q : Exit → Act → World → Prop} (hgd : o.guard = none) {v : Value} (hr : (execOp a.eval o).run P w = .ok (.value v) w') (h : ∀ K : Act → World → Prop, (∀ a w, wpList P ops Q rest a w → K a w) → K (a.put o.dst v) w') : wpList P ops Q (o :: rest) a w :=
  wpList_val hgd hr (h _ fun _ _ h => h)
set_option maxRecDepth 100000 in
theorem op_build_msg {a : Act} {o : Oper} (u : World) (x : Operand) (v : Value) (M : Msg) (ho : o.op = .buildSlice 42 1 #[(0, x)]) (hx : a.eval x = msgAgg v M) : (execOp a.eval o).run Try.prog u = .ok (.value (.slice (some ⟨u.heap.size, 0, none⟩) 1 1)) (u.alloc (.cells #[.int .i64 M.k, .int .i64 M.f, .int .i64 M.o, .int .i64 M.t, .int .i64 M.i, .int .i64 M.l, .int .i64 M.c, .bool M.y, v, .int .i64 M.s.i, .int .i64 M.s.t, .string M.s.c, .string M.s.d] 30)) := by
  unfold execOp
  rw [ho]
  dsimp only
  simp only [List.map_toArray, List.map_cons, List.map_nil, hx]
  unfold msgAgg
  go_simp
set_option maxRecDepth 100000 in
theorem op_load_msg {a : Act} {o : Oper} {u : World} {X : Nat} {v : Value} {M : Msg} (hq : MsgS u X v M) (x : Operand) (ho : o.op = .load 30 x) (hx : a.eval x = .pointer (some ⟨X, 0, none⟩)) : (execOp a.eval o).run Try.prog u = .ok (.value (msgAgg v M)) u := by
  have y0 := hq.c0
  have y1 := hq.c1
  have y2 := hq.c2
  have y3 := hq.c3
  have y4 := hq.c4
  have y5 := hq.c5
  have y6 := hq.c6
  have y7 := hq.c7
  have y8 := hq.c8
  have y9 := hq.c9
  have y10 := hq.c10
  have y11 := hq.c11
  have y12 := hq.c12
  unfold execOp
  rw [ho]
  dsimp only
  rw [hx]
  unfold msgAgg
  go_simp
set_option maxRecDepth 100000 in
theorem op_load_row {a : Act} {o : Oper} {u : World} {g k : Nat} {v : Value} {M : Msg} (h : ∀ i c, (vmCells (v, M))[i]? = some c → u.cell? ⟨g, k + i, none⟩ = some c) (x : Operand) (ho : o.op = .load 30 x) (hx : a.eval x = .pointer (some ⟨g, k, none⟩)) : (execOp a.eval o).run Try.prog u = .ok (.value (msgAgg v M)) u := by
  have r0 := h 0 _ rfl
  have r1 := h 1 _ rfl
  have r2 := h 2 _ rfl
  have r3 := h 3 _ rfl
  have r4 := h 4 _ rfl
  have r5 := h 5 _ rfl
  have r6 := h 6 _ rfl
  have r7 := h 7 _ rfl
  have r8 := h 8 _ rfl
  have r9 := h 9 _ rfl
  have r10 := h 10 _ rfl
  have r11 := h 11 _ rfl
  have r12 := h 12 _ rfl
  dsimp only at r0 r1 r2 r3 r4 r5 r6 r7 r8 r9 r10 r11 r12
  rw [Nat.add_zero] at r0
  unfold execOp
  rw [ho]
  dsimp only
  rw [hx]
  unfold msgAgg
  go_simp
end Go.Proofs.Ytcogmohepcifiaa
