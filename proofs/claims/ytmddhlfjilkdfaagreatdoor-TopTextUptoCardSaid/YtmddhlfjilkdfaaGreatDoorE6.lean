/-
  No claim by itself: the evaluator: maps.Copy, slices.Sorted. | the evaluator: functions with an answer for symbols. | the evaluator: functions with an answer for symbols are sound. | the words in which the contracts of this seat are stated (a slice that reads as bytes; one that the call owns), and the laws on them. | plain facts on numbers as bytes, with no program in sight. | the contracts of num.Put, num.Get, num.PutText, num.GetText, num.Four, of the document's Put, Get, PutText, GetText, and of Cut: each answers what the plain function answers. Conditions: the slice reads as bytes; what is written to is the call's own. | the contracts of num.Get and of the document's Get. Condition: the slice reads as bytes. | the contracts of num.PutText, num.GetText, num.Four, of the document's Put, PutText, GetText, and of Cut. Conditions: the slice reads as bytes; what is written to is the call's own. | num.Put, num.PutText onto bytes of whatever content. Conditions: few bytes. | plain facts on the sum of bytes (a polynomial's remainder), with no program in sight. | the contracts of crc.More, crc.Sum, of the document's Sum and of Short: each answers what the plain function answers and turns nothing. Condition: the slice reads as bytes. No condition.
-/
import Derived.Test.YtmddhlfjilkdfaaGreatDoorE5
import Derived.Test.YtmddhlfjilkdfaaGreatDoorProg
import Derived.Shelf.SlIter.Collect
import Derived.Sort.EveryDepth
import Derived.Maps.RangeRun
import Derived.KernelRfl
import Derived.WalkKit
import Derived.Test.YtmddhlfjilkdfaaGreatDoorE4
import Derived.Handy
import Derived.Laws.BitsAllLaws
import Derived.Laws.AppendOwnNone
import Derived.Laws.CopyOwn
import Derived.Lib.Hide
import Derived.BigQuiet
import Derived.Deep.QuietTactic
import Derived.ShutString
import Derived.Lib.SlBytesConst
import Derived.Lib.AppendStr
import Derived.Test.YtmddhlfjilkdfaaGreatDoorRows
import Derived.Deep.DeepCutAuto
import Derived.Deep.Cut
import Derived.Laws.ShiftsVar
import Derived.Laws.DeepNot64
import Derived.WalkSmall
import Derived.Test.YtmddhlfjilkdfaaGreatDoorE3
namespace Go.Proofs.YtmddhlfjilkdfaaGreatDoor
set_option linter.unusedVariables false
set_option linter.unusedSimpArgs false
open Go.RowKit Go.Maps Go.Sort Go.Shelf
open Go.ChangeMaps (setBlock)

theorem wpList_mapUpdate_run {P : Program} {w w' : World} {ops : Array Oper} {rest : List Oper} {o : Oper} {a : Act} {Q : Exit → Act → World → Prop} (hg : o.guard = none) (m x v : Operand) (t : TypeId) (hop : o.op = Op.mapUpdate t m x v)
    (hrun : (Instr.mapUpdate t (a.eval m) (a.eval x) (a.eval v)).run P w = .ok () w') (hK : wpList P ops Q rest (a.put o.dst undef) w') : wpList P ops Q (o :: rest) a w := by
  refine wpList_plain hg fun K' hK' => ?_
  unfold Oper.wp
  simp [execOp, hop, hrun, Result.andThen]
  exact hK' _ _ hK
theorem Q.eq_self (q : Q) : Q.eq q q = true := by induction q with | e => rfl | _ q ih => exact ih
theorem leftOf_none (m : MapEntry) : leftOf #[m] #[m.born] = #[] := by simp [leftOf]
theorem next_over {P : Program} (w : World) (ty : TypeId) (r bm since c0 : Nat) (seen : Array Nat) (es : Array MapEntry) (clock : Nat) (hr : w.heap[r]? = some (.mapIter (some bm) since seen c0)) (hb : w.heap[bm]? = some (.map es clock)) (hold : ∀ x ∈ es.toList, x.born < since) (hsc : since ≤ c0) (hl : leftOf es seen = #[]) :
    (Instr.next (.pointer (some ⟨r, 0, none⟩)) false ty).run P w = .ok (.tuple #[.bool false]) w := by
  rcases run_next_at (P := P) w ty r bm since c0 seen es clock hr hb hold hsc with ⟨_, h⟩ | ⟨e, he, _⟩
  · exact h
  · rw [hl] at he; simp at he
theorem setBlock_heap (w : World) (r : Nat) (o : Obj) : (setBlock w r o).heap = w.heap.setIfInBounds r o := rfl

set_option maxRecDepth 100000 in
set_option maxHeartbeats 4000000 in
theorem cpF_sound : SoundF Tryz.prog 68 cpF := by
  refine ⟨enter_run (fn := Tryz.f68) (by kernel_rfl) (by kernel_rfl) (by kernel_rfl), cpF_det, fun ρ h w B args vals k E ha hk => ?_⟩
  obtain ⟨dm, s, rfl⟩ : ∃ dm s, args = [dm, s] := by
    match args, hk with
    | [], hk => cases hk
    | [_], hk => cases hk
    | _ :: _ :: _ :: _, hk => cases hk
    | [dm, s], _ => exact ⟨dm, s, rfl⟩
  obtain ⟨qd, rfl, hk1⟩ := AV.on_m_spec (show dm.on_m _ = true from hk)
  obtain ⟨q, rfl, hk2⟩ := AV.on_m_spec hk1
  rw [HT.getR_eq] at hk2
  obtain ⟨es, hg, hk3⟩ := OB.onM_spec hk2
  clear hk hk1 hk2
  obtain ⟨fs, c, hb, hr, hborn⟩ := E.map q es hg
  have hlt : (ρ q).blk < w.heap.size := (Array.getElem?_eq_some_iff.1 hb).1
  have hrg := run_range_map (P := Tryz.prog) w 75 9 74 (ρ q).blk fs c (by kernel_rfl) hb
  cases ha with
  | cons _ dv _ _ hd t =>
    cases t with
    | cons _ sv _ _ hs t2 =>
      cases t2
      cases hd
      cases hs
      match es, hr, hk3 with
      | [], hr, hk4 =>
        obtain rfl : fs = #[] := by cases hf : fs.toList with
          | nil => exact Array.toList_eq_nil_iff.1 hf
          | cons _ _ => rw [hf] at hr; cases hr
        have hnx : ∀ ty, (Instr.next (.pointer (some ⟨w.heap.size, 0, none⟩)) false ty).run Tryz.prog (w.alloc (.mapIter (some (ρ q).blk) c #[] c)) = .ok (.tuple #[.bool false]) (w.alloc (.mapIter (some (ρ q).blk) c #[] c)) := fun ty =>
          next_over _ ty _ _ _ _ _ _ _ (heap_alloc_new w _) ((heap_alloc_old w _ hlt).trans hb) (fun x hx => by simp at hx) (Nat.le_refl _) rfl
        have fin : Left Tryz.prog ρ h w B k (.returned (.tuple #[])) (w.alloc (.mapIter (some (ρ q).blk) c #[] c)) := by
          obtain ⟨E', s'⟩ := E.below ((Below.refl _ w).alloc (Nat.le_refl _) (.mapIter (some (ρ q).blk) c #[] c))
          exact ⟨ρ, h, .t [], E', s', .t [] [] .nil, hk4⟩
        clear hk4 E hg hr hborn
        go_enter Tryz.func68, Tryz.ntmps68
        go_wp2
        refine wp_loop_rounds 1 ?_
        rw [rounds_succ]
        go_wp2
        go_end0
        exact fin
      | [(x, z)], hr, hk4 =>
        obtain ⟨z0, rfl, hne, hk5⟩ : ∃ z0, z = .a [z0] ∧ nb (Q.eq qd q) = true ∧ (muD true (.m qd) x z h fun h' => k (.t []) h') = true := by
          obtain ⟨cs, rfl, hk5⟩ := AV.on_a_spec (show z.on_a _ = true from hk4)
          match cs, hk5 with
          | [], hk5 => cases hk5
          | _ :: _ :: _, hk5 => cases hk5
          | [z0], hk5 =>
            obtain ⟨a1, a2⟩ := ifT_spec hk5
            exact ⟨z0, rfl, a1, a2⟩
        clear hk4
        obtain ⟨m, rfl, hx, hz⟩ : ∃ m : MapEntry, fs = #[m] ∧ Rel ρ h.nx.num x m.key ∧ Rel ρ h.nx.num (.a [z0]) m.val := by
          cases hf : fs.toList with
          | nil => rw [hf] at hr; cases hr
          | cons m l =>
            rw [hf] at hr
            cases hr with
            | cons _ _ _ _ _ h1 h2 h3 =>
              cases h3
              exact ⟨m, Array.toList_inj.1 hf, h1, h2⟩
        obtain ⟨v0, hv0, hv1⟩ : ∃ v0, m.val = .agg #[v0] ∧ v0.oneCell' = true := by
          generalize m.val = mv at hz
          cases hz with
          | a _ vs h1 h2 =>
            cases h1 with
            | cons _ v _ _ _ h3 =>
              cases h3
              exact ⟨v, rfl, h2 v (by simp)⟩
        have hqd : h.live qd := by
          have hk6 : ((HT.getR qd h.t).onM fun es => muK true x (.a [z0]) es fun es' => HT.setK (.mp es') qd h.t fun t' => k (.t []) (.mk t' h.nx)) = true := hk5
          rw [HT.getR_eq] at hk6
          obtain ⟨es, hg', _⟩ := OB.onM_spec hk6
          rw [Hp.live, hg']
          simp
        have hbne : (ρ qd).blk ≠ (ρ q).blk := fun e => by
          have := E.inj qd q hqd (by rw [Hp.live, hg]; simp) e
          rw [this, Q.eq_self] at hne
          cases hne
        have hdlt : (ρ qd).blk < w.heap.size := by
          have hk6 : ((HT.getR qd h.t).onM fun es => muK true x (.a [z0]) es fun es' => HT.setK (.mp es') qd h.t fun t' => k (.t []) (.mk t' h.nx)) = true := hk5
          rw [HT.getR_eq] at hk6
          obtain ⟨es, hg', _⟩ := OB.onM_spec hk6
          obtain ⟨_, _, hb', _⟩ := E.map qd es hg'
          exact (Array.getElem?_eq_some_iff.1 hb').1
        have hmb : m.born < c := hborn m (by simp)
        have mu : ∀ W, Below w.heap.size w W → ∃ W2 o, (Instr.mapUpdate 75 (.map (some (ρ qd).blk)) m.key (.agg #[v0])).run Tryz.prog W = .ok () W2 ∧ W2.heap = W.heap.setIfInBounds (ρ qd).blk o ∧ Left Tryz.prog ρ h w B k (.returned (.tuple #[])) W2 := fun W hW => by
          obtain ⟨E', s'⟩ := E.below hW
          obtain ⟨fs', c', h', h1, h2, h3, h4⟩ := muD_run (kt := 9) (et := 74) E' (t := 75) (by kernel_rfl) (by kernel_rfl) hx (hv0 ▸ hz) hk5
          exact ⟨_, _, h1, rfl, ρ, h', .t [], h2, s'.trans h3, .t [] [] .nil, h4⟩
        obtain ⟨wA, hnx1, hAr, hAb, hBA, hsA⟩ : ∃ wA : World, (∀ ty, (Instr.next (.pointer (some ⟨w.heap.size, 0, none⟩)) false ty).run Tryz.prog (w.alloc (.mapIter (some (ρ q).blk) c #[] c)) = .ok (.tuple #[.bool true, m.key, .agg #[v0]]) wA) ∧
            wA.heap[w.heap.size]? = some (.mapIter (some (ρ q).blk) c #[m.born] c) ∧ wA.heap[(ρ q).blk]? = some (.map #[m] c) ∧ Below w.heap.size w wA ∧ w.heap.size < wA.heap.size := by
          have hrun : ∀ ty, (Instr.next (.pointer (some ⟨w.heap.size, 0, none⟩)) false ty).run Tryz.prog (w.alloc (.mapIter (some (ρ q).blk) c #[] c)) = .ok (.tuple #[.bool true, m.key, .agg #[v0]]) (setBlock (w.alloc (.mapIter (some (ρ q).blk) c #[] c)) w.heap.size (.mapIter (some (ρ q).blk) c #[m.born] c)) := fun ty => by
            have g1 : (getObj w.heap.size).run Tryz.prog (w.alloc (.mapIter (some (ρ q).blk) c #[] c)) = .ok (.mapIter (some (ρ q).blk) c #[] c) (w.alloc (.mapIter (some (ρ q).blk) c #[] c)) := run_getObj' (heap_alloc_new w _) (by intro _ _ _ e; cases e)
            have g2 : (getObj (ρ q).blk).run Tryz.prog (w.alloc (.mapIter (some (ρ q).blk) c #[] c)) = .ok (.map #[m] c) (w.alloc (.mapIter (some (ρ q).blk) c #[] c)) := run_getObj' ((heap_alloc_old w _ hlt).trans hb) (by intro _ _ _ e; cases e)
            have g3 : (choose (Question.mapNext 1)).run Tryz.prog (w.alloc (.mapIter (some (ρ q).blk) c #[] c)) = .ok 0 (w.alloc (.mapIter (some (ρ q).blk) c #[] c)) := by simp [choose, Sem.run, Question.forced]
            have g4 : (setObj w.heap.size (.mapIter (some (ρ q).blk) c #[m.born] c)).run Tryz.prog (w.alloc (.mapIter (some (ρ q).blk) c #[] c)) = .ok () (setBlock (w.alloc (.mapIter (some (ρ q).blk) c #[] c)) w.heap.size (.mapIter (some (ρ q).blk) c #[m.born] c)) := run_setObj_at (heap_alloc_new w _) _
            simp only [Instr.next, Sem.run_bind, g1, g2, Result.andThen]
            have hnl : ¬ c ≤ m.born := by omega
            simp [hnl, hmb, hv0, g4, Result.andThen, Question.forced]
          refine ⟨_, hrun, ?_, ?_, ?_, ?_⟩
          · rw [setBlock_heap, Array.getElem?_setIfInBounds_self_of_lt (by simp)]
          · rw [setBlock_heap, Array.getElem?_setIfInBounds_ne (by omega)]
            exact (heap_alloc_old w _ hlt).trans hb
          · refine ⟨rfl, rfl, rfl, by rw [setBlock_heap]; simp, fun j hj => ?_⟩
            rw [setBlock_heap, Array.getElem?_setIfInBounds_ne (by omega)]
            exact heap_alloc_old w _ hj
          · rw [setBlock_heap]; simp
        have hen : (Instr.entry (.pointer (some ⟨w.heap.size, 0, none⟩))).run Tryz.prog wA = .ok (.tuple #[m.key, .agg #[v0]]) wA := hv0 ▸ run_entry_at wA w.heap.size (ρ q).blk c #[] #[m] c m hAr hAb (by simp) (by simp)
        have hst : (store ⟨wA.heap.size, 0, none⟩ v0).run Tryz.prog (wA.alloc (.cells #[.nilIface] 74)) = .ok () ((wA.alloc (.cells #[.nilIface] 74)).setCell ⟨wA.heap.size, 0, none⟩ v0) := by
          rw [run_store _ _ _ _ _ hv1]
          simp
        obtain ⟨W2, o2, hmu, hW2, fin⟩ := mu (wA.alloc (.cells #[v0] 74)) (hBA.alloc (by omega) _)
        clear mu
        have hheap : ∀ j, j < wA.heap.size → j ≠ (ρ qd).blk → W2.heap[j]? = wA.heap[j]? := fun j hj hne => by
          rw [hW2, Array.getElem?_setIfInBounds_ne (Ne.symm hne), Below.heap_alloc _ _ _ hj]
        have hnx2 : ∀ ty, (Instr.next (.pointer (some ⟨w.heap.size, 0, none⟩)) false ty).run Tryz.prog W2 = .ok (.tuple #[.bool false]) W2 := fun ty =>
          next_over W2 ty _ _ _ _ _ _ _ ((hheap _ hsA (by omega)).trans hAr) ((hheap _ (by omega) (Ne.symm hbne)).trans hAb) (fun x hx => by simp at hx; subst hx; exact hmb) (Nat.le_refl _) (leftOf_none m)
        clear hheap hW2
        clear hk5 hg hr hborn hb hne hqd E hx hz hk3
        go_enter Tryz.func68, Tryz.ntmps68
        go_wp2
        refine wp_loop_rounds 2 ?_
        rw [rounds_succ]
        go_wp2_with fail
        rw [rounds_succ]
        go_wp2_with fail
        go_end0
        exact fin

/-! slices.Sorted of maps.Keys of a map that holds nothing. -/
set_option maxRecDepth 100000 in
set_option maxHeartbeats 1000000 in
theorem keys1_none (F : Fence) (n : Nat) (h10 : F.fn 135) (hro : F.round = none) (l : Nat) (p : Addr) (b c : Nat) (J : List (List UInt8) → World → Prop) (W : World) (hJ : AbidesFrom W.heap.size J)
    (hm : W.cell? p = some (.map (some b))) (hb : W.heap[b]? = some (.map #[] c)) (h0 : J [] W) :
    CallsIn F n Tryz.prog 135 #[.func (.yield l) #[] #[], .pointer (some p)] W fun e W' => (∃ v, e = .returned v) ∧ ∃ ss : List (List UInt8), ss = [] ∧ J ss W' := by
  refine callsIn_of_wp Tryz.func135 rfl h10 ?_ hro
  simp only [Tryz.ntmps135, List.size_toArray, List.length_cons, List.length_nil, Nat.reduceAdd, Nat.reduceSub, Array.replicate_succ, Array.replicate_zero, List.push_toArray, List.append_toArray, List.nil_append, List.cons_append]
  have hlt : b < W.heap.size := (Array.getElem?_eq_some_iff.1 hb).1
  have hrg := run_range_map (P := Tryz.prog) W 109 9 173 b #[] c (by kernel_rfl) hb
  have hnx : ∀ ty, (Instr.next (.pointer (some ⟨W.heap.size, 0, none⟩)) false ty).run Tryz.prog (W.alloc (.mapIter (some b) c #[] c)) = .ok (.tuple #[.bool false]) (W.alloc (.mapIter (some b) c #[] c)) := fun ty =>
    next_over _ ty _ _ _ _ _ _ _ (heap_alloc_new W _) ((heap_alloc_old W _ hlt).trans hb) (fun x hx => by simp at hx) (Nat.le_refl _) rfl
  gi_wp2
  refine wpIn_loop_rounds 1 ?_
  rw [roundsIn_succ]
  gi_wp2
  go_end0
  exact ⟨⟨_, rfl⟩, [], rfl, hJ [] W _ none h0 (World.grownBy_alloc W _ none) (fun r e => by cases e)⟩
def rn : Ren := ⟨fun f => match f with | 8 => 133 | 11 => 166 | _ => 135,
  fun t => match t with | 0 => 0 | 4 => 4 | 24 => 116 | 26 => 9 | 28 => 171 | _ => 25, fun _ => 0⟩
set_option maxRecDepth 100000 in
theorem collL : SlLaysZ.n8 Tryz.prog rn where
  mixed := by kernel_rfl
  f8 := ⟨ "slices.Collect[string]", by decide, by kernel_rfl⟩
  f11 := ⟨ "slices.AppendSeq[[]string,string]", by decide, by kernel_rfl⟩
  t0 := by kernel_rfl
  a0 := fun _ => by kernel_rfl
  z0 := fun _ => by kernel_rfl
  v0 := fun _ => by kernel_rfl
  t24 := by kernel_rfl
  a24 := fun _ => by kernel_rfl
  z24 := fun _ => by kernel_rfl
  v24 := fun _ => by kernel_rfl
  t26 := by kernel_rfl
  a26 := fun _ => by kernel_rfl
  z26 := fun _ => by kernel_rfl
  v26 := fun _ => by kernel_rfl
  t28 := by kernel_rfl
  a28 := fun _ => by kernel_rfl
  z28 := fun _ => by kernel_rfl
  v28 := fun _ => by kernel_rfl
  i26 := by kernel_rfl
set_option maxRecDepth 100000 in
theorem collect_none (p : Addr) (b c : Nat) (w : World) (hm : w.cell? p = some (.map (some b))) (hb : w.heap[b]? = some (.map #[] c)) (hp : p.block < w.heap.size) :
    Calls Tryz.prog 133 #[.func (.func 135) #[] #[.pointer (some p)]] w fun e w' => e = .returned (.slice none 0 0) ∧ Below w.heap.size w w' := by
  refine calls_of_every_depth (L := [133, 166, 135]) (n := 4) fun D => ?_
  have hlt : b < w.heap.size := (Array.getElem?_eq_some_iff.1 hb).1
  have key := AnyZ.collect_in (ρ := rn) collL (Fence.list [133, 166, 135] (some D)) 4 (by simp [Fence.list, rn]) (by simp [Fence.list, rn]) rfl (by decide)
    135 #[.pointer (some p)] (by simp [Fence.list]) (enter_run (fn := Tryz.f135) (by kernel_rfl) (by kernel_rfl) (by kernel_rfl)) (fun ss => ss = []) 0 (by decide) (by decide) w
    (fun l J W hW hJ _ h0 => keys1_none _ _ (by simp [Fence.list]) rfl l p b c J W hJ ((hW.cell hp).trans hm) ((hW.block b hlt).trans hb) h0)
  refine CallsIn.mono key ?_
  rintro e w' ⟨v, ss, rfl, hs, _, hv, hB⟩
  exact ⟨by rw [hv.2 hs], hB⟩
set_option maxRecDepth 100000 in
set_option maxHeartbeats 1000000 in
theorem soF_sound {s : FS} (hs : SoundF Tryz.prog 134 s) (he : s [.ns] h00 (fun y _ => y.on_t fun l => l.isEmpty) = true) : SoundF Tryz.prog 76 (soF 135) := by
  refine ⟨enter_run (fn := Tryz.f76) (by kernel_rfl) (by kernel_rfl) (by kernel_rfl), soF_det _, fun ρ h w B args vals k E ha hk => ?_⟩
  obtain ⟨f, rfl⟩ : ∃ f, args = [f] := by
    match args, hk with
    | [], hk => cases hk
    | _ :: _ :: _, hk => cases hk
    | [f], _ => exact ⟨f, rfl⟩
  obtain ⟨g, fs, cs, rfl, hk1⟩ := AV.on_f_spec (show f.on_f _ = true from hk)
  obtain ⟨rfl, hk2⟩ := ifT_eq hk1
  clear hk hk1
  match fs, cs, hk2 with
  | [], [pc], hk3 =>
    obtain ⟨q0, o, rfl, hk4⟩ := AV.on_p_spec (show ld1 pc h _ = true from hk3)
    rw [HT.getR_eq] at hk4
    obtain ⟨ty, n, v, hg0, hk5⟩ := OB.on_spec hk4
    obtain ⟨ho, hk6⟩ := ifT_spec hk5
    obtain ⟨q, hq, hk7⟩ := AV.on_m_spec hk6
    rw [HT.getR_eq] at hk7
    obtain ⟨es, hg, hk8⟩ := OB.onM_spec hk7
    cases es with
    | cons _ _ => cases hk8
    | nil =>
      have hk9 : k .ns h = true := hk8
      obtain ⟨x, hx, hrx, _⟩ := (E.row q0 ty n v hg0).get o (by simpa using ho)
      rw [hq] at hrx
      cases hrx with
      | m _ hqn =>
        obtain ⟨fs, c, hb, hr, _⟩ := E.map q [] hg
        obtain rfl : fs = #[] := by cases hf : fs.toList with
          | nil => exact Array.toList_eq_nil_iff.1 hf
          | cons _ _ => rw [hf] at hr; cases hr
        have hp : ((⟨(ρ q0).blk, (ρ q0).base + o, none⟩ : Addr)).block < w.heap.size := by
          unfold World.cell? at hx
          cases hxx : w.heap[(ρ q0).blk]? with
          | none => simp [hxx] at hx
          | some _ => exact (Array.getElem?_eq_some_iff.1 hxx).1
        cases ha with
        | cons _ fv _ _ hf t =>
          cases t
          cases hf with
          | f _ _ _ us vs h1 h2 =>
            cases h1
            cases h2 with
            | cons _ pv _ _ hpv t2 =>
              cases t2
              cases hpv
              have cC := collect_none _ _ c w hx hb hp
              have fin : ∀ w', Below w.heap.size w w' → Left Tryz.prog ρ h w B k (.returned (.slice none 0 0)) w' := fun w' hw => by
                obtain ⟨E', s'⟩ := E.below hw
                exact ⟨ρ, h, .ns, E', s', .ns, hk9⟩
              have hTw : ∀ w' : World, Below w.heap.size w w' → Tabs Tryz.prog w'.heap.size w' := fun w' hw => by
                obtain ⟨w0, a1, a2, a3⟩ := E.tab
                have a4 := E.base
                have a5 := hw.size
                exact ⟨w0, a1, by omega, fun b hb => (hw.block b (by omega)).trans (a3 b hb)⟩
              have cS := fun (w' : World) (hw : Below w.heap.size w w') => hs.unit0 (ρ := ρ) (.cons _ _ _ _ .ns .nil) he w' (hTw w' hw)
              clear hk3 hk4 hk5 hk6 hk7 hk8 hk9 E hx hb hg hg0 hr
              go_enter Tryz.func76, Tryz.ntmps76
              go_wp2_with fail
              refine cC.mono ?_
              rintro e w1 ⟨rfl, hb1⟩
              go_wp2_with fail
              refine (cS _ hb1).mono ?_
              rintro e w2 ⟨rfl, hb2⟩
              go_wp2_with fail
              go_ret
              exact fin _ (hb1.trans (hb2.mono hb1.size))
end Go.Proofs.YtmddhlfjilkdfaaGreatDoor
namespace Go.Proofs.YtmddhlfjilkdfaaGreatDoor
set_option linter.unusedVariables false
set_option linter.unusedSimpArgs false

/-! A function's answer for symbols; else its own text 'o'. -/
noncomputable def arm1 (g : Sy → Hp → (AV → Hp → Bool) → Bool) (o : FS) : FS := fun args h k => capp 1 (fun x h => x.yK (fun s => g s h k) (o [x] h k)) args h
noncomputable def arm2 (g : AV → Sy → Hp → (AV → Hp → Bool) → Bool) (o : FS) : FS := fun args h k => capp 2 (fun b x h => x.yK (fun s => g b s h k) (o [b, x] h k)) args h
def keyG (s : Sy) (h : Hp) (k : AV → Hp → Bool) : Bool := s.on_os fun i => ifT (Nat.beq i 0) (k (.b true) h)
def validG (s : Sy) (h : Hp) (k : AV → Hp → Bool) : Bool := s.on_os fun i => ifT (Nat.blt i 2) (k (.b true) h)
def confG (s : Sy) (h : Hp) (k : AV → Hp → Bool) : Bool := s.on_os fun i => ifT (Nat.beq i 2) (k (.t [.ns, .b false]) h)
noncomputable def keyF : FS → FS := arm1 keyG
/-- The document's own. -/
noncomputable def keyRF : FS → FS := arm1 keyG
def runesG (s : Sy) (h : Hp) (k : AV → Hp → Bool) : Bool := s.on_os fun i => ifT (Nat.beq i 1) (k (.t [.d, .d, .b true]) h)
noncomputable def runesF : FS → FS := arm1 runesG
noncomputable def validF : FS → FS := arm1 validG
noncomputable def confF : FS → FS := arm1 confG
/-- A text behind bytes. -/
noncomputable def putTextG (el : Nat) (b : AV) (s : Sy) (h : Hp) (k : AV → Hp → Bool) : Bool := s.on_os fun i => dstY el b h fun t0 c d _ => natK (Nat.add (Nat.succ c) (syLo i)) fun lo => natK (Nat.add (Nat.add d 2) (syHi i)) fun hi => ifT (Nat.ble hi 900000) (suK el t0 lo hi h k)
noncomputable def putTextF (el : Nat) : FS → FS := arm2 (putTextG el)
/-- A frame of bytes. -/
noncomputable def sealK (el : Nat) (kd : AV) (lo hi : Nat) (h : Hp) (k : AV → Hp → Bool) : Bool := kd.on_i fun kk n => ifT (Nat.beq (kN kk) 3) <| ifT (Nat.ble 9223372036854775809 n) (ifT (Nat.ble n 9223372036854776063) (ifT (Nat.ble hi 4000) (natK (Nat.add lo 6) fun lo => natK (Nat.add hi 7) fun hi => suK el h.t lo hi h k)))
noncomputable def sealG (el : Nat) (kd : AV) (s : Sy) (h : Hp) (k : AV → Hp → Bool) : Bool := Sy.casesOn (motive := fun _ => Bool) s (fun _ => false) (fun _ _ _ => false)
  (fun q i => (HT.getR q h.t).onY fun oy => oy.on_op fun j => ifT (Nat.beq i j) (sealK el kd (syLo i) (syHi i) h k))
  (fun q lo hi => (HT.getR q h.t).onY fun oy => oy.on_soup fun _ => sealK el kd lo hi h k)
noncomputable def sealF (el : Nat) : FS → FS := arm2 (sealG el)
/-- The one operation. -/
def opCs : List AV := [.i .i64 9223372036854775809, .y (.os 0), .i .i64 9223372036854775810, .i .i64 9223372036854775808, .y (.os 1), .i .i64 9223372036854775808, .i .i64 9223372036854775808, .s 0 [], .i .i64 9223372036854775808]
def on3 (l : List AV) (f : AV → AV → AV → Bool) : Bool := List.casesOn (motive := fun _ => Bool) l false fun a l => List.casesOn (motive := fun _ => Bool) l false fun b l => List.casesOn (motive := fun _ => Bool) l false fun c l => List.casesOn (motive := fun _ => Bool) l (f a b c) fun _ _ => false
/-- Is it the one batch? -/
noncomputable def isBat (x : AV) (h : Hp) : Bool := x.on_a fun l => on3 l fun a b c => ifT (avEq a (.i .i64 9223372036854775809)) (ifT (avEq b (.i .i64 9223372036854775809)) (c.on_sl fun q o n _ => ifT (Nat.beq n 1) ((HT.getR q h.t).on fun _ m v => ifT (Nat.ble (Nat.add o 9) m) (avEqL (v.range 9 o) opCs))))
noncomputable def opTextF (o : FS) : FS := fun args h k => capp 1 (fun x h => Bool.casesOn (motive := fun _ => Bool) (isBat x h) (o [x] h k) (HT.setK (.y (.op 2)) h.nx h.t fun t' => h.nx.succK fun n' => k (.y (.so h.nx 2)) (.mk t' n'))) args h
noncomputable def decodeG (ot : Nat) (s : Sy) (h : Hp) (k : AV → Hp → Bool) : Bool := s.on_so fun q i => ifT (Nat.beq i 2) ((HT.getR q h.t).onY fun oy => oy.on_op fun j => ifT (Nat.beq j 2) (nbK ot 9 opCs h fun qn h' => k (.t [.a [.i .i64 9223372036854775809, .i .i64 9223372036854775809, .sl qn 0 1 (.u 0 1)], .i .i64 9223372036854775808]) h'))
noncomputable def decodeF (ot : Nat) : FS → FS := arm1 (decodeG ot)
end Go.Proofs.YtmddhlfjilkdfaaGreatDoor
namespace Go.Proofs.YtmddhlfjilkdfaaGreatDoor
set_option linter.unusedVariables false
set_option linter.unusedSimpArgs false
open Go.RowKit

section
variable {P : Program} {ρ : Q → Loc} {h : Hp} {w w' : World} {B : Nat}
theorem arm1_sound {f : FuncId} {g : Sy → Hp → (AV → Hp → Bool) → Bool} {o : FS} (hd : ∀ s h, Det2 (g s h)) (hs : ∀ (ρ : Q → Loc) (h : Hp) (w : World) (B : Nat) (s : Sy) (v : Value) (k : AV → Hp → Bool), Emb P ρ h w B → Rel ρ h.nx.num (.y s) v → g s h k = true → Calls P f #[v] w (Left P ρ h w B k)) (ho : SoundF P f o) : SoundF P f (arm1 g o) := by
  refine ⟨ho.enter, fun args h => ?_, fun ρ h w B args vals k E ha hk => ?_⟩
  · match args with
    | [] => exact Det2.fail
    | _ :: _ :: _ => exact Det2.fail
    | [x] => exact Det2.yK (x := x) (f := fun s k => g s h k) (g := fun k => o [x] h k) (fun s => hd s h) (ho.det [x] h)
  · match args, ha, hk with
    | [], _, hk => cases hk
    | _ :: _ :: _, _, hk => cases hk
    | [x], ha, hk =>
      have hk : x.yK (fun s => g s h k) (o [x] h k) = true := hk
      rcases AV.yK_spec hk with ⟨s, rfl, h1⟩ | h1
      · cases ha with
        | cons _ v _ _ hx t =>
          cases t
          exact hs ρ h w B s v k E hx h1
      · exact ho.sound ρ h w B [x] vals k E ha h1
theorem arm2_sound {f : FuncId} {g : AV → Sy → Hp → (AV → Hp → Bool) → Bool} {o : FS} (hd : ∀ b s h, Det2 (g b s h)) (hs : ∀ (ρ : Q → Loc) (h : Hp) (w : World) (B : Nat) (b : AV) (s : Sy) (u v : Value) (k : AV → Hp → Bool), Emb P ρ h w B → Rel ρ h.nx.num b u → Rel ρ h.nx.num (.y s) v → g b s h k = true → Calls P f #[u, v] w (Left P ρ h w B k)) (ho : SoundF P f o) : SoundF P f (arm2 g o) := by
  refine ⟨ho.enter, fun args h => ?_, fun ρ h w B args vals k E ha hk => ?_⟩
  · match args with
    | [] => exact Det2.fail
    | [_] => exact Det2.fail
    | _ :: _ :: _ :: _ => exact Det2.fail
    | [b, x] => exact Det2.yK (x := x) (f := fun s k => g b s h k) (g := fun k => o [b, x] h k) (fun s => hd b s h) (ho.det [b, x] h)
  · match args, ha, hk with
    | [], _, hk => cases hk
    | [_], _, hk => cases hk
    | _ :: _ :: _ :: _, _, hk => cases hk
    | [b, x], ha, hk =>
      have hk : x.yK (fun s => g b s h k) (o [b, x] h k) = true := hk
      rcases AV.yK_spec hk with ⟨s, rfl, h1⟩ | h1
      · cases ha with
        | cons _ u _ _ hb t =>
          cases t with
          | cons _ v _ _ hx t =>
            cases t
            exact hs ρ h w B b s u v k E hb hx h1
      · exact ho.sound ρ h w B [b, x] vals k E ha h1
/-- What turned nothing that was there. -/
theorem Left.of_below (E : Emb P ρ h w B) (hb : Below w.heap.size w w') {y : AV} {v : Value} (hr : Rel ρ h.nx.num y v) {k : AV → Hp → Bool} (hk : k y h = true) : Left P ρ h w B k (.returned v) w' := by
  obtain ⟨E', s'⟩ := E.below hb
  exact ⟨ρ, h, y, E', s', hr, hk⟩
theorem Left.of_made {v : Value} {k : AV → Hp → Bool} (hm : Made P ρ h w B (.ok v w') k) : Left P ρ h w B k (.returned v) w' := by
  obtain ⟨y, v2, w2, ρ', h', e, E', s', hr, hk⟩ := hm
  cases e
  exact ⟨ρ', h', y, E', s', hr, hk⟩
theorem keyG_det (s : Sy) (h : Hp) : Det2 (keyG s h) := Det2.on_os (f := fun i (k : AV → Hp → Bool) => ifT (Nat.beq i 0) (k (.b true) h)) fun _ => det2_ifT (Det2.ret _ _)
theorem validG_det (s : Sy) (h : Hp) : Det2 (validG s h) := Det2.on_os (f := fun i (k : AV → Hp → Bool) => ifT (Nat.blt i 2) (k (.b true) h)) fun _ => det2_ifT (Det2.ret _ _)
theorem confG_det (s : Sy) (h : Hp) : Det2 (confG s h) := Det2.on_os (f := fun i (k : AV → Hp → Bool) => ifT (Nat.beq i 2) (k (.t [.ns, .b false]) h)) fun _ => det2_ifT (Det2.ret _ _)
theorem runesG_det (s : Sy) (h : Hp) : Det2 (runesG s h) := Det2.on_os (f := fun i (k : AV → Hp → Bool) => ifT (Nat.beq i 1) (k (.t [.d, .d, .b true]) h)) fun _ => det2_ifT (Det2.ret _ _)
theorem putTextG_det (el : Nat) (b : AV) (s : Sy) (h : Hp) : Det2 (putTextG el b s h) :=
  Det2.on_os (f := fun i k => dstY el b h fun t0 c d _ => natK (Nat.add (Nat.succ c) (syLo i)) fun lo => natK (Nat.add (Nat.add d 2) (syHi i)) fun hi => ifT (Nat.ble hi 900000) (suK el t0 lo hi h k)) fun i =>
    dstY_det el b h (fun t0 c d _ k => natK (Nat.add (Nat.succ c) (syLo i)) fun lo => natK (Nat.add (Nat.add d 2) (syHi i)) fun hi => ifT (Nat.ble hi 900000) (suK el t0 lo hi h k)) fun _ _ _ _ => Det2.natK _ fun _ => Det2.natK _ fun _ => det2_ifT (suK_det _ _ _ _ _)
theorem Det2.on_i {α β : Type} {x : AV} {g : IntKind → Nat → (α → β → Bool) → Bool} (hg : ∀ b n, Det2 (g b n)) : Det2 (fun k => x.on_i fun b n => g b n k) := by cases x <;> first | exact hg _ _ | exact Det2.fail
theorem sealK_det (el : Nat) (kd : AV) (lo hi : Nat) (h : Hp) : Det2 (sealK el kd lo hi h) :=
  Det2.on_i (g := fun kk n k => ifT (Nat.beq (kN kk) 3) <| ifT (Nat.ble 9223372036854775809 n) (ifT (Nat.ble n 9223372036854776063) (ifT (Nat.ble hi 4000) (natK (Nat.add lo 6) fun lo => natK (Nat.add hi 7) fun hi => suK el h.t lo hi h k)))) fun _ _ => det2_ifT (det2_ifT (det2_ifT (det2_ifT (Det2.natK _ fun _ => Det2.natK _ fun _ => suK_det _ _ _ _ _))))
theorem sealG_det (el : Nat) (kd : AV) (s : Sy) (h : Hp) : Det2 (sealG el kd s h) := by
  cases s with
  | os => exact Det2.fail
  | iv => exact Det2.fail
  | so q i => exact Det2.onY (f := fun oy k => oy.on_op fun j => ifT (Nat.beq i j) (sealK el kd (syLo i) (syHi i) h k)) fun _ => Det2.on_op fun _ => det2_ifT (sealK_det _ _ _ _ _)
  | su q lo hi => exact Det2.onY (f := fun oy k => oy.on_soup fun _ => sealK el kd lo hi h k) fun _ => Det2.on_soup fun _ => sealK_det _ _ _ _ _
theorem Det2.on_so {α β : Type} {s : Sy} {f : Q → Nat → (α → β → Bool) → Bool} (hf : ∀ a b, Det2 (f a b)) : Det2 (fun k => s.on_so (fun a b => f a b k)) := by cases s <;> first | exact hf _ _ | exact Det2.fail
theorem decodeG_det (ot : Nat) (s : Sy) (h : Hp) : Det2 (decodeG ot s h) := by
  cases s with
  | so q i =>
    refine det2_ifT (Det2.onY (b := HT.getR q h.t) (f := fun oy (k : AV → Hp → Bool) => oy.on_op fun j => ifT (Nat.beq j 2) (nbK ot 9 opCs h fun qn h' => k (.t [.a [.i .i64 9223372036854775809, .i .i64 9223372036854775809, .sl qn 0 1 (.u 0 1)], .i .i64 9223372036854775808]) h')) fun oy => ?_)
    cases oy with
    | op j => exact det2_ifT ((nbK_det ot 9 opCs h).bind2 (g := fun qn h' (k : AV → Hp → Bool) => k (.t [.a [.i .i64 9223372036854775809, .i .i64 9223372036854775809, .sl qn 0 1 (.u 0 1)], .i .i64 9223372036854775808]) h') fun _ _ => Det2.ret _ _)
    | soup => exact Det2.fail
  | _ => exact Det2.fail
end
end Go.Proofs.YtmddhlfjilkdfaaGreatDoor
namespace Go.Proofs.YtmddhlfjilkdfaaGreatDoor
set_option linter.unusedVariables false
set_option linter.unusedSimpArgs false
open Go.RowKit

/-- A byte as a cell. -/
def byteV (c : UInt8) : Value := .int .u8 (c.toNat : Int)

/-- A slice value that reads as a list of cells, one cell each. -/
def Reads (w : World) (v : Value) (xs : List Value) : Prop :=
  ∃ a cap, v = .slice a xs.length cap ∧ xs.length ≤ cap ∧ cap ≤ 9223372036854775807 ∧
    (xs ≠ [] → ∃ b off, a = some ⟨b, off, none⟩ ∧ ∀ j (h : j < xs.length), w.cell? ⟨b, off + j, none⟩ = some xs[j])

/-- A slice value that reads as bytes. -/
def Bytes (w : World) (v : Value) (l : List UInt8) : Prop :=
  ∃ a cap, v = .slice a l.length cap ∧ l.length ≤ cap ∧ cap ≤ 9223372036854775807 ∧
    (l ≠ [] → ∃ b off, a = some ⟨b, off, none⟩ ∧ ∀ j (h : j < l.length), w.cell? ⟨b, off + j, none⟩ = some (.int .u8 (l[j].toNat : Int)))

theorem Bytes.reads {w : World} {v : Value} {l : List UInt8} (h : Bytes w v l) : Reads w v (l.map byteV) := by
  obtain ⟨a, cap, hv, h1, h2, h3⟩ := h
  refine ⟨a, cap, by simpa using hv, by simpa using h1, h2, fun hne => ?_⟩
  obtain ⟨b, off, ha, hc⟩ := h3 (by simpa using hne)
  exact ⟨b, off, ha, fun j hj => by rw [hc j (by simpa using hj)]; simp [byteV]⟩

theorem Reads.bytes {w : World} {v : Value} {l : List UInt8} (h : Reads w v (l.map byteV)) : Bytes w v l := by
  obtain ⟨a, cap, hv, h1, h2, h3⟩ := h
  refine ⟨a, cap, by simpa using hv, by simpa using h1, h2, fun hne => ?_⟩
  obtain ⟨b, off, ha, hc⟩ := h3 (by simpa using hne)
  exact ⟨b, off, ha, fun j hj => by rw [hc j (by simpa using hj)]; simp [byteV]⟩

theorem Reads.below {w w' : World} {v : Value} {xs : List Value} {B : Nat} (h : Reads w v xs) (hb : Below B w w') (hB : B = w.heap.size) : Reads w' v xs := by
  subst hB
  obtain ⟨a, cap, hv, h1, h2, h3⟩ := h
  refine ⟨a, cap, hv, h1, h2, fun hne => ?_⟩
  obtain ⟨b, off, ha, hc⟩ := h3 hne
  refine ⟨b, off, ha, fun j hj => ?_⟩
  have hlt := World.block_lt_of_cell? w _ (hc j hj)
  rw [hb.cell (p := ⟨b, off + j, none⟩) hlt]
  exact hc j hj

theorem Bytes.below {w w' : World} {v : Value} {l : List UInt8} {B : Nat} (h : Bytes w v l) (hb : Below B w w') (hB : B = w.heap.size) : Bytes w' v l := (h.reads.below hb hB).bytes

theorem Bytes.grown {w w' : World} {v : Value} {l : List UInt8} (h : Bytes w v l) (hg : w.grownBy w' none) : Bytes w' v l :=
  h.below (B := w.heap.size) ⟨hg.os, hg.tape, hg.output, hg.size, fun k hk => hg.block k hk (by simp)⟩ rfl

theorem Bytes.alloc {w : World} {v : Value} {l : List UInt8} (h : Bytes w v l) (o : Obj) : Bytes (w.alloc o) v l :=
  h.grown (World.grownBy_alloc w o none)

theorem Bytes.drew {w : World} {v : Value} {l : List UInt8} (h : Bytes w v l) : Bytes w.drew v l := h

theorem Bytes.nil (w : World) (a : Option Addr) (cap : Nat) (hc : cap ≤ 9223372036854775807) : Bytes w (.slice a 0 cap) [] :=
  ⟨a, cap, rfl, Nat.zero_le _, hc, fun h => absurd rfl h⟩

theorem Bytes.take {w : World} {a : Option Addr} {n cap : Nat} {l : List UInt8} (h : Bytes w (.slice a n cap) l) (k : Nat) (hk : k ≤ l.length) : Bytes w (.slice a k cap) (l.take k) := by
  obtain ⟨a', cap', hv, h1, h2, h3⟩ := h
  simp only [Value.slice.injEq] at hv
  obtain ⟨rfl, rfl, rfl⟩ := hv
  refine ⟨a, cap, by rw [List.length_take, Nat.min_eq_left hk], by rw [List.length_take]; omega, h2, fun hne => ?_⟩
  obtain ⟨b, off, ha, hc⟩ := h3 (by intro e; subst e; simp at hne)
  exact ⟨b, off, ha, fun j hj => by rw [hc j (by simp at hj; omega)]; simp⟩

/-- A cut 'b[k:k+n]' of bytes whose place is known. -/
theorem Bytes.part {w : World} {b off : Nat} {l : List UInt8} (h : ∀ j (h : j < l.length), w.cell? ⟨b, off + j, none⟩ = some (.int .u8 (l[j].toNat : Int))) (k n c : Nat) (hkn : k + n ≤ l.length) (hn : n ≤ c) (hc : c ≤ 9223372036854775807) :
    Bytes w (.slice (some ⟨b, off + k, none⟩) n c) ((l.drop k).take n) := by
  have hlen : ((l.drop k).take n).length = n := by simp; omega
  refine ⟨_, c, by rw [hlen], by omega, hc, fun _ => ⟨_, _, rfl, fun j hj => ?_⟩⟩
  rw [hlen] at hj
  rw [Nat.add_assoc, h (k + j) (by omega)]
  simp

theorem Bytes.sub {w : World} {a : Option Addr} {n0 cap : Nat} {l : List UInt8} (h : Bytes w (.slice a n0 cap) l) (k n : Nat) (hkn : k + n ≤ l.length) :
    Bytes w (.slice (if cap = k then a else a.map (·.add k)) n (cap - k)) ((l.drop k).take n) := by
  obtain ⟨a', cap', hv, h1, h2, h3⟩ := h
  simp only [Value.slice.injEq] at hv
  obtain ⟨rfl, rfl, rfl⟩ := hv
  by_cases hn : n = 0
  · subst hn
    rw [List.take_zero]
    exact Bytes.nil _ _ _ (by omega)
  · obtain ⟨b, off, rfl, hc⟩ := h3 (by intro e; subst e; simp at hkn; omega)
    rw [if_neg (by omega)]
    have := Bytes.part hc k n (cap - k) hkn (by omega) (by omega)
    simpa [Addr.add_lit] using this

theorem Reads.take {w : World} {a : Option Addr} {n cap : Nat} {l : List Value} (h : Reads w (.slice a n cap) l) (k : Nat) (hk : k ≤ l.length) : Reads w (.slice a k cap) (l.take k) := by
  obtain ⟨a', cap', hv, h1, h2, h3⟩ := h
  simp only [Value.slice.injEq] at hv
  obtain ⟨rfl, rfl, rfl⟩ := hv
  refine ⟨a, cap, by rw [List.length_take, Nat.min_eq_left hk], by rw [List.length_take]; omega, h2, fun hne => ?_⟩
  obtain ⟨b, off, ha, hc⟩ := h3 (by intro e; subst e; simp at hne)
  exact ⟨b, off, ha, fun j hj => by rw [hc j (by simp at hj; omega)]; simp⟩

/-- What the call owns: bytes at the head of a row of its own, from block number 'base' on. -/
def OwnB (w : World) (base e : Nat) (v : Value) (l : List UInt8) : Prop := w.ownsRow base e 1 v l.length (l.map byteV)

theorem Reads.of_owns {w : World} {base e n : Nat} {v : Value} {xs : List Value} (h : w.ownsRow base e 1 v n xs) : Reads w v xs := by
  have hl : xs.length = n := by simpa using h.1
  subst hl
  rcases h.2 with ⟨rfl, hx⟩ | ⟨g, cap, cur, rfl, hb, hg, hnc, hcm, hcs, htake⟩
  · have : xs = [] := List.eq_nil_of_length_eq_zero hx
    subst this
    exact ⟨none, 0, rfl, by simp, by omega, fun h => absurd rfl h⟩
  · refine ⟨_, cap, rfl, hnc, by simpa [maxLen] using hcm, fun _ => ⟨g, 0, rfl, fun j hj => ?_⟩⟩
    have := h.cellAt j (by simpa using hj)
    rw [Nat.zero_add, this, List.getElem?_eq_getElem hj]

theorem OwnB.bytes {w : World} {base e : Nat} {v : Value} {l : List UInt8} (h : OwnB w base e v l) : Bytes w v l := (Reads.of_owns h).bytes

theorem OwnB.nil (w : World) (base e : Nat) : OwnB w base e (.slice none 0 0) [] := World.ownsRow_nil w base e 1

theorem OwnB.alloc {w : World} {base e : Nat} {v : Value} {l : List UInt8} (h : OwnB w base e v l) (o : Obj) : OwnB (w.alloc o) base e v l := World.ownsRow.alloc h o
theorem OwnB.drew {w : World} {base e : Nat} {v : Value} {l : List UInt8} (h : OwnB w base e v l) : OwnB w.drew base e v l := h

/-- Owned from a base on: owned from an elder base on. -/
theorem ownsRow_rebase {w : World} {base base' e s n : Nat} {v : Value} {xs : List Value} (h : w.ownsRow base e s v n xs) (hb : base' ≤ base) : w.ownsRow base' e s v n xs := by
  refine ⟨h.1, ?_⟩
  rcases h.2 with h2 | ⟨g, cap, cur, hv, hg, r⟩
  · exact .inl h2
  · exact .inr ⟨g, cap, cur, hv, by omega, r⟩

theorem OwnB.rebase {w : World} {base base' e : Nat} {v : Value} {l : List UInt8} (h : OwnB w base e v l) (hb : base' ≤ base) : OwnB w base' e v l := ownsRow_rebase h hb

theorem OwnB.kept {w w' : World} {base e : Nat} {row : Option Nat} {v : Value} {l : List UInt8} (h : OwnB w base e v l) (hg : w.grownBy w' row) (hne : v.ownBlock = none ∨ v.ownBlock ≠ row) : OwnB w' base e v l := World.ownsRow.kept h hg hne

/-- What is owned stays owned behind a call that turns nothing that was there. -/
theorem ownsRow_below {w w' : World} {base e s n : Nat} {v : Value} {xs : List Value} (h : w.ownsRow base e s v n xs) (hb : Below w.heap.size w w') : w'.ownsRow base e s v n xs := by
  refine ⟨h.1, ?_⟩
  rcases h.2 with h2 | ⟨g, cap, cur, hv, hg, hh, r⟩
  · exact .inl h2
  · exact .inr ⟨g, cap, cur, hv, hg, by rw [hb.block g (Array.getElem?_eq_some_iff.1 hh).1]; exact hh, r⟩

theorem OwnB.below {w w' : World} {base e : Nat} {v : Value} {l : List UInt8} (h : OwnB w base e v l) (hb : Below w.heap.size w w') : OwnB w' base e v l := ownsRow_below h hb

theorem OwnB.len {w : World} {base e : Nat} {v : Value} {l : List UInt8} (h : OwnB w base e v l) : ∃ a cap, v = .slice a l.length cap := by
  obtain ⟨a, cap, hv, _⟩ := h.bytes
  exact ⟨a, cap, hv⟩

theorem ownsRow_shape {w : World} {base e s n : Nat} {v : Value} {xs : List Value} (h : w.ownsRow base e s v n xs) (hn : n ≠ 0) : ∃ g cap, v = .slice (some ⟨g, 0, none⟩) n cap ∧ base ≤ g ∧ g < w.heap.size ∧ n ≤ cap := by
  rcases h.2 with ⟨rfl, h0⟩ | ⟨g, cap, cur, hv, hg, hh, r⟩
  · exact absurd h0 hn
  · exact ⟨g, cap, hv, hg, (Array.getElem?_eq_some_iff.1 hh).1, r.1⟩

theorem OwnB.shape {w : World} {base e : Nat} {v : Value} {l : List UInt8} (h : OwnB w base e v l) (hl : l ≠ []) : ∃ g cap, v = .slice (some ⟨g, 0, none⟩) l.length cap ∧ base ≤ g ∧ g < w.heap.size ∧ l.length ≤ cap :=
  ownsRow_shape h (by intro e; exact hl (List.eq_nil_of_length_eq_zero e))

/-- Two steps of growth. -/
theorem grownBy_trans {a b c : World} {row row' : Option Nat} (h : a.grownBy b row) (k : b.grownBy c row') (hr : ∀ x, row' = some x → a.heap.size ≤ x ∨ row = some x) : a.grownBy c row :=
  ⟨k.os.trans h.os, k.tape.trans h.tape, k.output.trans h.output, Nat.le_trans h.size k.size, fun i hi hne => by
    refine (k.block i (Nat.lt_of_lt_of_le hi h.size) (fun e => ?_)).trans (h.block i hi hne)
    rcases hr i e.symm with h1 | h1
    · omega
    · exact hne h1.symm⟩

theorem grownBy_of_below {a b : World} (h : Below a.heap.size a b) (row : Option Nat) : a.grownBy b row := ⟨h.os, h.tape, h.output, h.size, fun k hk _ => h.block k hk⟩
theorem below_of_grown {a b : World} (h : a.grownBy b none) : Below a.heap.size a b := ⟨h.os, h.tape, h.output, h.size, fun k hk => h.block k hk (by simp)⟩
theorem grownBy_none {a b : World} {row : Option Nat} (h : a.grownBy b none) : a.grownBy b row := ⟨h.os, h.tape, h.output, h.size, fun k hk _ => h.block k hk (by simp)⟩

section
variable {P : Program}

/-- What 'append' does: out the call's own, src whatever. -/
theorem run_append_src {w : World} (t ot : TypeId)
    (base : Nat) (e : TypeId) (i : TypeInfo) (z : Value) (size bytes : Nat) (ht : P.underlying t = some (.slice e)) (hi : P.info? e = some i) (hz : i.zero = some z)
    (hsize : i.size = size) (hby : i.bytes = bytes) (hzs : z.cells.size = size) (hsz : 0 < size)
    (v : Value) (n : Nat) (xs : List Value) (hown : w.ownsRow base e size v n xs)
    (ao : Option Addr) (m c : Nat) (news : List Value) (hl : news.length = m * size)
    (hnews : m ≠ 0 → ∃ ad, ao = some ad ∧ ∀ j u, news[j]? = some u → w.cell? (ad.add j) = some u) (h1 : ∀ u ∈ news, u.oneCell' = true)
    (h63 : n + m ≤ maxLen) (hbytes : (n + m) * bytes ≤ 140737488355328) (hbase : base ≤ w.heap.size) :
    ∃ v' w', (Builtin.append_ #[t, t] ot #[v, .slice ao m c]).run P w = .ok v' w' ∧ w'.ownsRow base e size v' (n + m) (xs ++ news) ∧ w.grownBy w' v.ownBlock ∧ (∀ k, v'.ownBlock = some k → v.ownBlock = some k ∨ w.heap.size ≤ k) := by
  by_cases hm : m = 0
  · subst hm
    have hn : news = [] := List.eq_nil_of_length_eq_zero (by simpa using hl)
    subst hn
    have hrun : (Builtin.append_ #[t, t] ot #[v, .slice ao 0 c]).run P w = .ok v w := by
      rcases hown.2 with ⟨rfl, rfl⟩ | ⟨g, cap, cur, rfl, _, _, hnc, _⟩
      · cases ao <;> simp [Builtin.append_, run_underlying ht, sizeOf, typeInfo, hi, Builtin.lenOf, Builtin.firstCells, loadCells, loadCellsFrom]
      · cases ao <;> simp [Builtin.append_, run_underlying ht, sizeOf, typeInfo, hi, Builtin.lenOf, Builtin.firstCells, hnc, storeCells, loadCells, loadCellsFrom]
    exact ⟨v, w, hrun, by simpa using hown, ⟨rfl, rfl, rfl, Nat.le_refl _, fun _ _ _ => rfl⟩, fun k hk => .inl hk⟩
  · obtain ⟨ad, rfl, hc⟩ := hnews hm
    subst hsize
    subst hby
    have hsmall : n + m ≤ 9223372036854775807 := by simp only [maxLen] at h63; omega
    have hlen : (xs ++ news).length = (n + m) * i.size := by rw [List.length_append, hown.1, hl, Nat.add_mul]
    have grown : ∀ (old : Nat), old < n + m → ∀ (row : Option Nat),
        (w.drew.alloc (.cells (xs.toArray ++ news.toArray ++ Builtin.zeroCells z.cells (grownCap w (n + m) old e - (n + m))) e)).ownsRow base e i.size
          (.slice (some ⟨w.heap.size, 0, none⟩) (n + m) (grownCap w (n + m) old e)) (n + m) (xs ++ news) ∧
        w.grownBy (w.drew.alloc (.cells (xs.toArray ++ news.toArray ++ Builtin.zeroCells z.cells (grownCap w (n + m) old e - (n + m))) e)) row := by
      intro old ho row
      have hge := grownCap_ge w (n + m) old e
      have hcm : grownCap w (n + m) old e ≤ maxLen := grownCap_le_maxLen w (n + m) old e h63
      refine ⟨⟨hlen, .inr ⟨w.heap.size, _, _, rfl, hbase, _root_.Go.heap_alloc_new w.drew _, hge, hcm, ?_, ?_⟩⟩, ⟨rfl, rfl, rfl, by simp, fun k hk _ => Below.heap_alloc w.drew _ k hk⟩⟩
      · simp only [Array.size_append, List.size_toArray, size_zeroCells, hzs, hown.1, hl, ← Nat.add_mul]
        congr 1
        omega
      · simp only [Array.toList_append, List.append_assoc]
        rw [← List.append_assoc, ← hlen]
        exact List.take_left
    rcases hown.2 with ⟨rfl, rfl⟩ | ⟨g, cap, cur, rfl, hbg, hg, hnc, hcm, hcs, htake⟩
    · have hx : xs = [] := List.eq_nil_of_length_eq_zero (by simpa using hown.1)
      subst hx
      have hr := run_append_nil (P := P) w t ot e i z ht hi hz ad m c news hl hc (by omega) (by omega) (by have hb := hbytes; simp only [Nat.zero_add] at hb; omega)
      have hgr := grown 0 (by omega) (Value.ownBlock (.slice none 0 0))
      simp only [Nat.zero_add, List.nil_append, Array.empty_append] at hgr ⊢
      exact ⟨_, _, hr, hgr.1, hgr.2, fun k hk => .inr (by simp [Value.ownBlock] at hk; omega)⟩
    · by_cases hroom : n + m ≤ cap
      · have hfit : n * i.size + news.length ≤ cur.size := by rw [hl, hcs, ← Nat.add_mul]; exact Nat.mul_le_mul_right _ hroom
        have hr := run_append_room (P := P) w t ot e i ht hi g n cap cur hg ad m c news hl hc h1 hroom hfit
        refine ⟨_, _, hr, ⟨hlen, .inr ⟨g, cap, _, rfl, hbg, setRow_heap w g cur _ e _ hg, hroom, hcm, ?_, ?_⟩⟩, ⟨rfl, rfl, rfl, by simp, fun k _ hk => setRow_other w g k _ (fun e => hk (by simp [Value.ownBlock, e]))⟩, fun k hk => .inl hk⟩
        · simp only [List.size_toArray, List.length_append, List.length_take, List.length_drop, Array.length_toList]
          omega
        · rw [htake, ← hlen]
          exact List.take_left
      · have holds : ∀ j u, xs[j]? = some u → w.cell? ((⟨g, 0, none⟩ : Addr).add j) = some u := hown.cells (g := g) rfl
        have hr := run_append_grow (P := P) w t ot e i z ht hi hz ⟨g, 0, none⟩ n cap xs hown.1 holds ad m c news hl hc (by omega) (by omega) (growslice_fits (by omega) hbytes)
        have hgr := grown cap (by omega) (Value.ownBlock (.slice (some ⟨g, 0, none⟩) n cap))
        exact ⟨_, _, hr, hgr.1, hgr.2, fun k hk => .inr (by simp [Value.ownBlock] at hk; omega)⟩

/-- 'append(out, src...)': out the call's own, src whatever. -/
theorem wpList_append_src {w : World} {ops : Array Oper} {rest : List Oper} {o : Oper} {a : Act} {Q : Exit → Act → World → Prop} (hgd : o.guard = none) (s x : Operand) (t : TypeId)
    (ho : o.op = .call { callee := .builtin .append, args := #[s, x], argTypes := #[t, t] })
    (base : Nat) (e : TypeId) (i : TypeInfo) (z : Value) (size bytes : Nat) (ht : P.underlying t = some (.slice e)) (hi : P.info? e = some i) (hz : i.zero = some z)
    (hsize : i.size = size) (hby : i.bytes = bytes) (hzs : z.cells.size = size) (hsz : 0 < size)
    (v : Value) (n : Nat) (xs : List Value) (hs : a.eval s = v) (hown : w.ownsRow base e size v n xs)
    (ao : Option Addr) (m c : Nat) (news : List Value) (hx : a.eval x = .slice ao m c) (hl : news.length = m * size)
    (hnews : m ≠ 0 → ∃ ad, ao = some ad ∧ ∀ j u, news[j]? = some u → w.cell? (ad.add j) = some u) (h1 : ∀ u ∈ news, u.oneCell' = true)
    (h63 : n + m ≤ maxLen) (hbytes : (n + m) * bytes ≤ 140737488355328) (hbase : base ≤ w.heap.size)
    (h : ∀ v' w', w'.ownsRow base e size v' (n + m) (xs ++ news) → w.grownBy w' v.ownBlock → (∀ k, v'.ownBlock = some k → v.ownBlock = some k ∨ w.heap.size ≤ k) → wpList P ops Q rest (a.put o.dst v') w') : wpList P ops Q (o :: rest) a w := by
  obtain ⟨v', w', hr, h2, h3, h4⟩ := run_append_src (P := P) t o.type base e i z size bytes ht hi hz hsize hby hzs hsz v n xs hown ao m c news hl hnews h1 h63 hbytes hbase
  refine wpList_plain hgd fun K hK => ?_
  unfold Oper.wp execOp
  simp only [ho, resolve, invoke, builtin, Sem.run_bind, Sem.run_pure, Result.andThen_ok, List.map_toArray, List.map_cons, List.map_nil, hs, hx, hr]
  exact hK _ _ (h v' w' h2 h3 h4)
end

theorem byteV_oneCell (l : List UInt8) : ∀ u ∈ l.map byteV, u.oneCell' = true := by
  intro u hu
  obtain ⟨_, _, rfl⟩ := List.mem_map.1 hu
  rfl

/-- The same, of bytes. -/
theorem wpList_append_bytes {P : Program} {w : World} {ops : Array Oper} {rest : List Oper} {o : Oper} {a : Act} {Q : Exit → Act → World → Prop} (t : TypeId) (base : Nat) (e : TypeId)
    (ht : P.underlying t = some (.slice e)) (hinfo : (P.info? e).map (fun i => (i.zero, i.size, i.bytes)) = some (some (.int .u8 0), 1, 1))
    (hgd : o.guard = none) (s x : Operand) (ho : o.op = .call { callee := .builtin .append, args := #[s, x], argTypes := #[t, t] })
    {v : Value} {l : List UInt8} (hown : OwnB w base e v l) {src : Value} {m : List UInt8} (hsrc : Bytes w src m) (hs : a.eval s = v) (hx : a.eval x = src)
    (hlen : l.length + m.length ≤ 140737488355328) (hbase : base ≤ w.heap.size)
    (h : ∀ v' w', OwnB w' base e v' (l ++ m) → w.grownBy w' v.ownBlock → (∀ k, v'.ownBlock = some k → v.ownBlock = some k ∨ w.heap.size ≤ k) → wpList P ops Q rest (a.put o.dst v') w') : wpList P ops Q (o :: rest) a w := by
  obtain ⟨i, hi, hz0, hz1, hz2⟩ := info_parts hinfo
  obtain ⟨ao, cap, rfl, _, _, hc⟩ := hsrc
  refine wpList_append_src (P := P) hgd s x t ho base e i _ 1 1 ht hi hz0 hz1 hz2 rfl (by decide) v l.length (l.map byteV) hs hown ao m.length cap (m.map byteV) hx (by simp) (fun hm => ?_) (byteV_oneCell m) (by unfold maxLen; omega) (by omega) hbase
    (fun v' w' h1 h2 h3 => h v' w' (by unfold OwnB; rw [List.length_append, List.map_append]; exact h1) h2 h3)
  obtain ⟨b, off, rfl, hcell⟩ := hc (by intro e; subst e; simp at hm)
  refine ⟨_, rfl, fun j u hu => ?_⟩
  have hj : j < m.length := by
    have := (List.getElem?_eq_some_iff.1 hu).1
    simpa using this
  rw [Addr.add_lit, hcell j hj]
  rw [List.getElem?_eq_getElem (by simpa using hj)] at hu
  simpa [byteV] using hu

theorem map_replicate0 (N : Nat) : (List.replicate N (0 : UInt8)).map byteV = List.replicate N (.int .u8 0) := by simp [byteV]

/-- 'make([]byte, N)'. -/
theorem wpList_make_bytes {P : Program} {w : World} {ops : Array Oper} {rest : List Oper} {o : Oper} {a : Act} {Q : Exit → Act → World → Prop} (t : TypeId) (e : TypeId)
    (ht : P.underlying t = some (.slice e)) (hinfo : (P.info? e).map (fun i => (i.zero, i.size, i.bytes)) = some (some (.int .u8 0), 1, 1))
    (hgd : o.guard = none) (l c : Operand) (hop : o.op = Op.makeSlice t l c) (N : Nat) (hl : a.eval l = .int .i64 N) (hc : a.eval c = .int .i64 N) (hN : N ≤ 140737488355328)
    (h : ∀ w', OwnB w' w.heap.size e (.slice (some ⟨w.heap.size, 0, none⟩) N N) (List.replicate N 0) → w.grownBy w' none → wpList P ops Q rest (a.put o.dst (.slice (some ⟨w.heap.size, 0, none⟩) N N)) w') : wpList P ops Q (o :: rest) a w := by
  obtain ⟨i, hi, hz0, hz1, hz2⟩ := info_parts hinfo
  refine wpList_make_full w hgd l c t hop w.heap.size e i (.int .u8 0) 1 ht hi hz0 hz1 .i64 .i64 _ _ N hl hc rfl rfl (by rw [hz2]; omega) (by unfold maxLen; omega) (Nat.le_refl _) (fun w' h1 h2 => h w' ?_ h2)
  unfold OwnB
  have e1 := toList_madeCells_one (.int .u8 0) N
  rw [List.length_replicate, map_replicate0, ← e1]
  rw [Nat.mul_one] at h1
  exact h1

/-- A store into bytes that the call owns. -/
theorem OwnB.stored {w : World} {base e g cap : Nat} {l : List UInt8} {n : Nat} (h : OwnB w base e (.slice (some ⟨g, 0, none⟩) n cap) l) (j : Nat) (c : UInt8) :
    OwnB (w.setCell ⟨g, j, none⟩ (byteV c)) base e (.slice (some ⟨g, 0, none⟩) n cap) (l.set j c) ∧ w.grownBy (w.setCell ⟨g, j, none⟩ (byteV c)) (some g) := by
  obtain ⟨a, cap', hv⟩ := h.len
  simp only [Value.slice.injEq] at hv
  obtain ⟨_, rfl, _⟩ := hv
  have := World.ownsRow.stored h j (byteV c)
  refine ⟨?_, this.2⟩
  unfold OwnB
  rw [List.length_set, List.map_set]
  exact this.1

theorem OwnB.cellAt {w : World} {base e g cap : Nat} {l : List UInt8} {n : Nat} (h : OwnB w base e (.slice (some ⟨g, 0, none⟩) n cap) l) (j : Nat) (hj : j < l.length) :
    w.cell? ⟨g, j, none⟩ = some (.int .u8 (l[j].toNat : Int)) := by
  obtain ⟨a, cap', hv⟩ := h.len
  simp only [Value.slice.injEq] at hv
  obtain ⟨_, rfl, _⟩ := hv
  rw [World.ownsRow.cellAt h j (by omega)]
  simp [byteV, hj]

theorem OwnB.frozenAt {w : World} {base e g cap : Nat} {l : List UInt8} {n : Nat} (h : OwnB w base e (.slice (some ⟨g, 0, none⟩) n cap) l) (j : Nat) : w.frozen? ⟨g, j, none⟩ = false := by
  obtain ⟨a, cap', hv⟩ := h.len
  simp only [Value.slice.injEq] at hv
  obtain ⟨_, rfl, _⟩ := hv
  exact World.ownsRow.frozenAt h j

/-- One new byte in a block of its own: the source of 'append(b, c)'. -/
theorem Bytes.fresh (w : World) (cs : List UInt8) (e : TypeId) (fr : Nat × Nat) (arr : Array Value) (n : Nat) (hn : n = cs.length) (h : arr = (cs.map byteV).toArray) (hl : cs.length ≤ 9223372036854775807) :
    Bytes (w.alloc (.cells arr e fr)) (.slice (some ⟨w.heap.size, 0, none⟩) n n) cs := by
  subst h
  subst hn
  refine ⟨_, _, rfl, Nat.le_refl _, hl, fun _ => ⟨_, _, rfl, fun j hj => ?_⟩⟩
  rw [Nat.zero_add, cell_of_row (w.alloc _) w.heap.size j _ e fr (heap_alloc_new w _)]
  simp [hj, byteV]

theorem strCells_bytes (s : ByteArray) : Lib.strCells s = s.data.toList.map byteV := by
  unfold Lib.strCells
  apply List.map_congr_left
  intro b _
  rfl
theorem size_data (s : ByteArray) : s.data.toList.length = s.size := by rw [Array.length_toList]; rfl

/-- What 'append(out, src...)' of bytes does. -/
theorem run_append_bytes {P : Program} {w : World} (t ot : TypeId) (base : Nat) (e : TypeId)
    (ht : P.underlying t = some (.slice e)) (hinfo : (P.info? e).map (fun i => (i.zero, i.size, i.bytes)) = some (some (.int .u8 0), 1, 1))
    {v : Value} {l : List UInt8} (hown : OwnB w base e v l) {src : Value} {m : List UInt8} (hsrc : Bytes w src m) (hlen : l.length + m.length ≤ 140737488355328) (hbase : base ≤ w.heap.size) :
    ∃ v' w', (Builtin.append_ #[t, t] ot #[v, src]).run P w = .ok v' w' ∧ OwnB w' base e v' (l ++ m) ∧ w.grownBy w' v.ownBlock ∧ (∀ k, v'.ownBlock = some k → v.ownBlock = some k ∨ w.heap.size ≤ k) := by
  obtain ⟨i, hi, hz0, hz1, hz2⟩ := info_parts hinfo
  obtain ⟨ao, cap, rfl, _, _, hc⟩ := hsrc
  obtain ⟨v', w', h1, h2, h3, h4⟩ := run_append_src (P := P) (w := w) t ot base e i _ 1 1 ht hi hz0 hz1 hz2 rfl (by decide) v l.length (l.map byteV) hown ao m.length cap (m.map byteV) (by simp) (fun hm => by
    obtain ⟨b, off, rfl, hcc⟩ := hc (by intro e; subst e; exact hm rfl)
    refine ⟨_, rfl, fun j u hj => ?_⟩
    obtain ⟨hj', rfl⟩ := List.getElem?_eq_some_iff.1 hj
    rw [Addr.add_lit, hcc j (by simpa using hj')]
    simp [byteV]) (byteV_oneCell m) (by unfold maxLen; omega) (by omega) hbase
  exact ⟨v', w', h1, by unfold OwnB; rw [List.length_append, List.map_append]; exact h2, h3, h4⟩

/-- 'append(out, s...)': out the call's own, s a string. -/
theorem wpList_append_str {P : Program} {w : World} {ops : Array Oper} {rest : List Oper} {o : Oper} {a : Act} {Q : Exit → Act → World → Prop} (t u : TypeId) (base : Nat) (e : TypeId)
    (ht : P.underlying t = some (.slice e)) (hu : P.underlying u = some .string) (hinfo : (P.info? e).map (fun i => (i.zero, i.size, i.bytes)) = some (some (.int .u8 0), 1, 1))
    (hgd : o.guard = none) (sl x : Operand) (ho : o.op = .call { callee := .builtin .append, args := #[sl, x], argTypes := #[t, u] })
    {v : Value} {l : List UInt8} (hown : OwnB w base e v l) (s : ByteArray) (hs : a.eval sl = v) (hx : a.eval x = .string s)
    (hlen : l.length + s.size ≤ 140737488355328) (hbase : base ≤ w.heap.size)
    (h : ∀ v' w', OwnB w' base e v' (l ++ s.data.toList) → w.grownBy w' v.ownBlock → (∀ k, v'.ownBlock = some k → v.ownBlock = some k ∨ w.heap.size ≤ k) → wpList P ops Q rest (a.put o.dst v') w') : wpList P ops Q (o :: rest) a w := by
  obtain ⟨i, hi, hz, hsize, hby⟩ := info_parts hinfo
  refine wpList_plain hgd fun K hK => ?_
  have key : ∃ v' w', (Builtin.append_ #[t, u] o.type #[v, .string s]).run P w = .ok v' w' ∧ w'.ownsRow base e 1 v' (l.length + s.size) (l.map byteV ++ Lib.strCells s) ∧ w.grownBy w' v.ownBlock ∧ (∀ k, v'.ownBlock = some k → v.ownBlock = some k ∨ w.heap.size ≤ k) := by
    generalize hn : l.length = n at *
    have hown' : w.ownsRow base e 1 v n (l.map byteV) := by rw [← hn]; exact hown
    generalize l.map byteV = xs at hown'
    have hxl : xs.length = n := by simpa using hown'.1
    have hl : (xs ++ Lib.strCells s).length = (n + s.size) * 1 := by rw [List.length_append, hxl, Lib.strCells_length, Nat.mul_one]
    have grown : ∀ (old : Nat), old < n + s.size → ∀ (row : Option Nat),
        (w.drew.alloc (.cells (xs.toArray ++ (Lib.strCells s).toArray ++ Builtin.zeroCells (Value.int .u8 0).cells (grownCap w (n + s.size) old e - (n + s.size))) e)).ownsRow base e 1
          (.slice (some ⟨w.heap.size, 0, none⟩) (n + s.size) (grownCap w (n + s.size) old e)) (n + s.size) (xs ++ Lib.strCells s) ∧
        w.grownBy (w.drew.alloc (.cells (xs.toArray ++ (Lib.strCells s).toArray ++ Builtin.zeroCells (Value.int .u8 0).cells (grownCap w (n + s.size) old e - (n + s.size))) e)) row := by
      intro old ho row
      have hge := grownCap_ge w (n + s.size) old e
      have hcm : grownCap w (n + s.size) old e ≤ maxLen := grownCap_le_maxLen w (n + s.size) old e (by unfold maxLen; omega)
      refine ⟨⟨hl, .inr ⟨w.heap.size, _, _, rfl, hbase, _root_.Go.heap_alloc_new w.drew _, hge, hcm, ?_, ?_⟩⟩, ⟨rfl, rfl, rfl, by simp, fun k hk _ => Below.heap_alloc w.drew _ k hk⟩⟩
      · have hz1 : (Value.int IntKind.u8 0).cells.size = 1 := rfl
        simp only [Array.size_append, List.size_toArray, size_zeroCells, hz1, hxl, Lib.strCells_length]
        omega
      · simp only [Array.toList_append, List.append_assoc]
        rw [← List.append_assoc, ← hl]
        exact List.take_left
    rcases hown'.2 with ⟨rfl, rfl⟩ | ⟨g, cap, cur, rfl, hbg, hg, hnc, hcm, hcs, htake⟩
    · have hx0 : xs = [] := List.eq_nil_of_length_eq_zero hxl
      subst hx0
      by_cases hm : s.size = 0
      · have hn0 : Lib.strCells s = [] := List.eq_nil_of_length_eq_zero (by rw [Lib.strCells_length]; exact hm)
        refine ⟨.slice none 0 0, w, ?_, by rw [hm, hn0]; exact World.ownsRow_nil w base e 1, ⟨rfl, rfl, rfl, Nat.le_refl _, fun _ _ _ => rfl⟩, fun k hk => .inl hk⟩
        have hf := Lib.run_firstCells_string (P := P) w 1 s
        rw [hm] at hf
        simp [Builtin.append_, run_underlying ht, run_underlying hu, sizeOf, typeInfo, hi, hsize, Builtin.lenOf, hm, hf]
      · have hr := run_append_nil_string (P := P) w t u o.type e i (.int .u8 0) ht hu hi hz s (by omega) (by omega) (by rw [hby]; omega)
        have hgr := grown 0 (by omega) (Value.ownBlock (.slice none 0 0))
        simp only [Nat.zero_add, List.nil_append, Array.empty_append] at hgr ⊢
        have e1 : (s.data.map fun b => Value.int .u8 b.toNat) = (Lib.strCells s).toArray := by
          apply Array.ext'
          simp [Lib.strCells]
        rw [e1] at hr
        exact ⟨_, _, hr, hgr.1, hgr.2, fun k hk => .inr (by simp [Value.ownBlock] at hk; omega)⟩
    · by_cases hroom : n + s.size ≤ cap
      · have hcs' : cur.size = cap := by simpa using hcs
        have hr := Lib.run_append_room_string (P := P) w t u o.type e i ht hu hi hsize g n cap cur hg s hroom (by omega)
        refine ⟨_, _, hr, ⟨hl, .inr ⟨g, cap, _, rfl, hbg, setRow_heap w g cur _ e _ hg, hroom, hcm, ?_, ?_⟩⟩, ⟨rfl, rfl, rfl, by simp, fun k _ hk => setRow_other w g k _ (fun e => hk (by simp [Value.ownBlock, e]))⟩, fun k hk => .inl hk⟩
        · simp only [List.size_toArray, List.length_append, List.length_take, List.length_drop, Array.length_toList, Lib.strCells_length]
          omega
        · have ht' : cur.toList.take n = xs := by simpa using htake
          rw [ht', ← hl]
          exact List.take_left
      · have holds : ∀ j u, xs[j]? = some u → w.cell? ((⟨g, 0, none⟩ : Addr).add j) = some u := hown'.cells (g := g) rfl
        have hr := Lib.run_append_grow_string (P := P) w t u o.type e i (.int .u8 0) ht hu hi hz ⟨g, 0, none⟩ n cap xs (by rw [hsize]; simpa using hxl) holds s (by omega) (by omega) (by rw [hby]; exact growslice_fits (by omega) (by omega))
        have hgr := grown cap (by omega) (Value.ownBlock (.slice (some ⟨g, 0, none⟩) n cap))
        exact ⟨_, _, hr, hgr.1, hgr.2, fun k hk => .inr (by simp [Value.ownBlock] at hk; omega)⟩
  obtain ⟨v', w', hr, h2, h3, h4⟩ := key
  unfold Oper.wp execOp
  simp only [ho, resolve, invoke, builtin, Sem.run_bind, Sem.run_pure, Result.andThen_ok, List.map_toArray, List.map_cons, List.map_nil, hs, hx, hr]
  refine hK _ _ (h v' w' ?_ h3 h4)
  unfold OwnB
  rw [List.length_append, List.map_append, size_data, ← strCells_bytes]
  exact h2

/-- 'string(b)'. -/
theorem run_string_of {P : Program} {w : World} (src dst e : TypeId) (hs : P.underlying src = some (.slice e)) (he : P.underlying e = some (.int .u8)) (hd : P.underlying dst = some .string) {v : Value} {l : List UInt8} (h : Bytes w v l) :
    (convert src dst v).run P w = .ok (.string ⟨l.toArray⟩) w := by
  obtain ⟨a, cap, rfl, h1, h2, h3⟩ := h
  by_cases hl : l = []
  · subst hl
    cases a with
    | none => rw [run_convert_bytes_nil w src e hs he _ _ dst hd]; rfl
    | some x =>
      rw [run_convert_bytes_string w src dst e _ _ _ hs he hd]
      simp only [List.length_nil]
      rw [run_bytesToString w x 0 cap [] (by simp [loadCells, loadCellsFrom])]
      rfl
  · obtain ⟨b, off, rfl, hc⟩ := h3 hl
    exact run_convert_bytes_back w src dst e _ cap l hs he hd (fun j hj => by rw [Addr.add_lit]; exact hc j hj)

/-- A string of these bytes. -/
def strV (l : List UInt8) : Value := .string ⟨l.toArray⟩

/-- A post: some value, which the call owns, of these bytes. -/
def RetOwn (w : World) (base e : Nat) (v : Value) (l : List UInt8) (x : Ending) (w' : World) : Prop :=
  ∃ v', x = .returned v' ∧ OwnB w' base e v' l ∧ w.grownBy w' v.ownBlock ∧ (∀ k, v'.ownBlock = some k → v.ownBlock = some k ∨ w.heap.size ≤ k)

/-- A post: a slice of these bytes, and nothing that was there has turned. -/
def RetBytes (w : World) (l : List UInt8) (x : Ending) (w' : World) : Prop :=
  ∃ v', x = .returned v' ∧ Bytes w' v' l ∧ Below w.heap.size w w'

end Go.Proofs.YtmddhlfjilkdfaaGreatDoor
namespace Go.Proofs.YtmddhlfjilkdfaaGreatDoor
set_option linter.unusedVariables false
set_option linter.unusedSimpArgs false

/-- A number without sign, as the program writes it. -/
def zig (n : Int) : Nat := if n < 0 then (-2 * n - 1).toNat else (2 * n).toNat
def zag (u : Nat) : Int := if u % 2 = 1 then -(u / 2 : Nat) - 1 else (u / 2 : Nat)

/-- Bytes of seven bits each, the lowest first; the last one is below 128. -/
def leb : Nat → Nat → List UInt8
  | 0, u => [UInt8.ofNat u]
  | f + 1, u => if u < 128 then [UInt8.ofNat u] else UInt8.ofNat (u % 128 + 128) :: leb f (u / 128)
def putN (n : Int) : List UInt8 := leb 9 (zig n)

/-- The first number of bytes: its value, how many bytes, the error. -/
def getF : Nat → Nat → List UInt8 → Int × Nat × Nat
  | _, _, [] => (0, 0, 2)
  | i, u, c :: l =>
    if i = 9 ∧ 1 < c.toNat then (0, 0, 1)
    else if 127 < c.toNat then getF (i + 1) (u + c.toNat % 128 * 128 ^ i) l
    else if 0 < i ∧ c.toNat = 0 then (0, 0, 1)
    else (zag (u + c.toNat % 128 * 128 ^ i), i + 1, 0)
def getN (l : List UInt8) : Int × Nat × Nat := getF 0 0 l

theorem zig_lt {n : Int} (h0 : -9223372036854775808 ≤ n) (h1 : n ≤ 9223372036854775807) : zig n < 18446744073709551616 := by unfold zig; split <;> omega
theorem zag_zig (n : Int) : zag (zig n) = n := by
  unfold zig zag
  by_cases h : n < 0
  · rw [if_pos h, if_pos (by omega)]; omega
  · rw [if_neg h, if_neg (by omega)]; omega
theorem zag_bd {u : Nat} (h : u < 18446744073709551616) : -9223372036854775808 ≤ zag u ∧ zag u ≤ 9223372036854775807 := by unfold zag; split <;> omega

theorem toNat_ofNat {u : Nat} (h : u < 256) : (UInt8.ofNat u).toNat = u := by simp; omega

theorem leb_len (f : Nat) : ∀ u, 1 ≤ (leb f u).length ∧ (leb f u).length ≤ f + 1 := by
  induction f with
  | zero => intro u; simp [leb]
  | succ f ih =>
    intro u
    rw [leb]
    split
    · simp
    · have := ih (u / 128)
      simp only [List.length_cons]
      omega
theorem putN_len (n : Int) : 1 ≤ (putN n).length ∧ (putN n).length ≤ 10 := leb_len 9 _

/-- What was written is read again, whatever stands behind. -/
theorem getF_leb (rest : List UInt8) (f : Nat) : ∀ (i u a : Nat), i + f = 9 → u < 2 * 128 ^ f → (0 < i → 0 < u) →
    getF i a (leb f u ++ rest) = (zag (a + u * 128 ^ i), i + (leb f u).length, 0) := by
  induction f with
  | zero =>
    intro i u a hi hu h0
    have hi9 : i = 9 := by omega
    subst hi9
    have hu' : u < 2 := by simpa using hu
    have := h0 (by omega)
    have ht : (UInt8.ofNat u).toNat = u := toNat_ofNat (by omega)
    simp only [leb, List.cons_append, List.nil_append, getF, ht]
    rw [if_neg (by omega), if_neg (by omega), if_neg (by omega)]
    simp [Nat.mod_eq_of_lt (show u < 128 by omega)]
  | succ f ih =>
    intro i u a hi hu h0
    rw [leb]
    by_cases h : u < 128
    · rw [if_pos h]
      have ht : (UInt8.ofNat u).toNat = u := toNat_ofNat (by omega)
      simp only [List.cons_append, List.nil_append, getF, ht]
      rw [if_neg (by omega), if_neg (by omega), if_neg (by intro hh; have := h0 hh.1; omega)]
      simp [Nat.mod_eq_of_lt h]
    · rw [if_neg h]
      have ht : (UInt8.ofNat (u % 128 + 128)).toNat = u % 128 + 128 := toNat_ofNat (by omega)
      simp only [List.cons_append, getF, ht]
      rw [if_neg (by omega), if_pos (by omega), ih (i + 1) (u / 128) _ (by omega) (by rw [Nat.pow_succ] at hu; omega) (by intro _; omega)]
      have e : a + (u % 128 + 128) % 128 * 128 ^ i + u / 128 * 128 ^ (i + 1) = a + u * 128 ^ i := by
        rw [show (u % 128 + 128) % 128 = u % 128 by omega, Nat.pow_succ, Nat.add_assoc, ← Nat.mul_assoc, Nat.mul_right_comm, ← Nat.add_mul]
        congr 2
        omega
      rw [e]
      simp only [List.length_cons]
      congr 2
      omega

theorem getN_putN (n : Int) (rest : List UInt8) (h0 : -9223372036854775808 ≤ n) (h1 : n ≤ 9223372036854775807) : getN (putN n ++ rest) = (n, (putN n).length, 0) := by
  have h := getF_leb rest 9 0 (zig n) 0 (by omega) (by have := zig_lt h0 h1; omega) (by omega)
  unfold getN putN
  rw [h]
  simp [zag_zig]

/-- A cut of what was written is not all. -/
theorem getF_cut (f : Nat) : ∀ (i u a k : Nat), i + f = 9 → u < 2 * 128 ^ f → k < (leb f u).length → getF i a ((leb f u).take k) = (0, 0, 2) := by
  induction f with
  | zero =>
    intro i u a k hi hu hk
    simp only [leb, List.length_cons, List.length_nil] at hk
    obtain rfl : k = 0 := by omega
    simp [getF]
  | succ f ih =>
    intro i u a k hi hu hk
    rw [leb] at hk ⊢
    by_cases h : u < 128
    · rw [if_pos h] at hk ⊢
      simp only [List.length_cons, List.length_nil] at hk
      obtain rfl : k = 0 := by omega
      simp [getF]
    · rw [if_neg h] at hk ⊢
      cases k with
      | zero => simp [getF]
      | succ k =>
        have ht : (UInt8.ofNat (u % 128 + 128)).toNat = u % 128 + 128 := toNat_ofNat (by omega)
        simp only [List.take_succ_cons, getF, ht]
        rw [if_neg (by omega), if_pos (by omega)]
        exact ih (i + 1) (u / 128) _ k (by omega) (by rw [Nat.pow_succ] at hu; omega) (by simpa using hk)
theorem getN_cut (n : Int) (k : Nat) (h0 : -9223372036854775808 ≤ n) (h1 : n ≤ 9223372036854775807) (hk : k < (putN n).length) : getN ((putN n).take k) = (0, 0, 2) :=
  getF_cut 9 0 (zig n) 0 k (by omega) (by have := zig_lt h0 h1; omega) hk

/-- What any bytes give. -/
theorem getF_any (l : List UInt8) : ∀ (i u : Nat), i ≤ 9 → u < 128 ^ i → (getF i u l = (0, 0, 1) ∨ getF i u l = (0, 0, 2)) ∨
    ∃ x k, getF i u l = (x, k, 0) ∧ -9223372036854775808 ≤ x ∧ x ≤ 9223372036854775807 ∧ i < k ∧ k ≤ i + l.length ∧ k ≤ 10 := by
  induction l with
  | nil => intro i u _ _; exact .inl (.inr rfl)
  | cons c l ih =>
    intro i u hi hu
    have hc := c.toNat_lt
    rw [getF]
    by_cases h1 : i = 9 ∧ 1 < c.toNat
    · rw [if_pos h1]; exact .inl (.inl rfl)
    · rw [if_neg h1]
      by_cases h2 : 127 < c.toNat
      · rw [if_pos h2]
        have hlt : u + c.toNat % 128 * 128 ^ i < 128 ^ (i + 1) := by
          have : c.toNat % 128 * 128 ^ i ≤ 127 * 128 ^ i := Nat.mul_le_mul_right _ (by omega)
          rw [Nat.pow_succ]
          omega
        rcases ih (i + 1) _ (by omega) hlt with h | ⟨x, k, h, a, b, c', d, e⟩
        · exact .inl h
        · exact .inr ⟨x, k, h, a, b, by omega, by simp; omega, e⟩
      · rw [if_neg h2]
        by_cases h3 : 0 < i ∧ c.toNat = 0
        · rw [if_pos h3]; exact .inl (.inl rfl)
        · rw [if_neg h3]
          have hlt : u + c.toNat % 128 * 128 ^ i < 18446744073709551616 := by
            by_cases h9 : i = 9
            · subst h9
              have : c.toNat % 128 * 128 ^ 9 ≤ 1 * 128 ^ 9 := Nat.mul_le_mul_right _ (by omega)
              omega
            · have h4 : c.toNat % 128 * 128 ^ i ≤ 127 * 128 ^ i := Nat.mul_le_mul_right _ (by omega)
              have h5 : 128 ^ (i + 1) ≤ 128 ^ 9 := Nat.pow_le_pow_right (by omega) (by omega)
              rw [Nat.pow_succ] at h5
              omega
          have := zag_bd hlt
          exact .inr ⟨_, _, rfl, this.1, this.2, by omega, by simp only [List.length_cons]; omega, by omega⟩
theorem getN_any (l : List UInt8) : (getN l = (0, 0, 1) ∨ getN l = (0, 0, 2)) ∨ ∃ x k, getN l = (x, k, 0) ∧ -9223372036854775808 ≤ x ∧ x ≤ 9223372036854775807 ∧ 0 < k ∧ k ≤ l.length ∧ k ≤ 10 := by
  rcases getF_any l 0 0 (by omega) (by decide) with h | ⟨x, k, h, a, b, c, d, e⟩
  · exact .inl h
  · exact .inr ⟨x, k, h, a, b, c, by omega, e⟩

/-- Four bytes of a number below 2^32. -/
def fourN (u : Nat) : List UInt8 := [UInt8.ofNat (u / 16777216), UInt8.ofNat (u / 65536), UInt8.ofNat (u / 256), UInt8.ofNat u]

/-- A text: its length, and its bytes. -/
def putT (s : List UInt8) : List UInt8 := putN s.length ++ s
def getT (l : List UInt8) : List UInt8 × Nat × Nat :=
  if (getN l).2.2 ≠ 0 then ([], 0, (getN l).2.2)
  else if (getN l).1 < 0 ∨ 1048576 < (getN l).1 then ([], 0, 1)
  else if (l.length : Int) - (getN l).2.1 < (getN l).1 then ([], 0, 2)
  else ((l.drop (getN l).2.1).take (getN l).1.toNat, (getN l).2.1 + (getN l).1.toNat, 0)

theorem getT_putT (s rest : List UInt8) (h : s.length ≤ 1048576) : getT (putT s ++ rest) = (s, (putT s).length, 0) := by
  have hg := getN_putN s.length (s ++ rest) (by omega) (by omega)
  rw [← List.append_assoc] at hg
  unfold putT
  unfold getT
  simp only [hg]
  rw [if_neg (by omega), if_neg (by omega), if_neg (by simp only [List.length_append]; omega)]
  simp

theorem getT_cut (s : List UInt8) (k : Nat) (h : s.length ≤ 1048576) (hk : k < (putT s).length) : getT ((putT s).take k) = ([], 0, 2) := by
  by_cases hk' : k < (putN s.length).length
  · have e : (putT s).take k = (putN s.length).take k := by
      unfold putT
      rw [List.take_append_of_le_length (by omega)]
    rw [e]
    unfold getT
    simp only [getN_cut s.length k (by omega) (by omega) hk']
    rfl
  · have e : (putT s).take k = putN s.length ++ s.take (k - (putN s.length).length) := by
      unfold putT
      rw [List.take_append, List.take_of_length_le (by omega)]
    rw [e]
    have hg := getN_putN s.length (s.take (k - (putN s.length).length)) (by omega) (by omega)
    unfold getT
    simp only [hg]
    unfold putT at hk
    rw [List.length_append] at hk
    rw [if_neg (by omega), if_neg (by omega), if_pos (by simp; omega)]

theorem leb_mono (f : Nat) : ∀ u v, u ≤ v → (leb f u).length ≤ (leb f v).length := by
  induction f with
  | zero => intro u v _; simp [leb]
  | succ f ih =>
    intro u v h
    rw [leb, leb]
    by_cases hu : u < 128
    · rw [if_pos hu]
      split
      · simp
      · simp
    · rw [if_neg hu, if_neg (by omega)]
      have := ih (u / 128) (v / 128) (by omega)
      simp only [List.length_cons]
      omega
theorem putN_mono {m n : Int} (h : zig m ≤ zig n) : (putN m).length ≤ (putN n).length := leb_mono 9 _ _ h
end Go.Proofs.YtmddhlfjilkdfaaGreatDoor
namespace Go.Proofs.YtmddhlfjilkdfaaGreatDoor
set_option linter.unusedVariables false
set_option linter.unusedSimpArgs false
open Go.RowKit

theorem info8 : (Tryz.prog.info? 5).map (fun i => (i.zero, i.size, i.bytes)) = some (some (.int .u8 0), 1, 1) := by kernel_rfl

theorem max_xor (x : Nat) (h : x < 18446744073709551616) : 18446744073709551615 ^^^ x = 18446744073709551615 - x := by
  have e1 : (BitVec.allOnes 64 ^^^ BitVec.ofNat 64 x) = ~~~(BitVec.ofNat 64 x) := BitVec.allOnes_xor
  have e2 := congrArg BitVec.toNat e1
  rw [BitVec.toNat_xor, BitVec.toNat_not, BitVec.toNat_allOnes, BitVec.toNat_ofNat, Nat.mod_eq_of_lt (by simpa using h)] at e2
  simpa using e2

theorem xor_u64 (x : Int) (h0 : 0 ≤ x) (h1 : x < 18446744073709551616) : bits .xor .u64 IntKind.u64.max x = 18446744073709551615 - x := by
  obtain ⟨y, rfl⟩ := Int.eq_ofNat_of_zero_le h0
  rw [show IntKind.u64.max = ((18446744073709551615 : Nat) : Int) by decide, u64_xor_nat _ _ (by omega) (by omega), max_xor y (by omega)]
  omega

theorem zig_neg (n : Int) (hn0 : -9223372036854775808 ≤ n) (hn : n < 0) : bits .xor .u64 IntKind.u64.max (IntKind.u64.wrap (IntKind.u64.wrap n * 2)) = (zig n : Nat) := by
  rw [IntKind.wrap_u64, IntKind.wrap_u64, xor_u64 _ (by omega) (by omega)]
  unfold zig
  rw [if_pos hn]
  omega
theorem zig_pos (n : Int) (hn1 : n ≤ 9223372036854775807) (hn : ¬ n < 0) : IntKind.u64.wrap (IntKind.u64.wrap n * 2) = ((zig n : Nat) : Int) := by
  rw [IntKind.wrap_u64, IntKind.wrap_u64]
  unfold zig
  rw [if_neg hn]
  omega

theorem or128 (u : Nat) (_h : u < 18446744073709551616) : bits .or .u8 ((u : Int) % 256) 128 = ((u % 128 + 128 : Nat) : Int) := by
  rw [show ((u : Int) % 256) = ((u % 256 : Nat) : Int) by omega, show (128 : Int) = ((128 : Nat) : Int) by rfl, u8_or_nat _ _ (by omega) (by omega)]
  congr 1
  have h1 : u % 256 = u % 128 ∨ u % 256 = u % 128 + 128 := by omega
  have h2 : u % 128 < 128 := by omega
  generalize u % 128 = m at *
  generalize u % 256 = k at *
  have key : ∀ m : Fin 128, (m.val ||| 128 = m.val + 128) ∧ ((m.val + 128) ||| 128 = m.val + 128) := by decide
  rcases h1 with rfl | rfl
  · exact (key ⟨_, h2⟩).1
  · exact (key ⟨_, h2⟩).2

theorem num_put (v : Value) (l : List UInt8) (n : Int) (B : Nat) (w : World) (hn0 : -9223372036854775808 ≤ n) (hn1 : n ≤ 9223372036854775807) (hl : l.length ≤ 140737488355000) (hB : B ≤ w.heap.size) (ho : OwnB w B 5 v l) :
    Calls Tryz.prog 81 #[v, .int .i64 n] w fun e w' => RetOwn w B 5 v (l ++ putN n) e w' := by
  have hz := zig_lt hn0 hn1
  go_enter Tryz.func81, Tryz.ntmps81
  go_upto_if 10 with fail
  go_cut [5] (fun s wx => s = .int .u64 (zig n : Nat) ∧ wx = w)
  case first =>
    have H1 := Lib.hid (zig_neg n hn0)
    have H2 := Lib.hid (zig_pos n hn1)
    by_cases hneg : n < 0
    · go_wp2_with fail
      go_meet
      exact ⟨congrArg (Value.int .u64) (H1.out hneg), rfl⟩
    · go_wp2_with fail
      go_meet
      exact ⟨congrArg (Value.int .u64) (H2.out hneg), rfl⟩
  case rest =>
    obtain ⟨rfl, rfl⟩ := hcut
    clear hn0 hn1
    go_wp2_with fail
    go_loopw [0, 5] (fun s x wr => ∃ (f u : Nat) (done : List UInt8), putN n = done ++ leb f u ∧ u < 2 * 128 ^ f ∧ done.length + f = 9 ∧ x = .int .u64 u ∧ OwnB wr B 5 s (l ++ done) ∧ wc.grownBy wr v.ownBlock ∧ (∀ k, s.ownBlock = some k → v.ownBlock = some k ∨ wc.heap.size ≤ k)) (fun _ x _ => (intOf x).toNat)
    case atStart => exact ⟨9, zig n, [], rfl, by omega, rfl, rfl, by rw [List.append_nil]; exact ho, World.grownBy.refl _ _, fun k hk => .inl hk⟩
    case round =>
      obtain ⟨f, u, done, hput, hu, hd, rfl, hown, hgr, hrow⟩ := hrel
      have HPUT := Lib.hid hput
      clear hput
      have hu64 : u < 18446744073709551616 := by
        have : 128 ^ f ≤ 128 ^ 9 := Nat.pow_le_pow_right (by omega) (by omega)
        omega
      have hsz := hgr.size
      by_cases hlt : 127 < u
      · obtain ⟨f, rfl⟩ : ∃ f', f = f' + 1 := ⟨f - 1, by
          rcases f with _ | f
          · simp at hu; omega
          · rfl⟩
        have HARR : Hid (#[Value.int .u8 (bits .or .u8 ((u : Int) % 256) 128)] = ([UInt8.ofNat (u % 128 + 128)].map byteV).toArray) := Lib.hid (by
          rw [or128 u hu64]
          simp [byteV, show (u % 128 + 128) % 256 = u % 128 + 128 by omega])
        have HC : Hid (leb (f + 1) u = UInt8.ofNat (u % 128 + 128) :: leb f (u / 128)) := Lib.hid (by rw [leb, if_neg (by omega)])
        generalize UInt8.ofNat (u % 128 + 128) = c at *
        go_wp2_with (at_builtin; refine wpList_append_bytes 143 B 5 Tryz.underlying143 info8 rfl _ _ rfl (hown.alloc _) (Bytes.fresh wr [c] _ (0, 0) _ 1 rfl HARR.out (by simp)) rfl rfl (by simp; omega) (by simp; omega) ?_)
        intro v2 w2 ho2 hg2 hk2
        have hg3 : wc.grownBy w2 v.ownBlock := grownBy_trans (grownBy_trans hgr (World.grownBy_alloc wr _ none) (by simp)) hg2 (fun x hx => (hrow x hx).symm.imp id id)
        have hk3 : ∀ k, v2.ownBlock = some k → v.ownBlock = some k ∨ wc.heap.size ≤ k := fun k hk => by
          rcases hk2 k hk with h | h
          · exact hrow k h
          · right; first | omega | (simp at h; omega)
        have HK3 := Lib.hid hk3
        clear hk3 hk2 hrow hg2 hgr hown
        go_wp2_with fail
        go_roundw
        case rel =>
          refine ⟨f, u / 128, done ++ [c], ?_, ?_, by simp; omega, by go_num, ho2, hg3, HK3.out⟩
          · rw [HPUT.out, HC.out]
            simp
          · rw [Nat.pow_succ] at hu; omega
        case measure => simp [intOf]; omega
      · have HARR : Hid (#[Value.int .u8 (u : Int)] = ([UInt8.ofNat u].map byteV).toArray) := Lib.hid (by
          simp [byteV, show u % 256 = u by omega])
        go_wp2_with (at_builtin; refine wpList_append_bytes 143 B 5 Tryz.underlying143 info8 rfl _ _ rfl (hown.alloc _) (Bytes.fresh wr [UInt8.ofNat u] _ (0, 0) _ 1 rfl HARR.out (by simp)) rfl rfl (by simp; omega) (by simp; omega) ?_)
        intro v2 w2 ho2 hg2 hk2
        have hg3 : wc.grownBy w2 v.ownBlock := grownBy_trans (grownBy_trans hgr (World.grownBy_alloc wr _ none) (by simp)) hg2 (fun x hx => (hrow x hx).symm.imp id id)
        have hk3 : ∀ k, v2.ownBlock = some k → v.ownBlock = some k ∨ wc.heap.size ≤ k := fun k hk => by
          rcases hk2 k hk with h | h
          · exact hrow k h
          · right; first | omega | (simp at h; omega)
        have HK3 := Lib.hid hk3
        clear hk3 hk2 hrow hg2 hgr hown
        go_wp2_with fail
        go_ret
        refine ⟨v2, rfl, ?_, hg3, HK3.out⟩
        have e : leb f u = [UInt8.ofNat u] := by
          cases f with
          | zero => rfl
          | succ f => rw [leb, if_pos (by omega)]
        rw [HPUT.out, e]
        first | exact ho2 | (rw [← List.append_assoc]; exact ho2)
end Go.Proofs.YtmddhlfjilkdfaaGreatDoor
namespace Go.Proofs.YtmddhlfjilkdfaaGreatDoor
set_option linter.unusedVariables false
set_option linter.unusedSimpArgs false
open Go.RowKit

/-- The results of Get, as values. -/
def getV (r : Int × Nat × Nat) : Value := .tuple #[.int .i64 r.1, .int .i64 (r.2.1 : Int), .int .i64 (r.2.2 : Int)]

/-- One more byte of a number. -/
theorem get_mix (u c k : Nat) (hc : c < 256) (hu : u < 128 ^ k) (hU : u + c % 128 * 128 ^ k < 18446744073709551616) :
    bits .or .u64 (u : Int) (IntKind.u64.wrap (IntKind.u64.wrap (bits .and .u8 (c : Int) 127) * 2 ^ (7 * k))) = ((u + c % 128 * 128 ^ k : Nat) : Int) := by
  have h1 : bits .and .u8 (c : Int) 127 = ((c % 128 : Nat) : Int) := by
    rw [show (127 : Int) = ((127 : Nat) : Int) from rfl, u8_and_nat _ _ hc (by omega)]
    congr 1
    exact Nat.and_two_pow_sub_one_eq_mod c 7
  have h2 : (2 : Int) ^ (7 * k) = ((128 ^ k : Nat) : Int) := by
    rw [Int.natCast_pow, Int.pow_mul]
    rfl
  have h3 : IntKind.u64.wrap ((c % 128 : Nat) : Int) = ((c % 128 : Nat) : Int) := by rw [IntKind.wrap_u64]; omega
  have hle : c % 128 * 128 ^ k < 18446744073709551616 := by omega
  have h4 : ((c % 128 : Nat) : Int) * ((128 ^ k : Nat) : Int) = ((c % 128 * 128 ^ k : Nat) : Int) := by rw [Int.natCast_mul]
  rw [h1, h3, h2, h4, IntKind.wrap_u64]
  rw [show (((c % 128 * 128 ^ k : Nat) : Int) % 18446744073709551616) = ((c % 128 * 128 ^ k : Nat) : Int) by omega]
  rw [u64_or_nat _ _ (by omega) hle]
  congr 1
  have e : 128 ^ k = 2 ^ (7 * k) := by rw [Nat.pow_mul]
  rw [e] at hu ⊢
  rw [Nat.mul_comm, Nat.add_comm, Nat.two_pow_add_eq_or_of_lt hu, Nat.or_comm]

set_option maxRecDepth 100000 in
theorem num_get (v : Value) (l : List UInt8) (w : World) (hb : Bytes w v l) :
    Calls Tryz.prog 84 #[v] w fun e w' => e = .returned (getV (getN l)) ∧ w' = w := by
  obtain ⟨a, cap, rfl, hcap, hcm, hc⟩ := hb
  go_enter Tryz.func84, Tryz.ntmps84
  go_wp2_with fail
  go_loop [5, 11] (fun x i => ∃ k u : Nat, k ≤ l.length ∧ k ≤ 9 ∧ i = .int .i64 k ∧ x = .int .u64 u ∧ u < 128 ^ k ∧ getF k u (l.drop k) = getN l) (fun _ i => l.length - (intOf i).toNat)
  case atStart => exact ⟨0, 0, Nat.zero_le _, by omega, rfl, rfl, by decide, rfl⟩
  case round =>
    obtain ⟨k, u, hk, hk9, rfl, rfl, hu, hg⟩ := hrel
    by_cases hlt : k < l.length
    · obtain ⟨b, off, rfl, hcell⟩ := hc (by intro h; simp [h] at hlt)
      have hck := hcell k hlt
      have hcb := (l[k]).toNat_lt
      clear hc hcell
      have HG : Hid (getF k u (l[k] :: l.drop (k + 1)) = getN l) := Lib.hid (by rw [← List.drop_eq_getElem_cons hlt]; exact hg)
      generalize l[k] = c at *
      clear hg
      have hu64 : u < 9223372036854775808 := by
        have : 128 ^ k ≤ 128 ^ 9 := Nat.pow_le_pow_right (by omega) (by omega)
        omega
      have HU := Lib.hid hu
      clear hu
      have hU64 : u + c.toNat % 128 * 128 ^ k < 18446744073709551616 ∨ (k = 9 ∧ 1 < c.toNat) := by
        by_cases h9 : k = 9
        · subst h9
          by_cases h1 : 1 < c.toNat
          · exact .inr ⟨rfl, h1⟩
          · left
            have : c.toNat % 128 * 128 ^ 9 ≤ 1 * 128 ^ 9 := Nat.mul_le_mul_right _ (by omega)
            omega
        · left
          have h4 : c.toNat % 128 * 128 ^ k ≤ 127 * 128 ^ k := Nat.mul_le_mul_right _ (by omega)
          have h5 : 128 ^ (k + 1) ≤ 128 ^ 9 := Nat.pow_le_pow_right (by omega) (by omega)
          rw [Nat.pow_succ] at h5
          have := HU.out
          omega
      go_upto_region 5 with fail
      go_cut [21] (fun s wx => s = .bool (decide (k = 9 ∧ 1 < c.toNat)) ∧ wx = w)
      case first =>
        by_cases h9 : k = 9
        · subst h9
          by_cases h1 : 1 < c.toNat
          · go_wp2_with fail
            go_meet
            exact ⟨by simp; omega, rfl⟩
          · go_wp2_with fail
            go_meet
            exact ⟨by simp; omega, rfl⟩
        · have h9b : ((k : Int) == 9) = false := by simp; omega
          go_wp2_with fail
          go_meet
          exact ⟨by simp [h9], rfl⟩
      case rest =>
        obtain ⟨rfl, rfl⟩ := hcut
        by_cases hA : k = 9 ∧ 1 < c.toNat
        · have hAd : decide (k = 9 ∧ 1 < c.toNat) = true := by simpa using hA
          go_wp2_with fail
          go_ret3
          exact ⟨by rw [← HG.out, getF, if_pos hA]; rfl, rfl⟩
        · have hAd : decide (k = 9 ∧ 1 < c.toNat) = false := by simpa using hA
          have hU64 := hU64.resolve_right hA
          have HM := Lib.hid (get_mix u c.toNat k hcb HU.out hU64)
          have HL : Hid (u + c.toNat % 128 * 128 ^ k < 128 ^ (k + 1)) := Lib.hid (by
            have : c.toNat % 128 * 128 ^ k ≤ 127 * 128 ^ k := Nat.mul_le_mul_right _ (by omega)
            rw [Nat.pow_succ]
            have := HU.out
            omega)
          generalize hU : u + c.toNat % 128 * 128 ^ k = U at *
          have HUU := Lib.hid hU
          clear hU
          go_upto_region 7 with fail
          go_cut [5] (fun s wx => s = .int .u64 (U : Nat) ∧ wx = wc)
          case first =>
            go_wp2_with fail
            go_meet
            exact ⟨congrArg (Value.int .u64) HM.out, rfl⟩
          case rest =>
            obtain ⟨rfl, rfl⟩ := hcut
            by_cases hB : 127 < c.toNat
            · go_wp2_with fail
              go_round
              case rel => exact ⟨k + 1, U, by omega, by omega, by go_num, rfl, HL.out, by rw [← HG.out, getF, if_neg hA, if_pos hB, HUU.out]⟩
              case measure => simp [intOf]; omega
            · go_upto_region 9 with fail
              go_cut [37] (fun s wx => s = .bool (decide (0 < k ∧ c.toNat = 0)) ∧ wx = wc)
              case first =>
                by_cases hk0 : 0 < k
                · go_wp2_with fail
                  go_meet
                  exact ⟨by congr 1; rw [Bool.eq_iff_iff]; simp [hk0], rfl⟩
                · go_wp2_with fail
                  go_meet
                  exact ⟨by simp [hk0], rfl⟩
              case rest =>
                obtain ⟨rfl, rfl⟩ := hcut
                by_cases hC : 0 < k ∧ c.toNat = 0
                · have hCd : decide (0 < k ∧ c.toNat = 0) = true := by simpa using hC
                  go_wp2_with fail
                  go_ret3
                  exact ⟨by rw [← HG.out, getF, if_neg hA, if_neg hB, if_pos hC]; rfl, rfl⟩
                · have hCd : decide (0 < k ∧ c.toNat = 0) = false := by simpa using hC
                  have HF : Hid (getN l = (zag U, k + 1, 0)) := Lib.hid (by rw [← HG.out, getF, if_neg hA, if_neg hB, if_neg hC, HUU.out])
                  have hU2 : U / 2 < 9223372036854775808 := by omega
                  by_cases hodd : U % 2 = 1
                  · have ht : (bits .and .u64 (U : Int) 1 == 1) = true := by
                      rw [and_one_u64 (U : Int) (by omega) (by omega)]; simp; omega
                    go_wp2_with fail
                    go_ret3
                    have hv : bits .xor .i64 (-1) ((U : Int) / 2) = zag U := by
                      rw [show (U : Int) / 2 = ((U / 2 : Nat) : Int) by omega, i64_not _ hU2]
                      unfold zag
                      rw [if_pos hodd]
                      omega
                    refine ⟨?_, rfl⟩
                    show Ending.returned (Value.tuple #[.int .i64 (bits .xor .i64 (-1) ((U : Int) / 2)), .int .i64 ((k : Int) + 1), .int .i64 0]) = _
                    rw [hv, HF.out]
                    rfl
                  · have ht : (bits .and .u64 (U : Int) 1 == 1) = false := by
                      rw [and_one_u64 (U : Int) (by omega) (by omega)]; simp; omega
                    go_wp2_with fail
                    go_ret3
                    have hv : ((U : Int) / 2) = zag U := by
                      unfold zag
                      rw [if_neg hodd]
                      omega
                    refine ⟨?_, rfl⟩
                    show Ending.returned (Value.tuple #[.int .i64 ((U : Int) / 2), .int .i64 ((k : Int) + 1), .int .i64 0]) = _
                    rw [hv, HF.out]
                    rfl
    · have hke : k = l.length := by omega
      have HE := Lib.hid hke
      clear hke
      go_wp2_with fail
      go_ret3
      refine ⟨?_, rfl⟩
      have e := HE.out
      subst e
      rw [List.drop_length] at hg
      rw [← hg]
      rfl

theorem get_mul (u c k W : Nat) (_hc : c < 256) (hW : W = 128 ^ k) (hU : u + c % 128 * 128 ^ k < 18446744073709551616) :
    IntKind.u64.wrap ((u : Int) + IntKind.u64.wrap ((c : Int) % 128 * (W : Int))) = ((u + c % 128 * 128 ^ k : Nat) : Int) := by
  subst hW
  have h4 : (c : Int) % 128 * ((128 ^ k : Nat) : Int) = ((c % 128 * 128 ^ k : Nat) : Int) := by rw [Int.natCast_mul]; rfl
  rw [h4, IntKind.wrap_u64, IntKind.wrap_u64]
  generalize c % 128 * 128 ^ k = x at *
  omega

theorem get_next (k W : Nat) (hk : k < 9) (hW : W = 128 ^ k) : IntKind.u64.wrap ((W : Int) * 128) = ((128 ^ (k + 1) : Nat) : Int) := by
  subst hW
  have h5 : 128 ^ (k + 1) ≤ 128 ^ 9 := Nat.pow_le_pow_right (by omega) (by omega)
  rw [IntKind.wrap_u64, Nat.pow_succ] at *
  generalize 128 ^ k = x at *
  omega

end Go.Proofs.YtmddhlfjilkdfaaGreatDoor
namespace Go.Proofs.YtmddhlfjilkdfaaGreatDoor
set_option linter.unusedVariables false
set_option linter.unusedSimpArgs false
open Go.RowKit

theorem num_putText (v : Value) (l : List UInt8) (s : ByteArray) (B : Nat) (w : World) (hl : l.length + s.size ≤ 140737488354000) (hB : B ≤ w.heap.size) (ho : OwnB w B 5 v l) :
    Calls Tryz.prog 82 #[v, .string s] w fun e w' => RetOwn w B 5 v (l ++ putT s.data.toList) e w' := by
  go_enter Tryz.func82, Tryz.ntmps82
  go_wp2_with fail
  refine (num_put v l s.size B w (by omega) (by omega) (by omega) hB ho).mono ?_
  rintro e w1 ⟨v1, rfl, ho1, hg1, hk1⟩
  have hpl := putN_len s.size
  have hsz := hg1.size
  have HK1 := Lib.hid hk1
  clear hk1
  go_wp2_with (at_builtin; refine wpList_append_str 143 9 B 5 Tryz.underlying143 Tryz.underlying9 info8 rfl _ _ rfl ho1 s rfl rfl (by simp; omega) (by omega) ?_)
  intro v2 w2 ho2 hg2 hk2
  have HK2 := Lib.hid hk2
  clear hk2
  go_wp2_with fail
  go_ret
  refine ⟨v2, rfl, ?_, grownBy_trans hg1 hg2 (fun x hx => (HK1.out x hx).symm), fun k hk => ?_⟩
  · unfold putT
    rw [size_data]
    first | exact ho2 | (rw [← List.append_assoc]; exact ho2)
  · rcases HK2.out k hk with h | h
    · exact HK1.out k h
    · exact .inr (by omega)

/-- The results of GetText, as values. -/
def getTV (r : List UInt8 × Nat × Nat) : Value := .tuple #[.string ⟨r.1.toArray⟩, .int .i64 (r.2.1 : Int), .int .i64 (r.2.2 : Int)]

theorem conv_str {w : World} {v : Value} {l : List UInt8} (h : Bytes w v l) : (convert 143 9 v).run Tryz.prog w = .ok (.string ⟨l.toArray⟩) w :=
  run_string_of 143 9 5 Tryz.underlying143 Tryz.underlying5 Tryz.underlying9 h

set_option maxRecDepth 100000 in
theorem num_getText (v : Value) (l : List UInt8) (w : World) (hb : Bytes w v l) :
    Calls Tryz.prog 85 #[v] w fun e w' => e = .returned (getTV (getT l)) ∧ w' = w := by
  have hb0 := hb
  obtain ⟨a, cap, rfl, hcap, hcm, hc⟩ := hb
  have hc := Lib.hid hc
  go_enter Tryz.func85, Tryz.ntmps85
  go_wp2_with fail
  refine (num_get _ l w hb0).mono ?_
  rintro e w1 ⟨rfl, rfl⟩
  rcases getN_any l with (h | h) | ⟨x, k, h, hx0, hx1, hk0, hkl, hk10⟩
  · have HT : Hid (getT l = ([], 0, 1)) := Lib.hid (by simp [getT, h])
    rw [h]
    unfold getV
    go_wp2_with fail
    go_ret3
    rw [HT.out]
    exact ⟨rfl, rfl⟩
  · have HT : Hid (getT l = ([], 0, 2)) := Lib.hid (by simp [getT, h])
    rw [h]
    unfold getV
    go_wp2_with fail
    go_ret3
    rw [HT.out]
    exact ⟨rfl, rfl⟩
  · rw [h]
    unfold getV
    have HH := Lib.hid h
    clear h
    by_cases hA : x < 0
    · have HT : Hid (getT l = ([], 0, 1)) := Lib.hid (by simp [getT, HH.out, hA])
      go_wp2_with fail
      go_ret3
      rw [HT.out]
      exact ⟨rfl, rfl⟩
    · by_cases hB : 1048576 < x
      · have HT : Hid (getT l = ([], 0, 1)) := Lib.hid (by simp [getT, HH.out, hB])
        go_wp2_with fail
        go_ret3
        rw [HT.out]
        exact ⟨rfl, rfl⟩
      · by_cases hC : (l.length : Int) - k < x
        · have HT : Hid (getT l = ([], 0, 2)) := Lib.hid (by simp [getT, HH.out, hA, hC]; omega)
          go_wp2_with fail
          go_ret3
          rw [HT.out]
          exact ⟨rfl, rfl⟩
        · have HT : Hid (getT l = ((l.drop k).take x.toNat, k + x.toNat, 0)) := Lib.hid (by simp [getT, HH.out, hC]; omega)
          obtain ⟨y, rfl⟩ := Int.eq_ofNat_of_zero_le (show 0 ≤ x by omega)
          have HB := Bytes.sub hb0 k y (by omega)
          have hcv := conv_str HB
          go_wp2_with fail
          all_goals (go_ret3; rw [HT.out]; exact ⟨rfl, rfl⟩)

theorem zig_neg2 (n : Int) (hn0 : -9223372036854775808 ≤ n) (hn : n < 0) : bits .xor .u64 IntKind.u64.max (IntKind.u64.wrap (IntKind.u64.wrap n * 2)) = (zig n : Nat) := zig_neg n hn0 hn

/-- Four bytes of a number, the highest first. -/

theorem num_four (u : Nat) (w : World) (hu : u < 4294967296) :
    Calls Tryz.prog 106 #[.int .u32 u] w fun e w' => RetBytes w (fourN u) e w' := by
  have HARR : Hid (#[Value.int .u8 ((u : Int) / 16777216), Value.int .u8 ((u : Int) / 65536 % 256), Value.int .u8 ((u : Int) / 256 % 256), Value.int .u8 ((u : Int) % 256)] = ((fourN u).map byteV).toArray) := Lib.hid (by
    simp [byteV, fourN]
    omega)
  go_enter Tryz.func106, Tryz.ntmps106
  go_wp2_with fail
  go_ret
  exact ⟨_, rfl, Bytes.fresh w (fourN u) _ (0, 0) _ 4 rfl HARR.out (by simp [fourN]), (Below.refl _ _).alloc (Nat.le_refl _) _⟩

theorem extract0 (s : ByteArray) (n : Nat) : s.extract 0 n = ⟨(s.data.toList.take n).toArray⟩ := by
  apply ByteArray.ext
  rw [ByteArray.data_extract]
  apply Array.ext'
  simp

end Go.Proofs.YtmddhlfjilkdfaaGreatDoor
namespace Go.Proofs.YtmddhlfjilkdfaaGreatDoor
set_option linter.unusedVariables false
set_option linter.unusedSimpArgs false
open Go.RowKit

/-- Bytes, so many, of whatever content; the block b0 may have turned. -/
structure SoupI (P : Program) (w wr : World) (e : TypeId) (b0 : Nat) (s : Value) (n : Nat) : Prop where
  size : w.heap.size ≤ wr.heap.size
  os : wr.os = w.os
  tape : wr.tape = w.tape
  output : wr.output = w.output
  frame : ∀ c, c < w.heap.size → c ≠ b0 → wr.heap[c]? = w.heap[c]?
  val : (s = .slice none 0 0 ∧ n = 0) ∨ ∃ l, SoupV P wr e s l n ∧ (l.blk = b0 ∨ w.heap.size ≤ l.blk)
section
variable {P : Program} {w wr : World} {e b0 n : Nat} {s : Value}
theorem SoupV.lt {l : Loc} (h : SoupV P w e s l n) : l.blk < w.heap.size := by
  obtain ⟨sz, h1, _⟩ := h.at_
  unfold World.shape? at h1
  by_cases hh : l.blk < w.heap.size
  · exact hh
  · rw [Array.getElem?_eq_none (by omega)] at h1; cases h1
theorem SoupV.keep {w' : World} {l : Loc} (h : SoupV P w e s l n) (hk : w'.heap[l.blk]? = w.heap[l.blk]?) : SoupV P w' e s l n := by
  have hf : ∀ o, w'.frozen? ⟨l.blk, o, none⟩ = w.frozen? ⟨l.blk, o, none⟩ := fun o => by unfold World.frozen?; simp only [hk]
  have hc : ∀ o, w'.cell? ⟨l.blk, o, none⟩ = w.cell? ⟨l.blk, o, none⟩ := fun o => by unfold World.cell?; simp only [hk]
  refine ⟨h.val, h.le, h.cap, ?_, fun i hi => by rw [hc]; exact h.get i hi⟩
  obtain ⟨sz, h1, h2, h3⟩ := h.at_
  exact ⟨sz, by unfold World.shape? at *; rw [hk]; exact h1, h2, fun o ho => by rw [hf]; exact h3 o ho⟩
theorem SoupI.alloc (h : SoupI P w wr e b0 s n) (o : Obj) : SoupI P w (wr.alloc o) e b0 s n := by
  have hk : ∀ c, c < wr.heap.size → (wr.alloc o).heap[c]? = wr.heap[c]? := fun c hc => by show (wr.heap.push o)[c]? = _; rw [Array.getElem?_push, if_neg (by omega)]
  refine ⟨Nat.le_trans h.size (by show wr.heap.size ≤ (wr.heap.push o).size; simp), h.os, h.tape, h.output, fun c hc hne => (hk c (by have := h.size; omega)).trans (h.frame c hc hne), ?_⟩
  rcases h.val with h1 | ⟨l, hV, hl⟩
  · exact .inl h1
  · exact .inr ⟨l, hV.keep (hk _ hV.lt), hl⟩
theorem SoupI.app {t u ty : TypeId} (ht : P.underlying t = some (.slice e)) (hu : (∃ f, P.underlying u = some (.slice f)) ∨ P.underlying u = some .string) (he : elemOk P e 1 = true) (h : SoupI P w wr e b0 s n)
    {x : Value} {m : Nat} {news : List UInt8} (hx : ∀ w' : World, (Builtin.lenOf x).run P w' = .ok m w') (hfc : ∀ w' : World, w'.heap = wr.heap → (Builtin.firstCells 1 m x).run P w' = .ok (news.map u8V).toArray w') (hm : news.length = m) (hl : n + m ≤ 1000000) (h0 : 0 < n + m) :
    ∃ v' w', (Builtin.append_ #[t, u] ty #[s, x]).run P wr = .ok v' w' ∧ SoupI P w w' e b0 v' (n + m) := by
  have hsz := h.size
  rcases h.val with ⟨rfl, rfl⟩ | ⟨l, hV, hl0⟩
  · obtain ⟨v', w', l', hrun, hS⟩ := soup_app_nil (ty := ty) ht hu he hx hfc hm (by omega) (by omega)
    refine ⟨v', w', hrun, ⟨Nat.le_trans hsz hS.size, hS.os.trans h.os, hS.tape.trans h.tape, hS.output.trans h.output, fun c hc hne => (hS.frame c (by omega) (by omega)).trans (h.frame c hc hne), .inr ⟨l', by simpa using hS.v, .inr ?_⟩⟩⟩
    rcases hS.blk with e1 | e1 <;> omega
  · obtain ⟨v', w', l', hrun, hS⟩ := soup_app (ty := ty) ht hu he hV hx hfc hm hl
    refine ⟨v', w', hrun, ⟨Nat.le_trans hsz hS.size, hS.os.trans h.os, hS.tape.trans h.tape, hS.output.trans h.output, fun c hc hne => (hS.frame c (by omega) (by rcases hl0 with e1 | e1 <;> omega)).trans (h.frame c hc hne), .inr ⟨l', hS.v, ?_⟩⟩⟩
    rcases hS.blk with e1 | e1
    · rw [e1]; exact hl0
    · exact .inr (by omega)
theorem Bytes.src {v : Value} {m : List UInt8} (h : Bytes w v m) (hm : m ≠ []) : (∀ w' : World, (Builtin.lenOf v).run P w' = .ok m.length w') ∧ (∀ w' : World, w'.heap = w.heap → (Builtin.firstCells 1 m.length v).run P w' = .ok (m.map u8V).toArray w') := by
  obtain ⟨a, cap, rfl, _, _, hc⟩ := h
  obtain ⟨b, off, rfl, hcell⟩ := hc hm
  refine ⟨fun w' => rfl, fun w' hw' => run_firstCells_some w' 1 m.length _ m.length cap _ (by simp) (fun j u hu => ?_)⟩
  have hj : j < m.length := by
    have := (List.getElem?_eq_some_iff.1 hu).1
    simpa using this
  rw [cell?_of_heap (w := w) (by rw [hw']), Addr.add_lit, hcell j hj]
  rw [List.getElem?_eq_getElem (by simpa using hj)] at hu
  simpa [u8V] using hu
theorem str_src (s : ByteArray) : (∀ w' : World, (Builtin.lenOf (.string s)).run P w' = .ok s.size w') ∧ (∀ w' : World, (Builtin.firstCells 1 s.size (.string s)).run P w' = .ok (s.data.toList.map u8V).toArray w') := by
  refine ⟨fun w' => rfl, fun w' => ?_⟩
  have e : s.extract 0 s.size = s := by
    apply ByteArray.ext
    rw [ByteArray.data_extract]
    simp
  simp only [Builtin.firstCells, e, Sem.run_pure]
  congr 1
  apply Array.ext'
  simp
  exact fun _ _ => rfl
theorem wpList_append_soup {ops : Array Oper} {rest : List Oper} {o : Oper} {a : Act} {Q : Exit → Act → World → Prop} (t u : TypeId) (ht : P.underlying t = some (.slice e)) (hu : (∃ f, P.underlying u = some (.slice f)) ∨ P.underlying u = some .string) (he : elemOk P e 1 = true)
    (hgd : o.guard = none) (sl x : Operand) (ho : o.op = .call { callee := .builtin .append, args := #[sl, x], argTypes := #[t, u] }) (h : SoupI P w wr e b0 s n)
    {xv : Value} {m : Nat} {news : List UInt8} (hs : a.eval sl = s) (hx : a.eval x = xv) (hlen : ∀ w' : World, (Builtin.lenOf xv).run P w' = .ok m w') (hfc : ∀ w' : World, w'.heap = wr.heap → (Builtin.firstCells 1 m xv).run P w' = .ok (news.map u8V).toArray w') (hm : news.length = m) (hl : n + m ≤ 1000000) (h0 : 0 < n + m)
    (K : ∀ v' w', SoupI P w w' e b0 v' (n + m) → wpList P ops Q rest (a.put o.dst v') w') : wpList P ops Q (o :: rest) a wr := by
  obtain ⟨v', w', hr, h2⟩ := h.app (ty := o.type) ht hu he hlen hfc hm hl h0
  refine wpList_plain hgd fun K' hK => ?_
  unfold Oper.wp execOp
  simp only [ho, resolve, invoke, builtin, Sem.run_bind, Sem.run_pure, Result.andThen_ok, List.map_toArray, List.map_cons, List.map_nil, hs, hx, hr]
  exact hK _ _ (K v' w' h2)
end
theorem elem8 : elemOk Tryz.prog 5 1 = true := by kernel_rfl

set_option maxRecDepth 100000 in
theorem soup_put (v : Value) (n0 : Nat) (n : Nat) (b0 : Nat) (w0 w : World) (hn : n ≤ 8000) (hl : n0 ≤ 990000) (h : SoupI Tryz.prog w0 w 5 b0 v n0) :
    Calls Tryz.prog 81 #[v, .int .i64 n] w fun e w' => ∃ v' n', e = .returned v' ∧ n0 + 1 ≤ n' ∧ n' ≤ n0 + 2 ∧ SoupI Tryz.prog w0 w' 5 b0 v' n' := by
  go_enter Tryz.func81, Tryz.ntmps81
  go_upto_if 10 with fail
  go_cut [5] (fun s wx => s = .int .u64 (2 * n : Nat) ∧ wx = w)
  case first =>
    have hneg : ¬ ((n : Int) < 0) := by omega
    go_wp2_with fail
    go_meet
    exact ⟨congrArg (Value.int .u64) (by omega), rfl⟩
  case rest =>
    obtain ⟨rfl, rfl⟩ := hcut
    go_wp2_with fail
    go_loopw [0, 5] (fun s x wr => ∃ (u m : Nat), x = .int .u64 u ∧ SoupI Tryz.prog w0 wr 5 b0 s m ∧ u ≤ 16000 ∧ n0 ≤ m ∧ m ≤ n0 + 1 ∧ (m = n0 ∨ u ≤ 127)) (fun _ x _ => (intOf x).toNat)
    case atStart => exact ⟨2 * n, n0, rfl, h, by omega, Nat.le_refl _, by omega, .inl rfl⟩
    case round =>
      obtain ⟨u, m, rfl, hI, hu, hm0, hm1, hm2⟩ := hrel
      have hu64 : u < 18446744073709551616 := by omega
      by_cases hlt : 127 < u
      · have hme : m = n0 := by omega
        subst hme
        have HARR : Hid (#[Value.int .u8 (bits .or .u8 ((u : Int) % 256) 128)] = ([UInt8.ofNat (u % 128 + 128)].map byteV).toArray) := Lib.hid (by
          rw [or128 u hu64]
          simp [byteV, show (u % 128 + 128) % 256 = u % 128 + 128 by omega])
        generalize UInt8.ofNat (u % 128 + 128) = c at *
        have hB : ∀ arr : Array Value, arr = ([c].map byteV).toArray → Bytes (wr.alloc (.cells arr 5 (0, 0))) (.slice (some ⟨wr.heap.size, 0, none⟩) 1 1) [c] := fun arr ha => Bytes.fresh wr [c] _ (0, 0) arr 1 rfl ha (by simp)
        go_wp2_with (at_builtin; refine wpList_append_soup 143 143 Tryz.underlying143 (.inl ⟨_, Tryz.underlying143⟩) elem8 rfl _ _ rfl (hI.alloc _) rfl rfl ((hB _ HARR.out).src (P := Tryz.prog) (by simp)).1 ((hB _ HARR.out).src (by simp)).2 rfl (by simp; omega) (by simp) ?_)
        intro v2 w2 hI2
        clear hI hB
        go_wp2_with fail
        go_roundw
        case rel => exact ⟨u / 128, _, by go_num, hI2, by omega, by simp, by simp, .inr (by omega)⟩
        case measure => simp [intOf]; omega
      · have HARR : Hid (#[Value.int .u8 (u : Int)] = ([UInt8.ofNat u].map byteV).toArray) := Lib.hid (by
          simp [byteV, show u % 256 = u by omega])
        generalize UInt8.ofNat u = c at *
        have hB : ∀ arr : Array Value, arr = ([c].map byteV).toArray → Bytes (wr.alloc (.cells arr 5 (0, 0))) (.slice (some ⟨wr.heap.size, 0, none⟩) 1 1) [c] := fun arr ha => Bytes.fresh wr [c] _ (0, 0) arr 1 rfl ha (by simp)
        go_wp2_with (at_builtin; refine wpList_append_soup 143 143 Tryz.underlying143 (.inl ⟨_, Tryz.underlying143⟩) elem8 rfl _ _ rfl (hI.alloc _) rfl rfl ((hB _ HARR.out).src (P := Tryz.prog) (by simp)).1 ((hB _ HARR.out).src (by simp)).2 rfl (by simp; omega) (by simp) ?_)
        intro v2 w2 hI2
        clear hI hB
        go_wp2_with fail
        go_ret
        exact ⟨v2, _, rfl, by simp; omega, by simp; omega, hI2⟩
set_option maxRecDepth 100000 in
theorem soup_putText (v : Value) (n0 : Nat) (s : ByteArray) (b0 : Nat) (w0 w : World) (hs : s.size ≤ 400) (hl : n0 ≤ 900000) (h : SoupI Tryz.prog w0 w 5 b0 v n0) :
    Calls Tryz.prog 82 #[v, .string s] w fun e w' => ∃ v' n', e = .returned v' ∧ n0 + 1 + s.size ≤ n' ∧ n' ≤ n0 + 2 + s.size ∧ SoupI Tryz.prog w0 w' 5 b0 v' n' := by
  go_enter Tryz.func82, Tryz.ntmps82
  go_wp2_with fail
  refine (soup_put v n0 s.size b0 w0 w (by omega) (by omega) h).mono ?_
  rintro e w1 ⟨v1, n1, rfl, h1, h2, hI⟩
  have hsrc := str_src (P := Tryz.prog) s
  go_wp2_with (at_builtin; refine wpList_append_soup 143 9 Tryz.underlying143 (.inr Tryz.underlying9) elem8 rfl _ _ rfl hI rfl rfl hsrc.1 (fun w' _ => hsrc.2 w') (by simp) (by omega) (by omega) ?_)
  intro v2 w2 hI2
  clear hI
  go_wp2_with fail
  go_ret
  exact ⟨v2, _, rfl, by omega, by omega, hI2⟩
end Go.Proofs.YtmddhlfjilkdfaaGreatDoor
namespace Go.Proofs.YtmddhlfjilkdfaaGreatDoor
set_option linter.unusedVariables false
set_option linter.unusedSimpArgs false
def crcBit (x : Nat) : Nat := (x / 2) ^^^ (if x % 2 = 1 then 3988292384 else 0)
def crcBits : Nat → Nat → Nat
  | 0, x => x
  | k + 1, x => crcBit (crcBits k x)
def crcByte (x c : Nat) : Nat := crcBits 8 (x ^^^ c)
def crcRaw (x : Nat) (l : List UInt8) : Nat := l.foldl (fun x c => crcByte x c.toNat) x
def crcMore (s : Nat) (l : List UInt8) : Nat := 4294967295 ^^^ crcRaw (4294967295 ^^^ s) l
def crcSum (l : List UInt8) : Nat := crcMore 0 l

theorem xor_lt {a b : Nat} (ha : a < 4294967296) (hb : b < 4294967296) : a ^^^ b < 4294967296 := Nat.xor_lt_two_pow (n := 32) ha hb
theorem crcBit_lt {x : Nat} (h : x < 4294967296) : crcBit x < 4294967296 := by
  unfold crcBit; apply xor_lt; omega; split <;> omega
theorem crcBits_lt {k x : Nat} (h : x < 4294967296) : crcBits k x < 4294967296 := by
  induction k with
  | zero => exact h
  | succ k ih => exact crcBit_lt ih
theorem crcByte_lt {x c : Nat} (h : x < 4294967296) (hc : c < 256) : crcByte x c < 4294967296 := crcBits_lt (xor_lt h (by omega))
theorem crcRaw_lt {x : Nat} {l : List UInt8} (h : x < 4294967296) : crcRaw x l < 4294967296 := by
  unfold crcRaw
  induction l generalizing x with
  | nil => exact h
  | cons c l ih => exact ih (crcByte_lt h c.toNat_lt)
theorem crcMore_lt {s : Nat} {l : List UInt8} (h : s < 4294967296) : crcMore s l < 4294967296 := xor_lt (by omega) (crcRaw_lt (xor_lt (by omega) h))
theorem crcSum_lt (l : List UInt8) : crcSum l < 4294967296 := crcMore_lt (by omega)

/-- One bit of the program's text. -/
theorem crc_step (x : Nat) (h : x < 4294967296) : bits .xor .u32 ((x : Int) / 2) (bits .and .u32 3988292384 (-bits .and .u32 (x : Int) 1 % 4294967296)) = (crcBit x : Nat) := by
  have h1 : bits .and .u32 (x : Int) 1 = ((x % 2 : Nat) : Int) := by
    rw [show (1 : Int) = ((1 : Nat) : Int) from rfl, u32_and_nat _ _ h (by omega), Nat.and_one_is_mod]
  rw [h1]
  unfold crcBit
  rcases Nat.mod_two_eq_zero_or_one x with e | e
  · rw [e]
    have : bits .and .u32 3988292384 (-((0 : Nat) : Int) % 4294967296) = ((0 : Nat) : Int) := by decide +kernel
    rw [this, show (x : Int) / 2 = ((x / 2 : Nat) : Int) by omega, u32_xor_nat _ _ (by omega) (by omega)]
    simp
  · rw [e]
    have : bits .and .u32 3988292384 (-((1 : Nat) : Int) % 4294967296) = ((3988292384 : Nat) : Int) := by decide +kernel
    rw [this, show (x : Int) / 2 = ((x / 2 : Nat) : Int) by omega, u32_xor_nat _ _ (by omega) (by omega)]
    simp

theorem xor_mod2 (x y : Nat) : (x ^^^ y) % 2 = (x + y) % 2 := by
  have h : (x ^^^ y) % 2 = (x % 2) ^^^ (y % 2) := by rw [← Nat.and_one_is_mod, ← Nat.and_one_is_mod, ← Nat.and_one_is_mod, Nat.and_xor_distrib_right]
  rw [h]
  rcases Nat.mod_two_eq_zero_or_one x with e | e <;> rcases Nat.mod_two_eq_zero_or_one y with f | f <;> simp [e, f, Nat.add_mod]

theorem xor_zero {a b : Nat} (h : a ^^^ b = 0) : a = b := by
  have e : a = (a ^^^ b) ^^^ b := by rw [Nat.xor_assoc, Nat.xor_self, Nat.xor_zero]
  rw [e, h, Nat.zero_xor]

theorem crcBit_xor (x y : Nat) : crcBit (x ^^^ y) = crcBit x ^^^ crcBit y := by
  unfold crcBit
  rw [Nat.xor_div_two, xor_mod2]
  have key : (if (x + y) % 2 = 1 then 3988292384 else 0) = (if x % 2 = 1 then 3988292384 else 0) ^^^ (if y % 2 = 1 then 3988292384 else 0) := by
    rcases Nat.mod_two_eq_zero_or_one x with e | e <;> rcases Nat.mod_two_eq_zero_or_one y with f | f <;> simp [e, f, Nat.add_mod]
  rw [key]
  ac_rfl

theorem crcBits_xor (k x y : Nat) : crcBits k (x ^^^ y) = crcBits k x ^^^ crcBits k y := by
  induction k with
  | zero => rfl
  | succ k ih => rw [crcBits, ih, crcBit_xor]; rfl

theorem crcBit_zero {x : Nat} (hx : x < 4294967296) (h : crcBit x = 0) : x = 0 := by
  unfold crcBit at h
  have := xor_zero h
  split at this <;> omega

theorem crcBits_zero {k x : Nat} (hx : x < 4294967296) (h : crcBits k x = 0) : x = 0 := by
  induction k with
  | zero => exact h
  | succ k ih => exact ih (crcBit_zero (crcBits_lt hx) h)

theorem crcBits_nought (k : Nat) : crcBits k 0 = 0 := by
  induction k with
  | zero => rfl
  | succ k ih => rw [crcBits, ih]; rfl

theorem crcRaw_append (x : Nat) (l m : List UInt8) : crcRaw x (l ++ m) = crcRaw (crcRaw x l) m := by simp [crcRaw]

theorem xor_not (x : Nat) : 4294967295 ^^^ (4294967295 ^^^ x) = x := by rw [← Nat.xor_assoc, Nat.xor_self, Nat.zero_xor]

theorem crcMore_append (s : Nat) (l m : List UInt8) : crcMore s (l ++ m) = crcMore (crcMore s l) m := by
  unfold crcMore
  rw [crcRaw_append, xor_not]
theorem crcSum_append (l m : List UInt8) : crcSum (l ++ m) = crcMore (crcSum l) m := crcMore_append 0 l m
theorem crcMore_nil (s : Nat) : crcMore s [] = s := by show 4294967295 ^^^ (4294967295 ^^^ s) = s; exact xor_not s
theorem crcSum_nil : crcSum [] = 0 := crcMore_nil 0

/-- Three texts of one length. -/
def xor3 (a b c : List UInt8) : List UInt8 := List.zipWith (fun x y => x ^^^ y) (List.zipWith (fun x y => x ^^^ y) a b) c

theorem crcByte_three (x y z a b c : Nat) : crcByte (x ^^^ y ^^^ z) (a ^^^ b ^^^ c) = crcByte x a ^^^ crcByte y b ^^^ crcByte z c := by
  unfold crcByte
  rw [← crcBits_xor, ← crcBits_xor]
  congr 1
  ac_rfl

theorem crcRaw_three (a : List UInt8) : ∀ (b c : List UInt8) (x y z : Nat), a.length = b.length → b.length = c.length → crcRaw (x ^^^ y ^^^ z) (xor3 a b c) = crcRaw x a ^^^ crcRaw y b ^^^ crcRaw z c := by
  induction a with
  | nil =>
    intro b c x y z h1 h2
    obtain rfl : b = [] := List.eq_nil_of_length_eq_zero h1.symm
    obtain rfl : c = [] := List.eq_nil_of_length_eq_zero h2.symm
    rfl
  | cons a0 a ih =>
    intro b c x y z h1 h2
    match b, c, h1, h2 with
    | b0 :: b, c0 :: c, h1, h2 =>
      show crcRaw (crcByte (x ^^^ y ^^^ z) (a0 ^^^ b0 ^^^ c0).toNat) (xor3 a b c) = crcRaw (crcByte x a0.toNat) a ^^^ crcRaw (crcByte y b0.toNat) b ^^^ crcRaw (crcByte z c0.toNat) c
      rw [UInt8.toNat_xor, UInt8.toNat_xor, crcByte_three]
      exact ih b c _ _ _ (by simpa using h1) (by simpa using h2)

theorem crcSum_three (a b c : List UInt8) (h1 : a.length = b.length) (h2 : b.length = c.length) : crcSum (xor3 a b c) = crcSum a ^^^ crcSum b ^^^ crcSum c := by
  have h := crcRaw_three a b c 4294967295 4294967295 4294967295 h1 h2
  rw [show (4294967295 ^^^ 4294967295 ^^^ 4294967295 : Nat) = 4294967295 from by decide] at h
  show 4294967295 ^^^ crcRaw 4294967295 (xor3 a b c) = (4294967295 ^^^ crcRaw 4294967295 a) ^^^ (4294967295 ^^^ crcRaw 4294967295 b) ^^^ (4294967295 ^^^ crcRaw 4294967295 c)
  rw [h]
  generalize crcRaw 4294967295 a = A
  generalize crcRaw 4294967295 b = B
  generalize crcRaw 4294967295 c = C
  have e : (4294967295 ^^^ A) ^^^ (4294967295 ^^^ B) ^^^ (4294967295 ^^^ C) = (4294967295 ^^^ 4294967295) ^^^ (4294967295 ^^^ (A ^^^ B ^^^ C)) := by ac_rfl
  rw [e, Nat.xor_self, Nat.zero_xor]

/-- What differs before goes on to differ: the difference of two runs over one text. -/
theorem crcRaw_diff (l : List UInt8) : ∀ x y : Nat, x < 4294967296 → y < 4294967296 → crcRaw x l = crcRaw y l → x = y := by
  induction l with
  | nil => intro x y _ _ h; exact h
  | cons c l ih =>
    intro x y hx hy h
    have h' := ih _ _ (crcByte_lt hx c.toNat_lt) (crcByte_lt hy c.toNat_lt) h
    unfold crcByte at h'
    have h2 : crcBits 8 (x ^^^ y) = 0 := by
      have e : x ^^^ y = (x ^^^ c.toNat) ^^^ (y ^^^ c.toNat) := by
        have e1 : (x ^^^ c.toNat) ^^^ (y ^^^ c.toNat) = (c.toNat ^^^ c.toNat) ^^^ (x ^^^ y) := by ac_rfl
        rw [e1, Nat.xor_self, Nat.zero_xor]
      rw [e, crcBits_xor, h', Nat.xor_self]
    exact xor_zero (crcBits_zero (xor_lt hx hy) h2)

/-- Two runs over two texts of one length differ by the run over what parts them. -/
theorem crcRaw_xor (a : List UInt8) : ∀ (b : List UInt8) (x y : Nat), a.length = b.length → crcRaw x a ^^^ crcRaw y b = crcRaw (x ^^^ y) (List.zipWith (fun p q => p ^^^ q) a b) := by
  induction a with
  | nil =>
    intro b x y h1
    obtain rfl : b = [] := List.eq_nil_of_length_eq_zero h1.symm
    rfl
  | cons a0 a ih =>
    intro b x y h1
    match b, h1 with
    | b0 :: b, h1 =>
      show crcRaw (crcByte x a0.toNat) a ^^^ crcRaw (crcByte y b0.toNat) b = crcRaw (crcByte (x ^^^ y) (a0 ^^^ b0).toNat) (List.zipWith (fun p q => p ^^^ q) a b)
      rw [ih b _ _ (by simpa using h1), UInt8.toNat_xor]
      congr 1
      unfold crcByte
      rw [← crcBits_xor]
      congr 1
      ac_rfl

/-- A word of bytes, the first one lowest. -/
def wordOf : List UInt8 → Nat
  | [] => 0
  | c :: l => c.toNat + 256 * wordOf l

theorem wordOf_lt (l : List UInt8) : wordOf l < 256 ^ l.length := by
  induction l with
  | nil => simp [wordOf]
  | cons c l ih =>
    have := c.toNat_lt
    simp only [wordOf, List.length_cons, Nat.pow_succ]
    omega

theorem crcBit_even (x : Nat) : crcBit (2 * x) = x := by
  unfold crcBit
  rw [if_neg (by omega), Nat.xor_zero]
  omega

theorem crcBits_succ' (k x : Nat) : crcBits (k + 1) x = crcBits k (crcBit x) := by
  induction k with
  | zero => rfl
  | succ k ih => rw [crcBits, ih]; rfl

theorem crcBits_shift (k x : Nat) : crcBits k (2 ^ k * x) = x := by
  induction k generalizing x with
  | zero => simp [crcBits]
  | succ k ih =>
    rw [crcBits_succ', show 2 ^ (k + 1) * x = 2 * (2 ^ k * x) by rw [Nat.pow_succ]; ac_rfl, crcBit_even, ih]

theorem crcBits_add (j k x : Nat) : crcBits (j + k) x = crcBits j (crcBits k x) := by
  induction j with
  | zero => simp [crcBits]
  | succ j ih => rw [show j + 1 + k = (j + k) + 1 by omega, crcBits, ih]; rfl

theorem byte_word (c r : Nat) (hc : c < 256) : c + 256 * r = c ^^^ 256 * r := by
  have h := Nat.two_pow_add_eq_or_of_lt (i := 8) (b := c) (by omega) r
  have h2 : 256 * r &&& c = 0 := by
    apply Nat.eq_of_testBit_eq
    intro i
    rw [Nat.testBit_and, show 256 * r = 2 ^ 8 * r by rfl, Nat.testBit_two_pow_mul, Nat.zero_testBit]
    by_cases hi : 8 ≤ i
    · have : c.testBit i = false := Nat.testBit_lt_two_pow (Nat.lt_of_lt_of_le hc (show 2 ^ 8 ≤ 2 ^ i from Nat.pow_le_pow_right (by decide) hi))
      simp [this]
    · simp [hi]
  apply Nat.eq_of_testBit_eq
  intro i
  rw [show c + 256 * r = 2 ^ 8 * r + c by omega, h, Nat.testBit_or, Nat.testBit_xor]
  have h3 : (256 * r &&& c).testBit i = false := by rw [h2, Nat.zero_testBit]
  rw [Nat.testBit_and] at h3
  rw [show (256 : Nat) = 2 ^ 8 from rfl] at h3 ⊢
  revert h3
  cases (2 ^ 8 * r).testBit i <;> cases c.testBit i <;> simp

/-- The run over up to four bytes is that over their word. -/
theorem crcRaw_word (l : List UInt8) : ∀ r : Nat, crcRaw (wordOf l ^^^ r * 256 ^ l.length) (List.replicate l.length 0) = crcBits (8 * l.length) (wordOf l ^^^ r * 256 ^ l.length) := by
  intro r
  generalize wordOf l ^^^ r * 256 ^ l.length = x
  generalize l.length = n
  induction n generalizing x with
  | zero => rfl
  | succ n ih =>
    rw [List.replicate_succ]
    show crcRaw (crcByte x 0) (List.replicate n 0) = _
    rw [ih, show 8 * (n + 1) = 8 * n + 8 by omega, crcBits_add]
    unfold crcByte
    rw [Nat.xor_zero]

theorem crcRaw_lin (l : List UInt8) : ∀ x : Nat, crcRaw x l = crcBits (8 * l.length) (x ^^^ wordOf l) := by
  induction l with
  | nil => intro x; simp [crcRaw, crcBits, wordOf]
  | cons c l ih =>
    intro x
    show crcRaw (crcByte x c.toNat) l = _
    rw [ih, List.length_cons, show 8 * (l.length + 1) = 8 * l.length + 8 by omega, crcBits_add]
    congr 1
    unfold crcByte
    rw [wordOf, byte_word _ _ c.toNat_lt, ← Nat.xor_assoc, crcBits_xor 8 (x ^^^ c.toNat) (256 * wordOf l)]
    have e : crcBits 8 (256 * wordOf l) = wordOf l := crcBits_shift 8 (wordOf l)
    rw [e]

theorem wordOf_zero {l : List UInt8} (h : wordOf l = 0) : ∀ c ∈ l, c = 0 := by
  induction l with
  | nil => intro c hc; cases hc
  | cons a l ih =>
    simp only [wordOf] at h
    intro c hc
    cases hc with
    | head => exact UInt8.toNat_inj.1 (by simp; omega)
    | tail _ hm => exact ih (by omega) c hm

/-- Up to four bytes behind one another that were changed change the sum. -/
theorem crcSum_burst (pre mid mid' post : List UInt8) (hl : mid.length = mid'.length) (h4 : mid.length ≤ 4) (hne : mid ≠ mid') : crcSum (pre ++ mid ++ post) ≠ crcSum (pre ++ mid' ++ post) := by
  intro h
  unfold crcSum crcMore at h
  have h1 : crcRaw (4294967295 ^^^ 0) (pre ++ mid ++ post) = crcRaw (4294967295 ^^^ 0) (pre ++ mid' ++ post) := by
    have := congrArg (4294967295 ^^^ ·) h
    simpa only [xor_not] using this
  rw [crcRaw_append, crcRaw_append, crcRaw_append, crcRaw_append] at h1
  have hp : crcRaw (4294967295 ^^^ 0) pre < 4294967296 := crcRaw_lt (by decide)
  have h2 := crcRaw_diff post _ _ (crcRaw_lt hp) (crcRaw_lt hp) h1
  generalize crcRaw (4294967295 ^^^ 0) pre = x at *
  have h3 := crcRaw_xor mid mid' x x hl
  rw [h2, Nat.xor_self, Nat.xor_self, crcRaw_lin] at h3
  have hlen : (List.zipWith (fun p q => p ^^^ q) mid mid').length ≤ 4 := by simp; omega
  have hw : wordOf (List.zipWith (fun p q => p ^^^ q) mid mid') < 4294967296 := Nat.lt_of_lt_of_le (wordOf_lt _) (Nat.pow_le_pow_right (n := 256) (by omega) hlen)
  have h5 := crcBits_zero (by rw [Nat.zero_xor]; exact hw) h3.symm
  rw [Nat.zero_xor] at h5
  have h6 := wordOf_zero h5
  apply hne
  apply List.ext_getElem hl
  intro i hi hi'
  have := h6 (mid[i] ^^^ mid'[i]) (by
    rw [List.mem_iff_getElem]
    exact ⟨i, by simp; omega, by simp⟩)
  exact UInt8.xor_eq_zero_iff.1 this
end Go.Proofs.YtmddhlfjilkdfaaGreatDoor
namespace Go.Proofs.YtmddhlfjilkdfaaGreatDoor
set_option linter.unusedVariables false
set_option linter.unusedSimpArgs false
open Go.RowKit

theorem info_u8 : (Tryz.prog.info? 5).map (fun i => (i.zero, i.size, i.bytes)) = some (some (.int .u8 0), 1, 1) := by kernel_rfl

theorem crcRaw_snoc (x : Nat) (l : List UInt8) (k : Nat) (h : k < l.length) : crcRaw x (l.take (k + 1)) = crcBits 8 (crcRaw x (l.take k) ^^^ l[k].toNat) := by
  rw [List.take_succ_eq_append_getElem h, crcRaw_append]
  rfl

theorem xor_max (s : Nat) (hs : s < 4294967296) : bits .xor .u32 IntKind.u32.max (s : Int) = ((4294967295 ^^^ s : Nat) : Int) := by
  rw [show IntKind.u32.max = ((4294967295 : Nat) : Int) by decide, u32_xor_nat _ _ (by omega) hs]

theorem crc_more (v : Value) (l : List UInt8) (s : Nat) (w : World) (hs : s < 4294967296) (hb : Bytes w v l) :
    Calls Tryz.prog 104 #[.int .u32 s, v] w fun e w' => e = .returned (.int .u32 (crcMore s l : Nat)) ∧ w' = w := by
  obtain ⟨a, cap, rfl, hcap, hcm, hc⟩ := hb
  have hx0 : (4294967295 ^^^ s : Nat) < 4294967296 := xor_lt (by omega) hs
  go_enter Tryz.func104, Tryz.ntmps104
  go_wp2
  go_loop [5, 12] (fun t i => ∃ k : Nat, k ≤ l.length ∧ i = .int .i64 k ∧ t = .int .u32 (crcRaw (4294967295 ^^^ s) (l.take k) : Nat)) (fun _ i => l.length - (intOf i).toNat)
  case atStart => exact ⟨0, Nat.zero_le _, rfl, by rw [xor_max s hs]; rfl⟩
  case round =>
    obtain ⟨k, hk, rfl, rfl⟩ := hrel
    by_cases hlt : k < l.length
    · obtain ⟨b, off, rfl, hcell⟩ := hc (by intro h; simp [h] at hlt)
      have hck := hcell k hlt
      have hcb := (l[k]).toNat_lt
      have hx := crcRaw_lt (l := l.take k) hx0
      have HN := Lib.hid (crcRaw_snoc (4294967295 ^^^ s) l k hlt)
      generalize hcc : (l[k]).toNat = c at *
      generalize hxx : crcRaw (4294967295 ^^^ s) (l.take k) = x at *
      clear hc hcell hcc hxx
      have hst : bits .xor .u32 (x : Int) (c : Int) = ((x ^^^ c : Nat) : Int) := by
        rw [u32_xor_nat _ _ hx (by omega)]
      have hxc : x ^^^ c < 4294967296 := xor_lt hx (by omega)
      have HS := Lib.hid hst
      clear hst
      go_wp2
      go_loop [5, 20] (fun t i => ∃ j : Nat, j ≤ 8 ∧ i = .int .i64 j ∧ t = .int .u32 (crcBits j (x ^^^ c) : Nat)) (fun _ i => 8 - (intOf i).toNat)
      case atStart => exact ⟨0, Nat.zero_le _, rfl, by rw [HS.out]; rfl⟩
      case round =>
        obtain ⟨j, hj, rfl, rfl⟩ := hrel
        by_cases h8 : j < 8
        · have HC := Lib.hid (crc_step (crcBits j (x ^^^ c)) (crcBits_lt hxc))
          go_wp2
          go_round
          case rel => exact ⟨j + 1, by omega, by go_num, by rw [HC.out]; rfl⟩
          case measure => simp [intOf]; omega
        · have : j = 8 := by omega
          subst this
          go_wp2
          go_round
          case rel => exact ⟨k + 1, by omega, by go_num, by rw [HN.out]⟩
          case measure => simp [intOf]; omega
    · have hke : k = l.length := by omega
      have HE := Lib.hid hke
      clear hke
      go_wp2
      go_ret
      refine ⟨?_, rfl⟩
      have e := HE.out
      subst e
      rw [List.take_length, xor_max _ (crcRaw_lt hx0)]
      rfl

theorem crc_sum (v : Value) (l : List UInt8) (w : World) (hb : Bytes w v l) :
    Calls Tryz.prog 105 #[v] w fun e w' => e = .returned (.int .u32 (crcSum l : Nat)) ∧ w' = w := by
  go_enter Tryz.func105, Tryz.ntmps105
  go_wp2_with (go_at_call 104; refine (crc_more _ l 0 _ (by omega) hb).mono ?_; rintro e w' ⟨rfl, rfl⟩)
  go_ret
  exact ⟨rfl, rfl⟩

/-- One bit of the document's text. -/
theorem ref_bit (x : Nat) (h : x < 4294967296) : (x % 2 = 1 → bits .xor .u32 ((x : Int) / 2) 3988292384 = (crcBit x : Nat)) ∧ (x % 2 ≠ 1 → (x : Int) / 2 = (crcBit x : Nat)) := by
  constructor
  · intro e
    rw [show (x : Int) / 2 = ((x / 2 : Nat) : Int) by omega, show (3988292384 : Int) = ((3988292384 : Nat) : Int) by rfl, u32_xor_nat _ _ (by omega) (by omega)]
    simp [crcBit, e]
  · intro e
    rw [crcBit, if_neg e, Nat.xor_zero]
    omega

end Go.Proofs.YtmddhlfjilkdfaaGreatDoor
