/-
  No claim by itself: the evaluator: maps.Copy, slices.Sorted. | the first lines of the laws on the whole. No condition.
-/
import Derived.Test.YtlannobincnnhaaGreatDoorE6
import Derived.Test.YtlannobincnnhaaGreatDoorProg
import Derived.Shelf.SlIter.Collect
import Derived.Sort.EveryDepth
import Derived.Maps.RangeRun
import Derived.KernelRfl
import Derived.WalkKit
import Derived.ProofKit
import Derived.OpenShut
import Derived.IntWalk
namespace Go.Proofs.YtlannobincnnhaaGreatDoor
set_option linter.unusedVariables false
set_option linter.unusedSimpArgs false
open Go.RowKit Go.Maps Go.Sort Go.Shelf
open Go.ChangeMaps (setBlock)

theorem wpList_mapUpdate_run {P : Program} {w w' : World} {ops : Array Oper} {rest : List Oper} {o : Oper} {a : Act} {Q : Exit → Act → World → Prop} (hg : o.guard = none) (m x v : Operand) (t : TypeId) (hop : o.op = Op.mapUpdate t m x v)
    (hrun : (Instr.mapUpdate t (a.eval m) (a.eval x) (a.eval v)).run P w = .ok () w') (hK : wpList P ops Q rest (a.put o.dst undef) w') : wpList P ops Q (o :: rest) a w := by
  refine wpList_plain hg fun K' hK' => ?_
  unfold Oper.wp
  simp [execOp, hop, hrun, Result.andThen]
  exact hK' _ _ hK
theorem Q.eq_self (q : Q) : Q.eq q q = true := by induction q with | e => rfl | _ q ih => exact ih
theorem leftOf_none (m : MapEntry) : leftOf #[m] #[m.born] = #[] := by simp [leftOf]
theorem next_over {P : Program} (w : World) (ty : TypeId) (r bm since c0 : Nat) (seen : Array Nat) (es : Array MapEntry) (clock : Nat) (hr : w.heap[r]? = some (.mapIter (some bm) since seen c0)) (hb : w.heap[bm]? = some (.map es clock)) (hold : ∀ x ∈ es.toList, x.born < since) (hsc : since ≤ c0) (hl : leftOf es seen = #[]) :
    (Instr.next (.pointer (some ⟨r, 0, none⟩)) false ty).run P w = .ok (.tuple #[.bool false]) w := by
  rcases run_next_at (P := P) w ty r bm since c0 seen es clock hr hb hold hsc with ⟨_, h⟩ | ⟨e, he, _⟩
  · exact h
  · rw [hl] at he; simp at he
theorem setBlock_heap (w : World) (r : Nat) (o : Obj) : (setBlock w r o).heap = w.heap.setIfInBounds r o := rfl

set_option maxRecDepth 100000 in
set_option maxHeartbeats 4000000 in
theorem cpF_sound : SoundF Tryz.prog 170 cpF := by
  refine ⟨enter_run (fn := Tryz.f170) (by kernel_rfl) (by kernel_rfl) (by kernel_rfl), cpF_det, fun ρ h w B args vals k E ha hk => ?_⟩
  obtain ⟨dm, s, rfl⟩ : ∃ dm s, args = [dm, s] := by
    match args, hk with
    | [], hk => cases hk
    | [_], hk => cases hk
    | _ :: _ :: _ :: _, hk => cases hk
    | [dm, s], _ => exact ⟨dm, s, rfl⟩
  obtain ⟨qd, rfl, hk1⟩ := AV.on_m_spec (show dm.on_m _ = true from hk)
  obtain ⟨q, rfl, hk2⟩ := AV.on_m_spec hk1
  rw [HT.getR_eq] at hk2
  obtain ⟨es, hg, hk3⟩ := OB.onM_spec hk2
  clear hk hk1 hk2
  obtain ⟨fs, c, hb, hr, hborn⟩ := E.map q es hg
  have hlt : (ρ q).blk < w.heap.size := (Array.getElem?_eq_some_iff.1 hb).1
  have hrg := run_range_map (P := Tryz.prog) w 120 9 119 (ρ q).blk fs c (by kernel_rfl) hb
  cases ha with
  | cons _ dv _ _ hd t =>
    cases t with
    | cons _ sv _ _ hs t2 =>
      cases t2
      cases hd
      cases hs
      match es, hr, hk3 with
      | [], hr, hk4 =>
        obtain rfl : fs = #[] := by cases hf : fs.toList with
          | nil => exact Array.toList_eq_nil_iff.1 hf
          | cons _ _ => rw [hf] at hr; cases hr
        have hnx : ∀ ty, (Instr.next (.pointer (some ⟨w.heap.size, 0, none⟩)) false ty).run Tryz.prog (w.alloc (.mapIter (some (ρ q).blk) c #[] c)) = .ok (.tuple #[.bool false]) (w.alloc (.mapIter (some (ρ q).blk) c #[] c)) := fun ty =>
          next_over _ ty _ _ _ _ _ _ _ (heap_alloc_new w _) ((heap_alloc_old w _ hlt).trans hb) (fun x hx => by simp at hx) (Nat.le_refl _) rfl
        have fin : Left Tryz.prog ρ h w B k (.returned (.tuple #[])) (w.alloc (.mapIter (some (ρ q).blk) c #[] c)) := by
          obtain ⟨E', s'⟩ := E.below ((Below.refl _ w).alloc (Nat.le_refl _) (.mapIter (some (ρ q).blk) c #[] c))
          exact ⟨ρ, h, .t [], E', s', .t [] [] .nil, hk4⟩
        clear hk4 E hg hr hborn
        go_enter Tryz.func170, Tryz.ntmps170
        go_wp2
        refine wp_loop_rounds 1 ?_
        rw [rounds_succ]
        go_wp2
        go_end0
        exact fin
      | [(x, z)], hr, hk4 =>
        obtain ⟨z0, rfl, hne, hk5⟩ : ∃ z0, z = .a [z0] ∧ nb (Q.eq qd q) = true ∧ (muD true (.m qd) x z h fun h' => k (.t []) h') = true := by
          obtain ⟨cs, rfl, hk5⟩ := AV.on_a_spec (show z.on_a _ = true from hk4)
          match cs, hk5 with
          | [], hk5 => cases hk5
          | _ :: _ :: _, hk5 => cases hk5
          | [z0], hk5 =>
            obtain ⟨a1, a2⟩ := ifT_spec hk5
            exact ⟨z0, rfl, a1, a2⟩
        clear hk4
        obtain ⟨m, rfl, hx, hz⟩ : ∃ m : MapEntry, fs = #[m] ∧ Rel ρ h.nx.num x m.key ∧ Rel ρ h.nx.num (.a [z0]) m.val := by
          cases hf : fs.toList with
          | nil => rw [hf] at hr; cases hr
          | cons m l =>
            rw [hf] at hr
            cases hr with
            | cons _ _ _ _ _ h1 h2 h3 =>
              cases h3
              exact ⟨m, Array.toList_inj.1 hf, h1, h2⟩
        obtain ⟨v0, hv0, hv1⟩ : ∃ v0, m.val = .agg #[v0] ∧ v0.oneCell' = true := by
          generalize m.val = mv at hz
          cases hz with
          | a _ vs h1 h2 =>
            cases h1 with
            | cons _ v _ _ _ h3 =>
              cases h3
              exact ⟨v, rfl, h2 v (by simp)⟩
        have hqd : h.live qd := by
          have hk6 : ((HT.getR qd h.t).onM fun es => muK true x (.a [z0]) es fun es' => HT.setK (.mp es') qd h.t fun t' => k (.t []) (.mk t' h.nx)) = true := hk5
          rw [HT.getR_eq] at hk6
          obtain ⟨es, hg', _⟩ := OB.onM_spec hk6
          rw [Hp.live, hg']
          simp
        have hbne : (ρ qd).blk ≠ (ρ q).blk := fun e => by
          have := E.inj qd q hqd (by rw [Hp.live, hg]; simp) e
          rw [this, Q.eq_self] at hne
          cases hne
        have hdlt : (ρ qd).blk < w.heap.size := by
          have hk6 : ((HT.getR qd h.t).onM fun es => muK true x (.a [z0]) es fun es' => HT.setK (.mp es') qd h.t fun t' => k (.t []) (.mk t' h.nx)) = true := hk5
          rw [HT.getR_eq] at hk6
          obtain ⟨es, hg', _⟩ := OB.onM_spec hk6
          obtain ⟨_, _, hb', _⟩ := E.map qd es hg'
          exact (Array.getElem?_eq_some_iff.1 hb').1
        have hmb : m.born < c := hborn m (by simp)
        have mu : ∀ W, Below w.heap.size w W → ∃ W2 o, (Instr.mapUpdate 120 (.map (some (ρ qd).blk)) m.key (.agg #[v0])).run Tryz.prog W = .ok () W2 ∧ W2.heap = W.heap.setIfInBounds (ρ qd).blk o ∧ Left Tryz.prog ρ h w B k (.returned (.tuple #[])) W2 := fun W hW => by
          obtain ⟨E', s'⟩ := E.below hW
          obtain ⟨fs', c', h', h1, h2, h3, h4⟩ := muD_run (kt := 9) (et := 119) E' (t := 120) (by kernel_rfl) (by kernel_rfl) hx (hv0 ▸ hz) hk5
          exact ⟨_, _, h1, rfl, ρ, h', .t [], h2, s'.trans h3, .t [] [] .nil, h4⟩
        obtain ⟨wA, hnx1, hAr, hAb, hBA, hsA⟩ : ∃ wA : World, (∀ ty, (Instr.next (.pointer (some ⟨w.heap.size, 0, none⟩)) false ty).run Tryz.prog (w.alloc (.mapIter (some (ρ q).blk) c #[] c)) = .ok (.tuple #[.bool true, m.key, .agg #[v0]]) wA) ∧
            wA.heap[w.heap.size]? = some (.mapIter (some (ρ q).blk) c #[m.born] c) ∧ wA.heap[(ρ q).blk]? = some (.map #[m] c) ∧ Below w.heap.size w wA ∧ w.heap.size < wA.heap.size := by
          have hrun : ∀ ty, (Instr.next (.pointer (some ⟨w.heap.size, 0, none⟩)) false ty).run Tryz.prog (w.alloc (.mapIter (some (ρ q).blk) c #[] c)) = .ok (.tuple #[.bool true, m.key, .agg #[v0]]) (setBlock (w.alloc (.mapIter (some (ρ q).blk) c #[] c)) w.heap.size (.mapIter (some (ρ q).blk) c #[m.born] c)) := fun ty => by
            have g1 : (getObj w.heap.size).run Tryz.prog (w.alloc (.mapIter (some (ρ q).blk) c #[] c)) = .ok (.mapIter (some (ρ q).blk) c #[] c) (w.alloc (.mapIter (some (ρ q).blk) c #[] c)) := run_getObj' (heap_alloc_new w _) (by intro _ _ _ e; cases e)
            have g2 : (getObj (ρ q).blk).run Tryz.prog (w.alloc (.mapIter (some (ρ q).blk) c #[] c)) = .ok (.map #[m] c) (w.alloc (.mapIter (some (ρ q).blk) c #[] c)) := run_getObj' ((heap_alloc_old w _ hlt).trans hb) (by intro _ _ _ e; cases e)
            have g3 : (choose (Question.mapNext 1)).run Tryz.prog (w.alloc (.mapIter (some (ρ q).blk) c #[] c)) = .ok 0 (w.alloc (.mapIter (some (ρ q).blk) c #[] c)) := by simp [choose, Sem.run, Question.forced]
            have g4 : (setObj w.heap.size (.mapIter (some (ρ q).blk) c #[m.born] c)).run Tryz.prog (w.alloc (.mapIter (some (ρ q).blk) c #[] c)) = .ok () (setBlock (w.alloc (.mapIter (some (ρ q).blk) c #[] c)) w.heap.size (.mapIter (some (ρ q).blk) c #[m.born] c)) := run_setObj_at (heap_alloc_new w _) _
            simp only [Instr.next, Sem.run_bind, g1, g2, Result.andThen]
            have hnl : ¬ c ≤ m.born := by omega
            simp [hnl, hmb, hv0, g4, Result.andThen, Question.forced]
          refine ⟨_, hrun, ?_, ?_, ?_, ?_⟩
          · rw [setBlock_heap, Array.getElem?_setIfInBounds_self_of_lt (by simp)]
          · rw [setBlock_heap, Array.getElem?_setIfInBounds_ne (by omega)]
            exact (heap_alloc_old w _ hlt).trans hb
          · refine ⟨rfl, rfl, rfl, by rw [setBlock_heap]; simp, fun j hj => ?_⟩
            rw [setBlock_heap, Array.getElem?_setIfInBounds_ne (by omega)]
            exact heap_alloc_old w _ hj
          · rw [setBlock_heap]; simp
        have hen : (Instr.entry (.pointer (some ⟨w.heap.size, 0, none⟩))).run Tryz.prog wA = .ok (.tuple #[m.key, .agg #[v0]]) wA := hv0 ▸ run_entry_at wA w.heap.size (ρ q).blk c #[] #[m] c m hAr hAb (by simp) (by simp)
        have hst : (store ⟨wA.heap.size, 0, none⟩ v0).run Tryz.prog (wA.alloc (.cells #[.nilIface] 119)) = .ok () ((wA.alloc (.cells #[.nilIface] 119)).setCell ⟨wA.heap.size, 0, none⟩ v0) := by
          rw [run_store _ _ _ _ _ hv1]
          simp
        obtain ⟨W2, o2, hmu, hW2, fin⟩ := mu (wA.alloc (.cells #[v0] 119)) (hBA.alloc (by omega) _)
        clear mu
        have hheap : ∀ j, j < wA.heap.size → j ≠ (ρ qd).blk → W2.heap[j]? = wA.heap[j]? := fun j hj hne => by
          rw [hW2, Array.getElem?_setIfInBounds_ne (Ne.symm hne), Below.heap_alloc _ _ _ hj]
        have hnx2 : ∀ ty, (Instr.next (.pointer (some ⟨w.heap.size, 0, none⟩)) false ty).run Tryz.prog W2 = .ok (.tuple #[.bool false]) W2 := fun ty =>
          next_over W2 ty _ _ _ _ _ _ _ ((hheap _ hsA (by omega)).trans hAr) ((hheap _ (by omega) (Ne.symm hbne)).trans hAb) (fun x hx => by simp at hx; subst hx; exact hmb) (Nat.le_refl _) (leftOf_none m)
        clear hheap hW2
        clear hk5 hg hr hborn hb hne hqd E hx hz hk3
        go_enter Tryz.func170, Tryz.ntmps170
        go_wp2
        refine wp_loop_rounds 2 ?_
        rw [rounds_succ]
        go_wp2_with fail
        rw [rounds_succ]
        go_wp2_with fail
        go_end0
        exact fin

/-! slices.Sorted of maps.Keys of a map that holds nothing. -/
set_option maxRecDepth 100000 in
set_option maxHeartbeats 1000000 in
theorem keys1_none (F : Fence) (n : Nat) (h10 : F.fn 191) (hro : F.round = none) (l : Nat) (p : Addr) (b c : Nat) (J : List (List UInt8) → World → Prop) (W : World) (hJ : AbidesFrom W.heap.size J)
    (hm : W.cell? p = some (.map (some b))) (hb : W.heap[b]? = some (.map #[] c)) (h0 : J [] W) :
    CallsIn F n Tryz.prog 191 #[.func (.yield l) #[] #[], .pointer (some p)] W fun e W' => (∃ v, e = .returned v) ∧ ∃ ss : List (List UInt8), ss = [] ∧ J ss W' := by
  refine callsIn_of_wp Tryz.func191 rfl h10 ?_ hro
  simp only [Tryz.ntmps191, List.size_toArray, List.length_cons, List.length_nil, Nat.reduceAdd, Nat.reduceSub, Array.replicate_succ, Array.replicate_zero, List.push_toArray, List.append_toArray, List.nil_append, List.cons_append]
  have hlt : b < W.heap.size := (Array.getElem?_eq_some_iff.1 hb).1
  have hrg := run_range_map (P := Tryz.prog) W 128 9 217 b #[] c (by kernel_rfl) hb
  have hnx : ∀ ty, (Instr.next (.pointer (some ⟨W.heap.size, 0, none⟩)) false ty).run Tryz.prog (W.alloc (.mapIter (some b) c #[] c)) = .ok (.tuple #[.bool false]) (W.alloc (.mapIter (some b) c #[] c)) := fun ty =>
    next_over _ ty _ _ _ _ _ _ _ (heap_alloc_new W _) ((heap_alloc_old W _ hlt).trans hb) (fun x hx => by simp at hx) (Nat.le_refl _) rfl
  gi_wp2
  refine wpIn_loop_rounds 1 ?_
  rw [roundsIn_succ]
  gi_wp2
  go_end0
  exact ⟨⟨_, rfl⟩, [], rfl, hJ [] W _ none h0 (World.grownBy_alloc W _ none) (fun r e => by cases e)⟩
def rn : Ren := ⟨fun f => match f with | 8 => 189 | 11 => 231 | _ => 191,
  fun t => match t with | 0 => 0 | 4 => 4 | 24 => 134 | 26 => 9 | 28 => 215 | _ => 114, fun _ => 0⟩
set_option maxRecDepth 100000 in
theorem collL : SlLaysZ.n8 Tryz.prog rn where
  mixed := by kernel_rfl
  f8 := ⟨ "slices.Collect[string]", by decide, by kernel_rfl⟩
  f11 := ⟨ "slices.AppendSeq[[]string,string]", by decide, by kernel_rfl⟩
  t0 := by kernel_rfl
  a0 := fun _ => by kernel_rfl
  z0 := fun _ => by kernel_rfl
  v0 := fun _ => by kernel_rfl
  t24 := by kernel_rfl
  a24 := fun _ => by kernel_rfl
  z24 := fun _ => by kernel_rfl
  v24 := fun _ => by kernel_rfl
  t26 := by kernel_rfl
  a26 := fun _ => by kernel_rfl
  z26 := fun _ => by kernel_rfl
  v26 := fun _ => by kernel_rfl
  t28 := by kernel_rfl
  a28 := fun _ => by kernel_rfl
  z28 := fun _ => by kernel_rfl
  v28 := fun _ => by kernel_rfl
  i26 := by kernel_rfl
set_option maxRecDepth 100000 in
theorem collect_none (p : Addr) (b c : Nat) (w : World) (hm : w.cell? p = some (.map (some b))) (hb : w.heap[b]? = some (.map #[] c)) (hp : p.block < w.heap.size) :
    Calls Tryz.prog 189 #[.func (.func 191) #[] #[.pointer (some p)]] w fun e w' => e = .returned (.slice none 0 0) ∧ Below w.heap.size w w' := by
  refine calls_of_every_depth (L := [189, 231, 191]) (n := 4) fun D => ?_
  have hlt : b < w.heap.size := (Array.getElem?_eq_some_iff.1 hb).1
  have key := AnyZ.collect_in (ρ := rn) collL (Fence.list [189, 231, 191] (some D)) 4 (by simp [Fence.list, rn]) (by simp [Fence.list, rn]) rfl (by decide)
    191 #[.pointer (some p)] (by simp [Fence.list]) (enter_run (fn := Tryz.f191) (by kernel_rfl) (by kernel_rfl) (by kernel_rfl)) (fun ss => ss = []) 0 (by decide) (by decide) w
    (fun l J W hW hJ _ h0 => keys1_none _ _ (by simp [Fence.list]) rfl l p b c J W hJ ((hW.cell hp).trans hm) ((hW.block b hlt).trans hb) h0)
  refine CallsIn.mono key ?_
  rintro e w' ⟨v, ss, rfl, hs, _, hv, hB⟩
  exact ⟨by rw [hv.2 hs], hB⟩
set_option maxRecDepth 100000 in
set_option maxHeartbeats 1000000 in
theorem soF_sound {s : FS} (hs : SoundF Tryz.prog 190 s) (he : s [.ns] h00 (fun y _ => y.on_t fun l => l.isEmpty) = true) : SoundF Tryz.prog 112 (soF 191) := by
  refine ⟨enter_run (fn := Tryz.f112) (by kernel_rfl) (by kernel_rfl) (by kernel_rfl), soF_det _, fun ρ h w B args vals k E ha hk => ?_⟩
  obtain ⟨f, rfl⟩ : ∃ f, args = [f] := by
    match args, hk with
    | [], hk => cases hk
    | _ :: _ :: _, hk => cases hk
    | [f], _ => exact ⟨f, rfl⟩
  obtain ⟨g, fs, cs, rfl, hk1⟩ := AV.on_f_spec (show f.on_f _ = true from hk)
  obtain ⟨rfl, hk2⟩ := ifT_eq hk1
  clear hk hk1
  match fs, cs, hk2 with
  | [], [pc], hk3 =>
    obtain ⟨q0, o, rfl, hk4⟩ := AV.on_p_spec (show ld1 pc h _ = true from hk3)
    rw [HT.getR_eq] at hk4
    obtain ⟨ty, n, v, hg0, hk5⟩ := OB.on_spec hk4
    obtain ⟨ho, hk6⟩ := ifT_spec hk5
    obtain ⟨q, hq, hk7⟩ := AV.on_m_spec hk6
    rw [HT.getR_eq] at hk7
    obtain ⟨es, hg, hk8⟩ := OB.onM_spec hk7
    cases es with
    | cons _ _ => cases hk8
    | nil =>
      have hk9 : k .ns h = true := hk8
      obtain ⟨x, hx, hrx, _⟩ := (E.row q0 ty n v hg0).get o (by simpa using ho)
      rw [hq] at hrx
      cases hrx with
      | m _ hqn =>
        obtain ⟨fs, c, hb, hr, _⟩ := E.map q [] hg
        obtain rfl : fs = #[] := by cases hf : fs.toList with
          | nil => exact Array.toList_eq_nil_iff.1 hf
          | cons _ _ => rw [hf] at hr; cases hr
        have hp : ((⟨(ρ q0).blk, (ρ q0).base + o, none⟩ : Addr)).block < w.heap.size := by
          unfold World.cell? at hx
          cases hxx : w.heap[(ρ q0).blk]? with
          | none => simp [hxx] at hx
          | some _ => exact (Array.getElem?_eq_some_iff.1 hxx).1
        cases ha with
        | cons _ fv _ _ hf t =>
          cases t
          cases hf with
          | f _ _ _ us vs h1 h2 =>
            cases h1
            cases h2 with
            | cons _ pv _ _ hpv t2 =>
              cases t2
              cases hpv
              have cC := collect_none _ _ c w hx hb hp
              have fin : ∀ w', Below w.heap.size w w' → Left Tryz.prog ρ h w B k (.returned (.slice none 0 0)) w' := fun w' hw => by
                obtain ⟨E', s'⟩ := E.below hw
                exact ⟨ρ, h, .ns, E', s', .ns, hk9⟩
              have cS := fun w => hs.unit0 (w := w) (.cons _ _ _ _ .ns .nil) he
              clear hk3 hk4 hk5 hk6 hk7 hk8 hk9 E hx hb hg hg0 hr
              go_enter Tryz.func112, Tryz.ntmps112
              go_wp2_with fail
              refine cC.mono ?_
              rintro e w1 ⟨rfl, hb1⟩
              go_wp2_with fail
              refine (cS _).mono ?_
              rintro e w2 ⟨rfl, hb2⟩
              go_wp2_with fail
              go_ret
              exact fin _ (hb1.trans (hb2.mono hb1.size))
end Go.Proofs.YtlannobincnnhaaGreatDoor
namespace Go.Proofs.YtlannobincnnhaaGreatDoor
set_option linter.unusedVariables false
set_option linter.unusedSimpArgs false
open Go.ChangeShapes Go.WideShapes Go.ChangeAt Go.RowKit

def smZ (x k : Int) : Int := if x.tmod k < 0 then -(x.tmod k) else x.tmod k
theorem tmod_lt (x k : Int) (hk : 0 < k) : -k < x.tmod k ∧ x.tmod k < k := by
  have h1 := Int.tmod_lt_of_pos x hk
  have h2 := Int.tmod_lt_of_pos (-x) hk
  rw [Int.neg_tmod] at h2
  omega
theorem smZ_lt (x k : Int) (hk : 0 < k) : 0 ≤ smZ x k ∧ smZ x k < k := by
  have := tmod_lt x k hk
  unfold smZ
  split <;> omega
set_option maxRecDepth 100000 in
theorem small_walk (x k : Int) (hk : 0 < k) (hk2 : k ≤ 100) (w : World) : Calls Tryz.prog 5 #[.int .i64 x, .int .i64 k] w fun e w' => (∃ n : Nat, e = .returned (.int .i64 n) ∧ (n : Int) < k) ∧ w' = w := by
  have hb := tmod_lt x k hk
  have hs := smZ_lt x k hk
  have hne : ¬ k = 0 := by omega
  have hw : wrap64 (x.tmod k) = x.tmod k := IntWalk.wrap64_in _ (by omega)
  have hw2 : wrap64 (-(x.tmod k)) = -(x.tmod k) := IntWalk.wrap64_in _ (by omega)
  have hn : ∃ n : Nat, (n : Int) = smZ x k := ⟨(smZ x k).toNat, by omega⟩
  obtain ⟨n, hn⟩ := hn
  unfold smZ at hn hs
  go_enter Tryz.func5, Tryz.ntmps5
  go_wp2
  all_goals rename_i h
  · rw [if_pos h] at hn hs
    go_ret
    exact ⟨⟨n, by rw [hn]; rfl, by omega⟩, rfl⟩
  · rw [if_neg (by omega)] at hn hs
    go_ret
    exact ⟨⟨n, by rw [hn]; rfl, by omega⟩, rfl⟩
theorem hide4 {P : Program} {Q : Exit → Act → World → Prop} {a : Act} {w : World} {x0 x1 x2 x3 tl : Code} (h : ∀ R, R = tl → (Code.seq x0 (.seq x1 (.seq x2 (.seq x3 R)))).wp P Q a w) : (Code.seq x0 (.seq x1 (.seq x2 (.seq x3 tl)))).wp P Q a w := h tl rfl
theorem hide5 {P : Program} {Q : Exit → Act → World → Prop} {a : Act} {w : World} {x0 x1 x2 x3 x4 tl : Code} (h : ∀ R, R = tl → (Code.seq x0 (.seq x1 (.seq x2 (.seq x3 (.seq x4 R))))).wp P Q a w) : (Code.seq x0 (.seq x1 (.seq x2 (.seq x3 (.seq x4 tl))))).wp P Q a w := h tl rfl
theorem rel_nat (ρ : Q → Loc) (N n m : Nat) (v : Int) (h : v = (n : Int) + m) : Rel ρ N (.i .i64 (Nat.add (9223372036854775808 + m) n)) (.int .i64 v) := by
  have := Rel.i (ρ := ρ) (N := N) .i64 (Nat.add (9223372036854775808 + m) n)
  have e : ((Nat.add (9223372036854775808 + m) n : Nat) : Int) - 9223372036854775808 = v := by
    show (((9223372036854775808 + m) + n : Nat) : Int) - 9223372036854775808 = v
    omega
  rwa [e] at this
def bodyOf (fn : Func) : Code := match fn.body with
  | some c => c
  | none => .skip
end Go.Proofs.YtlannobincnnhaaGreatDoor
