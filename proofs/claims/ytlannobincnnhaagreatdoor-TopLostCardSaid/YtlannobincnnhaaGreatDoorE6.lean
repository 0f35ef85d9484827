/-
  No claim by itself: the evaluator: from an empty heap; the rest of a function's text; two functions by hand. No condition.
-/
import Derived.Test.YtlannobincnnhaaGreatDoorE5
import Derived.Below
import Derived.Maps.RangeRun
namespace Go.Proofs.YtlannobincnnhaaGreatDoor
set_option linter.unusedVariables false
set_option linter.unusedSimpArgs false
open Go.RowKit

section
variable {P : Program} {ρ : Q → Loc} {h : Hp} {w w' : World} {B : Nat}
/-- What has no name may come. -/
theorem Emb.below (E : Emb P ρ h w B) (hb : Below w.heap.size w w') : Emb P ρ h w' B ∧ Step ρ h w ρ h w' := by
  have lt_of : ∀ {b : Nat} {o : Obj}, w.heap[b]? = some o → b < w.heap.size := fun hx => (Array.getElem?_eq_some_iff.1 hx).1
  refine ⟨⟨Nat.le_trans E.base hb.size, E.lt, E.ge, E.inj, fun q ty n v hg => ?_, fun q es hg => ?_, fun q o l hg => ?_⟩, ⟨fun _ _ => rfl, Nat.le_refl _, hb.size, fun b hlt _ => hb.block b hlt, fun q hq => .inl ⟨q, hq, rfl⟩, hb.os, hb.tape, hb.output⟩⟩
  · have R := E.row q ty n v hg
    obtain ⟨sz, h1, _⟩ := R.at_
    have : (ρ q).blk < w.heap.size := by
      unfold World.shape? at h1
      cases hx : w.heap[(ρ q).blk]? with
      | none => rw [hx] at h1; cases h1
      | some o => exact lt_of hx
    exact R.mono (fun _ _ => rfl) (Nat.le_refl _) (hb.block _ this)
  · have R := E.map q es hg
    obtain ⟨fs, c, h1, _⟩ := R
    exact (E.map q es hg).mono (fun _ _ => rfl) (Nat.le_refl _) (hb.block _ (lt_of h1))
  · have R := E.si q o l hg
    obtain ⟨s, h1, _⟩ := R
    exact (E.si q o l hg).mono (hb.block _ (lt_of h1))
def h00 : Hp := .mk .z (.d1 .e)
def r00 : Q → Loc := fun _ => ⟨0, 0, 0⟩
theorem no00 (q : Q) : ¬ h00.live q := fun hq => hq (HT.get_z q)
theorem emb00 (P : Program) (w : World) : Emb P r00 h00 w w.heap.size := by
  refine ⟨Nat.le_refl _, fun q hq => (no00 q hq).elim, fun q hq => (no00 q hq).elim, fun q _ hq => (no00 q hq).elim, fun q ty n v hg => ?_, fun q es hg => ?_, fun q o l hg => ?_⟩ <;>
  · have := HT.get_z q
    rw [show h00.t = .z from rfl, this] at hg
    cases hg
theorem Step.below {ρ' : Q → Loc} {h' : Hp} (s : Step r00 h00 w ρ' h' w') : Below w.heap.size w w' :=
  ⟨s.os, s.tape, s.output, s.size, fun b hb => s.frame b hb fun q hq => (no00 q hq).elim⟩
/-- A function, evaluated from the empty heap. -/
theorem SoundF.calls0 {f : FuncId} {s : FS} (hs : SoundF P f s) {args : List AV} {vals : List Value} (ha : RelL r00 1 args vals) {k : AV → Hp → Bool} (hk : s args h00 k = true) (w : World) :
    Calls P f vals.toArray w fun e w' => ∃ v ρ' h' y, e = .returned v ∧ Rel ρ' (Hp.nx h').num y v ∧ k y h' = true ∧ Below w.heap.size w w' :=
  (hs.sound r00 h00 w w.heap.size args vals k (emb00 P w) ha hk).mono fun e w' hl => by
    cases e with
    | returned v =>
      obtain ⟨ρ', h', y, _, s, hr, hk⟩ := hl
      exact ⟨v, ρ', h', y, rfl, hr, hk, s.below⟩
    | _ => exact hl.elim
def isT (y : AV) : Bool := y.on_b fun b => b
theorem isT_spec {ρ : Q → Loc} {N : Nat} {y : AV} {v : Value} (hr : Rel ρ N y v) (h : isT y = true) : v = .bool true := by
  obtain ⟨b, rfl, hb⟩ := AV.on_b_spec (show y.on_b _ = true from h)
  subst hb
  cases hr
  rfl
/-- It tells true. -/
theorem SoundF.true0 {f : FuncId} {s : FS} (hs : SoundF P f s) {args : List AV} {vals : List Value} (ha : RelL r00 1 args vals) (hk : s args h00 (fun y _ => isT y) = true) (w : World) :
    Calls P f vals.toArray w fun e w' => e = .returned (.bool true) ∧ Below w.heap.size w w' :=
  (hs.calls0 ha hk w).mono fun e w' ⟨v, _, _, y, he, hr, hk, hb⟩ => ⟨by rw [he, isT_spec hr hk], hb⟩
/-- It gives nothing. -/
theorem SoundF.unit0 {f : FuncId} {s : FS} (hs : SoundF P f s) {args : List AV} {vals : List Value} (ha : RelL r00 1 args vals) (hk : s args h00 (fun y _ => y.on_t fun l => l.isEmpty) = true) (w : World) :
    Calls P f vals.toArray w fun e w' => e = .returned (.tuple #[]) ∧ Below w.heap.size w w' :=
  (hs.calls0 ha hk w).mono fun e w' ⟨v, _, _, y, he, hr, hk, hb⟩ => by
    obtain ⟨l, rfl, hl⟩ := AV.on_t_spec (show y.on_t _ = true from hk)
    cases l with
    | nil =>
      cases hr with
      | t _ vs hv =>
        cases hv
        exact ⟨he, hb⟩
    | cons _ _ => cases hl

/-! The rest of a function's text. -/
/-- What stands behind the first so many parts. -/
def tlK : Nat → Code → Code
  | 0, c => c
  | n + 1, .seq _ b => tlK n b
  | _ + 1, c => c
def tlA : Nat → Ann → Ann
  | 0, a => a
  | n + 1, .s _ b => tlA n b
  | _ + 1, a => a
/-- The environment in which two temporaries are known. -/
def env2 (N : Nat) (x y : AV) : List AV := x :: y :: List.replicate (N - 2) .d
def env1 (N : Nat) (x : AV) : List AV := x :: List.replicate (N - 1) .d
theorem env_d (ρ : Q → Loc) (n N : Nat) (i : Nat) (v : Value) : Rel ρ n ((List.replicate N AV.d).getD i .d) v := by
  have : (List.replicate N AV.d).getD i .d = .d := by
    rw [List.getD_eq_getElem?_getD, List.getElem?_replicate]
    split <;> rfl
  rw [this]
  exact .d _
theorem env2_rel {ρ : Q → Loc} {n N : Nat} {x y : AV} {a : Act} (hs : a.tmps.size = N) (hN : 2 ≤ N) (hd : a.defers = []) (hx : Rel ρ n x (a.tmps.getD 0 undef)) (hy : Rel ρ n y (a.tmps.getD 1 undef)) : Env ρ n (env2 N x y) a := by
  refine ⟨by simp [env2, hs]; omega, fun i _ => ?_, hd⟩
  match i with
  | 0 => exact hx
  | 1 => exact hy
  | i + 2 => exact env_d ρ n (N - 2) i _
theorem env1_rel {ρ : Q → Loc} {n N : Nat} {x : AV} {a : Act} (hs : a.tmps.size = N) (hN : 1 ≤ N) (hd : a.defers = []) (hx : Rel ρ n x (a.tmps.getD 0 undef)) : Env ρ n (env1 N x) a := by
  refine ⟨by simp [env1, hs]; omega, fun i _ => ?_, hd⟩
  match i with
  | 0 => exact hx
  | i + 1 => exact env_d ρ n (N - 1) i _
theorem rest_sound {T : Tbl} {M : List (Nat × Nat)} (hm : P.follows .mixedOrders = true) (hT : SoundT P T) {fn : Func} {c : Code} {ann : Ann} {env : List AV} {a : Act} (en : Env r00 1 env a) (hl : env.length = fn.ntmps)
    (hk : den P T M fn.ntmps c ann (retK P fn.results.toList fun y _ => isT y) env h00 = true) {w0 : World} (hw : Below w0.heap.size w0 w) :
    c.wp P (bodyPost P fn fun e w' => e = .returned (.bool true) ∧ Below w0.heap.size w0 w') a w := by
  refine den_sound (B := w.heap.size) hm hT (draw_sound hT) c (emb00 P w) en hl hk fun e env' h' ρ' w' a' E' s' en' _ hk' => ?_
  have key : resD P env' h' fn.results.toList (fun l => ret1 l h' fun y _ => isT y) = true → bodyPost P fn (fun e w' => e = .returned (.bool true) ∧ Below w0.heap.size w0 w') .ret a' w' := fun hk' => by
    obtain ⟨y, v, h1, h2, h3⟩ := ret_sound E' en' hk'
    exact ⟨en'.defers, v, h1, by rw [isT_spec h2 h3], hw.trans (s'.below.mono hw.size)⟩
  cases e with
  | n => exact key hk'
  | x i => cases hk'
  | r => exact key hk'

/-! maps.Copy of one entry at the most, into another map. -/
theorem muD_run (E : Emb P ρ h w B) {t kt et : TypeId} (ht : mapOf P t = some (kt, et)) {str : Bool} (hs : kdOf P kt = some str) {q : Q} {x z : AV} {u zv : Value} (hx : Rel ρ h.nx.num x u) (hz : Rel ρ h.nx.num z zv) {k : Hp → Bool} (hk : muD str (.m q) x z h k = true) :
    ∃ fs' c' h', (Instr.mapUpdate t (.map (some (ρ q).blk)) u zv).run P w = .ok () { w with heap := w.heap.setIfInBounds (ρ q).blk (.map fs' c') } ∧
      Emb P ρ h' { w with heap := w.heap.setIfInBounds (ρ q).blk (.map fs' c') } B ∧ Step ρ h w ρ h' { w with heap := w.heap.setIfInBounds (ρ q).blk (.map fs' c') } ∧ k h' = true := by
  have ht := mapOf_spec ht
  obtain ⟨d, hd, hck⟩ := kd_desc hs
  have hk1 : ((HT.getR q h.t).onM fun es => muK str x z es fun es' => HT.setK (.mp es') q h.t fun t' => k (.mk t' h.nx)) = true := hk
  clear hk
  rw [HT.getR_eq] at hk1
  obtain ⟨es, hg, hk2⟩ := OB.onM_spec hk1
  obtain ⟨fs, c, hb, hr, hborn⟩ := E.map q es hg
  have hgo := run_getObj' (P := P) hb (by intro _ _ _ e; cases e)
  obtain ⟨es', hk3, hcase⟩ := muK_sound hs hd hx hz 0 hr hk2
  rw [HT.setK_eq] at hk3
  rcases hcase with ⟨h1, h2⟩ | ⟨j, e, h1, h2, h3, h4, h5⟩
  · obtain ⟨a1, a2⟩ := E.setMap hg (es' := es') (fs' := fs.push { key := u, val := zv, born := c }) (c' := c + 1) (by simpa using h2 c) (fun e he => by
      rw [Array.toList_push] at he
      rcases List.mem_append.1 he with he | he
      · have := hborn e he; omega
      · rcases List.mem_singleton.1 he with rfl; simp)
    exact ⟨_, _, _, by simp [Instr.mapUpdate, run_underlying ht, hgo, hck, run_findKey (P := P) hd h1, run_setObj' (P := P) hb (by intro _ _ _ e; cases e)], a1, a2, hk3⟩
  · have hj : fs[j]? = some e := by rw [← Array.getElem?_toList]; exact h2
    have hks : (Instr.keyThatStays (((fs[0 + j]?).map (·.key)).getD u) u).run P w = .ok u w := by
      simp [hj, h3, Instr.keyThatStays, h4]
    rw [Nat.zero_add] at hks h1
    obtain ⟨a1, a2⟩ := E.setMap hg (es' := es') (fs' := fs.modify j fun e => { e with key := u, val := zv }) (c' := c) (by rw [Array.toList_modify]; exact h5) (fun e' he => by
      rw [Array.toList_modify] at he
      obtain ⟨i, hi⟩ := List.mem_iff_getElem?.1 he
      rw [List.getElem?_modify] at hi
      cases hfi : fs.toList[i]? with
      | none => rw [hfi] at hi; simp at hi
      | some e0 =>
        rw [hfi] at hi
        have hb0 := hborn e0 (List.mem_of_getElem? hfi)
        by_cases hij : j = i
        · simp [hij] at hi; rw [← hi]; exact hb0
        · simp [hij] at hi; rw [← hi]; exact hb0)
    refine ⟨_, _, _, ?_, a1, a2, hk3⟩
    simp only [Instr.mapUpdate, Sem.run_bind, run_underlying ht, Result.andThen_ok, hgo, hck, run_findKey (P := P) hd h1, hks, run_setObj' (P := P) hb (by intro _ _ _ e; cases e)]
noncomputable def cpF : FS := fun args h k => capp 2 (fun dm s h => dm.on_m fun qd => s.on_m fun q => (HT.getR q h.t).onM fun es => List.casesOn (motive := fun _ => Bool) es (k (.t []) h) fun e t => List.casesOn (motive := fun _ => Bool) t (e.2.on_a fun cs => List.casesOn (motive := fun _ => Bool) cs false fun _ c2 => List.casesOn (motive := fun _ => Bool) c2 (ifT (nb (Q.eq qd q)) (muD true (.m qd) e.1 e.2 h fun h' => k (.t []) h')) (fun _ _ => false)) (fun _ _ => false)) args h
/-- slices.Sorted of maps.Keys of a map that holds nothing; 'n': the number of the iterator's text. -/
noncomputable def soF (n : Nat) : FS := fun args h k => capp 1 (fun f h => f.on_f fun g fs cs => ifT (Nat.beq g n) (List.casesOn (motive := fun _ => Bool) fs (List.casesOn (motive := fun _ => Bool) cs false fun c t => List.casesOn (motive := fun _ => Bool) t (ld1 c h fun m => m.on_m fun q => (HT.getR q h.t).onM fun es => List.casesOn (motive := fun _ => Bool) es (k .ns h) (fun _ _ => false)) (fun _ _ => false)) (fun _ _ => false))) args h
theorem cpF_det (args : List AV) (h : Hp) : Det2 (cpF args h) := by
  match args with
  | [] => exact Det2.fail
  | [_] => exact Det2.fail
  | _ :: _ :: _ :: _ => exact Det2.fail
  | [dm, s] =>
    show Det2 fun (k : AV → Hp → Bool) => dm.on_m fun qd => s.on_m fun q => (HT.getR q h.t).onM fun es => List.casesOn (motive := fun _ => Bool) es (k (.t []) h) fun e t => List.casesOn (motive := fun _ => Bool) t (e.2.on_a fun cs => List.casesOn (motive := fun _ => Bool) cs false fun _ c2 => List.casesOn (motive := fun _ => Bool) c2 (ifT (nb (Q.eq qd q)) (muD true (.m qd) e.1 e.2 h fun h' => k (.t []) h')) (fun _ _ => false)) (fun _ _ => false)
    cases dm with
    | m qd =>
      cases s with
      | m q =>
        show Det2 fun (k : AV → Hp → Bool) => (HT.getR q h.t).onM fun es => List.casesOn (motive := fun _ => Bool) es (k (.t []) h) fun e t => List.casesOn (motive := fun _ => Bool) t (e.2.on_a fun cs => List.casesOn (motive := fun _ => Bool) cs false fun _ c2 => List.casesOn (motive := fun _ => Bool) c2 (ifT (nb (Q.eq qd q)) (muD true (.m qd) e.1 e.2 h fun h' => k (.t []) h')) (fun _ _ => false)) (fun _ _ => false)
        cases HT.getR q h.t with
        | mp es =>
          match es with
          | [] => exact Det2.ret _ _
          | [e] =>
            show Det2 fun (k : AV → Hp → Bool) => e.2.on_a fun cs => List.casesOn (motive := fun _ => Bool) cs false fun _ c2 => List.casesOn (motive := fun _ => Bool) c2 (ifT (nb (Q.eq qd q)) (muD true (.m qd) e.1 e.2 h fun h' => k (.t []) h')) (fun _ _ => false)
            obtain ⟨e1, e2⟩ := e
            cases e2 with
            | a cs =>
              match cs with
              | [] => exact Det2.fail
              | [_] => exact det2_ifT ((muD_det true (.m qd) _ _ h).to2 fun h' => Det2.ret _ _)
              | _ :: _ :: _ => exact Det2.fail
            | _ => exact Det2.fail
          | _ :: _ :: _ => exact Det2.fail
        | _ => exact Det2.fail
      | _ => exact Det2.fail
    | _ => exact Det2.fail
theorem ld1_det (c : AV) (h : Hp) : Det (ld1 c h) := det_on_p fun _ _ => det_on fun _ _ _ => det_ifT (Det.ret _)
theorem soF_det (n : Nat) (args : List AV) (h : Hp) : Det2 (soF n args h) := by
  match args with
  | [] => exact Det2.fail
  | _ :: _ :: _ => exact Det2.fail
  | [f] =>
    show Det2 fun (k : AV → Hp → Bool) => f.on_f fun g fs cs => ifT (Nat.beq g n) (List.casesOn (motive := fun _ => Bool) fs (List.casesOn (motive := fun _ => Bool) cs false fun c t => List.casesOn (motive := fun _ => Bool) t (ld1 c h fun m => m.on_m fun q => (HT.getR q h.t).onM fun es => List.casesOn (motive := fun _ => Bool) es (k .ns h) (fun _ _ => false)) (fun _ _ => false)) (fun _ _ => false))
    refine Det2.on_f fun g fs cs => det2_ifT ?_
    match fs, cs with
    | _ :: _, _ => exact Det2.fail
    | [], [] => exact Det2.fail
    | [], _ :: _ :: _ => exact Det2.fail
    | [], [c] =>
      refine Det.to2 (g := fun m (k : AV → Hp → Bool) => m.on_m fun q => (HT.getR q h.t).onM fun es => List.casesOn (motive := fun _ => Bool) es (k .ns h) (fun _ _ => false)) (ld1_det c h) fun m => ?_
      cases m with
      | m q =>
        show Det2 fun (k : AV → Hp → Bool) => (HT.getR q h.t).onM fun es => List.casesOn (motive := fun _ => Bool) es (k .ns h) (fun _ _ => false)
        cases HT.getR q h.t with
        | mp es => cases es <;> first | exact Det2.ret _ _ | exact Det2.fail
        | _ => exact Det2.fail
      | _ => exact Det2.fail
end
end Go.Proofs.YtlannobincnnhaaGreatDoor
