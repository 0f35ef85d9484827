/-
  No claim by itself: the evaluator: an operation that writes, makes memory or calls, whichever it is. | the evaluator: what a function's text means: the definitions. | the evaluator: functions with an answer for opaque texts, for documents' maps. | the evaluator: each operation has one value, whatever follows it. No condition.
-/
import Derived.Test.YtpchmdddkpocgaaGreatDoorP6
import Derived.RegionTactic
namespace Go.Proofs.YtpchmdddkpocgaaGreatDoor
set_option linter.unusedVariables false
set_option linter.unusedSimpArgs false
def dense : Nat → List (Nat × Operand) → Bool
 | _, [] => true
 | i, (j, _) :: l => match Nat.beq j i with
  | true => dense (Nat.succ i) l
  | false => false
def u8Of (P : Program) (e : TypeId) : Bool := match P.underlying e, Nat.beq (P.cellsOf e) 1 with
 | some (.int .u8), true => true
 | _, _ => false
def sliceOf (P : Program) (t : TypeId) : Option TypeId := match P.underlying t with
 | some (.slice e) => some e
 | _ => none
theorem sliceOf_spec {P : Program} {t e : TypeId} (h : sliceOf P t = some e) : P.underlying t = some (.slice e) := by
 unfold sliceOf at h
 split at h
 ·cases h; assumption
 ·cases h
def isStr (P : Program) (t : TypeId) : Bool := match P.underlying t with
 | some .string => true
 | _ => false
theorem isStr_spec {P : Program} {t : TypeId} (h : isStr P t = true) : P.underlying t = some .string := by
 unfold isStr at h
 split at h
 ·assumption
 ·cases h
def isSeq (P : Program) (t : TypeId) : Bool := match P.underlying t with
 | some .string => true
 | some (.slice _) => true
 | _ => false
theorem isSeq_spec {P : Program} {t : TypeId} (h : isSeq P t = true) : (∃ f, P.underlying t = some (.slice f)) ∨ P.underlying t = some .string := by
 unfold isSeq at h
 split at h
 ·exact .inr (by assumption)
 ·exact .inl ⟨_, by assumption⟩
 ·cases h
def methOk (P : Program) (name : String) (tf : Nat × Nat) : Bool := match P.info? tf.1 with
 | some i => match i.methods.find? (·.name == name) with
  | some m => m.path.isEmpty && (m.func == some (tf.2, false)) && (match P.underlying tf.1 with
   | some (.pointer _) => false
   | some _ => true
   | none => false)
  | none => false
 | none => false
noncomputable def ivK (M : List (Nat × Nat)) (T : Tbl) (x : AV) (args : List AV) (h : Hp) (k : AV → Hp → Bool) : Bool :=
 x.on_e fun t v => List.rec (motive := fun _ => Bool) false (fun m _ ih => Bool.casesOn (motive := fun _ => Bool) (Nat.beq m.1 t) ih (T.get m.2 (v :: args) h k)) M
noncomputable def clK (T : Tbl) (x : AV) (args : List AV) (h : Hp) (k : AV → Hp → Bool) : Bool :=
 x.on_f fun n fs cs => T.get n (List.append fs (List.append args cs)) h k
noncomputable abbrev callD (P : Program) (T : Tbl) (M : List (Nat × Nat)) (callee : Callee) (ts : List TypeId) (args : List AV) (f : Operand → AV) (h : Hp) (k : AV → Hp → Bool) : Bool :=
 match callee with
 | .builtin b => match b, ts, args with
  | .append, [t, u], [x, y] => match sliceOf P t with
   | some e => match szOf P e with
    | some sz => match elemOk P e sz && isSeq P u with
     | true => apY e sz x y h k
     | false => false
    | none => false
   | none => false
  | .clear, [t], [x] => match sliceOf P t with
   | some e => match szOf P e with
    | some sz => match elemOk P e sz && ((P.info? e).bind (·.zero)).any (fun z => z.cells.toList.all Value.oneCell') with
     | true => clD sz (zeroCs P e) x h (fun h' => k (.t []) h')
     | false => false
    | none => false
   | none => false
  | .delete, [t, _], [m, x] => match mapOf P t with
   | some (kt, _) => match kdOf P kt with
    | some str => mdD str m x h (fun h' => k (.t []) h')
    | none => false
   | none => false
  | _, _, _ => false
 | .value (.func n) => T.get n args h k
 | .value v => clK T (f v) args h k
 | .invoke r name => match M.all (methOk P name) with
  | true => ivK M T (f r) args h k
  | false => false
noncomputable abbrev heavyD (P : Program) (T : Tbl) (M : List (Nat × Nat)) (op : Op) (f : Operand → AV) (h : Hp) (k : AV → Hp → Bool) : Bool :=
 match op with
 | .store t a x => match aggOf P t with
  | some (_, n) => stL n (f a) (f x) h (fun h' => k (.t []) h')
  | none => false
 | .alloc t => match (P.info? t).bind (·.zero) with
  | some _ => boxK t (P.cellsOf t) (zeroOf P t) h k
  | none => false
 | .box t x => boxK t (P.cellsOf t) (f x) h k
 | .buildSlice t n parts => match sliceOf P t with
  | some e => match szOf P e with
   | some sz => match elemOk P e sz && dense 0 parts.toList && Nat.beq parts.toList.length n && Nat.ble (Nat.mul n sz) 1000000 with
    | true => bsK e sz n (Nat.mul n sz) (parts.toList.map fun p => f p.2) h k
    | false => false
   | none => false
  | none => false
 | .convert s t x => match isStr P s, sliceOf P t with
  | true, some e => match u8Of P e with
   | true => sb2Y e (f x) h k
   | false => false
  | _, _ => false
 | .makeMap _ none => mmD h k
 | .mapUpdate t m x z | .insert t m x z => match mapOf P t with
  | some (kt, _) => match kdOf P kt with
   | some str => muD str (f m) (f x) (f z) h (fun h' => k (.t []) h')
   | none => false
  | none => false
 | .range t x => match isStr P t with
  | true => rsD (f x) h k
  | false => false
 | .next x true => nsD (f x) h k
 | .call c => callD P T M c.callee c.argTypes.toList (c.args.toList.map f) f h k
 | _ => false
section
variable {P : Program} {ρ : Q → Loc} {h : Hp} {w : World} {B : Nat} {o : Oper} {a : Act} {next : Act → World → Prop} {QQ : Exit → Act → World → Prop}
theorem wp_of_value {v : Value} {w' : World} (h1 : (execOp a.eval o).run P w = .ok (.value v) w') (h2 : next (a.put o.dst v) w') : o.wp P a w next QQ := by
 unfold Oper.wp
 rw [h1]
 exact h2
theorem wp_of_skip {w' : World} (h1 : (execOp a.eval o).run P w = .ok .skip w') (h2 : next (a.put o.dst undef) w') : o.wp P a w next QQ := by
 unfold Oper.wp
 rw [h1]
 exact h2
def Nx (P : Program) (ρ : Q → Loc) (h : Hp) (w : World) (B : Nat) (o : Oper) (a : Act) (next : Act → World → Prop) (k : AV → Hp → Bool) : Prop :=
 ∀ y v w' ρ' h', Emb P ρ' h' w' B → Step ρ h w ρ' h' w' → Rel ρ' h'.nx.num y v → k y h' = true → next (a.put o.dst v) w'
theorem wp_of_made {s : Sem Value} (he : execOp a.eval o = (do pure (.value (← s)) : Sem Next)) {k : AV → Hp → Bool} (hm : Made P ρ h w B (s.run P w) k) (H : Nx P ρ h w B o a next k) : o.wp P a w next QQ := by
 obtain ⟨y, v, w', ρ', h', h1, h2, h3, h4, h5⟩ := hm
 exact wp_of_value (by rw [he]; simp [h1]) (H y v w' ρ' h' h2 h3 h4 h5)
theorem rel_unit (ρ : Q → Loc) (N : Nat) : Rel ρ N (.t []) (.tuple #[]) := .t [] [] .nil
theorem wp_of_unit {s : Sem Unit} (he : execOp a.eval o = (do s; pure .skip : Sem Next)) {k : AV → Hp → Bool} (hm : MadeU P ρ h w B () (s.run P w) (fun h' => k (.t []) h')) (H : Nx P ρ h w B o a next k) : o.wp P a w next QQ := by
 obtain ⟨w', h', h1, h2, h3, h4⟩ := hm
 exact wp_of_skip (by rw [he]; simp [h1]) (H _ _ w' ρ h' h2 h3 (rel_unit _ _) h4)
theorem wp_of_calls {f : FuncId} {s : FS} (hf : SoundF P f s) {args : List AV} {vals : List Value} (he : (execOp a.eval o).run P w = (callFunc f vals.toArray).run P w) (E : Emb P ρ h w B) (ha : RelL ρ h.nx.num args vals) {k : AV → Hp → Bool} (hk : s args h k = true) (H : Nx P ρ h w B o a next k) : o.wp P a w next QQ := by
 unfold Oper.wp
 rw [he, hf.enter]
 refine Calls.mono (hf.sound ρ h w B args vals k E ha hk) fun e w' hl => ?_
 cases e with
 | returned v =>
  obtain ⟨ρ', h', y, h1, h2, h3, h4⟩ := hl
  exact H y v w' ρ' h' h1 h2 h3 h4
 | panicked c => exact hl.elim
 | outgrown => exact hl.elim
theorem dense_spec {N : Nat} {f : Operand → AV} {g : Operand → Value} : ∀ {l : List (Nat × Operand)} {i : Nat}, (∀ x ∈ l.map (·.2), Rel ρ N (f x) (g x)) → dense i l = true → DenseR ρ N i (l.map fun p => f p.2) (l.map fun (i, x) => (i, g x))
 | [], i, _, _ => .nil i
 | (j, x) :: l, i, hh, hd => by
  unfold dense at hd
  split at hd
  ·rename_i hb
   have := Nat.eq_of_beq_eq_true hb
   subst this
   exact .cons _ _ _ _ _ (hh x (by simp)) (dense_spec (fun y hy => hh y (List.mem_cons_of_mem _ hy)) hd)
  ·cases hd
theorem method_run {name : String} {tf : Nat × Nat} (hm : methOk P name tf = true) (n : Nat) (v : Value) (w : World) : (method (n + 1) tf.1 v name).run P w = .ok (tf.2, v) w := by
 unfold methOk at hm
 split at hm
 ·rename_i i hi
  split at hm
  ·rename_i m hf
   simp only [Bool.and_eq_true] at hm
   obtain ⟨⟨h1, h2⟩, h3⟩ := hm
   have h1 : m.path = #[] := by simpa using h1
   have h2 : m.func = some (tf.2, false) := by simpa using h2
   split at h3
   ·cases h3
   ·rename_i d hnp hd
    have hr : ∀ s : Option String, (receiverAt tf.1 (.val v) false s).run P w = .ok v w := fun s => by
     cases d <;> first | exact (hnp _ rfl).elim | simp [receiverAt, run_underlying hd, Place.get]
    simp [method, typeInfo, hi, hf, h1, h2, follow, hr]
   ·cases h3
  ·cases hm
 ·cases hm
theorem callD_sound (E : Emb P ρ h w B) {T : Tbl} (hT : SoundT P T) {M : List (Nat × Nat)} {c : Call} (ho : o.op = .call c) {f : Operand → AV} (hfg : ∀ x ∈ c.operands, Rel ρ h.nx.num (f x) (a.eval x)) {k : AV → Hp → Bool} (hk : callD P T M c.callee c.argTypes.toList (c.args.toList.map f) f h k = true) (H : Nx P ρ h w B o a next k) : o.wp P a w next QQ := by
 obtain ⟨dst, op, type, pos, after, guard⟩ := o
 cases ho
 obtain ⟨callee, args, argTypes⟩ := c
 have e1 : (args.toList.map a.eval).toArray = args.map a.eval := by apply Array.ext'; simp
 have ha : RelL ρ h.nx.num (args.toList.map f) (args.toList.map a.eval) := relL_map _ fun x hx => hfg x (by simp only [Call.operands, Array.mem_append]; exact .inr (by simpa using hx))
 simp only [callD] at hk
 split at hk
 ·rename_i b
  split at hk
  ·rename_i t u x y hts has
   split at hk
   ·rename_i e he
    split at hk
    ·rename_i sz hs
     split at hk
     ·rename_i hc
      simp only [Bool.and_eq_true] at hc
      rw [has] at ha
      generalize hvals : args.toList.map a.eval = vals at ha e1
      cases ha with
      | cons _ xv _ _ hx t1 =>
       cases t1 with
       | cons _ yv _ _ hy t2 =>
        cases t2
        refine wp_of_made (s := Builtin.append_ argTypes type (args.map a.eval)) rfl ?_ H
        rw [← e1]
        have : argTypes = #[t, u] := by apply Array.ext'; simpa using hts
        rw [this]
        exact apY_sound E (sliceOf_spec he) (isSeq_spec hc.2) hc.1 hx hy hk
     ·cases hk
    ·cases hk
   ·cases hk
  ·rename_i t x hts has
   split at hk
   ·rename_i e he
    split at hk
    ·rename_i sz hs
     split at hk
     ·rename_i hc
      simp only [Bool.and_eq_true] at hc
      rw [has] at ha
      generalize hvals : args.toList.map a.eval = vals at ha e1
      cases ha with
      | cons _ xv _ _ hx t1 =>
       cases t1
       have : argTypes = #[t] := by apply Array.ext'; simpa using hts
       subst this
       obtain ⟨w', h', h1, h2, h3, h4⟩ := clD_sound (ty := type) E (sliceOf_spec he) hc.1 hc.2 hx hk
       refine wp_of_value (v := .tuple #[]) ?_ (H _ _ w' ρ h' h2 h3 (rel_unit _ _) h4)
       have h1 : (Builtin.clear_ #[t] type [xv].toArray).run P w = .ok (.tuple #[]) w' := h1
       rw [e1] at h1
       simp [execOp, resolve, invoke, builtin, h1]
     ·cases hk
    ·cases hk
   ·cases hk
  ·rename_i t u m x hts has
   split at hk
   ·rename_i kt et ht
    split at hk
    ·rename_i str hs
     rw [has] at ha
     generalize hvals : args.toList.map a.eval = vals at ha e1
     cases ha with
     | cons _ mv _ _ hm t1 =>
      cases t1 with
      | cons _ xv _ _ hx t2 =>
       cases t2
       have : argTypes = #[t, u] := by apply Array.ext'; simpa using hts
       subst this
       obtain ⟨w', h', h1, h2, h3, h4⟩ := mdD_sound (ty := type) (u2 := u) E ht hs hm hx hk
       refine wp_of_value (v := .tuple #[]) ?_ (H _ _ w' ρ h' h2 h3 (rel_unit _ _) h4)
       have h1 : (Builtin.delete_ #[t, u] type [mv, xv].toArray).run P w = .ok (.tuple #[]) w' := h1
       rw [e1] at h1
       simp [execOp, resolve, invoke, builtin, h1]
    ·cases hk
   ·cases hk
  ·cases hk
 ·rename_i n
  obtain ⟨s, hs, hk2⟩ := Tbl.get_spec hT hk
  refine wp_of_calls hs ?_ E ha hk2 H
  rw [e1]
  simp [execOp, resolve, invoke, Act.eval, Deferred.ofValue]
 ·rename_i v hnf
  obtain ⟨n, fs, cs, hfv, hk2⟩ := AV.on_f_spec hk
  obtain ⟨s, hs, hk3⟩ := Tbl.get_spec hT hk2
  have hv : Rel ρ h.nx.num (f v) (a.eval v) := hfg v (by simp [Call.operands])
  rw [hfv] at hv
  generalize hav : a.eval v = fv at hv
  cases hv with
  | f _ _ _ us vs hu hv =>
   refine wp_of_calls hs (vals := us ++ (args.toList.map a.eval ++ vs)) ?_ E (hu.append (ha.append hv)) hk3 H
   have e2 : (us ++ (args.toList.map a.eval ++ vs)).toArray = us.toArray ++ args.map a.eval ++ vs.toArray := by
    rw [← e1]; simp
   rw [e2]
   simp [execOp, resolve, invoke, hav, Deferred.ofValue]
 ·rename_i r name
  split at hk
  ·rename_i hM
   obtain ⟨t, v, hfv, hk2⟩ := AV.on_e_spec hk
   have hv : Rel ρ h.nx.num (f r) (a.eval r) := hfg r (by simp [Call.operands])
   rw [hfv] at hv
   generalize hav : a.eval r = rv at hv
   cases hv with
   | e _ _ v' hv =>
    have key : ∀ (M : List (Nat × Nat)), M.all (methOk P name) = true → List.rec (motive := fun _ => Bool) false (fun m _ ih => Bool.casesOn (motive := fun _ => Bool) (Nat.beq m.1 t) ih (T.get m.2 (v :: args.toList.map f) h k)) M = true → ∃ n, methOk P name (t, n) = true ∧ T.get n (v :: args.toList.map f) h k = true := by
     intro M
     induction M with
     | nil => intro _ hh; cases hh
     | cons m M ih =>
      intro hall hh
      simp only [List.all_cons, Bool.and_eq_true] at hall
      have hh : Bool.casesOn (motive := fun _ => Bool) (Nat.beq m.1 t) (List.rec (motive := fun _ => Bool) false (fun m _ ih => Bool.casesOn (motive := fun _ => Bool) (Nat.beq m.1 t) ih (T.get m.2 (v :: args.toList.map f) h k)) M) (T.get m.2 (v :: args.toList.map f) h k) = true := hh
      cases hb : Nat.beq m.1 t with
      | true =>
       rw [hb] at hh
       have := Nat.eq_of_beq_eq_true hb
       subst this
       exact ⟨m.2, hall.1, hh⟩
      | false => rw [hb] at hh; exact ih hall.2 hh
    obtain ⟨n, hm, hk3⟩ := key M hM hk2
    obtain ⟨s, hs, hk4⟩ := Tbl.get_spec hT hk3
    have hmr := method_run (P := P) hm
    refine wp_of_calls hs (vals := v' :: args.toList.map a.eval) ?_ E (.cons _ _ _ _ hv ha) hk4 H
    have e2 : (v' :: args.toList.map a.eval).toArray = #[v'] ++ args.map a.eval := by rw [← e1]; simp
    rw [e2]
    have hex : execOp a.eval ⟨dst, .call ⟨.invoke r name, args, argTypes⟩, type, pos, after, guard⟩ = Go.invoke (.fn (.method name) #[]) (#[Value.iface t v'] ++ args.map a.eval) := by
     simp only [execOp, resolve, hav]
     rfl
    rw [hex]
    have hd0 : Go.Made.depth = 100 := rfl
    have hfuel : ∃ m, P.types.size + Go.Made.depth = m + 1 := ⟨P.types.size + 99, by rw [hd0]⟩
    obtain ⟨m, hfuel⟩ := hfuel
    have hx0 : ∀ xs : Array Value, (#[Value.iface t v'] ++ xs)[0]? = some (.iface t v') := fun xs => by rw [Array.getElem?_append_left (by simp)]; rfl
    generalize args.map a.eval = xs
    have hinv : ∀ xs : Array Value, Go.invoke (.fn (.method name) #[]) (#[Value.iface t v'] ++ xs) = callMethod (.iface t v') name xs := fun xs => by
     unfold Go.invoke
     simp [hx0]
    have hcm : (callMethod (.iface t v') name xs).run P w = (callFunc n (#[v'] ++ xs)).run P w := by
     simp only [callMethod, Sem.run_bind, run_program, Result.andThen_ok, hfuel, hmr]
    rw [← hcm, ← hinv]
  ·cases hk
set_option maxHeartbeats 2000000 in
theorem heavyD_sound (E : Emb P ρ h w B) {T : Tbl} (hT : SoundT P T) {M : List (Nat × Nat)} (o : Oper) {f : Operand → AV} (hfg : ∀ x ∈ o.op.operands, Rel ρ h.nx.num (f x) (a.eval x)) {k : AV → Hp → Bool} (hk : heavyD P T M o.op f h k = true) (H : Nx P ρ h w B o a next k) : o.wp P a w next QQ := by
 cases hop : o.op <;> (rw [hop] at hk hfg) <;> (try (cases hk; done))
 case alloc t =>
  obtain ⟨dst, op, type, pos, after, guard⟩ := o
  cases hop
  simp only [heavyD] at hk
  split at hk
  ·rename_i z hz
   have hzr : Rel ρ h.nx.num (zeroOf P t) z := by unfold zeroOf; rw [hz]; exact cva_rel _ _ _
   refine wp_of_made (s := Instr.alloc t true (.tuple #[])) rfl ?_ H
   rw [alloc_run t z hz]
   exact boxK_sound E t _ rfl hzr hk
  ·cases hk
 case box t x =>
  obtain ⟨dst, op, type, pos, after, guard⟩ := o
  cases hop
  exact wp_of_made (s := Instr.box t (a.eval x)) rfl (boxK_sound E t _ rfl (hfg x (by simp [Op.operands])) hk) H
 case buildSlice t n parts =>
  obtain ⟨dst, op, type, pos, after, guard⟩ := o
  cases hop
  simp only [heavyD] at hk
  split at hk
  ·rename_i e he
   split at hk
   ·rename_i sz hs
    split at hk
    ·rename_i hc
     simp only [Bool.and_eq_true] at hc
     obtain ⟨⟨⟨h1, h2⟩, h3⟩, h4⟩ := hc
     refine wp_of_made (s := Instr.buildSlice t n (parts.map fun (i, x) => (i, a.eval x))) rfl ?_ H
     refine bsK_sound E (sliceOf_spec he) h1 rfl (Nat.le_of_ble_eq_true h4) (by simpa using Nat.eq_of_beq_eq_true h3) ?_ hk
     rw [Array.toList_map]
     exact dense_spec (fun x hx => hfg x (by simpa [Op.operands] using hx)) h2
    ·cases hk
   ·cases hk
  ·cases hk
 case insert t m x z =>
  obtain ⟨dst, op, type, pos, after, guard⟩ := o
  cases hop
  simp only [heavyD] at hk
  split at hk
  ·rename_i kt et ht
   split at hk
   ·rename_i str hs; exact wp_of_unit (s := Instr.mapUpdate t (a.eval m) (a.eval x) (a.eval z)) rfl (muD_sound E ht hs (hfg m (by simp [Op.operands])) (hfg x (by simp [Op.operands])) (hfg z (by simp [Op.operands])) hk) H
   ·cases hk
  ·cases hk
 case mapUpdate t m x z =>
  obtain ⟨dst, op, type, pos, after, guard⟩ := o
  cases hop
  simp only [heavyD] at hk
  split at hk
  ·rename_i kt et ht
   split at hk
   ·rename_i str hs; exact wp_of_unit (s := Instr.mapUpdate t (a.eval m) (a.eval x) (a.eval z)) rfl (muD_sound E ht hs (hfg m (by simp [Op.operands])) (hfg x (by simp [Op.operands])) (hfg z (by simp [Op.operands])) hk) H
   ·cases hk
  ·cases hk
 case store t x z =>
  obtain ⟨dst, op, type, pos, after, guard⟩ := o
  cases hop
  simp only [heavyD] at hk
  split at hk
  ·rename_i g n ha
   obtain ⟨w', h', h1, h2, h3, h4⟩ := stL_sound E ha (hfg x (by simp [Op.operands])) (hfg z (by simp [Op.operands])) hk
   exact wp_of_unit (s := Instr.storeAt t (a.eval x) (a.eval z)) rfl ⟨w', h', h1, h2, h3, h4⟩ H
  ·cases hk
 case convert s t x =>
  obtain ⟨dst, op, type, pos, after, guard⟩ := o
  cases hop
  simp only [heavyD] at hk
  split at hk
  ·rename_i e hs ht
   split at hk
   ·rename_i hu
    unfold u8Of at hu
    split at hu
    ·rename_i h1 h2
     exact wp_of_made (s := convert s t (a.eval x)) rfl (sb2Y_sound E (isStr_spec hs) (sliceOf_spec ht) h1 (Nat.eq_of_beq_eq_true h2) (hfg x (by simp [Op.operands])) hk) H
    ·cases hu
   ·cases hk
  ·cases hk
 case makeMap t r =>
  obtain ⟨dst, op, type, pos, after, guard⟩ := o
  cases hop
  cases r with
  | none => exact wp_of_made (s := Instr.makeMap t none) rfl (mmD_sound E hk) H
  | some r => cases hk
 case range t x =>
  obtain ⟨dst, op, type, pos, after, guard⟩ := o
  cases hop
  simp only [heavyD] at hk
  split at hk
  ·rename_i hs; exact wp_of_made (s := Instr.range t (a.eval x)) rfl (rsD_sound E (isStr_spec hs) (hfg x (by simp [Op.operands])) hk) H
  ·cases hk
 case next x b =>
  obtain ⟨dst, op, type, pos, after, guard⟩ := o
  cases hop
  cases b with
  | true => exact wp_of_made (s := Instr.next (a.eval x) true type) rfl (nsD_sound E (hfg x (by simp [Op.operands])) hk) H
  | false => cases hk
 case call c => exact callD_sound E hT hop (fun x hx => hfg x (by simpa [Op.operands] using hx)) hk H
end
abbrev evA (env : List AV) (x : Operand) : AV := match x with
 | .tmp t => env.getD t .d
 | .const v => cva v
 | .func f => .f f [] []
 | .global _ => .d
noncomputable abbrev lsK (x : AV) (env : List AV) : Nat → (List AV → Bool) → Bool :=
 List.rec (motive := fun _ => Nat → (List AV → Bool) → Bool) (fun _ k => k []) (fun y t ih i k => Nat.casesOn (motive := fun _ => Bool) i (k (x :: t)) (fun j => ih j fun t' => k (y :: t'))) env
theorem lsK_eq (x : AV) : ∀ (env : List AV) (i : Nat) (k : List AV → Bool), lsK x env i k = k (env.set i x)
 | [], _, _ => rfl
 | _ :: _, 0, _ => rfl
 | y :: t, i + 1, k => (lsK_eq x t i fun t' => k (y :: t'))
noncomputable abbrev setO (dst : Option Nat) (x : AV) (env : List AV) (k : List AV → Bool) : Bool := match dst with
 | none => k env
 | some d => lsK x env d k
def setP (dst : Option Nat) (x : AV) (env : List AV) : List AV := match dst with
 | none => env
 | some d => env.set d x
theorem setO_eq (dst : Option Nat) (x : AV) (env : List AV) (k : List AV → Bool) : setO dst x env k = k (setP dst x env) := by
 cases dst with
 | none => rfl
 | some d => exact lsK_eq _ _ _ _
def isHeavy (P : Program) (op : Op) : Bool := match op with
 | .call c => match c.callee with
  | .builtin b => match b with
   | .len | .min | .max => false
   | _ => true
  | _ => true
 | .store .. | .alloc _ | .box .. | .buildSlice .. | .makeMap .. | .mapUpdate .. | .insert .. | .range .. | .next .. => true
 | .convert s t _ => isStr P s && (sliceOf P t).isSome
 | _ => false
noncomputable abbrev opD (P : Program) (T : Tbl) (M : List (Nat × Nat)) (op : Op) (f : Operand → AV) (h : Hp) (k : AV → Hp → Bool) : Bool := match isHeavy P op with
 | true => heavyD P T M op f h k
 | false => lightD P op f h fun y => k y h
noncomputable def gdK (x : AV) (want : Bool) (f : (AV → Hp → Bool) → Bool) (k : AV → Hp → Bool) (h : Hp) : Bool :=
 AV.casesOn (motive_1 := fun _ => Bool) x false (fun y => Bool.casesOn (motive := fun _ => Bool) (sameB y want) (k (.t []) h) (f k)) (fun _ _ => false) (fun _ _ => false) false (fun _ _ => false) false (fun _ _ _ _ => false) false (fun _ _ _ => false) false false (fun _ => false) false (fun _ => false) (fun _ => k (.t []) h) (fun _ _ => false) (fun _ => false)
noncomputable abbrev gopD (P : Program) (T : Tbl) (M : List (Nat × Nat)) (all : List Oper) (o : Oper) (env : List AV) (h : Hp) (k : AV → Hp → Bool) : Bool := match o.guard with
 | none => opD P T M o.op (evA env) h k
 | some (j, want) => match (all[j]?).bind (·.dst) with
  | none => false
  | some d => gdK (env.getD d .d) want (fun k' => opD P T M o.op (evA env) h k') k h
noncomputable abbrev opsD (P : Program) (T : Tbl) (M : List (Nat × Nat)) (all : List Oper) (l : List Oper) : List AV → Hp → (List AV → Hp → Bool) → Bool :=
 List.rec (motive := fun _ => List AV → Hp → (List AV → Hp → Bool) → Bool) (fun env h k => k env h)
  (fun o _ ih env h k => gopD P T M all o env h fun y h' => setO o.dst y env fun env' => ih env' h' k) l
def kq (a b : IntKind) : Bool := Nat.beq (kN a) (kN b)
def leqS : List Nat → List Nat → Bool
 | [], [] => true
 | x :: l, y :: m => andB (Nat.beq x y) (leqS l m)
 | _, _ => false
def Q.eq : Q → Q → Bool
 | .e, .e => true
 | .d0 q, .d0 r => Q.eq q r
 | .d1 q, .d1 r => Q.eq q r
 | .d2 q, .d2 r => Q.eq q r
 | .d3 q, .d3 r => Q.eq q r
 | .d4 q, .d4 r => Q.eq q r
 | .d5 q, .d5 r => Q.eq q r
 | .d6 q, .d6 r => Q.eq q r
 | .d7 q, .d7 r => Q.eq q r
 | _, _ => false
def AC.eq : AC → AC → Bool
 | .k c, .k c' => Nat.beq c c'
 | .u d l, .u d' l' => andB (Nat.beq d d') (Nat.beq l l')
 | _, _ => false
def Sy.eq : Sy → Sy → Bool
 | .os i, .os j => Nat.beq i j
 | .iv k a b, .iv k' a' b' => andB (kq k k') (andB (Nat.beq a a') (Nat.beq b b'))
 | .so q i, .so r j => andB (Q.eq q r) (Nat.beq i j)
 | .su q a b, .su r a' b' => andB (Q.eq q r) (andB (Nat.beq a a') (Nat.beq b b'))
 | .sv q i, .sv r j => andB (Q.eq q r) (Nat.beq i j)
 | _, _ => false
mutual
def avEq : AV → AV → Bool
 | .b x, .b y => sameB x y
 | .i k n, .i k' n' => andB (kq k k') (Nat.beq n n')
 | .s n l, .s n' l' => andB (Nat.beq n n') (leqS l l')
 | .np, .np => true
 | .p q o, .p q' o' => andB (Q.eq q q') (Nat.beq o o')
 | .ns, .ns => true
 | .sl q o n c, .sl q' o' n' c' => andB (Q.eq q q') (andB (Nat.beq o o') (andB (Nat.beq n n') (AC.eq c c')))
 | .se, .se => true
 | .nf, .nf => true
 | .nm, .nm => true
 | .m q, .m q' => Q.eq q q'
 | .ni, .ni => true
 | .a l, .a l' => avEqL l l'
 | .t l, .t l' => avEqL l l'
 | .e t x, .e t' x' => andB (Nat.beq t t') (avEq x x')
 | .y s, .y s' => Sy.eq s s'
 | _, _ => false
 termination_by structural x => x
def avEqL : List AV → List AV → Bool
 | [], [] => true
 | x :: l, y :: m => andB (avEq x y) (avEqL l m)
 | _, _ => false
 termination_by structural x => x
end
theorem andB_spec {a b : Bool} (h : andB a b = true) : a = true ∧ b = true := by cases a <;> first | exact ⟨rfl, h⟩ | cases h
theorem leqS_eq : ∀ {l m : List Nat}, leqS l m = true → l = m
 | [], [], _ => rfl
 | [], _ :: _, h => by cases h
 | _ :: _, [], h => by cases h
 | x :: l, y :: m, h => by
  obtain ⟨h1, h2⟩ := andB_spec (show andB (Nat.beq x y) (leqS l m) = true from h)
  rw [Nat.eq_of_beq_eq_true h1, leqS_eq h2]
theorem Q.eq_eq : ∀ {q r : Q}, Q.eq q r = true → q = r := by
 intro q
 induction q with
 | e => intro r h; cases r <;> first | rfl | cases h
 | _ q ih => intro r h; cases r <;> first | (exact congrArg _ (ih h)) | cases h
theorem AC.eq_eq : ∀ {c d : AC}, AC.eq c d = true → c = d
 | .k _, .k _, h => by rw [Nat.eq_of_beq_eq_true h]
 | .u d l, .u d' l', h => by
  obtain ⟨h1, h2⟩ := andB_spec (show andB (Nat.beq d d') (Nat.beq l l') = true from h)
  rw [Nat.eq_of_beq_eq_true h1, Nat.eq_of_beq_eq_true h2]
 | .k _, .u _ _, h => by cases h
 | .u _ _, .k _, h => by cases h
theorem Sy.eq_eq {s t : Sy} (h : Sy.eq s t = true) : s = t := by
 cases s <;> cases t <;> (try (cases h; done))
 case os.os i j => rw [Nat.eq_of_beq_eq_true (show Nat.beq i j = true from h)]
 case iv.iv k a b k' a' b' =>
  obtain ⟨h1, h2⟩ := andB_spec (show andB (kq k k') (andB (Nat.beq a a') (Nat.beq b b')) = true from h)
  obtain ⟨h3, h4⟩ := andB_spec h2
  rw [kN_inj (Nat.eq_of_beq_eq_true h1), Nat.eq_of_beq_eq_true h3, Nat.eq_of_beq_eq_true h4]
 case so.so q i r j =>
  obtain ⟨h1, h2⟩ := andB_spec (show andB (Q.eq q r) (Nat.beq i j) = true from h)
  rw [Q.eq_eq h1, Nat.eq_of_beq_eq_true h2]
 case sv.sv q i r j =>
  obtain ⟨h1, h2⟩ := andB_spec (show andB (Q.eq q r) (Nat.beq i j) = true from h)
  rw [Q.eq_eq h1, Nat.eq_of_beq_eq_true h2]
 case su.su q a b r a' b' =>
  obtain ⟨h1, h2⟩ := andB_spec (show andB (Q.eq q r) (andB (Nat.beq a a') (Nat.beq b b')) = true from h)
  obtain ⟨h3, h4⟩ := andB_spec h2
  rw [Q.eq_eq h1, Nat.eq_of_beq_eq_true h3, Nat.eq_of_beq_eq_true h4]
mutual
theorem avEq_eq : ∀ {x y : AV}, avEq x y = true → x = y := by
 intro x y h
 cases x <;> cases y <;> (try (cases h; done))
 case b.b x y =>
  have h : sameB x y = true := h
  rw [sameB_eq] at h
  rw [beq_iff_eq.1 h]
 case i.i k n k' n' =>
  obtain ⟨h1, h2⟩ := andB_spec (show andB (kq k k') (Nat.beq n n') = true from h)
  rw [kN_inj (Nat.eq_of_beq_eq_true h1), Nat.eq_of_beq_eq_true h2]
 case s.s n l n' l' =>
  obtain ⟨h1, h2⟩ := andB_spec (show andB (Nat.beq n n') (leqS l l') = true from h)
  rw [leqS_eq h2, Nat.eq_of_beq_eq_true h1]
 case np.np => rfl
 case y.y s s' => rw [Sy.eq_eq (show Sy.eq s s' = true from h)]
 case p.p q o q' o' =>
  obtain ⟨h1, h2⟩ := andB_spec (show andB (Q.eq q q') (Nat.beq o o') = true from h)
  rw [Q.eq_eq h1, Nat.eq_of_beq_eq_true h2]
 case ns.ns => rfl
 case sl.sl q o n c q' o' n' c' =>
  obtain ⟨h1, h2⟩ := andB_spec (show andB (Q.eq q q') (andB (Nat.beq o o') (andB (Nat.beq n n') (AC.eq c c'))) = true from h)
  obtain ⟨h3, h4⟩ := andB_spec h2
  obtain ⟨h5, h6⟩ := andB_spec h4
  rw [Q.eq_eq h1, Nat.eq_of_beq_eq_true h3, Nat.eq_of_beq_eq_true h5, AC.eq_eq h6]
 case se.se => rfl
 case nf.nf => rfl
 case nm.nm => rfl
 case m.m q q' => rw [Q.eq_eq (show Q.eq q q' = true from h)]
 case ni.ni => rfl
 case a.a l l' => rw [avEqL_eq (show avEqL l l' = true from h)]
 case t.t l l' => rw [avEqL_eq (show avEqL l l' = true from h)]
 case e.e t x t' x' =>
  obtain ⟨h1, h2⟩ := andB_spec (show andB (Nat.beq t t') (avEq x x') = true from h)
  rw [avEq_eq h2, Nat.eq_of_beq_eq_true h1]
theorem avEqL_eq : ∀ {l m : List AV}, avEqL l m = true → l = m := by
 intro l m h
 cases l <;> cases m <;> first | rfl | (cases h; done) | skip
 case cons.cons x l y m =>
  obtain ⟨h1, h2⟩ := andB_spec (show andB (avEq x y) (avEqL l m) = true from h)
  rw [avEq_eq h1, avEqL_eq h2]
end
def dpr (o : Oper) : List Nat := (o.after.toList.filter (Region.binds .any)).map (·.on)
def msk1 (acc : List Nat) (l : List Nat) : Nat := List.foldl (fun s i => Nat.lor (Nat.lor s (Nat.pow 2 i)) (acc.getD i 0)) 0 l
def mskL : List Oper → List Nat → List Nat
 | [], acc => acc
 | o :: l, acc => mskL l (acc ++ [msk1 acc (dpr o)])
def bfr (pm : List Nat) (j i : Nat) : Bool := Nat.testBit (pm.getD j 0) i
def opT (x : Operand) : List Nat := match x with
 | .tmp t => [t]
 | _ => []
def nmsOf (all : List Oper) (o : Oper) : List Nat := o.dst.toList ++ (o.op.operands.toList.flatMap opT ++ match o.guard with
 | none => []
 | some (j, _) => ((all[j]?).bind (·.dst)).toList)
def memN (l : List Nat) (i : Nat) : Bool := l.any (Nat.beq i)
def linOk (all : List Oper) : List Nat → List Nat → Bool
 | _, [] => true
 | pre, j :: post => match all[j]? with
  | some o => (dpr o).all (memN pre) && !(memN pre j) && linOk all (j :: pre) post
  | none => false
def isRead (P : Program) (op : Op) : Bool := match op with
 | .load .. | .lookup .. => true
 | .convert s _ _ => (sliceOf P s).isSome
 | .call c => match c.callee with
  | .builtin b => match b with
   | .len => match c.argTypes.toList with
    | [t] => (mapOf P t).isSome
    | _ => true
   | _ => false
  | _ => false
 | _ => false
def isAl (o : Oper) : Bool := match o.op, o.guard with
 | .alloc _, none => true
 | _, _ => false
def lateL (P : Program) (all : List Oper) (pm : List Nat) : List Nat := ((all.zipIdx).filter fun x => isAl x.1 && (all.zipIdx).any fun y => isHeavy P y.1.op && !(Nat.beq x.2 y.2) && !(bfr pm x.2 y.2) && !(bfr pm y.2 x.2)).map (·.2)
def cmpOk (P : Program) (all : List Oper) (pm A : List Nat) : Bool :=
 (all.zipIdx).all fun x => (all.zipIdx).all fun y => Nat.beq x.2 y.2 || bfr pm x.2 y.2 || bfr pm y.2 x.2 ||
  (!(match x.1.dst with
   | some d => memN (nmsOf all y.1) d
   | none => false) && (!(isHeavy P x.1.op && isHeavy P y.1.op) || memN A x.2 || memN A y.2))
def hvL (P : Program) (all : List Oper) (ord : List Nat) : List Nat := ord.filter fun i => match all[i]? with
 | some o => isHeavy P o.op
 | none => false
def dstN (all : List Oper) (a : Nat) (l : List Nat) : Bool := match (all[a]?).bind (·.dst) with
 | some d => memN l d
 | none => false
def lateOk (P : Program) (all : List Oper) (pm A pre As post : List Nat) : Bool :=
 As.all (memN A) && post.all (fun i => !(memN A i)) && post.all (fun i => (pre ++ As).all (bfr pm i)) &&
 (all.zipIdx).all fun y => (memN A y.2 && As.all fun a => Nat.beq a y.2 || !(dstN all a (nmsOf all y.1))) || (As.all fun a => !(dstN all a (nmsOf all y.1)) && !(isRead P y.1.op && bfr pm y.2 a)) || (pre ++ As).all (bfr pm y.2)
def preL (A hv : List Nat) : List Nat := hv.takeWhile fun i => !(memN A i)
def ordOk (P : Program) (all : List Oper) (ord : List Nat) : Bool :=
 (List.range all.length).all (memN ord) && linOk all [] ord && cmpOk P all (mskL all []) (lateL P all (mskL all [])) &&
 lateOk P all (mskL all []) (lateL P all (mskL all [])) (preL (lateL P all (mskL all [])) (hvL P all ord)) (((hvL P all ord).drop (preL (lateL P all (mskL all [])) (hvL P all ord)).length).take (lateL P all (mskL all [])).length) (((hvL P all ord).drop (preL (lateL P all (mskL all [])) (hvL P all ord)).length).drop (lateL P all (mskL all [])).length)
def mayAt (pm hv : List Nat) (j c : Nat) : Bool := (hv.take c).all (fun i => !bfr pm i j) && (hv.drop c).all (fun i => !bfr pm j i)
noncomputable abbrev runG (P : Program) (T : Tbl) (M : List (Nat × Nat)) (all : List Oper) (ord : List Nat) : List (Nat × Nat × List AV × AV) → List Hp → List AV → Hp → (List (Nat × Nat × List AV × AV) → List Hp → List AV → Hp → Bool) → Bool :=
 List.rec (motive := fun _ => List (Nat × Nat × List AV × AV) → List Hp → List AV → Hp → (List (Nat × Nat × List AV × AV) → List Hp → List AV → Hp → Bool) → Bool) (fun acc hs env h k => k acc hs env h)
  (fun i _ ih acc hs env h k => match all[i]? with
   | some o => gopD P T M all o env h fun y h' => setO o.dst y env fun env' => ih (acc ++ [(i, hs.length, env, y)]) (match isHeavy P o.op with
    | true => hs ++ [h']
    | false => hs) env' h' k
   | none => false) ord
noncomputable abbrev rck1 (P : Program) (T : Tbl) (M : List (Nat × Nat)) (all : List Oper) (pm hv : List Nat) (r : Nat × Nat × List AV × AV) (o : Oper) (hs : List Hp) : Nat → Bool → Bool :=
 List.rec (motive := fun _ => Nat → Bool → Bool) (fun _ b => b)
  (fun h _ ih c b => match mayAt pm hv r.1 c && !(Nat.beq (Nat.succ c) r.2.1) with
   | true => gopD P T M all o r.2.2.1 h fun y _ => ifT (avEq y r.2.2.2) (ih (Nat.succ c) b)
   | false => ih (Nat.succ c) b) hs
noncomputable abbrev rckL (P : Program) (T : Tbl) (M : List (Nat × Nat)) (all : List Oper) (pm hv : List Nat) (hs : List Hp) (acc : List (Nat × Nat × List AV × AV)) : Bool → Bool :=
 List.rec (motive := fun _ => Bool → Bool) (fun b => b)
  (fun r _ ih b => match all[r.1]? with
   | some o => match isRead P o.op with
    | true => rck1 P T M all pm hv r o hs 0 (ih b)
    | false => ih b
   | none => false) acc
noncomputable abbrev drawD (P : Program) (T : Tbl) (M : List (Nat × Nat)) (all : List Oper) (ord : List Nat) (env : List AV) (h : Hp) (k : List AV → Hp → Bool) : Bool :=
 match ordOk P all ord with
 | true => runG P T M all ord [] [h] env h fun acc hs env' h' => rckL P T M all (mskL all []) (hvL P all ord) hs acc (k env' h')
 | false => false
inductive Ex where
 | n
 | x (id : Nat)
 | r
abbrev Kt := Ex → List AV → Hp → Bool
abbrev CT : Nat → Type
 | 0 => Hp → Bool
 | n + 1 => AV → CT n
def capp : (n : Nat) → CT n → List AV → Hp → Bool
 | 0, j, [], h => j h
 | 0, _, _ :: _, _ => false
 | _ + 1, _, [], _ => false
 | n + 1, j, x :: l, h => capp n (j x) l h
def clam : (n : Nat) → (List AV → Hp → Bool) → CT n
 | 0, f => f []
 | n + 1, f => fun x => clam n fun l => f (x :: l)
theorem capp_clam : ∀ (n : Nat) (f : List AV → Hp → Bool) (l : List AV) (h : Hp), capp n (clam n f) l h = true → l.length = n ∧ f l h = true
 | 0, _, [], _, hh => ⟨rfl, hh⟩
 | 0, _, _ :: _, _, hh => by cases hh
 | n + 1, _, [], _, hh => by cases hh
 | n + 1, f, x :: l, h, hh => by
  obtain ⟨h1, h2⟩ := capp_clam n (fun l => f (x :: l)) l h hh
  exact ⟨by simp [h1], h2⟩
def jn (n : Nat) (f : CT n → Bool) (k : CT n) : Bool := f k
noncomputable def lpR (n : Nat) (F : CT n → CT n) (m : Nat) : CT n := Nat.rec (motive := fun _ => CT n) (clam n fun _ _ => false) (fun _ ih => F ih) m
noncomputable def lp (n : Nat) (F : CT n → CT n) : CT n := lpR n F 100000
abbrev sel (W : List Nat) (env : List AV) : List AV := W.map fun i => env.getD i .d
noncomputable abbrev beK (W : List Nat) : List AV → List AV → (List AV → Bool) → Bool :=
 List.rec (motive := fun _ => List AV → List AV → (List AV → Bool) → Bool) (fun _ env k => k env) (fun i _ ih vals env k => List.casesOn (motive := fun _ => Bool) vals false fun x vals => lsK x env i fun env' => ih vals env' k) W
def cdK (x : AV) (a b : Bool) : Bool := x.on_b fun c => Bool.casesOn (motive := fun _ => Bool) c b a
abbrev seqK (f : List AV → Hp → Bool) (K : Kt) : Kt := fun e => match e with
 | .n => f
 | .x i => K (.x i)
 | .r => K .r
abbrev jK (n : Nat) (j : CT n) (W : List Nat) (K : Kt) : Kt := fun e env h => match e with
 | .n => capp n j (sel W env) h
 | .x i => K (.x i) env h
 | .r => K .r env h
abbrev blkK (id : Nat) (K : Kt) : Kt := fun e env h => match e with
 | .n => K .n env h
 | .x i => Bool.casesOn (motive := fun _ => Bool) (Nat.beq i id) (K (.x i) env h) (K .n env h)
 | .r => K .r env h
inductive Ann where
 | o
 | g (ord : List Nat)
 | s (x y : Ann)
 | i (x y : Ann)
 | j (W : List Nat) (x y : Ann)
 | b (x : Ann)
 | k (W : List Nat) (x : Ann)
 | l (W : List Nat) (x : Ann)
noncomputable abbrev metK (N : Nat) (W : List Nat) (K : Kt) : CT W.length := clam W.length fun vals h => beK W vals (List.replicate N .d) fun env => K .n env h
noncomputable abbrev den (P : Program) (T : Tbl) (M : List (Nat × Nat)) (N : Nat) (c : Code) : Ann → Kt → List AV → Hp → Bool :=
 Code.rec (motive := fun _ => Ann → Kt → List AV → Hp → Bool)
  (fun _ K env h => K .n env h)
  (fun _ ops draw ann K env h => match draw with
   | false => opsD P T M ops.toList ops.toList env h (K .n)
   | true => match ann with
    | .g ord => drawD P T M ops.toList ord env h (K .n)
    | _ => false)
  (fun _ _ da db ann K env h => match ann with
   | .s x y => da x (seqK (db y K) K) env h
   | _ => false)
  (fun c _ _ da db ann K env h => match ann with
   | .i x y => cdK (evA env c) (da x K env h) (db y K env h)
   | .j W x y => jn W.length (fun j => cdK (evA env c) (da x (jK W.length j W K) env h) (db y (jK W.length j W K) env h)) (metK N W K)
   | _ => false)
  (fun id _ da ann K env h => match ann with
   | .b x => da x (blkK id K) env h
   | .k W x => jn W.length (fun j => da x (blkK id (jK W.length j W K)) env h) (metK N W K)
   | _ => false)
  (fun _ da ann K env h => match ann with
   | .l W x => capp W.length (lp W.length fun ih => clam W.length fun vals h' => beK W vals (List.replicate N .d) fun env' => da x (jK W.length ih W K) env' h') (sel W env) h
   | _ => false)
  (fun _ _ _ _ _ _ _ _ _ _ => false)
  (fun id _ K env h => K (.x id) env h)
  (fun _ _ _ _ _ _ => false)
  (fun _ _ _ _ _ => false)
  (fun _ _ _ _ _ => false)
  (fun _ K env h => K .r env h)
  (fun _ _ _ _ _ => false) c
noncomputable abbrev resD (P : Program) (env : List AV) (h : Hp) (rs : List ResultVar) : (List AV → Bool) → Bool :=
 List.rec (motive := fun _ => (List AV → Bool) → Bool) (fun k => k []) (fun r _ ih k => match r with
  | .tmp t => ih fun l => k (env.getD t .d :: l)
  | .cell a t => match aggOf P t with
   | some (true, n) => ldN n (env.getD a .d) h fun y => ih fun l => k (y :: l)
   | some (false, _) => ld1 (env.getD a .d) h fun y => ih fun l => k (y :: l)
   | none => false) rs
abbrev ret1 (l : List AV) (h : Hp) (k : AV → Hp → Bool) : Bool := match l with
 | [y] => k y h
 | l => k (.t l) h
noncomputable abbrev retK (P : Program) (rs : List ResultVar) (k : AV → Hp → Bool) : Kt := fun e env h => match e with
 | .n => resD P env h rs fun l => ret1 l h k
 | .x _ => false
 | .r => resD P env h rs fun l => ret1 l h k
noncomputable abbrev fnD (P : Program) (T : Tbl) (M : List (Nat × Nat)) (n N : Nat) (rs : List ResultVar) (c : Code) (ann : Ann) : FS := fun args h k =>
 capp n (clam n fun vals h => den P T M N c ann (retK P rs k) (vals ++ List.replicate (N - n) .d) h) args h
noncomputable abbrev fnF (P : Program) (T : Tbl) (M : List (Nat × Nat)) (fn : Func) (ann : Ann) : FS := match fn.body with
 | some c => fnD P T M (Nat.add fn.params.toList.length fn.nfree) fn.ntmps fn.results.toList c ann
 | none => fun _ _ _ => false
noncomputable def arm1 (g : Sy → Hp → (AV → Hp → Bool) → Bool) (o : FS) : FS := fun args h k => capp 1 (fun x h => x.yK (fun s => g s h k) (o [x] h k)) args h
def confG (s : Sy) (h : Hp) (k : AV → Hp → Bool) : Bool := s.on_sv fun _ i => ifT (Nat.ble 1000000 i) (k (.t [.ns, .b false]) h)
noncomputable def confF : FS → FS := arm1 confG
noncomputable def isDm (x : AV) (h : Hp) : Bool := x.on_m fun q => (HT.getR q h.t).onY fun oy => oy.on_dm fun _ _ _ => true
noncomputable def cpdG (kt nt : Nat) (dd s : AV) (h : Hp) (k : AV → Hp → Bool) : Bool := dd.on_m fun qd => (HT.getR qd h.t).onM fun es => List.casesOn (motive := fun _ => Bool) es (s.on_m fun q => (HT.getR q h.t).onY fun oy => oy.on_dm fun ty q0 us => ifT (Nat.beq ty.1 kt) (ifT (Nat.beq ty.2.1 nt) (ifT (Nat.ble ty.2.2 900) (HT.setK (.y (.dm ty q0 us)) qd h.t fun t' => k (.t []) (.mk t' h.nx))))) (fun _ _ => false)
noncomputable def cpdF (kt nt : Nat) (o : FS) : FS := fun args h k => capp 2 (fun dd s h => Bool.casesOn (motive := fun _ => Bool) (isDm s h) (o [dd, s] h k) (cpdG kt nt dd s h k)) args h
noncomputable def isDoc (x : AV) (h : Hp) : Bool := x.on_p fun q o => ifT (Nat.beq o 0) ((HT.getR q h.t).on fun _ n v => ifT (Nat.blt 0 n) (isDm (v.get 0) h))
noncomputable def onPut (x : AV) (f : List Nat → Nat → Bool) : Bool := x.on_a fun l => List.casesOn (motive := fun _ => Bool) l false fun a l => List.casesOn (motive := fun _ => Bool) l false fun b l => List.casesOn (motive := fun _ => Bool) l false fun c l => List.casesOn (motive := fun _ => Bool) l false fun dd l =>
 ifT (avEq a (.i .i64 9223372036854775809)) (ifT (avEq c (.i .i64 9223372036854775809)) (ifT (avEqL l [.s 0 [], .i .i64 9223372036854775808, .i .i64 9223372036854775808, .s 0 [], .i .i64 9223372036854775808]) (b.on_s fun sz bs => ifT (Nat.ble sz 1000) (dd.on_i fun kk n => ifT (Nat.beq (kN kk) 3) (f bs n)))))
noncomputable def doG (kt nt : Nat) (dd x : AV) (h : Hp) (k : AV → Hp → Bool) : Bool := dd.on_p fun q _ => (HT.getR q h.t).on fun _ _ v => (v.get 0).on_m fun qm => (HT.getR qm h.t).onY fun oy => oy.on_dm fun ty q0 us => ifT (Nat.beq ty.1 kt) (ifT (Nat.beq ty.2.1 nt) (ifT (Nat.blt ty.2.2 50) (onPut x fun bs n => HT.setK (.y (.dm (ty.1, ty.2.1, Nat.succ ty.2.2) q0 (us ++ [(bs, n)]))) qm h.t fun t' => k (.i .i64 9223372036854775808) (.mk t' h.nx))))
noncomputable def doF (kt nt : Nat) (o : FS) : FS := fun args h k => capp 2 (fun dd x h => Bool.casesOn (motive := fun _ => Bool) (isDoc dd h) (o [dd, x] h k) (doG kt nt dd x h k)) args h
section
variable {α β γ : Type}
theorem Det.congr {f g : (α → Bool) → Bool} (h : ∀ k, f k = g k) (hg : Det g) : Det f := by
 obtain ⟨r, hr⟩ := hg
 exact ⟨r, fun k => (h k).trans (hr k)⟩
theorem Det2.congr {f g : (α → β → Bool) → Bool} (h : ∀ k, f k = g k) (hg : Det2 g) : Det2 f := by
 obtain ⟨r, hr⟩ := hg
 exact ⟨r, fun k => (h k).trans (hr k)⟩
theorem Det.on_b {x : AV} {g : Bool → (α → Bool) → Bool} (hg : ∀ b, Det (g b)) : Det (fun k => x.on_b fun b => g b k) := by cases x <;> first | exact hg _ | exact Det.fail
theorem Det.on_i {x : AV} {g : IntKind → Nat → (α → Bool) → Bool} (hg : ∀ b n, Det (g b n)) : Det (fun k => x.on_i fun b n => g b n k) := by cases x <;> first | exact hg _ _ | exact Det.fail
theorem Det.on_s {x : AV} {g : Nat → List Nat → (α → Bool) → Bool} (hg : ∀ b n, Det (g b n)) : Det (fun k => x.on_s fun b n => g b n k) := by cases x <;> first | exact hg _ _ | exact Det.fail
theorem Det2.on_s {x : AV} {g : Nat → List Nat → (α → β → Bool) → Bool} (hg : ∀ b n, Det2 (g b n)) : Det2 (fun k => x.on_s fun b n => g b n k) := by cases x <;> first | exact hg _ _ | exact Det2.fail
theorem Det.on_sl {x : AV} {g : Q → Nat → Nat → AC → (α → Bool) → Bool} (hg : ∀ a b c d, Det (g a b c d)) : Det (fun k => x.on_sl fun a b c d => g a b c d k) := by cases x <;> first | exact hg _ _ _ _ | exact Det.fail
theorem Det2.on_f {x : AV} {g : Nat → List AV → List AV → (α → β → Bool) → Bool} (hg : ∀ a b c, Det2 (g a b c)) : Det2 (fun k => x.on_f fun a b c => g a b c k) := by cases x <;> first | exact hg _ _ _ | exact Det2.fail
theorem Det.on_m {x : AV} {g : Q → (α → Bool) → Bool} (hg : ∀ b, Det (g b)) : Det (fun k => x.on_m fun b => g b k) := by cases x <;> first | exact hg _ | exact Det.fail
theorem Det.on_a {x : AV} {g : List AV → (α → Bool) → Bool} (hg : ∀ b, Det (g b)) : Det (fun k => x.on_a fun b => g b k) := by cases x <;> first | exact hg _ | exact Det.fail
theorem Det.on_t {x : AV} {g : List AV → (α → Bool) → Bool} (hg : ∀ b, Det (g b)) : Det (fun k => x.on_t fun b => g b k) := by cases x <;> first | exact hg _ | exact Det.fail
theorem Det2.on_e {x : AV} {g : Nat → AV → (α → β → Bool) → Bool} (hg : ∀ a b, Det2 (g a b)) : Det2 (fun k => x.on_e fun a b => g a b k) := by cases x <;> first | exact hg _ _ | exact Det2.fail
theorem Det.onM {b : OB} {g : List (AV × AV) → (α → Bool) → Bool} (hg : ∀ es, Det (g es)) : Det (fun k => b.onM fun es => g es k) := by cases b <;> first | exact hg _ | exact Det.fail
theorem Det2.onS {b : OB} {g : Nat → List Nat → (α → β → Bool) → Bool} (hg : ∀ a c, Det2 (g a c)) : Det2 (fun k => b.onS fun a c => g a c k) := by cases b <;> first | exact hg _ _ | exact Det2.fail
theorem Det.natK (n : Nat) {g : Nat → (α → Bool) → Bool} (hg : ∀ n, Det (g n)) : Det (fun k => natK n fun m => g m k) := (hg n).congr fun _ => natK_eq _ _
theorem Det2.natK (n : Nat) {g : Nat → (α → β → Bool) → Bool} (hg : ∀ n, Det2 (g n)) : Det2 (fun k => natK n fun m => g m k) := (hg n).congr fun _ => natK_eq _ _
theorem Det.setK (b : OB) (q : Q) (t : HT) {g : HT → (α → Bool) → Bool} (hg : ∀ t, Det (g t)) : Det (fun k => HT.setK b q t fun t' => g t' k) := (hg _).congr fun _ => HT.setK_eq _ _ _ _
theorem Det2.setK (b : OB) (q : Q) (t : HT) {g : HT → (α → β → Bool) → Bool} (hg : ∀ t, Det2 (g t)) : Det2 (fun k => HT.setK b q t fun t' => g t' k) := (hg _).congr fun _ => HT.setK_eq _ _ _ _
theorem Det2.succK (q : Q) {g : Q → (α → β → Bool) → Bool} (hg : ∀ q, Det2 (g q)) : Det2 (fun k => q.succK fun q' => g q' k) := (hg _).congr fun _ => Q.succK_eq _ _
theorem Det2.bool (b : Bool) {g1 g2 : (α → β → Bool) → Bool} (h1 : Det2 g1) (h2 : Det2 g2) : Det2 (fun k => Bool.casesOn (motive := fun _ => Bool) b (g1 k) (g2 k)) := by cases b <;> assumption
theorem Det.bool (b : Bool) {g1 g2 : (α → Bool) → Bool} (h1 : Det g1) (h2 : Det g2) : Det (fun k => Bool.casesOn (motive := fun _ => Bool) b (g1 k) (g2 k)) := by cases b <;> assumption
theorem sel4_det {n : Nat} {a b c d : (α → Bool) → Bool} (ha : Det a) (hb : Det b) (hc : Det c) (hd : Det d) : Det (fun k => sel4 n (a k) (b k) (c k) (d k)) := by
 match n with
 | 0 => exact ha
 | 1 => exact hb
 | 2 => exact hc
 | _ + 3 => exact hd
theorem setK_detV (x : AV) : ∀ (v : V) (i : Nat), Det (V.setK x v i) := by
 intro v
 induction v with
 | z => intro i; cases i with
  | zero => exact Det.ret _
  | succ i => exact Det.fail
 | n a c0 c1 c2 c3 h0 h1 h2 h3 => intro i; cases i with
  | zero => exact Det.ret _
  | succ i => exact sel4_det ((h0 _).bind fun _ => Det.ret _) ((h1 _).bind fun _ => Det.ret _) ((h2 _).bind fun _ => Det.ret _) ((h3 _).bind fun _ => Det.ret _)
theorem setL_det : ∀ (xs : List AV) (v : V) (i : Nat), Det (V.setL xs v i)
 | [], v, _ => Det.ret v
 | x :: xs, v, i => (setK_detV x v i).bind fun v' => setL_det xs v' (i + 1)
theorem lgetK_det : ∀ (l : List α) (i : Nat), Det (lgetK l i)
 | [], _ => Det.fail
 | x :: _, 0 => Det.ret x
 | _ :: l, i + 1 => lgetK_det l i
theorem cellsK_det (x : AV) (n : Nat) : Det (x.cellsK n) := by
 cases x <;> first | exact Det.fail | exact Det.bool _ Det.fail (Det.ret _)
theorem bytesK_det : ∀ l : List AV, Det (bytesK l)
 | [] => Det.ret _
 | x :: l => by
  show Det fun k => x.on_i _
  refine Det.on_i (g := fun kd m k => IntKind.casesOn (motive := fun _ => Bool) kd false false false false (ifT (Nat.ble 9223372036854775808 m) (Go.Proofs.YtpchmdddkpocgaaGreatDoor.natK (Nat.sub m 9223372036854775808) fun b => ifT (Nat.blt b 256) (bytesK l fun r => k (b :: r)))) false false false) fun kd m => ?_
  cases kd <;> first | exact Det.fail | exact det_ifT (Det.natK _ fun _ => det_ifT ((bytesK_det l).bind fun _ => Det.ret _))
theorem bldK_det : ∀ (ps : List (Nat × Nat × AV)) (cells : List AV), Det (bldK ps cells)
 | [], c => Det.ret c
 | p :: ps, c => (cellsK_det p.2.2 p.2.1).bind fun cs => bldK_det ps (lput p.1 p.2.1 cs c)
theorem catK_det (sz : Nat) : ∀ xs : List AV, Det (catK sz xs)
 | [] => Det.ret _
 | x :: xs => (cellsK_det x sz).bind fun _ => (catK_det sz xs).bind fun _ => Det.ret _
theorem Det.yK {x : AV} {f : Sy → (α → Bool) → Bool} {g : (α → Bool) → Bool} (hf : ∀ s, Det (f s)) (hg : Det g) : Det (fun k => x.yK (fun s => f s k) (g k)) := by cases x <;> first | exact hf _ | exact hg
theorem Det2.yK {x : AV} {f : Sy → (α → β → Bool) → Bool} {g : (α → β → Bool) → Bool} (hf : ∀ s, Det2 (f s)) (hg : Det2 g) : Det2 (fun k => x.yK (fun s => f s k) (g k)) := by cases x <;> first | exact hf _ | exact hg
theorem Det.on_y {x : AV} {f : Sy → (α → Bool) → Bool} (hf : ∀ s, Det (f s)) : Det (fun k => x.on_y (fun s => f s k)) := by cases x <;> first | exact hf _ | exact Det.fail
theorem Det.on_os {s : Sy} {f : Nat → (α → Bool) → Bool} (hf : ∀ i, Det (f i)) : Det (fun k => s.on_os (fun i => f i k)) := by cases s <;> first | exact hf _ | exact Det.fail
theorem Det2.on_os {s : Sy} {f : Nat → (α → β → Bool) → Bool} (hf : ∀ i, Det2 (f i)) : Det2 (fun k => s.on_os (fun i => f i k)) := by cases s <;> first | exact hf _ | exact Det2.fail
theorem Det.on_iv {s : Sy} {f : IntKind → Nat → Nat → (α → Bool) → Bool} (hf : ∀ a b c, Det (f a b c)) : Det (fun k => s.on_iv (fun a b c => f a b c k)) := by cases s <;> first | exact hf _ _ _ | exact Det.fail
theorem Det.on_so {s : Sy} {f : Q → Nat → (α → Bool) → Bool} (hf : ∀ a b, Det (f a b)) : Det (fun k => s.on_so (fun a b => f a b k)) := by cases s <;> first | exact hf _ _ | exact Det.fail
theorem Det.onY {b : OB} {f : Oy → (α → Bool) → Bool} (hf : ∀ s, Det (f s)) : Det (fun k => b.onY (fun s => f s k)) := by cases b <;> first | exact hf _ | exact Det.fail
theorem Det2.onY {b : OB} {f : Oy → (α → β → Bool) → Bool} (hf : ∀ s, Det2 (f s)) : Det2 (fun k => b.onY (fun s => f s k)) := by cases b <;> first | exact hf _ | exact Det2.fail
theorem Det.on_op {o : Oy} {f : Nat → (α → Bool) → Bool} (hf : ∀ i, Det (f i)) : Det (fun k => o.on_op (fun i => f i k)) := by cases o <;> first | exact hf _ | exact Det.fail
theorem Det2.on_op {o : Oy} {f : Nat → (α → β → Bool) → Bool} (hf : ∀ i, Det2 (f i)) : Det2 (fun k => o.on_op (fun i => f i k)) := by cases o <;> first | exact hf _ | exact Det2.fail
theorem Det2.on_soup {o : Oy} {f : Nat → (α → β → Bool) → Bool} (hf : ∀ i, Det2 (f i)) : Det2 (fun k => o.on_soup (fun i => f i k)) := by cases o <;> first | exact hf _ | exact Det2.fail
theorem Det2.on_dm {o : Oy} {f : Nat × Nat × Nat → Q → List (List Nat × Nat) → (α → β → Bool) → Bool} (hf : ∀ a b c, Det2 (f a b c)) : Det2 (fun k => o.on_dm (fun a b c => f a b c k)) := by cases o <;> first | exact hf _ _ _ | exact Det2.fail
theorem osK_det {x y : AV} {f g : (α → Bool) → Bool} (hf : Det f) (hg : Det g) : Det (fun k => osK x y (f k) (g k)) :=
 Det.yK (f := fun s k => s.on_os fun i => y.on_y fun t => t.on_os fun j => Bool.casesOn (motive := fun _ => Bool) (Nat.beq i j) false (g k)) (fun s => Det.on_os fun i => Det.on_y fun t => Det.on_os fun j => Det.bool _ Det.fail hg) hf
theorem kqK_det (s : Bool) (x y : AV) : Det (kqK s x y) := by
 cases s
 ·exact Det.on_i fun _ _ => Det.on_i fun _ _ => det_ifT (Det.ret _)
 ·exact osK_det (f := fun k => x.on_s fun _ l => y.on_s fun _ r => k (leq l r)) (g := fun k => k true) (Det.on_s fun _ _ => Det.on_s fun _ _ => Det.ret _) (Det.ret true)
theorem muK_det (s : Bool) (x z : AV) : ∀ es : List (AV × AV), Det (muK s x z es)
 | [] => Det.ret _
 | e :: t => (kqK_det s x e.1).bind fun r => Det.bool r ((muK_det s x z t).bind fun es' => Det.ret (e :: es')) (Det.ret ((x, z) :: t))
theorem mdK_det (s : Bool) (x : AV) : ∀ es : List (AV × AV), Det (mdK s x es)
 | [] => Det.ret _
 | e :: t => (kqK_det s x e.1).bind fun r => Det.bool r ((mdK_det s x t).bind fun es' => Det.ret (e :: es')) (Det.ret t)
theorem Det2.of1 {f : (α → Bool) → Bool} {b : β} (h : Det f) : Det2 (fun k => f fun a => k a b) := h.to2 fun a => Det2.ret a b
theorem ifN_det (c : Bool) (n : Nat) : Det (fun k : Nat → Bool => ifT c (Go.Proofs.YtpchmdddkpocgaaGreatDoor.natK n k)) := det_ifT ((Det.ret n).congr fun k => natK_eq n k)
theorem idxK_det (x : AV) : Det (idxK x) := by
 cases x <;> first | exact Det.fail | exact ifN_det _ _
theorem optK_det (x : Option AV) (d : Nat) : Det (optK x d) := by
 cases x with
 | none => exact Det.ret d
 | some x => exact idxK_det x
end
end Go.Proofs.YtpchmdddkpocgaaGreatDoor
