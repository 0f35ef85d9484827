/-
  No claim by itself: the evaluator: maps, texts ranged over, clear. | the evaluator: small operations of symbols. | the evaluator: append of bytes of whatever content. | the evaluator: append of symbols. | the evaluator: clear; what a function means. | the evaluator: an operation that leaves the heap alone, whichever it is. | the evaluator: an operation that writes, makes memory or calls, whichever it is. No condition.
-/
import Derived.Test.YtmddhlfjilkdfaaGreatDoorE2
import Derived.Laws.RangeString
namespace Go.Proofs.YtmddhlfjilkdfaaGreatDoor
set_option linter.unusedVariables false
set_option linter.unusedSimpArgs false

/-- Two keys: of texts, of integers. -/
noncomputable def kqK (str : Bool) (x y : AV) (k : Bool → Bool) : Bool := Bool.casesOn (motive := fun _ => Bool) str (x.on_i fun ka a => y.on_i fun kb b => ifT (Nat.beq (kN ka) (kN kb)) (k (Nat.beq a b))) (osK x y (x.on_s fun _ l => y.on_s fun _ r => k (leq l r)) (k true))
def kdOf (P : Program) (t : TypeId) : Option Bool := match P.underlying t with
  | some (.int _) => some false
  | some .string => some true
  | _ => none
noncomputable def mfK (str : Bool) (x : AV) (es : List (AV × AV)) (kn : Bool) (ks : AV → Bool) : Bool :=
  List.rec (motive := fun _ => Bool) kn (fun e _ ih => kqK str x e.1 fun r => Bool.casesOn (motive := fun _ => Bool) r ih (ks e.2)) es
noncomputable def muK (str : Bool) (x z : AV) (es : List (AV × AV)) : (List (AV × AV) → Bool) → Bool :=
  List.rec (motive := fun _ => (List (AV × AV) → Bool) → Bool) (fun k => k [(x, z)]) (fun e t ih k => kqK str x e.1 fun r => Bool.casesOn (motive := fun _ => Bool) r (ih fun es' => k (e :: es')) (k ((x, z) :: t))) es
noncomputable def mdK (str : Bool) (x : AV) (es : List (AV × AV)) : (List (AV × AV) → Bool) → Bool :=
  List.rec (motive := fun _ => (List (AV × AV) → Bool) → Bool) (fun k => k []) (fun e t ih k => kqK str x e.1 fun r => Bool.casesOn (motive := fun _ => Bool) r (ih fun es' => k (e :: es')) (k t)) es
def fin2 (ok : Bool) (x : AV) (b : Bool) (k : AV → Bool) : Bool := Bool.casesOn (motive := fun _ => Bool) ok (k x) (k (.t [x, .b b]))
noncomputable def lkK (str ok : Bool) (z m x : AV) (h : Hp) (k : AV → Bool) : Bool :=
  AV.casesOn (motive_1 := fun _ => Bool) m false (fun _ => false) (fun _ _ => false) (fun _ _ => false) false (fun _ _ => false) false (fun _ _ _ _ => false) false (fun _ _ _ => false) false (fin2 ok z false k) (fun q => (HT.getR q h.t).onM fun es => mfK str x es (fin2 ok z false k) fun y => fin2 ok y true k) false (fun _ => false) (fun _ => false) (fun _ _ => false) (fun _ => false)
noncomputable def lnM (m : AV) (h : Hp) (k : AV → Bool) : Bool := m.on_m fun q => (HT.getR q h.t).onM fun es => natK (List.length es) fun n => k (.i .i64 (Nat.add n 9223372036854775808))
noncomputable def muD (str : Bool) (m x z : AV) (h : Hp) (k : Hp → Bool) : Bool := m.on_m fun q => (HT.getR q h.t).onM fun es => muK str x z es fun es' => HT.setK (.mp es') q h.t fun t' => k (.mk t' h.nx)
noncomputable def mdD (str : Bool) (m x : AV) (h : Hp) (k : Hp → Bool) : Bool := m.on_m fun q => (HT.getR q h.t).onM fun es => mdK str x es fun es' => HT.setK (.mp es') q h.t fun t' => k (.mk t' h.nx)
noncomputable def mmD (h : Hp) (k : AV → Hp → Bool) : Bool := HT.setK (.mp []) h.nx h.t fun t' => h.nx.succK fun n' => k (.m h.nx) (.mk t' n')
noncomputable def rsD (x : AV) (h : Hp) (k : AV → Hp → Bool) : Bool := x.on_s fun _ l => HT.setK (.si 0 l) h.nx h.t fun t' => h.nx.succK fun n' => k (.p h.nx 0) (.mk t' n')
noncomputable def nsD (x : AV) (h : Hp) (k : AV → Hp → Bool) : Bool := x.on_p fun q o => ifT (Nat.beq o 0) ((HT.getR q h.t).onS fun pos l => List.casesOn (motive := fun _ => Bool) l (k (.t [.b false]) h)
  fun b t => ifT (Nat.blt b 128) (natK (Nat.succ pos) fun pos' => HT.setK (.si pos' t) q h.t fun t' => k (.t [.b true, .i .i64 (Nat.add pos 9223372036854775808), .i .i32 (Nat.add b 9223372036854775808)]) (.mk t' h.nx)))
section
variable {P : Program} {ρ : Q → Loc} {h : Hp} {w : World} {B N : Nat}
theorem kqK_sound {str : Bool} {kt : TypeId} (hs : kdOf P kt = some str) {x y : AV} {u v : Value} (hx : Rel ρ N x u) (hy : Rel ρ N y v) {k : Bool → Bool} (hk : kqK str x y k = true) :
    ∃ d r, P.underlying kt = some d ∧ Instr.sameNow d u v = some r ∧ k r = true ∧ (r = true → u = v) ∧ Instr.sameBits 10000 u u = true := by
  unfold kdOf at hs
  split at hs
  · rename_i kk ht
    cases hs
    obtain ⟨kd, a, rfl, hk2⟩ := AV.on_i_spec (show x.on_i _ = true from hk)
    obtain ⟨ke, b, rfl, hk3⟩ := AV.on_i_spec hk2
    obtain ⟨he, hk4⟩ := ifT_eq hk3
    have := kN_inj he
    subst this
    cases hx
    cases hy
    refine ⟨_, Nat.beq a b, ht, ?_, hk4, fun hh => by rw [Nat.eq_of_beq_eq_true hh], by simp [Instr.sameBits]⟩
    have : ((a : Int) - 9223372036854775808 == (b : Int) - 9223372036854775808) = Nat.beq a b := by rw [Bool.eq_iff_iff, beq_iff_eq, Nat.beq_eq]; omega
    simp only [Instr.sameNow, if_pos, this]
  · rename_i ht
    cases hs
    rcases osK_spec (show osK x y _ _ = true from hk) with ⟨i, rfl, rfl, hk1⟩ | hk
    · cases hx
      cases hy
      exact ⟨_, true, ht, by simp [Instr.sameNow, beq_toListBytes], hk1, fun _ => rfl, by simp [Instr.sameBits, beq_toListBytes]⟩
    obtain ⟨n, l, rfl, hk2⟩ := AV.on_s_spec (show x.on_s _ = true from hk)
    obtain ⟨m, r, rfl, hk3⟩ := AV.on_s_spec hk2
    cases hx with
    | s a =>
      cases hy with
      | s b =>
        have he : (a == b) = leq (a.data.toList.map UInt8.toNat) (b.data.toList.map UInt8.toNat) := by
          rw [beq_toListBytes, leq_eq, ba_toList, ba_toList, Bool.eq_iff_iff, beq_iff_eq, decide_eq_true_eq]
          exact ⟨fun h => by rw [h], fun h => bytes_inj h⟩
        refine ⟨_, leq (a.data.toList.map UInt8.toNat) (b.data.toList.map UInt8.toNat), ht, by simp only [Instr.sameNow, he], hk3, fun hh => ?_, by simp [Instr.sameBits, beq_toListBytes]⟩
        rw [← he, beq_toListBytes, beq_iff_eq, ba_toList, ba_toList] at hh
        congr 1
        apply ByteArray.ext
        exact Array.ext' hh
  · cases hs
theorem run_checkKey {d : TypeDesc} {kt : TypeId} (n : Nat) (hd : (∃ k, d = .int k) ∨ d = .string) (ht : P.underlying kt = some d) (e : Bool) (v : Value) (w : World) : (Instr.checkKey e (n + 1) kt v).run P w = .ok () w := by
  rcases hd with ⟨k, rfl⟩ | rfl <;> simp [Instr.checkKey, run_underlying ht]
theorem kd_desc {str : Bool} {kt : TypeId} (hs : kdOf P kt = some str) : ∃ d, P.underlying kt = some d ∧ ∀ (e : Bool) (v : Value) (w : World), (Instr.checkKey e 10000 kt v).run P w = .ok () w := by
  unfold kdOf at hs
  split at hs
  · rename_i kk ht
    exact ⟨_, ht, fun e v w => run_checkKey 9999 (.inl ⟨_, rfl⟩) ht e v w⟩
  · rename_i ht
    exact ⟨_, ht, fun e v w => run_checkKey 9999 (.inr rfl) ht e v w⟩
  · cases hs
theorem mfK_sound {str : Bool} {kt : TypeId} (hs : kdOf P kt = some str) {d : TypeDesc} (hd : P.underlying kt = some d) {x : AV} {u : Value} (hx : Rel ρ N x u) : ∀ {es : List (AV × AV)} {fs : List MapEntry} {kn : Bool} {ks : AV → Bool} (i : Nat), RelE ρ N es fs → mfK str x es kn ks = true →
    (Instr.findNow d u fs i = some none ∧ kn = true) ∨ ∃ j v y, Instr.findNow d u fs i = some (some (j, v)) ∧ Rel ρ N y v ∧ ks y = true
  | _, _, _, _, i, .nil, hk => .inl ⟨rfl, hk⟩
  | _, _, kn, ks, i, .cons k y es e fs hke hy t, hk => by
    obtain ⟨d', r, h1, h2, h3, _, _⟩ := kqK_sound hs hx hke (show kqK str x k _ = true from hk)
    rw [hd] at h1
    cases h1
    cases r with
    | true => exact .inr ⟨i, e.val, y, by simp only [Instr.findNow, h2], hy, h3⟩
    | false =>
      rcases mfK_sound hs hd hx (i + 1) t (show mfK str x es kn ks = true from h3) with ⟨a, b⟩ | ⟨j, v, y', a, b, c⟩
      · exact .inl ⟨by simp only [Instr.findNow, h2, a], b⟩
      · exact .inr ⟨j, v, y', by simp only [Instr.findNow, h2, a], b, c⟩
theorem muK_sound {str : Bool} {kt : TypeId} (hs : kdOf P kt = some str) {d : TypeDesc} (hd : P.underlying kt = some d) {x z : AV} {u zv : Value} (hx : Rel ρ N x u) (hz : Rel ρ N z zv) : ∀ {es : List (AV × AV)} {fs : List MapEntry} {k : List (AV × AV) → Bool} (i : Nat), RelE ρ N es fs → muK str x z es k = true →
    ∃ es', k es' = true ∧ ((Instr.findNow d u fs i = some none ∧ ∀ c, RelE ρ N es' (fs ++ [{ key := u, val := zv, born := c }])) ∨
      ∃ j e, Instr.findNow d u fs i = some (some (i + j, e.val)) ∧ fs[j]? = some e ∧ e.key = u ∧ Instr.sameBits 10000 u u = true ∧ RelE ρ N es' (fs.modify j fun e => { e with key := u, val := zv }))
  | _, _, k, i, .nil, hk => ⟨_, hk, .inl ⟨rfl, fun c => .cons _ _ _ _ _ hx hz .nil⟩⟩
  | _, _, k, i, .cons ka y es e fs hke hy t, hk => by
    obtain ⟨d', r, h1, h2, h3, h4, h5⟩ := kqK_sound hs hx hke (show kqK str x ka _ = true from hk)
    rw [hd] at h1
    cases h1
    cases r with
    | true => exact ⟨_, h3, .inr ⟨0, e, by simp only [Instr.findNow, h2, Nat.add_zero], rfl, (h4 rfl).symm, h5, by simp only [List.modify_zero_cons]; exact .cons _ _ _ _ _ hx hz t⟩⟩
    | false =>
      obtain ⟨es', g1, g2⟩ := muK_sound hs hd hx hz (i + 1) t (show muK str x z es (fun es' => k ((ka, y) :: es')) = true from h3)
      refine ⟨_, g1, ?_⟩
      rcases g2 with ⟨a, b⟩ | ⟨j, e', a, b, c, c2, f⟩
      · exact .inl ⟨by simp only [Instr.findNow, h2, a], fun c => .cons _ _ _ _ _ hke hy (b c)⟩
      · refine .inr ⟨j + 1, e', by simp only [Instr.findNow, h2, a]; congr 3; omega, by simpa using b, c, c2, ?_⟩
        rw [List.modify_succ_cons]
        exact .cons _ _ _ _ _ hke hy f
theorem mdK_sound {str : Bool} {kt : TypeId} (hs : kdOf P kt = some str) {d : TypeDesc} (hd : P.underlying kt = some d) {x : AV} {u : Value} (hx : Rel ρ N x u) : ∀ {es : List (AV × AV)} {fs : List MapEntry} {k : List (AV × AV) → Bool} (i : Nat), RelE ρ N es fs → mdK str x es k = true →
    ∃ es', k es' = true ∧ ((Instr.findNow d u fs i = some none ∧ RelE ρ N es' fs) ∨
      ∃ j v, Instr.findNow d u fs i = some (some (i + j, v)) ∧ j < fs.length ∧ RelE ρ N es' (fs.eraseIdx j))
  | _, _, k, i, .nil, hk => ⟨_, hk, .inl ⟨rfl, .nil⟩⟩
  | _, _, k, i, .cons ka y es e fs hke hy t, hk => by
    obtain ⟨d', r, h1, h2, h3, h4, h5⟩ := kqK_sound hs hx hke (show kqK str x ka _ = true from hk)
    rw [hd] at h1
    cases h1
    cases r with
    | true => exact ⟨_, h3, .inr ⟨0, e.val, by simp only [Instr.findNow, h2, Nat.add_zero], by simp, t⟩⟩
    | false =>
      obtain ⟨es', g1, g2⟩ := mdK_sound hs hd hx (i + 1) t (show mdK str x es (fun es' => k ((ka, y) :: es')) = true from h3)
      refine ⟨_, g1, ?_⟩
      rcases g2 with ⟨a, b⟩ | ⟨j, v, a, b, f⟩
      · exact .inl ⟨by simp only [Instr.findNow, h2, a], .cons _ _ _ _ _ hke hy b⟩
      · exact .inr ⟨j + 1, v, by simp only [Instr.findNow, h2, a]; congr 3; omega, by simpa using b, by rw [List.eraseIdx_cons_succ]; exact .cons _ _ _ _ _ hke hy f⟩
theorem run_getObj' {b : Nat} {o : Obj} (hb : w.heap[b]? = some o) (ho : ∀ c t f, o ≠ .cells c t f) : (getObj b).run P w = .ok o w := by
  cases o <;> first | exact (ho _ _ _ rfl).elim | simp only [getObj, Sem.run, hb]
theorem run_setObj' {b : Nat} {o o' : Obj} (hb : w.heap[b]? = some o) (ho : ∀ c t f, o ≠ .cells c t f) : (setObj b o').run P w = .ok () { w with heap := w.heap.setIfInBounds b o' } := by
  cases o <;> first | exact (ho _ _ _ rfl).elim | simp only [setObj, Sem.run, hb]
theorem set_other {b c : Nat} (o : Obj) (h : c ≠ b) : (w.heap.setIfInBounds b o)[c]? = w.heap[c]? := by rw [Array.getElem?_setIfInBounds_ne (Ne.symm h)]
theorem set_same {b : Nat} {o0 : Obj} (o : Obj) (hb : w.heap[b]? = some o0) : (w.heap.setIfInBounds b o)[b]? = some o := by
  have := (Array.getElem?_eq_some_iff.1 hb).1
  rw [Array.getElem?_setIfInBounds_self_of_lt this]
theorem run_findKey {kt : TypeId} {d : TypeDesc} (hd : P.underlying kt = some d) {u : Value} {es : List MapEntry} {r : Option (Nat × Value)} (hf : Instr.findNow d u es 0 = some r) (w : World) : (Instr.findKey kt u es).run P w = .ok r w := by
  simp [Instr.findKey, run_underlying hd, hf]
/-- A map's type: its key and its elements. -/
def mapOf (P : Program) (t : TypeId) : Option (TypeId × TypeId) := match P.underlying t with
  | some (.map k e) => some (k, e)
  | _ => none
theorem mapOf_spec {t kt et : TypeId} (h : mapOf P t = some (kt, et)) : P.underlying t = some (.map kt et) := by
  unfold mapOf at h
  split at h
  · cases h; assumption
  · cases h
theorem lkK_sound (E : Emb P ρ h w B) {t kt et : TypeId} (ht : mapOf P t = some (kt, et)) {str ok : Bool} (hs : kdOf P kt = some str) {z : Value} (hz : (P.info? et).bind (·.zero) = some z) {m x : AV} {mv u : Value} (hm : Rel ρ h.nx.num m mv) (hx : Rel ρ h.nx.num x u) {k : AV → Bool} (hk : lkK str ok (zeroOf P et) m x h k = true) :
    Pure1 ρ h.nx.num w ((Instr.lookup t mv u ok).run P w) k := by
  have ht := mapOf_spec ht
  obtain ⟨d, hd, hck⟩ := kd_desc hs
  have hzr : Rel ρ h.nx.num (zeroOf P et) z := by unfold zeroOf; rw [hz]; exact cva_rel _ _ _
  have hzv : (zeroValue et).run P w = .ok z w := by
    cases hi : P.info? et with
    | none => rw [hi] at hz; cases hz
    | some i => rw [hi] at hz; have hz : i.zero = some z := hz; simp [zeroValue, typeInfo, hi, hz]
  have fin : ∀ (y : AV) (v : Value) (b : Bool), Rel ρ h.nx.num y v → fin2 ok y b k = true → Pure1 ρ h.nx.num w (.ok (if ok then .tuple #[v, .bool b] else v) w) k := fun y v b hy hf => by
    cases ok with
    | false => exact ⟨y, v, rfl, hy, hf⟩
    | true => exact ⟨_, .tuple #[v, .bool b], rfl, .t _ [v, .bool b] (.cons _ _ _ _ hy (.cons _ _ _ _ (.b _) .nil)), hf⟩
  cases m <;> first | (cases hk; done) | skip
  case nm =>
    cases hm
    have := fin _ z false hzr hk
    simpa [Instr.lookup, run_underlying ht, hck, run_findKey (P := P) hd (u := u) (es := []) (r := none) rfl, hzv] using this
  case m q =>
    cases hm with
    | m _ hq =>
      dsimp only [lkK] at hk
      rw [HT.getR_eq] at hk
      obtain ⟨es, hg, hk2⟩ := OB.onM_spec hk
      obtain ⟨fs, c, hb, hr, _⟩ := E.map q es hg
      have hgo := run_getObj' (P := P) hb (by intro _ _ _ e; cases e)
      rcases mfK_sound hs hd hx 0 hr hk2 with ⟨h1, h2⟩ | ⟨j, v, y, h1, h2, h3⟩
      · have := fin _ z false hzr h2
        simpa [Instr.lookup, run_underlying ht, hgo, hck, run_findKey (P := P) hd h1, hzv] using this
      · have := fin _ v true h2 h3
        simpa [Instr.lookup, run_underlying ht, hgo, hck, run_findKey (P := P) hd h1] using this
theorem lnM_sound (E : Emb P ρ h w B) {t kt et ty : TypeId} (ht : mapOf P t = some (kt, et)) {m : AV} {mv : Value} (hm : Rel ρ h.nx.num m mv) {k : AV → Bool} (hk : lnM m h k = true) : Pure1 ρ h.nx.num w ((Builtin.len_ #[t] ty #[mv]).run P w) k := by
  have ht := mapOf_spec ht
  obtain ⟨q, rfl, hk1⟩ := AV.on_m_spec hk
  clear hk
  cases hm with
  | m _ hq =>
    rw [HT.getR_eq] at hk1
    obtain ⟨es, hg, hk2⟩ := OB.onM_spec hk1
    rw [natK_eq] at hk2
    obtain ⟨fs, c, hb, hr, _⟩ := E.map q es hg
    have hgo := run_getObj' (P := P) hb (by intro _ _ _ e; cases e)
    have hl : es.length = fs.size := by
      have key : ∀ {es : List (AV × AV)} {fs : List MapEntry}, RelE ρ h.nx.num es fs → es.length = fs.length := by
        intro es fs hh
        induction hh with
        | nil => rfl
        | cons _ _ _ _ _ _ _ _ ih => simp [ih]
      rw [key hr]; simp
    refine ⟨_, goInt fs.size, by simp [Builtin.len_, run_underlying ht, hgo], ?_, hk2⟩
    rw [hl]
    exact rel_len _ _ _
/-- What such an operation leaves. -/
def MadeU (P : Program) (ρ : Q → Loc) (h : Hp) (w : World) (B : Nat) {α : Type} (a : α) (r : Result α) (k : Hp → Bool) : Prop :=
  ∃ w' h', r = .ok a w' ∧ Emb P ρ h' w' B ∧ Step ρ h w ρ h' w' ∧ k h' = true
theorem Emb.setMap (E : Emb P ρ h w B) {q : Q} {es : List (AV × AV)} (hg : h.t.get q = .mp es) {es' : List (AV × AV)} {fs' : Array MapEntry} {c' : Nat} (hr : RelE ρ h.nx.num es' fs'.toList) (hc : ∀ e ∈ fs'.toList, e.born < c') :
    Emb P ρ (.mk (h.t.set (.mp es') q) h.nx) { w with heap := w.heap.setIfInBounds (ρ q).blk (.map fs' c') } B ∧ Step ρ h w ρ (.mk (h.t.set (.mp es') q) h.nx) { w with heap := w.heap.setIfInBounds (ρ q).blk (.map fs' c') } := by
  obtain ⟨fs, c, hb, _, _⟩ := E.map q es hg
  exact E.set (by rw [Hp.live, hg]; simp) (.mp es') (by simp) (by simp) (fun c hc => set_other _ hc) rfl rfl rfl (fun _ _ _ hb => by cases hb) (fun es2 he => by cases he; exact ⟨fs', c', set_same _ hb, hr, hc⟩)
theorem muD_sound (E : Emb P ρ h w B) {t kt et : TypeId} (ht : mapOf P t = some (kt, et)) {str : Bool} (hs : kdOf P kt = some str) {m x z : AV} {mv u zv : Value} (hm : Rel ρ h.nx.num m mv) (hx : Rel ρ h.nx.num x u) (hz : Rel ρ h.nx.num z zv) {k : Hp → Bool} (hk : muD str m x z h k = true) :
    MadeU P ρ h w B () ((Instr.mapUpdate t mv u zv).run P w) k := by
  have ht := mapOf_spec ht
  obtain ⟨d, hd, hck⟩ := kd_desc hs
  obtain ⟨q, rfl, hk1⟩ := AV.on_m_spec hk
  clear hk
  cases hm with
  | m _ hq =>
    rw [HT.getR_eq] at hk1
    obtain ⟨es, hg, hk2⟩ := OB.onM_spec hk1
    obtain ⟨fs, c, hb, hr, hborn⟩ := E.map q es hg
    have hgo := run_getObj' (P := P) hb (by intro _ _ _ e; cases e)
    obtain ⟨es', hk3, hcase⟩ := muK_sound hs hd hx hz 0 hr hk2
    rw [HT.setK_eq] at hk3
    rcases hcase with ⟨h1, h2⟩ | ⟨j, e, h1, h2, h3, h4, h5⟩
    · obtain ⟨a1, a2⟩ := E.setMap hg (es' := es') (fs' := fs.push { key := u, val := zv, born := c }) (c' := c + 1) (by simpa using h2 c) (fun e he => by
        rw [Array.toList_push] at he
        rcases List.mem_append.1 he with he | he
        · have := hborn e he; omega
        · rcases List.mem_singleton.1 he with rfl; simp)
      exact ⟨_, _, by simp [Instr.mapUpdate, run_underlying ht, hgo, hck, run_findKey (P := P) hd h1, run_setObj' (P := P) hb (by intro _ _ _ e; cases e)], a1, a2, hk3⟩
    · have hj : fs[j]? = some e := by rw [← Array.getElem?_toList]; exact h2
      have hks : (Instr.keyThatStays (((fs[0 + j]?).map (·.key)).getD u) u).run P w = .ok u w := by
        simp [hj, h3, Instr.keyThatStays, h4]
      rw [Nat.zero_add] at hks h1
      obtain ⟨a1, a2⟩ := E.setMap hg (es' := es') (fs' := fs.modify j fun e => { e with key := u, val := zv }) (c' := c) (by rw [Array.toList_modify]; exact h5) (fun e' he => by
        rw [Array.toList_modify] at he
        obtain ⟨i, hi⟩ := List.mem_iff_getElem?.1 he
        rw [List.getElem?_modify] at hi
        cases hfi : fs.toList[i]? with
        | none => rw [hfi] at hi; simp at hi
        | some e0 =>
          rw [hfi] at hi
          have hb0 := hborn e0 (List.mem_of_getElem? hfi)
          by_cases hij : j = i
          · simp [hij] at hi; rw [← hi]; exact hb0
          · simp [hij] at hi; rw [← hi]; exact hb0)
      refine ⟨_, _, ?_, a1, a2, hk3⟩
      simp only [Instr.mapUpdate, Sem.run_bind, run_underlying ht, Result.andThen_ok, hgo, hck, run_findKey (P := P) hd h1, hks, run_setObj' (P := P) hb (by intro _ _ _ e; cases e)]
theorem mdD_sound (E : Emb P ρ h w B) {t kt et u2 ty : TypeId} (ht : mapOf P t = some (kt, et)) {str : Bool} (hs : kdOf P kt = some str) {m x : AV} {mv u : Value} (hm : Rel ρ h.nx.num m mv) (hx : Rel ρ h.nx.num x u) {k : Hp → Bool} (hk : mdD str m x h k = true) :
    MadeU P ρ h w B (.tuple #[]) ((Builtin.delete_ #[t, u2] ty #[mv, u]).run P w) k := by
  have ht := mapOf_spec ht
  obtain ⟨d, hd, hck⟩ := kd_desc hs
  obtain ⟨q, rfl, hk1⟩ := AV.on_m_spec hk
  clear hk
  cases hm with
  | m _ hq =>
    rw [HT.getR_eq] at hk1
    obtain ⟨es, hg, hk2⟩ := OB.onM_spec hk1
    obtain ⟨fs, c, hb, hr, hborn⟩ := E.map q es hg
    have hgo := run_getObj' (P := P) hb (by intro _ _ _ e; cases e)
    obtain ⟨es', hk3, hcase⟩ := mdK_sound hs hd hx 0 hr hk2
    rw [HT.setK_eq] at hk3
    rcases hcase with ⟨h1, h2⟩ | ⟨j, v, h1, h2, h3⟩
    · obtain ⟨a1, a2⟩ := E.setMap hg (es' := es') (fs' := fs) (c' := c) h2 hborn
      exact ⟨_, _, by simp [Builtin.delete_, run_underlying ht, hgo, hck, run_findKey (P := P) hd h1, run_setObj' (P := P) hb (by intro _ _ _ e; cases e)], a1, a2, hk3⟩
    · rw [Nat.zero_add] at h1
      have hj : j < fs.size := by simpa using h2
      have he : (fs.eraseIdxIfInBounds j).toList = fs.toList.eraseIdx j := by simp
      obtain ⟨a1, a2⟩ := E.setMap hg (es' := es') (fs' := fs.eraseIdxIfInBounds j) (c' := c) (by rw [he]; exact h3) (fun e hm => by rw [he] at hm; exact hborn e (List.mem_of_mem_eraseIdx hm))
      exact ⟨_, _, by simp [Builtin.delete_, run_underlying ht, hgo, hck, run_findKey (P := P) hd h1, run_setObj' (P := P) hb (by intro _ _ _ e; cases e)], a1, a2, hk3⟩
theorem mmD_sound (E : Emb P ρ h w B) {t : TypeId} {k : AV → Hp → Bool} (hk : mmD h k = true) : Made P ρ h w B ((Instr.makeMap t none).run P w) k := by
  unfold mmD at hk
  rw [HT.setK_eq, Q.succK_eq] at hk
  obtain ⟨a1, a2⟩ := E.new' (w' := { w with heap := w.heap.push (.map #[] 0) }) h.t (fun _ => .inr rfl) (.map #[] 0) rfl rfl rfl rfl (.mp []) (by simp) 0 (fun _ _ _ hb => by cases hb) (fun es he => by cases he; exact ⟨#[], 0, by simp, .nil, by simp⟩)
  refine ⟨_, .map (some w.heap.size), _, _, _, by simp [Instr.makeMap], a1, a2, ?_, hk⟩
  have := Rel.m (ρ := upd ρ h.nx { blk := w.heap.size, base := 0, cap := 0 }) (N := h.nx.succ.num) h.nx (by rw [Q.num_succ]; omega)
  rw [upd_same] at this
  exact this
theorem rsD_sound (E : Emb P ρ h w B) {t : TypeId} (ht : P.underlying t = some .string) {x : AV} {u : Value} (hx : Rel ρ h.nx.num x u) {k : AV → Hp → Bool} (hk : rsD x h k = true) : Made P ρ h w B ((Instr.range t u).run P w) k := by
  obtain ⟨n, l, rfl, hk1⟩ := AV.on_s_spec hk
  clear hk
  rw [HT.setK_eq, Q.succK_eq] at hk1
  cases hx with
  | s s =>
    obtain ⟨a1, a2⟩ := E.new' (w' := { w with heap := w.heap.push (.stringIter s 0) }) h.t (fun _ => .inr rfl) (.stringIter s 0) rfl rfl rfl rfl (.si 0 (s.data.toList.map UInt8.toNat)) (by simp) 0 (fun _ _ _ hb => by cases hb) (fun es he => by cases he) (fun o l he => by cases he; exact ⟨s, by simp, by simp, rfl⟩)
    refine ⟨_, .pointer (some ⟨w.heap.size, 0, none⟩), _, _, _, by simp [Instr.range, run_underlying ht], a1, a2, ?_, hk1⟩
    have := Rel.p (ρ := upd ρ h.nx { blk := w.heap.size, base := 0, cap := 0 }) (N := h.nx.succ.num) h.nx 0 (by rw [Q.num_succ]; omega)
    rw [upd_same] at this
    exact this
theorem nsD_sound (E : Emb P ρ h w B) {ty : TypeId} {x : AV} {u : Value} (hx : Rel ρ h.nx.num x u) {k : AV → Hp → Bool} (hk : nsD x h k = true) : Made P ρ h w B ((Instr.next u true ty).run P w) k := by
  obtain ⟨q, o, rfl, hk1⟩ := AV.on_p_spec hk
  clear hk
  obtain ⟨ho, hk2⟩ := ifT_eq hk1
  subst ho
  rw [HT.getR_eq] at hk2
  obtain ⟨pos, l, hg, hk3⟩ := OB.onS_spec hk2
  obtain ⟨s, hb, hdrop, hbase⟩ := E.si q pos l hg
  have hgo := run_getObj' (P := P) hb (by intro _ _ _ e; cases e)
  cases hx with
  | p _ _ hq =>
    have hsz : (s.data.toList.map UInt8.toNat).length = s.size := by simp
    rw [hbase]
    cases l with
    | nil =>
      have hle : ¬ pos < s.size := by
        intro hlt
        have := congrArg List.length hdrop
        rw [List.length_drop, hsz] at this
        simp at this
        omega
      exact ⟨_, .tuple #[.bool false], w, ρ, h, by simp [Instr.next, hgo, hle], E, Step.refl _ _ _, .t _ [.bool false] (.cons _ _ _ _ (.b _) .nil), hk3⟩
    | cons b t =>
      obtain ⟨hb128, hk4⟩ := ifT_lt hk3
      rw [natK_eq, HT.setK_eq] at hk4
      have hlt : pos < s.size := by
        have := congrArg List.length hdrop
        rw [List.length_drop, hsz] at this
        simp at this
        omega
      have hlt2 : pos < (s.data.toList.map UInt8.toNat).length := by omega
      have hdd := List.drop_eq_getElem_cons hlt2
      rw [hdrop] at hdd
      have hb0 : b = (s[pos]'hlt).toNat := by
        have := (List.cons.inj hdd).1
        rw [this, List.getElem_map]
        rfl
      have ht0 := (List.cons.inj hdd).2
      have hdec := decode_ascii s pos hlt (by rw [← hb0]; exact hb128)
      obtain ⟨a1, a2⟩ := E.set (w' := { w with heap := w.heap.setIfInBounds (ρ q).blk (.stringIter s (pos + 1)) }) (q := q) (by rw [Hp.live, hg]; simp) (.si (pos + 1) t) (by simp) (by simp) (fun c hc => set_other _ hc) rfl rfl rfl (fun _ _ _ hb => by cases hb) (fun es2 he => by cases he)
        (fun o l he => by cases he; exact ⟨s, set_same _ hb, ht0.symm, hbase⟩)
      refine ⟨_, .tuple #[.bool true, goInt pos, .int .i32 (s[pos]'hlt).toNat], _, _, _, ?_, a1, a2, .t _ [.bool true, goInt pos, .int .i32 (s[pos]'hlt).toNat] (.cons _ _ _ _ (.b _) (.cons _ _ _ _ (rel_len _ _ _) (.cons _ _ _ _ ?_ .nil))), hk4⟩
      · simp [Instr.next, hgo, hlt, hdec, run_setObj' (P := P) hb (by intro _ _ _ e; cases e)]
      · rw [hb0]
        have := Rel.i (ρ := ρ) (N := h.nx.num) .i32 ((s[pos]'hlt).toNat + 9223372036854775808)
        rw [Int.natCast_add, show (((9223372036854775808 : Nat) : Int)) = 9223372036854775808 from rfl, Int.add_sub_cancel] at this
        exact this
end
end Go.Proofs.YtmddhlfjilkdfaaGreatDoor
namespace Go.Proofs.YtmddhlfjilkdfaaGreatDoor
set_option linter.unusedVariables false
set_option linter.unusedSimpArgs false

/-! Lengths. -/
def symLen (i : Nat) (k : AV → Bool) : Bool := k (.y (.iv .i64 (Nat.add (syLo i) 9223372036854775808) (Nat.add (syHi i) 9223372036854775808)))
def lnSY (x : AV) (k : AV → Bool) : Bool := x.yK (fun s => s.on_os fun i => symLen i k) (lnS x k)
def lnLY (x : AV) (k : AV → Bool) : Bool := x.yK (fun s => Sy.casesOn (motive := fun _ => Bool) s (fun _ => false) (fun _ _ _ => false) (fun _ i => symLen i k) (fun _ a b => k (.y (.iv .i64 (Nat.add a 9223372036854775808) (Nat.add b 9223372036854775808))))) (lnL x k)
/-! Integers between bounds. -/
def bndK (x : AV) (f : IntKind → Nat → Nat → Bool) : Bool := AV.casesOn (motive_1 := fun _ => Bool) x false (fun _ => false) (fun kd a => f kd a a) (fun _ _ => false) false (fun _ _ => false) false (fun _ _ _ _ => false) false (fun _ _ _ => false) false false (fun _ => false) false (fun _ => false) (fun _ => false) (fun _ _ => false) (fun s => s.on_iv f)
def decB (yes no : Bool) (k : AV → Bool) : Bool := Bool.casesOn (motive := fun _ => Bool) yes (Bool.casesOn (motive := fun _ => Bool) no false (k (.b false))) (k (.b true))
def ivB (op : BinOp) (kd : IntKind) (a b c d : Nat) (k : AV → Bool) : Bool :=
  BinOp.casesOn (motive := fun _ => Bool) op
    (ifT (Nat.beq (kN kd) 3) (ifT (Nat.ble 9223372036854775808 (Nat.add a c)) (ifT (Nat.blt (Nat.add b d) 27670116110564327424) (k (.y (.iv kd (Nat.sub (Nat.add a c) 9223372036854775808) (Nat.sub (Nat.add b d) 9223372036854775808)))))))
    (ifT (Nat.beq (kN kd) 3) (ifT (Nat.ble d (Nat.add a 9223372036854775808)) (ifT (Nat.blt (Nat.add b 9223372036854775808) (Nat.add c 18446744073709551616)) (k (.y (.iv kd (Nat.sub (Nat.add a 9223372036854775808) d) (Nat.sub (Nat.add b 9223372036854775808) c)))))))
    false false false false false false false false false
    (decB false (orB (Nat.blt b c) (Nat.blt d a)) k) (decB (orB (Nat.blt b c) (Nat.blt d a)) false k) (decB (Nat.blt b c) (Nat.ble d a) k) (decB (Nat.ble b c) (Nat.blt d a) k) (decB (Nat.blt d a) (Nat.ble b c) k) (decB (Nat.ble d a) (Nat.blt b c) k)
def ivP (op : BinOp) (x y : AV) (k : AV → Bool) : Bool := bndK x fun kd a b => bndK y fun ke c d => ifT (Nat.beq (kN kd) (kN ke)) (ivB op kd a b c d k)
def ikY (op : BinOp) (x y : AV) (k : AV → Bool) : Bool := x.yK (fun _ => ivP op x y k) (y.yK (fun _ => ivP op x y k) (ikK op x y k))
def ciY (dst : IntKind) (x : AV) (k : AV → Bool) : Bool := x.yK (fun s => s.on_iv fun kd a b => ifT (Nat.beq (kN kd) 3) (ifT (Nat.beq (kN dst) 3) (ifT (Nat.blt b 18446744073709551616) (k (.y (.iv dst a b)))))) (ciK dst x k)
/-! Texts. -/
noncomputable def stY (op : BinOp) (x y : AV) (k : AV → Bool) : Bool := osK x y (stK op x y k) (eqB op true k)
def csY (x : AV) (k : AV → Bool) : Bool := x.yK (fun s => s.on_os fun i => k (.y (.os i))) (csK x k)
/-- Bytes that read as a text, as that text. -/
noncomputable def cbY (x : AV) (h : Hp) (k : AV → Bool) : Bool := x.yK (fun s => s.on_so fun q i => (HT.getR q h.t).onY fun o => o.on_op fun j => ifT (Nat.beq i j) (k (.y (.os i)))) (cbK x h k)
/-- A text's bytes. -/
noncomputable def sb2Y (el : Nat) (x : AV) (h : Hp) (k : AV → Hp → Bool) : Bool := x.yK (fun s => s.on_os fun i => HT.setK (.y (.op i)) h.nx h.t fun t' => h.nx.succK fun n' => k (.y (.so h.nx i)) (.mk t' n')) (sb2K el x h k)

theorem syLen_ok (i : Nat) : syHi i ≤ 309 := by
  match i with
  | 0 => decide
  | 1 => decide
  | _ + 2 => exact Nat.le_refl _
section
variable {P : Program} {ρ : Q → Loc} {h : Hp} {w : World} {B N : Nat}
theorem Emb.blk_lt' (E : Emb P ρ h w B) {q : Q} (hq : h.live q) : (ρ q).blk < w.heap.size := by
  have sh : ∀ {x : Nat × Nat}, w.shape? (ρ q).blk = some x → (ρ q).blk < w.heap.size := fun h1 => by
    unfold World.shape? at h1
    by_cases hh : (ρ q).blk < w.heap.size
    · exact hh
    · rw [Array.getElem?_eq_none (by omega)] at h1; cases h1
  cases hg : h.t.get q with
  | no => exact (hq hg).elim
  | bk ty n v =>
    obtain ⟨sz, h1, _⟩ := (E.row q ty n v hg).at_
    exact sh h1
  | mp es =>
    obtain ⟨fs, c, h1, _⟩ := E.map q es hg
    exact (Array.getElem?_eq_some_iff.1 h1).1
  | si o l =>
    obtain ⟨s, h1, _⟩ := E.si q o l hg
    exact (Array.getElem?_eq_some_iff.1 h1).1
  | y o =>
    cases o with
    | op i =>
      obtain ⟨s, h1⟩ := (E.op q i hg).2.1
      exact (Array.getElem?_eq_some_iff.1 h1).1
    | soup ty =>
      obtain ⟨sz, h1, _⟩ := (E.soup q ty hg).at_
      exact sh h1
theorem World.cell?_of_cells {w : World} {b : Nat} {c : Array Value} {ty : TypeId} {fz : Nat × Nat} (hh : w.heap[b]? = some (.cells c ty fz)) (j : Nat) : w.cell? ⟨b, j, none⟩ = c[j]? := by
  unfold World.cell?
  simp [hh]
theorem symLen_sound {i : Nat} (hb : SyOk ρ i) {k : AV → Bool} (hk : symLen i k = true) : ∃ y, Rel ρ N y (goInt (txt ρ i).size) ∧ k y = true := by
  refine ⟨_, ?_, hk⟩
  have := Rel.iv (ρ := ρ) (N := N) .i64 (syLo i + 9223372036854775808) (syHi i + 9223372036854775808) ((txt ρ i).size + 9223372036854775808) (by have := hb.1; omega) (by have := hb.2.1; omega)
  rw [Int.natCast_add, show (((9223372036854775808 : Nat) : Int)) = 9223372036854775808 from rfl, Int.add_sub_cancel] at this
  exact this
theorem lnSY_sound {t ty : Nat} (ht : P.underlying t = some .string) {x : AV} {u : Value} (hx : Rel ρ N x u) {k : AV → Bool} (hk : lnSY x k = true) (w : World) : Pure1 ρ N w ((Builtin.len_ #[t] ty #[u]).run P w) k := by
  rcases AV.yK_spec hk with ⟨s, rfl, h1⟩ | h1
  · obtain ⟨i, rfl, h2⟩ := Sy.on_os_spec h1
    cases hx with
    | os _ _ hb =>
      obtain ⟨y, h3, h4⟩ := symLen_sound (N := N) hb h2
      exact ⟨y, _, by simp [Builtin.len_, run_underlying ht], h3, h4⟩
  · exact lnS_sound ht hx h1 w
theorem lnLY_sound {t e ty : Nat} (ht : P.underlying t = some (.slice e)) {x : AV} {u : Value} (hx : Rel ρ N x u) {k : AV → Bool} (hk : lnLY x k = true) (w : World) : Pure1 ρ N w ((Builtin.len_ #[t] ty #[u]).run P w) k := by
  rcases AV.yK_spec hk with ⟨s, rfl, h1⟩ | h1
  · cases hx with
    | os => cases h1
    | iv => cases h1
    | so q i c _ _ hb _ _ =>
      obtain ⟨y, h3, h4⟩ := symLen_sound (N := N) hb h1
      exact ⟨y, _, by simp [Builtin.len_, run_underlying ht], h3, h4⟩
    | su q lo hi n c _ h1' h2' _ _ _ _ =>
      refine ⟨_, goInt n, by simp [Builtin.len_, run_underlying ht], ?_, h1⟩
      have := Rel.iv (ρ := ρ) (N := N) .i64 (lo + 9223372036854775808) (hi + 9223372036854775808) (n + 9223372036854775808) (by omega) (by omega)
      rw [Int.natCast_add, show (((9223372036854775808 : Nat) : Int)) = 9223372036854775808 from rfl, Int.add_sub_cancel] at this
      exact this
  · exact lnL_sound ht hx h1 w
theorem bndK_spec {x : AV} {u : Value} (hx : Rel ρ N x u) {f : IntKind → Nat → Nat → Bool} (hf : bndK x f = true) : ∃ kd a b n, u = .int kd ((n : Nat) - 9223372036854775808 : Int) ∧ a ≤ n ∧ n ≤ b ∧ f kd a b = true := by
  cases hx <;> first | (cases hf; done) | skip
  case i kd n => exact ⟨kd, n, n, n, rfl, Nat.le_refl _, Nat.le_refl _, hf⟩
  case iv kd a b n h1 h2 => exact ⟨kd, a, b, n, rfl, h1, h2, hf⟩
theorem decB_spec {yes no : Bool} {k : AV → Bool} (hk : decB yes no k = true) : (yes = true ∧ k (.b true) = true) ∨ (no = true ∧ k (.b false) = true) := by
  unfold decB at hk
  cases yes with
  | true => exact .inl ⟨rfl, hk⟩
  | false => cases no with
    | true => exact .inr ⟨rfl, hk⟩
    | false => cases hk
theorem orB_eq (a b : Bool) : orB a b = (a || b) := by cases a <;> cases b <;> rfl
theorem kN3 {kd : IntKind} (h : kN kd = 3) : kd = .i64 := by cases kd <;> first | rfl | cases h
theorem i64_wrap {x : Int} (h0 : -9223372036854775808 ≤ x) (h1 : x < 9223372036854775808) : IntKind.i64.wrap x = x := by rw [(wrapI x).2.2.2]; omega
theorem ivB_sound {op : BinOp} {kd : IntKind} {a b c d n m : Nat} (h1 : a ≤ n) (h2 : n ≤ b) (h3 : c ≤ m) (h4 : m ≤ d) {k : AV → Bool} (hk : ivB op kd a b c d k = true) (t : TypeId) (w : World) :
    Pure1 ρ N w ((binOp op t (.int kd ((n : Int) - 9223372036854775808)) (.int kd ((m : Int) - 9223372036854775808))).run P w) k := by
  cases op <;> first | (cases hk; done) | skip
  case add =>
    obtain ⟨e1, hk⟩ := ifT_eq (show ifT _ _ = true from hk)
    obtain ⟨e2, hk⟩ := ifT_le hk
    obtain ⟨e3, hk⟩ := ifT_lt hk
    have e2 : 9223372036854775808 ≤ a + c := e2
    have e3 : b + d < 27670116110564327424 := e3
    obtain rfl := kN3 e1
    refine ⟨_, _, run_iadd .., ?_, hk⟩
    rw [i64_wrap (by omega) (by omega)]
    have := Rel.iv (ρ := ρ) (N := N) .i64 (a + c - 9223372036854775808) (b + d - 9223372036854775808) (n + m - 9223372036854775808) (by omega) (by omega)
    rw [Int.natCast_sub (by omega)] at this
    have e : (n : Int) - 9223372036854775808 + ((m : Int) - 9223372036854775808) = ((n + m : Nat) : Int) - ((9223372036854775808 : Nat) : Int) - 9223372036854775808 := by omega
    rw [e]
    exact this
  case sub =>
    obtain ⟨e1, hk⟩ := ifT_eq (show ifT _ _ = true from hk)
    obtain ⟨e2, hk⟩ := ifT_le hk
    obtain ⟨e3, hk⟩ := ifT_lt hk
    have e2 : d ≤ a + 9223372036854775808 := e2
    have e3 : b + 9223372036854775808 < c + 18446744073709551616 := e3
    obtain rfl := kN3 e1
    refine ⟨_, _, run_isub .., ?_, hk⟩
    rw [i64_wrap (by omega) (by omega)]
    have := Rel.iv (ρ := ρ) (N := N) .i64 (a + 9223372036854775808 - d) (b + 9223372036854775808 - c) (n + 9223372036854775808 - m) (by omega) (by omega)
    rw [Int.natCast_sub (by omega)] at this
    have e : (n : Int) - 9223372036854775808 - ((m : Int) - 9223372036854775808) = ((n + 9223372036854775808 : Nat) : Int) - (m : Int) - 9223372036854775808 := by omega
    rw [e]
    exact this
  case eql =>
    dsimp only [ivB] at hk
    rcases decB_spec hk with ⟨e, hk⟩ | ⟨e, hk⟩
    · cases e
    · refine ⟨_, _, run_ieql .., ?_, hk⟩
      rw [orB_eq, Bool.or_eq_true, Nat.blt_eq, Nat.blt_eq] at e
      rw [show ((n : Int) - 9223372036854775808 == (m : Int) - 9223372036854775808) = false from by rw [beq_eq_false_iff_ne]; omega]
      exact .b _
  case neq =>
    dsimp only [ivB] at hk
    rcases decB_spec hk with ⟨e, hk⟩ | ⟨e, hk⟩
    · refine ⟨_, _, run_ineq .., ?_, hk⟩
      rw [orB_eq, Bool.or_eq_true, Nat.blt_eq, Nat.blt_eq] at e
      rw [show ((n : Int) - 9223372036854775808 != (m : Int) - 9223372036854775808) = true from by rw [bne_iff_ne]; omega]
      exact .b _
    · cases e
  case lss =>
    dsimp only [ivB] at hk
    rcases decB_spec hk with ⟨e, hk⟩ | ⟨e, hk⟩
    · rw [Nat.blt_eq] at e
      exact ⟨_, _, run_ilss .., by rw [decide_eq_true (by omega)]; exact .b _, hk⟩
    · rw [Nat.ble_eq] at e
      exact ⟨_, _, run_ilss .., by rw [decide_eq_false (by omega)]; exact .b _, hk⟩
  case leq =>
    dsimp only [ivB] at hk
    rcases decB_spec hk with ⟨e, hk⟩ | ⟨e, hk⟩
    · rw [Nat.ble_eq] at e
      exact ⟨_, _, run_ileq .., by rw [decide_eq_true (by omega)]; exact .b _, hk⟩
    · rw [Nat.blt_eq] at e
      exact ⟨_, _, run_ileq .., by rw [decide_eq_false (by omega)]; exact .b _, hk⟩
  case gtr =>
    dsimp only [ivB] at hk
    rcases decB_spec hk with ⟨e, hk⟩ | ⟨e, hk⟩
    · rw [Nat.blt_eq] at e
      exact ⟨_, _, run_igtr .., by rw [decide_eq_true (by omega)]; exact .b _, hk⟩
    · rw [Nat.ble_eq] at e
      exact ⟨_, _, run_igtr .., by rw [decide_eq_false (by omega)]; exact .b _, hk⟩
  case geq =>
    dsimp only [ivB] at hk
    rcases decB_spec hk with ⟨e, hk⟩ | ⟨e, hk⟩
    · rw [Nat.ble_eq] at e
      exact ⟨_, _, run_igeq .., by rw [decide_eq_true (by omega)]; exact .b _, hk⟩
    · rw [Nat.blt_eq] at e
      exact ⟨_, _, run_igeq .., by rw [decide_eq_false (by omega)]; exact .b _, hk⟩
theorem ivP_sound {op : BinOp} {x y : AV} {u v : Value} (hx : Rel ρ N x u) (hy : Rel ρ N y v) {k : AV → Bool} (hk : ivP op x y k = true) (t : TypeId) (w : World) : Pure1 ρ N w ((binOp op t u v).run P w) k := by
  obtain ⟨kd, a, b, n, rfl, h1, h2, hk2⟩ := bndK_spec hx hk
  obtain ⟨ke, c, d, m, rfl, h3, h4, hk3⟩ := bndK_spec hy hk2
  obtain ⟨he, hk4⟩ := ifT_eq hk3
  have := kN_inj he
  subst this
  exact ivB_sound h1 h2 h3 h4 hk4 t w
theorem ikY_sound {op : BinOp} {x y : AV} {u v : Value} (hx : Rel ρ N x u) (hy : Rel ρ N y v) {k : AV → Bool} (hk : ikY op x y k = true) (t : TypeId) (w : World) : Pure1 ρ N w ((binOp op t u v).run P w) k := by
  rcases AV.yK_spec hk with ⟨s, _, h1⟩ | h1
  · exact ivP_sound hx hy h1 t w
  · rcases AV.yK_spec h1 with ⟨s, _, h2⟩ | h2
    · exact ivP_sound hx hy h2 t w
    · exact ikK_sound hx hy h2 t w
theorem ikY_int {op : BinOp} {x y : AV} {u : Value} (hx : Rel ρ N x u) {k : AV → Bool} (hk : ikY op x y k = true) : ∃ kd n, u = .int kd n := by
  have iv : ivP op x y k = true → ∃ kd n, u = .int kd n := fun h1 => by
    obtain ⟨kd, a, b, n, hu, _⟩ := bndK_spec hx h1
    exact ⟨_, _, hu⟩
  rcases AV.yK_spec hk with ⟨s, _, h1⟩ | h1
  · exact iv h1
  · rcases AV.yK_spec h1 with ⟨s, _, h2⟩ | h2
    · exact iv h2
    · obtain ⟨_, _, rfl, _⟩ := AV.on_i_spec h2
      cases hx
      exact ⟨_, _, rfl⟩
theorem stY_str {op : BinOp} {x y : AV} {u : Value} (hx : Rel ρ N x u) {k : AV → Bool} (hk : stY op x y k = true) : ∃ s, u = .string s := by
  rcases osK_spec hk with ⟨i, rfl, rfl, h1⟩ | h1
  · cases hx
    exact ⟨_, rfl⟩
  · obtain ⟨_, _, rfl, _⟩ := AV.on_s_spec h1
    cases hx
    exact ⟨_, rfl⟩
theorem ciY_sound {s t : Nat} {sd : TypeDesc} {dst : IntKind} (hs : P.underlying s = some sd) (ht : P.underlying t = some (.int dst)) {x : AV} {u : Value} (hx : Rel ρ N x u) {k : AV → Bool} (hk : ciY dst x k = true) (w : World) : Pure1 ρ N w ((convert s t u).run P w) k := by
  rcases AV.yK_spec hk with ⟨sy, rfl, h1⟩ | h1
  · obtain ⟨kd, a, b, rfl, h2⟩ := Sy.on_iv_spec h1
    obtain ⟨e1, h3⟩ := ifT_eq h2
    obtain ⟨e2, h4⟩ := ifT_eq h3
    obtain ⟨e3, h5⟩ := ifT_lt h4
    obtain rfl := kN3 e1
    obtain rfl := kN3 e2
    cases hx with
    | iv _ _ _ n g1 g2 =>
      refine ⟨_, .int .i64 ((n : Int) - 9223372036854775808), ?_, .iv _ _ _ n g1 g2, h5⟩
      have := i64_wrap (x := (n : Int) - 9223372036854775808) (by omega) (by omega)
      simp [convert, run_underlying hs, run_underlying ht, Conv.intToInt, this]
  · exact ciK_sound hs ht hx h1 w
theorem stY_sound {op : BinOp} {x y : AV} {u v : Value} (hx : Rel ρ N x u) (hy : Rel ρ N y v) {k : AV → Bool} (hk : stY op x y k = true) (t : TypeId) (w : World) : Pure1 ρ N w ((binOp op t u v).run P w) k := by
  rcases osK_spec hk with ⟨i, rfl, rfl, h1⟩ | h1
  · cases hx
    cases hy
    rcases eqB_spec h1 with ⟨rfl, h2⟩ | ⟨rfl, h2⟩
    · exact ⟨_, .bool true, by simp [binOp, Op.stringOp], .b _, h2⟩
    · exact ⟨_, .bool false, by simp [binOp, Op.stringOp], .b _, h2⟩
  · exact stK_sound hx hy h1 t w
theorem csY_sound {s t : Nat} (hs : P.underlying s = some .string) (ht : P.underlying t = some .string) {x : AV} {u : Value} (hx : Rel ρ N x u) {k : AV → Bool} (hk : csY x k = true) (w : World) : Pure1 ρ N w ((convert s t u).run P w) k := by
  rcases AV.yK_spec hk with ⟨sy, rfl, h1⟩ | h1
  · obtain ⟨i, rfl, h2⟩ := Sy.on_os_spec h1
    cases hx with
    | os _ h0 hb => exact ⟨_, .string (txt ρ i), by simp [convert, run_underlying hs, run_underlying ht], .os i h0 hb, h2⟩
  · exact csK_sound hs ht hx h1 w
theorem foldl_push : ∀ (l : List UInt8) (s : ByteArray), ((l.map fun b => (b.toNat : Int)).foldl (fun r n => r.push (UInt8.ofNat n.toNat)) s).data.toList = s.data.toList ++ l
  | [], s => by simp
  | b :: l, s => by
    simp only [List.map_cons, List.foldl_cons]
    rw [foldl_push l _]
    simp [ByteArray.push]
theorem ba_get_list (s : ByteArray) (j : Nat) (h : j < s.size) : s.data.toList[j]? = some (s.get j h) := by
  have : j < s.data.toList.length := by simpa using h
  rw [List.getElem?_eq_getElem this]
  simp [ByteArray.get]
theorem OpAt.load {l : Loc} {i : Nat} (hO : OpAt ρ w l i) : (loadCells ⟨l.blk, l.base, none⟩ (txt ρ i).size).run P w = .ok (((txt ρ i).data.toList.map fun b => (b.toNat : Int)).map (Value.int .u8)).toArray w := by
  have := run_loadCells_list (P := P) w ⟨l.blk, l.base, none⟩ (((txt ρ i).data.toList.map fun b => (b.toNat : Int)).map (Value.int .u8)) (fun j u hu => by
    have hj := (List.getElem?_eq_some_iff.1 hu).1
    have hj2 : j < (txt ρ i).size := by simpa using hj
    rw [Addr.add_none, hO.2 j hj2]
    rw [List.getElem?_map, List.getElem?_map, ba_get_list _ j hj2] at hu
    exact hu)
  simpa using this
theorem cbY_sound (E : Emb P ρ h w B) {s t e : Nat} (hs : P.underlying s = some (.slice e)) (he : P.underlying e = some (.int .u8)) (ht : P.underlying t = some .string) {x : AV} {u : Value} (hx : Rel ρ h.nx.num x u) {k : AV → Bool} (hk : cbY x h k = true) : Pure1 ρ h.nx.num w ((convert s t u).run P w) k := by
  rcases AV.yK_spec hk with ⟨sy, rfl, h1⟩ | h1
  · obtain ⟨q, i, rfl, h2⟩ := Sy.on_so_spec h1
    rw [HT.getR_eq] at h2
    obtain ⟨o, hg, h3⟩ := OB.onY_spec h2
    obtain ⟨j, rfl, h4⟩ := Oy.on_op_spec h3
    obtain ⟨e1, h5⟩ := ifT_eq h4
    subst e1
    cases hx with
    | so _ _ c hq h0 hb hc hm =>
      have hrun := run_bytesToString (P := P) w ⟨(ρ q).blk, (ρ q).base, none⟩ (txt ρ i).size c _ (OpAt.load (P := P) (E.op q i hg).2)
      refine ⟨_, _, by rw [run_convert_bytes_string w s t e _ _ c hs he ht]; exact hrun, ?_, h5⟩
      have hp : ((txt ρ i).data.toList.map fun b => (b.toNat : Int)).foldl (fun r n => r.push (UInt8.ofNat n.toNat)) ByteArray.empty = txt ρ i := by
        apply ByteArray.ext
        apply Array.ext'
        rw [foldl_push]
        simp
      rw [hp]
      exact .os i h0 hb
  · exact cbK_sound E hs he ht hx h1
theorem sb2Y_sound (E : Emb P ρ h w B) {s t e : Nat} (hs : P.underlying s = some .string) (ht : P.underlying t = some (.slice e)) (he : P.underlying e = some (.int .u8)) (hsz : P.cellsOf e = 1) {x : AV} {u : Value} (hx : Rel ρ h.nx.num x u) {k : AV → Hp → Bool} (hk : sb2Y e x h k = true) : Made P ρ h w B ((convert s t u).run P w) k := by
  rcases AV.yK_spec hk with ⟨sy, rfl, h1⟩ | h1
  · obtain ⟨i, rfl, h2⟩ := Sy.on_os_spec h1
    rw [HT.setK_eq, Q.succK_eq] at h2
    cases hx with
    | os _ h0 hb =>
      have hge := grownCap_ge w (txt ρ i).size 0 e
      have hhi := syLen_ok i
      have hb2 := hb.2.1
      have hgm : grownCap w (txt ρ i).size 0 e ≤ 9223372036854775807 := grownCap_le_maxLen w (txt ρ i).size 0 e (by unfold maxLen; omega)
      have hrun := run_bytes_of_string (P := P) w _ _ e (txt ρ i) hs ht he
      generalize hC : grownCap w (txt ρ i).size 0 e = C at *
      have hlt := fun r (hr : h.live r) => E.blk_lt' hr
      have htx : ∀ l : Loc, txt (upd ρ h.nx l) i = txt ρ i := fun l => by unfold txt; rw [upd_lt ρ h.nx l .e h0]
      obtain ⟨a1, a2⟩ := E.lay (w' := w.drew.alloc (.cells (bytesRow (txt ρ i) C) e ((bytesRow (txt ρ i) C).size, (bytesRow (txt ρ i) C).size + 1))) h.t (fun _ => .inr rfl) (.y (.op i)) (by simp) { blk := w.heap.size, base := 0, cap := C }
        (by simp) E.base (fun r hr => by
          show (w.heap.push _)[(ρ r).blk]? = _
          rw [Array.getElem?_push, if_neg (by have := hlt r hr; omega)]) (fun r hr => by have := hlt r hr; simp only; omega)
        (fun c hc _ => by show (w.heap.push _)[c]? = _; rw [Array.getElem?_push, if_neg (by omega)]) (.inr (Nat.le_refl _)) rfl rfl rfl (fun _ _ _ hb => by cases hb) (fun _ hb => by cases hb)
        (hop := fun j hj => by
          cases hj
          refine ⟨h0, ⟨_, by show (w.heap.push _)[w.heap.size]? = _; simp; rfl⟩, fun j hj => ?_⟩
          rw [htx] at hj
          show World.cell? _ ⟨w.heap.size, 0 + j, none⟩ = _
          rw [Nat.zero_add, World.cell?_of_cells (c := bytesRow (txt ρ i) C) (ty := e) (fz := ((bytesRow (txt ρ i) C).size, (bytesRow (txt ρ i) C).size + 1)) (show (w.heap.push _)[w.heap.size]? = some _ from by rw [Array.getElem?_push, if_pos rfl]), bytesRow_at _ C j (by simpa using hj)]
          simp only [htx]
          rfl)
      have e0 : 0 < h.nx.succ.num := by rw [Q.num_succ]; omega
      have hR := Rel.so (ρ := upd ρ h.nx { blk := w.heap.size, base := 0, cap := C }) (N := h.nx.succ.num) h.nx i C (by rw [Q.num_succ]; omega) e0 (by unfold SyOk; rw [show txt (upd ρ h.nx { blk := w.heap.size, base := 0, cap := C }) = txt ρ from by unfold txt; rw [upd_lt ρ h.nx _ .e h0]]; exact hb) (by rw [htx]; exact hge) hgm
      rw [htx, upd_same] at hR
      exact ⟨_, _, _, _, _, hrun, a1, a2, hR, h2⟩
  · exact sb2K_sound E hs ht he hsz hx h1
end
end Go.Proofs.YtmddhlfjilkdfaaGreatDoor
namespace Go.Proofs.YtmddhlfjilkdfaaGreatDoor
set_option linter.unusedVariables false
set_option linter.unusedSimpArgs false

def u8V (b : UInt8) : Value := .int .u8 (b.toNat : Int)
/-- A slice of bytes of whatever content, at the beginning of its room. -/
structure SoupV (P : Program) (w : World) (e : TypeId) (v : Value) (l : Loc) (n : Nat) : Prop where
  val : v = .slice (some ⟨l.blk, l.base, none⟩) n l.cap
  le : n ≤ l.cap
  cap : l.cap ≤ 9223372036854775807
  at_ : ∃ sz, w.shape? l.blk = some (e, sz) ∧ l.base + l.cap * P.cellsOf e ≤ sz ∧ (∀ o, o < sz → w.frozen? ⟨l.blk, o, none⟩ = false)
  get : ∀ i, i < n → ∃ x : UInt8, w.cell? ⟨l.blk, l.base + i, none⟩ = some (u8V x)
/-- What an append, or a call that appends, leaves of such a slice: the block b0 may have turned. -/
structure SoupTo (P : Program) (w w' : World) (e : TypeId) (b0 : Nat) (v' : Value) (l' : Loc) (n : Nat) : Prop where
  v : SoupV P w' e v' l' n
  size : w.heap.size ≤ w'.heap.size
  os : w'.os = w.os
  tape : w'.tape = w.tape
  output : w'.output = w.output
  frame : ∀ c, c < w.heap.size → c ≠ b0 → w'.heap[c]? = w.heap[c]?
  blk : l'.blk = b0 ∨ w.heap.size ≤ l'.blk
section
variable {P : Program} {ρ : Q → Loc} {h : Hp} {w : World} {B N : Nat}
theorem elem1 {e : TypeId} (he : elemOk P e 1 = true) : P.cellsOf e = 1 := by
  obtain ⟨i, z, hi, _, _, hs, _⟩ := elemOk_spec he
  simp [Program.cellsOf, hi, hs]
/-- The bytes that stand there. -/
theorem soup_list {b o n : Nat} (hg : ∀ i, i < n → ∃ x : UInt8, w.cell? ⟨b, o + i, none⟩ = some (u8V x)) : ∃ olds : List UInt8, olds.length = n ∧ ∀ j u, (olds.map u8V)[j]? = some u → w.cell? ⟨b, o + j, none⟩ = some u := by
  induction n with
  | zero => exact ⟨[], rfl, fun j u hu => by simp at hu⟩
  | succ n ih =>
    obtain ⟨l, hl, hc⟩ := ih (fun i hi => hg i (by omega))
    obtain ⟨x, hx⟩ := hg n (by omega)
    refine ⟨l ++ [x], by simp [hl], fun j u hu => ?_⟩
    rw [List.map_append] at hu
    by_cases hj : j < n
    · rw [List.getElem?_append_left (by simp [hl]; exact hj)] at hu
      exact hc j u hu
    · rw [List.getElem?_append_right (by simp [hl]; omega)] at hu
      simp only [List.length_map, hl, List.map_cons, List.map_nil] at hu
      have hj2 : j = n := by
        have := (List.getElem?_eq_some_iff.1 hu).1
        simp at this
        omega
      subst hj2
      simp at hu
      rw [← hu]
      exact hx
/-- New bytes behind a slice of bytes. -/
theorem soup_app {t u ty e : TypeId} (ht : P.underlying t = some (.slice e)) (hu : (∃ f, P.underlying u = some (.slice f)) ∨ P.underlying u = some .string) (he : elemOk P e 1 = true) {v : Value} {l : Loc} {n : Nat} (hv : SoupV P w e v l n)
    {x : Value} {m : Nat} {news : List UInt8} (hx : ∀ w' : World, (Builtin.lenOf x).run P w' = .ok m w') (hfc : ∀ w' : World, w'.heap = w.heap → (Builtin.firstCells 1 m x).run P w' = .ok (news.map u8V).toArray w') (hm : news.length = m) (hl : n + m ≤ 1000000) :
    ∃ v' w' l', (Builtin.append_ #[t, u] ty #[v, x]).run P w = .ok v' w' ∧ SoupTo P w w' e l.blk v' l' (n + m) := by
  have h1 : ∀ y ∈ news.map u8V, y.oneCell' = true := fun y hy => by
    obtain ⟨b, _, rfl⟩ := List.mem_map.1 hy
    rfl
  have hc1 := elem1 he
  obtain ⟨sz, hs, hb, hfz⟩ := hv.at_
  rw [hc1, Nat.mul_one] at hb
  have hval := hv.val
  subst hval
  have hle := hv.le
  by_cases hroom : n + m ≤ l.cap
  · have hcell : ∀ j, j < sz → (w.cell? ⟨l.blk, j, none⟩).isSome = true := fun j hj => by
      unfold World.shape? at hs
      unfold World.cell?
      cases hh : w.heap[l.blk]? with
      | none => rw [hh] at hs; cases hs
      | some ob =>
        rw [hh] at hs
        cases ob <;> cases hs
        simp [hj]
    have hst := run_storeCells_cells (P := P) l.blk (l.base + n) (news.map u8V) 0 w (fun j hj => by rw [List.length_map] at hj; exact hcell _ (by omega)) (fun j hj => by rw [List.length_map] at hj; exact hfz _ (by omega)) h1
    rw [Nat.add_zero] at hst
    obtain ⟨g1, g2, g3, g4, g5⟩ := World.setCells_other l.blk (news.map u8V) (l.base + n) w
    refine ⟨_, _, l, run_app_room w (ty := ty) (cap := l.cap) ht hu he x m (news.map u8V) hx (hfc w rfl) (some ⟨l.blk, l.base, none⟩) n hroom ⟨fun a ha => ?_, fun h => by cases h⟩, ⟨rfl, hroom, hv.cap, ⟨sz, (World.shape?_setCells _ _ _ _ _).trans hs, by rw [hc1, Nat.mul_one]; exact hb, fun o ho => by rw [World.frozen?_setCells]; exact hfz o ho⟩, fun i hi => ?_⟩, by rw [g1]; exact Nat.le_refl _, g3, g4, g5, fun c _ hc => g2 c hc, .inl rfl⟩
    · cases ha
      rw [Addr.add_none, Nat.mul_one]
      exact hst
    · by_cases hin : i < n
      · obtain ⟨y, hy⟩ := hv.get i hin
        refine ⟨y, ?_⟩
        rw [World.cell?_setCells_out _ _ _ _ _ (fun _ _ => by show _ ∨ _; simp only; omega)]
        exact hy
      · have hj : i - n < (news.map u8V).length := by rw [List.length_map]; omega
        have := World.cell?_setCells_in l.blk (news.map u8V) (l.base + n) w (fun j hj => by rw [List.length_map] at hj; exact hcell _ (by omega)) (i - n) hj
        rw [show l.base + n + (i - n) = l.base + i by omega, List.getElem_map] at this
        exact ⟨_, this⟩
  · obtain ⟨olds, hol, hoc⟩ := soup_list hv.get
    have hofc : (Builtin.firstCells 1 n (.slice (some ⟨l.blk, l.base, none⟩) n l.cap)).run P w.drew = .ok (olds.map u8V).toArray w.drew :=
      run_firstCells_some w.drew 1 n _ n l.cap (olds.map u8V) (by rw [List.length_map, hol, Nat.mul_one]) (fun j u hu => by rw [Addr.add_none]; exact hoc j u hu)
    obtain ⟨z, hz, hrun⟩ := run_app_grow w (ty := ty) ht hu he x m (news.map u8V) (olds.map u8V) hx (hfc _ rfl) (some ⟨l.blk, l.base, none⟩) n l.cap hofc (by omega) hl
    have hge := grownCap_ge w (n + m) l.cap e
    have hgm : grownCap w (n + m) l.cap e ≤ 9223372036854775807 := grownCap_le_maxLen w (n + m) l.cap e (by unfold maxLen; omega)
    generalize hC : grownCap w (n + m) l.cap e = C at *
    have hsz : ((olds.map u8V).toArray ++ (news.map u8V).toArray ++ Builtin.zeroCells z.cells (C - (n + m))).size = C := by
      simp only [Array.size_append, List.size_toArray, size_zeroCells, hz, List.length_map, hol, hm, Nat.mul_one]
      omega
    have hh : (w.drew.alloc (.cells ((olds.map u8V).toArray ++ (news.map u8V).toArray ++ Builtin.zeroCells z.cells (C - (n + m))) e)).heap[w.heap.size]? = some (.cells ((olds.map u8V).toArray ++ (news.map u8V).toArray ++ Builtin.zeroCells z.cells (C - (n + m))) e (0, 0)) := by
      show (w.heap.push _)[w.heap.size]? = _
      rw [Array.getElem?_push, if_pos rfl]
    refine ⟨_, _, { blk := w.heap.size, base := 0, cap := C }, hrun, ⟨rfl, hge, hgm, ⟨C, ?_, by rw [hc1]; simp, fun o ho => ?_⟩, fun i hi => ?_⟩, by simp, rfl, rfl, rfl, fun c hc _ => ?_, .inr (Nat.le_refl _)⟩
    · unfold World.shape?
      simp only [hh, hsz]
    · unfold World.frozen?
      simp only [hh]
      simp
    · have hcell := World.cell?_of_cells hh i
      refine ⟨(olds ++ news)[i]'(by rw [List.length_append]; omega), ?_⟩
      show World.cell? _ ⟨w.heap.size, 0 + i, none⟩ = _
      rw [Nat.zero_add, hcell, Array.getElem?_append_left (by simp [hol, hm]; exact hi)]
      rw [List.append_toArray, List.getElem?_toArray, ← List.map_append, List.getElem?_map, List.getElem?_eq_getElem (by rw [List.length_append]; omega)]
      rfl
    · show (w.heap.push _)[c]? = _
      rw [Array.getElem?_push, if_neg (by omega)]
/-- New bytes behind nothing. -/
theorem soup_app_nil {t u ty e : TypeId} (ht : P.underlying t = some (.slice e)) (hu : (∃ f, P.underlying u = some (.slice f)) ∨ P.underlying u = some .string) (he : elemOk P e 1 = true)
    {x : Value} {m : Nat} {news : List UInt8} (hx : ∀ w' : World, (Builtin.lenOf x).run P w' = .ok m w') (hfc : ∀ w' : World, w'.heap = w.heap → (Builtin.firstCells 1 m x).run P w' = .ok (news.map u8V).toArray w') (hm : news.length = m) (hl : m ≤ 1000000) (h0 : 0 < m) :
    ∃ v' w' l', (Builtin.append_ #[t, u] ty #[.slice none 0 0, x]).run P w = .ok v' w' ∧ SoupTo P w w' e w.heap.size v' l' m := by
  have hc1 := elem1 he
  have hofc : (Builtin.firstCells 1 0 (.slice none 0 0)).run P w.drew = .ok ([] : List Value).toArray w.drew := by simp [Builtin.firstCells]
  obtain ⟨z, hz, hrun⟩ := run_app_grow w (ty := ty) ht hu he x m (news.map u8V) [] hx (hfc _ rfl) none 0 0 hofc (by omega) (by omega)
  rw [Nat.zero_add] at hrun
  have hge := grownCap_ge w m 0 e
  have hgm : grownCap w m 0 e ≤ 9223372036854775807 := grownCap_le_maxLen w m 0 e (by unfold maxLen; omega)
  generalize hC : grownCap w m 0 e = C at *
  have hsz : (([] : List Value).toArray ++ (news.map u8V).toArray ++ Builtin.zeroCells z.cells (C - m)).size = C := by
    simp only [Array.size_append, List.size_toArray, size_zeroCells, hz, List.length_map, hm, Nat.mul_one, List.length_nil]
    omega
  have hh : (w.drew.alloc (.cells (([] : List Value).toArray ++ (news.map u8V).toArray ++ Builtin.zeroCells z.cells (C - m)) e)).heap[w.heap.size]? = some (.cells (([] : List Value).toArray ++ (news.map u8V).toArray ++ Builtin.zeroCells z.cells (C - m)) e (0, 0)) := by
    show (w.heap.push _)[w.heap.size]? = _
    rw [Array.getElem?_push, if_pos rfl]
  refine ⟨_, _, { blk := w.heap.size, base := 0, cap := C }, hrun, ⟨rfl, hge, hgm, ⟨C, ?_, by rw [hc1]; simp, fun o ho => ?_⟩, fun i hi => ?_⟩, by simp, rfl, rfl, rfl, fun c hc _ => ?_, .inr (Nat.le_refl _)⟩
  · unfold World.shape?
    simp only [hh, hsz]
  · unfold World.frozen?
    simp only [hh]
    simp
  · have hcell := World.cell?_of_cells hh i
    refine ⟨news[i]'(by omega), ?_⟩
    show World.cell? _ ⟨w.heap.size, 0 + i, none⟩ = _
    rw [Nat.zero_add, hcell, Array.getElem?_append_left (by simp [hm]; exact hi)]
    rw [List.append_toArray, List.getElem?_toArray, List.nil_append, List.getElem?_map, List.getElem?_eq_getElem (by omega)]
    rfl
  · show (w.heap.push _)[c]? = _
    rw [Array.getElem?_push, if_neg (by omega)]
end
end Go.Proofs.YtmddhlfjilkdfaaGreatDoor
namespace Go.Proofs.YtmddhlfjilkdfaaGreatDoor
set_option linter.unusedVariables false
set_option linter.unusedSimpArgs false

/-- What is appended: bytes, at least and at most so many. -/
noncomputable def srcY (y : AV) (h : Hp) (k : Nat → Nat → Bool) : Bool :=
  y.yK (fun s => Sy.casesOn (motive := fun _ => Bool) s (fun i => k (syLo i) (syHi i)) (fun _ _ _ => false) (fun q i => (HT.getR q h.t).onY fun o => o.on_op fun j => ifT (Nat.beq i j) (k (syLo i) (syHi i))) (fun q a b => (HT.getR q h.t).onY fun o => o.on_soup fun _ => k a b))
    (srcK 1 y h fun n cs => bytesK cs fun _ => k n n)
/-- What is appended to: the names that are left, how many bytes stand there, how many must come. -/
noncomputable def dstY (el : Nat) (x : AV) (h : Hp) (k : HT → Nat → Nat → Nat → Bool) : Bool :=
  AV.casesOn (motive_1 := fun _ => Bool) x false (fun _ => false) (fun _ _ => false) (fun _ _ => false) false (fun _ _ => false) (k h.t 0 0 1)
    (fun q o n c => AC.casesOn (motive := fun _ => Bool) c (fun _ => false) fun d _ => ifT (Nat.beq o 0) (ifT (Nat.beq d 0) ((HT.getR q h.t).on fun ty m v => ifT (Nat.beq ty el) (ifT (Nat.ble n m) (bytesK (v.range n 0) fun _ => HT.setK .no q h.t fun t0 => k t0 n n 0)))))
    false (fun _ _ _ => false) false false (fun _ => false) false (fun _ => false) (fun _ => false) (fun _ _ => false)
    (fun s => Sy.casesOn (motive := fun _ => Bool) s (fun _ => false) (fun _ _ _ => false) (fun _ _ => false) (fun q a b => (HT.getR q h.t).onY fun o => o.on_soup fun ty => ifT (Nat.beq ty el) (HT.setK .no q h.t fun t0 => k t0 a b 0)))
/-- A new name for bytes of whatever content. -/
noncomputable def suK (el : Nat) (t0 : HT) (a b : Nat) (h : Hp) (k : AV → Hp → Bool) : Bool := HT.setK (.y (.soup el)) h.nx t0 fun t' => h.nx.succK fun n' => k (.y (.su h.nx a b)) (.mk t' n')
noncomputable def apS (el : Nat) (x y : AV) (h : Hp) (k : AV → Hp → Bool) : Bool := srcY y h fun a b => dstY el x h fun t0 c d need => ifT (Nat.ble need a) (ifT (Nat.ble (Nat.add b d) 1000000) (natK (Nat.add a c) fun lo => natK (Nat.add b d) fun hi => suK el t0 lo hi h k))
noncomputable def apY (el sz : Nat) (x y : AV) (h : Hp) (k : AV → Hp → Bool) : Bool := x.yK (fun _ => ifT (Nat.beq sz 1) (apS el x y h k)) (y.yK (fun _ => ifT (Nat.beq sz 1) (apS el x y h k)) (apK el sz x y h k))
section
variable {P : Program} {ρ : Q → Loc} {h : Hp} {w : World} {B N : Nat}
theorem bytes_u8 : ∀ (l : List Nat), (∀ b ∈ l, b < 256) → (l.map Int.ofNat).map (Value.int .u8) = (l.map UInt8.ofNat).map u8V
  | [], _ => rfl
  | b :: l, hb => by
    have h1 := bytes_u8 l (fun x hx => hb x (by simp [hx]))
    have h2 : b < 256 := hb b (by simp)
    simp only [List.map_cons, h1]
    congr 1
    show Value.int .u8 (b : Int) = Value.int .u8 (((UInt8.ofNat b).toNat : Nat) : Int)
    rw [UInt8.toNat_ofNat', Nat.mod_eq_of_lt h2]
theorem srcY_sound (E : Emb P ρ h w B) {y : AV} {u : Value} (hy : Rel ρ h.nx.num y u) {k : Nat → Nat → Bool} (hk : srcY y h k = true) :
    ∃ (a b m : Nat) (news : List UInt8), k a b = true ∧ a ≤ m ∧ m ≤ b ∧ news.length = m ∧ (∀ w' : World, (Builtin.lenOf u).run P w' = .ok m w') ∧ (∀ w' : World, w'.heap = w.heap → (Builtin.firstCells 1 m u).run P w' = .ok (news.map u8V).toArray w') := by
  rcases AV.yK_spec hk with ⟨s, rfl, h1⟩ | h1
  · cases hy with
    | os i h0 hb =>
      refine ⟨_, _, (txt ρ i).size, (txt ρ i).data.toList, h1, hb.1, hb.2.1, by simp, fun w' => rfl, fun w' _ => ?_⟩
      have e : (txt ρ i).extract 0 (txt ρ i).size = txt ρ i := by
        apply ByteArray.ext
        rw [ByteArray.data_extract]
        simp
      simp only [Builtin.firstCells, e, Sem.run_pure]
      congr 1
      apply Array.ext'
      simp
      exact fun _ _ => rfl
    | iv => cases h1
    | so q i c hq h0 hb hc hm =>
      dsimp only at h1
      rw [HT.getR_eq] at h1
      obtain ⟨o, hg, h3⟩ := OB.onY_spec h1
      obtain ⟨j, rfl, h4⟩ := Oy.on_op_spec h3
      obtain ⟨e1, h5⟩ := ifT_eq h4
      subst e1
      have hO := (E.op q i hg).2
      refine ⟨_, _, (txt ρ i).size, (txt ρ i).data.toList, h5, hb.1, hb.2.1, by simp, fun w' => rfl, fun w' hw' => run_firstCells_some w' 1 _ _ _ c _ (by simp) (fun j u hu => ?_)⟩
      have hj := (List.getElem?_eq_some_iff.1 hu).1
      have hj2 : j < (txt ρ i).size := by simpa using hj
      rw [Addr.add_none, cell?_of_heap (w := w) (by rw [hw']), hO.2 j hj2]
      rw [List.getElem?_map, ba_get_list _ j hj2] at hu
      exact hu
    | su q lo hi n c hq g1 g2 hf hc hm hx =>
      dsimp only at h1
      rw [HT.getR_eq] at h1
      obtain ⟨o, hg, h3⟩ := OB.onY_spec h1
      obtain ⟨ty, rfl, h4⟩ := Oy.on_soup_spec h3
      have hS := E.soup q ty hg
      obtain ⟨olds, hol, hoc⟩ := soup_list (w := w) (b := (ρ q).blk) (o := (ρ q).base) (n := n) (fun i hi => hS.get i (by omega))
      exact ⟨_, _, n, olds, h4, g1, g2, hol, fun w' => rfl, fun w' hw' => run_firstCells_some w' 1 n _ n c _ (by rw [List.length_map, hol, Nat.mul_one]) (fun j u hu => by rw [Addr.add_none, cell?_of_heap (w := w) (by rw [hw'])]; exact hoc j u hu)⟩
  · obtain ⟨n, cs, news, h2, hcs, hr, h1c, hlen, hfc, hnl⟩ := srcK_sound E hy h1
    obtain ⟨l, h3, hv, hb, hll⟩ := bytesK_spec hr h2
    refine ⟨n, n, n, l.map UInt8.ofNat, h3, Nat.le_refl _, Nat.le_refl _, by rw [List.length_map, hll, hcs, Nat.mul_one], hlen, fun w' hw' => ?_⟩
    rw [hfc w' hw', hv, bytes_u8 l hb]
/-- The bytes get their name. -/
theorem Emb.soup' (E : Emb P ρ h w B) {w' : World} {e b0 : Nat} {v' : Value} {l' : Loc} {n : Nat} (hS : SoupTo P w w' e b0 v' l' n) (t0 : HT) (ht : ∀ r, t0.get r = .no ∨ t0.get r = h.t.get r)
    (hb0 : ∀ r, t0.get r ≠ .no → (ρ r).blk ≠ b0) (hl0 : w.heap.size ≤ b0 ∨ ∃ q, h.live q ∧ (ρ q).blk = b0) {lo hi : Nat} (h1 : lo ≤ n) (h2 : n ≤ hi) {k : AV → Hp → Bool} (hk : suK e t0 lo hi h k = true) : Made P ρ h w B (.ok v' w') k := by
  unfold suK at hk
  rw [HT.setK_eq, Q.succK_eq] at hk
  have hold : ∀ r, t0.get r ≠ .no → h.live r := fun r hr => by
    rcases ht r with e | e
    · exact (hr e).elim
    · rw [Hp.live, ← e]; exact hr
  have hlt := fun r (hr : t0.get r ≠ .no) => E.blk_lt' (hold r hr)
  obtain ⟨sz, hs, hb, hfz⟩ := hS.v.at_
  obtain ⟨a1, a2⟩ := E.lay (w' := w') t0 ht (.y (.soup e)) (by simp) { blk := l'.blk, base := l'.base, cap := l'.cap, fil := n } hS.size
    (by
      show B ≤ l'.blk
      rcases hS.blk with e1 | e1
      · rw [e1]
        rcases hl0 with e2 | ⟨q, hq, e2⟩
        · exact Nat.le_trans E.base e2
        · rw [← e2]; exact E.ge q hq
      · exact Nat.le_trans E.base e1)
    (fun r hr => hS.frame _ (hlt r hr) (hb0 r hr)) (fun r hr e1 => by
      have e1 : (ρ r).blk = l'.blk := e1
      rcases hS.blk with e2 | e2
      · exact hb0 r hr (e1.trans e2)
      · have := hlt r hr; omega)
    (fun c hc hq => hS.frame c hc (fun e1 => by
      rcases hl0 with e2 | ⟨q, hq2, e2⟩
      · omega
      · exact hq q hq2 (e2.trans e1.symm)))
    (by
      show (∃ r, h.live r ∧ l'.blk = (ρ r).blk) ∨ w.heap.size ≤ l'.blk
      rcases hS.blk with e1 | e1
      · rcases hl0 with e2 | ⟨q, hq2, e2⟩
        · exact .inr (by omega)
        · exact .inl ⟨q, hq2, e1.trans e2.symm⟩
      · exact .inr e1)
    hS.os hS.tape hS.output (fun _ _ _ hb => by cases hb) (fun _ hb => by cases hb)
    (hso := fun ty hty => by
      cases hty
      exact ⟨⟨sz, hs, hb, hfz⟩, fun i hi => hS.v.get i hi⟩)
  have hR := Rel.su (ρ := upd ρ h.nx { blk := l'.blk, base := l'.base, cap := l'.cap, fil := n }) (N := h.nx.succ.num) h.nx lo hi n l'.cap (by rw [Q.num_succ]; omega) h1 h2 (by rw [upd_same]; exact Nat.le_refl _) hS.v.le (by rw [upd_same]; exact Nat.le_refl _) hS.v.cap
  rw [upd_same] at hR
  exact ⟨_, _, _, _, _, rfl, a1, a2, by rw [hS.v.val]; exact hR, hk⟩
/-- What is appended to, in memory. -/
theorem dstY_sound (E : Emb P ρ h w B) {el : Nat} (hc1 : P.cellsOf el = 1) {x : AV} {v : Value} (hx : Rel ρ h.nx.num x v) {k : HT → Nat → Nat → Nat → Bool} (hk : dstY el x h k = true) :
    (v = .slice none 0 0 ∧ k h.t 0 0 1 = true) ∨
    ∃ (q : Q) (l : Loc) (a b n : Nat), h.live q ∧ l.blk = (ρ q).blk ∧ SoupV P w el v l n ∧ a ≤ n ∧ n ≤ b ∧ k (h.t.set .no q) a b 0 = true := by
  cases x <;> first | (cases hk; done) | skip
  case ns => cases hx; exact .inl ⟨rfl, hk⟩
  case sl q o n c =>
    cases c with
    | k cc => cases hk
    | u d b =>
      obtain ⟨e1, j1⟩ := ifT_eq (show ifT _ _ = true from hk)
      obtain ⟨e2, j2⟩ := ifT_eq j1
      clear hk j1
      subst e1 e2
      rw [HT.getR_eq] at j2
      obtain ⟨ty, m, vv, hg, j3⟩ := OB.on_spec j2
      obtain ⟨e3, j4⟩ := ifT_eq j3
      clear j2 j3
      subst e3
      obtain ⟨hle, j5⟩ := ifT_le j4
      obtain ⟨vs, hl, hr, h1, hc⟩ := E.cells hg 0 n (by omega)
      obtain ⟨l, hk, hv, hb, hll⟩ := bytesK_spec hr j5
      rw [HT.setK_eq] at hk
      have hlive : h.live q := by unfold Hp.live; rw [hg]; simp
      have R := E.row q ty m vv hg
      obtain ⟨sz, hs, hb1, hb2, hfz⟩ := R.at_
      have hcap := hx.sl_cap
      rw [V.range_length] at hll
      cases hx with
      | slu _ _ _ _ _ hq hn hcc hm =>
        refine .inr ⟨q, { blk := (ρ q).blk, base := (ρ q).base, cap := (ρ q).cap }, n, n, n, hlive, rfl, ⟨by simp, by show n ≤ (ρ q).cap; omega, hcap, ⟨sz, hs, hb2, hfz⟩, fun i hi => ?_⟩, Nat.le_refl _, Nat.le_refl _, hk⟩
        rw [bytes_u8 l hb] at hv
        have hi2 : i < vs.length := by omega
        have h3 := hc i _ (List.getElem?_eq_getElem hi2)
        have hi3 : i < l.length := by omega
        refine ⟨UInt8.ofNat l[i], ?_⟩
        rw [Nat.add_zero] at h3
        show World.cell? w ⟨(ρ q).blk, (ρ q).base + i, none⟩ = _
        rw [h3]
        congr 1
        simp only [hv, List.getElem_map]
  case y s =>
    cases hx with
    | os => cases hk
    | iv => cases hk
    | so => cases hk
    | su q lo hi n c hq g1 g2 hf hc hm hxx =>
      have hk : ((HT.getR q h.t).onY fun o => o.on_soup fun ty => ifT (Nat.beq ty el) (HT.setK .no q h.t fun t0 => k t0 lo hi 0)) = true := hk
      rw [HT.getR_eq] at hk
      obtain ⟨o, hg, h3⟩ := OB.onY_spec hk
      obtain ⟨ty, rfl, h4⟩ := Oy.on_soup_spec h3
      obtain ⟨e1, h5⟩ := ifT_eq h4
      subst e1
      rw [HT.setK_eq] at h5
      have hlive : h.live q := by unfold Hp.live; rw [hg]; simp
      have hS := E.soup q ty hg
      obtain ⟨sz, hs, hb2, hfz⟩ := hS.at_
      rw [hc1, Nat.mul_one] at hb2
      exact .inr ⟨q, { blk := (ρ q).blk, base := (ρ q).base, cap := c }, lo, hi, n, hlive, rfl, ⟨rfl, hc, hxx, ⟨sz, hs, by rw [hc1, Nat.mul_one]; show (ρ q).base + c ≤ sz; omega, hfz⟩, fun i hi => hS.get i (by omega)⟩, g1, g2, h5⟩
theorem apS_sound (E : Emb P ρ h w B) {t u ty e : Nat} (ht : P.underlying t = some (.slice e)) (hu : (∃ f, P.underlying u = some (.slice f)) ∨ P.underlying u = some .string) (he : elemOk P e 1 = true) {x y : AV} {xv yv : Value} (hx : Rel ρ h.nx.num x xv) (hy : Rel ρ h.nx.num y yv)
    {k : AV → Hp → Bool} (hk : apS e x y h k = true) : Made P ρ h w B ((Builtin.append_ #[t, u] ty #[xv, yv]).run P w) k := by
  obtain ⟨a, b, m, news, h1, g1, g2, hnl, hlen, hfc⟩ := srcY_sound E hy hk
  have hc1 := elem1 he
  rcases dstY_sound E hc1 hx h1 with ⟨rfl, h2⟩ | ⟨q, l, c, d, n, hlive, hlb, hV, g3, g4, h2⟩
  · obtain ⟨hn1, h2⟩ := ifT_le h2
    obtain ⟨hn2, h2⟩ := ifT_le h2
    rw [natK_eq, natK_eq] at h2
    have hn2 : b + 0 ≤ 1000000 := hn2
    obtain ⟨v', w', l', hrun, hS⟩ := soup_app_nil (ty := ty) ht hu he hlen hfc hnl (by omega) (by omega)
    rw [hrun]
    exact E.soup' hS h.t (fun _ => .inr rfl) (fun r hr e1 => by have := E.blk_lt' (q := r) hr; omega) (.inl (Nat.le_refl _)) (by show a + 0 ≤ m; omega) (by show m ≤ b + 0; omega) h2
  · obtain ⟨hn1, h2⟩ := ifT_le h2
    obtain ⟨hn2, h2⟩ := ifT_le h2
    rw [natK_eq, natK_eq] at h2
    have hn2 : b + d ≤ 1000000 := hn2
    obtain ⟨v', w', l', hrun, hS⟩ := soup_app (ty := ty) ht hu he hV hlen hfc hnl (by omega)
    rw [hrun]
    exact E.soup' hS (h.t.set .no q) (HT.get_drop q h.t) (fun r hr e1 => by
      by_cases e2 : r = q
      · subst e2; rw [HT.get_set_same] at hr; exact hr rfl
      · rw [HT.get_set_ne _ _ _ _ e2] at hr
        exact e2 (E.inj r q hr hlive (e1.trans hlb))) (.inr ⟨q, hlive, hlb.symm⟩) (by show a + c ≤ n + m; omega) (by show n + m ≤ b + d; omega) h2
theorem apY_sound (E : Emb P ρ h w B) {t u ty e sz : Nat} (ht : P.underlying t = some (.slice e)) (hu : (∃ f, P.underlying u = some (.slice f)) ∨ P.underlying u = some .string) (he : elemOk P e sz = true) {x y : AV} {xv yv : Value} (hx : Rel ρ h.nx.num x xv) (hy : Rel ρ h.nx.num y yv)
    {k : AV → Hp → Bool} (hk : apY e sz x y h k = true) : Made P ρ h w B ((Builtin.append_ #[t, u] ty #[xv, yv]).run P w) k := by
  have sym : ifT (Nat.beq sz 1) (apS e x y h k) = true → Made P ρ h w B ((Builtin.append_ #[t, u] ty #[xv, yv]).run P w) k := fun h1 => by
    obtain ⟨e1, h2⟩ := ifT_eq h1
    subst e1
    exact apS_sound E ht hu he hx hy h2
  rcases AV.yK_spec hk with ⟨s, _, h1⟩ | h1
  · exact sym h1
  · rcases AV.yK_spec h1 with ⟨s, _, h2⟩ | h2
    · exact sym h2
    · exact apK_sound E ht hu he hx hy h2
end
end Go.Proofs.YtmddhlfjilkdfaaGreatDoor
namespace Go.Proofs.YtmddhlfjilkdfaaGreatDoor
set_option linter.unusedVariables false
set_option linter.unusedSimpArgs false

/-- So many elements of zero cells. -/
def repL (n sz : Nat) (zc : List AV) : List AV := (List.range (Nat.mul n sz)).map fun i => zc.getD (Nat.mod i sz) .d
noncomputable def clD (sz : Nat) (zc : List AV) (x : AV) (h : Hp) (k : Hp → Bool) : Bool :=
  AV.casesOn (motive_1 := fun _ => Bool) x false (fun _ => false) (fun _ _ => false) (fun _ _ => false) false (fun _ _ => false) (k h)
    (fun q o n _ => Bool.casesOn (motive := fun _ => Bool) (Nat.beq n 0) ((HT.getR q h.t).on fun ty m v => ifT (Nat.ble (Nat.add o (Nat.mul n sz)) m) (V.setL (repL n sz zc) v o fun v' => HT.setK (.bk ty m v') q h.t fun t' => k (.mk t' h.nx))) (k h))
    (k h) (fun _ _ _ => false) false false (fun _ => false) false (fun _ => false) (fun _ => false) (fun _ _ => false) (fun _ => false)
section
variable {P : Program} {ρ : Q → Loc} {h : Hp} {w : World} {B N : Nat}
theorem rel_rep (ρ : Q → Loc) (N n sz : Nat) (zc : Array Value) (hz : zc.size = sz) : RelL ρ N (repL n sz (zc.toList.map cv)) (Builtin.zeroCells zc n).toList := by
  subst hz
  refine RelL.of_get (by simp [repL, Builtin.zeroCells]) fun i hx hv => ?_
  have hi : i < n * zc.size := by simpa [repL] using hx
  have hpos : 0 < zc.size := by
    rcases Nat.eq_zero_or_pos zc.size with h0 | h0
    · rw [h0] at hi; omega
    · exact h0
  have hm : i % zc.size < zc.size := Nat.mod_lt _ hpos
  have e1 : (repL n zc.size (zc.toList.map cv))[i] = cv zc[i % zc.size] := by
    simp only [repL, List.getElem_map, List.getElem_range]
    show (zc.toList.map cv).getD (i % zc.size) .d = _
    rw [List.getD_eq_getElem?_getD, List.getElem?_map, Array.getElem?_toList, Array.getElem?_eq_getElem hm]
    rfl
  have e2 : (Builtin.zeroCells zc n).toList[i] = zc[i % zc.size] := by
    simp [Builtin.zeroCells, hm]
  rw [e1, e2]
  exact cv_rel _ _ _
theorem clD_sound (E : Emb P ρ h w B) {t e sz ty : Nat} (ht : P.underlying t = some (.slice e)) (he : elemOk P e sz = true) (h2 : ((P.info? e).bind (·.zero)).any (fun z => z.cells.toList.all Value.oneCell') = true) {x : AV} {u : Value} (hx : Rel ρ h.nx.num x u) {k : Hp → Bool} (hk : clD sz (zeroCs P e) x h k = true) :
    MadeU P ρ h w B (.tuple #[]) ((Builtin.clear_ #[t] ty #[u]).run P w) k := by
  obtain ⟨i, z, hi, hz, hzs, hs, hb⟩ := elemOk_spec he
  have hzz : (P.info? e).bind (·.zero) = some z := by rw [hi]; exact hz
  have hzv : (zeroValue e).run P w = .ok z w := by simp [zeroValue, typeInfo, hi, hz]
  have hzc : zeroCs P e = z.cells.toList.map cv := by unfold zeroCs; rw [hzz]
  rw [hzz] at h2
  have hz1 : ∀ v ∈ z.cells.toList, v.oneCell' = true := fun v hv => List.all_eq_true.1 (show z.cells.toList.all Value.oneCell' = true from h2) v hv
  cases x <;> first | (cases hk; done) | skip
  case ns => cases hx; exact ⟨w, h, by simp [Builtin.clear_, run_underlying ht], E, Step.refl _ _ _, hk⟩
  case se => cases hx with | se a c => exact ⟨w, h, by simp [Builtin.clear_, run_underlying ht], E, Step.refl _ _ _, hk⟩
  case sl q o n c =>
    have hk : Bool.casesOn (motive := fun _ => Bool) (Nat.beq n 0) ((HT.getR q h.t).on fun ty m v => ifT (Nat.ble (Nat.add o (Nat.mul n sz)) m) (V.setL (repL n sz (zeroCs P e)) v o fun v' => HT.setK (.bk ty m v') q h.t fun t' => k (.mk t' h.nx))) (k h) = true := hk
    have key : ∀ cap : Nat, MadeU P ρ h w B (.tuple #[]) ((Builtin.clear_ #[t] ty #[.slice (some ⟨(ρ q).blk, (ρ q).base + o, none⟩) n cap]).run P w) k := by
      intro cap
      cases hb0 : Nat.beq n 0 with
      | true =>
        rw [hb0] at hk
        have := Nat.eq_of_beq_eq_true hb0
        subst this
        exact ⟨w, h, by simp [Builtin.clear_, run_underlying ht], E, Step.refl _ _ _, hk⟩
      | false =>
        rw [hb0] at hk
        rw [HT.getR_eq] at hk
        obtain ⟨bt, m, v, hg, hk2⟩ := OB.on_spec hk
        obtain ⟨hle, hk3⟩ := ifT_le hk2
        have hle : o + n * sz ≤ m := hle
        obtain ⟨v', hk4, hin, hout⟩ := V.setL_spec _ v o _ hk3
        rw [HT.setK_eq] at hk4
        rw [hzc] at hin hout
        have hrel := rel_rep ρ h.nx.num n sz z.cells hzs
        have hlen : (repL n sz (z.cells.toList.map cv)).length = n * sz := by simp [repL]
        have R := E.row q bt m v hg
        obtain ⟨a1, a2, a3⟩ := E.write hg o hrel (fun u hu => by
          obtain ⟨j, hj, rfl⟩ := List.mem_iff_getElem.1 hu
          have hj' : j < n * z.cells.size := by simpa [Builtin.zeroCells] using hj
          have hm' : j % z.cells.size < z.cells.size := Nat.mod_lt _ (by
            rcases Nat.eq_zero_or_pos z.cells.size with h0 | h0
            · rw [h0] at hj'; omega
            · exact h0)
          have : (Builtin.zeroCells z.cells n).toList[j] = z.cells[j % z.cells.size] := by simp [Builtin.zeroCells, hm']
          rw [this]
          exact hz1 _ (by simp)) (by omega) v' hin hout m (.inl rfl) (by omega) (fun sz' hs' => by
            obtain ⟨sz'', hs'', hbb, _⟩ := R.at_
            rw [hs'] at hs''
            cases hs''
            rw [hlen]
            omega)
        have hn0 : n ≠ 0 := by
          intro h0; subst h0; cases hb0
        refine ⟨_, _, ?_, a2, a3, hk4⟩
        cases n with
        | zero => exact (hn0 rfl).elim
        | succ n => simp [Builtin.clear_, run_underlying ht, hzv, a1]
    obtain ⟨hq, ⟨cc, rfl, _, rfl⟩ | ⟨d, b, rfl, _, _, rfl⟩⟩ := hx.sl_inv
    · exact key _
    · exact key _
end

/-! What a function means. -/
abbrev FS := List AV → Hp → (AV → Hp → Bool) → Bool
/-- What a call leaves. -/
def Left (P : Program) (ρ : Q → Loc) (h : Hp) (w : World) (B : Nat) (k : AV → Hp → Bool) : Ending → World → Prop
  | .returned v, w' => ∃ ρ' h' y, Emb P ρ' h' w' B ∧ Step ρ h w ρ' h' w' ∧ Rel ρ' h'.nx.num y v ∧ k y h' = true
  | _, _ => False
structure SoundF (P : Program) (f : FuncId) (s : FS) : Prop where
  enter : ∀ (args : Array Value) (w : World), (callFunc f args).run P w = .ok (.enter f args) w
  det : ∀ args h, Det2 (s args h)
  sound : ∀ (ρ : Q → Loc) (h : Hp) (w : World) (B : Nat) (args : List AV) (vals : List Value) (k : AV → Hp → Bool), Emb P ρ h w B → RelL ρ h.nx.num args vals → s args h k = true → Calls P f vals.toArray w (Left P ρ h w B k)
/-- The functions that a function calls. -/
abbrev Tbl := List (Nat × FS)
noncomputable abbrev Tbl.get (T : Tbl) (f : Nat) (args : List AV) (h : Hp) (k : AV → Hp → Bool) : Bool :=
  List.rec (motive := fun _ => Bool) false (fun e _ ih => Bool.casesOn (motive := fun _ => Bool) (Nat.beq e.1 f) ih (e.2 args h k)) T
def SoundT (P : Program) (T : Tbl) : Prop := ∀ e ∈ T, SoundF P e.1 e.2
theorem SoundT.nil {P : Program} : SoundT P [] := fun _ h => by cases h
theorem SoundT.cons {P : Program} {f : Nat} {s : FS} {T : Tbl} (h : SoundF P f s) (t : SoundT P T) : SoundT P ((f, s) :: T) := fun e he => by
  rcases List.mem_cons.1 he with rfl | he
  · exact h
  · exact t e he
theorem Tbl.get_spec {P : Program} : ∀ {T : Tbl} {f : Nat} {args : List AV} {h : Hp} {k : AV → Hp → Bool}, SoundT P T → T.get f args h k = true → ∃ s, SoundF P f s ∧ s args h k = true
  | [], _, _, _, _, _, hk => by cases hk
  | e :: T, f, args, h, k, hT, hk => by
    have hk : Bool.casesOn (motive := fun _ => Bool) (Nat.beq e.1 f) (Tbl.get T f args h k) (e.2 args h k) = true := hk
    cases hb : Nat.beq e.1 f with
    | true =>
      rw [hb] at hk
      have := Nat.eq_of_beq_eq_true hb
      subst this
      exact ⟨e.2, hT e (by simp), hk⟩
    | false =>
      rw [hb] at hk
      exact Tbl.get_spec (fun e' he' => hT e' (List.mem_cons_of_mem _ he')) hk
theorem Tbl.get_det {P : Program} : ∀ {T : Tbl}, SoundT P T → ∀ (f : Nat) (args : List AV) (h : Hp), Det2 (T.get f args h)
  | [], _, _, _, _ => Det2.fail
  | e :: T, hT, f, args, h => by
    show Det2 fun k => Bool.casesOn (motive := fun _ => Bool) (Nat.beq e.1 f) (Tbl.get T f args h k) (e.2 args h k)
    cases Nat.beq e.1 f with
    | true => exact (hT e (by simp)).det args h
    | false => exact Tbl.get_det (fun e' he' => hT e' (List.mem_cons_of_mem _ he')) f args h
end Go.Proofs.YtmddhlfjilkdfaaGreatDoor
namespace Go.Proofs.YtmddhlfjilkdfaaGreatDoor
set_option linter.unusedVariables false
set_option linter.unusedSimpArgs false

abbrev szOf (P : Program) (e : TypeId) : Option Nat := (P.info? e).map (·.size)
theorem szOf_spec {P : Program} {e sz : Nat} (h : szOf P e = some sz) (w : World) : (sizeOf e).run P w = .ok sz w := by
  unfold szOf at h
  cases hi : P.info? e with
  | none => rw [hi] at h; cases h
  | some i => rw [hi] at h; cases h; simp [sizeOf, typeInfo, hi]
/-- A slice of a text; of a slice. -/
noncomputable def slsK (lo hi mx : Option AV) (x : AV) (k : AV → Bool) : Bool := x.on_s fun n l => slK 0 lo hi mx (.s n l) k
noncomputable def sllK (sz : Nat) (lo hi mx : Option AV) (x : AV) (k : AV → Bool) : Bool := nilS x fun _ => slK sz lo hi mx x k
/-- A literal of a struct, an array. -/
noncomputable def blK (ps : List (Nat × Nat × AV)) (z : List AV) (k : AV → Bool) : Bool := bldK ps z fun cs => k (.a cs)
def plc (P : Program) (t m : Nat) (f : Operand → AV) : List (Nat × Operand) → Option (List (Nat × Nat × AV))
  | [] => some []
  | (i, x) :: ps => match placesOf P t i with
    | some (off, sz) => match Nat.ble (Nat.add off sz) m with
      | true => match plc P t m f ps with
        | some l => some ((off, sz, f x) :: l)
        | none => none
      | false => none
    | none => none
/-- Two values, by their type. -/
noncomputable abbrev bopD (P : Program) (op : BinOp) (t : TypeId) (xo yo : Operand) (x y : AV) (k : AV → Bool) : Bool :=
  match op with
  | .shl | .shr => shkK op x y k
  | _ => match P.underlying t with
    | some (.int _) => ikY op x y k
    | some .string => stY op x y k
    | some .bool => bbK op x y k
    | some (.pointer _) => npK op x y k
    | some (.slice _) => nsK op x y k
    | some (.interface _) => match isC xo || isC yo with
      | true => niK op x y k
      | false => false
    | some (.struct _) => match P.eqGuardType P.depth t with
      | true => false
      | false => x.on_a fun xs => y.on_a fun ys => sqK P op t (.a xs) (.a ys) k
    | _ => false
noncomputable abbrev cnvD (P : Program) (s t : TypeId) (x : AV) (h : Hp) (k : AV → Bool) : Bool :=
  match P.underlying s, P.underlying t with
  | some (.int _), some (.int d) => ciY d x k
  | some .string, some .string => csY x k
  | some (.slice e), some .string => match P.underlying e with
    | some (.int .u8) => cbY x h k
    | _ => false
  | _, _ => false
noncomputable abbrev bltD (P : Program) (b : Builtin) (ts : List TypeId) (args : List AV) (h : Hp) (k : AV → Bool) : Bool :=
  match b, ts, args with
  | .len, [t], [x] => match P.underlying t with
    | some .string => lnSY x k
    | some (.slice _) => lnLY x k
    | some (.map _ _) => lnM x h k
    | _ => false
  | .min, _, x :: ys => mmL mnK ys x k
  | .max, _, x :: ys => mmL mxK ys x k
  | _, _, _ => false
noncomputable abbrev lightD (P : Program) (op : Op) (f : Operand → AV) (h : Hp) (k : AV → Bool) : Bool :=
  match op with
  | .move x | .assign x => k (f x)
  | .pick c a b => pkK (f c) (f a) (f b) k
  | .load t a => match aggOf P t with
    | some (true, n) => ldN n (f a) h k
    | some (false, _) => ld1 (f a) h k
    | none => false
  | .nilCheck x => ncK (f x) k
  | .binOp op t x y _ => bopD P op t x y (f x) (f y) k
  | .unOp op _ x => match op with
    | .not => notK (f x) k
    | .neg => negK (f x) k
    | .xor => cplK (f x) k
    | .plus => false
  | .convert s t x => cnvD P s t (f x) h k
  | .makeInterface t x => match notI P t with
    | true => k (.e t (f x))
    | false => false
  | .makeFunc (.func n) first captured => k (.f n (first.toList.map f) (captured.toList.map f))
  | .build t parts => match bldOk P t with
    | true => match plc P t (zeroCs P t).length f parts.toList with
      | some ps => blK ps (zeroCs P t) k
      | none => false
    | false => false
  | .slice t x lo hi mx => match P.underlying t with
    | some .string => slsK (lo.map f) (hi.map f) (mx.map f) (f x) k
    | some (.slice e) => match szOf P e with
      | some sz => sllK sz (lo.map f) (hi.map f) (mx.map f) (f x) k
      | none => false
    | some (.array n e) => match szOf P e, mx with
      | some sz, none => sapK n sz (lo.map f) (hi.map f) (f x) k
      | _, _ => false
    | _ => false
  | .fieldAddr s x i => match faOf P s i with
    | some off => faK off (f x) k
    | none => false
  | .field s x i => match fdOf P s i with
    | some (off, g, n) => fdK off g n (f x) k
    | none => false
  | .indexAddr t x i => match P.underlying t with
    | some (.slice e) => match szOf P e with
      | some sz => iaK sz (f x) (f i) k
      | none => false
    | some (.array n e) => match szOf P e with
      | some sz => iapK n sz (f x) (f i) k
      | none => false
    | _ => false
  | .index t x i => match P.underlying t with
    | some .string => ixK (f x) (f i) k
    | _ => false
  | .lookup t m x ok => match mapOf P t with
    | some (kt, et) => match kdOf P kt, (P.info? et).bind (·.zero) with
      | some str, some _ => lkK str ok (zeroOf P et) (f m) (f x) h k
      | _, _ => false
    | none => false
  | .typeAssert x _ asL ok => match notI P asL, (P.info? asL).bind (·.zero), ok with
    | true, some _, true => taK asL (zeroOf P asL) (f x) k
    | _, _, _ => false
  | .extract x i => exK (f x) i k
  | .call c => match c.callee with
    | .builtin b => bltD P b c.argTypes.toList (c.args.toList.map f) h k
    | _ => false
  | _ => false
section
variable {P : Program} {ρ : Q → Loc} {h : Hp} {w : World} {B N : Nat}
/-- An operation's value, the world as it was. -/
def PureN (P : Program) (ρ : Q → Loc) (N : Nat) (w : World) (s : Sem Next) (k : AV → Bool) : Prop := ∃ y v, s.run P w = .ok (.value v) w ∧ Rel ρ N y v ∧ k y = true
theorem PureN.of1 {s : Sem Value} {k : AV → Bool} (hh : Pure1 ρ N w (s.run P w) k) : PureN P ρ N w (do pure (.value (← s))) k := by
  obtain ⟨y, v, h1, h2, h3⟩ := hh
  exact ⟨y, v, by simp [h1], h2, h3⟩
theorem relL_map {f : Operand → AV} {g : Operand → Value} : ∀ (l : List Operand), (∀ x ∈ l, Rel ρ N (f x) (g x)) → RelL ρ N (l.map f) (l.map g)
  | [], _ => .nil
  | x :: l, hh => .cons _ _ _ _ (hh x (by simp)) (relL_map l fun y hy => hh y (List.mem_cons_of_mem _ hy))
theorem relO_map {f : Operand → AV} {g : Operand → Value} : ∀ (o : Option Operand), (∀ x, o = some x → Rel ρ N (f x) (g x)) → RelO ρ N (o.map f) (o.map g)
  | none, _ => .none
  | some x, hh => .some _ _ (hh x rfl)
theorem rel_int_plain {x : AV} {v : Value} (hx : Rel ρ N x v) {kf : IntKind → Nat → Bool} (hk : x.on_i kf = true) : ∃ kd n, v = .int kd n := by
  obtain ⟨kd, a, rfl, _⟩ := AV.on_i_spec hk
  cases hx
  exact ⟨_, _, rfl⟩
theorem bopD_sound {op : BinOp} {t : TypeId} {xo yo : Operand} {x y : AV} {u v : Value} (hx : Rel ρ N x u) (hy : Rel ρ N y v) {k : AV → Bool} (hk : bopD P op t xo yo x y k = true) (w : World) : Pure1 ρ N w ((do eqGuard op t xo yo u v; binOp op t u v : Sem Value).run P w) k := by
  have lift : (eqGuard op t xo yo u v).run P w = .ok () w → Pure1 ρ N w ((binOp op t u v).run P w) k → Pure1 ρ N w ((do eqGuard op t xo yo u v; binOp op t u v : Sem Value).run P w) k := fun h1 h2 => by
    simpa only [Sem.run_bind, h1, Result.andThen_ok] using h2
  have plain : (∀ cs, u ≠ .agg cs) → u ≠ .nilIface → Pure1 ρ N w ((binOp op t u v).run P w) k → Pure1 ρ N w ((do eqGuard op t xo yo u v; binOp op t u v : Sem Value).run P w) k := fun h1 h2 h3 =>
    lift (eqGuard_plain op t xo yo u v (.inl h2) h1 w) h3
  have sh : shkK op x y k = true → Pure1 ρ N w ((do eqGuard op t xo yo u v; binOp op t u v : Sem Value).run P w) k := fun hk => by
    obtain ⟨kd, n, hu⟩ := rel_int_plain hx (show x.on_i _ = true from hk)
    exact plain (fun cs e => by rw [hu] at e; cases e) (fun e => by rw [hu] at e; cases e) (shkK_sound hx hy hk t w)
  have rest : (match P.underlying t with
    | some (.int _) => ikY op x y k
    | some .string => stY op x y k
    | some .bool => bbK op x y k
    | some (.pointer _) => npK op x y k
    | some (.slice _) => nsK op x y k
    | some (.interface _) => match isC xo || isC yo with
      | true => niK op x y k
      | false => false
    | some (.struct _) => match P.eqGuardType P.depth t with
      | true => false
      | false => x.on_a fun xs => y.on_a fun ys => sqK P op t (.a xs) (.a ys) k
    | _ => false) = true → Pure1 ρ N w ((do eqGuard op t xo yo u v; binOp op t u v : Sem Value).run P w) k := fun hk => by
    split at hk
    · obtain ⟨kd, n, hu⟩ := ikY_int hx hk
      exact plain (fun cs e => by rw [hu] at e; cases e) (fun e => by rw [hu] at e; cases e) (ikY_sound hx hy hk t w)
    · obtain ⟨s, hu⟩ := stY_str hx hk
      exact plain (fun cs e => by rw [hu] at e; cases e) (fun e => by rw [hu] at e; cases e) (stY_sound hx hy hk t w)
    · rename_i ht
      have hu : ∃ s, u = .bool s := by
        obtain ⟨_, rfl, _⟩ := AV.on_b_spec (show x.on_b _ = true from hk)
        cases hx
        exact ⟨_, rfl⟩
      obtain ⟨s, hu⟩ := hu
      exact plain (fun cs e => by rw [hu] at e; cases e) (fun e => by rw [hu] at e; cases e) (bbK_sound hx hy hk ht w)
    · rename_i e ht
      refine plain (fun cs e => ?_) (fun e => ?_) (npK_sound hx hy hk ht) <;> (subst e; cases hx <;> cases hk)
    · rename_i e ht
      refine plain (fun cs e => ?_) (fun e => ?_) (nsK_sound hx hy hk ht) <;> (subst e; cases hx <;> cases hk)
    · rename_i ms ht
      split at hk
      · rename_i hc
        refine lift (eqGuard_plain op t xo yo u v (.inr (by simpa using hc)) (fun cs e => ?_) w) (niK_sound hx hy hk ht w)
        subst e; cases hx <;> cases hk
      · cases hk
    · rename_i fs ht
      split at hk
      · cases hk
      · rename_i hg
        obtain ⟨xs, rfl, hk2⟩ := AV.on_a_spec hk
        obtain ⟨ys, rfl, hk3⟩ := AV.on_a_spec hk2
        have hu : ∃ cs, u = .agg cs := by cases hx; exact ⟨_, rfl⟩
        have hv : ∃ cs, v = .agg cs := by cases hy; exact ⟨_, rfl⟩
        obtain ⟨cs, hu⟩ := hu
        obtain ⟨ds, hv⟩ := hv
        refine lift ?_ (sqK_sound hx hy hk3 ⟨cs, ds, hu, hv⟩ w)
        rw [hu, hv]
        exact run_eqGuard_agg w op t xo yo cs ds hg
    · cases hk
  cases op
  case shl => exact sh hk
  case shr => exact sh hk
  all_goals exact rest hk
theorem cnvD_sound (E : Emb P ρ h w B) {s t : TypeId} {x : AV} {u : Value} (hx : Rel ρ h.nx.num x u) {k : AV → Bool} (hk : cnvD P s t x h k = true) : Pure1 ρ h.nx.num w ((convert s t u).run P w) k := by
  unfold cnvD at hk
  split at hk
  · rename_i h1 h2; exact ciY_sound h1 h2 hx hk w
  · rename_i h1 h2; exact csY_sound h1 h2 hx hk w
  · rename_i e h1 h2
    split at hk
    · rename_i h3; exact cbY_sound E h1 h3 h2 hx hk
    · cases hk
  · cases hk
theorem bltD_sound (E : Emb P ρ h w B) {b : Builtin} {ts : List TypeId} {args : List AV} {vals : List Value} (ha : RelL ρ h.nx.num args vals) {k : AV → Bool} (hk : bltD P b ts args h k = true) (type : TypeId) :
    ∃ y v, (∀ cs : Array Bool, (builtin b ts.toArray type cs vals.toArray).run P w = .ok (.value v) w) ∧ Rel ρ h.nx.num y v ∧ k y = true := by
  have lift : ∀ {s : Sem Value}, (∀ cs : Array Bool, builtin b ts.toArray type cs vals.toArray = (do pure (.value (← s)) : Sem Next)) → Pure1 ρ h.nx.num w (s.run P w) k → ∃ y v, (∀ cs : Array Bool, (builtin b ts.toArray type cs vals.toArray).run P w = .ok (.value v) w) ∧ Rel ρ h.nx.num y v ∧ k y = true := fun he hh => by
    obtain ⟨y, v, h1, h2, h3⟩ := PureN.of1 hh
    exact ⟨y, v, fun cs => by rw [he cs]; exact h1, h2, h3⟩
  unfold bltD at hk
  split at hk
  · rename_i t x
    cases ha with
    | cons _ v _ vs hx t1 =>
      cases t1
      split at hk
      · rename_i ht; exact lift (fun _ => rfl) (lnSY_sound ht hx hk w)
      · rename_i ht; exact lift (fun _ => rfl) (lnLY_sound ht hx hk w)
      · rename_i kt et ht; exact lift (fun _ => rfl) (lnM_sound E (by unfold mapOf; rw [ht]) hx hk)
      · cases hk
  · rename_i x ys
    cases ha with
    | cons _ v _ vs hx t1 =>
      have := mmL_sound (P := P) (g := Builtin.min2) w (fun a b c => mn2_sound a b c w) t1 hx hk
      exact lift (fun _ => rfl) this
  · rename_i x ys
    cases ha with
    | cons _ v _ vs hx t1 =>
      have := mmL_sound (P := P) (g := Builtin.max2) w (fun a b c => mx2_sound a b c w) t1 hx hk
      exact lift (fun _ => rfl) this
  · cases hk
theorem plc_parts {t m : Nat} {f : Operand → AV} {g : Operand → Value} : ∀ {l : List (Nat × Operand)} {ps : List (Nat × Nat × AV)}, (∀ x ∈ l.map (·.2), Rel ρ N (f x) (g x)) → plc P t m f l = some ps → PartsR ρ N m (placesOf P t) ps (l.map fun (i, x) => (i, g x))
  | [], ps, _, hp => by cases hp; exact .nil
  | (i, x) :: l, ps, hh, hp => by
    unfold plc at hp
    split at hp
    · rename_i off sz hpl
      split at hp
      · rename_i hle
        split at hp
        · rename_i l' hl
          cases hp
          exact .cons i off sz _ _ _ _ hpl (Nat.le_of_ble_eq_true hle) (hh x (by simp)) (plc_parts (fun y hy => hh y (List.mem_cons_of_mem _ hy)) hl)
        · cases hp
      · cases hp
    · cases hp
theorem slsK_sound {t : TypeId} (ht : P.underlying t = some .string) {x : AV} {u : Value} {lo hi mx : Option AV} {lov hiv mxv : Option Value} (hx : Rel ρ N x u) (hlo : RelO ρ N lo lov) (hhi : RelO ρ N hi hiv) (hmx : RelO ρ N mx mxv) {k : AV → Bool} (hk : slsK lo hi mx x k = true) (w : World) : Pure1 ρ N w ((Instr.sliceAt t u lov hiv mxv).run P w) k := by
  obtain ⟨n, l, rfl, hk2⟩ := AV.on_s_spec hk
  refine slK_sound (.inl ht) hx hlo hhi hmx hk2 ⟨fun _ => ht, fun _ => ?_⟩ w
  cases hx
  exact ⟨_, rfl⟩
theorem sllK_sound {t e sz : TypeId} (ht : P.underlying t = some (.slice e)) (hs : szOf P e = some sz) {x : AV} {u : Value} {lo hi mx : Option AV} {lov hiv mxv : Option Value} (hx : Rel ρ N x u) (hlo : RelO ρ N lo lov) (hhi : RelO ρ N hi hiv) (hmx : RelO ρ N mx mxv) {k : AV → Bool} (hk : sllK sz lo hi mx x k = true) (w : World) : Pure1 ρ N w ((Instr.sliceAt t u lov hiv mxv).run P w) k := by
  have hk2 : slK sz lo hi mx x k = true := by
    cases x <;> first | (cases hk; done) | exact hk | (rename_i s; cases s <;> first | (cases hk; done) | exact hk)
  refine slK_sound (.inr ⟨e, ht, szOf_spec hs⟩) hx hlo hhi hmx hk2 ⟨fun ⟨s, hs⟩ => ?_, fun e => by rw [ht] at e; cases e⟩ w
  subst hs
  cases hx <;> cases hk
theorem lightD_sound (E : Emb P ρ h w B) (o : Oper) {f : Operand → AV} {g : Operand → Value} (hfg : ∀ x ∈ o.op.operands, Rel ρ h.nx.num (f x) (g x)) {k : AV → Bool} (hk : lightD P o.op f h k = true) : PureN P ρ h.nx.num w (execOp g o) k := by
  obtain ⟨dst, op, type, pos, after, guard⟩ := o
  cases op <;> (try (cases hk; done))
  case move x => exact ⟨_, g x, rfl, hfg x (by simp [Op.operands]), hk⟩
  case assign x => exact ⟨_, g x, rfl, hfg x (by simp [Op.operands]), hk⟩
  case pick c a b =>
    obtain ⟨x, h1, y, h2, h3⟩ := pkK_sound (P := P) (hfg c (by simp [Op.operands])) (hfg a (by simp [Op.operands])) (hfg b (by simp [Op.operands])) hk w
    exact ⟨y, _, by simp [execOp, h1], h2, h3⟩
  case build t parts =>
    simp only [lightD] at hk
    split at hk
    · rename_i hok
      split at hk
      · rename_i ps hps
        refine PureN.of1 (build_sound hok (parts := parts.map fun (i, x) => (i, g x)) rfl ?_ hk w)
        have := plc_parts (ρ := ρ) (N := h.nx.num) (g := g) (l := parts.toList) (fun x hx => hfg x (by simpa [Op.operands] using hx)) hps
        rw [Array.toList_map]
        exact this
      · cases hk
    · cases hk
  case load t a =>
    simp only [lightD] at hk
    split at hk
    · rename_i n ha; exact PureN.of1 (ldN_sound E ha (hfg a (by simp [Op.operands])) hk)
    · rename_i n ha; exact PureN.of1 (ld1_sound E ha (hfg a (by simp [Op.operands])) hk)
    · cases hk
  case nilCheck x =>
    obtain ⟨a, y, h1, h2, h3⟩ := ncK_sound (hfg x (by simp [Op.operands])) hk
    exact ⟨y, g x, by simp [execOp, h1], h2, h3⟩
  case binOp op t x y yt => exact PureN.of1 (bopD_sound (hfg x (by simp [Op.operands])) (hfg y (by simp [Op.operands])) hk w)
  case unOp op t x =>
    cases op
    case neg => exact PureN.of1 (negK_sound (hfg x (by simp [Op.operands])) hk w)
    case xor => exact PureN.of1 (cplK_sound (hfg x (by simp [Op.operands])) hk w)
    case not => exact PureN.of1 (notK_sound (hfg x (by simp [Op.operands])) hk w)
    case plus => cases hk
  case convert s t x => exact PureN.of1 (cnvD_sound E (hfg x (by simp [Op.operands])) hk)
  case makeInterface t x =>
    simp only [lightD] at hk
    split at hk
    · rename_i hn; exact PureN.of1 ⟨_, .iface t (g x), mi_sound hn (g x) w, .e _ _ _ (hfg x (by simp [Op.operands])), hk⟩
    · cases hk
  case makeFunc fn first captured =>
    cases fn <;> (try (cases hk; done))
    case func n =>
      refine PureN.of1 ⟨_, .func (.func n) (first.map g) (captured.map g), rfl, ?_, hk⟩
      have := Rel.f (ρ := ρ) (N := h.nx.num) n _ _ _ _ (relL_map (g := g) first.toList fun x hx => hfg x (by simp only [Op.operands, Array.mem_append]; exact .inl (by simpa using hx))) (relL_map (g := g) captured.toList fun x hx => hfg x (by simp only [Op.operands, Array.mem_append]; exact .inr (by simpa using hx)))
      have e1 : ∀ l : Array Operand, (l.toList.map g).toArray = l.map g := fun l => by apply Array.ext'; simp
      rwa [e1, e1] at this
  case slice t x lo hi mx =>
    have hO : ∀ z, (z = x ∨ lo = some z ∨ hi = some z ∨ mx = some z) → Rel ρ h.nx.num (f z) (g z) := fun z hz => hfg z (by
      simp only [Op.operands, Array.mem_append]
      rcases hz with rfl | rfl | rfl | rfl <;> simp)
    simp only [lightD] at hk
    split at hk
    · rename_i ht; exact PureN.of1 (slsK_sound ht (hO x (.inl rfl)) (relO_map lo fun z hz => hO z (.inr (.inl hz))) (relO_map hi fun z hz => hO z (.inr (.inr (.inl hz)))) (relO_map mx fun z hz => hO z (.inr (.inr (.inr hz)))) hk w)
    · rename_i e ht
      split at hk
      · rename_i sz hs; exact PureN.of1 (sllK_sound ht hs (hO x (.inl rfl)) (relO_map lo fun z hz => hO z (.inr (.inl hz))) (relO_map hi fun z hz => hO z (.inr (.inr (.inl hz)))) (relO_map mx fun z hz => hO z (.inr (.inr (.inr hz)))) hk w)
      · cases hk
    · rename_i n e ht
      split at hk
      · rename_i sz hs; exact PureN.of1 (sapK_sound ht (szOf_spec hs) (hO x (.inl rfl)) (relO_map lo fun z hz => hO z (.inr (.inl hz))) (relO_map hi fun z hz => hO z (.inr (.inr (.inl hz)))) hk w)
      · cases hk
    · cases hk
  case fieldAddr s x i =>
    simp only [lightD] at hk
    split at hk
    · rename_i off hs; exact PureN.of1 (faK_sound hs (hfg x (by simp [Op.operands])) hk w)
    · cases hk
  case field s x i =>
    simp only [lightD] at hk
    split at hk
    · rename_i off g' n hs; exact PureN.of1 (fdK_sound hs (hfg x (by simp [Op.operands])) hk w)
    · cases hk
  case indexAddr t x i =>
    simp only [lightD] at hk
    split at hk
    · rename_i e ht
      split at hk
      · rename_i sz hs; exact PureN.of1 (iaK_sound ht (szOf_spec hs) (hfg x (by simp [Op.operands])) (hfg i (by simp [Op.operands])) hk w)
      · cases hk
    · rename_i n e ht
      split at hk
      · rename_i sz hs; exact PureN.of1 (iapK_sound ht (szOf_spec hs) (hfg x (by simp [Op.operands])) (hfg i (by simp [Op.operands])) hk w)
      · cases hk
    · cases hk
  case index t x i =>
    simp only [lightD] at hk
    split at hk
    · rename_i ht; exact PureN.of1 (ixK_sound ht (hfg x (by simp [Op.operands])) (hfg i (by simp [Op.operands])) hk w)
    · cases hk
  case lookup t m x ok =>
    simp only [lightD] at hk
    split at hk
    · rename_i kt et ht
      split at hk
      · rename_i str z hs hz; exact PureN.of1 (lkK_sound E ht hs hz (hfg m (by simp [Op.operands])) (hfg x (by simp [Op.operands])) hk)
      · cases hk
    · cases hk
  case typeAssert x xt asL ok =>
    simp only [lightD] at hk
    split at hk
    · rename_i z hn hz; exact PureN.of1 (taK_sound hn hz (hfg x (by simp [Op.operands])) hk w)
    · cases hk
  case extract x i => exact PureN.of1 (exK_sound (hfg x (by simp [Op.operands])) hk w)
  case call c =>
    obtain ⟨callee, args, argTypes⟩ := c
    simp only [lightD] at hk
    split at hk
    · rename_i b
      have ha : RelL ρ h.nx.num (args.toList.map f) (args.toList.map g) := relL_map _ fun x hx => hfg x (by simp [Op.operands, Call.operands]; simpa using hx)
      obtain ⟨y, v, h1, h2, h3⟩ := bltD_sound E ha hk type
      refine ⟨y, v, ?_, h2, h3⟩
      have e1 : (args.toList.map g).toArray = args.map g := by apply Array.ext'; simp
      simp only [Array.toArray_toList] at h1
      rw [e1] at h1
      simp only [execOp, resolve, invoke, Sem.run_bind, Sem.run_pure, Result.andThen_ok]
      exact h1 _
    · cases hk
end
end Go.Proofs.YtmddhlfjilkdfaaGreatDoor
namespace Go.Proofs.YtmddhlfjilkdfaaGreatDoor
set_option linter.unusedVariables false
set_option linter.unusedSimpArgs false

def dense : Nat → List (Nat × Operand) → Bool
  | _, [] => true
  | i, (j, _) :: l => match Nat.beq j i with
    | true => dense (Nat.succ i) l
    | false => false
def u8Of (P : Program) (e : TypeId) : Bool := match P.underlying e, Nat.beq (P.cellsOf e) 1 with
  | some (.int .u8), true => true
  | _, _ => false
def sliceOf (P : Program) (t : TypeId) : Option TypeId := match P.underlying t with
  | some (.slice e) => some e
  | _ => none
theorem sliceOf_spec {P : Program} {t e : TypeId} (h : sliceOf P t = some e) : P.underlying t = some (.slice e) := by
  unfold sliceOf at h
  split at h
  · cases h; assumption
  · cases h
def isStr (P : Program) (t : TypeId) : Bool := match P.underlying t with
  | some .string => true
  | _ => false
theorem isStr_spec {P : Program} {t : TypeId} (h : isStr P t = true) : P.underlying t = some .string := by
  unfold isStr at h
  split at h
  · assumption
  · cases h
def isSeq (P : Program) (t : TypeId) : Bool := match P.underlying t with
  | some .string => true
  | some (.slice _) => true
  | _ => false
theorem isSeq_spec {P : Program} {t : TypeId} (h : isSeq P t = true) : (∃ f, P.underlying t = some (.slice f)) ∨ P.underlying t = some .string := by
  unfold isSeq at h
  split at h
  · exact .inr (by assumption)
  · exact .inl ⟨_, by assumption⟩
  · cases h
/-- A type's method of this name, of the value itself. -/
def methOk (P : Program) (name : String) (tf : Nat × Nat) : Bool := match P.info? tf.1 with
  | some i => match i.methods.find? (·.name == name) with
    | some m => m.path.isEmpty && (m.func == some (tf.2, false)) && (match P.underlying tf.1 with
      | some (.pointer _) => false
      | some _ => true
      | none => false)
    | none => false
  | none => false
noncomputable def ivK (M : List (Nat × Nat)) (T : Tbl) (x : AV) (args : List AV) (h : Hp) (k : AV → Hp → Bool) : Bool :=
  x.on_e fun t v => List.rec (motive := fun _ => Bool) false (fun m _ ih => Bool.casesOn (motive := fun _ => Bool) (Nat.beq m.1 t) ih (T.get m.2 (v :: args) h k)) M
noncomputable def clK (T : Tbl) (x : AV) (args : List AV) (h : Hp) (k : AV → Hp → Bool) : Bool :=
  x.on_f fun n fs cs => T.get n (List.append fs (List.append args cs)) h k
noncomputable abbrev callD (P : Program) (T : Tbl) (M : List (Nat × Nat)) (callee : Callee) (ts : List TypeId) (args : List AV) (f : Operand → AV) (h : Hp) (k : AV → Hp → Bool) : Bool :=
  match callee with
  | .builtin b => match b, ts, args with
    | .append, [t, u], [x, y] => match sliceOf P t with
      | some e => match szOf P e with
        | some sz => match elemOk P e sz && isSeq P u with
          | true => apY e sz x y h k
          | false => false
        | none => false
      | none => false
    | .clear, [t], [x] => match sliceOf P t with
      | some e => match szOf P e with
        | some sz => match elemOk P e sz && ((P.info? e).bind (·.zero)).any (fun z => z.cells.toList.all Value.oneCell') with
          | true => clD sz (zeroCs P e) x h (fun h' => k (.t []) h')
          | false => false
        | none => false
      | none => false
    | .delete, [t, _], [m, x] => match mapOf P t with
      | some (kt, _) => match kdOf P kt with
        | some str => mdD str m x h (fun h' => k (.t []) h')
        | none => false
      | none => false
    | _, _, _ => false
  | .value (.func n) => T.get n args h k
  | .value v => clK T (f v) args h k
  | .invoke r name => match M.all (methOk P name) with
    | true => ivK M T (f r) args h k
    | false => false
noncomputable abbrev heavyD (P : Program) (T : Tbl) (M : List (Nat × Nat)) (op : Op) (f : Operand → AV) (h : Hp) (k : AV → Hp → Bool) : Bool :=
  match op with
  | .store t a x => match aggOf P t with
    | some (_, n) => stL n (f a) (f x) h (fun h' => k (.t []) h')
    | none => false
  | .alloc t => match (P.info? t).bind (·.zero) with
    | some _ => boxK t (P.cellsOf t) (zeroOf P t) h k
    | none => false
  | .box t x => boxK t (P.cellsOf t) (f x) h k
  | .buildSlice t n parts => match sliceOf P t with
    | some e => match szOf P e with
      | some sz => match elemOk P e sz && dense 0 parts.toList && Nat.beq parts.toList.length n && Nat.ble (Nat.mul n sz) 1000000 with
        | true => bsK e sz n (Nat.mul n sz) (parts.toList.map fun p => f p.2) h k
        | false => false
      | none => false
    | none => false
  | .convert s t x => match isStr P s, sliceOf P t with
    | true, some e => match u8Of P e with
      | true => sb2Y e (f x) h k
      | false => false
    | _, _ => false
  | .makeMap _ none => mmD h k
  | .mapUpdate t m x z | .insert t m x z => match mapOf P t with
    | some (kt, _) => match kdOf P kt with
      | some str => muD str (f m) (f x) (f z) h (fun h' => k (.t []) h')
      | none => false
    | none => false
  | .range t x => match isStr P t with
    | true => rsD (f x) h k
    | false => false
  | .next x true => nsD (f x) h k
  | .call c => callD P T M c.callee c.argTypes.toList (c.args.toList.map f) f h k
  | _ => false
section
variable {P : Program} {ρ : Q → Loc} {h : Hp} {w : World} {B : Nat} {o : Oper} {a : Act} {next : Act → World → Prop} {QQ : Exit → Act → World → Prop}
theorem wp_of_value {v : Value} {w' : World} (h1 : (execOp a.eval o).run P w = .ok (.value v) w') (h2 : next (a.put o.dst v) w') : o.wp P a w next QQ := by
  unfold Oper.wp
  rw [h1]
  exact h2
theorem wp_of_skip {w' : World} (h1 : (execOp a.eval o).run P w = .ok .skip w') (h2 : next (a.put o.dst undef) w') : o.wp P a w next QQ := by
  unfold Oper.wp
  rw [h1]
  exact h2
/-- What is to be shown of an operation's end. -/
def Nx (P : Program) (ρ : Q → Loc) (h : Hp) (w : World) (B : Nat) (o : Oper) (a : Act) (next : Act → World → Prop) (k : AV → Hp → Bool) : Prop :=
  ∀ y v w' ρ' h', Emb P ρ' h' w' B → Step ρ h w ρ' h' w' → Rel ρ' h'.nx.num y v → k y h' = true → next (a.put o.dst v) w'
theorem wp_of_made {s : Sem Value} (he : execOp a.eval o = (do pure (.value (← s)) : Sem Next)) {k : AV → Hp → Bool} (hm : Made P ρ h w B (s.run P w) k) (H : Nx P ρ h w B o a next k) : o.wp P a w next QQ := by
  obtain ⟨y, v, w', ρ', h', h1, h2, h3, h4, h5⟩ := hm
  exact wp_of_value (by rw [he]; simp [h1]) (H y v w' ρ' h' h2 h3 h4 h5)
theorem rel_unit (ρ : Q → Loc) (N : Nat) : Rel ρ N (.t []) (.tuple #[]) := .t [] [] .nil
theorem wp_of_unit {s : Sem Unit} (he : execOp a.eval o = (do s; pure .skip : Sem Next)) {k : AV → Hp → Bool} (hm : MadeU P ρ h w B () (s.run P w) (fun h' => k (.t []) h')) (H : Nx P ρ h w B o a next k) : o.wp P a w next QQ := by
  obtain ⟨w', h', h1, h2, h3, h4⟩ := hm
  exact wp_of_skip (by rw [he]; simp [h1]) (H _ _ w' ρ h' h2 h3 (rel_unit _ _) h4)
theorem wp_of_calls {f : FuncId} {s : FS} (hf : SoundF P f s) {args : List AV} {vals : List Value} (he : (execOp a.eval o).run P w = (callFunc f vals.toArray).run P w) (E : Emb P ρ h w B) (ha : RelL ρ h.nx.num args vals) {k : AV → Hp → Bool} (hk : s args h k = true) (H : Nx P ρ h w B o a next k) : o.wp P a w next QQ := by
  unfold Oper.wp
  rw [he, hf.enter]
  refine Calls.mono (hf.sound ρ h w B args vals k E ha hk) fun e w' hl => ?_
  cases e with
  | returned v =>
    obtain ⟨ρ', h', y, h1, h2, h3, h4⟩ := hl
    exact H y v w' ρ' h' h1 h2 h3 h4
  | panicked c => exact hl.elim
  | outgrown => exact hl.elim
theorem dense_spec {N : Nat} {f : Operand → AV} {g : Operand → Value} : ∀ {l : List (Nat × Operand)} {i : Nat}, (∀ x ∈ l.map (·.2), Rel ρ N (f x) (g x)) → dense i l = true → DenseR ρ N i (l.map fun p => f p.2) (l.map fun (i, x) => (i, g x))
  | [], i, _, _ => .nil i
  | (j, x) :: l, i, hh, hd => by
    unfold dense at hd
    split at hd
    · rename_i hb
      have := Nat.eq_of_beq_eq_true hb
      subst this
      exact .cons _ _ _ _ _ (hh x (by simp)) (dense_spec (fun y hy => hh y (List.mem_cons_of_mem _ hy)) hd)
    · cases hd
theorem method_run {name : String} {tf : Nat × Nat} (hm : methOk P name tf = true) (n : Nat) (v : Value) (w : World) : (method (n + 1) tf.1 v name).run P w = .ok (tf.2, v) w := by
  unfold methOk at hm
  split at hm
  · rename_i i hi
    split at hm
    · rename_i m hf
      simp only [Bool.and_eq_true] at hm
      obtain ⟨⟨h1, h2⟩, h3⟩ := hm
      have h1 : m.path = #[] := by simpa using h1
      have h2 : m.func = some (tf.2, false) := by simpa using h2
      split at h3
      · cases h3
      · rename_i d hnp hd
        have hr : ∀ s : Option String, (receiverAt tf.1 (.val v) false s).run P w = .ok v w := fun s => by
          cases d <;> first | exact (hnp _ rfl).elim | simp [receiverAt, run_underlying hd, Place.get]
        simp [method, typeInfo, hi, hf, h1, h2, follow, hr]
      · cases h3
    · cases hm
  · cases hm
theorem callD_sound (E : Emb P ρ h w B) {T : Tbl} (hT : SoundT P T) {M : List (Nat × Nat)} {c : Call} (ho : o.op = .call c) {f : Operand → AV} (hfg : ∀ x ∈ c.operands, Rel ρ h.nx.num (f x) (a.eval x)) {k : AV → Hp → Bool} (hk : callD P T M c.callee c.argTypes.toList (c.args.toList.map f) f h k = true) (H : Nx P ρ h w B o a next k) : o.wp P a w next QQ := by
  obtain ⟨dst, op, type, pos, after, guard⟩ := o
  cases ho
  obtain ⟨callee, args, argTypes⟩ := c
  have e1 : (args.toList.map a.eval).toArray = args.map a.eval := by apply Array.ext'; simp
  have ha : RelL ρ h.nx.num (args.toList.map f) (args.toList.map a.eval) := relL_map _ fun x hx => hfg x (by simp only [Call.operands, Array.mem_append]; exact .inr (by simpa using hx))
  simp only [callD] at hk
  split at hk
  · rename_i b
    split at hk
    · rename_i t u x y hts has
      split at hk
      · rename_i e he
        split at hk
        · rename_i sz hs
          split at hk
          · rename_i hc
            simp only [Bool.and_eq_true] at hc
            rw [has] at ha
            generalize hvals : args.toList.map a.eval = vals at ha e1
            cases ha with
            | cons _ xv _ _ hx t1 =>
              cases t1 with
              | cons _ yv _ _ hy t2 =>
                cases t2
                refine wp_of_made (s := Builtin.append_ argTypes type (args.map a.eval)) rfl ?_ H
                rw [← e1]
                have : argTypes = #[t, u] := by apply Array.ext'; simpa using hts
                rw [this]
                exact apY_sound E (sliceOf_spec he) (isSeq_spec hc.2) hc.1 hx hy hk
          · cases hk
        · cases hk
      · cases hk
    · rename_i t x hts has
      split at hk
      · rename_i e he
        split at hk
        · rename_i sz hs
          split at hk
          · rename_i hc
            simp only [Bool.and_eq_true] at hc
            rw [has] at ha
            generalize hvals : args.toList.map a.eval = vals at ha e1
            cases ha with
            | cons _ xv _ _ hx t1 =>
              cases t1
              have : argTypes = #[t] := by apply Array.ext'; simpa using hts
              subst this
              obtain ⟨w', h', h1, h2, h3, h4⟩ := clD_sound (ty := type) E (sliceOf_spec he) hc.1 hc.2 hx hk
              refine wp_of_value (v := .tuple #[]) ?_ (H _ _ w' ρ h' h2 h3 (rel_unit _ _) h4)
              have h1 : (Builtin.clear_ #[t] type [xv].toArray).run P w = .ok (.tuple #[]) w' := h1
              rw [e1] at h1
              simp [execOp, resolve, invoke, builtin, h1]
          · cases hk
        · cases hk
      · cases hk
    · rename_i t u m x hts has
      split at hk
      · rename_i kt et ht
        split at hk
        · rename_i str hs
          rw [has] at ha
          generalize hvals : args.toList.map a.eval = vals at ha e1
          cases ha with
          | cons _ mv _ _ hm t1 =>
            cases t1 with
            | cons _ xv _ _ hx t2 =>
              cases t2
              have : argTypes = #[t, u] := by apply Array.ext'; simpa using hts
              subst this
              obtain ⟨w', h', h1, h2, h3, h4⟩ := mdD_sound (ty := type) (u2 := u) E ht hs hm hx hk
              refine wp_of_value (v := .tuple #[]) ?_ (H _ _ w' ρ h' h2 h3 (rel_unit _ _) h4)
              have h1 : (Builtin.delete_ #[t, u] type [mv, xv].toArray).run P w = .ok (.tuple #[]) w' := h1
              rw [e1] at h1
              simp [execOp, resolve, invoke, builtin, h1]
        · cases hk
      · cases hk
    · cases hk
  · rename_i n
    obtain ⟨s, hs, hk2⟩ := Tbl.get_spec hT hk
    refine wp_of_calls hs ?_ E ha hk2 H
    rw [e1]
    simp [execOp, resolve, invoke, Act.eval, Deferred.ofValue]
  · rename_i v hnf
    obtain ⟨n, fs, cs, hfv, hk2⟩ := AV.on_f_spec hk
    obtain ⟨s, hs, hk3⟩ := Tbl.get_spec hT hk2
    have hv : Rel ρ h.nx.num (f v) (a.eval v) := hfg v (by simp [Call.operands])
    rw [hfv] at hv
    generalize hav : a.eval v = fv at hv
    cases hv with
    | f _ _ _ us vs hu hv =>
      refine wp_of_calls hs (vals := us ++ (args.toList.map a.eval ++ vs)) ?_ E (hu.append (ha.append hv)) hk3 H
      have e2 : (us ++ (args.toList.map a.eval ++ vs)).toArray = us.toArray ++ args.map a.eval ++ vs.toArray := by
        rw [← e1]; simp
      rw [e2]
      simp [execOp, resolve, invoke, hav, Deferred.ofValue]
  · rename_i r name
    split at hk
    · rename_i hM
      obtain ⟨t, v, hfv, hk2⟩ := AV.on_e_spec hk
      have hv : Rel ρ h.nx.num (f r) (a.eval r) := hfg r (by simp [Call.operands])
      rw [hfv] at hv
      generalize hav : a.eval r = rv at hv
      cases hv with
      | e _ _ v' hv =>
        have key : ∀ (M : List (Nat × Nat)), M.all (methOk P name) = true → List.rec (motive := fun _ => Bool) false (fun m _ ih => Bool.casesOn (motive := fun _ => Bool) (Nat.beq m.1 t) ih (T.get m.2 (v :: args.toList.map f) h k)) M = true → ∃ n, methOk P name (t, n) = true ∧ T.get n (v :: args.toList.map f) h k = true := by
          intro M
          induction M with
          | nil => intro _ hh; cases hh
          | cons m M ih =>
            intro hall hh
            simp only [List.all_cons, Bool.and_eq_true] at hall
            have hh : Bool.casesOn (motive := fun _ => Bool) (Nat.beq m.1 t) (List.rec (motive := fun _ => Bool) false (fun m _ ih => Bool.casesOn (motive := fun _ => Bool) (Nat.beq m.1 t) ih (T.get m.2 (v :: args.toList.map f) h k)) M) (T.get m.2 (v :: args.toList.map f) h k) = true := hh
            cases hb : Nat.beq m.1 t with
            | true =>
              rw [hb] at hh
              have := Nat.eq_of_beq_eq_true hb
              subst this
              exact ⟨m.2, hall.1, hh⟩
            | false => rw [hb] at hh; exact ih hall.2 hh
        obtain ⟨n, hm, hk3⟩ := key M hM hk2
        obtain ⟨s, hs, hk4⟩ := Tbl.get_spec hT hk3
        have hmr := method_run (P := P) hm
        refine wp_of_calls hs (vals := v' :: args.toList.map a.eval) ?_ E (.cons _ _ _ _ hv ha) hk4 H
        have e2 : (v' :: args.toList.map a.eval).toArray = #[v'] ++ args.map a.eval := by rw [← e1]; simp
        rw [e2]
        have hex : execOp a.eval ⟨dst, .call ⟨.invoke r name, args, argTypes⟩, type, pos, after, guard⟩ = Go.invoke (.fn (.method name) #[]) (#[Value.iface t v'] ++ args.map a.eval) := by
          simp only [execOp, resolve, hav]
          rfl
        rw [hex]
        have hd0 : Go.Made.depth = 100 := rfl
        have hfuel : ∃ m, P.types.size + Go.Made.depth = m + 1 := ⟨P.types.size + 99, by rw [hd0]⟩
        obtain ⟨m, hfuel⟩ := hfuel
        have hx0 : ∀ xs : Array Value, (#[Value.iface t v'] ++ xs)[0]? = some (.iface t v') := fun xs => by rw [Array.getElem?_append_left (by simp)]; rfl
        generalize args.map a.eval = xs
        have hinv : ∀ xs : Array Value, Go.invoke (.fn (.method name) #[]) (#[Value.iface t v'] ++ xs) = callMethod (.iface t v') name xs := fun xs => by
          unfold Go.invoke
          simp [hx0]
        have hcm : (callMethod (.iface t v') name xs).run P w = (callFunc n (#[v'] ++ xs)).run P w := by
          simp only [callMethod, Sem.run_bind, run_program, Result.andThen_ok, hfuel, hmr]
        rw [← hcm, ← hinv]
    · cases hk
set_option maxHeartbeats 2000000 in
theorem heavyD_sound (E : Emb P ρ h w B) {T : Tbl} (hT : SoundT P T) {M : List (Nat × Nat)} (o : Oper) {f : Operand → AV} (hfg : ∀ x ∈ o.op.operands, Rel ρ h.nx.num (f x) (a.eval x)) {k : AV → Hp → Bool} (hk : heavyD P T M o.op f h k = true) (H : Nx P ρ h w B o a next k) : o.wp P a w next QQ := by
  cases hop : o.op <;> (rw [hop] at hk hfg) <;> (try (cases hk; done))
  case alloc t =>
    obtain ⟨dst, op, type, pos, after, guard⟩ := o
    cases hop
    simp only [heavyD] at hk
    split at hk
    · rename_i z hz
      have hzr : Rel ρ h.nx.num (zeroOf P t) z := by unfold zeroOf; rw [hz]; exact cva_rel _ _ _
      refine wp_of_made (s := Instr.alloc t true (.tuple #[])) rfl ?_ H
      rw [alloc_run t z hz]
      exact boxK_sound E t _ rfl hzr hk
    · cases hk
  case box t x =>
    obtain ⟨dst, op, type, pos, after, guard⟩ := o
    cases hop
    exact wp_of_made (s := Instr.box t (a.eval x)) rfl (boxK_sound E t _ rfl (hfg x (by simp [Op.operands])) hk) H
  case buildSlice t n parts =>
    obtain ⟨dst, op, type, pos, after, guard⟩ := o
    cases hop
    simp only [heavyD] at hk
    split at hk
    · rename_i e he
      split at hk
      · rename_i sz hs
        split at hk
        · rename_i hc
          simp only [Bool.and_eq_true] at hc
          obtain ⟨⟨⟨h1, h2⟩, h3⟩, h4⟩ := hc
          refine wp_of_made (s := Instr.buildSlice t n (parts.map fun (i, x) => (i, a.eval x))) rfl ?_ H
          refine bsK_sound E (sliceOf_spec he) h1 rfl (Nat.le_of_ble_eq_true h4) (by simpa using Nat.eq_of_beq_eq_true h3) ?_ hk
          rw [Array.toList_map]
          exact dense_spec (fun x hx => hfg x (by simpa [Op.operands] using hx)) h2
        · cases hk
      · cases hk
    · cases hk
  case insert t m x z =>
    obtain ⟨dst, op, type, pos, after, guard⟩ := o
    cases hop
    simp only [heavyD] at hk
    split at hk
    · rename_i kt et ht
      split at hk
      · rename_i str hs; exact wp_of_unit (s := Instr.mapUpdate t (a.eval m) (a.eval x) (a.eval z)) rfl (muD_sound E ht hs (hfg m (by simp [Op.operands])) (hfg x (by simp [Op.operands])) (hfg z (by simp [Op.operands])) hk) H
      · cases hk
    · cases hk
  case mapUpdate t m x z =>
    obtain ⟨dst, op, type, pos, after, guard⟩ := o
    cases hop
    simp only [heavyD] at hk
    split at hk
    · rename_i kt et ht
      split at hk
      · rename_i str hs; exact wp_of_unit (s := Instr.mapUpdate t (a.eval m) (a.eval x) (a.eval z)) rfl (muD_sound E ht hs (hfg m (by simp [Op.operands])) (hfg x (by simp [Op.operands])) (hfg z (by simp [Op.operands])) hk) H
      · cases hk
    · cases hk
  case store t x z =>
    obtain ⟨dst, op, type, pos, after, guard⟩ := o
    cases hop
    simp only [heavyD] at hk
    split at hk
    · rename_i g n ha
      obtain ⟨w', h', h1, h2, h3, h4⟩ := stL_sound E ha (hfg x (by simp [Op.operands])) (hfg z (by simp [Op.operands])) hk
      exact wp_of_unit (s := Instr.storeAt t (a.eval x) (a.eval z)) rfl ⟨w', h', h1, h2, h3, h4⟩ H
    · cases hk
  case convert s t x =>
    obtain ⟨dst, op, type, pos, after, guard⟩ := o
    cases hop
    simp only [heavyD] at hk
    split at hk
    · rename_i e hs ht
      split at hk
      · rename_i hu
        unfold u8Of at hu
        split at hu
        · rename_i h1 h2
          exact wp_of_made (s := convert s t (a.eval x)) rfl (sb2Y_sound E (isStr_spec hs) (sliceOf_spec ht) h1 (Nat.eq_of_beq_eq_true h2) (hfg x (by simp [Op.operands])) hk) H
        · cases hu
      · cases hk
    · cases hk
  case makeMap t r =>
    obtain ⟨dst, op, type, pos, after, guard⟩ := o
    cases hop
    cases r with
    | none => exact wp_of_made (s := Instr.makeMap t none) rfl (mmD_sound E hk) H
    | some r => cases hk
  case range t x =>
    obtain ⟨dst, op, type, pos, after, guard⟩ := o
    cases hop
    simp only [heavyD] at hk
    split at hk
    · rename_i hs; exact wp_of_made (s := Instr.range t (a.eval x)) rfl (rsD_sound E (isStr_spec hs) (hfg x (by simp [Op.operands])) hk) H
    · cases hk
  case next x b =>
    obtain ⟨dst, op, type, pos, after, guard⟩ := o
    cases hop
    cases b with
    | true => exact wp_of_made (s := Instr.next (a.eval x) true type) rfl (nsD_sound E (hfg x (by simp [Op.operands])) hk) H
    | false => cases hk
  case call c => exact callD_sound E hT hop (fun x hx => hfg x (by simpa [Op.operands] using hx)) hk H
end
end Go.Proofs.YtmddhlfjilkdfaaGreatDoor
