/-
  No claim by itself: the evaluator: the other operations that make nothing: complements, the least and the greatest, places in arrays, functions, interfaces. | the evaluator: maps, texts ranged over, clear. | the evaluator: small operations of symbols. No condition.
-/
import Derived.Test.YtpchmdddkpocgaaGreatDoorP4
import Derived.Laws.RangeString
namespace Go.Proofs.YtpchmdddkpocgaaGreatDoor
set_option linter.unusedVariables false
set_option linter.unusedSimpArgs false
def cpN (k : IntKind) : Nat := IntKind.casesOn (motive := fun _ => Nat) k 9223372036854775807 9223372036854775807 9223372036854775807 9223372036854775807 9223372036854776063 9223372036854841343 9223372041149743103 27670116110564327423
def cplK (x : AV) (k : AV → Bool) : Bool := x.on_i fun kd a => ibK .xor kd (cpN kd) a k
def ncK (x : AV) (k : AV → Bool) : Bool := x.on_p fun q o => k (.p q o)
def mxK (x y : AV) (k : AV → Bool) : Bool := x.on_i fun kd a => y.on_i fun _ b => k (.i kd (Bool.casesOn (motive := fun _ => Nat) (Nat.blt a b) a b))
noncomputable def mmL (f : AV → AV → (AV → Bool) → Bool) (ys : List AV) : AV → (AV → Bool) → Bool :=
 List.rec (motive := fun _ => AV → (AV → Bool) → Bool) (fun x k => k x) (fun y _ ih x k => f x y fun z => ih z k) ys
def iapK (len sz : Nat) (x i : AV) (k : AV → Bool) : Bool := idxK i fun i => x.on_p fun q o => ifT (Nat.blt i len) (k (.p q (Nat.add o (Nat.mul i sz))))
def sapK (n sz : Nat) (lo hi : Option AV) (x : AV) (k : AV → Bool) : Bool := x.on_p fun q o => optK hi n fun h => optK lo 0 fun l => ifT (Nat.ble l h) (ifT (Nat.ble h n) (sl3K sz q o l h n k))
def notI (P : Program) (t : TypeId) : Bool := match P.underlying t with
 | some (.interface _) => false
 | some _ => true
 | none => false
def taK (asL : Nat) (z : AV) (x : AV) (k : AV → Bool) : Bool := AV.casesOn (motive_1 := fun _ => Bool) x false (fun _ => false) (fun _ _ => false) (fun _ _ => false) false (fun _ _ => false) false (fun _ _ _ _ => false) false (fun _ _ _ => false) false false (fun _ => false) (k (.t [z, .b false])) (fun _ => false) (fun _ => false)
 (fun t v => Bool.casesOn (motive := fun _ => Bool) (Nat.beq t asL) (k (.t [z, .b false])) (k (.t [v, .b true]))) (fun _ => false)
section
variable {P : Program} {ρ : Q → Loc} {h : Hp} {w : World} {B N : Nat}
theorem cplK_sound {x : AV} {u : Value} (hx : Rel ρ N x u) {k : AV → Bool} (hk : cplK x k = true) (w : World) : Pure1 ρ N w ((Op.unary .xor u).run P w) k := by
 obtain ⟨kd, a, rfl, hk2⟩ := AV.on_i_spec hk
 cases hx
 obtain ⟨y, v, h1, h2, h3⟩ := ibK_sound (P := P) (ρ := ρ) (N := N) (op := .xor) (kd := kd) (a := cpN kd) (b := a) (k := k) hk2 0 w
 refine ⟨y, v, ?_, h2, h3⟩
 rw [← h1]
 have hc : (((cpN kd : Nat) : Int) - 9223372036854775808) = if kd.signed then -1 else kd.max := by cases kd <;> rfl
 rw [hc]
 simp [binOp, Op.unary]
theorem ncK_sound {x : AV} {u : Value} (hx : Rel ρ N x u) {k : AV → Bool} (hk : ncK x k = true) : ∃ (a : Addr) (y : AV), u = .pointer (some a) ∧ Rel ρ N y u ∧ k y = true := by
 obtain ⟨q, o, rfl, hk⟩ := AV.on_p_spec hk
 cases hx with
 | p _ _ hq => exact ⟨_, _, rfl, .p q o hq, hk⟩
theorem mn2_sound {x y : AV} {u v : Value} (hx : Rel ρ N x u) (hy : Rel ρ N y v) {k : AV → Bool} (hk : mnK x y k = true) (w : World) : Pure1 ρ N w ((Builtin.min2 u v).run P w) k := by
 obtain ⟨kd, a, rfl, hk2⟩ := AV.on_i_spec hk
 obtain ⟨ke, b, rfl, hk3⟩ := AV.on_i_spec hk2
 cases hx
 cases hy
 refine ⟨_, .int kd (if (b : Int) - 9223372036854775808 < (a : Int) - 9223372036854775808 then (b : Int) - 9223372036854775808 else (a : Int) - 9223372036854775808), ?_, ?_, hk3⟩
 ·simp [Builtin.min2]
 ·by_cases hlt : b < a
  ·rw [show Nat.blt b a = true from by rw [Nat.blt_eq]; exact hlt, if_pos (by omega)]; exact .i _ _
  ·rw [show Nat.blt b a = false from by rw [← Bool.not_eq_true, Nat.blt_eq]; exact hlt, if_neg (by omega)]; exact .i _ _
theorem mx2_sound {x y : AV} {u v : Value} (hx : Rel ρ N x u) (hy : Rel ρ N y v) {k : AV → Bool} (hk : mxK x y k = true) (w : World) : Pure1 ρ N w ((Builtin.max2 u v).run P w) k := by
 obtain ⟨kd, a, rfl, hk2⟩ := AV.on_i_spec hk
 obtain ⟨ke, b, rfl, hk3⟩ := AV.on_i_spec hk2
 cases hx
 cases hy
 refine ⟨_, .int kd (if (b : Int) - 9223372036854775808 > (a : Int) - 9223372036854775808 then (b : Int) - 9223372036854775808 else (a : Int) - 9223372036854775808), ?_, ?_, hk3⟩
 ·simp [Builtin.max2]
 ·by_cases hlt : a < b
  ·rw [show Nat.blt a b = true from by rw [Nat.blt_eq]; exact hlt, if_pos (by omega)]; exact .i _ _
  ·rw [show Nat.blt a b = false from by rw [← Bool.not_eq_true, Nat.blt_eq]; exact hlt, if_neg (by omega)]; exact .i _ _
theorem mmL_sound {f : AV → AV → (AV → Bool) → Bool} {g : Value → Value → Sem Value} (w : World) (hf : ∀ {x y : AV} {u v : Value} {k : AV → Bool}, Rel ρ N x u → Rel ρ N y v → f x y k = true → Pure1 ρ N w ((g u v).run P w) k) :
  ∀ {ys : List AV} {vs : List Value} {x : AV} {u : Value} {k : AV → Bool}, RelL ρ N ys vs → Rel ρ N x u → mmL f ys x k = true → Pure1 ρ N w ((vs.foldlM g u).run P w) k
 | _, _, x, u, k, .nil, hx, hk => ⟨x, u, by simp, hx, hk⟩
 | _, _, x, u, k, .cons y v ys vs hy t, hx, hk => by
  obtain ⟨z, r, h1, h2, h3⟩ := hf hx hy (show f x y (fun z => mmL f ys z k) = true from hk)
  obtain ⟨z', r', h4, h5, h6⟩ := mmL_sound w hf t h2 h3
  exact ⟨z', r', by simp [List.foldlM_cons, h1, h4], h5, h6⟩
theorem iapK_sound {t e len sz : Nat} (ht : P.underlying t = some (.array len e)) (hs : ∀ w, (sizeOf e).run P w = .ok sz w) {x i : AV} {u v : Value} (hx : Rel ρ N x u) (hi : Rel ρ N i v) {k : AV → Bool} (hk : iapK len sz x i k = true) (w : World) : Pure1 ρ N w ((Instr.indexAt t u v).run P w) k := by
 obtain ⟨kd, j, rfl, hk2⟩ := idxK_spec hi hk
 obtain ⟨q, o, rfl, hk3⟩ := AV.on_p_spec hk2
 obtain ⟨hlt, hk4⟩ := ifT_lt hk3
 have h2 : (0 : Int) ≤ (j : Nat) ∧ ((j : Nat) : Int) < (len : Nat) := by omega
 cases hx with
 | p _ _ hq =>
  refine ⟨_, _, ?_, .p q (o + j * sz) hq, hk4⟩
  simp only [Instr.indexAt, asIntOf, Instr.sureAddr, Sem.run_bind, Sem.run_pure, Result.andThen_ok, run_underlying ht, if_pos h2, hs, Int.toNat_natCast, Addr.add_none, Nat.add_assoc]
theorem sapK_sound {t e n sz : Nat} (ht : P.underlying t = some (.array n e)) (hs : ∀ w, (sizeOf e).run P w = .ok sz w) {x : AV} {u : Value} {lo hi : Option AV} {lov hiv : Option Value} (hx : Rel ρ N x u) (hlo : RelO ρ N lo lov) (hhi : RelO ρ N hi hiv) {k : AV → Bool} (hk : sapK n sz lo hi x k = true) (w : World) :
  Pure1 ρ N w ((Instr.sliceAt t u lov hiv none).run P w) k := by
 obtain ⟨q, o, rfl, hk1⟩ := AV.on_p_spec hk
 obtain ⟨h, hk2, hh⟩ := opt_of (optK_spec hhi hk1)
 obtain ⟨l, hk3, hl⟩ := opt_of (optK_spec hlo hk2)
 obtain ⟨h1, hk4⟩ := ifT_le hk3
 obtain ⟨h2, hk5⟩ := ifT_le hk4
 cases hx with
 | p _ _ hq =>
  have hb := run_bounds2 (P := P) w false n n h l hh hl h1 h2
  have hrun : (Instr.sliceAt t (.pointer (some ⟨(ρ q).blk, (ρ q).base + o, none⟩)) lov hiv none).run P w = .ok (.slice (some (if n = l then ⟨(ρ q).blk, (ρ q).base + o, none⟩ else (⟨(ρ q).blk, (ρ q).base + o, none⟩ : Addr).add (l * sz))) (h - l) (n - l)) w := by
   simp only [Instr.sliceAt, Sem.run_bind, run_underlying ht, Result.andThen_ok, Instr.sureAddr, Sem.run_pure, hb, hs]
  refine pick_y hrun ?_
  by_cases hml : n = l
  ·subst hml
   have hk : (Bool.casesOn (motive := fun _ => Bool) (Nat.beq n n) _ (k (.sl q o (Nat.sub h n) (.k 0)))) = true := hk5
   rw [Nat.beq_refl] at hk
   refine ⟨_, ?_, hk⟩
   rw [if_pos rfl, Nat.sub_self]
   exact .slk q o _ 0 hq (by show h - n ≤ 0; omega)
  ·have hb : Nat.beq n l = false := by rw [← Bool.not_eq_true, Nat.beq_eq]; exact hml
   have hk : (Bool.casesOn (motive := fun _ => Bool) (Nat.beq n l) (k (.sl q (Nat.add o (Nat.mul l sz)) (Nat.sub h l) (.k (Nat.sub n l)))) (k (.sl q o (Nat.sub h l) (.k 0)))) = true := hk5
   rw [hb] at hk
   refine ⟨_, ?_, hk⟩
   rw [if_neg hml]
   have := Rel.slk (ρ := ρ) (N := N) q (o + l * sz) (h - l) (n - l) hq (by omega)
   simp only [Addr.add_none, Nat.add_assoc]
   exact this
theorem mi_sound {t : TypeId} (ht : notI P t = true) (v : Value) (w : World) : (Instr.makeInterface t v).run P w = .ok (.iface t v) w := by
 unfold notI at ht
 split at ht
 ·cases ht
 ·rename_i d h1 h2
  cases d <;> first | exact (h1 _ rfl).elim | simp [Instr.makeInterface, run_underlying h2]
 ·cases ht
theorem taK_sound {xt asL : TypeId} (ht : notI P asL = true) {z : Value} (hz : (P.info? asL).bind (·.zero) = some z) {x : AV} {u : Value} (hx : Rel ρ N x u) {k : AV → Bool} (hk : taK asL (zeroOf P asL) x k = true) (w : World) : Pure1 ρ N w ((Instr.typeAssert u xt asL true).run P w) k := by
 have hzr : Rel ρ N (zeroOf P asL) z := by unfold zeroOf; rw [hz]; exact cva_rel _ _ _
 have hzv : (zeroValue asL).run P w = .ok z w := by
  cases hi : P.info? asL with
  | none => rw [hi] at hz; cases hz
  | some i => rw [hi] at hz; have hz : i.zero = some z := hz; simp [zeroValue, typeInfo, hi, hz]
 have hun : ∃ d, P.underlying asL = some d ∧ ∀ ms, d ≠ .interface ms := by
  unfold notI at ht
  split at ht
  ·cases ht
  ·rename_i d h1 h2
   exact ⟨d, h2, fun ms e => h1 ms (by rw [e])⟩
  ·cases ht
 obtain ⟨d, hd, hni⟩ := hun
 have f0 : Pure1 ρ N w (.ok (.tuple #[z, .bool false]) w) k → Pure1 ρ N w ((Instr.typeAssert .nilIface xt asL true).run P w) k := fun H => by
  cases d <;> first | exact (hni _ rfl).elim | (simpa [Instr.typeAssert, run_underlying hd, hzv] using H)
 have f1 : ∀ (t : TypeId) (v : Value), t ≠ asL → Pure1 ρ N w (.ok (.tuple #[z, .bool false]) w) k → Pure1 ρ N w ((Instr.typeAssert (.iface t v) xt asL true).run P w) k := fun t v hne H => by
  cases d <;> first | exact (hni _ rfl).elim | (simpa [Instr.typeAssert, run_underlying hd, hzv, hne] using H)
 have f2 : ∀ (v : Value), Pure1 ρ N w (.ok (.tuple #[v, .bool true]) w) k → Pure1 ρ N w ((Instr.typeAssert (.iface asL v) xt asL true).run P w) k := fun v H => by
  cases d <;> first | exact (hni _ rfl).elim | (simpa [Instr.typeAssert, run_underlying hd] using H)
 cases x <;> first | (cases hk; done) | skip
 case ni =>
  cases hx
  exact f0 ⟨_, _, rfl, .t _ [z, .bool false] (.cons _ _ _ _ hzr (.cons _ _ _ _ (.b _) .nil)), hk⟩
 case e t v =>
  cases hx with
  | e _ _ v' hv =>
   have hk : (Bool.casesOn (motive := fun _ => Bool) (Nat.beq t asL) (k (.t [zeroOf P asL, .b false])) (k (.t [v, .b true]))) = true := hk
   by_cases he : t = asL
   ·subst he
    rw [Nat.beq_refl] at hk
    exact f2 v' ⟨_, _, rfl, .t _ [v', .bool true] (.cons _ _ _ _ hv (.cons _ _ _ _ (.b _) .nil)), hk⟩
   ·have hb : Nat.beq t asL = false := by rw [← Bool.not_eq_true, Nat.beq_eq]; exact he
    rw [hb] at hk
    exact f1 t v' he ⟨_, _, rfl, .t _ [z, .bool false] (.cons _ _ _ _ hzr (.cons _ _ _ _ (.b _) .nil)), hk⟩
end
noncomputable def kqK (str : Bool) (x y : AV) (k : Bool → Bool) : Bool := Bool.casesOn (motive := fun _ => Bool) str (x.on_i fun ka a => y.on_i fun kb b => ifT (Nat.beq (kN ka) (kN kb)) (k (Nat.beq a b))) (osK x y (x.on_s fun _ l => y.on_s fun _ r => k (leq l r)) (k true))
def kdOf (P : Program) (t : TypeId) : Option Bool := match P.underlying t with
 | some (.int _) => some false
 | some .string => some true
 | _ => none
noncomputable def mfK (str : Bool) (x : AV) (es : List (AV × AV)) (kn : Bool) (ks : AV → Bool) : Bool :=
 List.rec (motive := fun _ => Bool) kn (fun e _ ih => kqK str x e.1 fun r => Bool.casesOn (motive := fun _ => Bool) r ih (ks e.2)) es
noncomputable def muK (str : Bool) (x z : AV) (es : List (AV × AV)) : (List (AV × AV) → Bool) → Bool :=
 List.rec (motive := fun _ => (List (AV × AV) → Bool) → Bool) (fun k => k [(x, z)]) (fun e t ih k => kqK str x e.1 fun r => Bool.casesOn (motive := fun _ => Bool) r (ih fun es' => k (e :: es')) (k ((x, z) :: t))) es
noncomputable def mdK (str : Bool) (x : AV) (es : List (AV × AV)) : (List (AV × AV) → Bool) → Bool :=
 List.rec (motive := fun _ => (List (AV × AV) → Bool) → Bool) (fun k => k []) (fun e t ih k => kqK str x e.1 fun r => Bool.casesOn (motive := fun _ => Bool) r (ih fun es' => k (e :: es')) (k t)) es
def fin2 (ok : Bool) (x : AV) (b : Bool) (k : AV → Bool) : Bool := Bool.casesOn (motive := fun _ => Bool) ok (k x) (k (.t [x, .b b]))
noncomputable def lkK (str ok : Bool) (z m x : AV) (h : Hp) (k : AV → Bool) : Bool :=
 AV.casesOn (motive_1 := fun _ => Bool) m false (fun _ => false) (fun _ _ => false) (fun _ _ => false) false (fun _ _ => false) false (fun _ _ _ _ => false) false (fun _ _ _ => false) false (fin2 ok z false k) (fun q => (HT.getR q h.t).onM fun es => mfK str x es (fin2 ok z false k) fun y => fin2 ok y true k) false (fun _ => false) (fun _ => false) (fun _ _ => false) (fun _ => false)
noncomputable def lnM (m : AV) (h : Hp) (k : AV → Bool) : Bool := m.on_m fun q => (HT.getR q h.t).onM fun es => natK (List.length es) fun n => k (.i .i64 (Nat.add n 9223372036854775808))
noncomputable def muD (str : Bool) (m x z : AV) (h : Hp) (k : Hp → Bool) : Bool := m.on_m fun q => (HT.getR q h.t).onM fun es => muK str x z es fun es' => HT.setK (.mp es') q h.t fun t' => k (.mk t' h.nx)
noncomputable def mdD (str : Bool) (m x : AV) (h : Hp) (k : Hp → Bool) : Bool := m.on_m fun q => (HT.getR q h.t).onM fun es => mdK str x es fun es' => HT.setK (.mp es') q h.t fun t' => k (.mk t' h.nx)
noncomputable def mmD (h : Hp) (k : AV → Hp → Bool) : Bool := HT.setK (.mp []) h.nx h.t fun t' => h.nx.succK fun n' => k (.m h.nx) (.mk t' n')
noncomputable def rsD (x : AV) (h : Hp) (k : AV → Hp → Bool) : Bool := x.on_s fun _ l => HT.setK (.si 0 l) h.nx h.t fun t' => h.nx.succK fun n' => k (.p h.nx 0) (.mk t' n')
noncomputable def nsD (x : AV) (h : Hp) (k : AV → Hp → Bool) : Bool := x.on_p fun q o => ifT (Nat.beq o 0) ((HT.getR q h.t).onS fun pos l => List.casesOn (motive := fun _ => Bool) l (k (.t [.b false]) h)
 fun b t => ifT (Nat.blt b 128) (natK (Nat.succ pos) fun pos' => HT.setK (.si pos' t) q h.t fun t' => k (.t [.b true, .i .i64 (Nat.add pos 9223372036854775808), .i .i32 (Nat.add b 9223372036854775808)]) (.mk t' h.nx)))
section
variable {P : Program} {ρ : Q → Loc} {h : Hp} {w : World} {B N : Nat}
theorem kqK_sound {str : Bool} {kt : TypeId} (hs : kdOf P kt = some str) {x y : AV} {u v : Value} (hx : Rel ρ N x u) (hy : Rel ρ N y v) {k : Bool → Bool} (hk : kqK str x y k = true) :
  ∃ d r, P.underlying kt = some d ∧ Instr.sameNow d u v = some r ∧ k r = true ∧ (r = true → u = v) ∧ Instr.sameBits 10000 u u = true := by
 unfold kdOf at hs
 split at hs
 ·rename_i kk ht
  cases hs
  obtain ⟨kd, a, rfl, hk2⟩ := AV.on_i_spec (show x.on_i _ = true from hk)
  obtain ⟨ke, b, rfl, hk3⟩ := AV.on_i_spec hk2
  obtain ⟨he, hk4⟩ := ifT_eq hk3
  have := kN_inj he
  subst this
  cases hx
  cases hy
  refine ⟨_, Nat.beq a b, ht, ?_, hk4, fun hh => by rw [Nat.eq_of_beq_eq_true hh], by simp [Instr.sameBits]⟩
  have : ((a : Int) - 9223372036854775808 == (b : Int) - 9223372036854775808) = Nat.beq a b := by rw [Bool.eq_iff_iff, beq_iff_eq, Nat.beq_eq]; omega
  simp only [Instr.sameNow, if_pos, this]
 ·rename_i ht
  cases hs
  rcases osK_spec (show osK x y _ _ = true from hk) with ⟨i, rfl, rfl, hk1⟩ | hk
  ·cases hx
   cases hy
   exact ⟨_, true, ht, by simp [Instr.sameNow, beq_toListBytes], hk1, fun _ => rfl, by simp [Instr.sameBits, beq_toListBytes]⟩
  obtain ⟨n, l, rfl, hk2⟩ := AV.on_s_spec (show x.on_s _ = true from hk)
  obtain ⟨m, r, rfl, hk3⟩ := AV.on_s_spec hk2
  cases hx with
  | s a =>
   cases hy with
   | s b =>
    have he : (a == b) = leq (a.data.toList.map UInt8.toNat) (b.data.toList.map UInt8.toNat) := by
     rw [beq_toListBytes, leq_eq, ba_toList, ba_toList, Bool.eq_iff_iff, beq_iff_eq, decide_eq_true_eq]
     exact ⟨fun h => by rw [h], fun h => bytes_inj h⟩
    refine ⟨_, leq (a.data.toList.map UInt8.toNat) (b.data.toList.map UInt8.toNat), ht, by simp only [Instr.sameNow, he], hk3, fun hh => ?_, by simp [Instr.sameBits, beq_toListBytes]⟩
    rw [← he, beq_toListBytes, beq_iff_eq, ba_toList, ba_toList] at hh
    congr 1
    apply ByteArray.ext
    exact Array.ext' hh
 ·cases hs
theorem run_checkKey {d : TypeDesc} {kt : TypeId} (n : Nat) (hd : (∃ k, d = .int k) ∨ d = .string) (ht : P.underlying kt = some d) (e : Bool) (v : Value) (w : World) : (Instr.checkKey e (n + 1) kt v).run P w = .ok () w := by
 rcases hd with ⟨k, rfl⟩ | rfl <;> simp [Instr.checkKey, run_underlying ht]
theorem kd_desc {str : Bool} {kt : TypeId} (hs : kdOf P kt = some str) : ∃ d, P.underlying kt = some d ∧ ∀ (e : Bool) (v : Value) (w : World), (Instr.checkKey e 10000 kt v).run P w = .ok () w := by
 unfold kdOf at hs
 split at hs
 ·rename_i kk ht
  exact ⟨_, ht, fun e v w => run_checkKey 9999 (.inl ⟨_, rfl⟩) ht e v w⟩
 ·rename_i ht
  exact ⟨_, ht, fun e v w => run_checkKey 9999 (.inr rfl) ht e v w⟩
 ·cases hs
theorem mfK_sound {str : Bool} {kt : TypeId} (hs : kdOf P kt = some str) {d : TypeDesc} (hd : P.underlying kt = some d) {x : AV} {u : Value} (hx : Rel ρ N x u) : ∀ {es : List (AV × AV)} {fs : List MapEntry} {kn : Bool} {ks : AV → Bool} (i : Nat), RelE ρ N es fs → mfK str x es kn ks = true →
  (Instr.findNow d u fs i = some none ∧ kn = true) ∨ ∃ j v y, Instr.findNow d u fs i = some (some (j, v)) ∧ Rel ρ N y v ∧ ks y = true
 | _, _, _, _, i, .nil, hk => .inl ⟨rfl, hk⟩
 | _, _, kn, ks, i, .cons k y es e fs hke hy t, hk => by
  obtain ⟨d', r, h1, h2, h3, _, _⟩ := kqK_sound hs hx hke (show kqK str x k _ = true from hk)
  rw [hd] at h1
  cases h1
  cases r with
  | true => exact .inr ⟨i, e.val, y, by simp only [Instr.findNow, h2], hy, h3⟩
  | false =>
   rcases mfK_sound hs hd hx (i + 1) t (show mfK str x es kn ks = true from h3) with ⟨a, b⟩ | ⟨j, v, y', a, b, c⟩
   ·exact .inl ⟨by simp only [Instr.findNow, h2, a], b⟩
   ·exact .inr ⟨j, v, y', by simp only [Instr.findNow, h2, a], b, c⟩
theorem muK_sound {str : Bool} {kt : TypeId} (hs : kdOf P kt = some str) {d : TypeDesc} (hd : P.underlying kt = some d) {x z : AV} {u zv : Value} (hx : Rel ρ N x u) (hz : Rel ρ N z zv) : ∀ {es : List (AV × AV)} {fs : List MapEntry} {k : List (AV × AV) → Bool} (i : Nat), RelE ρ N es fs → muK str x z es k = true →
  ∃ es', k es' = true ∧ ((Instr.findNow d u fs i = some none ∧ ∀ c, RelE ρ N es' (fs ++ [{ key := u, val := zv, born := c }])) ∨
   ∃ j e, Instr.findNow d u fs i = some (some (i + j, e.val)) ∧ fs[j]? = some e ∧ e.key = u ∧ Instr.sameBits 10000 u u = true ∧ RelE ρ N es' (fs.modify j fun e => { e with key := u, val := zv }))
 | _, _, k, i, .nil, hk => ⟨_, hk, .inl ⟨rfl, fun c => .cons _ _ _ _ _ hx hz .nil⟩⟩
 | _, _, k, i, .cons ka y es e fs hke hy t, hk => by
  obtain ⟨d', r, h1, h2, h3, h4, h5⟩ := kqK_sound hs hx hke (show kqK str x ka _ = true from hk)
  rw [hd] at h1
  cases h1
  cases r with
  | true => exact ⟨_, h3, .inr ⟨0, e, by simp only [Instr.findNow, h2, Nat.add_zero], rfl, (h4 rfl).symm, h5, by simp only [List.modify_zero_cons]; exact .cons _ _ _ _ _ hx hz t⟩⟩
  | false =>
   obtain ⟨es', g1, g2⟩ := muK_sound hs hd hx hz (i + 1) t (show muK str x z es (fun es' => k ((ka, y) :: es')) = true from h3)
   refine ⟨_, g1, ?_⟩
   rcases g2 with ⟨a, b⟩ | ⟨j, e', a, b, c, c2, f⟩
   ·exact .inl ⟨by simp only [Instr.findNow, h2, a], fun c => .cons _ _ _ _ _ hke hy (b c)⟩
   ·refine .inr ⟨j + 1, e', by simp only [Instr.findNow, h2, a]; congr 3; omega, by simpa using b, c, c2, ?_⟩
    rw [List.modify_succ_cons]
    exact .cons _ _ _ _ _ hke hy f
theorem mdK_sound {str : Bool} {kt : TypeId} (hs : kdOf P kt = some str) {d : TypeDesc} (hd : P.underlying kt = some d) {x : AV} {u : Value} (hx : Rel ρ N x u) : ∀ {es : List (AV × AV)} {fs : List MapEntry} {k : List (AV × AV) → Bool} (i : Nat), RelE ρ N es fs → mdK str x es k = true →
  ∃ es', k es' = true ∧ ((Instr.findNow d u fs i = some none ∧ RelE ρ N es' fs) ∨
   ∃ j v, Instr.findNow d u fs i = some (some (i + j, v)) ∧ j < fs.length ∧ RelE ρ N es' (fs.eraseIdx j))
 | _, _, k, i, .nil, hk => ⟨_, hk, .inl ⟨rfl, .nil⟩⟩
 | _, _, k, i, .cons ka y es e fs hke hy t, hk => by
  obtain ⟨d', r, h1, h2, h3, h4, h5⟩ := kqK_sound hs hx hke (show kqK str x ka _ = true from hk)
  rw [hd] at h1
  cases h1
  cases r with
  | true => exact ⟨_, h3, .inr ⟨0, e.val, by simp only [Instr.findNow, h2, Nat.add_zero], by simp, t⟩⟩
  | false =>
   obtain ⟨es', g1, g2⟩ := mdK_sound hs hd hx (i + 1) t (show mdK str x es (fun es' => k ((ka, y) :: es')) = true from h3)
   refine ⟨_, g1, ?_⟩
   rcases g2 with ⟨a, b⟩ | ⟨j, v, a, b, f⟩
   ·exact .inl ⟨by simp only [Instr.findNow, h2, a], .cons _ _ _ _ _ hke hy b⟩
   ·exact .inr ⟨j + 1, v, by simp only [Instr.findNow, h2, a]; congr 3; omega, by simpa using b, by rw [List.eraseIdx_cons_succ]; exact .cons _ _ _ _ _ hke hy f⟩
theorem run_getObj' {b : Nat} {o : Obj} (hb : w.heap[b]? = some o) (ho : ∀ c t f, o ≠ .cells c t f) : (getObj b).run P w = .ok o w := by
 cases o <;> first | exact (ho _ _ _ rfl).elim | simp only [getObj, Sem.run, hb]
theorem run_setObj' {b : Nat} {o o' : Obj} (hb : w.heap[b]? = some o) (ho : ∀ c t f, o ≠ .cells c t f) : (setObj b o').run P w = .ok () { w with heap := w.heap.setIfInBounds b o' } := by
 cases o <;> first | exact (ho _ _ _ rfl).elim | simp only [setObj, Sem.run, hb]
theorem set_other {b c : Nat} (o : Obj) (h : c ≠ b) : (w.heap.setIfInBounds b o)[c]? = w.heap[c]? := by rw [Array.getElem?_setIfInBounds_ne (Ne.symm h)]
theorem set_same {b : Nat} {o0 : Obj} (o : Obj) (hb : w.heap[b]? = some o0) : (w.heap.setIfInBounds b o)[b]? = some o := by
 have := (Array.getElem?_eq_some_iff.1 hb).1
 rw [Array.getElem?_setIfInBounds_self_of_lt this]
theorem run_findKey {kt : TypeId} {d : TypeDesc} (hd : P.underlying kt = some d) {u : Value} {es : List MapEntry} {r : Option (Nat × Value)} (hf : Instr.findNow d u es 0 = some r) (w : World) : (Instr.findKey kt u es).run P w = .ok r w := by
 simp [Instr.findKey, run_underlying hd, hf]
def mapOf (P : Program) (t : TypeId) : Option (TypeId × TypeId) := match P.underlying t with
 | some (.map k e) => some (k, e)
 | _ => none
theorem mapOf_spec {t kt et : TypeId} (h : mapOf P t = some (kt, et)) : P.underlying t = some (.map kt et) := by
 unfold mapOf at h
 split at h
 ·cases h; assumption
 ·cases h
theorem lkK_sound (E : Emb P ρ h w B) {t kt et : TypeId} (ht : mapOf P t = some (kt, et)) {str ok : Bool} (hs : kdOf P kt = some str) {z : Value} (hz : (P.info? et).bind (·.zero) = some z) {m x : AV} {mv u : Value} (hm : Rel ρ h.nx.num m mv) (hx : Rel ρ h.nx.num x u) {k : AV → Bool} (hk : lkK str ok (zeroOf P et) m x h k = true) :
  Pure1 ρ h.nx.num w ((Instr.lookup t mv u ok).run P w) k := by
 have ht := mapOf_spec ht
 obtain ⟨d, hd, hck⟩ := kd_desc hs
 have hzr : Rel ρ h.nx.num (zeroOf P et) z := by unfold zeroOf; rw [hz]; exact cva_rel _ _ _
 have hzv : (zeroValue et).run P w = .ok z w := by
  cases hi : P.info? et with
  | none => rw [hi] at hz; cases hz
  | some i => rw [hi] at hz; have hz : i.zero = some z := hz; simp [zeroValue, typeInfo, hi, hz]
 have fin : ∀ (y : AV) (v : Value) (b : Bool), Rel ρ h.nx.num y v → fin2 ok y b k = true → Pure1 ρ h.nx.num w (.ok (if ok then .tuple #[v, .bool b] else v) w) k := fun y v b hy hf => by
  cases ok with
  | false => exact ⟨y, v, rfl, hy, hf⟩
  | true => exact ⟨_, .tuple #[v, .bool b], rfl, .t _ [v, .bool b] (.cons _ _ _ _ hy (.cons _ _ _ _ (.b _) .nil)), hf⟩
 cases m <;> first | (cases hk; done) | skip
 case nm =>
  cases hm
  have := fin _ z false hzr hk
  simpa [Instr.lookup, run_underlying ht, hck, run_findKey (P := P) hd (u := u) (es := []) (r := none) rfl, hzv] using this
 case m q =>
  cases hm with
  | m _ hq =>
   dsimp only [lkK] at hk
   rw [HT.getR_eq] at hk
   obtain ⟨es, hg, hk2⟩ := OB.onM_spec hk
   obtain ⟨fs, c, hb, hr, _⟩ := E.map q es hg
   have hgo := run_getObj' (P := P) hb (by intro _ _ _ e; cases e)
   rcases mfK_sound hs hd hx 0 hr hk2 with ⟨h1, h2⟩ | ⟨j, v, y, h1, h2, h3⟩
   ·have := fin _ z false hzr h2
    simpa [Instr.lookup, run_underlying ht, hgo, hck, run_findKey (P := P) hd h1, hzv] using this
   ·have := fin _ v true h2 h3
    simpa [Instr.lookup, run_underlying ht, hgo, hck, run_findKey (P := P) hd h1] using this
theorem lnM_sound (E : Emb P ρ h w B) {t kt et ty : TypeId} (ht : mapOf P t = some (kt, et)) {m : AV} {mv : Value} (hm : Rel ρ h.nx.num m mv) {k : AV → Bool} (hk : lnM m h k = true) : Pure1 ρ h.nx.num w ((Builtin.len_ #[t] ty #[mv]).run P w) k := by
 have ht := mapOf_spec ht
 obtain ⟨q, rfl, hk1⟩ := AV.on_m_spec hk
 clear hk
 cases hm with
 | m _ hq =>
  rw [HT.getR_eq] at hk1
  obtain ⟨es, hg, hk2⟩ := OB.onM_spec hk1
  rw [natK_eq] at hk2
  obtain ⟨fs, c, hb, hr, _⟩ := E.map q es hg
  have hgo := run_getObj' (P := P) hb (by intro _ _ _ e; cases e)
  have hl : es.length = fs.size := by
   have key : ∀ {es : List (AV × AV)} {fs : List MapEntry}, RelE ρ h.nx.num es fs → es.length = fs.length := by
    intro es fs hh
    induction hh with
    | nil => rfl
    | cons _ _ _ _ _ _ _ _ ih => simp [ih]
   rw [key hr]; simp
  refine ⟨_, goInt fs.size, by simp [Builtin.len_, run_underlying ht, hgo], ?_, hk2⟩
  rw [hl]
  exact rel_len _ _ _
def MadeU (P : Program) (ρ : Q → Loc) (h : Hp) (w : World) (B : Nat) {α : Type} (a : α) (r : Result α) (k : Hp → Bool) : Prop :=
 ∃ w' h', r = .ok a w' ∧ Emb P ρ h' w' B ∧ Step ρ h w ρ h' w' ∧ k h' = true
theorem Emb.setMap (E : Emb P ρ h w B) {q : Q} {es : List (AV × AV)} (hg : h.t.get q = .mp es) {es' : List (AV × AV)} {fs' : Array MapEntry} {c' : Nat} (hr : RelE ρ h.nx.num es' fs'.toList) (hc : ∀ e ∈ fs'.toList, e.born < c') :
  Emb P ρ (.mk (h.t.set (.mp es') q) h.nx) { w with heap := w.heap.setIfInBounds (ρ q).blk (.map fs' c') } B ∧ Step ρ h w ρ (.mk (h.t.set (.mp es') q) h.nx) { w with heap := w.heap.setIfInBounds (ρ q).blk (.map fs' c') } := by
 obtain ⟨fs, c, hb, _, _⟩ := E.map q es hg
 exact E.set (by rw [Hp.live, hg]; simp) (.mp es') (by simp) (by simp) (fun c hc => set_other _ hc) rfl rfl rfl (fun _ _ _ hb => by cases hb) (fun es2 he => by cases he; exact ⟨fs', c', set_same _ hb, hr, hc⟩)
theorem muD_sound (E : Emb P ρ h w B) {t kt et : TypeId} (ht : mapOf P t = some (kt, et)) {str : Bool} (hs : kdOf P kt = some str) {m x z : AV} {mv u zv : Value} (hm : Rel ρ h.nx.num m mv) (hx : Rel ρ h.nx.num x u) (hz : Rel ρ h.nx.num z zv) {k : Hp → Bool} (hk : muD str m x z h k = true) :
  MadeU P ρ h w B () ((Instr.mapUpdate t mv u zv).run P w) k := by
 have ht := mapOf_spec ht
 obtain ⟨d, hd, hck⟩ := kd_desc hs
 obtain ⟨q, rfl, hk1⟩ := AV.on_m_spec hk
 clear hk
 cases hm with
 | m _ hq =>
  rw [HT.getR_eq] at hk1
  obtain ⟨es, hg, hk2⟩ := OB.onM_spec hk1
  obtain ⟨fs, c, hb, hr, hborn⟩ := E.map q es hg
  have hgo := run_getObj' (P := P) hb (by intro _ _ _ e; cases e)
  obtain ⟨es', hk3, hcase⟩ := muK_sound hs hd hx hz 0 hr hk2
  rw [HT.setK_eq] at hk3
  rcases hcase with ⟨h1, h2⟩ | ⟨j, e, h1, h2, h3, h4, h5⟩
  ·obtain ⟨a1, a2⟩ := E.setMap hg (es' := es') (fs' := fs.push { key := u, val := zv, born := c }) (c' := c + 1) (by simpa using h2 c) (fun e he => by
    rw [Array.toList_push] at he
    rcases List.mem_append.1 he with he | he
    ·have := hborn e he; omega
    ·rcases List.mem_singleton.1 he with rfl; simp)
   exact ⟨_, _, by simp [Instr.mapUpdate, run_underlying ht, hgo, hck, run_findKey (P := P) hd h1, run_setObj' (P := P) hb (by intro _ _ _ e; cases e)], a1, a2, hk3⟩
  ·have hj : fs[j]? = some e := by rw [← Array.getElem?_toList]; exact h2
   have hks : (Instr.keyThatStays (((fs[0 + j]?).map (·.key)).getD u) u).run P w = .ok u w := by
    simp [hj, h3, Instr.keyThatStays, h4]
   rw [Nat.zero_add] at hks h1
   obtain ⟨a1, a2⟩ := E.setMap hg (es' := es') (fs' := fs.modify j fun e => { e with key := u, val := zv }) (c' := c) (by rw [Array.toList_modify]; exact h5) (fun e' he => by
    rw [Array.toList_modify] at he
    obtain ⟨i, hi⟩ := List.mem_iff_getElem?.1 he
    rw [List.getElem?_modify] at hi
    cases hfi : fs.toList[i]? with
    | none => rw [hfi] at hi; simp at hi
    | some e0 =>
     rw [hfi] at hi
     have hb0 := hborn e0 (List.mem_of_getElem? hfi)
     by_cases hij : j = i
     ·simp [hij] at hi; rw [← hi]; exact hb0
     ·simp [hij] at hi; rw [← hi]; exact hb0)
   refine ⟨_, _, ?_, a1, a2, hk3⟩
   simp only [Instr.mapUpdate, Sem.run_bind, run_underlying ht, Result.andThen_ok, hgo, hck, run_findKey (P := P) hd h1, hks, run_setObj' (P := P) hb (by intro _ _ _ e; cases e)]
theorem mdD_sound (E : Emb P ρ h w B) {t kt et u2 ty : TypeId} (ht : mapOf P t = some (kt, et)) {str : Bool} (hs : kdOf P kt = some str) {m x : AV} {mv u : Value} (hm : Rel ρ h.nx.num m mv) (hx : Rel ρ h.nx.num x u) {k : Hp → Bool} (hk : mdD str m x h k = true) :
  MadeU P ρ h w B (.tuple #[]) ((Builtin.delete_ #[t, u2] ty #[mv, u]).run P w) k := by
 have ht := mapOf_spec ht
 obtain ⟨d, hd, hck⟩ := kd_desc hs
 obtain ⟨q, rfl, hk1⟩ := AV.on_m_spec hk
 clear hk
 cases hm with
 | m _ hq =>
  rw [HT.getR_eq] at hk1
  obtain ⟨es, hg, hk2⟩ := OB.onM_spec hk1
  obtain ⟨fs, c, hb, hr, hborn⟩ := E.map q es hg
  have hgo := run_getObj' (P := P) hb (by intro _ _ _ e; cases e)
  obtain ⟨es', hk3, hcase⟩ := mdK_sound hs hd hx 0 hr hk2
  rw [HT.setK_eq] at hk3
  rcases hcase with ⟨h1, h2⟩ | ⟨j, v, h1, h2, h3⟩
  ·obtain ⟨a1, a2⟩ := E.setMap hg (es' := es') (fs' := fs) (c' := c) h2 hborn
   exact ⟨_, _, by simp [Builtin.delete_, run_underlying ht, hgo, hck, run_findKey (P := P) hd h1, run_setObj' (P := P) hb (by intro _ _ _ e; cases e)], a1, a2, hk3⟩
  ·rw [Nat.zero_add] at h1
   have hj : j < fs.size := by simpa using h2
   have he : (fs.eraseIdxIfInBounds j).toList = fs.toList.eraseIdx j := by simp
   obtain ⟨a1, a2⟩ := E.setMap hg (es' := es') (fs' := fs.eraseIdxIfInBounds j) (c' := c) (by rw [he]; exact h3) (fun e hm => by rw [he] at hm; exact hborn e (List.mem_of_mem_eraseIdx hm))
   exact ⟨_, _, by simp [Builtin.delete_, run_underlying ht, hgo, hck, run_findKey (P := P) hd h1, run_setObj' (P := P) hb (by intro _ _ _ e; cases e)], a1, a2, hk3⟩
theorem mmD_sound (E : Emb P ρ h w B) {t : TypeId} {k : AV → Hp → Bool} (hk : mmD h k = true) : Made P ρ h w B ((Instr.makeMap t none).run P w) k := by
 unfold mmD at hk
 rw [HT.setK_eq, Q.succK_eq] at hk
 obtain ⟨a1, a2⟩ := E.new' (w' := { w with heap := w.heap.push (.map #[] 0) }) h.t (fun _ => .inr rfl) (.map #[] 0) rfl rfl rfl rfl (.mp []) (by simp) 0 (fun _ _ _ hb => by cases hb) (fun es he => by cases he; exact ⟨#[], 0, by simp, .nil, by simp⟩)
 refine ⟨_, .map (some w.heap.size), _, _, _, by simp [Instr.makeMap], a1, a2, ?_, hk⟩
 have := Rel.m (ρ := upd ρ h.nx { blk := w.heap.size, base := 0, cap := 0 }) (N := h.nx.succ.num) h.nx (by rw [Q.num_succ]; omega)
 rw [upd_same] at this
 exact this
theorem rsD_sound (E : Emb P ρ h w B) {t : TypeId} (ht : P.underlying t = some .string) {x : AV} {u : Value} (hx : Rel ρ h.nx.num x u) {k : AV → Hp → Bool} (hk : rsD x h k = true) : Made P ρ h w B ((Instr.range t u).run P w) k := by
 obtain ⟨n, l, rfl, hk1⟩ := AV.on_s_spec hk
 clear hk
 rw [HT.setK_eq, Q.succK_eq] at hk1
 cases hx with
 | s s =>
  obtain ⟨a1, a2⟩ := E.new' (w' := { w with heap := w.heap.push (.stringIter s 0) }) h.t (fun _ => .inr rfl) (.stringIter s 0) rfl rfl rfl rfl (.si 0 (s.data.toList.map UInt8.toNat)) (by simp) 0 (fun _ _ _ hb => by cases hb) (fun es he => by cases he) (fun o l he => by cases he; exact ⟨s, by simp, by simp, rfl⟩)
  refine ⟨_, .pointer (some ⟨w.heap.size, 0, none⟩), _, _, _, by simp [Instr.range, run_underlying ht], a1, a2, ?_, hk1⟩
  have := Rel.p (ρ := upd ρ h.nx { blk := w.heap.size, base := 0, cap := 0 }) (N := h.nx.succ.num) h.nx 0 (by rw [Q.num_succ]; omega)
  rw [upd_same] at this
  exact this
theorem nsD_sound (E : Emb P ρ h w B) {ty : TypeId} {x : AV} {u : Value} (hx : Rel ρ h.nx.num x u) {k : AV → Hp → Bool} (hk : nsD x h k = true) : Made P ρ h w B ((Instr.next u true ty).run P w) k := by
 obtain ⟨q, o, rfl, hk1⟩ := AV.on_p_spec hk
 clear hk
 obtain ⟨ho, hk2⟩ := ifT_eq hk1
 subst ho
 rw [HT.getR_eq] at hk2
 obtain ⟨pos, l, hg, hk3⟩ := OB.onS_spec hk2
 obtain ⟨s, hb, hdrop, hbase⟩ := E.si q pos l hg
 have hgo := run_getObj' (P := P) hb (by intro _ _ _ e; cases e)
 cases hx with
 | p _ _ hq =>
  have hsz : (s.data.toList.map UInt8.toNat).length = s.size := by simp
  rw [hbase]
  cases l with
  | nil =>
   have hle : ¬ pos < s.size := by
    intro hlt
    have := congrArg List.length hdrop
    rw [List.length_drop, hsz] at this
    simp at this
    omega
   exact ⟨_, .tuple #[.bool false], w, ρ, h, by simp [Instr.next, hgo, hle], E, Step.refl _ _ _, .t _ [.bool false] (.cons _ _ _ _ (.b _) .nil), hk3⟩
  | cons b t =>
   obtain ⟨hb128, hk4⟩ := ifT_lt hk3
   rw [natK_eq, HT.setK_eq] at hk4
   have hlt : pos < s.size := by
    have := congrArg List.length hdrop
    rw [List.length_drop, hsz] at this
    simp at this
    omega
   have hlt2 : pos < (s.data.toList.map UInt8.toNat).length := by omega
   have hdd := List.drop_eq_getElem_cons hlt2
   rw [hdrop] at hdd
   have hb0 : b = (s[pos]'hlt).toNat := by
    have := (List.cons.inj hdd).1
    rw [this, List.getElem_map]
    rfl
   have ht0 := (List.cons.inj hdd).2
   have hdec := decode_ascii s pos hlt (by rw [← hb0]; exact hb128)
   obtain ⟨a1, a2⟩ := E.set (w' := { w with heap := w.heap.setIfInBounds (ρ q).blk (.stringIter s (pos + 1)) }) (q := q) (by rw [Hp.live, hg]; simp) (.si (pos + 1) t) (by simp) (by simp) (fun c hc => set_other _ hc) rfl rfl rfl (fun _ _ _ hb => by cases hb) (fun es2 he => by cases he)
    (fun o l he => by cases he; exact ⟨s, set_same _ hb, ht0.symm, hbase⟩)
   refine ⟨_, .tuple #[.bool true, goInt pos, .int .i32 (s[pos]'hlt).toNat], _, _, _, ?_, a1, a2, .t _ [.bool true, goInt pos, .int .i32 (s[pos]'hlt).toNat] (.cons _ _ _ _ (.b _) (.cons _ _ _ _ (rel_len _ _ _) (.cons _ _ _ _ ?_ .nil))), hk4⟩
   ·simp [Instr.next, hgo, hlt, hdec, run_setObj' (P := P) hb (by intro _ _ _ e; cases e)]
   ·rw [hb0]
    have := Rel.i (ρ := ρ) (N := h.nx.num) .i32 ((s[pos]'hlt).toNat + 9223372036854775808)
    rw [Int.natCast_add, show (((9223372036854775808 : Nat) : Int)) = 9223372036854775808 from rfl, Int.add_sub_cancel] at this
    exact this
end
def symLen (i : Nat) (k : AV → Bool) : Bool := k (.y (.iv .i64 (Nat.add (syLo i) 9223372036854775808) (Nat.add (syHi i) 9223372036854775808)))
def lnSY (x : AV) (k : AV → Bool) : Bool := x.yK (fun s => s.on_os fun i => symLen i k) (lnS x k)
def lnLY (x : AV) (k : AV → Bool) : Bool := x.yK (fun s => Sy.casesOn (motive := fun _ => Bool) s (fun _ => false) (fun _ _ _ => false) (fun _ i => symLen i k) (fun _ a b => k (.y (.iv .i64 (Nat.add a 9223372036854775808) (Nat.add b 9223372036854775808)))) (fun _ _ => false)) (lnL x k)
def bndK (x : AV) (f : IntKind → Nat → Nat → Bool) : Bool := AV.casesOn (motive_1 := fun _ => Bool) x false (fun _ => false) (fun kd a => f kd a a) (fun _ _ => false) false (fun _ _ => false) false (fun _ _ _ _ => false) false (fun _ _ _ => false) false false (fun _ => false) false (fun _ => false) (fun _ => false) (fun _ _ => false) (fun s => s.on_iv f)
def decB (yes no : Bool) (k : AV → Bool) : Bool := Bool.casesOn (motive := fun _ => Bool) yes (Bool.casesOn (motive := fun _ => Bool) no false (k (.b false))) (k (.b true))
def ivB (op : BinOp) (kd : IntKind) (a b c d : Nat) (k : AV → Bool) : Bool :=
 BinOp.casesOn (motive := fun _ => Bool) op
  (ifT (Nat.beq (kN kd) 3) (ifT (Nat.ble 9223372036854775808 (Nat.add a c)) (ifT (Nat.blt (Nat.add b d) 27670116110564327424) (k (.y (.iv kd (Nat.sub (Nat.add a c) 9223372036854775808) (Nat.sub (Nat.add b d) 9223372036854775808)))))))
  (ifT (Nat.beq (kN kd) 3) (ifT (Nat.ble d (Nat.add a 9223372036854775808)) (ifT (Nat.blt (Nat.add b 9223372036854775808) (Nat.add c 18446744073709551616)) (k (.y (.iv kd (Nat.sub (Nat.add a 9223372036854775808) d) (Nat.sub (Nat.add b 9223372036854775808) c)))))))
  false false false false false false false false false
  (decB false (orB (Nat.blt b c) (Nat.blt d a)) k) (decB (orB (Nat.blt b c) (Nat.blt d a)) false k) (decB (Nat.blt b c) (Nat.ble d a) k) (decB (Nat.ble b c) (Nat.blt d a) k) (decB (Nat.blt d a) (Nat.ble b c) k) (decB (Nat.ble d a) (Nat.blt b c) k)
def ivP (op : BinOp) (x y : AV) (k : AV → Bool) : Bool := bndK x fun kd a b => bndK y fun ke c d => ifT (Nat.beq (kN kd) (kN ke)) (ivB op kd a b c d k)
def ikY (op : BinOp) (x y : AV) (k : AV → Bool) : Bool := x.yK (fun _ => ivP op x y k) (y.yK (fun _ => ivP op x y k) (ikK op x y k))
def ciY (dst : IntKind) (x : AV) (k : AV → Bool) : Bool := x.yK (fun s => s.on_iv fun kd a b => ifT (Nat.beq (kN kd) 3) (ifT (Nat.beq (kN dst) 3) (ifT (Nat.blt b 18446744073709551616) (k (.y (.iv dst a b)))))) (ciK dst x k)
noncomputable def stY (op : BinOp) (x y : AV) (k : AV → Bool) : Bool := osK x y (stK op x y k) (eqB op true k)
def csY (x : AV) (k : AV → Bool) : Bool := x.yK (fun s => s.on_os fun i => k (.y (.os i))) (csK x k)
noncomputable def cbY (x : AV) (h : Hp) (k : AV → Bool) : Bool := x.yK (fun s => s.on_so fun q i => (HT.getR q h.t).onY fun o => o.on_op fun j => ifT (Nat.beq i j) (k (.y (.os i)))) (cbK x h k)
noncomputable def sb2Y (el : Nat) (x : AV) (h : Hp) (k : AV → Hp → Bool) : Bool := x.yK (fun s => s.on_os fun i => HT.setK (.y (.op i)) h.nx h.t fun t' => h.nx.succK fun n' => k (.y (.so h.nx i)) (.mk t' n')) (sb2K el x h k)
theorem syLen_ok (i : Nat) : syHi i ≤ 309 := by
 match i with
 | 0 => decide
 | 1 => decide
 | _ + 2 => exact Nat.le_refl _
section
variable {P : Program} {ρ : Q → Loc} {h : Hp} {w : World} {B N : Nat}
theorem Emb.blk_lt' (E : Emb P ρ h w B) {q : Q} (hq : h.live q) : (ρ q).blk < w.heap.size := by
 have sh : ∀ {x : Nat × Nat}, w.shape? (ρ q).blk = some x → (ρ q).blk < w.heap.size := fun h1 => by
  unfold World.shape? at h1
  by_cases hh : (ρ q).blk < w.heap.size
  ·exact hh
  ·rw [Array.getElem?_eq_none (by omega)] at h1; cases h1
 cases hg : h.t.get q with
 | no => exact (hq hg).elim
 | bk ty n v =>
  obtain ⟨sz, h1, _⟩ := (E.row q ty n v hg).at_
  exact sh h1
 | mp es =>
  obtain ⟨fs, c, h1, _⟩ := E.map q es hg
  exact (Array.getElem?_eq_some_iff.1 h1).1
 | si o l =>
  obtain ⟨s, h1, _⟩ := E.si q o l hg
  exact (Array.getElem?_eq_some_iff.1 h1).1
 | y o =>
  cases o with
  | op i =>
   obtain ⟨s, h1⟩ := (E.op q i hg).2.1
   exact (Array.getElem?_eq_some_iff.1 h1).1
  | soup ty =>
   obtain ⟨sz, h1, _⟩ := (E.soup q ty hg).at_
   exact sh h1
  | dm ty q0 us =>
   obtain ⟨fs, c, h1, _⟩ := (E.dm q ty q0 us hg).2
   exact (Array.getElem?_eq_some_iff.1 h1).1
theorem World.cell?_of_cells {w : World} {b : Nat} {c : Array Value} {ty : TypeId} {fz : Nat × Nat} (hh : w.heap[b]? = some (.cells c ty fz)) (j : Nat) : w.cell? ⟨b, j, none⟩ = c[j]? := by
 unfold World.cell?
 simp [hh]
theorem symLen_sound {i : Nat} (hb : SyOk ρ i) {k : AV → Bool} (hk : symLen i k = true) : ∃ y, Rel ρ N y (goInt (txt ρ i).size) ∧ k y = true := by
 refine ⟨_, ?_, hk⟩
 have := Rel.iv (ρ := ρ) (N := N) .i64 (syLo i + 9223372036854775808) (syHi i + 9223372036854775808) ((txt ρ i).size + 9223372036854775808) (by have := hb.1; omega) (by have := hb.2.1; omega)
 rw [Int.natCast_add, show (((9223372036854775808 : Nat) : Int)) = 9223372036854775808 from rfl, Int.add_sub_cancel] at this
 exact this
theorem lnSY_sound {t ty : Nat} (ht : P.underlying t = some .string) {x : AV} {u : Value} (hx : Rel ρ N x u) {k : AV → Bool} (hk : lnSY x k = true) (w : World) : Pure1 ρ N w ((Builtin.len_ #[t] ty #[u]).run P w) k := by
 rcases AV.yK_spec hk with ⟨s, rfl, h1⟩ | h1
 ·obtain ⟨i, rfl, h2⟩ := Sy.on_os_spec h1
  cases hx with
  | os _ _ hb =>
   obtain ⟨y, h3, h4⟩ := symLen_sound (N := N) hb h2
   exact ⟨y, _, by simp [Builtin.len_, run_underlying ht], h3, h4⟩
 ·exact lnS_sound ht hx h1 w
theorem lnLY_sound {t e ty : Nat} (ht : P.underlying t = some (.slice e)) {x : AV} {u : Value} (hx : Rel ρ N x u) {k : AV → Bool} (hk : lnLY x k = true) (w : World) : Pure1 ρ N w ((Builtin.len_ #[t] ty #[u]).run P w) k := by
 rcases AV.yK_spec hk with ⟨s, rfl, h1⟩ | h1
 ·cases hx with
  | os => cases h1
  | iv => cases h1
  | so q i c _ _ hb _ _ =>
   obtain ⟨y, h3, h4⟩ := symLen_sound (N := N) hb h1
   exact ⟨y, _, by simp [Builtin.len_, run_underlying ht], h3, h4⟩
  | sv => cases h1
  | su q lo hi n c _ h1' h2' _ _ _ _ =>
   refine ⟨_, goInt n, by simp [Builtin.len_, run_underlying ht], ?_, h1⟩
   have := Rel.iv (ρ := ρ) (N := N) .i64 (lo + 9223372036854775808) (hi + 9223372036854775808) (n + 9223372036854775808) (by omega) (by omega)
   rw [Int.natCast_add, show (((9223372036854775808 : Nat) : Int)) = 9223372036854775808 from rfl, Int.add_sub_cancel] at this
   exact this
 ·exact lnL_sound ht hx h1 w
theorem bndK_spec {x : AV} {u : Value} (hx : Rel ρ N x u) {f : IntKind → Nat → Nat → Bool} (hf : bndK x f = true) : ∃ kd a b n, u = .int kd ((n : Nat) - 9223372036854775808 : Int) ∧ a ≤ n ∧ n ≤ b ∧ f kd a b = true := by
 cases hx <;> first | (cases hf; done) | skip
 case i kd n => exact ⟨kd, n, n, n, rfl, Nat.le_refl _, Nat.le_refl _, hf⟩
 case iv kd a b n h1 h2 => exact ⟨kd, a, b, n, rfl, h1, h2, hf⟩
theorem decB_spec {yes no : Bool} {k : AV → Bool} (hk : decB yes no k = true) : (yes = true ∧ k (.b true) = true) ∨ (no = true ∧ k (.b false) = true) := by
 unfold decB at hk
 cases yes with
 | true => exact .inl ⟨rfl, hk⟩
 | false => cases no with
  | true => exact .inr ⟨rfl, hk⟩
  | false => cases hk
theorem orB_eq (a b : Bool) : orB a b = (a || b) := by cases a <;> cases b <;> rfl
theorem kN3 {kd : IntKind} (h : kN kd = 3) : kd = .i64 := by cases kd <;> first | rfl | cases h
theorem i64_wrap {x : Int} (h0 : -9223372036854775808 ≤ x) (h1 : x < 9223372036854775808) : IntKind.i64.wrap x = x := by rw [(wrapI x).2.2.2]; omega
theorem ivB_sound {op : BinOp} {kd : IntKind} {a b c d n m : Nat} (h1 : a ≤ n) (h2 : n ≤ b) (h3 : c ≤ m) (h4 : m ≤ d) {k : AV → Bool} (hk : ivB op kd a b c d k = true) (t : TypeId) (w : World) :
  Pure1 ρ N w ((binOp op t (.int kd ((n : Int) - 9223372036854775808)) (.int kd ((m : Int) - 9223372036854775808))).run P w) k := by
 cases op <;> first | (cases hk; done) | skip
 case add =>
  obtain ⟨e1, hk⟩ := ifT_eq (show ifT _ _ = true from hk)
  obtain ⟨e2, hk⟩ := ifT_le hk
  obtain ⟨e3, hk⟩ := ifT_lt hk
  have e2 : 9223372036854775808 ≤ a + c := e2
  have e3 : b + d < 27670116110564327424 := e3
  obtain rfl := kN3 e1
  refine ⟨_, _, run_iadd .., ?_, hk⟩
  rw [i64_wrap (by omega) (by omega)]
  have := Rel.iv (ρ := ρ) (N := N) .i64 (a + c - 9223372036854775808) (b + d - 9223372036854775808) (n + m - 9223372036854775808) (by omega) (by omega)
  rw [Int.natCast_sub (by omega)] at this
  have e : (n : Int) - 9223372036854775808 + ((m : Int) - 9223372036854775808) = ((n + m : Nat) : Int) - ((9223372036854775808 : Nat) : Int) - 9223372036854775808 := by omega
  rw [e]
  exact this
 case sub =>
  obtain ⟨e1, hk⟩ := ifT_eq (show ifT _ _ = true from hk)
  obtain ⟨e2, hk⟩ := ifT_le hk
  obtain ⟨e3, hk⟩ := ifT_lt hk
  have e2 : d ≤ a + 9223372036854775808 := e2
  have e3 : b + 9223372036854775808 < c + 18446744073709551616 := e3
  obtain rfl := kN3 e1
  refine ⟨_, _, run_isub .., ?_, hk⟩
  rw [i64_wrap (by omega) (by omega)]
  have := Rel.iv (ρ := ρ) (N := N) .i64 (a + 9223372036854775808 - d) (b + 9223372036854775808 - c) (n + 9223372036854775808 - m) (by omega) (by omega)
  rw [Int.natCast_sub (by omega)] at this
  have e : (n : Int) - 9223372036854775808 - ((m : Int) - 9223372036854775808) = ((n + 9223372036854775808 : Nat) : Int) - (m : Int) - 9223372036854775808 := by omega
  rw [e]
  exact this
 case eql =>
  dsimp only [ivB] at hk
  rcases decB_spec hk with ⟨e, hk⟩ | ⟨e, hk⟩
  ·cases e
  ·refine ⟨_, _, run_ieql .., ?_, hk⟩
   rw [orB_eq, Bool.or_eq_true, Nat.blt_eq, Nat.blt_eq] at e
   rw [show ((n : Int) - 9223372036854775808 == (m : Int) - 9223372036854775808) = false from by rw [beq_eq_false_iff_ne]; omega]
   exact .b _
 case neq =>
  dsimp only [ivB] at hk
  rcases decB_spec hk with ⟨e, hk⟩ | ⟨e, hk⟩
  ·refine ⟨_, _, run_ineq .., ?_, hk⟩
   rw [orB_eq, Bool.or_eq_true, Nat.blt_eq, Nat.blt_eq] at e
   rw [show ((n : Int) - 9223372036854775808 != (m : Int) - 9223372036854775808) = true from by rw [bne_iff_ne]; omega]
   exact .b _
  ·cases e
 case lss =>
  dsimp only [ivB] at hk
  rcases decB_spec hk with ⟨e, hk⟩ | ⟨e, hk⟩
  ·rw [Nat.blt_eq] at e
   exact ⟨_, _, run_ilss .., by rw [decide_eq_true (by omega)]; exact .b _, hk⟩
  ·rw [Nat.ble_eq] at e
   exact ⟨_, _, run_ilss .., by rw [decide_eq_false (by omega)]; exact .b _, hk⟩
 case leq =>
  dsimp only [ivB] at hk
  rcases decB_spec hk with ⟨e, hk⟩ | ⟨e, hk⟩
  ·rw [Nat.ble_eq] at e
   exact ⟨_, _, run_ileq .., by rw [decide_eq_true (by omega)]; exact .b _, hk⟩
  ·rw [Nat.blt_eq] at e
   exact ⟨_, _, run_ileq .., by rw [decide_eq_false (by omega)]; exact .b _, hk⟩
 case gtr =>
  dsimp only [ivB] at hk
  rcases decB_spec hk with ⟨e, hk⟩ | ⟨e, hk⟩
  ·rw [Nat.blt_eq] at e
   exact ⟨_, _, run_igtr .., by rw [decide_eq_true (by omega)]; exact .b _, hk⟩
  ·rw [Nat.ble_eq] at e
   exact ⟨_, _, run_igtr .., by rw [decide_eq_false (by omega)]; exact .b _, hk⟩
 case geq =>
  dsimp only [ivB] at hk
  rcases decB_spec hk with ⟨e, hk⟩ | ⟨e, hk⟩
  ·rw [Nat.ble_eq] at e
   exact ⟨_, _, run_igeq .., by rw [decide_eq_true (by omega)]; exact .b _, hk⟩
  ·rw [Nat.blt_eq] at e
   exact ⟨_, _, run_igeq .., by rw [decide_eq_false (by omega)]; exact .b _, hk⟩
theorem ivP_sound {op : BinOp} {x y : AV} {u v : Value} (hx : Rel ρ N x u) (hy : Rel ρ N y v) {k : AV → Bool} (hk : ivP op x y k = true) (t : TypeId) (w : World) : Pure1 ρ N w ((binOp op t u v).run P w) k := by
 obtain ⟨kd, a, b, n, rfl, h1, h2, hk2⟩ := bndK_spec hx hk
 obtain ⟨ke, c, d, m, rfl, h3, h4, hk3⟩ := bndK_spec hy hk2
 obtain ⟨he, hk4⟩ := ifT_eq hk3
 have := kN_inj he
 subst this
 exact ivB_sound h1 h2 h3 h4 hk4 t w
theorem ikY_sound {op : BinOp} {x y : AV} {u v : Value} (hx : Rel ρ N x u) (hy : Rel ρ N y v) {k : AV → Bool} (hk : ikY op x y k = true) (t : TypeId) (w : World) : Pure1 ρ N w ((binOp op t u v).run P w) k := by
 rcases AV.yK_spec hk with ⟨s, _, h1⟩ | h1
 ·exact ivP_sound hx hy h1 t w
 ·rcases AV.yK_spec h1 with ⟨s, _, h2⟩ | h2
  ·exact ivP_sound hx hy h2 t w
  ·exact ikK_sound hx hy h2 t w
theorem ikY_int {op : BinOp} {x y : AV} {u : Value} (hx : Rel ρ N x u) {k : AV → Bool} (hk : ikY op x y k = true) : ∃ kd n, u = .int kd n := by
 have iv : ivP op x y k = true → ∃ kd n, u = .int kd n := fun h1 => by
  obtain ⟨kd, a, b, n, hu, _⟩ := bndK_spec hx h1
  exact ⟨_, _, hu⟩
 rcases AV.yK_spec hk with ⟨s, _, h1⟩ | h1
 ·exact iv h1
 ·rcases AV.yK_spec h1 with ⟨s, _, h2⟩ | h2
  ·exact iv h2
  ·obtain ⟨_, _, rfl, _⟩ := AV.on_i_spec h2
   cases hx
   exact ⟨_, _, rfl⟩
theorem stY_str {op : BinOp} {x y : AV} {u : Value} (hx : Rel ρ N x u) {k : AV → Bool} (hk : stY op x y k = true) : ∃ s, u = .string s := by
 rcases osK_spec hk with ⟨i, rfl, rfl, h1⟩ | h1
 ·cases hx
  exact ⟨_, rfl⟩
 ·obtain ⟨_, _, rfl, _⟩ := AV.on_s_spec h1
  cases hx
  exact ⟨_, rfl⟩
theorem ciY_sound {s t : Nat} {sd : TypeDesc} {dst : IntKind} (hs : P.underlying s = some sd) (ht : P.underlying t = some (.int dst)) {x : AV} {u : Value} (hx : Rel ρ N x u) {k : AV → Bool} (hk : ciY dst x k = true) (w : World) : Pure1 ρ N w ((convert s t u).run P w) k := by
 rcases AV.yK_spec hk with ⟨sy, rfl, h1⟩ | h1
 ·obtain ⟨kd, a, b, rfl, h2⟩ := Sy.on_iv_spec h1
  obtain ⟨e1, h3⟩ := ifT_eq h2
  obtain ⟨e2, h4⟩ := ifT_eq h3
  obtain ⟨e3, h5⟩ := ifT_lt h4
  obtain rfl := kN3 e1
  obtain rfl := kN3 e2
  cases hx with
  | iv _ _ _ n g1 g2 =>
   refine ⟨_, .int .i64 ((n : Int) - 9223372036854775808), ?_, .iv _ _ _ n g1 g2, h5⟩
   have := i64_wrap (x := (n : Int) - 9223372036854775808) (by omega) (by omega)
   simp [convert, run_underlying hs, run_underlying ht, Conv.intToInt, this]
 ·exact ciK_sound hs ht hx h1 w
theorem stY_sound {op : BinOp} {x y : AV} {u v : Value} (hx : Rel ρ N x u) (hy : Rel ρ N y v) {k : AV → Bool} (hk : stY op x y k = true) (t : TypeId) (w : World) : Pure1 ρ N w ((binOp op t u v).run P w) k := by
 rcases osK_spec hk with ⟨i, rfl, rfl, h1⟩ | h1
 ·cases hx
  cases hy
  rcases eqB_spec h1 with ⟨rfl, h2⟩ | ⟨rfl, h2⟩
  ·exact ⟨_, .bool true, by simp [binOp, Op.stringOp], .b _, h2⟩
  ·exact ⟨_, .bool false, by simp [binOp, Op.stringOp], .b _, h2⟩
 ·exact stK_sound hx hy h1 t w
theorem csY_sound {s t : Nat} (hs : P.underlying s = some .string) (ht : P.underlying t = some .string) {x : AV} {u : Value} (hx : Rel ρ N x u) {k : AV → Bool} (hk : csY x k = true) (w : World) : Pure1 ρ N w ((convert s t u).run P w) k := by
 rcases AV.yK_spec hk with ⟨sy, rfl, h1⟩ | h1
 ·obtain ⟨i, rfl, h2⟩ := Sy.on_os_spec h1
  cases hx with
  | os _ h0 hb => exact ⟨_, .string (txt ρ i), by simp [convert, run_underlying hs, run_underlying ht], .os i h0 hb, h2⟩
 ·exact csK_sound hs ht hx h1 w
theorem foldl_push : ∀ (l : List UInt8) (s : ByteArray), ((l.map fun b => (b.toNat : Int)).foldl (fun r n => r.push (UInt8.ofNat n.toNat)) s).data.toList = s.data.toList ++ l
 | [], s => by simp
 | b :: l, s => by
  simp only [List.map_cons, List.foldl_cons]
  rw [foldl_push l _]
  simp [ByteArray.push]
theorem ba_get_list (s : ByteArray) (j : Nat) (h : j < s.size) : s.data.toList[j]? = some (s.get j h) := by
 have : j < s.data.toList.length := by simpa using h
 rw [List.getElem?_eq_getElem this]
 simp [ByteArray.get]
theorem OpAt.load {l : Loc} {i : Nat} (hO : OpAt ρ w l i) : (loadCells ⟨l.blk, l.base, none⟩ (txt ρ i).size).run P w = .ok (((txt ρ i).data.toList.map fun b => (b.toNat : Int)).map (Value.int .u8)).toArray w := by
 have := run_loadCells_list (P := P) w ⟨l.blk, l.base, none⟩ (((txt ρ i).data.toList.map fun b => (b.toNat : Int)).map (Value.int .u8)) (fun j u hu => by
  have hj := (List.getElem?_eq_some_iff.1 hu).1
  have hj2 : j < (txt ρ i).size := by simpa using hj
  rw [Addr.add_none, hO.2 j hj2]
  rw [List.getElem?_map, List.getElem?_map, ba_get_list _ j hj2] at hu
  exact hu)
 simpa using this
theorem cbY_sound (E : Emb P ρ h w B) {s t e : Nat} (hs : P.underlying s = some (.slice e)) (he : P.underlying e = some (.int .u8)) (ht : P.underlying t = some .string) {x : AV} {u : Value} (hx : Rel ρ h.nx.num x u) {k : AV → Bool} (hk : cbY x h k = true) : Pure1 ρ h.nx.num w ((convert s t u).run P w) k := by
 rcases AV.yK_spec hk with ⟨sy, rfl, h1⟩ | h1
 ·obtain ⟨q, i, rfl, h2⟩ := Sy.on_so_spec h1
  rw [HT.getR_eq] at h2
  obtain ⟨o, hg, h3⟩ := OB.onY_spec h2
  obtain ⟨j, rfl, h4⟩ := Oy.on_op_spec h3
  obtain ⟨e1, h5⟩ := ifT_eq h4
  subst e1
  cases hx with
  | so _ _ c hq h0 hb hc hm =>
   have hrun := run_bytesToString (P := P) w ⟨(ρ q).blk, (ρ q).base, none⟩ (txt ρ i).size c _ (OpAt.load (P := P) (E.op q i hg).2)
   refine ⟨_, _, by rw [run_convert_bytes_string w s t e _ _ c hs he ht]; exact hrun, ?_, h5⟩
   have hp : ((txt ρ i).data.toList.map fun b => (b.toNat : Int)).foldl (fun r n => r.push (UInt8.ofNat n.toNat)) ByteArray.empty = txt ρ i := by
    apply ByteArray.ext
    apply Array.ext'
    rw [foldl_push]
    simp
   rw [hp]
   exact .os i h0 hb
 ·exact cbK_sound E hs he ht hx h1
theorem sb2Y_sound (E : Emb P ρ h w B) {s t e : Nat} (hs : P.underlying s = some .string) (ht : P.underlying t = some (.slice e)) (he : P.underlying e = some (.int .u8)) (hsz : P.cellsOf e = 1) {x : AV} {u : Value} (hx : Rel ρ h.nx.num x u) {k : AV → Hp → Bool} (hk : sb2Y e x h k = true) : Made P ρ h w B ((convert s t u).run P w) k := by
 rcases AV.yK_spec hk with ⟨sy, rfl, h1⟩ | h1
 ·obtain ⟨i, rfl, h2⟩ := Sy.on_os_spec h1
  rw [HT.setK_eq, Q.succK_eq] at h2
  cases hx with
  | os _ h0 hb =>
   have hge := grownCap_ge w (txt ρ i).size 0 e
   have hhi := syLen_ok i
   have hb2 := hb.2.1
   have hgm : grownCap w (txt ρ i).size 0 e ≤ 9223372036854775807 := grownCap_le_maxLen w (txt ρ i).size 0 e (by unfold maxLen; omega)
   have hrun := run_bytes_of_string (P := P) w _ _ e (txt ρ i) hs ht he
   generalize hC : grownCap w (txt ρ i).size 0 e = C at *
   have hlt := fun r (hr : h.live r) => E.blk_lt' hr
   have htx : ∀ l : Loc, txt (upd ρ h.nx l) i = txt ρ i := fun l => by unfold txt; rw [upd_lt ρ h.nx l .e h0]
   obtain ⟨a1, a2⟩ := E.lay (w' := w.drew.alloc (.cells (bytesRow (txt ρ i) C) e ((bytesRow (txt ρ i) C).size, (bytesRow (txt ρ i) C).size + 1))) h.t (fun _ => .inr rfl) (.y (.op i)) (by simp) { blk := w.heap.size, base := 0, cap := C }
    (by simp) E.base (fun r hr => by
     show (w.heap.push _)[(ρ r).blk]? = _
     rw [Array.getElem?_push, if_neg (by have := hlt r hr; omega)]) (fun r hr => by have := hlt r hr; simp only; omega)
    (fun c hc _ => by show (w.heap.push _)[c]? = _; rw [Array.getElem?_push, if_neg (by omega)]) (.inr (Nat.le_refl _)) rfl rfl rfl (fun _ _ _ hb => by cases hb) (fun _ hb => by cases hb)
    (hop := fun j hj => by
     cases hj
     refine ⟨h0, ⟨_, by show (w.heap.push _)[w.heap.size]? = _; simp; rfl⟩, fun j hj => ?_⟩
     rw [htx] at hj
     show World.cell? _ ⟨w.heap.size, 0 + j, none⟩ = _
     rw [Nat.zero_add, World.cell?_of_cells (c := bytesRow (txt ρ i) C) (ty := e) (fz := ((bytesRow (txt ρ i) C).size, (bytesRow (txt ρ i) C).size + 1)) (show (w.heap.push _)[w.heap.size]? = some _ from by rw [Array.getElem?_push, if_pos rfl]), bytesRow_at _ C j (by simpa using hj)]
     simp only [htx]
     rfl)
   have e0 : 0 < h.nx.succ.num := by rw [Q.num_succ]; omega
   have hR := Rel.so (ρ := upd ρ h.nx { blk := w.heap.size, base := 0, cap := C }) (N := h.nx.succ.num) h.nx i C (by rw [Q.num_succ]; omega) e0 (by unfold SyOk; rw [show txt (upd ρ h.nx { blk := w.heap.size, base := 0, cap := C }) = txt ρ from by unfold txt; rw [upd_lt ρ h.nx _ .e h0]]; exact hb) (by rw [htx]; exact hge) hgm
   rw [htx, upd_same] at hR
   exact ⟨_, _, _, _, _, hrun, a1, a2, hR, h2⟩
 ·exact sb2K_sound E hs ht he hsz hx h1
end
end Go.Proofs.YtpchmdddkpocgaaGreatDoor
