/-
  No claim by itself: the evaluator: operations of two values, by the type; structs held against each other. | the evaluator: the other operations that make nothing: complements, the least and the greatest, places in arrays, functions, interfaces. | the evaluator: maps, texts ranged over, clear. | the evaluator: clear; what a function means. | the evaluator: an operation that leaves the heap alone, whichever it is. | the evaluator: an operation that writes, makes memory or calls, whichever it is. No condition.
-/
import Derived.Test.YtlannobincnnhaaGreatDoorE2
import Derived.Laws.StructEq
import Derived.Laws.RangeString
namespace Go.Proofs.YtlannobincnnhaaGreatDoor
set_option linter.unusedVariables false
set_option linter.unusedSimpArgs false

def kN (k : IntKind) : Nat := IntKind.casesOn (motive := fun _ => Nat) k 0 1 2 3 4 5 6 7
theorem kN_inj {a b : IntKind} (h : kN a = kN b) : a = b := by cases a <;> cases b <;> first | rfl | cases h
def ikK (op : BinOp) (x y : AV) (k : AV → Bool) : Bool := x.on_i fun kd a => y.on_i fun ke b => ifT (Nat.beq (kN kd) (kN ke)) (ibK op kd a b k)
def shkK (op : BinOp) (x y : AV) (k : AV → Bool) : Bool := x.on_i fun kd a => y.on_i fun _ b => shK op kd a b k
noncomputable def stK (op : BinOp) (x y : AV) (k : AV → Bool) : Bool := x.on_s fun n l => y.on_s fun m r => sbK op n l m r k
def bbK (op : BinOp) (x y : AV) (k : AV → Bool) : Bool := x.on_b fun a => y.on_b fun b => eqB op (sameB a b) k
/-- An interface's value held against nil. -/
def nilI (x : AV) (k : Bool → Bool) : Bool := AV.casesOn (motive_1 := fun _ => Bool) x false (fun _ => false) (fun _ _ => false) (fun _ _ => false) false (fun _ _ => false) false (fun _ _ _ _ => false) false (fun _ _ _ => false) false false (fun _ => false) (k true) (fun _ => false) (fun _ => false) (fun _ _ => k false)
def niK (op : BinOp) (x y : AV) (k : AV → Bool) : Bool := nilI x fun a => nilI y fun b => ifT (orB a b) (eqB op (andB a b) k)
def isC (x : Operand) : Bool := match x with
  | .const _ => true
  | _ => false
section
variable {P : Program} {ρ : Q → Loc} {h : Hp} {w : World} {B N : Nat}
theorem ikK_sound {op : BinOp} {x y : AV} {u v : Value} (hx : Rel ρ N x u) (hy : Rel ρ N y v) {k : AV → Bool} (hk : ikK op x y k = true) (t : TypeId) (w : World) : Pure1 ρ N w ((binOp op t u v).run P w) k := by
  obtain ⟨kd, a, rfl, hk2⟩ := AV.on_i_spec hk
  obtain ⟨ke, b, rfl, hk3⟩ := AV.on_i_spec hk2
  obtain ⟨he, hk4⟩ := ifT_eq hk3
  have := kN_inj he
  subst this
  cases hx
  cases hy
  exact ibK_sound hk4 t w
theorem shkK_sound {op : BinOp} {x y : AV} {u v : Value} (hx : Rel ρ N x u) (hy : Rel ρ N y v) {k : AV → Bool} (hk : shkK op x y k = true) (t : TypeId) (w : World) : Pure1 ρ N w ((binOp op t u v).run P w) k := by
  obtain ⟨kd, a, rfl, hk2⟩ := AV.on_i_spec hk
  obtain ⟨ke, b, rfl, hk3⟩ := AV.on_i_spec hk2
  cases hx
  cases hy
  exact shK_sound hk3 t w
theorem stK_sound {op : BinOp} {x y : AV} {u v : Value} (hx : Rel ρ N x u) (hy : Rel ρ N y v) {k : AV → Bool} (hk : stK op x y k = true) (t : TypeId) (w : World) : Pure1 ρ N w ((binOp op t u v).run P w) k := by
  obtain ⟨n, l, rfl, hk2⟩ := AV.on_s_spec hk
  obtain ⟨m, r, rfl, hk3⟩ := AV.on_s_spec hk2
  exact sbK_sound hx hy hk3 t w
theorem bbK_sound {op : BinOp} {x y : AV} {u v : Value} (hx : Rel ρ N x u) (hy : Rel ρ N y v) {k : AV → Bool} (hk : bbK op x y k = true) {t : TypeId} (ht : P.underlying t = some .bool) (w : World) : Pure1 ρ N w ((binOp op t u v).run P w) k := by
  obtain ⟨a, rfl, hk2⟩ := AV.on_b_spec hk
  obtain ⟨b, rfl, hk3⟩ := AV.on_b_spec hk2
  cases hx
  cases hy
  exact bool_sound hk3 ht
theorem run_eqI0 (d : Nat) {t : TypeId} {ms : Array (String × TypeId)} (ht : P.underlying t = some (.interface ms)) : (Op.equalIn (d + 1) t .nilIface .nilIface).run P w = .ok true w := by simp [Op.equalIn, run_underlying ht]
theorem run_eqI1 (d : Nat) {t : TypeId} {ms : Array (String × TypeId)} (ht : P.underlying t = some (.interface ms)) (a : TypeId) (v : Value) : (Op.equalIn (d + 1) t .nilIface (.iface a v)).run P w = .ok false w := by simp [Op.equalIn, run_underlying ht]
theorem run_eqI2 (d : Nat) {t : TypeId} {ms : Array (String × TypeId)} (ht : P.underlying t = some (.interface ms)) (a : TypeId) (v : Value) : (Op.equalIn (d + 1) t (.iface a v) .nilIface).run P w = .ok false w := by simp [Op.equalIn, run_underlying ht]
theorem niK_sound {op : BinOp} {x y : AV} {u v : Value} (hx : Rel ρ N x u) (hy : Rel ρ N y v) {k : AV → Bool} (hk : niK op x y k = true) {t : TypeId} {ms : Array (String × TypeId)} (ht : P.underlying t = some (.interface ms)) (w : World) : Pure1 ρ N w ((binOp op t u v).run P w) k := by
  cases hx <;> first | (cases hk; done) | skip
  case ni =>
    cases hy <;> first | (cases hk; done) | skip
    case ni => exact eq_both (x := true) hk t (run_eqI0 9999 ht) (fun op ho => by rcases ho with rfl | rfl <;> rfl)
    case e t' x' v' h' => exact eq_both (x := false) hk t (run_eqI1 9999 ht _ _) (fun op ho => by rcases ho with rfl | rfl <;> rfl)
  case e t' x' v' h' =>
    cases hy <;> first | (cases hk; done) | skip
    case ni => exact eq_both (x := false) hk t (run_eqI2 9999 ht _ _) (fun op ho => by rcases ho with rfl | rfl <;> rfl)
end

/-! Structs. -/
/-- A part of an aggregate. -/
noncomputable def paK (P : Program) (t off : Nat) (cs : List AV) (k : AV → Bool) : Bool := match aggOf P t with
  | some (true, n) => k (.a (List.take n (List.drop off cs)))
  | some (false, _) => lgetK cs off k
  | none => false
/-- The fields of two structs, one behind the other, by a comparison 'eq' of single fields. -/
noncomputable def efK (P : Program) (eq : TypeId → AV → AV → (Bool → Bool) → Bool) (xs ys : List AV) (fs : List Field) : (Bool → Bool) → Bool :=
  List.rec (motive := fun _ => (Bool → Bool) → Bool) (fun k => k true)
    (fun f _ ih k => Bool.casesOn (motive := fun _ => Bool) (f.name == "_") (paK P f.type f.offset xs fun a => paK P f.type f.offset ys fun b => eq f.type a b fun r => Bool.casesOn (motive := fun _ => Bool) r (k false) (ih k)) false) fs
noncomputable def eqK (P : Program) (d : Nat) : TypeId → AV → AV → (Bool → Bool) → Bool :=
  Nat.rec (motive := fun _ => TypeId → AV → AV → (Bool → Bool) → Bool) (fun _ _ _ _ => false)
    (fun _ ih t x y k => match P.underlying t with
      | some (.int _) => x.on_i fun kd a => y.on_i fun ke b => ifT (Nat.beq (kN kd) (kN ke)) (k (Nat.beq a b))
      | some .string => x.on_s fun _ l => y.on_s fun _ r => k (leq l r)
      | some .bool => x.on_b fun a => y.on_b fun b => k (sameB a b)
      | some (.struct fs) => Bool.casesOn (motive := fun _ => Bool) (P.stoodInHeld t) (x.on_a fun xs => y.on_a fun ys => efK P ih xs ys fs.toList k) false
      | _ => false) d
theorem eqK_zero (P : Program) : eqK P 0 = fun _ _ _ _ => false := rfl
theorem eqK_succ (P : Program) (d : Nat) (t : TypeId) (x y : AV) (k : Bool → Bool) : eqK P (d + 1) t x y k = match P.underlying t with
      | some (.int _) => x.on_i fun kd a => y.on_i fun ke b => ifT (Nat.beq (kN kd) (kN ke)) (k (Nat.beq a b))
      | some .string => x.on_s fun _ l => y.on_s fun _ r => k (leq l r)
      | some .bool => x.on_b fun a => y.on_b fun b => k (sameB a b)
      | some (.struct fs) => Bool.casesOn (motive := fun _ => Bool) (P.stoodInHeld t) (x.on_a fun xs => y.on_a fun ys => efK P (eqK P d) xs ys fs.toList k) false
      | _ => false := rfl
section
variable {P : Program} {ρ : Q → Loc} {h : Hp} {w : World} {B N : Nat}
theorem paK_sound {t off : Nat} {cs : List AV} {vs : List Value} (hr : RelL ρ N cs vs) (h1 : ∀ v ∈ vs, v.oneCell' = true) {k : AV → Bool} (hk : paK P t off cs k = true) (w : World) : Pure1 ρ N w ((part t vs.toArray off).run P w) k := by
  unfold paK at hk
  split at hk
  · rename_i n ha
    refine ⟨_, .agg ((vs.drop off).take n).toArray, ?_, .a _ _ ((hr.drop _).take _) (fun v hv => h1 v (List.mem_of_mem_drop (List.mem_of_mem_take hv))), hk⟩
    simp [part, (aggOf_true ha w).1, (aggOf_true ha w).2.1, List.extract]
  · rename_i n ha
    obtain ⟨hi, hk⟩ := lgetK_spec _ _ _ hk
    have hl := hr.length
    have hi2 : off < vs.length := by omega
    refine ⟨_, vs[off], ?_, hr.get _ hi hi2, hk⟩
    simp [part, (aggOf_false ha w).1, hi2]
  · cases hk
theorem eqK_sound : ∀ {d : Nat} {t : TypeId} {x y : AV} {u v : Value} {k : Bool → Bool}, Rel ρ N x u → Rel ρ N y v → eqK P d t x y k = true → ∀ w : World, ∃ r, (Op.equalIn d t u v).run P w = .ok r w ∧ k r = true
  | 0, _, _, _, _, _, _, _, _, hk, _ => by cases hk
  | d + 1, t, x, y, u, v, k, hx, hy, hk, w => by
    rw [eqK_succ] at hk
    split at hk
    · rename_i kk ht
      obtain ⟨kd, a, rfl, hk2⟩ := AV.on_i_spec hk
      obtain ⟨ke, b, rfl, hk3⟩ := AV.on_i_spec hk2
      obtain ⟨he, hk4⟩ := ifT_eq hk3
      have := kN_inj he
      subst this
      cases hx
      cases hy
      refine ⟨_, run_equalIn_int w d t kd kk _ _ ht, ?_⟩
      have : ((a : Int) - 9223372036854775808 == (b : Int) - 9223372036854775808) = Nat.beq a b := by rw [Bool.eq_iff_iff, beq_iff_eq, Nat.beq_eq]; omega
      rw [this]; exact hk4
    · rename_i ht
      obtain ⟨n, l, rfl, hk2⟩ := AV.on_s_spec hk
      obtain ⟨m, r, rfl, hk3⟩ := AV.on_s_spec hk2
      cases hx with
      | s a =>
        cases hy with
        | s b =>
          refine ⟨_, run_equalIn_string w d t a b ht, ?_⟩
          have he : (a.toList == b.toList) = leq (a.data.toList.map UInt8.toNat) (b.data.toList.map UInt8.toNat) := by
            rw [leq_eq, ba_toList, ba_toList, Bool.eq_iff_iff, beq_iff_eq, decide_eq_true_eq]
            exact ⟨fun h => by rw [h], fun h => bytes_inj h⟩
          rw [he]; exact hk3
    · rename_i ht
      obtain ⟨a, rfl, hk2⟩ := AV.on_b_spec hk
      obtain ⟨b, rfl, hk3⟩ := AV.on_b_spec hk2
      cases hx
      cases hy
      exact ⟨_, run_equalIn_bool' w d t a b ht, by rw [← sameB_eq]; exact hk3⟩
    · rename_i fs ht
      cases hp : P.stoodInHeld t with
      | true => rw [hp] at hk; cases hk
      | false =>
        rw [hp] at hk
        obtain ⟨xs, rfl, hk2⟩ := AV.on_a_spec hk
        obtain ⟨ys, rfl, hk3⟩ := AV.on_a_spec hk2
        cases hx with
        | a _ vs hr h1 =>
          cases hy with
          | a _ us hs h2 =>
            have hfs : P.fieldsOf t = fs := by simp only [Program.fieldsOf, ht]
            rw [run_equalIn_agg w d t _ _ (by rw [hfs]; exact ht) hp, hfs]
            have key : ∀ (fl : List Field) (w : World), efK P (eqK P d) xs ys fl k = true → ∃ r, (Op.eqFields d vs.toArray us.toArray fl).run P w = .ok r w ∧ k r = true := by
              intro fl
              induction fl with
              | nil => intro w hh; exact ⟨true, rfl, hh⟩
              | cons f fl ih =>
                intro w hh
                have hh : Bool.casesOn (motive := fun _ => Bool) (f.name == "_") (paK P f.type f.offset xs fun a => paK P f.type f.offset ys fun b => eqK P d f.type a b fun r => Bool.casesOn (motive := fun _ => Bool) r (k false) (efK P (eqK P d) xs ys fl k)) false = true := hh
                cases hn : (f.name == "_") with
                | true => rw [hn] at hh; cases hh
                | false =>
                  rw [hn] at hh
                  have hne : f.name ≠ "_" := by simpa using hn
                  obtain ⟨a, av, e1, ra, hh1⟩ := paK_sound (P := P) hr h1 (show paK P f.type f.offset xs _ = true from hh) w
                  obtain ⟨b, bv, e2, rb, hh2⟩ := paK_sound (P := P) hs h2 hh1 w
                  obtain ⟨r, e3, hh3⟩ := eqK_sound ra rb hh2 w
                  cases r with
                  | false => exact ⟨false, by simp [Op.eqFields, hne, e1, e2, e3], hh3⟩
                  | true =>
                    obtain ⟨r, e4, hh4⟩ := ih w hh3
                    exact ⟨r, by simp [Op.eqFields, hne, e1, e2, e3, e4], hh4⟩
            exact key _ w hk3
    · cases hk
/-- Two structs. -/
noncomputable def sqK (P : Program) (op : BinOp) (t : TypeId) (x y : AV) (k : AV → Bool) : Bool := eqK P 10000 t x y fun r => eqB op r k
theorem sqK_sound {op : BinOp} {x y : AV} {u v : Value} (hx : Rel ρ N x u) (hy : Rel ρ N y v) {t : TypeId} {k : AV → Bool} (hk : sqK P op t x y k = true) (ha : ∃ cs ds, u = .agg cs ∧ v = .agg ds) (w : World) : Pure1 ρ N w ((binOp op t u v).run P w) k := by
  obtain ⟨r, h1, h2⟩ := eqK_sound hx hy hk w
  obtain ⟨cs, ds, rfl, rfl⟩ := ha
  exact eq_both h2 t h1 (fun op ho => by rcases ho with rfl | rfl <;> rfl)

/-! What 'eqGuard' asks. -/
theorem eqGuard_plain (op : BinOp) (t : TypeId) (x y : Operand) (a b : Value) (h1 : a ≠ .nilIface ∨ isC x = true ∨ isC y = true) (h2 : ∀ cs, a ≠ .agg cs) (w : World) : (eqGuard op t x y a b).run P w = .ok () w := by
  unfold eqGuard
  cases op <;> try (simp; done)
  all_goals
    cases a <;> first | (exact absurd rfl (h2 _)) | (cases b <;> simp; done) | skip
    cases b <;> first | (simp; done) | skip
    rcases h1 with h1 | h1 | h1
    · exact absurd rfl h1
    · cases x <;> first | (simp; done) | (cases h1; done)
    · cases y <;> first | (simp; done) | (cases h1; done)
end
end Go.Proofs.YtlannobincnnhaaGreatDoor
namespace Go.Proofs.YtlannobincnnhaaGreatDoor
set_option linter.unusedVariables false
set_option linter.unusedSimpArgs false

/-! The complement. -/
def cpN (k : IntKind) : Nat := IntKind.casesOn (motive := fun _ => Nat) k 9223372036854775807 9223372036854775807 9223372036854775807 9223372036854775807 9223372036854776063 9223372036854841343 9223372041149743103 27670116110564327423
def cplK (x : AV) (k : AV → Bool) : Bool := x.on_i fun kd a => ibK .xor kd (cpN kd) a k
/-! 'nilCheck'. -/
def ncK (x : AV) (k : AV → Bool) : Bool := x.on_p fun q o => k (.p q o)
/-! The greater of two; the least, the greatest of many. -/
def mxK (x y : AV) (k : AV → Bool) : Bool := x.on_i fun kd a => y.on_i fun _ b => k (.i kd (Bool.casesOn (motive := fun _ => Nat) (Nat.blt a b) a b))
noncomputable def mmL (f : AV → AV → (AV → Bool) → Bool) (ys : List AV) : AV → (AV → Bool) → Bool :=
  List.rec (motive := fun _ => AV → (AV → Bool) → Bool) (fun x k => k x) (fun y _ ih x k => f x y fun z => ih z k) ys
/-! Places in arrays. -/
def iapK (len sz : Nat) (x i : AV) (k : AV → Bool) : Bool := idxK i fun i => x.on_p fun q o => ifT (Nat.blt i len) (k (.p q (Nat.add o (Nat.mul i sz))))
def sapK (n sz : Nat) (lo hi : Option AV) (x : AV) (k : AV → Bool) : Bool := x.on_p fun q o => optK hi n fun h => optK lo 0 fun l => ifT (Nat.ble l h) (ifT (Nat.ble h n) (sl3K sz q o l h n k))
/-! Interfaces. -/
def notI (P : Program) (t : TypeId) : Bool := match P.underlying t with
  | some (.interface _) => false
  | some _ => true
  | none => false
/-- 'x.(T)' with a second value, T no interface. -/
def taK (as : Nat) (z : AV) (x : AV) (k : AV → Bool) : Bool := AV.casesOn (motive_1 := fun _ => Bool) x false (fun _ => false) (fun _ _ => false) (fun _ _ => false) false (fun _ _ => false) false (fun _ _ _ _ => false) false (fun _ _ _ => false) false false (fun _ => false) (k (.t [z, .b false])) (fun _ => false) (fun _ => false)
  (fun t v => Bool.casesOn (motive := fun _ => Bool) (Nat.beq t as) (k (.t [z, .b false])) (k (.t [v, .b true])))
section
variable {P : Program} {ρ : Q → Loc} {h : Hp} {w : World} {B N : Nat}
theorem cplK_sound {x : AV} {u : Value} (hx : Rel ρ N x u) {k : AV → Bool} (hk : cplK x k = true) (w : World) : Pure1 ρ N w ((Op.unary .xor u).run P w) k := by
  obtain ⟨kd, a, rfl, hk2⟩ := AV.on_i_spec hk
  cases hx
  obtain ⟨y, v, h1, h2, h3⟩ := ibK_sound (P := P) (ρ := ρ) (N := N) (op := .xor) (kd := kd) (a := cpN kd) (b := a) (k := k) hk2 0 w
  refine ⟨y, v, ?_, h2, h3⟩
  rw [← h1]
  have hc : (((cpN kd : Nat) : Int) - 9223372036854775808) = if kd.signed then -1 else kd.max := by cases kd <;> rfl
  rw [hc]
  simp [binOp, Op.unary]
theorem ncK_sound {x : AV} {u : Value} (hx : Rel ρ N x u) {k : AV → Bool} (hk : ncK x k = true) : ∃ (a : Addr) (y : AV), u = .pointer (some a) ∧ Rel ρ N y u ∧ k y = true := by
  obtain ⟨q, o, rfl, hk⟩ := AV.on_p_spec hk
  cases hx with
  | p _ _ hq => exact ⟨_, _, rfl, .p q o hq, hk⟩
theorem mn2_sound {x y : AV} {u v : Value} (hx : Rel ρ N x u) (hy : Rel ρ N y v) {k : AV → Bool} (hk : mnK x y k = true) (w : World) : Pure1 ρ N w ((Builtin.min2 u v).run P w) k := by
  obtain ⟨kd, a, rfl, hk2⟩ := AV.on_i_spec hk
  obtain ⟨ke, b, rfl, hk3⟩ := AV.on_i_spec hk2
  cases hx
  cases hy
  refine ⟨_, .int kd (if (b : Int) - 9223372036854775808 < (a : Int) - 9223372036854775808 then (b : Int) - 9223372036854775808 else (a : Int) - 9223372036854775808), ?_, ?_, hk3⟩
  · simp [Builtin.min2]
  · by_cases hlt : b < a
    · rw [show Nat.blt b a = true from by rw [Nat.blt_eq]; exact hlt, if_pos (by omega)]; exact .i _ _
    · rw [show Nat.blt b a = false from by rw [← Bool.not_eq_true, Nat.blt_eq]; exact hlt, if_neg (by omega)]; exact .i _ _
theorem mx2_sound {x y : AV} {u v : Value} (hx : Rel ρ N x u) (hy : Rel ρ N y v) {k : AV → Bool} (hk : mxK x y k = true) (w : World) : Pure1 ρ N w ((Builtin.max2 u v).run P w) k := by
  obtain ⟨kd, a, rfl, hk2⟩ := AV.on_i_spec hk
  obtain ⟨ke, b, rfl, hk3⟩ := AV.on_i_spec hk2
  cases hx
  cases hy
  refine ⟨_, .int kd (if (b : Int) - 9223372036854775808 > (a : Int) - 9223372036854775808 then (b : Int) - 9223372036854775808 else (a : Int) - 9223372036854775808), ?_, ?_, hk3⟩
  · simp [Builtin.max2]
  · by_cases hlt : a < b
    · rw [show Nat.blt a b = true from by rw [Nat.blt_eq]; exact hlt, if_pos (by omega)]; exact .i _ _
    · rw [show Nat.blt a b = false from by rw [← Bool.not_eq_true, Nat.blt_eq]; exact hlt, if_neg (by omega)]; exact .i _ _
theorem mmL_sound {f : AV → AV → (AV → Bool) → Bool} {g : Value → Value → Sem Value} (w : World) (hf : ∀ {x y : AV} {u v : Value} {k : AV → Bool}, Rel ρ N x u → Rel ρ N y v → f x y k = true → Pure1 ρ N w ((g u v).run P w) k) :
    ∀ {ys : List AV} {vs : List Value} {x : AV} {u : Value} {k : AV → Bool}, RelL ρ N ys vs → Rel ρ N x u → mmL f ys x k = true → Pure1 ρ N w ((vs.foldlM g u).run P w) k
  | _, _, x, u, k, .nil, hx, hk => ⟨x, u, by simp, hx, hk⟩
  | _, _, x, u, k, .cons y v ys vs hy t, hx, hk => by
    obtain ⟨z, r, h1, h2, h3⟩ := hf hx hy (show f x y (fun z => mmL f ys z k) = true from hk)
    obtain ⟨z', r', h4, h5, h6⟩ := mmL_sound w hf t h2 h3
    exact ⟨z', r', by simp [List.foldlM_cons, h1, h4], h5, h6⟩
theorem iapK_sound {t e len sz : Nat} (ht : P.underlying t = some (.array len e)) (hs : ∀ w, (sizeOf e).run P w = .ok sz w) {x i : AV} {u v : Value} (hx : Rel ρ N x u) (hi : Rel ρ N i v) {k : AV → Bool} (hk : iapK len sz x i k = true) (w : World) : Pure1 ρ N w ((Instr.indexAt t u v).run P w) k := by
  obtain ⟨kd, j, rfl, hk2⟩ := idxK_spec hi hk
  obtain ⟨q, o, rfl, hk3⟩ := AV.on_p_spec hk2
  obtain ⟨hlt, hk4⟩ := ifT_lt hk3
  have h2 : (0 : Int) ≤ (j : Nat) ∧ ((j : Nat) : Int) < (len : Nat) := by omega
  cases hx with
  | p _ _ hq =>
    refine ⟨_, _, ?_, .p q (o + j * sz) hq, hk4⟩
    simp only [Instr.indexAt, asIntOf, Instr.sureAddr, Sem.run_bind, Sem.run_pure, Result.andThen_ok, run_underlying ht, if_pos h2, hs, Int.toNat_natCast, Addr.add_none, Nat.add_assoc]
theorem sapK_sound {t e n sz : Nat} (ht : P.underlying t = some (.array n e)) (hs : ∀ w, (sizeOf e).run P w = .ok sz w) {x : AV} {u : Value} {lo hi : Option AV} {lov hiv : Option Value} (hx : Rel ρ N x u) (hlo : RelO ρ N lo lov) (hhi : RelO ρ N hi hiv) {k : AV → Bool} (hk : sapK n sz lo hi x k = true) (w : World) :
    Pure1 ρ N w ((Instr.sliceAt t u lov hiv none).run P w) k := by
  obtain ⟨q, o, rfl, hk1⟩ := AV.on_p_spec hk
  obtain ⟨h, hk2, hh⟩ := opt_of (optK_spec hhi hk1)
  obtain ⟨l, hk3, hl⟩ := opt_of (optK_spec hlo hk2)
  obtain ⟨h1, hk4⟩ := ifT_le hk3
  obtain ⟨h2, hk5⟩ := ifT_le hk4
  cases hx with
  | p _ _ hq =>
    have hb := run_bounds2 (P := P) w false n n h l hh hl h1 h2
    have hrun : (Instr.sliceAt t (.pointer (some ⟨(ρ q).blk, (ρ q).base + o, none⟩)) lov hiv none).run P w = .ok (.slice (some (if n = l then ⟨(ρ q).blk, (ρ q).base + o, none⟩ else (⟨(ρ q).blk, (ρ q).base + o, none⟩ : Addr).add (l * sz))) (h - l) (n - l)) w := by
      simp only [Instr.sliceAt, Sem.run_bind, run_underlying ht, Result.andThen_ok, Instr.sureAddr, Sem.run_pure, hb, hs]
    refine pick_y hrun ?_
    by_cases hml : n = l
    · subst hml
      have hk : (Bool.casesOn (motive := fun _ => Bool) (Nat.beq n n) _ (k (.sl q o (Nat.sub h n) (.k 0)))) = true := hk5
      rw [Nat.beq_refl] at hk
      refine ⟨_, ?_, hk⟩
      rw [if_pos rfl, Nat.sub_self]
      exact .slk q o _ 0 hq (by show h - n ≤ 0; omega)
    · have hb : Nat.beq n l = false := by rw [← Bool.not_eq_true, Nat.beq_eq]; exact hml
      have hk : (Bool.casesOn (motive := fun _ => Bool) (Nat.beq n l) (k (.sl q (Nat.add o (Nat.mul l sz)) (Nat.sub h l) (.k (Nat.sub n l)))) (k (.sl q o (Nat.sub h l) (.k 0)))) = true := hk5
      rw [hb] at hk
      refine ⟨_, ?_, hk⟩
      rw [if_neg hml]
      have := Rel.slk (ρ := ρ) (N := N) q (o + l * sz) (h - l) (n - l) hq (by omega)
      simp only [Addr.add_none, Nat.add_assoc]
      exact this
theorem mi_sound {t : TypeId} (ht : notI P t = true) (v : Value) (w : World) : (Instr.makeInterface t v).run P w = .ok (.iface t v) w := by
  unfold notI at ht
  split at ht
  · cases ht
  · rename_i d h1 h2
    cases d <;> first | exact (h1 _ rfl).elim | simp [Instr.makeInterface, run_underlying h2]
  · cases ht
theorem taK_sound {xt as : TypeId} (ht : notI P as = true) {z : Value} (hz : (P.info? as).bind (·.zero) = some z) {x : AV} {u : Value} (hx : Rel ρ N x u) {k : AV → Bool} (hk : taK as (zeroOf P as) x k = true) (w : World) : Pure1 ρ N w ((Instr.typeAssert u xt as true).run P w) k := by
  have hzr : Rel ρ N (zeroOf P as) z := by unfold zeroOf; rw [hz]; exact cva_rel _ _ _
  have hzv : (zeroValue as).run P w = .ok z w := by
    cases hi : P.info? as with
    | none => rw [hi] at hz; cases hz
    | some i => rw [hi] at hz; have hz : i.zero = some z := hz; simp [zeroValue, typeInfo, hi, hz]
  have hun : ∃ d, P.underlying as = some d ∧ ∀ ms, d ≠ .interface ms := by
    unfold notI at ht
    split at ht
    · cases ht
    · rename_i d h1 h2
      exact ⟨d, h2, fun ms e => h1 ms (by rw [e])⟩
    · cases ht
  obtain ⟨d, hd, hni⟩ := hun
  have f0 : Pure1 ρ N w (.ok (.tuple #[z, .bool false]) w) k → Pure1 ρ N w ((Instr.typeAssert .nilIface xt as true).run P w) k := fun H => by
    cases d <;> first | exact (hni _ rfl).elim | (simpa [Instr.typeAssert, run_underlying hd, hzv] using H)
  have f1 : ∀ (t : TypeId) (v : Value), t ≠ as → Pure1 ρ N w (.ok (.tuple #[z, .bool false]) w) k → Pure1 ρ N w ((Instr.typeAssert (.iface t v) xt as true).run P w) k := fun t v hne H => by
    cases d <;> first | exact (hni _ rfl).elim | (simpa [Instr.typeAssert, run_underlying hd, hzv, hne] using H)
  have f2 : ∀ (v : Value), Pure1 ρ N w (.ok (.tuple #[v, .bool true]) w) k → Pure1 ρ N w ((Instr.typeAssert (.iface as v) xt as true).run P w) k := fun v H => by
    cases d <;> first | exact (hni _ rfl).elim | (simpa [Instr.typeAssert, run_underlying hd] using H)
  cases x <;> first | (cases hk; done) | skip
  case ni =>
    cases hx
    exact f0 ⟨_, _, rfl, .t _ [z, .bool false] (.cons _ _ _ _ hzr (.cons _ _ _ _ (.b _) .nil)), hk⟩
  case e t v =>
    cases hx with
    | e _ _ v' hv =>
      have hk : (Bool.casesOn (motive := fun _ => Bool) (Nat.beq t as) (k (.t [zeroOf P as, .b false])) (k (.t [v, .b true]))) = true := hk
      by_cases he : t = as
      · subst he
        rw [Nat.beq_refl] at hk
        exact f2 v' ⟨_, _, rfl, .t _ [v', .bool true] (.cons _ _ _ _ hv (.cons _ _ _ _ (.b _) .nil)), hk⟩
      · have hb : Nat.beq t as = false := by rw [← Bool.not_eq_true, Nat.beq_eq]; exact he
        rw [hb] at hk
        exact f1 t v' he ⟨_, _, rfl, .t _ [z, .bool false] (.cons _ _ _ _ hzr (.cons _ _ _ _ (.b _) .nil)), hk⟩
end
end Go.Proofs.YtlannobincnnhaaGreatDoor
namespace Go.Proofs.YtlannobincnnhaaGreatDoor
set_option linter.unusedVariables false
set_option linter.unusedSimpArgs false

/-- Two keys: of texts, of integers. -/
noncomputable def kqK (str : Bool) (x y : AV) (k : Bool → Bool) : Bool := Bool.casesOn (motive := fun _ => Bool) str (x.on_i fun ka a => y.on_i fun kb b => ifT (Nat.beq (kN ka) (kN kb)) (k (Nat.beq a b))) (x.on_s fun _ l => y.on_s fun _ r => k (leq l r))
def kdOf (P : Program) (t : TypeId) : Option Bool := match P.underlying t with
  | some (.int _) => some false
  | some .string => some true
  | _ => none
noncomputable def mfK (str : Bool) (x : AV) (es : List (AV × AV)) (kn : Bool) (ks : AV → Bool) : Bool :=
  List.rec (motive := fun _ => Bool) kn (fun e _ ih => kqK str x e.1 fun r => Bool.casesOn (motive := fun _ => Bool) r ih (ks e.2)) es
noncomputable def muK (str : Bool) (x z : AV) (es : List (AV × AV)) : (List (AV × AV) → Bool) → Bool :=
  List.rec (motive := fun _ => (List (AV × AV) → Bool) → Bool) (fun k => k [(x, z)]) (fun e t ih k => kqK str x e.1 fun r => Bool.casesOn (motive := fun _ => Bool) r (ih fun es' => k (e :: es')) (k ((x, z) :: t))) es
noncomputable def mdK (str : Bool) (x : AV) (es : List (AV × AV)) : (List (AV × AV) → Bool) → Bool :=
  List.rec (motive := fun _ => (List (AV × AV) → Bool) → Bool) (fun k => k []) (fun e t ih k => kqK str x e.1 fun r => Bool.casesOn (motive := fun _ => Bool) r (ih fun es' => k (e :: es')) (k t)) es
def fin2 (ok : Bool) (x : AV) (b : Bool) (k : AV → Bool) : Bool := Bool.casesOn (motive := fun _ => Bool) ok (k x) (k (.t [x, .b b]))
noncomputable def lkK (str ok : Bool) (z m x : AV) (h : Hp) (k : AV → Bool) : Bool :=
  AV.casesOn (motive_1 := fun _ => Bool) m false (fun _ => false) (fun _ _ => false) (fun _ _ => false) false (fun _ _ => false) false (fun _ _ _ _ => false) false (fun _ _ _ => false) false (fin2 ok z false k) (fun q => (HT.getR q h.t).onM fun es => mfK str x es (fin2 ok z false k) fun y => fin2 ok y true k) false (fun _ => false) (fun _ => false) (fun _ _ => false)
noncomputable def lnM (m : AV) (h : Hp) (k : AV → Bool) : Bool := m.on_m fun q => (HT.getR q h.t).onM fun es => natK (List.length es) fun n => k (.i .i64 (Nat.add n 9223372036854775808))
noncomputable def muD (str : Bool) (m x z : AV) (h : Hp) (k : Hp → Bool) : Bool := m.on_m fun q => (HT.getR q h.t).onM fun es => muK str x z es fun es' => HT.setK (.mp es') q h.t fun t' => k (.mk t' h.nx)
noncomputable def mdD (str : Bool) (m x : AV) (h : Hp) (k : Hp → Bool) : Bool := m.on_m fun q => (HT.getR q h.t).onM fun es => mdK str x es fun es' => HT.setK (.mp es') q h.t fun t' => k (.mk t' h.nx)
noncomputable def mmD (h : Hp) (k : AV → Hp → Bool) : Bool := HT.setK (.mp []) h.nx h.t fun t' => h.nx.succK fun n' => k (.m h.nx) (.mk t' n')
noncomputable def rsD (x : AV) (h : Hp) (k : AV → Hp → Bool) : Bool := x.on_s fun _ l => HT.setK (.si 0 l) h.nx h.t fun t' => h.nx.succK fun n' => k (.p h.nx 0) (.mk t' n')
noncomputable def nsD (x : AV) (h : Hp) (k : AV → Hp → Bool) : Bool := x.on_p fun q o => ifT (Nat.beq o 0) ((HT.getR q h.t).onS fun pos l => List.casesOn (motive := fun _ => Bool) l (k (.t [.b false]) h)
  fun b t => ifT (Nat.blt b 128) (natK (Nat.succ pos) fun pos' => HT.setK (.si pos' t) q h.t fun t' => k (.t [.b true, .i .i64 (Nat.add pos 9223372036854775808), .i .i32 (Nat.add b 9223372036854775808)]) (.mk t' h.nx)))
section
variable {P : Program} {ρ : Q → Loc} {h : Hp} {w : World} {B N : Nat}
theorem kqK_sound {str : Bool} {kt : TypeId} (hs : kdOf P kt = some str) {x y : AV} {u v : Value} (hx : Rel ρ N x u) (hy : Rel ρ N y v) {k : Bool → Bool} (hk : kqK str x y k = true) :
    ∃ d r, P.underlying kt = some d ∧ Instr.sameNow d u v = some r ∧ k r = true ∧ (r = true → u = v) ∧ Instr.sameBits 10000 u u = true := by
  unfold kdOf at hs
  split at hs
  · rename_i kk ht
    cases hs
    obtain ⟨kd, a, rfl, hk2⟩ := AV.on_i_spec (show x.on_i _ = true from hk)
    obtain ⟨ke, b, rfl, hk3⟩ := AV.on_i_spec hk2
    obtain ⟨he, hk4⟩ := ifT_eq hk3
    have := kN_inj he
    subst this
    cases hx
    cases hy
    refine ⟨_, Nat.beq a b, ht, ?_, hk4, fun hh => by rw [Nat.eq_of_beq_eq_true hh], by simp [Instr.sameBits]⟩
    have : ((a : Int) - 9223372036854775808 == (b : Int) - 9223372036854775808) = Nat.beq a b := by rw [Bool.eq_iff_iff, beq_iff_eq, Nat.beq_eq]; omega
    simp only [Instr.sameNow, if_pos, this]
  · rename_i ht
    cases hs
    obtain ⟨n, l, rfl, hk2⟩ := AV.on_s_spec (show x.on_s _ = true from hk)
    obtain ⟨m, r, rfl, hk3⟩ := AV.on_s_spec hk2
    cases hx with
    | s a =>
      cases hy with
      | s b =>
        have he : (a == b) = leq (a.data.toList.map UInt8.toNat) (b.data.toList.map UInt8.toNat) := by
          rw [beq_toListBytes, leq_eq, ba_toList, ba_toList, Bool.eq_iff_iff, beq_iff_eq, decide_eq_true_eq]
          exact ⟨fun h => by rw [h], fun h => bytes_inj h⟩
        refine ⟨_, leq (a.data.toList.map UInt8.toNat) (b.data.toList.map UInt8.toNat), ht, by simp only [Instr.sameNow, he], hk3, fun hh => ?_, by simp [Instr.sameBits, beq_toListBytes]⟩
        rw [← he, beq_toListBytes, beq_iff_eq, ba_toList, ba_toList] at hh
        congr 1
        apply ByteArray.ext
        exact Array.ext' hh
  · cases hs
theorem run_checkKey {d : TypeDesc} {kt : TypeId} (n : Nat) (hd : (∃ k, d = .int k) ∨ d = .string) (ht : P.underlying kt = some d) (e : Bool) (v : Value) (w : World) : (Instr.checkKey e (n + 1) kt v).run P w = .ok () w := by
  rcases hd with ⟨k, rfl⟩ | rfl <;> simp [Instr.checkKey, run_underlying ht]
theorem kd_desc {str : Bool} {kt : TypeId} (hs : kdOf P kt = some str) : ∃ d, P.underlying kt = some d ∧ ∀ (e : Bool) (v : Value) (w : World), (Instr.checkKey e 10000 kt v).run P w = .ok () w := by
  unfold kdOf at hs
  split at hs
  · rename_i kk ht
    exact ⟨_, ht, fun e v w => run_checkKey 9999 (.inl ⟨_, rfl⟩) ht e v w⟩
  · rename_i ht
    exact ⟨_, ht, fun e v w => run_checkKey 9999 (.inr rfl) ht e v w⟩
  · cases hs
theorem mfK_sound {str : Bool} {kt : TypeId} (hs : kdOf P kt = some str) {d : TypeDesc} (hd : P.underlying kt = some d) {x : AV} {u : Value} (hx : Rel ρ N x u) : ∀ {es : List (AV × AV)} {fs : List MapEntry} {kn : Bool} {ks : AV → Bool} (i : Nat), RelE ρ N es fs → mfK str x es kn ks = true →
    (Instr.findNow d u fs i = some none ∧ kn = true) ∨ ∃ j v y, Instr.findNow d u fs i = some (some (j, v)) ∧ Rel ρ N y v ∧ ks y = true
  | _, _, _, _, i, .nil, hk => .inl ⟨rfl, hk⟩
  | _, _, kn, ks, i, .cons k y es e fs hke hy t, hk => by
    obtain ⟨d', r, h1, h2, h3, _, _⟩ := kqK_sound hs hx hke (show kqK str x k _ = true from hk)
    rw [hd] at h1
    cases h1
    cases r with
    | true => exact .inr ⟨i, e.val, y, by simp only [Instr.findNow, h2], hy, h3⟩
    | false =>
      rcases mfK_sound hs hd hx (i + 1) t (show mfK str x es kn ks = true from h3) with ⟨a, b⟩ | ⟨j, v, y', a, b, c⟩
      · exact .inl ⟨by simp only [Instr.findNow, h2, a], b⟩
      · exact .inr ⟨j, v, y', by simp only [Instr.findNow, h2, a], b, c⟩
theorem muK_sound {str : Bool} {kt : TypeId} (hs : kdOf P kt = some str) {d : TypeDesc} (hd : P.underlying kt = some d) {x z : AV} {u zv : Value} (hx : Rel ρ N x u) (hz : Rel ρ N z zv) : ∀ {es : List (AV × AV)} {fs : List MapEntry} {k : List (AV × AV) → Bool} (i : Nat), RelE ρ N es fs → muK str x z es k = true →
    ∃ es', k es' = true ∧ ((Instr.findNow d u fs i = some none ∧ ∀ c, RelE ρ N es' (fs ++ [{ key := u, val := zv, born := c }])) ∨
      ∃ j e, Instr.findNow d u fs i = some (some (i + j, e.val)) ∧ fs[j]? = some e ∧ e.key = u ∧ Instr.sameBits 10000 u u = true ∧ RelE ρ N es' (fs.modify j fun e => { e with key := u, val := zv }))
  | _, _, k, i, .nil, hk => ⟨_, hk, .inl ⟨rfl, fun c => .cons _ _ _ _ _ hx hz .nil⟩⟩
  | _, _, k, i, .cons ka y es e fs hke hy t, hk => by
    obtain ⟨d', r, h1, h2, h3, h4, h5⟩ := kqK_sound hs hx hke (show kqK str x ka _ = true from hk)
    rw [hd] at h1
    cases h1
    cases r with
    | true => exact ⟨_, h3, .inr ⟨0, e, by simp only [Instr.findNow, h2, Nat.add_zero], rfl, (h4 rfl).symm, h5, by simp only [List.modify_zero_cons]; exact .cons _ _ _ _ _ hx hz t⟩⟩
    | false =>
      obtain ⟨es', g1, g2⟩ := muK_sound hs hd hx hz (i + 1) t (show muK str x z es (fun es' => k ((ka, y) :: es')) = true from h3)
      refine ⟨_, g1, ?_⟩
      rcases g2 with ⟨a, b⟩ | ⟨j, e', a, b, c, c2, f⟩
      · exact .inl ⟨by simp only [Instr.findNow, h2, a], fun c => .cons _ _ _ _ _ hke hy (b c)⟩
      · refine .inr ⟨j + 1, e', by simp only [Instr.findNow, h2, a]; congr 3; omega, by simpa using b, c, c2, ?_⟩
        rw [List.modify_succ_cons]
        exact .cons _ _ _ _ _ hke hy f
theorem mdK_sound {str : Bool} {kt : TypeId} (hs : kdOf P kt = some str) {d : TypeDesc} (hd : P.underlying kt = some d) {x : AV} {u : Value} (hx : Rel ρ N x u) : ∀ {es : List (AV × AV)} {fs : List MapEntry} {k : List (AV × AV) → Bool} (i : Nat), RelE ρ N es fs → mdK str x es k = true →
    ∃ es', k es' = true ∧ ((Instr.findNow d u fs i = some none ∧ RelE ρ N es' fs) ∨
      ∃ j v, Instr.findNow d u fs i = some (some (i + j, v)) ∧ j < fs.length ∧ RelE ρ N es' (fs.eraseIdx j))
  | _, _, k, i, .nil, hk => ⟨_, hk, .inl ⟨rfl, .nil⟩⟩
  | _, _, k, i, .cons ka y es e fs hke hy t, hk => by
    obtain ⟨d', r, h1, h2, h3, h4, h5⟩ := kqK_sound hs hx hke (show kqK str x ka _ = true from hk)
    rw [hd] at h1
    cases h1
    cases r with
    | true => exact ⟨_, h3, .inr ⟨0, e.val, by simp only [Instr.findNow, h2, Nat.add_zero], by simp, t⟩⟩
    | false =>
      obtain ⟨es', g1, g2⟩ := mdK_sound hs hd hx (i + 1) t (show mdK str x es (fun es' => k ((ka, y) :: es')) = true from h3)
      refine ⟨_, g1, ?_⟩
      rcases g2 with ⟨a, b⟩ | ⟨j, v, a, b, f⟩
      · exact .inl ⟨by simp only [Instr.findNow, h2, a], .cons _ _ _ _ _ hke hy b⟩
      · exact .inr ⟨j + 1, v, by simp only [Instr.findNow, h2, a]; congr 3; omega, by simpa using b, by rw [List.eraseIdx_cons_succ]; exact .cons _ _ _ _ _ hke hy f⟩
theorem run_getObj' {b : Nat} {o : Obj} (hb : w.heap[b]? = some o) (ho : ∀ c t f, o ≠ .cells c t f) : (getObj b).run P w = .ok o w := by
  cases o <;> first | exact (ho _ _ _ rfl).elim | simp only [getObj, Sem.run, hb]
theorem run_setObj' {b : Nat} {o o' : Obj} (hb : w.heap[b]? = some o) (ho : ∀ c t f, o ≠ .cells c t f) : (setObj b o').run P w = .ok () { w with heap := w.heap.setIfInBounds b o' } := by
  cases o <;> first | exact (ho _ _ _ rfl).elim | simp only [setObj, Sem.run, hb]
theorem set_other {b c : Nat} (o : Obj) (h : c ≠ b) : (w.heap.setIfInBounds b o)[c]? = w.heap[c]? := by rw [Array.getElem?_setIfInBounds_ne (Ne.symm h)]
theorem set_same {b : Nat} {o0 : Obj} (o : Obj) (hb : w.heap[b]? = some o0) : (w.heap.setIfInBounds b o)[b]? = some o := by
  have := (Array.getElem?_eq_some_iff.1 hb).1
  rw [Array.getElem?_setIfInBounds_self_of_lt this]
theorem run_findKey {kt : TypeId} {d : TypeDesc} (hd : P.underlying kt = some d) {u : Value} {es : List MapEntry} {r : Option (Nat × Value)} (hf : Instr.findNow d u es 0 = some r) (w : World) : (Instr.findKey kt u es).run P w = .ok r w := by
  simp [Instr.findKey, run_underlying hd, hf]
/-- A map's type: its key and its elements. -/
def mapOf (P : Program) (t : TypeId) : Option (TypeId × TypeId) := match P.underlying t with
  | some (.map k e) => some (k, e)
  | _ => none
theorem mapOf_spec {t kt et : TypeId} (h : mapOf P t = some (kt, et)) : P.underlying t = some (.map kt et) := by
  unfold mapOf at h
  split at h
  · cases h; assumption
  · cases h
theorem lkK_sound (E : Emb P ρ h w B) {t kt et : TypeId} (ht : mapOf P t = some (kt, et)) {str ok : Bool} (hs : kdOf P kt = some str) {z : Value} (hz : (P.info? et).bind (·.zero) = some z) {m x : AV} {mv u : Value} (hm : Rel ρ h.nx.num m mv) (hx : Rel ρ h.nx.num x u) {k : AV → Bool} (hk : lkK str ok (zeroOf P et) m x h k = true) :
    Pure1 ρ h.nx.num w ((Instr.lookup t mv u ok).run P w) k := by
  have ht := mapOf_spec ht
  obtain ⟨d, hd, hck⟩ := kd_desc hs
  have hzr : Rel ρ h.nx.num (zeroOf P et) z := by unfold zeroOf; rw [hz]; exact cva_rel _ _ _
  have hzv : (zeroValue et).run P w = .ok z w := by
    cases hi : P.info? et with
    | none => rw [hi] at hz; cases hz
    | some i => rw [hi] at hz; have hz : i.zero = some z := hz; simp [zeroValue, typeInfo, hi, hz]
  have fin : ∀ (y : AV) (v : Value) (b : Bool), Rel ρ h.nx.num y v → fin2 ok y b k = true → Pure1 ρ h.nx.num w (.ok (if ok then .tuple #[v, .bool b] else v) w) k := fun y v b hy hf => by
    cases ok with
    | false => exact ⟨y, v, rfl, hy, hf⟩
    | true => exact ⟨_, .tuple #[v, .bool b], rfl, .t _ [v, .bool b] (.cons _ _ _ _ hy (.cons _ _ _ _ (.b _) .nil)), hf⟩
  cases m <;> first | (cases hk; done) | skip
  case nm =>
    cases hm
    have := fin _ z false hzr hk
    simpa [Instr.lookup, run_underlying ht, hck, run_findKey (P := P) hd (u := u) (es := []) (r := none) rfl, hzv] using this
  case m q =>
    cases hm with
    | m _ hq =>
      dsimp only [lkK] at hk
      rw [HT.getR_eq] at hk
      obtain ⟨es, hg, hk2⟩ := OB.onM_spec hk
      obtain ⟨fs, c, hb, hr, _⟩ := E.map q es hg
      have hgo := run_getObj' (P := P) hb (by intro _ _ _ e; cases e)
      rcases mfK_sound hs hd hx 0 hr hk2 with ⟨h1, h2⟩ | ⟨j, v, y, h1, h2, h3⟩
      · have := fin _ z false hzr h2
        simpa [Instr.lookup, run_underlying ht, hgo, hck, run_findKey (P := P) hd h1, hzv] using this
      · have := fin _ v true h2 h3
        simpa [Instr.lookup, run_underlying ht, hgo, hck, run_findKey (P := P) hd h1] using this
theorem lnM_sound (E : Emb P ρ h w B) {t kt et ty : TypeId} (ht : mapOf P t = some (kt, et)) {m : AV} {mv : Value} (hm : Rel ρ h.nx.num m mv) {k : AV → Bool} (hk : lnM m h k = true) : Pure1 ρ h.nx.num w ((Builtin.len_ #[t] ty #[mv]).run P w) k := by
  have ht := mapOf_spec ht
  obtain ⟨q, rfl, hk1⟩ := AV.on_m_spec hk
  clear hk
  cases hm with
  | m _ hq =>
    rw [HT.getR_eq] at hk1
    obtain ⟨es, hg, hk2⟩ := OB.onM_spec hk1
    rw [natK_eq] at hk2
    obtain ⟨fs, c, hb, hr, _⟩ := E.map q es hg
    have hgo := run_getObj' (P := P) hb (by intro _ _ _ e; cases e)
    have hl : es.length = fs.size := by
      have key : ∀ {es : List (AV × AV)} {fs : List MapEntry}, RelE ρ h.nx.num es fs → es.length = fs.length := by
        intro es fs hh
        induction hh with
        | nil => rfl
        | cons _ _ _ _ _ _ _ _ ih => simp [ih]
      rw [key hr]; simp
    refine ⟨_, goInt fs.size, by simp [Builtin.len_, run_underlying ht, hgo], ?_, hk2⟩
    rw [hl]
    exact rel_len _ _ _
/-- What such an operation leaves. -/
def MadeU (P : Program) (ρ : Q → Loc) (h : Hp) (w : World) (B : Nat) {α : Type} (a : α) (r : Result α) (k : Hp → Bool) : Prop :=
  ∃ w' h', r = .ok a w' ∧ Emb P ρ h' w' B ∧ Step ρ h w ρ h' w' ∧ k h' = true
theorem Emb.setMap (E : Emb P ρ h w B) {q : Q} {es : List (AV × AV)} (hg : h.t.get q = .mp es) {es' : List (AV × AV)} {fs' : Array MapEntry} {c' : Nat} (hr : RelE ρ h.nx.num es' fs'.toList) (hc : ∀ e ∈ fs'.toList, e.born < c') :
    Emb P ρ (.mk (h.t.set (.mp es') q) h.nx) { w with heap := w.heap.setIfInBounds (ρ q).blk (.map fs' c') } B ∧ Step ρ h w ρ (.mk (h.t.set (.mp es') q) h.nx) { w with heap := w.heap.setIfInBounds (ρ q).blk (.map fs' c') } := by
  obtain ⟨fs, c, hb, _, _⟩ := E.map q es hg
  exact E.set (by rw [Hp.live, hg]; simp) (.mp es') (by simp) (by simp) (fun c hc => set_other _ hc) rfl rfl rfl (fun _ _ _ hb => by cases hb) (fun es2 he => by cases he; exact ⟨fs', c', set_same _ hb, hr, hc⟩)
theorem muD_sound (E : Emb P ρ h w B) {t kt et : TypeId} (ht : mapOf P t = some (kt, et)) {str : Bool} (hs : kdOf P kt = some str) {m x z : AV} {mv u zv : Value} (hm : Rel ρ h.nx.num m mv) (hx : Rel ρ h.nx.num x u) (hz : Rel ρ h.nx.num z zv) {k : Hp → Bool} (hk : muD str m x z h k = true) :
    MadeU P ρ h w B () ((Instr.mapUpdate t mv u zv).run P w) k := by
  have ht := mapOf_spec ht
  obtain ⟨d, hd, hck⟩ := kd_desc hs
  obtain ⟨q, rfl, hk1⟩ := AV.on_m_spec hk
  clear hk
  cases hm with
  | m _ hq =>
    rw [HT.getR_eq] at hk1
    obtain ⟨es, hg, hk2⟩ := OB.onM_spec hk1
    obtain ⟨fs, c, hb, hr, hborn⟩ := E.map q es hg
    have hgo := run_getObj' (P := P) hb (by intro _ _ _ e; cases e)
    obtain ⟨es', hk3, hcase⟩ := muK_sound hs hd hx hz 0 hr hk2
    rw [HT.setK_eq] at hk3
    rcases hcase with ⟨h1, h2⟩ | ⟨j, e, h1, h2, h3, h4, h5⟩
    · obtain ⟨a1, a2⟩ := E.setMap hg (es' := es') (fs' := fs.push { key := u, val := zv, born := c }) (c' := c + 1) (by simpa using h2 c) (fun e he => by
        rw [Array.toList_push] at he
        rcases List.mem_append.1 he with he | he
        · have := hborn e he; omega
        · rcases List.mem_singleton.1 he with rfl; simp)
      exact ⟨_, _, by simp [Instr.mapUpdate, run_underlying ht, hgo, hck, run_findKey (P := P) hd h1, run_setObj' (P := P) hb (by intro _ _ _ e; cases e)], a1, a2, hk3⟩
    · have hj : fs[j]? = some e := by rw [← Array.getElem?_toList]; exact h2
      have hks : (Instr.keyThatStays (((fs[0 + j]?).map (·.key)).getD u) u).run P w = .ok u w := by
        simp [hj, h3, Instr.keyThatStays, h4]
      rw [Nat.zero_add] at hks h1
      obtain ⟨a1, a2⟩ := E.setMap hg (es' := es') (fs' := fs.modify j fun e => { e with key := u, val := zv }) (c' := c) (by rw [Array.toList_modify]; exact h5) (fun e' he => by
        rw [Array.toList_modify] at he
        obtain ⟨i, hi⟩ := List.mem_iff_getElem?.1 he
        rw [List.getElem?_modify] at hi
        cases hfi : fs.toList[i]? with
        | none => rw [hfi] at hi; simp at hi
        | some e0 =>
          rw [hfi] at hi
          have hb0 := hborn e0 (List.mem_of_getElem? hfi)
          by_cases hij : j = i
          · simp [hij] at hi; rw [← hi]; exact hb0
          · simp [hij] at hi; rw [← hi]; exact hb0)
      refine ⟨_, _, ?_, a1, a2, hk3⟩
      simp only [Instr.mapUpdate, Sem.run_bind, run_underlying ht, Result.andThen_ok, hgo, hck, run_findKey (P := P) hd h1, hks, run_setObj' (P := P) hb (by intro _ _ _ e; cases e)]
theorem mdD_sound (E : Emb P ρ h w B) {t kt et u2 ty : TypeId} (ht : mapOf P t = some (kt, et)) {str : Bool} (hs : kdOf P kt = some str) {m x : AV} {mv u : Value} (hm : Rel ρ h.nx.num m mv) (hx : Rel ρ h.nx.num x u) {k : Hp → Bool} (hk : mdD str m x h k = true) :
    MadeU P ρ h w B (.tuple #[]) ((Builtin.delete_ #[t, u2] ty #[mv, u]).run P w) k := by
  have ht := mapOf_spec ht
  obtain ⟨d, hd, hck⟩ := kd_desc hs
  obtain ⟨q, rfl, hk1⟩ := AV.on_m_spec hk
  clear hk
  cases hm with
  | m _ hq =>
    rw [HT.getR_eq] at hk1
    obtain ⟨es, hg, hk2⟩ := OB.onM_spec hk1
    obtain ⟨fs, c, hb, hr, hborn⟩ := E.map q es hg
    have hgo := run_getObj' (P := P) hb (by intro _ _ _ e; cases e)
    obtain ⟨es', hk3, hcase⟩ := mdK_sound hs hd hx 0 hr hk2
    rw [HT.setK_eq] at hk3
    rcases hcase with ⟨h1, h2⟩ | ⟨j, v, h1, h2, h3⟩
    · obtain ⟨a1, a2⟩ := E.setMap hg (es' := es') (fs' := fs) (c' := c) h2 hborn
      exact ⟨_, _, by simp [Builtin.delete_, run_underlying ht, hgo, hck, run_findKey (P := P) hd h1, run_setObj' (P := P) hb (by intro _ _ _ e; cases e)], a1, a2, hk3⟩
    · rw [Nat.zero_add] at h1
      have hj : j < fs.size := by simpa using h2
      have he : (fs.eraseIdxIfInBounds j).toList = fs.toList.eraseIdx j := by simp
      obtain ⟨a1, a2⟩ := E.setMap hg (es' := es') (fs' := fs.eraseIdxIfInBounds j) (c' := c) (by rw [he]; exact h3) (fun e hm => by rw [he] at hm; exact hborn e (List.mem_of_mem_eraseIdx hm))
      exact ⟨_, _, by simp [Builtin.delete_, run_underlying ht, hgo, hck, run_findKey (P := P) hd h1, run_setObj' (P := P) hb (by intro _ _ _ e; cases e)], a1, a2, hk3⟩
theorem mmD_sound (E : Emb P ρ h w B) {t : TypeId} {k : AV → Hp → Bool} (hk : mmD h k = true) : Made P ρ h w B ((Instr.makeMap t none).run P w) k := by
  unfold mmD at hk
  rw [HT.setK_eq, Q.succK_eq] at hk
  obtain ⟨a1, a2⟩ := E.new' (w' := { w with heap := w.heap.push (.map #[] 0) }) h.t (fun _ => .inr rfl) (.map #[] 0) rfl rfl rfl rfl (.mp []) (by simp) 0 (fun _ _ _ hb => by cases hb) (fun es he => by cases he; exact ⟨#[], 0, by simp, .nil, by simp⟩)
  refine ⟨_, .map (some w.heap.size), _, _, _, by simp [Instr.makeMap], a1, a2, ?_, hk⟩
  have := Rel.m (ρ := upd ρ h.nx ⟨w.heap.size, 0, 0⟩) (N := h.nx.succ.num) h.nx (by rw [Q.num_succ]; omega)
  rw [upd_same] at this
  exact this
theorem rsD_sound (E : Emb P ρ h w B) {t : TypeId} (ht : P.underlying t = some .string) {x : AV} {u : Value} (hx : Rel ρ h.nx.num x u) {k : AV → Hp → Bool} (hk : rsD x h k = true) : Made P ρ h w B ((Instr.range t u).run P w) k := by
  obtain ⟨n, l, rfl, hk1⟩ := AV.on_s_spec hk
  clear hk
  rw [HT.setK_eq, Q.succK_eq] at hk1
  cases hx with
  | s s =>
    obtain ⟨a1, a2⟩ := E.new' (w' := { w with heap := w.heap.push (.stringIter s 0) }) h.t (fun _ => .inr rfl) (.stringIter s 0) rfl rfl rfl rfl (.si 0 (s.data.toList.map UInt8.toNat)) (by simp) 0 (fun _ _ _ hb => by cases hb) (fun es he => by cases he) (fun o l he => by cases he; exact ⟨s, by simp, by simp, rfl⟩)
    refine ⟨_, .pointer (some ⟨w.heap.size, 0, none⟩), _, _, _, by simp [Instr.range, run_underlying ht], a1, a2, ?_, hk1⟩
    have := Rel.p (ρ := upd ρ h.nx ⟨w.heap.size, 0, 0⟩) (N := h.nx.succ.num) h.nx 0 (by rw [Q.num_succ]; omega)
    rw [upd_same] at this
    exact this
theorem nsD_sound (E : Emb P ρ h w B) {ty : TypeId} {x : AV} {u : Value} (hx : Rel ρ h.nx.num x u) {k : AV → Hp → Bool} (hk : nsD x h k = true) : Made P ρ h w B ((Instr.next u true ty).run P w) k := by
  obtain ⟨q, o, rfl, hk1⟩ := AV.on_p_spec hk
  clear hk
  obtain ⟨ho, hk2⟩ := ifT_eq hk1
  subst ho
  rw [HT.getR_eq] at hk2
  obtain ⟨pos, l, hg, hk3⟩ := OB.onS_spec hk2
  obtain ⟨s, hb, hdrop, hbase⟩ := E.si q pos l hg
  have hgo := run_getObj' (P := P) hb (by intro _ _ _ e; cases e)
  cases hx with
  | p _ _ hq =>
    have hsz : (s.data.toList.map UInt8.toNat).length = s.size := by simp
    rw [hbase]
    cases l with
    | nil =>
      have hle : ¬ pos < s.size := by
        intro hlt
        have := congrArg List.length hdrop
        rw [List.length_drop, hsz] at this
        simp at this
        omega
      exact ⟨_, .tuple #[.bool false], w, ρ, h, by simp [Instr.next, hgo, hle], E, Step.refl _ _ _, .t _ [.bool false] (.cons _ _ _ _ (.b _) .nil), hk3⟩
    | cons b t =>
      obtain ⟨hb128, hk4⟩ := ifT_lt hk3
      rw [natK_eq, HT.setK_eq] at hk4
      have hlt : pos < s.size := by
        have := congrArg List.length hdrop
        rw [List.length_drop, hsz] at this
        simp at this
        omega
      have hlt2 : pos < (s.data.toList.map UInt8.toNat).length := by omega
      have hdd := List.drop_eq_getElem_cons hlt2
      rw [hdrop] at hdd
      have hb0 : b = (s[pos]'hlt).toNat := by
        have := (List.cons.inj hdd).1
        rw [this, List.getElem_map]
        rfl
      have ht0 := (List.cons.inj hdd).2
      have hdec := decode_ascii s pos hlt (by rw [← hb0]; exact hb128)
      obtain ⟨a1, a2⟩ := E.set (w' := { w with heap := w.heap.setIfInBounds (ρ q).blk (.stringIter s (pos + 1)) }) (q := q) (by rw [Hp.live, hg]; simp) (.si (pos + 1) t) (by simp) (by simp) (fun c hc => set_other _ hc) rfl rfl rfl (fun _ _ _ hb => by cases hb) (fun es2 he => by cases he)
        (fun o l he => by cases he; exact ⟨s, set_same _ hb, ht0.symm, hbase⟩)
      refine ⟨_, .tuple #[.bool true, goInt pos, .int .i32 (s[pos]'hlt).toNat], _, _, _, ?_, a1, a2, .t _ [.bool true, goInt pos, .int .i32 (s[pos]'hlt).toNat] (.cons _ _ _ _ (.b _) (.cons _ _ _ _ (rel_len _ _ _) (.cons _ _ _ _ ?_ .nil))), hk4⟩
      · simp [Instr.next, hgo, hlt, hdec, run_setObj' (P := P) hb (by intro _ _ _ e; cases e)]
      · rw [hb0]
        have := Rel.i (ρ := ρ) (N := h.nx.num) .i32 ((s[pos]'hlt).toNat + 9223372036854775808)
        rw [Int.natCast_add, show (((9223372036854775808 : Nat) : Int)) = 9223372036854775808 from rfl, Int.add_sub_cancel] at this
        exact this
end
end Go.Proofs.YtlannobincnnhaaGreatDoor
namespace Go.Proofs.YtlannobincnnhaaGreatDoor
set_option linter.unusedVariables false
set_option linter.unusedSimpArgs false

/-- So many elements of zero cells. -/
def repL (n sz : Nat) (zc : List AV) : List AV := (List.range (Nat.mul n sz)).map fun i => zc.getD (Nat.mod i sz) .d
noncomputable def clD (sz : Nat) (zc : List AV) (x : AV) (h : Hp) (k : Hp → Bool) : Bool :=
  AV.casesOn (motive_1 := fun _ => Bool) x false (fun _ => false) (fun _ _ => false) (fun _ _ => false) false (fun _ _ => false) (k h)
    (fun q o n _ => Bool.casesOn (motive := fun _ => Bool) (Nat.beq n 0) ((HT.getR q h.t).on fun ty m v => ifT (Nat.ble (Nat.add o (Nat.mul n sz)) m) (V.setL (repL n sz zc) v o fun v' => HT.setK (.bk ty m v') q h.t fun t' => k (.mk t' h.nx))) (k h))
    (k h) (fun _ _ _ => false) false false (fun _ => false) false (fun _ => false) (fun _ => false) (fun _ _ => false)
section
variable {P : Program} {ρ : Q → Loc} {h : Hp} {w : World} {B N : Nat}
theorem rel_rep (ρ : Q → Loc) (N n sz : Nat) (zc : Array Value) (hz : zc.size = sz) : RelL ρ N (repL n sz (zc.toList.map cv)) (Builtin.zeroCells zc n).toList := by
  subst hz
  refine RelL.of_get (by simp [repL, Builtin.zeroCells]) fun i hx hv => ?_
  have hi : i < n * zc.size := by simpa [repL] using hx
  have hpos : 0 < zc.size := by
    rcases Nat.eq_zero_or_pos zc.size with h0 | h0
    · rw [h0] at hi; omega
    · exact h0
  have hm : i % zc.size < zc.size := Nat.mod_lt _ hpos
  have e1 : (repL n zc.size (zc.toList.map cv))[i] = cv zc[i % zc.size] := by
    simp only [repL, List.getElem_map, List.getElem_range]
    show (zc.toList.map cv).getD (i % zc.size) .d = _
    rw [List.getD_eq_getElem?_getD, List.getElem?_map, Array.getElem?_toList, Array.getElem?_eq_getElem hm]
    rfl
  have e2 : (Builtin.zeroCells zc n).toList[i] = zc[i % zc.size] := by
    simp [Builtin.zeroCells, hm]
  rw [e1, e2]
  exact cv_rel _ _ _
theorem clD_sound (E : Emb P ρ h w B) {t e sz ty : Nat} (ht : P.underlying t = some (.slice e)) (he : elemOk P e sz = true) (h2 : ((P.info? e).bind (·.zero)).any (fun z => z.cells.toList.all Value.oneCell') = true) {x : AV} {u : Value} (hx : Rel ρ h.nx.num x u) {k : Hp → Bool} (hk : clD sz (zeroCs P e) x h k = true) :
    MadeU P ρ h w B (.tuple #[]) ((Builtin.clear_ #[t] ty #[u]).run P w) k := by
  obtain ⟨i, z, hi, hz, hzs, hs, hb⟩ := elemOk_spec he
  have hzz : (P.info? e).bind (·.zero) = some z := by rw [hi]; exact hz
  have hzv : (zeroValue e).run P w = .ok z w := by simp [zeroValue, typeInfo, hi, hz]
  have hzc : zeroCs P e = z.cells.toList.map cv := by unfold zeroCs; rw [hzz]
  rw [hzz] at h2
  have hz1 : ∀ v ∈ z.cells.toList, v.oneCell' = true := fun v hv => List.all_eq_true.1 (show z.cells.toList.all Value.oneCell' = true from h2) v hv
  cases x <;> first | (cases hk; done) | skip
  case ns => cases hx; exact ⟨w, h, by simp [Builtin.clear_, run_underlying ht], E, Step.refl _ _ _, hk⟩
  case se => cases hx with | se a c => exact ⟨w, h, by simp [Builtin.clear_, run_underlying ht], E, Step.refl _ _ _, hk⟩
  case sl q o n c =>
    have hk : Bool.casesOn (motive := fun _ => Bool) (Nat.beq n 0) ((HT.getR q h.t).on fun ty m v => ifT (Nat.ble (Nat.add o (Nat.mul n sz)) m) (V.setL (repL n sz (zeroCs P e)) v o fun v' => HT.setK (.bk ty m v') q h.t fun t' => k (.mk t' h.nx))) (k h) = true := hk
    have key : ∀ cap : Nat, MadeU P ρ h w B (.tuple #[]) ((Builtin.clear_ #[t] ty #[.slice (some ⟨(ρ q).blk, (ρ q).base + o, none⟩) n cap]).run P w) k := by
      intro cap
      cases hb0 : Nat.beq n 0 with
      | true =>
        rw [hb0] at hk
        have := Nat.eq_of_beq_eq_true hb0
        subst this
        exact ⟨w, h, by simp [Builtin.clear_, run_underlying ht], E, Step.refl _ _ _, hk⟩
      | false =>
        rw [hb0] at hk
        rw [HT.getR_eq] at hk
        obtain ⟨bt, m, v, hg, hk2⟩ := OB.on_spec hk
        obtain ⟨hle, hk3⟩ := ifT_le hk2
        have hle : o + n * sz ≤ m := hle
        obtain ⟨v', hk4, hin, hout⟩ := V.setL_spec _ v o _ hk3
        rw [HT.setK_eq] at hk4
        rw [hzc] at hin hout
        have hrel := rel_rep ρ h.nx.num n sz z.cells hzs
        have hlen : (repL n sz (z.cells.toList.map cv)).length = n * sz := by simp [repL]
        have R := E.row q bt m v hg
        obtain ⟨a1, a2, a3⟩ := E.write hg o hrel (fun u hu => by
          obtain ⟨j, hj, rfl⟩ := List.mem_iff_getElem.1 hu
          have hj' : j < n * z.cells.size := by simpa [Builtin.zeroCells] using hj
          have hm' : j % z.cells.size < z.cells.size := Nat.mod_lt _ (by
            rcases Nat.eq_zero_or_pos z.cells.size with h0 | h0
            · rw [h0] at hj'; omega
            · exact h0)
          have : (Builtin.zeroCells z.cells n).toList[j] = z.cells[j % z.cells.size] := by simp [Builtin.zeroCells, hm']
          rw [this]
          exact hz1 _ (by simp)) (by omega) v' hin hout m (.inl rfl) (by omega) (fun sz' hs' => by
            obtain ⟨sz'', hs'', hbb, _⟩ := R.at_
            rw [hs'] at hs''
            cases hs''
            rw [hlen]
            omega)
        have hn0 : n ≠ 0 := by
          intro h0; subst h0; cases hb0
        refine ⟨_, _, ?_, a2, a3, hk4⟩
        cases n with
        | zero => exact (hn0 rfl).elim
        | succ n => simp [Builtin.clear_, run_underlying ht, hzv, a1]
    obtain ⟨hq, ⟨cc, rfl, _, rfl⟩ | ⟨d, b, rfl, _, _, rfl⟩⟩ := hx.sl_inv
    · exact key _
    · exact key _
end

/-! What a function means. -/
abbrev FS := List AV → Hp → (AV → Hp → Bool) → Bool
/-- What a call leaves. -/
def Left (P : Program) (ρ : Q → Loc) (h : Hp) (w : World) (B : Nat) (k : AV → Hp → Bool) : Ending → World → Prop
  | .returned v, w' => ∃ ρ' h' y, Emb P ρ' h' w' B ∧ Step ρ h w ρ' h' w' ∧ Rel ρ' h'.nx.num y v ∧ k y h' = true
  | _, _ => False
structure SoundF (P : Program) (f : FuncId) (s : FS) : Prop where
  enter : ∀ (args : Array Value) (w : World), (callFunc f args).run P w = .ok (.enter f args) w
  det : ∀ args h, Det2 (s args h)
  sound : ∀ (ρ : Q → Loc) (h : Hp) (w : World) (B : Nat) (args : List AV) (vals : List Value) (k : AV → Hp → Bool), Emb P ρ h w B → RelL ρ h.nx.num args vals → s args h k = true → Calls P f vals.toArray w (Left P ρ h w B k)
/-- The functions that a function calls. -/
abbrev Tbl := List (Nat × FS)
noncomputable abbrev Tbl.get (T : Tbl) (f : Nat) (args : List AV) (h : Hp) (k : AV → Hp → Bool) : Bool :=
  List.rec (motive := fun _ => Bool) false (fun e _ ih => Bool.casesOn (motive := fun _ => Bool) (Nat.beq e.1 f) ih (e.2 args h k)) T
def SoundT (P : Program) (T : Tbl) : Prop := ∀ e ∈ T, SoundF P e.1 e.2
theorem SoundT.nil {P : Program} : SoundT P [] := fun _ h => by cases h
theorem SoundT.cons {P : Program} {f : Nat} {s : FS} {T : Tbl} (h : SoundF P f s) (t : SoundT P T) : SoundT P ((f, s) :: T) := fun e he => by
  rcases List.mem_cons.1 he with rfl | he
  · exact h
  · exact t e he
theorem Tbl.get_spec {P : Program} : ∀ {T : Tbl} {f : Nat} {args : List AV} {h : Hp} {k : AV → Hp → Bool}, SoundT P T → T.get f args h k = true → ∃ s, SoundF P f s ∧ s args h k = true
  | [], _, _, _, _, _, hk => by cases hk
  | e :: T, f, args, h, k, hT, hk => by
    have hk : Bool.casesOn (motive := fun _ => Bool) (Nat.beq e.1 f) (Tbl.get T f args h k) (e.2 args h k) = true := hk
    cases hb : Nat.beq e.1 f with
    | true =>
      rw [hb] at hk
      have := Nat.eq_of_beq_eq_true hb
      subst this
      exact ⟨e.2, hT e (by simp), hk⟩
    | false =>
      rw [hb] at hk
      exact Tbl.get_spec (fun e' he' => hT e' (List.mem_cons_of_mem _ he')) hk
theorem Tbl.get_det {P : Program} : ∀ {T : Tbl}, SoundT P T → ∀ (f : Nat) (args : List AV) (h : Hp), Det2 (T.get f args h)
  | [], _, _, _, _ => Det2.fail
  | e :: T, hT, f, args, h => by
    show Det2 fun k => Bool.casesOn (motive := fun _ => Bool) (Nat.beq e.1 f) (Tbl.get T f args h k) (e.2 args h k)
    cases Nat.beq e.1 f with
    | true => exact (hT e (by simp)).det args h
    | false => exact Tbl.get_det (fun e' he' => hT e' (List.mem_cons_of_mem _ he')) f args h
end Go.Proofs.YtlannobincnnhaaGreatDoor
namespace Go.Proofs.YtlannobincnnhaaGreatDoor
set_option linter.unusedVariables false
set_option linter.unusedSimpArgs false

abbrev szOf (P : Program) (e : TypeId) : Option Nat := (P.info? e).map (·.size)
theorem szOf_spec {P : Program} {e sz : Nat} (h : szOf P e = some sz) (w : World) : (sizeOf e).run P w = .ok sz w := by
  unfold szOf at h
  cases hi : P.info? e with
  | none => rw [hi] at h; cases h
  | some i => rw [hi] at h; cases h; simp [sizeOf, typeInfo, hi]
/-- A slice of a text; of a slice. -/
noncomputable def slsK (lo hi mx : Option AV) (x : AV) (k : AV → Bool) : Bool := x.on_s fun n l => slK 0 lo hi mx (.s n l) k
noncomputable def sllK (sz : Nat) (lo hi mx : Option AV) (x : AV) (k : AV → Bool) : Bool := nilS x fun _ => slK sz lo hi mx x k
/-- A literal of a struct, an array. -/
noncomputable def blK (ps : List (Nat × Nat × AV)) (z : List AV) (k : AV → Bool) : Bool := bldK ps z fun cs => k (.a cs)
def plc (P : Program) (t m : Nat) (f : Operand → AV) : List (Nat × Operand) → Option (List (Nat × Nat × AV))
  | [] => some []
  | (i, x) :: ps => match placesOf P t i with
    | some (off, sz) => match Nat.ble (Nat.add off sz) m with
      | true => match plc P t m f ps with
        | some l => some ((off, sz, f x) :: l)
        | none => none
      | false => none
    | none => none
/-- Two values, by their type. -/
noncomputable abbrev bopD (P : Program) (op : BinOp) (t : TypeId) (xo yo : Operand) (x y : AV) (k : AV → Bool) : Bool :=
  match op with
  | .shl | .shr => shkK op x y k
  | _ => match P.underlying t with
    | some (.int _) => ikK op x y k
    | some .string => stK op x y k
    | some .bool => bbK op x y k
    | some (.pointer _) => npK op x y k
    | some (.slice _) => nsK op x y k
    | some (.interface _) => match isC xo || isC yo with
      | true => niK op x y k
      | false => false
    | some (.struct _) => match P.eqGuardType P.depth t with
      | true => false
      | false => x.on_a fun xs => y.on_a fun ys => sqK P op t (.a xs) (.a ys) k
    | _ => false
noncomputable abbrev cnvD (P : Program) (s t : TypeId) (x : AV) (h : Hp) (k : AV → Bool) : Bool :=
  match P.underlying s, P.underlying t with
  | some (.int _), some (.int d) => ciK d x k
  | some .string, some .string => csK x k
  | some (.slice e), some .string => match P.underlying e with
    | some (.int .u8) => cbK x h k
    | _ => false
  | _, _ => false
noncomputable abbrev bltD (P : Program) (b : Builtin) (ts : List TypeId) (args : List AV) (h : Hp) (k : AV → Bool) : Bool :=
  match b, ts, args with
  | .len, [t], [x] => match P.underlying t with
    | some .string => lnS x k
    | some (.slice _) => lnL x k
    | some (.map _ _) => lnM x h k
    | _ => false
  | .min, _, x :: ys => mmL mnK ys x k
  | .max, _, x :: ys => mmL mxK ys x k
  | _, _, _ => false
noncomputable abbrev lightD (P : Program) (op : Op) (f : Operand → AV) (h : Hp) (k : AV → Bool) : Bool :=
  match op with
  | .move x | .assign x => k (f x)
  | .pick c a b => pkK (f c) (f a) (f b) k
  | .load t a => match aggOf P t with
    | some (true, n) => ldN n (f a) h k
    | some (false, _) => ld1 (f a) h k
    | none => false
  | .nilCheck x => ncK (f x) k
  | .binOp op t x y _ => bopD P op t x y (f x) (f y) k
  | .unOp op _ x => match op with
    | .not => notK (f x) k
    | .neg => negK (f x) k
    | .xor => cplK (f x) k
    | .plus => false
  | .convert s t x => cnvD P s t (f x) h k
  | .makeInterface t x => match notI P t with
    | true => k (.e t (f x))
    | false => false
  | .makeFunc (.func n) first captured => k (.f n (first.toList.map f) (captured.toList.map f))
  | .build t parts => match bldOk P t with
    | true => match plc P t (zeroCs P t).length f parts.toList with
      | some ps => blK ps (zeroCs P t) k
      | none => false
    | false => false
  | .slice t x lo hi mx => match P.underlying t with
    | some .string => slsK (lo.map f) (hi.map f) (mx.map f) (f x) k
    | some (.slice e) => match szOf P e with
      | some sz => sllK sz (lo.map f) (hi.map f) (mx.map f) (f x) k
      | none => false
    | some (.array n e) => match szOf P e, mx with
      | some sz, none => sapK n sz (lo.map f) (hi.map f) (f x) k
      | _, _ => false
    | _ => false
  | .fieldAddr s x i => match faOf P s i with
    | some off => faK off (f x) k
    | none => false
  | .field s x i => match fdOf P s i with
    | some (off, g, n) => fdK off g n (f x) k
    | none => false
  | .indexAddr t x i => match P.underlying t with
    | some (.slice e) => match szOf P e with
      | some sz => iaK sz (f x) (f i) k
      | none => false
    | some (.array n e) => match szOf P e with
      | some sz => iapK n sz (f x) (f i) k
      | none => false
    | _ => false
  | .index t x i => match P.underlying t with
    | some .string => ixK (f x) (f i) k
    | _ => false
  | .lookup t m x ok => match mapOf P t with
    | some (kt, et) => match kdOf P kt, (P.info? et).bind (·.zero) with
      | some str, some _ => lkK str ok (zeroOf P et) (f m) (f x) h k
      | _, _ => false
    | none => false
  | .typeAssert x _ as ok => match notI P as, (P.info? as).bind (·.zero), ok with
    | true, some _, true => taK as (zeroOf P as) (f x) k
    | _, _, _ => false
  | .extract x i => exK (f x) i k
  | .call c => match c.callee with
    | .builtin b => bltD P b c.argTypes.toList (c.args.toList.map f) h k
    | _ => false
  | _ => false
section
variable {P : Program} {ρ : Q → Loc} {h : Hp} {w : World} {B N : Nat}
/-- An operation's value, the world as it was. -/
def PureN (P : Program) (ρ : Q → Loc) (N : Nat) (w : World) (s : Sem Next) (k : AV → Bool) : Prop := ∃ y v, s.run P w = .ok (.value v) w ∧ Rel ρ N y v ∧ k y = true
theorem PureN.of1 {s : Sem Value} {k : AV → Bool} (hh : Pure1 ρ N w (s.run P w) k) : PureN P ρ N w (do pure (.value (← s))) k := by
  obtain ⟨y, v, h1, h2, h3⟩ := hh
  exact ⟨y, v, by simp [h1], h2, h3⟩
theorem relL_map {f : Operand → AV} {g : Operand → Value} : ∀ (l : List Operand), (∀ x ∈ l, Rel ρ N (f x) (g x)) → RelL ρ N (l.map f) (l.map g)
  | [], _ => .nil
  | x :: l, hh => .cons _ _ _ _ (hh x (by simp)) (relL_map l fun y hy => hh y (List.mem_cons_of_mem _ hy))
theorem relO_map {f : Operand → AV} {g : Operand → Value} : ∀ (o : Option Operand), (∀ x, o = some x → Rel ρ N (f x) (g x)) → RelO ρ N (o.map f) (o.map g)
  | none, _ => .none
  | some x, hh => .some _ _ (hh x rfl)
theorem rel_int_plain {x : AV} {v : Value} (hx : Rel ρ N x v) {kf : IntKind → Nat → Bool} (hk : x.on_i kf = true) : ∃ kd n, v = .int kd n := by
  obtain ⟨kd, a, rfl, _⟩ := AV.on_i_spec hk
  cases hx
  exact ⟨_, _, rfl⟩
theorem bopD_sound {op : BinOp} {t : TypeId} {xo yo : Operand} {x y : AV} {u v : Value} (hx : Rel ρ N x u) (hy : Rel ρ N y v) {k : AV → Bool} (hk : bopD P op t xo yo x y k = true) (w : World) : Pure1 ρ N w ((do eqGuard op t xo yo u v; binOp op t u v : Sem Value).run P w) k := by
  have lift : (eqGuard op t xo yo u v).run P w = .ok () w → Pure1 ρ N w ((binOp op t u v).run P w) k → Pure1 ρ N w ((do eqGuard op t xo yo u v; binOp op t u v : Sem Value).run P w) k := fun h1 h2 => by
    simpa only [Sem.run_bind, h1, Result.andThen_ok] using h2
  have plain : (∀ cs, u ≠ .agg cs) → u ≠ .nilIface → Pure1 ρ N w ((binOp op t u v).run P w) k → Pure1 ρ N w ((do eqGuard op t xo yo u v; binOp op t u v : Sem Value).run P w) k := fun h1 h2 h3 =>
    lift (eqGuard_plain op t xo yo u v (.inl h2) h1 w) h3
  have sh : shkK op x y k = true → Pure1 ρ N w ((do eqGuard op t xo yo u v; binOp op t u v : Sem Value).run P w) k := fun hk => by
    obtain ⟨kd, n, hu⟩ := rel_int_plain hx (show x.on_i _ = true from hk)
    exact plain (fun cs e => by rw [hu] at e; cases e) (fun e => by rw [hu] at e; cases e) (shkK_sound hx hy hk t w)
  have rest : (match P.underlying t with
    | some (.int _) => ikK op x y k
    | some .string => stK op x y k
    | some .bool => bbK op x y k
    | some (.pointer _) => npK op x y k
    | some (.slice _) => nsK op x y k
    | some (.interface _) => match isC xo || isC yo with
      | true => niK op x y k
      | false => false
    | some (.struct _) => match P.eqGuardType P.depth t with
      | true => false
      | false => x.on_a fun xs => y.on_a fun ys => sqK P op t (.a xs) (.a ys) k
    | _ => false) = true → Pure1 ρ N w ((do eqGuard op t xo yo u v; binOp op t u v : Sem Value).run P w) k := fun hk => by
    split at hk
    · obtain ⟨kd, n, hu⟩ := rel_int_plain hx (show x.on_i _ = true from hk)
      exact plain (fun cs e => by rw [hu] at e; cases e) (fun e => by rw [hu] at e; cases e) (ikK_sound hx hy hk t w)
    · have hu : ∃ s, u = .string s := by
        obtain ⟨_, _, rfl, _⟩ := AV.on_s_spec (show x.on_s _ = true from hk)
        cases hx
        exact ⟨_, rfl⟩
      obtain ⟨s, hu⟩ := hu
      exact plain (fun cs e => by rw [hu] at e; cases e) (fun e => by rw [hu] at e; cases e) (stK_sound hx hy hk t w)
    · rename_i ht
      have hu : ∃ s, u = .bool s := by
        obtain ⟨_, rfl, _⟩ := AV.on_b_spec (show x.on_b _ = true from hk)
        cases hx
        exact ⟨_, rfl⟩
      obtain ⟨s, hu⟩ := hu
      exact plain (fun cs e => by rw [hu] at e; cases e) (fun e => by rw [hu] at e; cases e) (bbK_sound hx hy hk ht w)
    · rename_i e ht
      refine plain (fun cs e => ?_) (fun e => ?_) (npK_sound hx hy hk ht) <;> (subst e; cases hx <;> cases hk)
    · rename_i e ht
      refine plain (fun cs e => ?_) (fun e => ?_) (nsK_sound hx hy hk ht) <;> (subst e; cases hx <;> cases hk)
    · rename_i ms ht
      split at hk
      · rename_i hc
        refine lift (eqGuard_plain op t xo yo u v (.inr (by simpa using hc)) (fun cs e => ?_) w) (niK_sound hx hy hk ht w)
        subst e; cases hx <;> cases hk
      · cases hk
    · rename_i fs ht
      split at hk
      · cases hk
      · rename_i hg
        obtain ⟨xs, rfl, hk2⟩ := AV.on_a_spec hk
        obtain ⟨ys, rfl, hk3⟩ := AV.on_a_spec hk2
        have hu : ∃ cs, u = .agg cs := by cases hx; exact ⟨_, rfl⟩
        have hv : ∃ cs, v = .agg cs := by cases hy; exact ⟨_, rfl⟩
        obtain ⟨cs, hu⟩ := hu
        obtain ⟨ds, hv⟩ := hv
        refine lift ?_ (sqK_sound hx hy hk3 ⟨cs, ds, hu, hv⟩ w)
        rw [hu, hv]
        exact run_eqGuard_agg w op t xo yo cs ds hg
    · cases hk
  cases op
  case shl => exact sh hk
  case shr => exact sh hk
  all_goals exact rest hk
theorem cnvD_sound (E : Emb P ρ h w B) {s t : TypeId} {x : AV} {u : Value} (hx : Rel ρ h.nx.num x u) {k : AV → Bool} (hk : cnvD P s t x h k = true) : Pure1 ρ h.nx.num w ((convert s t u).run P w) k := by
  unfold cnvD at hk
  split at hk
  · rename_i h1 h2; exact ciK_sound h1 h2 hx hk w
  · rename_i h1 h2; exact csK_sound h1 h2 hx hk w
  · rename_i e h1 h2
    split at hk
    · rename_i h3; exact cbK_sound E h1 h3 h2 hx hk
    · cases hk
  · cases hk
theorem bltD_sound (E : Emb P ρ h w B) {b : Builtin} {ts : List TypeId} {args : List AV} {vals : List Value} (ha : RelL ρ h.nx.num args vals) {k : AV → Bool} (hk : bltD P b ts args h k = true) (type : TypeId) :
    ∃ y v, (∀ cs : Array Bool, (builtin b ts.toArray type cs vals.toArray).run P w = .ok (.value v) w) ∧ Rel ρ h.nx.num y v ∧ k y = true := by
  have lift : ∀ {s : Sem Value}, (∀ cs : Array Bool, builtin b ts.toArray type cs vals.toArray = (do pure (.value (← s)) : Sem Next)) → Pure1 ρ h.nx.num w (s.run P w) k → ∃ y v, (∀ cs : Array Bool, (builtin b ts.toArray type cs vals.toArray).run P w = .ok (.value v) w) ∧ Rel ρ h.nx.num y v ∧ k y = true := fun he hh => by
    obtain ⟨y, v, h1, h2, h3⟩ := PureN.of1 hh
    exact ⟨y, v, fun cs => by rw [he cs]; exact h1, h2, h3⟩
  unfold bltD at hk
  split at hk
  · rename_i t x
    cases ha with
    | cons _ v _ vs hx t1 =>
      cases t1
      split at hk
      · rename_i ht; exact lift (fun _ => rfl) (lnS_sound ht hx hk w)
      · rename_i ht; exact lift (fun _ => rfl) (lnL_sound ht hx hk w)
      · rename_i kt et ht; exact lift (fun _ => rfl) (lnM_sound E (by unfold mapOf; rw [ht]) hx hk)
      · cases hk
  · rename_i x ys
    cases ha with
    | cons _ v _ vs hx t1 =>
      have := mmL_sound (P := P) (g := Builtin.min2) w (fun a b c => mn2_sound a b c w) t1 hx hk
      exact lift (fun _ => rfl) this
  · rename_i x ys
    cases ha with
    | cons _ v _ vs hx t1 =>
      have := mmL_sound (P := P) (g := Builtin.max2) w (fun a b c => mx2_sound a b c w) t1 hx hk
      exact lift (fun _ => rfl) this
  · cases hk
theorem plc_parts {t m : Nat} {f : Operand → AV} {g : Operand → Value} : ∀ {l : List (Nat × Operand)} {ps : List (Nat × Nat × AV)}, (∀ x ∈ l.map (·.2), Rel ρ N (f x) (g x)) → plc P t m f l = some ps → PartsR ρ N m (placesOf P t) ps (l.map fun (i, x) => (i, g x))
  | [], ps, _, hp => by cases hp; exact .nil
  | (i, x) :: l, ps, hh, hp => by
    unfold plc at hp
    split at hp
    · rename_i off sz hpl
      split at hp
      · rename_i hle
        split at hp
        · rename_i l' hl
          cases hp
          exact .cons i off sz _ _ _ _ hpl (Nat.le_of_ble_eq_true hle) (hh x (by simp)) (plc_parts (fun y hy => hh y (List.mem_cons_of_mem _ hy)) hl)
        · cases hp
      · cases hp
    · cases hp
theorem slsK_sound {t : TypeId} (ht : P.underlying t = some .string) {x : AV} {u : Value} {lo hi mx : Option AV} {lov hiv mxv : Option Value} (hx : Rel ρ N x u) (hlo : RelO ρ N lo lov) (hhi : RelO ρ N hi hiv) (hmx : RelO ρ N mx mxv) {k : AV → Bool} (hk : slsK lo hi mx x k = true) (w : World) : Pure1 ρ N w ((Instr.sliceAt t u lov hiv mxv).run P w) k := by
  obtain ⟨n, l, rfl, hk2⟩ := AV.on_s_spec hk
  refine slK_sound (.inl ht) hx hlo hhi hmx hk2 ⟨fun _ => ht, fun _ => ?_⟩ w
  cases hx
  exact ⟨_, rfl⟩
theorem sllK_sound {t e sz : TypeId} (ht : P.underlying t = some (.slice e)) (hs : szOf P e = some sz) {x : AV} {u : Value} {lo hi mx : Option AV} {lov hiv mxv : Option Value} (hx : Rel ρ N x u) (hlo : RelO ρ N lo lov) (hhi : RelO ρ N hi hiv) (hmx : RelO ρ N mx mxv) {k : AV → Bool} (hk : sllK sz lo hi mx x k = true) (w : World) : Pure1 ρ N w ((Instr.sliceAt t u lov hiv mxv).run P w) k := by
  have hk2 : slK sz lo hi mx x k = true := by cases x <;> first | (cases hk; done) | exact hk
  refine slK_sound (.inr ⟨e, ht, szOf_spec hs⟩) hx hlo hhi hmx hk2 ⟨fun ⟨s, hs⟩ => ?_, fun e => by rw [ht] at e; cases e⟩ w
  subst hs
  cases hx <;> cases hk
theorem lightD_sound (E : Emb P ρ h w B) (o : Oper) {f : Operand → AV} {g : Operand → Value} (hfg : ∀ x ∈ o.op.operands, Rel ρ h.nx.num (f x) (g x)) {k : AV → Bool} (hk : lightD P o.op f h k = true) : PureN P ρ h.nx.num w (execOp g o) k := by
  obtain ⟨dst, op, type, pos, after, guard⟩ := o
  cases op <;> (try (cases hk; done))
  case move x => exact ⟨_, g x, rfl, hfg x (by simp [Op.operands]), hk⟩
  case assign x => exact ⟨_, g x, rfl, hfg x (by simp [Op.operands]), hk⟩
  case pick c a b =>
    obtain ⟨x, h1, y, h2, h3⟩ := pkK_sound (P := P) (hfg c (by simp [Op.operands])) (hfg a (by simp [Op.operands])) (hfg b (by simp [Op.operands])) hk w
    exact ⟨y, _, by simp [execOp, h1], h2, h3⟩
  case build t parts =>
    simp only [lightD] at hk
    split at hk
    · rename_i hok
      split at hk
      · rename_i ps hps
        refine PureN.of1 (build_sound hok (parts := parts.map fun (i, x) => (i, g x)) rfl ?_ hk w)
        have := plc_parts (ρ := ρ) (N := h.nx.num) (g := g) (l := parts.toList) (fun x hx => hfg x (by simpa [Op.operands] using hx)) hps
        rw [Array.toList_map]
        exact this
      · cases hk
    · cases hk
  case load t a =>
    simp only [lightD] at hk
    split at hk
    · rename_i n ha; exact PureN.of1 (ldN_sound E ha (hfg a (by simp [Op.operands])) hk)
    · rename_i n ha; exact PureN.of1 (ld1_sound E ha (hfg a (by simp [Op.operands])) hk)
    · cases hk
  case nilCheck x =>
    obtain ⟨a, y, h1, h2, h3⟩ := ncK_sound (hfg x (by simp [Op.operands])) hk
    exact ⟨y, g x, by simp [execOp, h1], h2, h3⟩
  case binOp op t x y yt => exact PureN.of1 (bopD_sound (hfg x (by simp [Op.operands])) (hfg y (by simp [Op.operands])) hk w)
  case unOp op t x =>
    cases op
    case neg => exact PureN.of1 (negK_sound (hfg x (by simp [Op.operands])) hk w)
    case xor => exact PureN.of1 (cplK_sound (hfg x (by simp [Op.operands])) hk w)
    case not => exact PureN.of1 (notK_sound (hfg x (by simp [Op.operands])) hk w)
    case plus => cases hk
  case convert s t x => exact PureN.of1 (cnvD_sound E (hfg x (by simp [Op.operands])) hk)
  case makeInterface t x =>
    simp only [lightD] at hk
    split at hk
    · rename_i hn; exact PureN.of1 ⟨_, .iface t (g x), mi_sound hn (g x) w, .e _ _ _ (hfg x (by simp [Op.operands])), hk⟩
    · cases hk
  case makeFunc fn first captured =>
    cases fn <;> (try (cases hk; done))
    case func n =>
      refine PureN.of1 ⟨_, .func (.func n) (first.map g) (captured.map g), rfl, ?_, hk⟩
      have := Rel.f (ρ := ρ) (N := h.nx.num) n _ _ _ _ (relL_map (g := g) first.toList fun x hx => hfg x (by simp only [Op.operands, Array.mem_append]; exact .inl (by simpa using hx))) (relL_map (g := g) captured.toList fun x hx => hfg x (by simp only [Op.operands, Array.mem_append]; exact .inr (by simpa using hx)))
      have e1 : ∀ l : Array Operand, (l.toList.map g).toArray = l.map g := fun l => by apply Array.ext'; simp
      rwa [e1, e1] at this
  case slice t x lo hi mx =>
    have hO : ∀ z, (z = x ∨ lo = some z ∨ hi = some z ∨ mx = some z) → Rel ρ h.nx.num (f z) (g z) := fun z hz => hfg z (by
      simp only [Op.operands, Array.mem_append]
      rcases hz with rfl | rfl | rfl | rfl <;> simp)
    simp only [lightD] at hk
    split at hk
    · rename_i ht; exact PureN.of1 (slsK_sound ht (hO x (.inl rfl)) (relO_map lo fun z hz => hO z (.inr (.inl hz))) (relO_map hi fun z hz => hO z (.inr (.inr (.inl hz)))) (relO_map mx fun z hz => hO z (.inr (.inr (.inr hz)))) hk w)
    · rename_i e ht
      split at hk
      · rename_i sz hs; exact PureN.of1 (sllK_sound ht hs (hO x (.inl rfl)) (relO_map lo fun z hz => hO z (.inr (.inl hz))) (relO_map hi fun z hz => hO z (.inr (.inr (.inl hz)))) (relO_map mx fun z hz => hO z (.inr (.inr (.inr hz)))) hk w)
      · cases hk
    · rename_i n e ht
      split at hk
      · rename_i sz hs; exact PureN.of1 (sapK_sound ht (szOf_spec hs) (hO x (.inl rfl)) (relO_map lo fun z hz => hO z (.inr (.inl hz))) (relO_map hi fun z hz => hO z (.inr (.inr (.inl hz)))) hk w)
      · cases hk
    · cases hk
  case fieldAddr s x i =>
    simp only [lightD] at hk
    split at hk
    · rename_i off hs; exact PureN.of1 (faK_sound hs (hfg x (by simp [Op.operands])) hk w)
    · cases hk
  case field s x i =>
    simp only [lightD] at hk
    split at hk
    · rename_i off g' n hs; exact PureN.of1 (fdK_sound hs (hfg x (by simp [Op.operands])) hk w)
    · cases hk
  case indexAddr t x i =>
    simp only [lightD] at hk
    split at hk
    · rename_i e ht
      split at hk
      · rename_i sz hs; exact PureN.of1 (iaK_sound ht (szOf_spec hs) (hfg x (by simp [Op.operands])) (hfg i (by simp [Op.operands])) hk w)
      · cases hk
    · rename_i n e ht
      split at hk
      · rename_i sz hs; exact PureN.of1 (iapK_sound ht (szOf_spec hs) (hfg x (by simp [Op.operands])) (hfg i (by simp [Op.operands])) hk w)
      · cases hk
    · cases hk
  case index t x i =>
    simp only [lightD] at hk
    split at hk
    · rename_i ht; exact PureN.of1 (ixK_sound ht (hfg x (by simp [Op.operands])) (hfg i (by simp [Op.operands])) hk w)
    · cases hk
  case lookup t m x ok =>
    simp only [lightD] at hk
    split at hk
    · rename_i kt et ht
      split at hk
      · rename_i str z hs hz; exact PureN.of1 (lkK_sound E ht hs hz (hfg m (by simp [Op.operands])) (hfg x (by simp [Op.operands])) hk)
      · cases hk
    · cases hk
  case typeAssert x xt as ok =>
    simp only [lightD] at hk
    split at hk
    · rename_i z hn hz; exact PureN.of1 (taK_sound hn hz (hfg x (by simp [Op.operands])) hk w)
    · cases hk
  case extract x i => exact PureN.of1 (exK_sound (hfg x (by simp [Op.operands])) hk w)
  case call c =>
    obtain ⟨callee, args, argTypes⟩ := c
    simp only [lightD] at hk
    split at hk
    · rename_i b
      have ha : RelL ρ h.nx.num (args.toList.map f) (args.toList.map g) := relL_map _ fun x hx => hfg x (by simp [Op.operands, Call.operands]; simpa using hx)
      obtain ⟨y, v, h1, h2, h3⟩ := bltD_sound E ha hk type
      refine ⟨y, v, ?_, h2, h3⟩
      have e1 : (args.toList.map g).toArray = args.map g := by apply Array.ext'; simp
      simp only [Array.toArray_toList] at h1
      rw [e1] at h1
      simp only [execOp, resolve, invoke, Sem.run_bind, Sem.run_pure, Result.andThen_ok]
      exact h1 _
    · cases hk
end
end Go.Proofs.YtlannobincnnhaaGreatDoor
namespace Go.Proofs.YtlannobincnnhaaGreatDoor
set_option linter.unusedVariables false
set_option linter.unusedSimpArgs false

def dense : Nat → List (Nat × Operand) → Bool
  | _, [] => true
  | i, (j, _) :: l => match Nat.beq j i with
    | true => dense (Nat.succ i) l
    | false => false
def u8Of (P : Program) (e : TypeId) : Bool := match P.underlying e, Nat.beq (P.cellsOf e) 1 with
  | some (.int .u8), true => true
  | _, _ => false
def sliceOf (P : Program) (t : TypeId) : Option TypeId := match P.underlying t with
  | some (.slice e) => some e
  | _ => none
theorem sliceOf_spec {P : Program} {t e : TypeId} (h : sliceOf P t = some e) : P.underlying t = some (.slice e) := by
  unfold sliceOf at h
  split at h
  · cases h; assumption
  · cases h
def isStr (P : Program) (t : TypeId) : Bool := match P.underlying t with
  | some .string => true
  | _ => false
theorem isStr_spec {P : Program} {t : TypeId} (h : isStr P t = true) : P.underlying t = some .string := by
  unfold isStr at h
  split at h
  · assumption
  · cases h
def isSeq (P : Program) (t : TypeId) : Bool := match P.underlying t with
  | some .string => true
  | some (.slice _) => true
  | _ => false
theorem isSeq_spec {P : Program} {t : TypeId} (h : isSeq P t = true) : (∃ f, P.underlying t = some (.slice f)) ∨ P.underlying t = some .string := by
  unfold isSeq at h
  split at h
  · exact .inr (by assumption)
  · exact .inl ⟨_, by assumption⟩
  · cases h
/-- A type's method of this name, of the value itself. -/
def methOk (P : Program) (name : String) (tf : Nat × Nat) : Bool := match P.info? tf.1 with
  | some i => match i.methods.find? (·.name == name) with
    | some m => m.path.isEmpty && (m.func == some (tf.2, false)) && (match P.underlying tf.1 with
      | some (.pointer _) => false
      | some _ => true
      | none => false)
    | none => false
  | none => false
noncomputable def ivK (M : List (Nat × Nat)) (T : Tbl) (x : AV) (args : List AV) (h : Hp) (k : AV → Hp → Bool) : Bool :=
  x.on_e fun t v => List.rec (motive := fun _ => Bool) false (fun m _ ih => Bool.casesOn (motive := fun _ => Bool) (Nat.beq m.1 t) ih (T.get m.2 (v :: args) h k)) M
noncomputable def clK (T : Tbl) (x : AV) (args : List AV) (h : Hp) (k : AV → Hp → Bool) : Bool :=
  x.on_f fun n fs cs => T.get n (List.append fs (List.append args cs)) h k
noncomputable abbrev callD (P : Program) (T : Tbl) (M : List (Nat × Nat)) (callee : Callee) (ts : List TypeId) (args : List AV) (f : Operand → AV) (h : Hp) (k : AV → Hp → Bool) : Bool :=
  match callee with
  | .builtin b => match b, ts, args with
    | .append, [t, u], [x, y] => match sliceOf P t with
      | some e => match szOf P e with
        | some sz => match elemOk P e sz && isSeq P u with
          | true => apK e sz x y h k
          | false => false
        | none => false
      | none => false
    | .clear, [t], [x] => match sliceOf P t with
      | some e => match szOf P e with
        | some sz => match elemOk P e sz && ((P.info? e).bind (·.zero)).any (fun z => z.cells.toList.all Value.oneCell') with
          | true => clD sz (zeroCs P e) x h (fun h' => k (.t []) h')
          | false => false
        | none => false
      | none => false
    | .delete, [t, _], [m, x] => match mapOf P t with
      | some (kt, _) => match kdOf P kt with
        | some str => mdD str m x h (fun h' => k (.t []) h')
        | none => false
      | none => false
    | _, _, _ => false
  | .value (.func n) => T.get n args h k
  | .value v => clK T (f v) args h k
  | .invoke r name => match M.all (methOk P name) with
    | true => ivK M T (f r) args h k
    | false => false
noncomputable abbrev heavyD (P : Program) (T : Tbl) (M : List (Nat × Nat)) (op : Op) (f : Operand → AV) (h : Hp) (k : AV → Hp → Bool) : Bool :=
  match op with
  | .store t a x => match aggOf P t with
    | some (_, n) => stL n (f a) (f x) h (fun h' => k (.t []) h')
    | none => false
  | .alloc t => match (P.info? t).bind (·.zero) with
    | some _ => boxK t (P.cellsOf t) (zeroOf P t) h k
    | none => false
  | .box t x => boxK t (P.cellsOf t) (f x) h k
  | .buildSlice t n parts => match sliceOf P t with
    | some e => match szOf P e with
      | some sz => match elemOk P e sz && dense 0 parts.toList && Nat.beq parts.toList.length n && Nat.ble (Nat.mul n sz) 1000000 with
        | true => bsK e sz n (Nat.mul n sz) (parts.toList.map fun p => f p.2) h k
        | false => false
      | none => false
    | none => false
  | .convert s t x => match isStr P s, sliceOf P t with
    | true, some e => match u8Of P e with
      | true => sb2K e (f x) h k
      | false => false
    | _, _ => false
  | .makeMap _ none => mmD h k
  | .mapUpdate t m x z | .insert t m x z => match mapOf P t with
    | some (kt, _) => match kdOf P kt with
      | some str => muD str (f m) (f x) (f z) h (fun h' => k (.t []) h')
      | none => false
    | none => false
  | .range t x => match isStr P t with
    | true => rsD (f x) h k
    | false => false
  | .next x true => nsD (f x) h k
  | .call c => callD P T M c.callee c.argTypes.toList (c.args.toList.map f) f h k
  | _ => false
section
variable {P : Program} {ρ : Q → Loc} {h : Hp} {w : World} {B : Nat} {o : Oper} {a : Act} {next : Act → World → Prop} {QQ : Exit → Act → World → Prop}
theorem wp_of_value {v : Value} {w' : World} (h1 : (execOp a.eval o).run P w = .ok (.value v) w') (h2 : next (a.put o.dst v) w') : o.wp P a w next QQ := by
  unfold Oper.wp
  rw [h1]
  exact h2
theorem wp_of_skip {w' : World} (h1 : (execOp a.eval o).run P w = .ok .skip w') (h2 : next (a.put o.dst undef) w') : o.wp P a w next QQ := by
  unfold Oper.wp
  rw [h1]
  exact h2
/-- What is to be shown of an operation's end. -/
def Nx (P : Program) (ρ : Q → Loc) (h : Hp) (w : World) (B : Nat) (o : Oper) (a : Act) (next : Act → World → Prop) (k : AV → Hp → Bool) : Prop :=
  ∀ y v w' ρ' h', Emb P ρ' h' w' B → Step ρ h w ρ' h' w' → Rel ρ' h'.nx.num y v → k y h' = true → next (a.put o.dst v) w'
theorem wp_of_made {s : Sem Value} (he : execOp a.eval o = (do pure (.value (← s)) : Sem Next)) {k : AV → Hp → Bool} (hm : Made P ρ h w B (s.run P w) k) (H : Nx P ρ h w B o a next k) : o.wp P a w next QQ := by
  obtain ⟨y, v, w', ρ', h', h1, h2, h3, h4, h5⟩ := hm
  exact wp_of_value (by rw [he]; simp [h1]) (H y v w' ρ' h' h2 h3 h4 h5)
theorem rel_unit (ρ : Q → Loc) (N : Nat) : Rel ρ N (.t []) (.tuple #[]) := .t [] [] .nil
theorem wp_of_unit {s : Sem Unit} (he : execOp a.eval o = (do s; pure .skip : Sem Next)) {k : AV → Hp → Bool} (hm : MadeU P ρ h w B () (s.run P w) (fun h' => k (.t []) h')) (H : Nx P ρ h w B o a next k) : o.wp P a w next QQ := by
  obtain ⟨w', h', h1, h2, h3, h4⟩ := hm
  exact wp_of_skip (by rw [he]; simp [h1]) (H _ _ w' ρ h' h2 h3 (rel_unit _ _) h4)
theorem wp_of_calls {f : FuncId} {s : FS} (hf : SoundF P f s) {args : List AV} {vals : List Value} (he : (execOp a.eval o).run P w = (callFunc f vals.toArray).run P w) (E : Emb P ρ h w B) (ha : RelL ρ h.nx.num args vals) {k : AV → Hp → Bool} (hk : s args h k = true) (H : Nx P ρ h w B o a next k) : o.wp P a w next QQ := by
  unfold Oper.wp
  rw [he, hf.enter]
  refine Calls.mono (hf.sound ρ h w B args vals k E ha hk) fun e w' hl => ?_
  cases e with
  | returned v =>
    obtain ⟨ρ', h', y, h1, h2, h3, h4⟩ := hl
    exact H y v w' ρ' h' h1 h2 h3 h4
  | panicked c => exact hl.elim
  | outgrown => exact hl.elim
theorem dense_spec {N : Nat} {f : Operand → AV} {g : Operand → Value} : ∀ {l : List (Nat × Operand)} {i : Nat}, (∀ x ∈ l.map (·.2), Rel ρ N (f x) (g x)) → dense i l = true → DenseR ρ N i (l.map fun p => f p.2) (l.map fun (i, x) => (i, g x))
  | [], i, _, _ => .nil i
  | (j, x) :: l, i, hh, hd => by
    unfold dense at hd
    split at hd
    · rename_i hb
      have := Nat.eq_of_beq_eq_true hb
      subst this
      exact .cons _ _ _ _ _ (hh x (by simp)) (dense_spec (fun y hy => hh y (List.mem_cons_of_mem _ hy)) hd)
    · cases hd
theorem method_run {name : String} {tf : Nat × Nat} (hm : methOk P name tf = true) (n : Nat) (v : Value) (w : World) : (method (n + 1) tf.1 v name).run P w = .ok (tf.2, v) w := by
  unfold methOk at hm
  split at hm
  · rename_i i hi
    split at hm
    · rename_i m hf
      simp only [Bool.and_eq_true] at hm
      obtain ⟨⟨h1, h2⟩, h3⟩ := hm
      have h1 : m.path = #[] := by simpa using h1
      have h2 : m.func = some (tf.2, false) := by simpa using h2
      split at h3
      · cases h3
      · rename_i d hnp hd
        have hr : ∀ s : Option String, (receiverAt tf.1 (.val v) false s).run P w = .ok v w := fun s => by
          cases d <;> first | exact (hnp _ rfl).elim | simp [receiverAt, run_underlying hd, Place.get]
        simp [method, typeInfo, hi, hf, h1, h2, follow, hr]
      · cases h3
    · cases hm
  · cases hm
theorem callD_sound (E : Emb P ρ h w B) {T : Tbl} (hT : SoundT P T) {M : List (Nat × Nat)} {c : Call} (ho : o.op = .call c) {f : Operand → AV} (hfg : ∀ x ∈ c.operands, Rel ρ h.nx.num (f x) (a.eval x)) {k : AV → Hp → Bool} (hk : callD P T M c.callee c.argTypes.toList (c.args.toList.map f) f h k = true) (H : Nx P ρ h w B o a next k) : o.wp P a w next QQ := by
  obtain ⟨dst, op, type, pos, after, guard⟩ := o
  cases ho
  obtain ⟨callee, args, argTypes⟩ := c
  have e1 : (args.toList.map a.eval).toArray = args.map a.eval := by apply Array.ext'; simp
  have ha : RelL ρ h.nx.num (args.toList.map f) (args.toList.map a.eval) := relL_map _ fun x hx => hfg x (by simp only [Call.operands, Array.mem_append]; exact .inr (by simpa using hx))
  simp only [callD] at hk
  split at hk
  · rename_i b
    split at hk
    · rename_i t u x y hts has
      split at hk
      · rename_i e he
        split at hk
        · rename_i sz hs
          split at hk
          · rename_i hc
            simp only [Bool.and_eq_true] at hc
            rw [has] at ha
            generalize hvals : args.toList.map a.eval = vals at ha e1
            cases ha with
            | cons _ xv _ _ hx t1 =>
              cases t1 with
              | cons _ yv _ _ hy t2 =>
                cases t2
                refine wp_of_made (s := Builtin.append_ argTypes type (args.map a.eval)) rfl ?_ H
                rw [← e1]
                have : argTypes = #[t, u] := by apply Array.ext'; simpa using hts
                rw [this]
                exact apK_sound E (sliceOf_spec he) (isSeq_spec hc.2) hc.1 hx hy hk
          · cases hk
        · cases hk
      · cases hk
    · rename_i t x hts has
      split at hk
      · rename_i e he
        split at hk
        · rename_i sz hs
          split at hk
          · rename_i hc
            simp only [Bool.and_eq_true] at hc
            rw [has] at ha
            generalize hvals : args.toList.map a.eval = vals at ha e1
            cases ha with
            | cons _ xv _ _ hx t1 =>
              cases t1
              have : argTypes = #[t] := by apply Array.ext'; simpa using hts
              subst this
              obtain ⟨w', h', h1, h2, h3, h4⟩ := clD_sound (ty := type) E (sliceOf_spec he) hc.1 hc.2 hx hk
              refine wp_of_value (v := .tuple #[]) ?_ (H _ _ w' ρ h' h2 h3 (rel_unit _ _) h4)
              have h1 : (Builtin.clear_ #[t] type [xv].toArray).run P w = .ok (.tuple #[]) w' := h1
              rw [e1] at h1
              simp [execOp, resolve, invoke, builtin, h1]
          · cases hk
        · cases hk
      · cases hk
    · rename_i t u m x hts has
      split at hk
      · rename_i kt et ht
        split at hk
        · rename_i str hs
          rw [has] at ha
          generalize hvals : args.toList.map a.eval = vals at ha e1
          cases ha with
          | cons _ mv _ _ hm t1 =>
            cases t1 with
            | cons _ xv _ _ hx t2 =>
              cases t2
              have : argTypes = #[t, u] := by apply Array.ext'; simpa using hts
              subst this
              obtain ⟨w', h', h1, h2, h3, h4⟩ := mdD_sound (ty := type) (u2 := u) E ht hs hm hx hk
              refine wp_of_value (v := .tuple #[]) ?_ (H _ _ w' ρ h' h2 h3 (rel_unit _ _) h4)
              have h1 : (Builtin.delete_ #[t, u] type [mv, xv].toArray).run P w = .ok (.tuple #[]) w' := h1
              rw [e1] at h1
              simp [execOp, resolve, invoke, builtin, h1]
        · cases hk
      · cases hk
    · cases hk
  · rename_i n
    obtain ⟨s, hs, hk2⟩ := Tbl.get_spec hT hk
    refine wp_of_calls hs ?_ E ha hk2 H
    rw [e1]
    simp [execOp, resolve, invoke, Act.eval, Deferred.ofValue]
  · rename_i v hnf
    obtain ⟨n, fs, cs, hfv, hk2⟩ := AV.on_f_spec hk
    obtain ⟨s, hs, hk3⟩ := Tbl.get_spec hT hk2
    have hv : Rel ρ h.nx.num (f v) (a.eval v) := hfg v (by simp [Call.operands])
    rw [hfv] at hv
    generalize hav : a.eval v = fv at hv
    cases hv with
    | f _ _ _ us vs hu hv =>
      refine wp_of_calls hs (vals := us ++ (args.toList.map a.eval ++ vs)) ?_ E (hu.append (ha.append hv)) hk3 H
      have e2 : (us ++ (args.toList.map a.eval ++ vs)).toArray = us.toArray ++ args.map a.eval ++ vs.toArray := by
        rw [← e1]; simp
      rw [e2]
      simp [execOp, resolve, invoke, hav, Deferred.ofValue]
  · rename_i r name
    split at hk
    · rename_i hM
      obtain ⟨t, v, hfv, hk2⟩ := AV.on_e_spec hk
      have hv : Rel ρ h.nx.num (f r) (a.eval r) := hfg r (by simp [Call.operands])
      rw [hfv] at hv
      generalize hav : a.eval r = rv at hv
      cases hv with
      | e _ _ v' hv =>
        have key : ∀ (M : List (Nat × Nat)), M.all (methOk P name) = true → List.rec (motive := fun _ => Bool) false (fun m _ ih => Bool.casesOn (motive := fun _ => Bool) (Nat.beq m.1 t) ih (T.get m.2 (v :: args.toList.map f) h k)) M = true → ∃ n, methOk P name (t, n) = true ∧ T.get n (v :: args.toList.map f) h k = true := by
          intro M
          induction M with
          | nil => intro _ hh; cases hh
          | cons m M ih =>
            intro hall hh
            simp only [List.all_cons, Bool.and_eq_true] at hall
            have hh : Bool.casesOn (motive := fun _ => Bool) (Nat.beq m.1 t) (List.rec (motive := fun _ => Bool) false (fun m _ ih => Bool.casesOn (motive := fun _ => Bool) (Nat.beq m.1 t) ih (T.get m.2 (v :: args.toList.map f) h k)) M) (T.get m.2 (v :: args.toList.map f) h k) = true := hh
            cases hb : Nat.beq m.1 t with
            | true =>
              rw [hb] at hh
              have := Nat.eq_of_beq_eq_true hb
              subst this
              exact ⟨m.2, hall.1, hh⟩
            | false => rw [hb] at hh; exact ih hall.2 hh
        obtain ⟨n, hm, hk3⟩ := key M hM hk2
        obtain ⟨s, hs, hk4⟩ := Tbl.get_spec hT hk3
        have hmr := method_run (P := P) hm
        refine wp_of_calls hs (vals := v' :: args.toList.map a.eval) ?_ E (.cons _ _ _ _ hv ha) hk4 H
        have e2 : (v' :: args.toList.map a.eval).toArray = #[v'] ++ args.map a.eval := by rw [← e1]; simp
        rw [e2]
        have hex : execOp a.eval ⟨dst, .call ⟨.invoke r name, args, argTypes⟩, type, pos, after, guard⟩ = Go.invoke (.fn (.method name) #[]) (#[Value.iface t v'] ++ args.map a.eval) := by
          simp only [execOp, resolve, hav]
          rfl
        rw [hex]
        have hd0 : Go.Made.depth = 100 := rfl
        have hfuel : ∃ m, P.types.size + Go.Made.depth = m + 1 := ⟨P.types.size + 99, by rw [hd0]⟩
        obtain ⟨m, hfuel⟩ := hfuel
        have hx0 : ∀ xs : Array Value, (#[Value.iface t v'] ++ xs)[0]? = some (.iface t v') := fun xs => by rw [Array.getElem?_append_left (by simp)]; rfl
        generalize args.map a.eval = xs
        have hinv : ∀ xs : Array Value, Go.invoke (.fn (.method name) #[]) (#[Value.iface t v'] ++ xs) = callMethod (.iface t v') name xs := fun xs => by
          unfold Go.invoke
          simp [hx0]
        have hcm : (callMethod (.iface t v') name xs).run P w = (callFunc n (#[v'] ++ xs)).run P w := by
          simp only [callMethod, Sem.run_bind, run_program, Result.andThen_ok, hfuel, hmr]
        rw [← hcm, ← hinv]
    · cases hk
set_option maxHeartbeats 2000000 in
theorem heavyD_sound (E : Emb P ρ h w B) {T : Tbl} (hT : SoundT P T) {M : List (Nat × Nat)} (o : Oper) {f : Operand → AV} (hfg : ∀ x ∈ o.op.operands, Rel ρ h.nx.num (f x) (a.eval x)) {k : AV → Hp → Bool} (hk : heavyD P T M o.op f h k = true) (H : Nx P ρ h w B o a next k) : o.wp P a w next QQ := by
  cases hop : o.op <;> (rw [hop] at hk hfg) <;> (try (cases hk; done))
  case alloc t =>
    obtain ⟨dst, op, type, pos, after, guard⟩ := o
    cases hop
    simp only [heavyD] at hk
    split at hk
    · rename_i z hz
      have hzr : Rel ρ h.nx.num (zeroOf P t) z := by unfold zeroOf; rw [hz]; exact cva_rel _ _ _
      refine wp_of_made (s := Instr.alloc t true (.tuple #[])) rfl ?_ H
      rw [alloc_run t z hz]
      exact boxK_sound E t _ rfl hzr hk
    · cases hk
  case box t x =>
    obtain ⟨dst, op, type, pos, after, guard⟩ := o
    cases hop
    exact wp_of_made (s := Instr.box t (a.eval x)) rfl (boxK_sound E t _ rfl (hfg x (by simp [Op.operands])) hk) H
  case buildSlice t n parts =>
    obtain ⟨dst, op, type, pos, after, guard⟩ := o
    cases hop
    simp only [heavyD] at hk
    split at hk
    · rename_i e he
      split at hk
      · rename_i sz hs
        split at hk
        · rename_i hc
          simp only [Bool.and_eq_true] at hc
          obtain ⟨⟨⟨h1, h2⟩, h3⟩, h4⟩ := hc
          refine wp_of_made (s := Instr.buildSlice t n (parts.map fun (i, x) => (i, a.eval x))) rfl ?_ H
          refine bsK_sound E (sliceOf_spec he) h1 rfl (Nat.le_of_ble_eq_true h4) (by simpa using Nat.eq_of_beq_eq_true h3) ?_ hk
          rw [Array.toList_map]
          exact dense_spec (fun x hx => hfg x (by simpa [Op.operands] using hx)) h2
        · cases hk
      · cases hk
    · cases hk
  case insert t m x z =>
    obtain ⟨dst, op, type, pos, after, guard⟩ := o
    cases hop
    simp only [heavyD] at hk
    split at hk
    · rename_i kt et ht
      split at hk
      · rename_i str hs; exact wp_of_unit (s := Instr.mapUpdate t (a.eval m) (a.eval x) (a.eval z)) rfl (muD_sound E ht hs (hfg m (by simp [Op.operands])) (hfg x (by simp [Op.operands])) (hfg z (by simp [Op.operands])) hk) H
      · cases hk
    · cases hk
  case mapUpdate t m x z =>
    obtain ⟨dst, op, type, pos, after, guard⟩ := o
    cases hop
    simp only [heavyD] at hk
    split at hk
    · rename_i kt et ht
      split at hk
      · rename_i str hs; exact wp_of_unit (s := Instr.mapUpdate t (a.eval m) (a.eval x) (a.eval z)) rfl (muD_sound E ht hs (hfg m (by simp [Op.operands])) (hfg x (by simp [Op.operands])) (hfg z (by simp [Op.operands])) hk) H
      · cases hk
    · cases hk
  case store t x z =>
    obtain ⟨dst, op, type, pos, after, guard⟩ := o
    cases hop
    simp only [heavyD] at hk
    split at hk
    · rename_i g n ha
      obtain ⟨w', h', h1, h2, h3, h4⟩ := stL_sound E ha (hfg x (by simp [Op.operands])) (hfg z (by simp [Op.operands])) hk
      exact wp_of_unit (s := Instr.storeAt t (a.eval x) (a.eval z)) rfl ⟨w', h', h1, h2, h3, h4⟩ H
    · cases hk
  case convert s t x =>
    obtain ⟨dst, op, type, pos, after, guard⟩ := o
    cases hop
    simp only [heavyD] at hk
    split at hk
    · rename_i e hs ht
      split at hk
      · rename_i hu
        unfold u8Of at hu
        split at hu
        · rename_i h1 h2
          exact wp_of_made (s := convert s t (a.eval x)) rfl (sb2K_sound E (isStr_spec hs) (sliceOf_spec ht) h1 (Nat.eq_of_beq_eq_true h2) (hfg x (by simp [Op.operands])) hk) H
        · cases hu
      · cases hk
    · cases hk
  case makeMap t r =>
    obtain ⟨dst, op, type, pos, after, guard⟩ := o
    cases hop
    cases r with
    | none => exact wp_of_made (s := Instr.makeMap t none) rfl (mmD_sound E hk) H
    | some r => cases hk
  case range t x =>
    obtain ⟨dst, op, type, pos, after, guard⟩ := o
    cases hop
    simp only [heavyD] at hk
    split at hk
    · rename_i hs; exact wp_of_made (s := Instr.range t (a.eval x)) rfl (rsD_sound E (isStr_spec hs) (hfg x (by simp [Op.operands])) hk) H
    · cases hk
  case next x b =>
    obtain ⟨dst, op, type, pos, after, guard⟩ := o
    cases hop
    cases b with
    | true => exact wp_of_made (s := Instr.next (a.eval x) true type) rfl (nsD_sound E (hfg x (by simp [Op.operands])) hk) H
    | false => cases hk
  case call c => exact callD_sound E hT hop (fun x hx => hfg x (by simpa [Op.operands] using hx)) hk H
end
end Go.Proofs.YtlannobincnnhaaGreatDoor
