/-
  No claim by itself: the evaluator: what it asks of a value. | the evaluator: loads, stores, new blocks. | the evaluator: new blocks. | the evaluator: integers. No condition.
-/
import Derived.Test.YtpchmdddkpocgaaGreatDoorP1
namespace Go.Proofs.YtpchmdddkpocgaaGreatDoor
set_option linter.unusedVariables false
set_option linter.unusedSimpArgs false
def AV.on_b (x : AV) (f : Bool → Bool) : Bool := AV.casesOn (motive_1 := fun _ => Bool) x false f (fun _ _ => false) (fun _ _ => false) false (fun _ _ => false) false (fun _ _ _ _ => false) false (fun _ _ _ => false) false false (fun _ => false) false (fun _ => false) (fun _ => false) (fun _ _ => false) (fun _ => false)
theorem AV.on_b_spec {x : AV} {f : Bool → Bool} (h : x.on_b f = true) : ∃ vx, x = .b vx ∧ f vx = true := by cases x <;> first | exact ⟨_, rfl, h⟩ | cases h
def AV.on_i (x : AV) (f : IntKind → Nat → Bool) : Bool := AV.casesOn (motive_1 := fun _ => Bool) x false (fun _ => false) f (fun _ _ => false) false (fun _ _ => false) false (fun _ _ _ _ => false) false (fun _ _ _ => false) false false (fun _ => false) false (fun _ => false) (fun _ => false) (fun _ _ => false) (fun _ => false)
theorem AV.on_i_spec {x : AV} {f : IntKind → Nat → Bool} (h : x.on_i f = true) : ∃ vk vn, x = .i vk vn ∧ f vk vn = true := by cases x <;> first | exact ⟨_, _, rfl, h⟩ | cases h
def AV.on_s (x : AV) (f : Nat → List Nat → Bool) : Bool := AV.casesOn (motive_1 := fun _ => Bool) x false (fun _ => false) (fun _ _ => false) f false (fun _ _ => false) false (fun _ _ _ _ => false) false (fun _ _ _ => false) false false (fun _ => false) false (fun _ => false) (fun _ => false) (fun _ _ => false) (fun _ => false)
theorem AV.on_s_spec {x : AV} {f : Nat → List Nat → Bool} (h : x.on_s f = true) : ∃ vn vl, x = .s vn vl ∧ f vn vl = true := by cases x <;> first | exact ⟨_, _, rfl, h⟩ | cases h
def AV.on_p (x : AV) (f : Q → Nat → Bool) : Bool := AV.casesOn (motive_1 := fun _ => Bool) x false (fun _ => false) (fun _ _ => false) (fun _ _ => false) false f false (fun _ _ _ _ => false) false (fun _ _ _ => false) false false (fun _ => false) false (fun _ => false) (fun _ => false) (fun _ _ => false) (fun _ => false)
theorem AV.on_p_spec {x : AV} {f : Q → Nat → Bool} (h : x.on_p f = true) : ∃ vq vo, x = .p vq vo ∧ f vq vo = true := by cases x <;> first | exact ⟨_, _, rfl, h⟩ | cases h
def AV.on_sl (x : AV) (f : Q → Nat → Nat → AC → Bool) : Bool := AV.casesOn (motive_1 := fun _ => Bool) x false (fun _ => false) (fun _ _ => false) (fun _ _ => false) false (fun _ _ => false) false f false (fun _ _ _ => false) false false (fun _ => false) false (fun _ => false) (fun _ => false) (fun _ _ => false) (fun _ => false)
theorem AV.on_sl_spec {x : AV} {f : Q → Nat → Nat → AC → Bool} (h : x.on_sl f = true) : ∃ vq vo vn vc, x = .sl vq vo vn vc ∧ f vq vo vn vc = true := by cases x <;> first | exact ⟨_, _, _, _, rfl, h⟩ | cases h
def AV.on_f (x : AV) (f : Nat → List AV → List AV → Bool) : Bool := AV.casesOn (motive_1 := fun _ => Bool) x false (fun _ => false) (fun _ _ => false) (fun _ _ => false) false (fun _ _ => false) false (fun _ _ _ _ => false) false f false false (fun _ => false) false (fun _ => false) (fun _ => false) (fun _ _ => false) (fun _ => false)
theorem AV.on_f_spec {x : AV} {f : Nat → List AV → List AV → Bool} (h : x.on_f f = true) : ∃ vf vfs vcs, x = .f vf vfs vcs ∧ f vf vfs vcs = true := by cases x <;> first | exact ⟨_, _, _, rfl, h⟩ | cases h
def AV.on_m (x : AV) (f : Q → Bool) : Bool := AV.casesOn (motive_1 := fun _ => Bool) x false (fun _ => false) (fun _ _ => false) (fun _ _ => false) false (fun _ _ => false) false (fun _ _ _ _ => false) false (fun _ _ _ => false) false false f false (fun _ => false) (fun _ => false) (fun _ _ => false) (fun _ => false)
theorem AV.on_m_spec {x : AV} {f : Q → Bool} (h : x.on_m f = true) : ∃ vq, x = .m vq ∧ f vq = true := by cases x <;> first | exact ⟨_, rfl, h⟩ | cases h
def AV.on_a (x : AV) (f : List AV → Bool) : Bool := AV.casesOn (motive_1 := fun _ => Bool) x false (fun _ => false) (fun _ _ => false) (fun _ _ => false) false (fun _ _ => false) false (fun _ _ _ _ => false) false (fun _ _ _ => false) false false (fun _ => false) false f (fun _ => false) (fun _ _ => false) (fun _ => false)
theorem AV.on_a_spec {x : AV} {f : List AV → Bool} (h : x.on_a f = true) : ∃ vcs, x = .a vcs ∧ f vcs = true := by cases x <;> first | exact ⟨_, rfl, h⟩ | cases h
def AV.on_t (x : AV) (f : List AV → Bool) : Bool := AV.casesOn (motive_1 := fun _ => Bool) x false (fun _ => false) (fun _ _ => false) (fun _ _ => false) false (fun _ _ => false) false (fun _ _ _ _ => false) false (fun _ _ _ => false) false false (fun _ => false) false (fun _ => false) f (fun _ _ => false) (fun _ => false)
theorem AV.on_t_spec {x : AV} {f : List AV → Bool} (h : x.on_t f = true) : ∃ vcs, x = .t vcs ∧ f vcs = true := by cases x <;> first | exact ⟨_, rfl, h⟩ | cases h
def AV.on_e (x : AV) (f : Nat → AV → Bool) : Bool := AV.casesOn (motive_1 := fun _ => Bool) x false (fun _ => false) (fun _ _ => false) (fun _ _ => false) false (fun _ _ => false) false (fun _ _ _ _ => false) false (fun _ _ _ => false) false false (fun _ => false) false (fun _ => false) (fun _ => false) f (fun _ => false)
theorem AV.on_e_spec {x : AV} {f : Nat → AV → Bool} (h : x.on_e f = true) : ∃ vt vx, x = .e vt vx ∧ f vt vx = true := by cases x <;> first | exact ⟨_, _, rfl, h⟩ | cases h
def AV.on_y (x : AV) (f : Sy → Bool) : Bool := AV.casesOn (motive_1 := fun _ => Bool) x false (fun _ => false) (fun _ _ => false) (fun _ _ => false) false (fun _ _ => false) false (fun _ _ _ _ => false) false (fun _ _ _ => false) false false (fun _ => false) false (fun _ => false) (fun _ => false) (fun _ _ => false) f
theorem AV.on_y_spec {x : AV} {f : Sy → Bool} (h : x.on_y f = true) : ∃ s, x = .y s ∧ f s = true := by cases x <;> first | exact ⟨_, rfl, h⟩ | cases h
def AV.yK (x : AV) (f : Sy → Bool) (o : Bool) : Bool := AV.casesOn (motive_1 := fun _ => Bool) x o (fun _ => o) (fun _ _ => o) (fun _ _ => o) o (fun _ _ => o) o (fun _ _ _ _ => o) o (fun _ _ _ => o) o o (fun _ => o) o (fun _ => o) (fun _ => o) (fun _ _ => o) f
theorem AV.yK_spec {x : AV} {f : Sy → Bool} {o : Bool} (h : x.yK f o = true) : (∃ s, x = .y s ∧ f s = true) ∨ o = true := by cases x <;> first | exact .inl ⟨_, rfl, h⟩ | exact .inr h
def Sy.on_os (s : Sy) (f : Nat → Bool) : Bool := Sy.casesOn (motive := fun _ => Bool) s f (fun _ _ _ => false) (fun _ _ => false) (fun _ _ _ => false) (fun _ _ => false)
theorem Sy.on_os_spec {s : Sy} {f : Nat → Bool} (h : s.on_os f = true) : ∃ i, s = .os i ∧ f i = true := by cases s <;> first | exact ⟨_, rfl, h⟩ | cases h
def Sy.on_iv (s : Sy) (f : IntKind → Nat → Nat → Bool) : Bool := Sy.casesOn (motive := fun _ => Bool) s (fun _ => false) f (fun _ _ => false) (fun _ _ _ => false) (fun _ _ => false)
theorem Sy.on_iv_spec {s : Sy} {f : IntKind → Nat → Nat → Bool} (h : s.on_iv f = true) : ∃ k a b, s = .iv k a b ∧ f k a b = true := by cases s <;> first | exact ⟨_, _, _, rfl, h⟩ | cases h
def Sy.on_so (s : Sy) (f : Q → Nat → Bool) : Bool := Sy.casesOn (motive := fun _ => Bool) s (fun _ => false) (fun _ _ _ => false) f (fun _ _ _ => false) (fun _ _ => false)
theorem Sy.on_so_spec {s : Sy} {f : Q → Nat → Bool} (h : s.on_so f = true) : ∃ q i, s = .so q i ∧ f q i = true := by cases s <;> first | exact ⟨_, _, rfl, h⟩ | cases h
def osK (x y : AV) (o k : Bool) : Bool := x.yK (fun s => s.on_os fun i => y.on_y fun t => t.on_os fun j => Bool.casesOn (motive := fun _ => Bool) (Nat.beq i j) false k) o
theorem osK_spec {x y : AV} {o k : Bool} (h : osK x y o k = true) : (∃ i, x = .y (.os i) ∧ y = .y (.os i) ∧ k = true) ∨ o = true := by
 rcases AV.yK_spec h with ⟨s, rfl, h1⟩ | h1
 ·obtain ⟨i, rfl, h2⟩ := Sy.on_os_spec h1
  obtain ⟨t, rfl, h3⟩ := AV.on_y_spec h2
  obtain ⟨j, rfl, h4⟩ := Sy.on_os_spec h3
  cases hb : Nat.beq i j with
  | true =>
   have := Nat.eq_of_beq_eq_true hb
   subst this
   rw [hb] at h4
   exact .inl ⟨i, rfl, rfl, h4⟩
  | false => rw [hb] at h4; cases h4
 ·exact .inr h1
def AV.one (x : AV) : Bool := AV.casesOn (motive_1 := fun _ => Bool) x false (fun _ => true) (fun _ _ => true) (fun _ _ => true) true (fun _ _ => true) true (fun _ _ _ _ => true) true (fun _ _ _ => true) true true (fun _ => true) true (fun _ => false) (fun _ => false) (fun _ _ => true) (fun _ => true)
theorem AV.one_spec {ρ : Q → Loc} {N : Nat} {x : AV} {v : Value} (h : x.one = true) (r : Rel ρ N x v) : v.oneCell' = true := by cases r <;> first | rfl | (rename_i h1; exact h1.1) | cases h
def AV.cellsK (x : AV) (n : Nat) (k : List AV → Bool) : Bool := AV.casesOn (motive_1 := fun _ => Bool) x false (fun _ => Bool.casesOn (motive := fun _ => Bool) (Nat.beq n 1) false (k [x])) (fun _ _ => Bool.casesOn (motive := fun _ => Bool) (Nat.beq n 1) false (k [x])) (fun _ _ => Bool.casesOn (motive := fun _ => Bool) (Nat.beq n 1) false (k [x])) (Bool.casesOn (motive := fun _ => Bool) (Nat.beq n 1) false (k [x])) (fun _ _ => Bool.casesOn (motive := fun _ => Bool) (Nat.beq n 1) false (k [x])) (Bool.casesOn (motive := fun _ => Bool) (Nat.beq n 1) false (k [x])) (fun _ _ _ _ => Bool.casesOn (motive := fun _ => Bool) (Nat.beq n 1) false (k [x])) (Bool.casesOn (motive := fun _ => Bool) (Nat.beq n 1) false (k [x])) (fun _ _ _ => Bool.casesOn (motive := fun _ => Bool) (Nat.beq n 1) false (k [x])) (Bool.casesOn (motive := fun _ => Bool) (Nat.beq n 1) false (k [x])) (Bool.casesOn (motive := fun _ => Bool) (Nat.beq n 1) false (k [x])) (fun _ => Bool.casesOn (motive := fun _ => Bool) (Nat.beq n 1) false (k [x])) (Bool.casesOn (motive := fun _ => Bool) (Nat.beq n 1) false (k [x])) (fun cs => Bool.casesOn (motive := fun _ => Bool) (Nat.beq cs.length n) false (k cs)) (fun _ => false) (fun _ _ => Bool.casesOn (motive := fun _ => Bool) (Nat.beq n 1) false (k [x])) (fun _ => (Bool.casesOn (motive := fun _ => Bool) (Nat.beq n 1) false (k [x])))
def ifT (c : Bool) (x : Bool) : Bool := Bool.casesOn (motive := fun _ => Bool) c false x
theorem ifT_spec {c x : Bool} (h : ifT c x = true) : c = true ∧ x = true := by cases c <;> first | exact ⟨rfl, h⟩ | cases h
theorem ifT_le {a b : Nat} {x : Bool} (h : ifT (Nat.ble a b) x = true) : a ≤ b ∧ x = true := ⟨Nat.le_of_ble_eq_true (ifT_spec h).1, (ifT_spec h).2⟩
theorem ifT_lt {a b : Nat} {x : Bool} (h : ifT (Nat.blt a b) x = true) : a < b ∧ x = true := ⟨Nat.le_of_ble_eq_true (ifT_spec h).1, (ifT_spec h).2⟩
theorem ifT_eq {a b : Nat} {x : Bool} (h : ifT (Nat.beq a b) x = true) : a = b ∧ x = true := ⟨Nat.eq_of_beq_eq_true (ifT_spec h).1, (ifT_spec h).2⟩
theorem AV.cellsK_spec {ρ : Q → Loc} {N : Nat} {x : AV} {v : Value} {n : Nat} {k : List AV → Bool} (h : x.cellsK n k = true) (r : Rel ρ N x v) : ∃ cs : List AV, k cs = true ∧ cs.length = n ∧ v.cells.size = n ∧ RelL ρ N cs v.cells.toList ∧ ∀ u ∈ v.cells.toList, u.oneCell' = true := by
 have key : ∀ (g : Bool) , x.one = true → ifT (Nat.beq n 1) g = true → g = k [x] → ∃ cs : List AV, k cs = true ∧ cs.length = n ∧ v.cells.size = n ∧ RelL ρ N cs v.cells.toList ∧ ∀ u ∈ v.cells.toList, u.oneCell' = true := by
  intro g h1 h2 h3
  obtain ⟨e, h2⟩ := ifT_eq h2
  subst e
  have ho := AV.one_spec h1 r
  have hc : v.cells = #[v] := by cases v <;> first | rfl | cases ho
  rw [hc]
  exact ⟨[x], h3 ▸ h2, rfl, rfl, .cons _ _ _ _ r .nil, fun u hu => by simp at hu; rw [hu]; exact ho⟩
 cases x with
 | d => cases h
 | t cs => cases h
 | a cs =>
  obtain ⟨e, h⟩ := ifT_eq h
  cases r with
  | a cs vs hl h1 => exact ⟨cs, h, e, by rw [← e, hl.length]; rfl, hl, by simpa [Value.cells] using h1⟩
 | _ => exact key _ rfl h rfl
def OB.on (b : OB) (f : Nat → Nat → V → Bool) : Bool := OB.casesOn (motive := fun _ => Bool) b false f (fun _ => false) (fun _ _ => false) (fun _ => false)
theorem OB.on_spec {b : OB} {f : Nat → Nat → V → Bool} (h : b.on f = true) : ∃ ty n v, b = .bk ty n v ∧ f ty n v = true := by cases b <;> first | exact ⟨_, _, _, rfl, h⟩ | cases h
def OB.onY (b : OB) (f : Oy → Bool) : Bool := OB.casesOn (motive := fun _ => Bool) b false (fun _ _ _ => false) (fun _ => false) (fun _ _ => false) f
theorem OB.onY_spec {b : OB} {f : Oy → Bool} (h : b.onY f = true) : ∃ o, b = .y o ∧ f o = true := by cases b <;> first | exact ⟨_, rfl, h⟩ | cases h
def Oy.on_op (b : Oy) (f : Nat → Bool) : Bool := Oy.casesOn (motive := fun _ => Bool) b f (fun _ => false) (fun _ _ _ => false)
theorem Oy.on_op_spec {b : Oy} {f : Nat → Bool} (h : b.on_op f = true) : ∃ i, b = .op i ∧ f i = true := by cases b <;> first | exact ⟨_, rfl, h⟩ | cases h
def Oy.on_soup (b : Oy) (f : Nat → Bool) : Bool := Oy.casesOn (motive := fun _ => Bool) b (fun _ => false) f (fun _ _ _ => false)
theorem Oy.on_soup_spec {b : Oy} {f : Nat → Bool} (h : b.on_soup f = true) : ∃ i, b = .soup i ∧ f i = true := by cases b <;> first | exact ⟨_, rfl, h⟩ | cases h
def Sy.on_sv (s : Sy) (f : Q → Nat → Bool) : Bool := Sy.casesOn (motive := fun _ => Bool) s (fun _ => false) (fun _ _ _ => false) (fun _ _ => false) (fun _ _ _ => false) f
theorem Sy.on_sv_spec {s : Sy} {f : Q → Nat → Bool} (h : s.on_sv f = true) : ∃ q i, s = .sv q i ∧ f q i = true := by cases s <;> first | exact ⟨_, _, rfl, h⟩ | cases h
def Oy.on_dm (b : Oy) (f : Nat × Nat × Nat → Q → List (List Nat × Nat) → Bool) : Bool := Oy.casesOn (motive := fun _ => Bool) b (fun _ => false) (fun _ => false) f
theorem Oy.on_dm_spec {b : Oy} {f : Nat × Nat × Nat → Q → List (List Nat × Nat) → Bool} (h : b.on_dm f = true) : ∃ ty q us, b = .dm ty q us ∧ f ty q us = true := by cases b <;> first | exact ⟨_, _, _, rfl, h⟩ | cases h
def OB.onM (b : OB) (f : List (AV × AV) → Bool) : Bool := OB.casesOn (motive := fun _ => Bool) b false (fun _ _ _ => false) f (fun _ _ => false) (fun _ => false)
theorem OB.onM_spec {b : OB} {f : List (AV × AV) → Bool} (h : b.onM f = true) : ∃ es, b = .mp es ∧ f es = true := by cases b <;> first | exact ⟨_, rfl, h⟩ | cases h
def OB.onS (b : OB) (f : Nat → List Nat → Bool) : Bool := OB.casesOn (motive := fun _ => Bool) b false (fun _ _ _ => false) (fun _ => false) f (fun _ => false)
theorem OB.onS_spec {b : OB} {f : Nat → List Nat → Bool} (h : b.onS f = true) : ∃ o l, b = .si o l ∧ f o l = true := by cases b <;> first | exact ⟨_, _, rfl, h⟩ | cases h
noncomputable def Q.succK (q : Q) : (Q → Bool) → Bool :=
 Q.rec (motive := fun _ => (Q → Bool) → Bool) (fun k => k (.d1 .e)) (fun q _ k => k (.d1 q)) (fun q _ k => k (.d2 q)) (fun q _ k => k (.d3 q)) (fun q _ k => k (.d4 q)) (fun q _ k => k (.d5 q)) (fun q _ k => k (.d6 q)) (fun q _ k => k (.d7 q)) (fun _ ih k => ih (fun q => k (.d0 q))) q
theorem Q.succK_eq (q : Q) : ∀ k : Q → Bool, q.succK k = k q.succ := by
 induction q with
 | e => intro k; rfl
 | d0 q _ => intro k; rfl
 | d1 q _ => intro k; rfl
 | d2 q _ => intro k; rfl
 | d3 q _ => intro k; rfl
 | d4 q _ => intro k; rfl
 | d5 q _ => intro k; rfl
 | d6 q _ => intro k; rfl
 | d7 q ih => intro k; exact ih _
noncomputable def V.range (v : V) (n o : Nat) : List AV := Nat.rec (motive := fun _ => Nat → List AV) (fun _ => []) (fun _ ih o => v.get o :: ih (Nat.succ o)) n o
theorem V.range_length (v : V) : ∀ n o, (v.range n o).length = n
 | 0, _ => rfl
 | m + 1, o => by show (v.get o :: v.range m (o + 1)).length = m + 1; rw [List.length_cons, V.range_length v m]
theorem V.range_get? (v : V) : ∀ (n o i : Nat), i < n → (v.range n o)[i]? = some (v.get (o + i))
 | 0, _, _, h => absurd h (by omega)
 | m + 1, o, 0, _ => rfl
 | m + 1, o, i + 1, h => (V.range_get? v m (o + 1) i (by omega)).trans (by rw [show o + 1 + i = o + (i + 1) by omega])
theorem V.range_get (v : V) (n o i : Nat) (h : i < (v.range n o).length) : (v.range n o)[i] = v.get (o + i) := by
 have := V.range_get? v n o i (by rwa [V.range_length] at h)
 rw [List.getElem?_eq_getElem h] at this
 exact Option.some.inj this
noncomputable def V.setL (xs : List AV) : V → Nat → (V → Bool) → Bool :=
 List.rec (motive := fun _ => V → Nat → (V → Bool) → Bool) (fun v _ k => k v) (fun x _ ih v i k => V.setK x v i (fun v' => ih v' (Nat.succ i) k)) xs
theorem V.setL_spec : ∀ (xs : List AV) (v : V) (i : Nat) (k : V → Bool), V.setL xs v i k = true → ∃ v' : V, k v' = true ∧ (∀ (j : Nat) (hj : j < xs.length), v'.get (i + j) = xs[j]) ∧ ∀ j, j < i ∨ i + xs.length ≤ j → v'.get j = v.get j
 | [], v, i, k, h => ⟨v, h, fun j hj => absurd hj (by simp), fun _ _ => rfl⟩
 | x :: xs, v, i, k, h => by
  obtain ⟨v1, h1, g1, o1⟩ := V.setK_spec x v i _ h
  obtain ⟨v2, h2, g2, o2⟩ := V.setL_spec xs v1 (i + 1) k h1
  refine ⟨v2, h2, fun j hj => ?_, fun j hj => ?_⟩
  ·cases j with
   | zero => rw [Nat.add_zero, o2 i (.inl (by omega)), g1]; rfl
   | succ j => rw [show i + (j + 1) = i + 1 + j by omega]; exact g2 j (by simpa using hj)
  ·simp only [List.length_cons] at hj
   rw [o2 j (by omega), o1 j (by omega)]
theorem Addr.add_none (b o j : Nat) : (⟨b, o, none⟩ : Addr).add j = ⟨b, o + j, none⟩ := by unfold Addr.add; split <;> simp_all
def aggOf (P : Program) (t : TypeId) : Option (Bool × Nat) :=
 match P.underlying t, P.info? t with
 | some (.struct _), some i => some (true, i.size)
 | some (.array _ _), some i => some (true, i.size)
 | some _, some i => some (false, i.size)
 | _, _ => none
theorem aggOf_true {P : Program} {t n : Nat} (h : aggOf P t = some (true, n)) (w : World) : (isAgg t).run P w = .ok true w ∧ (sizeOf t).run P w = .ok n w ∧ P.cellsOf t = n := by
 unfold aggOf at h
 split at h
 ·rename_i hu hi; cases h; exact ⟨by simp [isAgg, run_underlying hu], by simp [sizeOf, typeInfo, hi], by simp [Program.cellsOf, hi]⟩
 ·rename_i hu hi; cases h; exact ⟨by simp [isAgg, run_underlying hu], by simp [sizeOf, typeInfo, hi], by simp [Program.cellsOf, hi]⟩
 ·cases h
 ·cases h
theorem aggOf_false {P : Program} {t n : Nat} (h : aggOf P t = some (false, n)) (w : World) : (isAgg t).run P w = .ok false w ∧ (sizeOf t).run P w = .ok n w ∧ P.cellsOf t = n := by
 unfold aggOf at h
 split at h
 ·cases h
 ·cases h
 ·rename_i d i h1 h2 hu hi
  cases h
  refine ⟨?_, by simp [sizeOf, typeInfo, hi], by simp [Program.cellsOf, hi]⟩
  simp only [isAgg, Sem.run_bind, run_underlying hu, Result.andThen_ok]
  cases d <;> first | rfl | exact (h1 _ rfl).elim | exact (h2 _ _ rfl).elim
 ·cases h
theorem aggOf_size {P : Program} {t n : Nat} {g : Bool} (h : aggOf P t = some (g, n)) (w : World) : (sizeOf t).run P w = .ok n w := by
 cases g
 ·exact (aggOf_false h w).2.1
 ·exact (aggOf_true h w).2.1
noncomputable def ld1 (x : AV) (h : Hp) (k : AV → Bool) : Bool := x.on_p fun q o => (HT.getR q h.t).on fun _ n v => ifT (Nat.blt o n) (k (v.get o))
noncomputable def ldN (m : Nat) (x : AV) (h : Hp) (k : AV → Bool) : Bool := x.on_p fun q o => (HT.getR q h.t).on fun _ n v => ifT (Nat.ble (Nat.add o m) n) (k (.a (v.range m o)))
section
variable {P : Program} {ρ : Q → Loc} {h : Hp} {w : World} {B : Nat}
theorem Emb.cells (E : Emb P ρ h w B) {q : Q} {ty n : Nat} {v : V} (hg : h.t.get q = .bk ty n v) (o : Nat) (m : Nat) (hm : o + m ≤ n) : ∃ vs : List Value, vs.length = m ∧ RelL ρ h.nx.num (v.range m o) vs ∧ (∀ u ∈ vs, u.oneCell' = true) ∧ ∀ j u, vs[j]? = some u → w.cell? ⟨(ρ q).blk, (ρ q).base + o + j, none⟩ = some u := by
 have R := E.row q ty n v hg
 refine ⟨(List.range m).map fun j => (w.cell? ⟨(ρ q).blk, (ρ q).base + (o + j), none⟩).getD undef, by simp, ?_, ?_, ?_⟩
 ·refine RelL.of_get (by simp [V.range_length]) fun i hx hv => ?_
  rw [V.range_length] at hx
  obtain ⟨x, h1, h2, _⟩ := R.get (o + i) (by omega)
  rw [V.range_get]
  simpa [h1] using h2
 ·intro u hu
  obtain ⟨j, hj, rfl⟩ := List.mem_map.1 hu
  obtain ⟨x, h1, _, h3⟩ := R.get (o + j) (by have := List.mem_range.1 hj; omega)
  simpa [h1] using h3
 ·intro j u hu
  have hj : j < m := by
   have := (List.getElem?_eq_some_iff.1 hu).1
   simpa using this
  obtain ⟨x, h1, _, _⟩ := R.get (o + j) (by omega)
  simp [hj] at hu
  rw [h1] at hu
  simp at hu
  rw [Nat.add_assoc, h1, hu]
theorem ld1_sound (E : Emb P ρ h w B) {t n : Nat} (ht : aggOf P t = some (false, n)) {x : AV} {u : Value} (hx : Rel ρ h.nx.num x u) {k : AV → Bool} (hk : ld1 x h k = true) : ∃ y v, (Instr.loadAt t u).run P w = .ok v w ∧ Rel ρ h.nx.num y v ∧ k y = true := by
 obtain ⟨q, o, rfl, hk2⟩ := AV.on_p_spec hk
 clear hk
 have hk := hk2
 clear hk2
 rw [HT.getR_eq] at hk
 obtain ⟨ty, m, v, hg, hk⟩ := OB.on_spec hk
 obtain ⟨hlt, hk⟩ := ifT_lt hk
 obtain ⟨y, h1, h2, _⟩ := (E.row q ty m v hg).get o hlt
 cases hx
 refine ⟨_, y, ?_, h2, hk⟩
 simp [Instr.loadAt, Instr.sureAddr, loadVar, (aggOf_false ht w).1, h1]
theorem ldN_sound (E : Emb P ρ h w B) {t n : Nat} (ht : aggOf P t = some (true, n)) {x : AV} {u : Value} (hx : Rel ρ h.nx.num x u) {k : AV → Bool} (hk : ldN n x h k = true) : ∃ y v, (Instr.loadAt t u).run P w = .ok v w ∧ Rel ρ h.nx.num y v ∧ k y = true := by
 obtain ⟨q, o, rfl, hk2⟩ := AV.on_p_spec hk
 clear hk
 have hk := hk2
 clear hk2
 rw [HT.getR_eq] at hk
 obtain ⟨ty, m, v, hg, hk⟩ := OB.on_spec hk
 obtain ⟨hle, hk⟩ := ifT_le hk
 obtain ⟨vs, hl, hr, h1, hc⟩ := E.cells hg o n hle
 cases hx
 refine ⟨_, .agg vs.toArray, ?_, .a _ vs hr h1, hk⟩
 have hrun := run_loadCells_list (P := P) w ⟨(ρ q).blk, (ρ q).base + o, none⟩ vs (fun j u hu => by rw [Addr.add_none]; exact hc j u hu)
 rw [hl] at hrun
 simp [Instr.loadAt, Instr.sureAddr, loadVar, (aggOf_true ht w).1, (aggOf_true ht w).2.1, hrun]
theorem World.shape?_setCell (w : World) (a : Addr) (u : Value) (b : Nat) : (w.setCell a u).shape? b = w.shape? b := by
 unfold World.shape? World.setCell
 simp only [Array.getElem?_modify]
 by_cases e : a.block = b
 ·subst e
  rw [if_pos rfl]
  cases w.heap[a.block]? with
  | none => rfl
  | some ob => cases ob <;> simp only [Option.map_some]; split <;> simp
 ·rw [if_neg e]
theorem World.shape?_setCells (b : Nat) : ∀ (vs : List Value) (o : Nat) (w : World) (c : Nat), (w.setCells b o vs).shape? c = w.shape? c
 | [], _, _, _ => rfl
 | v :: r, o, w, c => by rw [World.setCells, World.shape?_setCells b r, World.shape?_setCell]
theorem World.setCells_other (b : Nat) : ∀ (vs : List Value) (o : Nat) (w : World), (w.setCells b o vs).heap.size = w.heap.size ∧ (∀ c, c ≠ b → (w.setCells b o vs).heap[c]? = w.heap[c]?) ∧ (w.setCells b o vs).os = w.os ∧ (w.setCells b o vs).tape = w.tape ∧ (w.setCells b o vs).output = w.output
 | [], _, _ => ⟨rfl, fun _ _ => rfl, rfl, rfl, rfl⟩
 | v :: r, o, w => by
  obtain ⟨h1, h2, h3, h4, h5⟩ := World.setCells_other b r (o + 1) (w.setCell ⟨b, o, none⟩ v)
  rw [World.setCells]
  refine ⟨h1.trans (by simp [World.setCell]), fun c hc => (h2 c hc).trans ?_, h3, h4, h5⟩
  simp only [World.setCell, Array.getElem?_modify]
  rw [if_neg (fun e => hc e.symm)]
theorem Emb.write (E : Emb P ρ h w B) {q : Q} {ty n : Nat} {v : V} (hg : h.t.get q = .bk ty n v) (o : Nat) {xs : List AV} {vs : List Value} (hx : RelL ρ h.nx.num xs vs) (h1 : ∀ u ∈ vs, u.oneCell' = true) (hle : o ≤ n)
  (v' : V) (hin : ∀ (j : Nat) (hj : j < xs.length), v'.get (o + j) = xs[j]) (hout : ∀ j, j < o ∨ o + xs.length ≤ j → v'.get j = v.get j) (n' : Nat) (hn : n' = n ∨ n' = o + xs.length) (hn1 : n' ≤ max n (o + xs.length)) (hroom : ∀ sz, w.shape? (ρ q).blk = some (ty, sz) → (ρ q).base + o + xs.length ≤ sz) :
  (storeCells ⟨(ρ q).blk, (ρ q).base + o, none⟩ vs).run P w = .ok () (w.setCells (ρ q).blk ((ρ q).base + o) vs) ∧
  Emb P ρ (.mk (h.t.set (.bk ty n' v') q) h.nx) (w.setCells (ρ q).blk ((ρ q).base + o) vs) B ∧ Step ρ h w ρ (.mk (h.t.set (.bk ty n' v') q) h.nx) (w.setCells (ρ q).blk ((ρ q).base + o) vs) := by
 have R := E.row q ty n v hg
 obtain ⟨sz, hs, hb1, hb2, hfz⟩ := R.at_
 have hroom := hroom sz hs
 have hlen := hx.length
 have hcell : ∀ j, j < sz → (w.cell? ⟨(ρ q).blk, j, none⟩).isSome = true := fun j hj => by
  unfold World.shape? at hs
  unfold World.cell?
  cases hh : w.heap[(ρ q).blk]? with
  | none => rw [hh] at hs; cases hs
  | some ob =>
   rw [hh] at hs
   cases ob <;> cases hs
   simp [hj]
 obtain ⟨g1, g2, g3, g4, g5⟩ := World.setCells_other (ρ q).blk vs ((ρ q).base + o) w
 refine ⟨?_, ?_⟩
 ·have := run_storeCells_cells (P := P) (ρ q).blk ((ρ q).base + o) vs 0 w (fun j hj => hcell _ (by omega)) (fun j hj => hfz _ (by omega)) h1
  simpa using this
 ·refine E.set (by rw [Hp.live, hg]; simp) _ (by simp) g1 g2 g3 g4 g5 (fun ty' m u hb => ?_) (fun es hb => by cases hb)
  injection hb with e1 e2 e3
  subst e1 e2 e3
  have hs2 : (w.setCells (ρ q).blk ((ρ q).base + o) vs).shape? (ρ q).blk = some (ty, sz) := (World.shape?_setCells _ _ _ _ _).trans hs
  have hn2 : n' ≤ n ∨ n' = o + xs.length := by omega
  refine ⟨⟨sz, hs2, by omega, hb2, fun i hi => by rw [World.frozen?_setCells]; exact hfz i hi⟩, fun i hi => ?_⟩
  by_cases hh : o ≤ i ∧ i < o + xs.length
  ·have hj : i - o < vs.length := by omega
   have := World.cell?_setCells_in (ρ q).blk vs ((ρ q).base + o) w (fun j hj => hcell _ (by omega)) (i - o) hj
   rw [show (ρ q).base + o + (i - o) = (ρ q).base + i by omega] at this
   refine ⟨_, this, ?_, h1 _ (List.getElem_mem hj)⟩
   have h3 := hin (i - o) (by omega)
   rw [show o + (i - o) = i by omega] at h3
   rw [h3]
   exact hx.get (i - o) (by omega) hj
  ·have hin2 : i < n := by omega
   obtain ⟨x, a1, a2, a3⟩ := R.get i hin2
   refine ⟨x, ?_, ?_, a3⟩
   ·rw [World.cell?_setCells_out (ρ q).blk vs ((ρ q).base + o) w _ (fun _ _ => by show _ ∨ _; simp only; omega)]; exact a1
   ·rw [hout i (by omega)]; exact a2
noncomputable def stL (m : Nat) (x y : AV) (h : Hp) (k : Hp → Bool) : Bool :=
 x.on_p fun q o => y.cellsK m fun cs => (HT.getR q h.t).on fun ty n v => ifT (Nat.ble (Nat.add o m) n) (V.setL cs v o fun v' => HT.setK (.bk ty n v') q h.t fun t' => k (.mk t' h.nx))
theorem stL_sound (E : Emb P ρ h w B) {t m : Nat} {g : Bool} (ht : aggOf P t = some (g, m)) {x y : AV} {u z : Value} (hx : Rel ρ h.nx.num x u) (hy : Rel ρ h.nx.num y z) {k : Hp → Bool} (hk : stL m x y h k = true) :
  ∃ w' h', (Instr.storeAt t u z).run P w = .ok () w' ∧ Emb P ρ h' w' B ∧ Step ρ h w ρ h' w' ∧ k h' = true := by
 obtain ⟨q, o, rfl, hk2⟩ := AV.on_p_spec hk
 clear hk
 have hk := hk2
 clear hk2
 obtain ⟨cs, hk, hl, hsz, hr, h1⟩ := AV.cellsK_spec hk hy
 rw [HT.getR_eq] at hk
 obtain ⟨ty, n, v, hg, hk⟩ := OB.on_spec hk
 obtain ⟨hle, hk⟩ := ifT_le hk
 have hle : o + m ≤ n := hle
 obtain ⟨v', hk, hin, hout⟩ := V.setL_spec cs v o _ hk
 rw [HT.setK_eq] at hk
 cases hx
 have R := E.row q ty n v hg
 obtain ⟨a1, a2, a3⟩ := E.write hg o hr h1 (by omega) v' hin hout n (.inl rfl) (by omega) (fun sz hs => by
  obtain ⟨sz', hs', hb, _⟩ := R.at_
  rw [hs] at hs'
  cases hs'
  omega)
 refine ⟨_, _, ?_, a2, a3, hk⟩
 simp [Instr.storeAt, Instr.sureAddr, storeVar, aggOf_size ht w, hsz, a1]
end
section
variable {P : Program} {ρ : Q → Loc} {h : Hp} {w : World} {B : Nat}
def Hp.loc (w : World) (cap : Nat) : Loc := { blk := w.heap.size, base := 0, cap := cap }
theorem Emb.cellsNew' (E : Emb P ρ h w B) (t0 : HT) (ht : ∀ r, t0.get r = .no ∨ t0.get r = h.t.get r) {w' : World} (c : Array Value) (ty : TypeId) (fz : Nat × Nat) (hw : w'.heap = w.heap.push (.cells c ty fz)) (hos : w'.os = w.os) (htape : w'.tape = w.tape) (hout : w'.output = w.output)
  {cs : List AV} {vs : List Value} (hr : RelL ρ h.nx.num cs vs) (h1 : ∀ u ∈ vs, u.oneCell' = true) (hv : ∀ (j : Nat) (u : Value), vs[j]? = some u → c[j]? = some u) (hsz : vs.length ≤ c.size) (cap : Nat) (hcap : cap * P.cellsOf ty ≤ c.size) (hfz : ∀ o, o < c.size → ¬ (fz.1 ≤ o ∧ o < fz.2))
  {v : V} (hg : ∀ (j : Nat) (hj : j < cs.length), v.get j = cs[j]) :
  Emb P (upd ρ h.nx (Hp.loc w cap)) (.mk (t0.set (.bk ty cs.length v) h.nx) h.nx.succ) w' B ∧ Step ρ h w (upd ρ h.nx (Hp.loc w cap)) (.mk (t0.set (.bk ty cs.length v) h.nx) h.nx.succ) w' := by
 have hat : w'.heap[w.heap.size]? = some (.cells c ty fz) := by rw [hw]; simp
 have hlen := hr.length
 refine E.new' t0 ht (.cells c ty fz) hw hos htape hout _ (by simp) cap (fun ty' n' v' hb => ?_) (fun es hb => by cases hb)
 injection hb with e1 e2 e3
 subst e1 e2 e3
 refine ⟨⟨c.size, by unfold World.shape?; simp only; rw [hat], by simp only; omega, by simp only; omega, fun o ho => ?_⟩, fun i hi => ?_⟩
 ·unfold World.frozen?
  simp only [hat]
  have := hfz o ho
  obtain ⟨lo, hi⟩ := fz
  simp only at this ⊢
  simpa using this
 ·have hi2 : i < vs.length := by omega
  refine ⟨vs[i], ?_, ?_, h1 _ (List.getElem_mem hi2)⟩
  ·unfold World.cell?
   simp only [hat, Nat.zero_add]
   simpa using hv i _ (List.getElem?_eq_getElem hi2)
  ·rw [hg i hi]
   exact (hr.get i hi hi2).mono (upd_lt _ _ _) (by rw [Q.num_succ]; omega)
theorem Emb.cellsNew (E : Emb P ρ h w B) {w' : World} (c : Array Value) (ty : TypeId) (fz : Nat × Nat) (hw : w'.heap = w.heap.push (.cells c ty fz)) (hos : w'.os = w.os) (htape : w'.tape = w.tape) (hout : w'.output = w.output)
  {cs : List AV} {vs : List Value} (hr : RelL ρ h.nx.num cs vs) (h1 : ∀ u ∈ vs, u.oneCell' = true) (hv : ∀ (j : Nat) (u : Value), vs[j]? = some u → c[j]? = some u) (hsz : vs.length ≤ c.size) (cap : Nat) (hcap : cap * P.cellsOf ty ≤ c.size) (hfz : ∀ o, o < c.size → ¬ (fz.1 ≤ o ∧ o < fz.2))
  {v : V} (hg : ∀ (j : Nat) (hj : j < cs.length), v.get j = cs[j]) :
  Emb P (upd ρ h.nx (Hp.loc w cap)) (.mk (h.t.set (.bk ty cs.length v) h.nx) h.nx.succ) w' B ∧ Step ρ h w (upd ρ h.nx (Hp.loc w cap)) (.mk (h.t.set (.bk ty cs.length v) h.nx) h.nx.succ) w' :=
 E.cellsNew' h.t (fun _ => .inr rfl) c ty fz hw hos htape hout hr h1 hv hsz cap hcap hfz hg
theorem rel_new (ρ : Q → Loc) (q : Q) (w : World) (cap N : Nat) (hN : q.num < N) (o : Nat) : Rel (upd ρ q (Hp.loc w cap)) N (.p q o) (.pointer (some ⟨w.heap.size, o, none⟩)) := by
 have := Rel.p (ρ := upd ρ q (Hp.loc w cap)) (N := N) q o hN
 rw [upd_same] at this
 simpa [Hp.loc] using this
noncomputable def nbK (ty m : Nat) (cs : List AV) (h : Hp) (k : Q → Hp → Bool) : Bool := V.setL cs .z 0 fun v => HT.setK (.bk ty m v) h.nx h.t fun t' => h.nx.succK fun n' => k h.nx (.mk t' n')
theorem nbK_spec {ty m : Nat} {cs : List AV} {k : Q → Hp → Bool} (hl : cs.length = m) (hk : nbK ty m cs h k = true) : ∃ v : V, (∀ (j : Nat) (hj : j < cs.length), v.get j = cs[j]) ∧ k h.nx (.mk (h.t.set (.bk ty cs.length v) h.nx) h.nx.succ) = true := by
 obtain ⟨v, h1, h2, _⟩ := V.setL_spec cs .z 0 _ hk
 rw [HT.setK_eq, Q.succK_eq, ← hl] at h1
 exact ⟨v, fun j hj => by simpa using h2 j hj, h1⟩
noncomputable def boxK (ty m : Nat) (x : AV) (h : Hp) (k : AV → Hp → Bool) : Bool := x.cellsK m fun cs => nbK ty m cs h fun q h' => k (.p q 0) h'
def cv : Value → AV
 | .bool b => .b b
 | .int k n => if 0 ≤ n + 9223372036854775808 then .i k (n + 9223372036854775808).toNat else .d
 | .string s => .s s.size (s.data.toList.map UInt8.toNat)
 | .pointer none => .np
 | .slice none 0 0 => .ns
 | .map none => .nm
 | .nilFunc => .nf
 | .nilIface => .ni
 | _ => .d
theorem cv_rel (ρ : Q → Loc) (N : Nat) (v : Value) : Rel ρ N (cv v) v := by
 unfold cv
 split
 ·exact .b _
 ·rename_i k n
  split
  ·rename_i hn
   have := Rel.i (ρ := ρ) (N := N) k (n + 9223372036854775808).toNat
   rwa [Int.toNat_of_nonneg hn, Int.add_sub_cancel] at this
  ·exact .d _
 ·exact .s _
 ·exact .np
 ·exact .ns
 ·exact .nm
 ·exact .nf
 ·exact .ni
 ·exact .d _
def cva : Value → AV
 | .agg cs => if cs.toList.all Value.oneCell' then .a (cs.toList.map cv) else .d
 | v => cv v
theorem relL_cv (ρ : Q → Loc) (N : Nat) : ∀ vs : List Value, RelL ρ N (vs.map cv) vs
 | [] => .nil
 | v :: vs => .cons _ _ _ _ (cv_rel ρ N v) (relL_cv ρ N vs)
theorem cva_rel (ρ : Q → Loc) (N : Nat) (v : Value) : Rel ρ N (cva v) v := by
 unfold cva
 split
 ·rename_i cs
  split
  ·rename_i hh
   have := Rel.a (ρ := ρ) (N := N) _ cs.toList (relL_cv ρ N cs.toList) (fun v hv => List.all_eq_true.1 hh v hv)
   simpa using this
  ·exact .d _
 ·exact cv_rel _ _ _
def zeroOf (P : Program) (t : TypeId) : AV := match (P.info? t).bind (·.zero) with
 | some v => cva v
 | none => .d
theorem box_run (ty : TypeId) (v : Value) : (Instr.box ty v).run P w = .ok (.pointer (some ⟨w.heap.size, 0, none⟩)) { w with heap := w.heap.push (.cells v.cells ty (0, 0)) } := by
 simp [Instr.box, newVar, newRow]
theorem boxK_sound (E : Emb P ρ h w B) (ty m : Nat) (hm : P.cellsOf ty = m) {x : AV} {u : Value} (hx : Rel ρ h.nx.num x u) {k : AV → Hp → Bool} (hk : boxK ty m x h k = true) :
  ∃ y v w' ρ' h', (Instr.box ty u).run P w = .ok v w' ∧ Emb P ρ' h' w' B ∧ Step ρ h w ρ' h' w' ∧ Rel ρ' h'.nx.num y v ∧ k y h' = true := by
 obtain ⟨cs, hk, hl, hsz, hr, h1⟩ := AV.cellsK_spec hk hx
 obtain ⟨v, hg, hk⟩ := nbK_spec hl hk
 obtain ⟨a1, a2⟩ := E.cellsNew (w' := { w with heap := w.heap.push (.cells u.cells ty (0, 0)) }) u.cells ty (0, 0) rfl rfl rfl rfl hr h1 (fun j u hu => by simpa using hu) (by simp) 1 (by rw [hm, hsz]; omega) (fun o _ => by simp) hg
 exact ⟨_, _, _, _, _, box_run ty u, a1, a2, rel_new _ _ _ _ _ (by show h.nx.num < h.nx.succ.num; rw [Q.num_succ]; omega) 0, hk⟩
theorem alloc_run (ty : TypeId) (z : Value) (hz : (P.info? ty).bind (·.zero) = some z) : (Instr.alloc ty true (.tuple #[])).run P w = (Instr.box ty z).run P w := by
 rw [box_run]
 cases hi : P.info? ty with
 | none => rw [hi] at hz; cases hz
 | some i =>
  rw [hi] at hz
  have hz : i.zero = some z := hz
  simp [Instr.alloc, zeroValue, typeInfo, hi, hz, newVar, newRow]
end
def IM (k : IntKind) : Nat := IntKind.casesOn (motive := fun _ => Nat) k 256 65536 4294967296 18446744073709551616 256 65536 4294967296 18446744073709551616
def back (k : IntKind) (r : Nat) : Nat :=
 IntKind.casesOn (motive := fun _ => Nat) k (Nat.add (Nat.mod (Nat.add r 128) 256) 9223372036854775680) (Nat.add (Nat.mod (Nat.add r 32768) 65536) 9223372036854743040) (Nat.add (Nat.mod (Nat.add r 2147483648) 4294967296) 9223372034707292160) (Nat.mod (Nat.add r 9223372036854775808) 18446744073709551616)
  (Nat.add r 9223372036854775808) (Nat.add r 9223372036854775808) (Nat.add r 9223372036854775808) (Nat.add r 9223372036854775808)
theorem IM_pos (k : IntKind) : 0 < IM k := by cases k <;> decide
theorem IM_bits (k : IntKind) : IM k = 2 ^ k.bits := by cases k <;> rfl
theorem back_i8 (r : Nat) : back .i8 r = (r + 128) % 256 + 9223372036854775680 := rfl
theorem back_i16 (r : Nat) : back .i16 r = (r + 32768) % 65536 + 9223372036854743040 := rfl
theorem back_i32 (r : Nat) : back .i32 r = (r + 2147483648) % 4294967296 + 9223372034707292160 := rfl
theorem back_i64 (r : Nat) : back .i64 r = (r + 9223372036854775808) % 18446744073709551616 := rfl
theorem wrapI (x : Int) : IntKind.i8.wrap x = (x + 128) % 256 - 128 ∧ IntKind.i16.wrap x = (x + 32768) % 65536 - 32768 ∧ IntKind.i32.wrap x = (x + 2147483648) % 4294967296 - 2147483648 ∧ IntKind.i64.wrap x = (x + 9223372036854775808) % 18446744073709551616 - 9223372036854775808 := by
 refine ⟨?_, ?_, ?_, ?_⟩ <;> (simp [IntKind.wrap, IntKind.bits, IntKind.signed]; split <;> omega)
theorem wrapU (x : Int) : IntKind.u8.wrap x = x % 256 ∧ IntKind.u16.wrap x = x % 65536 ∧ IntKind.u32.wrap x = x % 4294967296 ∧ IntKind.u64.wrap x = x % 18446744073709551616 := by
 refine ⟨?_, ?_, ?_, ?_⟩ <;> simp [IntKind.wrap, IntKind.bits, IntKind.signed]
theorem wrap_back (k : IntKind) (x : Int) (r : Nat) (h : (r : Int) = x % (IM k : Nat)) : k.wrap x = ((back k r : Nat) : Int) - 9223372036854775808 := by
 cases k
 ·rw [(wrapI x).1, back_i8]; have h : (r : Int) = x % (256 : Nat) := h; omega
 ·rw [(wrapI x).2.1, back_i16]; have h : (r : Int) = x % (65536 : Nat) := h; omega
 ·rw [(wrapI x).2.2.1, back_i32]; have h : (r : Int) = x % (4294967296 : Nat) := h; omega
 ·rw [(wrapI x).2.2.2, back_i64]; have h : (r : Int) = x % (18446744073709551616 : Nat) := h; omega
 ·rw [(wrapU x).1]; have h : (r : Int) = x % (256 : Nat) := h; show _ = ((r + 9223372036854775808 : Nat) : Int) - _; omega
 ·rw [(wrapU x).2.1]; have h : (r : Int) = x % (65536 : Nat) := h; show _ = ((r + 9223372036854775808 : Nat) : Int) - _; omega
 ·rw [(wrapU x).2.2.1]; have h : (r : Int) = x % (4294967296 : Nat) := h; show _ = ((r + 9223372036854775808 : Nat) : Int) - _; omega
 ·rw [(wrapU x).2.2.2]; have h : (r : Int) = x % (18446744073709551616 : Nat) := h; show _ = ((r + 9223372036854775808 : Nat) : Int) - _; omega
def natK (n : Nat) (k : Nat → Bool) : Bool := Nat.casesOn (motive := fun _ => Bool) n (k 0) (fun m => k (Nat.succ m))
theorem natK_eq (n : Nat) (k : Nat → Bool) : natK n k = k n := by cases n <;> rfl
def res (k : IntKind) (n : Nat) : Nat := Nat.mod (Nat.add n 9223372036854775808) (IM k)
theorem res_eq (k : IntKind) (n : Nat) : ((res k n : Nat) : Int) = ((n : Int) - 9223372036854775808) % (IM k : Nat) := by
 cases k
 ·show (((n + 9223372036854775808) % 256 : Nat) : Int) = (_ - _) % (256 : Nat); omega
 ·show (((n + 9223372036854775808) % 65536 : Nat) : Int) = (_ - _) % (65536 : Nat); omega
 ·show (((n + 9223372036854775808) % 4294967296 : Nat) : Int) = (_ - _) % (4294967296 : Nat); omega
 ·show (((n + 9223372036854775808) % 18446744073709551616 : Nat) : Int) = (_ - _) % (18446744073709551616 : Nat); omega
 ·show (((n + 9223372036854775808) % 256 : Nat) : Int) = (_ - _) % (256 : Nat); omega
 ·show (((n + 9223372036854775808) % 65536 : Nat) : Int) = (_ - _) % (65536 : Nat); omega
 ·show (((n + 9223372036854775808) % 4294967296 : Nat) : Int) = (_ - _) % (4294967296 : Nat); omega
 ·show (((n + 9223372036854775808) % 18446744073709551616 : Nat) : Int) = (_ - _) % (18446744073709551616 : Nat); omega
theorem bv_res (k : IntKind) (n : Nat) : (BitVec.ofInt k.bits ((n : Int) - 9223372036854775808)).toNat = res k n := by
 have h := res_eq k n
 rw [BitVec.toNat_ofInt]
 rw [IM_bits] at h
 have : ((2 ^ k.bits : Nat) : Int) = ((2 : Int) ^ k.bits) := by simp
 omega
theorem rel_back (ρ : Q → Loc) (N : Nat) (kd : IntKind) (x : Int) (r : Nat) (h : (r : Int) = x % (IM kd : Nat)) : Rel ρ N (.i kd (back kd r)) (.int kd (kd.wrap x)) := by
 rw [wrap_back kd x r h]; exact .i _ _
theorem res_lt (k : IntKind) (n : Nat) : res k n < 2 ^ k.bits := by rw [← IM_bits]; exact Nat.mod_lt _ (IM_pos k)
theorem mod_lt_IM (k : IntKind) (r : Nat) (h : r < 2 ^ k.bits) : ((r : Nat) : Int) = ((r : Nat) : Int) % (IM k : Nat) := by
 rw [← IM_bits] at h
 rw [Int.emod_eq_of_lt (by omega) (by omega)]
def nb (b : Bool) : Bool := Bool.casesOn (motive := fun _ => Bool) b true false
theorem nb_eq (b : Bool) : nb b = !b := by cases b <;> rfl
def ibK (op : BinOp) (kd : IntKind) (a b : Nat) (k : AV → Bool) : Bool :=
 BinOp.casesOn (motive := fun _ => Bool) op
  (natK (back kd (Nat.mod (Nat.add a b) (IM kd))) fun n => k (.i kd n))
  (natK (back kd (Nat.mod (Nat.add a (Nat.sub 36893488147419103232 (Nat.mod b (IM kd)))) (IM kd))) fun n => k (.i kd n))
  (natK (back kd (Nat.mod (Nat.mul (res kd a) (res kd b)) (IM kd))) fun n => k (.i kd n))
  (ifT (Nat.ble 9223372036854775808 a) (ifT (Nat.blt 9223372036854775808 b) (natK (back kd (Nat.mod (Nat.div (Nat.sub a 9223372036854775808) (Nat.sub b 9223372036854775808)) (IM kd))) fun n => k (.i kd n))))
  (ifT (Nat.ble 9223372036854775808 a) (ifT (Nat.blt 9223372036854775808 b) (natK (Nat.add (Nat.mod (Nat.sub a 9223372036854775808) (Nat.sub b 9223372036854775808)) 9223372036854775808) fun n => k (.i kd n))))
  (natK (back kd (Nat.land (res kd a) (res kd b))) fun n => k (.i kd n))
  (natK (back kd (Nat.lor (res kd a) (res kd b))) fun n => k (.i kd n))
  (natK (back kd (Nat.xor (res kd a) (res kd b))) fun n => k (.i kd n))
  false false false
  (k (.b (Nat.beq a b))) (k (.b (nb (Nat.beq a b)))) (k (.b (Nat.blt a b))) (k (.b (Nat.ble a b))) (k (.b (Nat.blt b a))) (k (.b (Nat.ble b a)))
theorem IM_dvd (k : IntKind) : ((IM k : Nat) : Int) ∣ 18446744073709551616 := by
 cases k
 ·exact ⟨72057594037927936, rfl⟩
 ·exact ⟨281474976710656, rfl⟩
 ·exact ⟨4294967296, rfl⟩
 ·exact ⟨1, rfl⟩
 ·exact ⟨72057594037927936, rfl⟩
 ·exact ⟨281474976710656, rfl⟩
 ·exact ⟨4294967296, rfl⟩
 ·exact ⟨1, rfl⟩
theorem emod_shift (k : IntKind) (x y : Int) (c : Int) (h : x = y + 18446744073709551616 * c) : x % (IM k : Nat) = y % (IM k : Nat) := by
 obtain ⟨d, hd⟩ := IM_dvd k
 rw [h, hd, Int.mul_assoc, Int.add_mul_emod_self_left]
section
variable {P : Program} (t : TypeId) (kd : IntKind) (x y : Int) (w : World)
theorem run_iadd : (binOp .add t (.int kd x) (.int kd y)).run P w = .ok (.int kd (kd.wrap (x + y))) w := by simp [binOp, Op.intArith]
theorem run_isub : (binOp .sub t (.int kd x) (.int kd y)).run P w = .ok (.int kd (kd.wrap (x - y))) w := by simp [binOp, Op.intArith]
theorem run_imul : (binOp .mul t (.int kd x) (.int kd y)).run P w = .ok (.int kd (kd.wrap (x * y))) w := by simp [binOp, Op.intArith]
theorem run_iquo (h : ¬ y = 0) : (binOp .quo t (.int kd x) (.int kd y)).run P w = .ok (.int kd (kd.wrap (x.tdiv y))) w := by simp [binOp, Op.intDiv, h]
theorem run_irem (h : ¬ y = 0) : (binOp .rem t (.int kd x) (.int kd y)).run P w = .ok (.int kd (x.tmod y)) w := by simp [binOp, Op.intDiv, h]
theorem run_iand : (binOp .and t (.int kd x) (.int kd y)).run P w = .ok (.int kd (kd.wrap ((BitVec.ofInt kd.bits x).toNat &&& (BitVec.ofInt kd.bits y).toNat : Nat))) w := by simp [binOp, Op.intBits, BitVec.toNat_and]
theorem run_ior : (binOp .or t (.int kd x) (.int kd y)).run P w = .ok (.int kd (kd.wrap ((BitVec.ofInt kd.bits x).toNat ||| (BitVec.ofInt kd.bits y).toNat : Nat))) w := by simp [binOp, Op.intBits, BitVec.toNat_or]
theorem run_ixor : (binOp .xor t (.int kd x) (.int kd y)).run P w = .ok (.int kd (kd.wrap ((BitVec.ofInt kd.bits x).toNat ^^^ (BitVec.ofInt kd.bits y).toNat : Nat))) w := by simp [binOp, Op.intBits, BitVec.toNat_xor]
theorem run_ieql : (binOp .eql t (.int kd x) (.int kd y)).run P w = .ok (.bool (x == y)) w := by simp [binOp, Op.intCmp]
theorem run_ineq : (binOp .neq t (.int kd x) (.int kd y)).run P w = .ok (.bool (x != y)) w := by simp [binOp, Op.intCmp]
theorem run_ilss : (binOp .lss t (.int kd x) (.int kd y)).run P w = .ok (.bool (decide (x < y))) w := by simp [binOp, Op.intCmp]
theorem run_ileq : (binOp .leq t (.int kd x) (.int kd y)).run P w = .ok (.bool (decide (x ≤ y))) w := by simp [binOp, Op.intCmp]
theorem run_igtr : (binOp .gtr t (.int kd x) (.int kd y)).run P w = .ok (.bool (decide (x > y))) w := by simp [binOp, Op.intCmp]
theorem run_igeq : (binOp .geq t (.int kd x) (.int kd y)).run P w = .ok (.bool (decide (x ≥ y))) w := by simp [binOp, Op.intCmp]
theorem run_ishl (kb : IntKind) (h : ¬ y < 0) : (binOp .shl t (.int kd x) (.int kb y)).run P w = .ok (.int kd (kd.wrap (x * 2 ^ min y.toNat kd.bits))) w := by simp only [binOp, Op.shift, if_neg h, Sem.run_pure]
theorem run_ishr (kb : IntKind) (h : ¬ y < 0) : (binOp .shr t (.int kd x) (.int kb y)).run P w = .ok (.int kd (x.fdiv (2 ^ min y.toNat kd.bits))) w := by simp only [binOp, Op.shift, if_neg h, Sem.run_pure]
end
section
variable {P : Program} {ρ : Q → Loc} {N : Nat}
theorem ibK_sound {op : BinOp} {kd : IntKind} {a b : Nat} {k : AV → Bool} (hk : ibK op kd a b k = true) (t : TypeId) (w : World) :
  ∃ y v, (binOp op t (.int kd ((a : Int) - 9223372036854775808)) (.int kd ((b : Int) - 9223372036854775808))).run P w = .ok v w ∧ Rel ρ N y v ∧ k y = true := by
 cases op
 case add =>
  dsimp only [ibK] at hk
  rw [natK_eq] at hk
  refine ⟨_, _, run_iadd .., rel_back ρ N kd _ _ ?_, hk⟩
  show (((a + b) % IM kd : Nat) : Int) = _
  rw [Int.natCast_emod]
  exact (emod_shift kd _ _ 1 (by push_cast; omega))
 case sub =>
  dsimp only [ibK] at hk
  rw [natK_eq] at hk
  refine ⟨_, _, run_isub .., rel_back ρ N kd _ _ ?_, hk⟩
  show (((a + (36893488147419103232 - b % IM kd)) % IM kd : Nat) : Int) = _
  have hlt : b % IM kd < IM kd := Nat.mod_lt _ (IM_pos kd)
  have hle : IM kd ≤ 18446744073709551616 := by cases kd <;> decide
  rw [Int.natCast_emod]
  have hb : ((b % IM kd : Nat) : Int) = (b : Int) - (IM kd : Nat) * ((b : Int) / (IM kd : Nat)) := by rw [Int.natCast_emod, Int.emod_def]
  rw [Int.natCast_add, Int.natCast_sub (by omega), hb]
  have : (a : Int) + (((36893488147419103232 : Nat) : Int) - ((b : Int) - (IM kd : Nat) * ((b : Int) / (IM kd : Nat)))) = ((a : Int) - b + ((36893488147419103232 : Nat) : Int)) + (IM kd : Nat) * ((b : Int) / (IM kd : Nat)) := by omega
  rw [this, Int.add_mul_emod_self_left]
  exact (emod_shift kd _ _ 2 (by omega))
 case mul =>
  dsimp only [ibK] at hk
  rw [natK_eq] at hk
  refine ⟨_, _, run_imul .., rel_back ρ N kd _ _ ?_, hk⟩
  show (((res kd a * res kd b) % IM kd : Nat) : Int) = _
  rw [Int.natCast_emod, Int.natCast_mul, res_eq, res_eq, ← Int.mul_emod]
 case quo =>
  obtain ⟨ha, hk⟩ := ifT_le (show ifT _ (ifT _ (natK _ _)) = true from hk)
  obtain ⟨hb, hk⟩ := ifT_lt hk
  rw [natK_eq] at hk
  have h0 : ¬ ((b : Int) - 9223372036854775808 = 0) := by omega
  refine ⟨_, _, run_iquo _ _ _ _ _ h0, rel_back ρ N kd _ _ ?_, hk⟩
  show ((((a - 9223372036854775808) / (b - 9223372036854775808)) % IM kd : Nat) : Int) = _
  rw [Int.natCast_emod, Int.natCast_ediv, Int.tdiv_eq_ediv_of_nonneg (by omega), Int.natCast_sub (by omega), Int.natCast_sub (by omega)]
  rfl
 case rem =>
  obtain ⟨ha, hk⟩ := ifT_le (show ifT _ (ifT _ (natK _ _)) = true from hk)
  obtain ⟨hb, hk⟩ := ifT_lt hk
  rw [natK_eq] at hk
  have h0 : ¬ ((b : Int) - 9223372036854775808 = 0) := by omega
  refine ⟨_, _, run_irem _ _ _ _ _ h0, ?_, hk⟩
  have hm : ((a : Int) - 9223372036854775808).tmod ((b : Int) - 9223372036854775808) = (((a - 9223372036854775808) % (b - 9223372036854775808) + 9223372036854775808 : Nat) : Int) - 9223372036854775808 := by
   have e1 : ((a - 9223372036854775808 : Nat) : Int) = (a : Int) - 9223372036854775808 := by omega
   have e2 : ((b - 9223372036854775808 : Nat) : Int) = (b : Int) - 9223372036854775808 := Int.natCast_sub (Nat.le_of_lt hb)
   rw [Int.tmod_eq_emod_of_nonneg (by omega), Int.natCast_add, Int.natCast_emod, e1, e2]
   exact (Int.add_sub_cancel _ _).symm
  rw [hm]
  exact .i _ _
 case and =>
  dsimp only [ibK] at hk
  rw [natK_eq] at hk
  refine ⟨_, _, run_iand .., rel_back ρ N kd _ _ ?_, hk⟩
  rw [bv_res, bv_res]
  exact mod_lt_IM kd _ (Nat.and_lt_two_pow _ (res_lt kd b))
 case or =>
  dsimp only [ibK] at hk
  rw [natK_eq] at hk
  refine ⟨_, _, run_ior .., rel_back ρ N kd _ _ ?_, hk⟩
  rw [bv_res, bv_res]
  exact mod_lt_IM kd _ (Nat.or_lt_two_pow (res_lt kd a) (res_lt kd b))
 case xor =>
  dsimp only [ibK] at hk
  rw [natK_eq] at hk
  refine ⟨_, _, run_ixor .., rel_back ρ N kd _ _ ?_, hk⟩
  rw [bv_res, bv_res]
  exact mod_lt_IM kd _ (Nat.xor_lt_two_pow (res_lt kd a) (res_lt kd b))
 case shl => cases hk
 case shr => cases hk
 case andNot => cases hk
 case eql =>
  refine ⟨_, _, run_ieql .., ?_, (show k (.b (Nat.beq a b)) = true from hk)⟩
  have : ((a : Int) - 9223372036854775808 == (b : Int) - 9223372036854775808) = Nat.beq a b := by rw [Bool.eq_iff_iff, beq_iff_eq, Nat.beq_eq]; omega
  simpa [this] using Rel.b (ρ := ρ) (N := N) (Nat.beq a b)
 case neq =>
  refine ⟨_, _, run_ineq .., ?_, (show k (.b (nb (Nat.beq a b))) = true from hk)⟩
  have : ((a : Int) - 9223372036854775808 != (b : Int) - 9223372036854775808) = nb (Nat.beq a b) := by rw [nb_eq, Bool.eq_iff_iff, bne_iff_ne, Bool.not_eq_true', ← Bool.not_eq_true, Nat.beq_eq]; omega
  rw [this]; exact .b _
 case lss =>
  refine ⟨_, _, run_ilss .., ?_, (show k (.b (Nat.blt a b)) = true from hk)⟩
  have : decide ((a : Int) - 9223372036854775808 < (b : Int) - 9223372036854775808) = Nat.blt a b := by rw [Bool.eq_iff_iff, decide_eq_true_eq, Nat.blt_eq]; omega
  rw [this]; exact .b _
 case leq =>
  refine ⟨_, _, run_ileq .., ?_, (show k (.b (Nat.ble a b)) = true from hk)⟩
  have : decide ((a : Int) - 9223372036854775808 ≤ (b : Int) - 9223372036854775808) = Nat.ble a b := by rw [Bool.eq_iff_iff, decide_eq_true_eq, Nat.ble_eq]; omega
  rw [this]; exact .b _
 case gtr =>
  refine ⟨_, _, run_igtr .., ?_, (show k (.b (Nat.blt b a)) = true from hk)⟩
  have : decide ((a : Int) - 9223372036854775808 > (b : Int) - 9223372036854775808) = Nat.blt b a := by rw [Bool.eq_iff_iff, decide_eq_true_eq, Nat.blt_eq]; omega
  rw [this]; exact .b _
 case geq =>
  refine ⟨_, _, run_igeq .., ?_, (show k (.b (Nat.ble b a)) = true from hk)⟩
  have : decide ((a : Int) - 9223372036854775808 ≥ (b : Int) - 9223372036854775808) = Nat.ble b a := by rw [Bool.eq_iff_iff, decide_eq_true_eq, Nat.ble_eq]; omega
  rw [this]; exact .b _
def shK (op : BinOp) (kd : IntKind) (a b : Nat) (k : AV → Bool) : Bool :=
 ifT (Nat.ble 9223372036854775808 b) (ifT (Nat.ble (Nat.sub b 9223372036854775808) kd.bits) (BinOp.casesOn (motive := fun _ => Bool) op false false false false false false false false
  (natK (back kd (Nat.mod (Nat.mul (res kd a) (Nat.pow 2 (Nat.sub b 9223372036854775808))) (IM kd))) fun n => k (.i kd n))
  (natK (Nat.div (Nat.add a (Nat.mul 9223372036854775808 (Nat.sub (Nat.pow 2 (Nat.sub b 9223372036854775808)) 1))) (Nat.pow 2 (Nat.sub b 9223372036854775808))) fun n => k (.i kd n))
  false false false false false false false))
theorem shK_sound {op : BinOp} {kd kb : IntKind} {a b : Nat} {k : AV → Bool} (hk : shK op kd a b k = true) (t : TypeId) (w : World) :
  ∃ y v, (binOp op t (.int kd ((a : Int) - 9223372036854775808)) (.int kb ((b : Int) - 9223372036854775808))).run P w = .ok v w ∧ Rel ρ N y v ∧ k y = true := by
 obtain ⟨hb, hk⟩ := ifT_le hk
 obtain ⟨hn, hk⟩ := ifT_le hk
 have hn : b - 9223372036854775808 ≤ kd.bits := hn
 have h0 : ¬ ((b : Int) - 9223372036854775808 < 0) := by omega
 have hmin : min ((b : Int) - 9223372036854775808).toNat kd.bits = b - 9223372036854775808 := by omega
 cases op
 case shl =>
  dsimp only at hk
  rw [natK_eq] at hk
  refine ⟨_, _, run_ishl _ _ _ _ _ _ h0, rel_back ρ N kd _ _ ?_, hk⟩
  rw [hmin]
  show (((res kd a * 2 ^ (b - 9223372036854775808)) % IM kd : Nat) : Int) = _
  rw [Int.natCast_emod, Int.natCast_mul, res_eq, Int.mul_emod, Int.emod_emod_of_dvd _ (Int.dvd_refl _), ← Int.mul_emod]
  congr 1
 case shr =>
  dsimp only at hk
  rw [natK_eq] at hk
  refine ⟨_, _, run_ishr _ _ _ _ _ _ h0, ?_, hk⟩
  rw [hmin]
  have hp : 0 < 2 ^ (b - 9223372036854775808) := Nat.two_pow_pos _
  generalize hpp : 2 ^ (b - 9223372036854775808) = p at hp
  have e : ((a : Int) - 9223372036854775808).fdiv (2 ^ (b - 9223372036854775808)) = (((a + 9223372036854775808 * (p - 1)) / p : Nat) : Int) - 9223372036854775808 := by
   have hpi : ((2 : Int) ^ (b - 9223372036854775808)) = ((p : Nat) : Int) := by rw [← hpp]; simp
   rw [hpi, Int.fdiv_eq_ediv_of_nonneg _ (by omega), Int.natCast_ediv]
   have : ((a + 9223372036854775808 * (p - 1) : Nat) : Int) = ((a : Int) - 9223372036854775808) + (9223372036854775808 : Int) * p := by
    rw [Int.natCast_add, Int.natCast_mul, Int.natCast_sub hp, Int.mul_sub]
    omega
   rw [this, Int.add_mul_ediv_right _ _ (by omega)]
   omega
  rw [e]
  show Rel ρ N (.i kd ((a + 9223372036854775808 * (2 ^ (b - 9223372036854775808) - 1)) / 2 ^ (b - 9223372036854775808))) _
  rw [hpp]
  exact .i _ _
 all_goals cases hk
end
end Go.Proofs.YtpchmdddkpocgaaGreatDoor
