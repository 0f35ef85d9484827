/-
  No claim by itself: the evaluator: slices of slices and of texts. | the evaluator: append. | the evaluator: append, of abstract slices. | the evaluator: the other small operations. | the evaluator: literals of structs, arrays and slices. | the evaluator: literals of slices, make, bytes and texts, functions. | the evaluator: comparisons with nil, of bools; conversions of bytes. | the evaluator: each operation has one value, whatever follows. | the evaluator: bytes to a text. | the evaluator: a text to bytes. | the evaluator: operations of two values, by the type; structs held against each other. | the evaluator: the other operations that make nothing: complements, the least and the greatest, places in arrays, functions, interfaces. No condition.
-/
import Derived.Test.YtmddhlfjilkdfaaGreatDoorE1
import Derived.Laws.AppendOwn
import Derived.Laws.BytesString
import Derived.Laws.IdiomStrings
import Derived.Laws.StructEq
namespace Go.Proofs.YtmddhlfjilkdfaaGreatDoor
set_option linter.unusedVariables false
set_option linter.unusedSimpArgs false

/-- A number that is no less than nought. -/
def idxK (x : AV) (k : Nat → Bool) : Bool := x.on_i fun _ m => ifT (Nat.ble 9223372036854775808 m) (natK (Nat.sub m 9223372036854775808) k)
def optK (x : Option AV) (d : Nat) (k : Nat → Bool) : Bool := Option.casesOn (motive := fun _ => Bool) x (k d) (fun x => idxK x k)
section
variable {P : Program} {ρ : Q → Loc} {N : Nat}
theorem idxK_spec {x : AV} {u : Value} (hx : Rel ρ N x u) {k : Nat → Bool} (hk : idxK x k = true) : ∃ (kd : IntKind) (i : Nat), u = .int kd (i : Nat) ∧ k i = true := by
  obtain ⟨kd, m, rfl, hk⟩ := AV.on_i_spec hk
  obtain ⟨hm, hk⟩ := ifT_le hk
  rw [natK_eq] at hk
  cases hx
  exact ⟨kd, m - 9223372036854775808, by congr 1; omega, hk⟩
/-- An argument that may be left out. -/
inductive RelO (ρ : Q → Loc) (N : Nat) : Option AV → Option Value → Prop
  | none : RelO ρ N none none
  | some (x : AV) (v : Value) (h : Rel ρ N x v) : RelO ρ N (some x) (some v)
theorem optK_spec {x : Option AV} {u : Option Value} (hx : RelO ρ N x u) {d : Nat} {k : Nat → Bool} (hk : optK x d k = true) : (u = none ∧ k d = true) ∨ ∃ (kd : IntKind) (i : Nat), u = some (.int kd (i : Nat)) ∧ k i = true := by
  cases hx with
  | none => exact .inl ⟨rfl, hk⟩
  | some x v h =>
    obtain ⟨kd, i, h1, h2⟩ := idxK_spec h hk
    exact .inr ⟨kd, i, by rw [h1], h2⟩
theorem run_bound (w : World) (kd : IntKind) (i y : Nat) (c : BoundsCode) (h : i ≤ y) : (Instr.sliceBound (.int kd (i : Nat)) y c).run P w = .ok i w := by
  have : (0 : Int) ≤ (i : Nat) ∧ ((i : Nat) : Int) ≤ (y : Nat) := by omega
  simp only [Instr.sliceBound, asIntOf, Sem.run_bind, Sem.run_pure, Result.andThen_ok, if_pos this, Int.toNat_natCast]
/-- The bounds of 'x[lo:hi]'. -/
theorem run_bounds2 (w : World) (b : Bool) {lo hi : Option Value} (n c h l : Nat) (hh : (hi = none ∧ h = n) ∨ ∃ kd : IntKind, hi = some (.int kd (h : Nat))) (hl : (lo = none ∧ l = 0) ∨ ∃ kd : IntKind, lo = some (.int kd (l : Nat))) (h1 : l ≤ h) (h2 : h ≤ c) :
    (Instr.sliceBounds b n c lo hi none).run P w = .ok (l, h, c) w := by
  have b1 : ∀ (kd : IntKind) (c' : BoundsCode), (Instr.sliceBound (.int kd (l : Nat)) h c').run P w = .ok l w := fun kd c' => run_bound w kd l h c' h1
  have b2 : ∀ (kd : IntKind) (c' : BoundsCode), (Instr.sliceBound (.int kd (h : Nat)) c c').run P w = .ok h w := fun kd c' => run_bound w kd h c c' h2
  rcases hh with ⟨rfl, rfl⟩ | ⟨kd, rfl⟩ <;> rcases hl with ⟨rfl, rfl⟩ | ⟨ke, rfl⟩ <;> simp [Instr.sliceBounds, b1, b2]
theorem run_bounds3 (w : World) (b : Bool) {lo : Option Value} (n c h l m : Nat) (kh km : IntKind) (hl : (lo = none ∧ l = 0) ∨ ∃ kd : IntKind, lo = some (.int kd (l : Nat))) (h1 : l ≤ h) (h2 : h ≤ m) (h3 : m ≤ c) :
    (Instr.sliceBounds b n c lo (some (.int kh (h : Nat))) (some (.int km (m : Nat)))).run P w = .ok (l, h, m) w := by
  have b1 : ∀ (kd : IntKind) (c' : BoundsCode), (Instr.sliceBound (.int kd (l : Nat)) h c').run P w = .ok l w := fun kd c' => run_bound w kd l h c' h1
  rcases hl with ⟨rfl, rfl⟩ | ⟨ke, rfl⟩ <;> simp [Instr.sliceBounds, b1, run_bound w km m c _ h3, run_bound w kh h m _ h2]
/-- 'x[lo:hi]' of a slice. -/
def sl2K (sz : Nat) (q : Q) (o : Nat) (c : AC) (l h : Nat) (k : AV → Bool) : Bool :=
  AC.casesOn (motive := fun _ => Bool) c
    (fun cc => ifT (Nat.ble h cc) (Bool.casesOn (motive := fun _ => Bool) (Nat.beq cc l) (k (.sl q (Nat.add o (Nat.mul l sz)) (Nat.sub h l) (.k (Nat.sub cc l)))) (k (.sl q o (Nat.sub h l) (.k 0)))))
    (fun d b => ifT (Nat.ble h b) (Bool.casesOn (motive := fun _ => Bool) (Nat.blt l b) (Bool.casesOn (motive := fun _ => Bool) (Nat.beq l 0) (k .se) (k (.sl q o (Nat.sub h l) (.u d b)))) (k (.sl q (Nat.add o (Nat.mul l sz)) (Nat.sub h l) (.u (Nat.add d l) (Nat.sub b l))))))
/-- What is known of the room. -/
def AC.lim (c : AC) : Nat := AC.casesOn (motive := fun _ => Nat) c (fun c => c) (fun _ b => b)
def sl3K (sz : Nat) (q : Q) (o l h m : Nat) (k : AV → Bool) : Bool :=
  Bool.casesOn (motive := fun _ => Bool) (Nat.beq m l) (k (.sl q (Nat.add o (Nat.mul l sz)) (Nat.sub h l) (.k (Nat.sub m l)))) (k (.sl q o (Nat.sub h l) (.k 0)))
/-- 'x[lo:hi:max]' where all of them are nought. -/
def nilX (m : AV) (lo hi : Option AV) (b : Bool) : Bool := Option.casesOn (motive := fun _ => Bool) hi false (fun hi => idxK m fun m => idxK hi fun h => optK lo 0 fun l => ifT (Nat.ble m 0) (ifT (Nat.ble h 0) (ifT (Nat.ble l 0) b)))
noncomputable def slK (sz : Nat) (lo hi mx : Option AV) (x : AV) (k : AV → Bool) : Bool :=
  AV.casesOn (motive_1 := fun _ => Bool) x false (fun _ => false) (fun _ _ => false)
    (fun n s => Option.casesOn (motive := fun _ => Bool) mx (optK hi n fun h => optK lo 0 fun l => ifT (Nat.ble l h) (ifT (Nat.ble h n) (k (.s (Nat.sub h l) (List.take (Nat.sub h l) (List.drop l s)))))) (fun _ => false))
    false (fun _ _ => false)
    (Option.casesOn (motive := fun _ => Bool) mx (optK hi 0 fun h => optK lo 0 fun l => ifT (Nat.ble h 0) (ifT (Nat.ble l 0) (k .ns))) (fun m => nilX m lo hi (k .ns)))
    (fun q o n c => Option.casesOn (motive := fun _ => Bool) mx
      (optK hi n fun h => optK lo 0 fun l => ifT (Nat.ble l h) (sl2K sz q o c l h k))
      (fun m => Option.casesOn (motive := fun _ => Bool) hi false (fun hi => idxK m fun m => idxK hi fun h => optK lo 0 fun l => ifT (Nat.ble l h) (ifT (Nat.ble h m) (ifT (Nat.ble m c.lim) (sl3K sz q o l h m k))))))
    (Option.casesOn (motive := fun _ => Bool) mx (optK hi 0 fun h => optK lo 0 fun l => ifT (Nat.ble h 0) (ifT (Nat.ble l 0) (k .se))) (fun m => nilX m lo hi (k .se)))
    (fun _ _ _ => false) false false (fun _ => false) false (fun _ => false) (fun _ => false) (fun _ _ => false) (fun _ => false)
/-- What 'slK' may be asked of. -/
def slOk (P : Program) (t sz : Nat) : Prop := P.underlying t = some .string ∨ ∃ e, P.underlying t = some (.slice e) ∧ ∀ w, (sizeOf e).run P w = .ok sz w
theorem run_slice_slice {t e sz : Nat} (hu : P.underlying t = some (.slice e)) (hs : ∀ w, (sizeOf e).run P w = .ok sz w) (w : World) (a : Option Addr) (n c l h m : Nat) {lo hi mx : Option Value} (hb : (Instr.sliceBounds true n c lo hi mx).run P w = .ok (l, h, m) w) :
    (Instr.sliceAt t (.slice a n c) lo hi mx).run P w = .ok (.slice (if m = l then a else a.map (·.add (l * sz))) (h - l) (m - l)) w := by
  simp only [Instr.sliceAt, Sem.run_bind, run_underlying hu, Result.andThen_ok, Instr.slice, hb, hs, Sem.run_pure]
theorem run_slice_string {t : Nat} (hu : P.underlying t = some .string) (w : World) (s : ByteArray) (l h m : Nat) {lo hi : Option Value} (hb : (Instr.sliceBounds false s.size s.size lo hi none).run P w = .ok (l, h, m) w) :
    (Instr.sliceAt t (.string s) lo hi none).run P w = .ok (.string (s.extract l h)) w := by
  simp [Instr.sliceAt, run_underlying hu, Instr.slice, hb]
theorem opt_of {u : Option Value} {d : Nat} {k : Nat → Bool} (h : (u = none ∧ k d = true) ∨ ∃ (kd : IntKind) (i : Nat), u = some (.int kd (i : Nat)) ∧ k i = true) : ∃ i, k i = true ∧ ((u = none ∧ i = d) ∨ ∃ kd : IntKind, u = some (.int kd (i : Nat))) := by
  rcases h with ⟨h1, h2⟩ | ⟨kd, i, h1, h2⟩
  · exact ⟨d, h2, .inl ⟨h1, rfl⟩⟩
  · exact ⟨i, h2, .inr ⟨kd, h1⟩⟩
theorem Rel.sl_inv {q : Q} {o n : Nat} {c : AC} {v : Value} (h : Rel ρ N (.sl q o n c) v) : q.num < N ∧ ((∃ cc, c = .k cc ∧ n ≤ cc ∧ v = .slice (some ⟨(ρ q).blk, (ρ q).base + o, none⟩) n cc) ∨ ∃ d l, c = .u d l ∧ n ≤ l ∧ l + d ≤ (ρ q).cap ∧ v = .slice (some ⟨(ρ q).blk, (ρ q).base + o, none⟩) n ((ρ q).cap - d)) := by
  cases h with
  | slk _ _ _ cc h1 h2 => exact ⟨h1, .inl ⟨cc, rfl, h2, rfl⟩⟩
  | slu _ _ _ d l h1 h2 h3 _ => exact ⟨h1, .inr ⟨d, l, rfl, h2, h3, rfl⟩⟩
theorem Rel.sl_cap {q : Q} {o n d l : Nat} {v : Value} (h : Rel ρ N (.sl q o n (.u d l)) v) : (ρ q).cap ≤ 9223372036854775807 := by
  cases h with
  | slu _ _ _ _ _ _ _ _ h4 => exact h4
theorem pick_y {r : Result Value} {v : Value} {w : World} {k : AV → Bool} (hr : r = .ok v w) (h : ∃ y, Rel ρ N y v ∧ k y = true) : ∃ y v, r = .ok v w ∧ Rel ρ N y v ∧ k y = true :=
  let ⟨y, h1, h2⟩ := h
  ⟨y, v, hr, h1, h2⟩
theorem nilX_spec {m : AV} {mv : Value} {lo hi : Option AV} {lov hiv : Option Value} (hm : Rel ρ N m mv) (hlo : RelO ρ N lo lov) (hhi : RelO ρ N hi hiv) {b : Bool} (hk : nilX m lo hi b = true) :
    ∃ (km kh : IntKind), mv = .int km (0 : Nat) ∧ hiv = some (.int kh (0 : Nat)) ∧ ((lov = none ∧ (0 : Nat) = 0) ∨ ∃ kd : IntKind, lov = some (.int kd (0 : Nat))) ∧ b = true := by
  cases hhi with
  | none => cases hk
  | some hi hv hh =>
    obtain ⟨km, m', rfl, hk2⟩ := idxK_spec hm (show idxK m _ = true from hk)
    obtain ⟨kh, h', rfl, hk3⟩ := idxK_spec hh hk2
    obtain ⟨l, hk4, hl⟩ := opt_of (optK_spec hlo hk3)
    obtain ⟨h1, hk5⟩ := ifT_le hk4
    obtain ⟨h2, hk6⟩ := ifT_le hk5
    obtain ⟨h3, hk7⟩ := ifT_le hk6
    have h1 : m' = 0 := by omega
    have h2 : h' = 0 := by omega
    have h3 : l = 0 := by omega
    subst h1 h2 h3
    exact ⟨km, kh, rfl, rfl, hl, hk7⟩
theorem slK_sound {t sz : Nat} (ht : slOk P t sz) {x : AV} {u : Value} {lo hi mx : Option AV} {lov hiv mxv : Option Value} (hx : Rel ρ N x u) (hlo : RelO ρ N lo lov) (hhi : RelO ρ N hi hiv) (hmx : RelO ρ N mx mxv)
    {k : AV → Bool} (hk : slK sz lo hi mx x k = true) (hty : (∃ s, u = .string s) ↔ P.underlying t = some .string) (w : World) : ∃ y v, (Instr.sliceAt t u lov hiv mxv).run P w = .ok v w ∧ Rel ρ N y v ∧ k y = true := by
  have sl : ∀ (a : Option Addr) (n c : Nat), u = .slice a n c → ∃ e, P.underlying t = some (.slice e) ∧ ∀ w, (sizeOf e).run P w = .ok sz w := fun a n c e => by
    rcases ht with h | h
    · obtain ⟨s, hs⟩ := hty.2 h
      rw [hs] at e
      cases e
    · exact h
  cases x <;> first | (cases hk; done) | skip
  case s n s =>
    cases hmx with
    | some _ _ _ => cases hk
    | none =>
      have hu := hty.1 (by cases hx; exact ⟨_, rfl⟩)
      dsimp only [slK] at hk
      obtain ⟨h, hk, hh⟩ := opt_of (optK_spec hhi hk)
      obtain ⟨l, hk, hl⟩ := opt_of (optK_spec hlo hk)
      obtain ⟨h1, hk1⟩ := ifT_le hk
      obtain ⟨h2, hk2⟩ := ifT_le hk1
      cases hx with
      | s s =>
        refine ⟨_, _, run_slice_string hu w s l h s.size (run_bounds2 w false s.size s.size h l hh hl h1 h2), rel_s _ ?_ ?_, hk2⟩
        · simp only [ByteArray.size_extract]; show _ = h - l; omega
        · rw [ByteArray.data_extract, Array.toList_extract]
          simp [List.extract, List.map_take, List.map_drop]
  case ns =>
    cases hmx with
    | some m mv hm =>
      obtain ⟨km, kh, e1, e2, hl, hk2⟩ := nilX_spec hm hlo hhi (show nilX m lo hi (k .ns) = true from hk)
      subst e1 e2
      cases hx with
      | ns =>
        obtain ⟨e, hu, hs⟩ := sl _ _ _ rfl
        refine ⟨_, _, run_slice_slice hu hs w none 0 0 0 0 0 (run_bounds3 w true 0 0 0 0 0 kh km (by simpa using hl) (Nat.le_refl _) (Nat.le_refl _) (Nat.le_refl _)), .ns, hk2⟩
    | none =>
      dsimp only [slK] at hk
      obtain ⟨h, hk, hh⟩ := opt_of (optK_spec hhi hk)
      obtain ⟨l, hk, hl⟩ := opt_of (optK_spec hlo hk)
      obtain ⟨h1, hk⟩ := ifT_le hk
      obtain ⟨h2, hk⟩ := ifT_le hk
      cases hx with
      | ns =>
        obtain ⟨e, hu, hs⟩ := sl _ _ _ rfl
        refine ⟨_, _, run_slice_slice hu hs w none 0 0 l h 0 (run_bounds2 w true 0 0 h l hh hl (by omega) h1), ?_, hk⟩
        have : l = 0 := by omega
        have : h = 0 := by omega
        subst l h
        exact .ns
  case se =>
    cases hmx with
    | some m mv hm =>
      obtain ⟨km, kh, e1, e2, hl, hk2⟩ := nilX_spec hm hlo hhi (show nilX m lo hi (k .se) = true from hk)
      subst e1 e2
      cases hx with
      | se a c =>
        obtain ⟨e, hu, hs⟩ := sl _ _ _ rfl
        refine ⟨_, _, run_slice_slice hu hs w (some a) 0 c 0 0 0 (run_bounds3 w true 0 c 0 0 0 kh km (by simpa using hl) (Nat.le_refl _) (Nat.le_refl _) (Nat.zero_le _)), .se a 0, hk2⟩
    | none =>
      dsimp only [slK] at hk
      obtain ⟨h, hk, hh⟩ := opt_of (optK_spec hhi hk)
      obtain ⟨l, hk, hl⟩ := opt_of (optK_spec hlo hk)
      obtain ⟨h1, hk⟩ := ifT_le hk
      obtain ⟨h2, hk⟩ := ifT_le hk
      cases hx with
      | se a c =>
        obtain ⟨e, hu, hs⟩ := sl _ _ _ rfl
        refine ⟨_, _, run_slice_slice hu hs w (some a) 0 c l h c (run_bounds2 w true 0 c h l hh hl (by omega) (by omega)), ?_, hk⟩
        have : l = 0 := by omega
        have : h = 0 := by omega
        subst l h
        have e : (if c = 0 then some a else (some a).map (·.add (0 * sz))) = some a := by
          rw [Nat.zero_mul]
          split
          · rfl
          · simp [Addr.add]
        rw [e]
        exact .se a _
  case sl q o n c =>
    cases hmx with
    | none =>
      dsimp only [slK] at hk
      obtain ⟨h, hk2, hh⟩ := opt_of (optK_spec hhi hk)
      obtain ⟨l, hk3, hl⟩ := opt_of (optK_spec hlo hk2)
      obtain ⟨h1, hk4⟩ := ifT_le hk3
      clear hk hk2 hk3
      obtain ⟨hq, ⟨c, rfl, hc, rfl⟩ | ⟨d, b, rfl, hn, hc, rfl⟩⟩ := hx.sl_inv
      · obtain ⟨e, hu, hs⟩ := sl _ _ _ rfl
        obtain ⟨h2, hk⟩ := ifT_le (show ifT (Nat.ble h c) _ = true from hk4)
        refine pick_y (run_slice_slice hu hs w _ n c l h c (run_bounds2 w true n c h l hh hl h1 h2)) ?_
        by_cases hcl : c = l
        · subst hcl
          rw [Nat.beq_refl] at hk
          refine ⟨_, ?_, hk⟩
          rw [if_pos rfl, Nat.sub_self]
          exact .slk q o _ 0 hq (by show h - c ≤ 0; omega)
        · have hb : Nat.beq c l = false := by rw [← Bool.not_eq_true, Nat.beq_eq]; exact hcl
          rw [hb] at hk
          refine ⟨_, ?_, hk⟩
          rw [if_neg hcl]
          have := Rel.slk (ρ := ρ) (N := N) q (o + l * sz) (h - l) (c - l) hq (by omega)
          simp only [Option.map_some, Addr.add_none, Nat.add_assoc]
          exact this
      · obtain ⟨e, hu, hs⟩ := sl _ _ _ rfl
        obtain ⟨h2, hk⟩ := ifT_le (show ifT (Nat.ble h b) _ = true from hk4)
        refine pick_y (run_slice_slice hu hs w _ n _ l h _ (run_bounds2 w true n _ h l hh hl h1 (by omega))) ?_
        by_cases hln : l < b
        · have hb : Nat.blt l b = true := by rw [Nat.blt_eq]; exact hln
          rw [hb] at hk
          refine ⟨_, ?_, hk⟩
          rw [if_neg (by omega)]
          have := Rel.slu (ρ := ρ) (N := N) q (o + l * sz) (h - l) (d + l) (b - l) hq (by omega) (by omega) hx.sl_cap
          simp only [Option.map_some, Addr.add_none, Nat.add_assoc]
          rw [Nat.sub_sub]
          exact this
        · have hb : Nat.blt l b = false := by rw [← Bool.not_eq_true, Nat.blt_eq]; exact hln
          rw [hb] at hk
          have hhl : h - l = 0 := by omega
          by_cases hl0 : l = 0
          · subst hl0
            refine ⟨_, ?_, hk⟩
            have e : (if (ρ q).cap - d = 0 then some (⟨(ρ q).blk, (ρ q).base + o, none⟩ : Addr) else (some (⟨(ρ q).blk, (ρ q).base + o, none⟩ : Addr)).map (·.add (0 * sz))) = some ⟨(ρ q).blk, (ρ q).base + o, none⟩ := by
              rw [Nat.zero_mul]
              split
              · rfl
              · simp [Addr.add]
            rw [e]
            exact .slu q o _ d b hq (by show h - 0 ≤ _; omega) hc hx.sl_cap
          · have hb0 : Nat.beq l 0 = false := by rw [← Bool.not_eq_true, Nat.beq_eq]; exact hl0
            rw [hb0] at hk
            refine ⟨_, ?_, hk⟩
            rw [hhl]
            split
            · exact .se _ _
            · exact .se _ _
    | some m mv hm =>
      cases hhi with
      | none => cases hk
      | some h hv hh =>
        dsimp only [slK] at hk
        obtain ⟨km, m', rfl, hk⟩ := idxK_spec hm hk
        obtain ⟨kh, h', rfl, hk⟩ := idxK_spec hh hk
        obtain ⟨l, hk, hl⟩ := opt_of (optK_spec hlo hk)
        obtain ⟨h1, hk⟩ := ifT_le hk
        obtain ⟨h2, hk⟩ := ifT_le hk
        obtain ⟨h3, hk⟩ := ifT_le hk
        have key : ∀ cap : Nat, m' ≤ cap → q.num < N → (∃ e, P.underlying t = some (.slice e) ∧ ∀ w, (sizeOf e).run P w = .ok sz w) →
            ∃ y v, (Instr.sliceAt t (.slice (some ⟨(ρ q).blk, (ρ q).base + o, none⟩) n cap) lov (some (.int kh (h' : Nat))) (some (.int km (m' : Nat)))).run P w = .ok v w ∧ Rel ρ N y v ∧ k y = true := by
          intro cap hcap hq ⟨e, hu, hs⟩
          refine pick_y (run_slice_slice hu hs w _ n cap l h' m' (run_bounds3 w true n cap h' l m' kh km hl h1 h2 (by omega))) ?_
          by_cases hml : m' = l
          · subst hml
            have hk : (Bool.casesOn (motive := fun _ => Bool) (Nat.beq m' m') _ (k (.sl q o (Nat.sub h' m') (.k 0)))) = true := hk
            rw [Nat.beq_refl] at hk
            refine ⟨_, ?_, hk⟩
            rw [if_pos rfl, Nat.sub_self]
            exact .slk q o _ 0 hq (by show h' - m' ≤ 0; omega)
          · have hb : Nat.beq m' l = false := by rw [← Bool.not_eq_true, Nat.beq_eq]; exact hml
            have hk : (Bool.casesOn (motive := fun _ => Bool) (Nat.beq m' l) (k (.sl q (Nat.add o (Nat.mul l sz)) (Nat.sub h' l) (.k (Nat.sub m' l)))) (k (.sl q o (Nat.sub h' l) (.k 0)))) = true := hk
            rw [hb] at hk
            refine ⟨_, ?_, hk⟩
            rw [if_neg hml]
            have := Rel.slk (ρ := ρ) (N := N) q (o + l * sz) (h' - l) (m' - l) hq (by omega)
            simp only [Option.map_some, Addr.add_none, Nat.add_assoc]
            exact this
        obtain ⟨hq, ⟨c, rfl, hc, rfl⟩ | ⟨d, b, rfl, hn, hc, rfl⟩⟩ := hx.sl_inv
        · exact key c h3 hq (sl _ _ _ rfl)
        · exact key _ (by have h3 : m' ≤ b := h3; omega) hq (sl _ _ _ rfl)
end
end Go.Proofs.YtmddhlfjilkdfaaGreatDoor
namespace Go.Proofs.YtmddhlfjilkdfaaGreatDoor
set_option linter.unusedVariables false
set_option linter.unusedSimpArgs false

/-- What append asks of an element's type. -/
def elemOk (P : Program) (e sz : Nat) : Bool := match P.info? e with
  | some i => (match i.zero with | some z => z.cells.size == sz | none => false) && i.size == sz && decide (i.bytes ≤ 100000)
  | none => false
theorem elemOk_spec {P : Program} {e sz : Nat} (h : elemOk P e sz = true) : ∃ i z, P.info? e = some i ∧ i.zero = some z ∧ z.cells.size = sz ∧ i.size = sz ∧ i.bytes ≤ 100000 := by
  unfold elemOk at h
  split at h
  · rename_i i hi
    simp only [Bool.and_eq_true, beq_iff_eq, decide_eq_true_eq] at h
    obtain ⟨⟨h1, h2⟩, h3⟩ := h
    split at h1
    · rename_i z hz
      exact ⟨i, z, hi, hz, by simpa using h1, h2, h3⟩
    · cases h1
  · cases h
section
variable {P : Program} (w : World)
/-- The arm with room. -/
theorem run_app_room {t u ty e sz : Nat} (ht : P.underlying t = some (.slice e)) (hu : (∃ f, P.underlying u = some (.slice f)) ∨ P.underlying u = some .string) (he : elemOk P e sz = true) (x : Value) (n : Nat) (news : List Value)
    (hx : ∀ w' : World, (Builtin.lenOf x).run P w' = .ok n w') (hc : (Builtin.firstCells sz n x).run P w = .ok news.toArray w)
    (base : Option Addr) (len cap : Nat) (hr : len + n ≤ cap) {w' : World} (hst : (∀ a, base = some a → (storeCells (a.add (len * sz)) news).run P w = .ok () w') ∧ (base = none → w' = w)) :
    (Builtin.append_ #[t, u] ty #[.slice base len cap, x]).run P w = .ok (.slice base (len + n) cap) w' := by
  obtain ⟨i, z, hi, hz, hzs, hs, hb⟩ := elemOk_spec he
  subst hs
  cases base with
  | none =>
    have := hst.2 rfl
    subst this
    rcases hu with ⟨f, hd⟩ | hd <;> simp [Builtin.append_, run_underlying ht, run_underlying hd, sizeOf, typeInfo, hi, hx, hr, hc]
  | some a =>
    have h2 := hst.1 a rfl
    rcases hu with ⟨f, hd⟩ | hd <;> simp [Builtin.append_, run_underlying ht, run_underlying hd, sizeOf, typeInfo, hi, hx, hr, hc, h2]
/-- The arm that grows. -/
theorem run_app_grow {t u ty e sz : Nat} (ht : P.underlying t = some (.slice e)) (hu : (∃ f, P.underlying u = some (.slice f)) ∨ P.underlying u = some .string) (he : elemOk P e sz = true) (x : Value) (n : Nat) (news olds : List Value)
    (hx : ∀ w' : World, (Builtin.lenOf x).run P w' = .ok n w') (hc : (Builtin.firstCells sz n x).run P w.drew = .ok news.toArray w.drew)
    (base : Option Addr) (len cap : Nat) (ho : (Builtin.firstCells sz len (.slice base len cap)).run P w.drew = .ok olds.toArray w.drew) (hr : cap < len + n) (hm : len + n ≤ 1000000) :
    ∃ z : Value, z.cells.size = sz ∧ (Builtin.append_ #[t, u] ty #[.slice base len cap, x]).run P w = .ok (.slice (some ⟨w.heap.size, 0, none⟩) (len + n) (grownCap w (len + n) cap e))
      (w.drew.alloc (.cells (olds.toArray ++ news.toArray ++ Builtin.zeroCells z.cells (grownCap w (len + n) cap e - (len + n))) e)) := by
  obtain ⟨i, z, hi, hz, hzs, hs, hb⟩ := elemOk_spec he
  subst hs
  refine ⟨z, hzs, ?_⟩
  have hn : ¬ (len + n ≤ cap) := by omega
  have h63' : ¬ (9223372036854775807 < ((len : Int) + (n : Int))) := by omega
  have h48 : Builtin.nextslicecap (len + n) cap * i.bytes ≤ 281474976710656 := growslice_fits hr (by
    have : (len + n) * i.bytes ≤ 1000000 * 100000 := Nat.mul_le_mul hm hb
    omega)
  have h48' : ¬ (281474976710656 < Builtin.nextslicecap (len + n) cap * i.bytes) := by omega
  have hdr : w.drew.heap = w.heap := rfl
  rcases hu with ⟨f, hd⟩ | hd <;> (simp [Builtin.append_, run_underlying ht, run_underlying hd, sizeOf, typeInfo, zeroValue, hi, hz, hx, hn, h63', h48', Question.forced, hc, ho, newRow, grownCap]; congr 2; apply Array.ext'; simp)
end
end Go.Proofs.YtmddhlfjilkdfaaGreatDoor
namespace Go.Proofs.YtmddhlfjilkdfaaGreatDoor
set_option linter.unusedVariables false
set_option linter.unusedSimpArgs false

def byteAV (b : Nat) : AV := .i .u8 (Nat.add b 9223372036854775808)
/-- What is appended. -/
noncomputable def srcK (sz : Nat) (y : AV) (h : Hp) (k : Nat → List AV → Bool) : Bool :=
  AV.casesOn (motive_1 := fun _ => Bool) y false (fun _ => false) (fun _ _ => false) (fun n l => ifT (Nat.beq sz 1) (k n (List.map byteAV l))) false (fun _ _ => false)
    (k 0 []) (fun q o n _ => (HT.getR q h.t).on fun _ m v => ifT (Nat.ble (Nat.add o (Nat.mul n sz)) m) (k n (v.range (Nat.mul n sz) o))) (k 0 [])
    (fun _ _ _ => false) false false (fun _ => false) false (fun _ => false) (fun _ => false) (fun _ _ => false) (fun _ => false)
section
variable {P : Program} {ρ : Q → Loc} {h : Hp} {w : World} {B : Nat}
theorem rel_bytes (ρ : Q → Loc) (N : Nat) : ∀ l : List UInt8, RelL ρ N ((l.map UInt8.toNat).map byteAV) (l.map fun b => Value.int .u8 b.toNat)
  | [] => .nil
  | b :: l => .cons _ _ _ _ (by
      have := Rel.i (ρ := ρ) (N := N) .u8 (b.toNat + 9223372036854775808)
      rw [Int.natCast_add, show (((9223372036854775808 : Nat) : Int)) = 9223372036854775808 from rfl, Int.add_sub_cancel] at this
      exact this) (rel_bytes ρ N l)
theorem srcK_sound (E : Emb P ρ h w B) {sz : Nat} {y : AV} {u : Value} (hy : Rel ρ h.nx.num y u) {k : Nat → List AV → Bool} (hk : srcK sz y h k = true) :
    ∃ (n : Nat) (cs : List AV) (news : List Value), k n cs = true ∧ cs.length = n * sz ∧ RelL ρ h.nx.num cs news ∧ (∀ v ∈ news, v.oneCell' = true) ∧ (∀ w' : World, (Builtin.lenOf u).run P w' = .ok n w') ∧
      (∀ w' : World, w'.heap = w.heap → (Builtin.firstCells sz n u).run P w' = .ok news.toArray w') ∧ news.length = n * sz := by
  cases y <;> first | (cases hk; done) | skip
  case s n l =>
    obtain ⟨h1, hk⟩ := ifT_eq hk
    cases hy with
    | s s =>
      refine ⟨_, _, s.data.toList.map fun b => .int .u8 b.toNat, hk, ?_, rel_bytes _ _ _, ?_, fun w' => rfl, fun w' _ => ?_, ?_⟩
      · rw [h1]; simp
      · intro v hv
        obtain ⟨b, _, rfl⟩ := List.mem_map.1 hv
        rfl
      · have e : s.extract 0 s.size = s := by
          apply ByteArray.ext
          rw [ByteArray.data_extract]
          simp
        simp only [Builtin.firstCells, e, Sem.run_pure]
        congr 1
        apply Array.ext'
        simp
      · rw [h1]; simp
  case ns =>
    cases hy with
    | ns => exact ⟨0, [], [], hk, by simp, .nil, by simp, fun _ => rfl, fun _ _ => by simp [Builtin.firstCells], by simp⟩
  case se =>
    cases hy with
    | se a c => exact ⟨0, [], [], hk, by simp, .nil, by simp, fun _ => rfl, fun w' _ => by simp [Builtin.firstCells, loadCells, loadCellsFrom], by simp⟩
  case sl q o n c =>
    dsimp only [srcK] at hk
    rw [HT.getR_eq] at hk
    obtain ⟨ty, m, v, hg, hk⟩ := OB.on_spec hk
    obtain ⟨hle, hk⟩ := ifT_le hk
    obtain ⟨vs, hl, hr, h1, hc⟩ := E.cells hg o (n * sz) hle
    have hfc : ∀ (cap : Nat) (w' : World), w'.heap = w.heap → (Builtin.firstCells sz n (.slice (some ⟨(ρ q).blk, (ρ q).base + o, none⟩) n cap)).run P w' = .ok vs.toArray w' := fun cap w' hw' =>
      run_firstCells_some w' sz n _ n cap vs hl (fun j u hu => by rw [Addr.add_none]; exact (cell?_of_heap (by rw [hw']) _ _).trans (hc j u hu))
    cases hy with
    | slk q o n c hq hcc => exact ⟨n, _, vs, hk, V.range_length _ _ _, hr, h1, fun _ => rfl, hfc _, hl⟩
    | slu q o n d hq hcc _ => exact ⟨n, _, vs, hk, V.range_length _ _ _, hr, h1, fun _ => rfl, hfc _, hl⟩

/-- The cells of the sum. -/
noncomputable def bK (o : Nat) (v : V) (m : Nat) (cs : List AV) (k : V → Bool) : Bool := Bool.casesOn (motive := fun _ => Bool) (Nat.beq o 0) (V.setL (List.append (v.range m o) cs) .z 0 k) (V.setL cs v m k)
theorem bK_spec {o : Nat} {v : V} {m : Nat} {cs : List AV} {k : V → Bool} (hk : bK o v m cs k = true) : ∃ v' : V, k v' = true ∧ (∀ j, j < m → v'.get j = v.get (o + j)) ∧ ∀ (j : Nat) (hj : j < cs.length), v'.get (m + j) = cs[j] := by
  unfold bK at hk
  cases hb : Nat.beq o 0 with
  | true =>
    have ho := Nat.eq_of_beq_eq_true hb
    subst ho
    rw [hb] at hk
    obtain ⟨v', h1, h2, h3⟩ := V.setL_spec cs v m k hk
    exact ⟨v', h1, fun j hj => by rw [Nat.zero_add]; exact h3 j (.inl hj), h2⟩
  | false =>
    rw [hb] at hk
    obtain ⟨v', h1, h2, _⟩ := V.setL_spec (v.range m o ++ cs) .z 0 k hk
    have hl : (v.range m o ++ cs).length = m + cs.length := by rw [List.length_append, V.range_length]
    refine ⟨v', h1, fun j hj => ?_, fun j hj => ?_⟩
    · have := h2 j (by omega)
      rw [Nat.zero_add] at this
      rw [this, List.getElem_append_left (by rw [V.range_length]; exact hj), V.range_get]
    · have := h2 (m + j) (by omega)
      rw [Nat.zero_add] at this
      rw [this, List.getElem_append_right (by rw [V.range_length]; omega)]
      congr 1
      rw [V.range_length]
      omega
noncomputable def apK (el sz : Nat) (x y : AV) (h : Hp) (k : AV → Hp → Bool) : Bool :=
  srcK sz y h fun n cs => AV.casesOn (motive_1 := fun _ => Bool) x false (fun _ => false) (fun _ _ => false) (fun _ _ => false) false (fun _ _ => false)
    (Bool.casesOn (motive := fun _ => Bool) (Nat.beq n 0) (ifT (Nat.ble n 1000000) (nbK el (Nat.mul n sz) cs h fun q h' => k (.sl q 0 n (.u 0 n)) h')) (k .ns h))
    (fun q o len c => Bool.casesOn (motive := fun _ => Bool) (Nat.beq n 0)
      (ifT (Nat.ble (Nat.add len n) 1000000) ((HT.getR q h.t).on fun ty m v => AC.casesOn (motive := fun _ => Bool) c
        (fun cc => Bool.casesOn (motive := fun _ => Bool) (Nat.ble (Nat.add len n) cc)
          (ifT (Nat.ble (Nat.add o (Nat.mul len sz)) m) (bK o v (Nat.mul len sz) cs fun v' => HT.setK (.bk el (Nat.mul (Nat.add len n) sz) v') h.nx h.t fun t' => h.nx.succK fun n' => k (.sl h.nx 0 (Nat.add len n) (.u 0 (Nat.add len n))) (.mk t' n')))
          (ifT (Nat.ble (Nat.add o (Nat.mul (Nat.add len n) sz)) m) (V.setL cs v (Nat.add o (Nat.mul len sz)) fun v' => HT.setK (.bk ty m v') q h.t fun t' => k (.sl q o (Nat.add len n) (.k cc)) (.mk t' h.nx))))
        (fun d b => Bool.casesOn (motive := fun _ => Bool) (Nat.ble (Nat.add len n) b) (ifT (Nat.beq ty el) (ifT (Nat.beq o (Nat.mul d sz)) (ifT (Nat.ble (Nat.add o (Nat.mul len sz)) m) (bK o v (Nat.mul len sz) cs fun v' =>
          HT.setK .no q h.t fun t0 => HT.setK (.bk el (Nat.mul (Nat.add len n) sz) v') h.nx t0 fun t' => h.nx.succK fun n' => k (.sl h.nx 0 (Nat.add len n) (.u 0 (Nat.add len n))) (.mk t' n')))))
          (ifT (Nat.ble (Nat.add o (Nat.mul (Nat.add len n) sz)) m) (V.setL cs v (Nat.add o (Nat.mul len sz)) fun v' => HT.setK (.bk ty m v') q h.t fun t' => k (.sl q o (Nat.add len n) (.u d b)) (.mk t' h.nx))))))
      (k x h))
    (Bool.casesOn (motive := fun _ => Bool) (Nat.beq n 0) false (k .se h)) (fun _ _ _ => false) false false (fun _ => false) false (fun _ => false) (fun _ => false) (fun _ _ => false) (fun _ => false)
/-- What the call of append leaves. -/
def Made (P : Program) (ρ : Q → Loc) (h : Hp) (w : World) (B : Nat) (r : Result Value) (k : AV → Hp → Bool) : Prop :=
  ∃ y v w' ρ' h', r = .ok v w' ∧ Emb P ρ' h' w' B ∧ Step ρ h w ρ' h' w' ∧ Rel ρ' h'.nx.num y v ∧ k y h' = true
theorem rel_newSlice (ρ : Q → Loc) (q : Q) (w : World) (n cap N : Nat) (hN : q.num < N) (hc : n ≤ cap) (hm : cap ≤ 9223372036854775807) : Rel (upd ρ q (Hp.loc w cap)) N (.sl q 0 n (.u 0 n)) (.slice (some ⟨w.heap.size, 0, none⟩) n cap) := by
  have := Rel.slu (ρ := upd ρ q (Hp.loc w cap)) (N := N) q 0 n 0 n hN (Nat.le_refl _) (by rw [upd_same]; exact hc) (by rw [upd_same]; exact hm)
  rw [upd_same] at this
  simpa [Hp.loc] using this
/-- The arm that grows. -/
theorem Emb.grow (E : Emb P ρ h w B) {t u ty e sz : Nat} (ht : P.underlying t = some (.slice e)) (hu : (∃ f, P.underlying u = some (.slice f)) ∨ P.underlying u = some .string) (he : elemOk P e sz = true) {x : Value} {n : Nat} {cs : List AV} {news : List Value}
    (hcs : cs.length = n * sz) (hr : RelL ρ h.nx.num cs news) (h1 : ∀ v ∈ news, v.oneCell' = true) (hx : ∀ w' : World, (Builtin.lenOf x).run P w' = .ok n w') (hfc : ∀ w' : World, w'.heap = w.heap → (Builtin.firstCells sz n x).run P w' = .ok news.toArray w')
    {base : Option Addr} {len cap : Nat} {os : List AV} {olds : List Value} (hol : os.length = len * sz) (hor : RelL ρ h.nx.num os olds) (ho1 : ∀ v ∈ olds, v.oneCell' = true) (hofc : ∀ w' : World, w'.heap = w.heap → (Builtin.firstCells sz len (.slice base len cap)).run P w' = .ok olds.toArray w')
    (hcap : cap < len + n) (hm : len + n ≤ 1000000) (t0 : HT) (ht0 : ∀ r, t0.get r = .no ∨ t0.get r = h.t.get r) {v : V} (hv : ∀ (j : Nat) (hj : j < (os ++ cs).length), v.get j = (os ++ cs)[j]) {k : AV → Hp → Bool}
    (hk : k (.sl h.nx 0 (len + n) (.u 0 (len + n))) (.mk (t0.set (.bk e ((len + n) * sz) v) h.nx) h.nx.succ) = true) : Made P ρ h w B ((Builtin.append_ #[t, u] ty #[.slice base len cap, x]).run P w) k := by
  obtain ⟨z, hz, hrun⟩ := run_app_grow w (ty := ty) ht hu he x n news olds hx (hfc _ rfl) base len cap (hofc _ rfl) hcap hm
  obtain ⟨i, z', hi, hz', hzs', hs, hb⟩ := elemOk_spec he
  have hcells : P.cellsOf e = sz := by simp [Program.cellsOf, hi, hs]
  have hge := grownCap_ge w (len + n) cap e
  have hgm : grownCap w (len + n) cap e ≤ 9223372036854775807 := grownCap_le_maxLen w (len + n) cap e (by unfold maxLen; omega)
  generalize hC : grownCap w (len + n) cap e = C at *
  have hlenL : (os ++ cs).length = (len + n) * sz := by rw [List.length_append, hol, hcs, Nat.add_mul]
  have hlo := hor.length
  have hln := hr.length
  have hsz : (olds.toArray ++ news.toArray ++ Builtin.zeroCells z.cells (C - (len + n))).size = C * sz := by
    simp only [Array.size_append, List.size_toArray, size_zeroCells, hz, ← hlo, ← hln, hol, hcs, ← Nat.add_mul]
    congr 1
    omega
  obtain ⟨a1, a2⟩ := E.cellsNew' t0 ht0 (w' := w.drew.alloc (.cells (olds.toArray ++ news.toArray ++ Builtin.zeroCells z.cells (C - (len + n))) e)) _ e (0, 0) rfl rfl rfl rfl (hor.append hr)
    (fun v hv => (List.mem_append.1 hv).elim (ho1 v) (h1 v))
    (fun j u hu => by
      have hj := (List.getElem?_eq_some_iff.1 hu).1
      have hj2 : j < (olds.toArray ++ news.toArray).size := by simpa using hj
      exact (Array.getElem?_append_left hj2).trans (by simpa using hu))
    (by rw [hsz, ← hor.append hr |>.length, hlenL]; exact Nat.mul_le_mul_right _ hge) C (by rw [hsz, hcells]; exact Nat.le_refl _) (fun o _ => by simp) hv
  rw [hlenL] at a1 a2
  exact ⟨_, _, _, _, _, hrun, a1, a2, rel_newSlice _ _ _ _ _ _ (by show h.nx.num < h.nx.succ.num; rw [Q.num_succ]; omega) hge hgm, hk⟩
theorem HT.get_drop (q : Q) (t : HT) : ∀ r, (HT.set .no q t).get r = .no ∨ (HT.set .no q t).get r = t.get r := fun r => by
  by_cases e : r = q
  · subst e; exact .inl (HT.get_set_same _ _ _)
  · exact .inr (HT.get_set_ne _ _ _ _ e)
theorem apK_sound (E : Emb P ρ h w B) {t u ty e sz : Nat} (ht : P.underlying t = some (.slice e)) (hu : (∃ f, P.underlying u = some (.slice f)) ∨ P.underlying u = some .string) (he : elemOk P e sz = true) {x y : AV} {xv yv : Value} (hx : Rel ρ h.nx.num x xv) (hy : Rel ρ h.nx.num y yv)
    {k : AV → Hp → Bool} (hk : apK e sz x y h k = true) : Made P ρ h w B ((Builtin.append_ #[t, u] ty #[xv, yv]).run P w) k := by
  obtain ⟨n, cs, news, hk2, hcs, hr, h1, hlen, hfc, hnl⟩ := srcK_sound E hy hk
  clear hk
  have hk := hk2
  clear hk2
  obtain ⟨i0, z0, hi0, hz0, hzs0, hs0, hb0⟩ := elemOk_spec he
  have hcells : P.cellsOf e = sz := by simp [Program.cellsOf, hi0, hs0]
  -- nothing is appended
  have zero : ∀ (base : Option Addr) (len cap : Nat), n = 0 → len ≤ cap → (Builtin.append_ #[t, u] ty #[.slice base len cap, yv]).run P w = .ok (.slice base len cap) w := fun base len cap h0 hle => by
    subst h0
    have hn : news = [] := by apply List.eq_nil_of_length_eq_zero; omega
    subst hn
    have := run_app_room w (ty := ty) (base := base) (len := len) (cap := cap) (w' := w) ht hu he yv 0 [] hlen (hfc w rfl) (by omega) ⟨fun a _ => rfl, fun _ => rfl⟩
    simpa using this
  have same : ∀ (base : Option Addr) (len cap : Nat) (x' : AV), n = 0 → len ≤ cap → Rel ρ h.nx.num x' (.slice base len cap) → k x' h = true → Made P ρ h w B ((Builtin.append_ #[t, u] ty #[.slice base len cap, yv]).run P w) k := fun base len cap x' h0 hle hR hk =>
    ⟨x', _, w, ρ, h, zero base len cap h0 hle, E, Step.refl _ _ _, hR, hk⟩
  cases x <;> first | (cases hk; done) | skip
  case ns =>
    cases hx with
    | ns =>
      cases hb : Nat.beq n 0 with
      | true =>
        dsimp only at hk
        rw [hb] at hk
        exact same none 0 0 .ns (Nat.eq_of_beq_eq_true hb) (Nat.le_refl _) .ns hk
      | false =>
        dsimp only at hk
        rw [hb] at hk
        obtain ⟨hm, hk⟩ := ifT_le hk
        obtain ⟨v, hg, hk⟩ := nbK_spec hcs hk
        have hn0 : 0 < n := by
          rcases Nat.eq_zero_or_pos n with h0 | h0
          · rw [h0] at hb; cases hb
          · exact h0
        rw [hcs] at hk
        refine E.grow ht hu he hcs hr h1 hlen hfc (len := 0) (cap := 0) (base := none) (os := []) (olds := []) (by simp) .nil (by simp) (fun w' _ => by simp [Builtin.firstCells]) (by omega) (by omega) h.t (fun _ => .inr rfl) (v := v) hg ?_
        rw [Nat.zero_add]
        exact hk
  case se =>
    cases hx with
    | se a c =>
      cases hb : Nat.beq n 0 with
      | false => dsimp only at hk; rw [hb] at hk; cases hk
      | true =>
        dsimp only at hk
        rw [hb] at hk
        exact same (some a) 0 c .se (Nat.eq_of_beq_eq_true hb) (Nat.zero_le _) (.se a c) hk
  case sl q o n' c =>
    cases hb : Nat.beq n 0 with
    | true =>
      dsimp only at hk
      rw [hb] at hk
      have h0 := Nat.eq_of_beq_eq_true hb
      obtain ⟨hq, ⟨cc, rfl, hc, rfl⟩ | ⟨d, b, rfl, hn, hc, rfl⟩⟩ := hx.sl_inv
      · exact same _ _ _ _ h0 hc (.slk q o n' cc hq hc) hk
      · exact same _ _ _ _ h0 (by omega) (.slu q o n' d b hq hn hc hx.sl_cap) hk
    | false =>
      dsimp only at hk
      rw [hb] at hk
      obtain ⟨hm, hk⟩ := ifT_le hk
      have hm : n' + n ≤ 1000000 := hm
      rw [HT.getR_eq] at hk
      obtain ⟨bty, m, v, hg, hk⟩ := OB.on_spec hk
      have R := E.row q bty m v hg
      have hlive : h.live q := by rw [Hp.live, hg]; simp
      obtain ⟨hq, ⟨cc, rfl, hc, rfl⟩ | ⟨d, b, rfl, hn, hc, rfl⟩⟩ := hx.sl_inv
      · dsimp only at hk
        cases hr2 : Nat.ble (n' + n) cc with
        | true =>
          have hle2 : n' + n ≤ cc := Nat.le_of_ble_eq_true hr2
          have hk : (Bool.casesOn (motive := fun _ => Bool) (Nat.ble (n' + n) cc) _ (ifT (Nat.ble (Nat.add o (Nat.mul (Nat.add n' n) sz)) m) (V.setL cs v (Nat.add o (Nat.mul n' sz)) fun v' => HT.setK (.bk bty m v') q h.t fun t' => k (.sl q o (Nat.add n' n) (.k cc)) (.mk t' h.nx)))) = true := hk
          rw [hr2] at hk
          obtain ⟨hfit, hk⟩ := ifT_le hk
          have hfit : o + (n' + n) * sz ≤ m := hfit
          rw [Nat.add_mul] at hfit
          obtain ⟨v', hk, hin, hout⟩ := V.setL_spec cs v _ _ hk
          rw [HT.setK_eq] at hk
          obtain ⟨a1, a2, a3⟩ := E.write hg (o + n' * sz) hr h1 (by omega) v' hin hout m (.inl rfl) (by omega) (fun sz' hs => by
            obtain ⟨sz'', hs', hbb, _⟩ := R.at_
            rw [hs] at hs'
            cases hs'
            omega)
          refine ⟨_, _, _, _, _, run_app_room w (ty := ty) (cap := cc) ht hu he yv n news hlen (hfc w rfl) (some ⟨(ρ q).blk, (ρ q).base + o, none⟩) n' hle2 ⟨fun a ha => ?_, fun h => by cases h⟩, a2, a3, .slk q o (n' + n) cc hq hle2, hk⟩
          cases ha
          rw [Addr.add_none, Nat.add_assoc]
          exact a1
        | false =>
          have hgt : cc < n' + n := by
            rw [← Bool.not_eq_true, Nat.ble_eq] at hr2
            omega
          have hk : (Bool.casesOn (motive := fun _ => Bool) (Nat.ble (n' + n) cc) (ifT (Nat.ble (Nat.add o (Nat.mul n' sz)) m) (bK o v (Nat.mul n' sz) cs fun v' => HT.setK (.bk e (Nat.mul (Nat.add n' n) sz) v') h.nx h.t fun t' => h.nx.succK fun n'' => k (.sl h.nx 0 (Nat.add n' n) (.u 0 (Nat.add n' n))) (.mk t' n''))) _) = true := hk
          rw [hr2] at hk
          obtain ⟨hfit, hk⟩ := ifT_le hk
          have hfit : o + n' * sz ≤ m := hfit
          obtain ⟨v', hk, hg1, hg2⟩ := bK_spec hk
          have hg1 : ∀ j, j < n' * sz → v'.get j = v.get (o + j) := hg1
          have hg2 : ∀ (j : Nat) (hj : j < cs.length), v'.get (n' * sz + j) = cs[j] := hg2
          rw [HT.setK_eq, Q.succK_eq] at hk
          obtain ⟨olds, hl, hor, ho1, hoc⟩ := E.cells hg o (n' * sz) hfit
          refine E.grow ht hu he hcs hr h1 hlen hfc (V.range_length _ _ _) hor ho1 (fun w' hw' => run_firstCells_some w' sz n' _ n' cc olds hl (fun j u hu => by rw [Addr.add_none]; exact (cell?_of_heap (by rw [hw']) _ _).trans (hoc j u hu))) hgt hm h.t (fun _ => .inr rfl) (v := v') (fun j hj => ?_) hk
          by_cases hjl : j < n' * sz
          · rw [hg1 j hjl, List.getElem_append_left (by rw [V.range_length]; exact hjl), V.range_get]
          · rw [List.length_append, V.range_length] at hj
            rw [List.getElem_append_right (by rw [V.range_length]; omega)]
            have := hg2 (j - n' * sz) (by omega)
            rw [show n' * sz + (j - n' * sz) = j by omega] at this
            rw [this]
            congr 1
            rw [V.range_length]
      · dsimp only at hk
        cases hr2 : Nat.ble (n' + n) b with
        | true =>
          have hle2 : n' + n ≤ b := Nat.le_of_ble_eq_true hr2
          have hk : (Bool.casesOn (motive := fun _ => Bool) (Nat.ble (n' + n) b) _ (ifT (Nat.ble (Nat.add o (Nat.mul (Nat.add n' n) sz)) m) (V.setL cs v (Nat.add o (Nat.mul n' sz)) fun v' => HT.setK (.bk bty m v') q h.t fun t' => k (.sl q o (Nat.add n' n) (.u d b)) (.mk t' h.nx)))) = true := hk
          rw [hr2] at hk
          obtain ⟨hfit, hk⟩ := ifT_le hk
          have hfit : o + (n' + n) * sz ≤ m := hfit
          rw [Nat.add_mul] at hfit
          obtain ⟨v', hk, hin, hout⟩ := V.setL_spec cs v _ _ hk
          rw [HT.setK_eq] at hk
          obtain ⟨a1, a2, a3⟩ := E.write hg (o + n' * sz) hr h1 (by omega) v' hin hout m (.inl rfl) (by omega) (fun sz' hs => by
            obtain ⟨sz'', hs', hbb, _⟩ := R.at_
            rw [hs] at hs'
            cases hs'
            omega)
          refine ⟨_, _, _, _, _, run_app_room w (ty := ty) (cap := (ρ q).cap - d) ht hu he yv n news hlen (hfc w rfl) (some ⟨(ρ q).blk, (ρ q).base + o, none⟩) n' (by omega) ⟨fun a ha => ?_, fun h => by cases h⟩, a2, a3, .slu q o (n' + n) d b hq hle2 hc hx.sl_cap, hk⟩
          cases ha
          rw [Addr.add_none, Nat.add_assoc]
          exact a1
        | false =>
        have hk : (Bool.casesOn (motive := fun _ => Bool) (Nat.ble (n' + n) b) (ifT (Nat.beq bty e) (ifT (Nat.beq o (Nat.mul d sz)) (ifT (Nat.ble (Nat.add o (Nat.mul n' sz)) m) (bK o v (Nat.mul n' sz) cs fun v' =>
          HT.setK .no q h.t fun t0 => HT.setK (.bk e (Nat.mul (Nat.add n' n) sz) v') h.nx t0 fun t' => h.nx.succK fun n'' => k (.sl h.nx 0 (Nat.add n' n) (.u 0 (Nat.add n' n))) (.mk t' n''))))) _) = true := hk
        rw [hr2] at hk
        obtain ⟨hte, hk⟩ := ifT_eq hk
        obtain ⟨hod, hk⟩ := ifT_eq hk
        have hod : o = d * sz := hod
        subst hte
        obtain ⟨hfit, hk⟩ := ifT_le hk
        have hfit : o + n' * sz ≤ m := hfit
        obtain ⟨v', hk, hg1, hg2⟩ := bK_spec hk
        have hg1 : ∀ j, j < n' * sz → v'.get j = v.get (o + j) := hg1
        have hg2 : ∀ (j : Nat) (hj : j < cs.length), v'.get (n' * sz + j) = cs[j] := hg2
        rw [HT.setK_eq, HT.setK_eq, Q.succK_eq] at hk
        obtain ⟨olds, hl, hor, ho1, hoc⟩ := E.cells hg o (n' * sz) hfit
        have hv : ∀ (j : Nat) (hj : j < (v.range (n' * sz) o ++ cs).length), v'.get j = (v.range (n' * sz) o ++ cs)[j] := fun j hj => by
          by_cases hjl : j < n' * sz
          · rw [hg1 j hjl, List.getElem_append_left (by rw [V.range_length]; exact hjl), V.range_get]
          · rw [List.length_append, V.range_length] at hj
            rw [List.getElem_append_right (by rw [V.range_length]; omega)]
            have := hg2 (j - n' * sz) (by omega)
            rw [show n' * sz + (j - n' * sz) = j by omega] at this
            rw [this]
            congr 1
            rw [V.range_length]
        by_cases hroom : n' + n ≤ (ρ q).cap - d
        · -- in place
          obtain ⟨sz', hs', hb1, hb2, hfz⟩ := R.at_
          rw [hcells] at hb2
          have hcapd : d ≤ (ρ q).cap := by omega
          have hmul : ((n' + n) + d) * sz ≤ (ρ q).cap * sz := Nat.mul_le_mul_right _ (by omega)
          rw [Nat.add_mul, Nat.add_mul] at hmul
          have hln := hr.length
          have hcell : ∀ j, j < sz' → (w.cell? ⟨(ρ q).blk, j, none⟩).isSome = true := fun j hj => by
            unfold World.shape? at hs'
            unfold World.cell?
            cases hh : w.heap[(ρ q).blk]? with
            | none => rw [hh] at hs'; cases hs'
            | some ob =>
              rw [hh] at hs'
              cases ob <;> cases hs'
              simp [hj]
          have hst := run_storeCells_cells (P := P) (ρ q).blk ((ρ q).base + o + n' * sz) news 0 w (fun j hj => hcell _ (by omega)) (fun j hj => hfz _ (by omega)) h1
          rw [Nat.add_zero] at hst
          obtain ⟨g1, g2, g3, g4, g5⟩ := World.setCells_other (ρ q).blk news ((ρ q).base + o + n' * sz) w
          have hdrop : ∀ r, (HT.set .no q h.t).get r ≠ .no → r ≠ q ∧ h.live r := fun r hr => by
            by_cases e : r = q
            · subst e; rw [HT.get_set_same] at hr; exact (hr rfl).elim
            · rw [HT.get_set_ne _ _ _ _ e] at hr; exact ⟨e, hr⟩
          have hrow : ∀ ty' m' u', OB.bk bty ((n' + n) * sz) v' = .bk ty' m' u' → RowE P { blk := (ρ q).blk, base := (ρ q).base + o, cap := (ρ q).cap - d } (upd ρ h.nx { blk := (ρ q).blk, base := (ρ q).base + o, cap := (ρ q).cap - d }) h.nx.succ.num (w.setCells (ρ q).blk ((ρ q).base + o + n' * sz) news) ty' m' u' := by
            intro ty' m' u' hb
            injection hb with e1 e2 e3
            subst e1 e2 e3
            have hs2 : (w.setCells (ρ q).blk ((ρ q).base + o + n' * sz) news).shape? (ρ q).blk = some (bty, sz') := (World.shape?_setCells _ _ _ _ _).trans hs'
            refine ⟨⟨sz', hs2, ?_, ?_, fun i hi => by rw [World.frozen?_setCells]; exact hfz i hi⟩, fun i hi => ?_⟩
            · show (ρ q).base + o + (n' + n) * sz ≤ sz'
              rw [Nat.add_mul]
              omega
            · show (ρ q).base + o + ((ρ q).cap - d) * P.cellsOf bty ≤ sz'
              rw [hcells, Nat.sub_mul]
              omega
            · have hme : ∀ r, r.num < h.nx.num → upd ρ h.nx { blk := (ρ q).blk, base := (ρ q).base + o, cap := (ρ q).cap - d } r = ρ r := upd_lt ρ h.nx _
              have hN : h.nx.num ≤ h.nx.succ.num := by rw [Q.num_succ]; omega
              rw [Nat.add_mul] at hi
              by_cases hin : i < n' * sz
              · obtain ⟨y', b1, b2, b3⟩ := R.get (o + i) (by omega)
                refine ⟨y', ?_, ?_, b3⟩
                · show World.cell? _ ⟨(ρ q).blk, (ρ q).base + o + i, none⟩ = _
                  rw [World.cell?_setCells_out _ _ _ _ _ (fun _ _ => by show _ ∨ _; simp only; omega), Nat.add_assoc]
                  exact b1
                · rw [hg1 i hin]; exact b2.mono hme hN
              · have hj : i - n' * sz < news.length := by omega
                have := World.cell?_setCells_in (ρ q).blk news ((ρ q).base + o + n' * sz) w (fun j hj => hcell _ (by omega)) (i - n' * sz) hj
                refine ⟨_, ?_, ?_, h1 _ (List.getElem_mem hj)⟩
                · show World.cell? _ ⟨(ρ q).blk, (ρ q).base + o + i, none⟩ = _
                  rw [show (ρ q).base + o + i = (ρ q).base + o + n' * sz + (i - n' * sz) by omega]
                  exact this
                · have h3 := hg2 (i - n' * sz) (by omega)
                  rw [show n' * sz + (i - n' * sz) = i by omega] at h3
                  rw [h3]
                  exact (hr.get _ (by omega) hj).mono hme hN
          obtain ⟨a1, a2⟩ := E.lay (w' := w.setCells (ρ q).blk ((ρ q).base + o + n' * sz) news) (HT.set .no q h.t) (HT.get_drop q h.t) (.bk bty ((n' + n) * sz) v') (by simp) { blk := (ρ q).blk, base := (ρ q).base + o, cap := (ρ q).cap - d }
            (by rw [g1]; exact Nat.le_refl _) (E.ge q hlive) (fun r hr => g2 _ (fun e => (hdrop r hr).1 (E.inj r q (hdrop r hr).2 hlive e))) (fun r hr e => (hdrop r hr).1 (E.inj r q (hdrop r hr).2 hlive e))
            (fun c _ hc => g2 c (fun e => hc q hlive e.symm)) (.inl ⟨q, hlive, rfl⟩) g3 g4 g5 hrow (fun es hb => by cases hb)
          refine ⟨_, _, _, _, _, run_app_room w (ty := ty) (cap := (ρ q).cap - d) ht hu he yv n news hlen (hfc w rfl) (some ⟨(ρ q).blk, (ρ q).base + o, none⟩) n' hroom ⟨fun a ha => ?_, fun h => by cases h⟩, a1, a2, ?_, hk⟩
          · cases ha
            rw [Addr.add_none]
            exact hst
          · have := Rel.slu (ρ := upd ρ h.nx { blk := (ρ q).blk, base := (ρ q).base + o, cap := (ρ q).cap - d }) (N := h.nx.succ.num) h.nx 0 (n' + n) 0 (n' + n) (by rw [Q.num_succ]; omega) (Nat.le_refl _) (by rw [upd_same]; exact hroom) (by rw [upd_same]; have := hx.sl_cap; show (ρ q).cap - d ≤ _; omega)
            rw [upd_same] at this
            exact this
        · refine E.grow ht hu he hcs hr h1 hlen hfc (V.range_length _ _ _) hor ho1 (fun w' hw' => run_firstCells_some w' sz n' _ n' _ olds hl (fun j u hu => by rw [Addr.add_none]; exact (cell?_of_heap (by rw [hw']) _ _).trans (hoc j u hu))) (by omega) hm (HT.set .no q h.t) (HT.get_drop q h.t) (v := v') hv hk
end
end Go.Proofs.YtmddhlfjilkdfaaGreatDoor
namespace Go.Proofs.YtmddhlfjilkdfaaGreatDoor
set_option linter.unusedVariables false
set_option linter.unusedSimpArgs false

section
variable {P : Program} {ρ : Q → Loc} {h : Hp} {w : World} {B N : Nat}
/-- An operation that leaves the world alone: its value. -/
def Pure1 (ρ : Q → Loc) (N : Nat) (w : World) (r : Result Value) (k : AV → Bool) : Prop := ∃ y v, r = .ok v w ∧ Rel ρ N y v ∧ k y = true

/-! 'pick'. -/
def pkK (c a b : AV) (k : AV → Bool) : Bool := c.on_b fun x => k (Bool.casesOn (motive := fun _ => AV) x b a)
theorem pkK_sound {c a b : AV} {cv av bv : Value} (hc : Rel ρ N c cv) (ha : Rel ρ N a av) (hb : Rel ρ N b bv) {k : AV → Bool} (hk : pkK c a b k = true) (w : World) : ∃ x, (asBool cv).run P w = .ok x w ∧ ∃ y, Rel ρ N y (if x then av else bv) ∧ k y = true := by
  obtain ⟨x, rfl, hk⟩ := AV.on_b_spec hk
  cases hc
  refine ⟨x, rfl, _, ?_, hk⟩
  cases x
  · exact hb
  · exact ha
/-! Not; minus; the complement. -/
def notK (x : AV) (k : AV → Bool) : Bool := x.on_b fun b => k (.b (nb b))
theorem notK_sound {x : AV} {u : Value} (hx : Rel ρ N x u) {k : AV → Bool} (hk : notK x k = true) (w : World) : Pure1 ρ N w ((Op.unary .not u).run P w) k := by
  obtain ⟨b, rfl, hk⟩ := AV.on_b_spec hk
  cases hx
  exact ⟨_, .bool (!b), rfl, by rw [← nb_eq]; exact .b _, hk⟩
def negK (x : AV) (k : AV → Bool) : Bool := x.on_i fun kd a => natK (back kd (Nat.mod (Nat.add 9223372036854775808 (Nat.sub 36893488147419103232 (Nat.mod a (IM kd)))) (IM kd))) fun n => k (.i kd n)
theorem negK_sound {x : AV} {u : Value} (hx : Rel ρ N x u) {k : AV → Bool} (hk : negK x k = true) (w : World) : Pure1 ρ N w ((Op.unary .neg u).run P w) k := by
  obtain ⟨kd, a, rfl, hk⟩ := AV.on_i_spec hk
  cases hx
  have hk2 : ibK .sub kd 9223372036854775808 a k = true := hk
  obtain ⟨y, v, h1, h2, h3⟩ := ibK_sound (P := P) (ρ := ρ) (N := N) hk2 0 w
  rw [run_isub] at h1
  cases h1
  refine ⟨y, _, ?_, h2, h3⟩
  simp [Op.unary, Op.intArith]
/-! A component. -/
noncomputable def exK (x : AV) (i : Nat) (k : AV → Bool) : Bool := x.on_t fun cs => lgetK cs i k
theorem exK_sound {x : AV} {u : Value} (hx : Rel ρ N x u) {i : Nat} {k : AV → Bool} (hk : exK x i k = true) (w : World) : Pure1 ρ N w ((Instr.extract u i).run P w) k := by
  obtain ⟨cs, rfl, hk⟩ := AV.on_t_spec hk
  obtain ⟨hi, hk⟩ := lgetK_spec _ _ _ hk
  cases hx with
  | t _ vs hr =>
    have hl := hr.length
    have hi2 : i < vs.length := by omega
    refine ⟨_, vs[i], ?_, hr.get i hi hi2, hk⟩
    simp [Instr.extract, hi2]
/-! Fields. -/
def faOf (P : Program) (s f : Nat) : Option Nat := match P.underlying s with
  | some (.struct fs) => match fs[f]? with
    | some fd => match P.info? fd.type with
      | some i => if i.size = 0 then none else some fd.offset
      | none => none
    | none => none
  | _ => none
def faK (off : Nat) (x : AV) (k : AV → Bool) : Bool := x.on_p fun q o => k (.p q (Nat.add o off))
theorem faK_sound {s f off : Nat} (hs : faOf P s f = some off) {x : AV} {u : Value} (hx : Rel ρ N x u) {k : AV → Bool} (hk : faK off x k = true) (w : World) : Pure1 ρ N w ((Instr.fieldAt s u f).run P w) k := by
  obtain ⟨q, o, rfl, hk⟩ := AV.on_p_spec hk
  unfold faOf at hs
  split at hs
  case h_2 => cases hs
  rename_i fs hfs
  split at hs
  case h_2 => cases hs
  rename_i fd hfd
  split at hs
  case h_2 => cases hs
  rename_i i hi
  split at hs
  · cases hs
  rename_i hsz
  cases hs
  cases hx with
  | p _ _ hq =>
    refine ⟨_, _, ?_, .p q (o + fd.offset) hq, hk⟩
    simp [Instr.fieldAt, run_underlying hfs, hfd, Instr.sureAddr, fieldPlace, sizeOf, typeInfo, hi, hsz, Addr.add_none, Nat.add_assoc]
def fdOf (P : Program) (s f : Nat) : Option (Nat × Bool × Nat) := match P.underlying s with
  | some (.struct fs) => match fs[f]? with
    | some fd => match aggOf P fd.type with
      | some (g, n) => some (fd.offset, g, n)
      | none => none
    | none => none
  | _ => none
noncomputable def fdK (off : Nat) (g : Bool) (n : Nat) (x : AV) (k : AV → Bool) : Bool := x.on_a fun cs => Bool.casesOn (motive := fun _ => Bool) g (lgetK cs off k) (k (.a (List.take n (List.drop off cs))))
theorem RelL.drop {ρ : Q → Loc} {N : Nat} : ∀ (n : Nat) {x : List AV} {v : List Value}, RelL ρ N x v → RelL ρ N (x.drop n) (v.drop n)
  | 0, _, _, h => h
  | _ + 1, _, _, .nil => .nil
  | n + 1, _, _, .cons _ _ _ _ _ t => RelL.drop n t
theorem RelL.take {ρ : Q → Loc} {N : Nat} : ∀ (n : Nat) {x : List AV} {v : List Value}, RelL ρ N x v → RelL ρ N (x.take n) (v.take n)
  | 0, _, _, _ => by simp only [List.take_zero]; exact .nil
  | _ + 1, _, _, .nil => .nil
  | n + 1, _, _, .cons _ _ _ _ h t => .cons _ _ _ _ h (RelL.take n t)
theorem fdK_sound {s f off n : Nat} {g : Bool} (hs : fdOf P s f = some (off, g, n)) {x : AV} {u : Value} (hx : Rel ρ N x u) {k : AV → Bool} (hk : fdK off g n x k = true) (w : World) : Pure1 ρ N w ((Instr.field s u f).run P w) k := by
  obtain ⟨cs, rfl, hk⟩ := AV.on_a_spec hk
  unfold fdOf at hs
  split at hs
  case h_2 => cases hs
  rename_i fs hfs
  split at hs
  case h_2 => cases hs
  rename_i fd hfd
  split at hs
  case h_2 => cases hs
  rename_i g' n' hag
  simp only [Option.some.injEq, Prod.mk.injEq] at hs
  obtain ⟨rfl, rfl, rfl⟩ := hs
  cases hx with
  | a _ vs hr h1 =>
    cases g' with
    | true =>
      refine ⟨_, .agg ((vs.drop fd.offset).take n').toArray, ?_, .a _ _ ((hr.drop _).take _) (fun v hv => h1 v (List.mem_of_mem_drop (List.mem_of_mem_take hv))), hk⟩
      simp [Instr.field, run_underlying hfs, hfd, asAgg, part, (aggOf_true hag w).1, (aggOf_true hag w).2.1, List.extract]
    | false =>
      obtain ⟨hi, hk⟩ := lgetK_spec _ _ _ hk
      have hl := hr.length
      have hi2 : fd.offset < vs.length := by omega
      refine ⟨_, vs[fd.offset], ?_, hr.get _ hi hi2, hk⟩
      simp [Instr.field, run_underlying hfs, hfd, asAgg, part, (aggOf_false hag w).1, hi2]
/-! Places in a slice, in a text. -/
def iaK (sz : Nat) (x i : AV) (k : AV → Bool) : Bool := idxK i fun i => x.on_sl fun q o n _ => ifT (Nat.blt i n) (k (.p q (Nat.add o (Nat.mul i sz))))
theorem iaK_sound {t e sz : Nat} (ht : P.underlying t = some (.slice e)) (hs : ∀ w, (sizeOf e).run P w = .ok sz w) {x i : AV} {u v : Value} (hx : Rel ρ N x u) (hi : Rel ρ N i v) {k : AV → Bool} (hk : iaK sz x i k = true) (w : World) : Pure1 ρ N w ((Instr.indexAt t u v).run P w) k := by
  obtain ⟨kd, j, rfl, hk2⟩ := idxK_spec hi hk
  obtain ⟨q, o, n, c, rfl, hk3⟩ := AV.on_sl_spec hk2
  obtain ⟨hlt, hk4⟩ := ifT_lt hk3
  have h2 : (0 : Int) ≤ (j : Nat) ∧ ((j : Nat) : Int) < (n : Nat) := by omega
  obtain ⟨hq, ⟨cc, rfl, hc, rfl⟩ | ⟨d, b, rfl, hn, hc, rfl⟩⟩ := hx.sl_inv
  all_goals
    refine ⟨_, _, ?_, .p q (o + j * sz) hq, hk4⟩
    simp only [Instr.indexAt, asIntOf, Sem.run_bind, Sem.run_pure, Result.andThen_ok, run_underlying ht, if_pos h2, hs, Int.toNat_natCast, Addr.add_none, Nat.add_assoc]
noncomputable def ixK (x i : AV) (k : AV → Bool) : Bool := idxK i fun i => x.on_s fun _ l => lgetK l i fun b => k (byteAV b)
theorem rel_byte (ρ : Q → Loc) (N : Nat) (b : Nat) : Rel ρ N (byteAV b) (.int .u8 b) := by
  have := Rel.i (ρ := ρ) (N := N) .u8 (b + 9223372036854775808)
  rw [Int.natCast_add, show (((9223372036854775808 : Nat) : Int)) = 9223372036854775808 from rfl, Int.add_sub_cancel] at this
  exact this
theorem ixK_sound {t : Nat} (ht : P.underlying t = some .string) {x i : AV} {u v : Value} (hx : Rel ρ N x u) (hi : Rel ρ N i v) {k : AV → Bool} (hk : ixK x i k = true) (w : World) : Pure1 ρ N w ((Instr.index t u v).run P w) k := by
  obtain ⟨kd, j, rfl, hk2⟩ := idxK_spec hi hk
  obtain ⟨n, l, rfl, hk3⟩ := AV.on_s_spec hk2
  obtain ⟨hlt, hk4⟩ := lgetK_spec _ _ _ hk3
  cases hx with
  | s s =>
    have hj : j < s.data.toList.length := by simpa using hlt
    have hj2 : j < s.size := by simpa using hj
    have hg : s[j]? = some s[j] := getElem?_pos s j hj2
    refine ⟨_, .int .u8 (s[j]'hj2).toNat, ?_, ?_, hk4⟩
    · simp [Instr.index, asIntOf, run_underlying ht, hg]
    · have e : (s.data.toList.map UInt8.toNat)[j] = (s[j]'hj2).toNat := by
        rw [List.getElem_map]
        rfl
      rw [e]
      exact rel_byte _ _ _
/-! Lengths. -/
def lnS (x : AV) (k : AV → Bool) : Bool := x.on_s fun n _ => k (.i .i64 (Nat.add n 9223372036854775808))
def lnL (x : AV) (k : AV → Bool) : Bool := AV.casesOn (motive_1 := fun _ => Bool) x false (fun _ => false) (fun _ _ => false) (fun _ _ => false) false (fun _ _ => false) (k (.i .i64 9223372036854775808)) (fun _ _ n _ => k (.i .i64 (Nat.add n 9223372036854775808))) (k (.i .i64 9223372036854775808)) (fun _ _ _ => false) false false (fun _ => false) false (fun _ => false) (fun _ => false) (fun _ _ => false) (fun _ => false)
theorem rel_len (ρ : Q → Loc) (N n : Nat) : Rel ρ N (.i .i64 (Nat.add n 9223372036854775808)) (goInt n) := by
  have := Rel.i (ρ := ρ) (N := N) .i64 (n + 9223372036854775808)
  rw [Int.natCast_add, show (((9223372036854775808 : Nat) : Int)) = 9223372036854775808 from rfl, Int.add_sub_cancel] at this
  exact this
theorem lnS_sound {t ty : Nat} (ht : P.underlying t = some .string) {x : AV} {u : Value} (hx : Rel ρ N x u) {k : AV → Bool} (hk : lnS x k = true) (w : World) : Pure1 ρ N w ((Builtin.len_ #[t] ty #[u]).run P w) k := by
  obtain ⟨n, l, rfl, hk⟩ := AV.on_s_spec hk
  cases hx with
  | s s => exact ⟨_, goInt s.size, by simp [Builtin.len_, run_underlying ht], rel_len _ _ _, hk⟩
theorem lnL_sound {t e ty : Nat} (ht : P.underlying t = some (.slice e)) {x : AV} {u : Value} (hx : Rel ρ N x u) {k : AV → Bool} (hk : lnL x k = true) (w : World) : Pure1 ρ N w ((Builtin.len_ #[t] ty #[u]).run P w) k := by
  have h0 : Rel ρ N (.i .i64 9223372036854775808) (goInt 0) := by
    have := rel_len ρ N 0
    exact this
  cases x <;> first | (cases hk; done) | skip
  case ns => cases hx with | ns => exact ⟨_, goInt 0, by simp [Builtin.len_, run_underlying ht], h0, hk⟩
  case se => cases hx with | se a c => exact ⟨_, goInt 0, by simp [Builtin.len_, run_underlying ht], h0, hk⟩
  case sl q o n c =>
    obtain ⟨hq, ⟨cc, rfl, hc, rfl⟩ | ⟨d, b, rfl, hn, hc, rfl⟩⟩ := hx.sl_inv
    · exact ⟨_, goInt n, by simp [Builtin.len_, run_underlying ht], rel_len _ _ _, hk⟩
    · exact ⟨_, goInt n, by simp [Builtin.len_, run_underlying ht], rel_len _ _ _, hk⟩
/-! The smaller, the greater. -/
def mnK (x y : AV) (k : AV → Bool) : Bool := x.on_i fun kd a => y.on_i fun _ b => k (.i kd (Bool.casesOn (motive := fun _ => Nat) (Nat.blt b a) a b))
theorem mnK_sound {ty : Nat} {ts : Array TypeId} {x y : AV} {u v : Value} (hx : Rel ρ N x u) (hy : Rel ρ N y v) {k : AV → Bool} (hk : mnK x y k = true) (w : World) : Pure1 ρ N w ((Builtin.min_ ts ty #[u, v]).run P w) k := by
  obtain ⟨kd, a, rfl, hk2⟩ := AV.on_i_spec hk
  obtain ⟨ke, b, rfl, hk3⟩ := AV.on_i_spec hk2
  cases hx
  cases hy
  refine ⟨_, .int kd (if (b : Int) - 9223372036854775808 < (a : Int) - 9223372036854775808 then (b : Int) - 9223372036854775808 else (a : Int) - 9223372036854775808), ?_, ?_, hk3⟩
  · simp [Builtin.min_, Builtin.min2]
  · by_cases hlt : b < a
    · rw [show Nat.blt b a = true from by rw [Nat.blt_eq]; exact hlt, if_pos (by omega)]; exact .i _ _
    · rw [show Nat.blt b a = false from by rw [← Bool.not_eq_true, Nat.blt_eq]; exact hlt, if_neg (by omega)]; exact .i _ _
/-! Conversions that make nothing. -/
def ciK (dst : IntKind) (x : AV) (k : AV → Bool) : Bool := x.on_i fun _ a => natK (back dst (res dst a)) fun n => k (.i dst n)
theorem ciK_sound {s t : Nat} {sd : TypeDesc} {dst : IntKind} (hs : P.underlying s = some sd) (ht : P.underlying t = some (.int dst)) {x : AV} {u : Value} (hx : Rel ρ N x u) {k : AV → Bool} (hk : ciK dst x k = true) (w : World) : Pure1 ρ N w ((convert s t u).run P w) k := by
  obtain ⟨kd, a, rfl, hk2⟩ := AV.on_i_spec hk
  rw [natK_eq] at hk2
  cases hx
  refine ⟨_, _, ?_, rel_back ρ N dst ((a : Int) - 9223372036854775808) (res dst a) (res_eq dst a), hk2⟩
  simp [convert, run_underlying hs, run_underlying ht, Conv.intToInt]
def csK (x : AV) (k : AV → Bool) : Bool := x.on_s fun n l => k (.s n l)
theorem csK_sound {s t : Nat} (hs : P.underlying s = some .string) (ht : P.underlying t = some .string) {x : AV} {u : Value} (hx : Rel ρ N x u) {k : AV → Bool} (hk : csK x k = true) (w : World) : Pure1 ρ N w ((convert s t u).run P w) k := by
  obtain ⟨n, l, rfl, hk⟩ := AV.on_s_spec hk
  cases hx with
  | s s => exact ⟨_, .string s, by simp [convert, run_underlying hs, run_underlying ht], .s s, hk⟩
end
end Go.Proofs.YtmddhlfjilkdfaaGreatDoor
namespace Go.Proofs.YtmddhlfjilkdfaaGreatDoor
set_option linter.unusedVariables false
set_option linter.unusedSimpArgs false

def lput (off n : Nat) (xs cells : List AV) : List AV := List.append (List.take off cells) (List.append xs (List.drop (Nat.add off n) cells))
noncomputable def bldK (ps : List (Nat × Nat × AV)) : List AV → (List AV → Bool) → Bool :=
  List.rec (motive := fun _ => List AV → (List AV → Bool) → Bool) (fun cells k => k cells) (fun p _ ih cells k => p.2.2.cellsK p.2.1 fun cs => ih (lput p.1 p.2.1 cs cells) k) ps
/-- The parts of a literal. -/
inductive PartsR (ρ : Q → Loc) (N m : Nat) (place : Nat → Option (Nat × Nat)) : List (Nat × Nat × AV) → List (Nat × Value) → Prop
  | nil : PartsR ρ N m place [] []
  | cons (i off sz : Nat) (x : AV) (v : Value) (ps : List (Nat × Nat × AV)) (vs : List (Nat × Value)) (hp : place i = some (off, sz)) (hm : off + sz ≤ m) (h : Rel ρ N x v) (t : PartsR ρ N m place ps vs) : PartsR ρ N m place ((off, sz, x) :: ps) ((i, v) :: vs)
theorem fold_set (off : Nat) : ∀ (vs : List Value) (j0 : Nat) (cells : Array Value), off + j0 + vs.length ≤ cells.size →
    ((vs.zipIdx j0).foldl (fun cs x => cs.setIfInBounds (off + x.2) x.1) cells).toList = cells.toList.take (off + j0) ++ vs ++ cells.toList.drop (off + j0 + vs.length)
  | [], j0, cells, _ => by simp
  | v :: vs, j0, cells, h => by
    simp only [List.length_cons] at h
    rw [List.zipIdx_cons, List.foldl_cons, fold_set off vs (j0 + 1) _ (by simp; omega)]
    have := list_seg_step cells.toList (off + j0) v vs (by simp; omega)
    simpa [Nat.add_assoc, Nat.add_comm 1] using this
section
variable {P : Program} {ρ : Q → Loc} {h : Hp} {w : World} {B N : Nat}
theorem fill_run {m : Nat} {place : Nat → Option (Nat × Nat)} : ∀ {ps : List (Nat × Nat × AV)} {vs : List (Nat × Value)} (cells : List AV) (cv : Array Value) (k : List AV → Bool), PartsR ρ N m place ps vs → RelL ρ N cells cv.toList → (∀ v ∈ cv.toList, v.oneCell' = true) → cv.size = m → bldK ps cells k = true →
    ∃ (cells' : List AV) (cv' : Array Value), Instr.fill place cv vs = some cv' ∧ RelL ρ N cells' cv'.toList ∧ (∀ v ∈ cv'.toList, v.oneCell' = true) ∧ cv'.size = m ∧ k cells' = true
  | _, _, cells, cv, k, .nil, hr, h1, hm, hk => ⟨cells, cv, rfl, hr, h1, hm, hk⟩
  | _, _, cells, cv, k, .cons i off sz x v ps vs hp hle hx t, hr, h1, hm, hk => by
    have hk : x.cellsK sz (fun cs => bldK ps (lput off sz cs cells) k) = true := hk
    obtain ⟨cs, hk, hl, hsz, hrc, hc1⟩ := AV.cellsK_spec hk hx
    have hf := fold_set off v.cells.toList 0 cv (by simp only [Array.length_toList]; omega)
    have hl2 := hrc.length
    simp only [Nat.add_zero] at hf
    have hfold : (v.cells.zipIdx.foldl (fun cs x => cs.setIfInBounds (off + x.2) x.1) cv).toList = cv.toList.take off ++ v.cells.toList ++ cv.toList.drop (off + v.cells.toList.length) := by
      rw [← hf, ← Array.foldl_toList, Array.toList_zipIdx]
    have hR : RelL ρ N (lput off sz cs cells) (v.cells.zipIdx.foldl (fun cs x => cs.setIfInBounds (off + x.2) x.1) cv).toList := by
      rw [hfold, List.append_assoc]
      refine (hr.take off).append (hrc.append ?_)
      have := hr.drop (off + sz)
      rwa [show v.cells.toList.length = sz by simp only [Array.length_toList]; exact hsz]
    have h1' : ∀ u ∈ (v.cells.zipIdx.foldl (fun cs x => cs.setIfInBounds (off + x.2) x.1) cv).toList, u.oneCell' = true := by
      intro u hu
      rw [hfold] at hu
      rcases List.mem_append.1 hu with hu | hu
      · rcases List.mem_append.1 hu with hu | hu
        · exact h1 u (List.mem_of_mem_take hu)
        · exact hc1 u hu
      · exact h1 u (List.mem_of_mem_drop hu)
    have hm' : (v.cells.zipIdx.foldl (fun cs x => cs.setIfInBounds (off + x.2) x.1) cv).size = m := by
      rw [← Array.length_toList, hfold]
      simp only [List.length_append, List.length_take, List.length_drop, Array.length_toList, hm, hsz]
      omega
    obtain ⟨cells', cv', g1, g2, g3, g4, g5⟩ := fill_run _ _ k t hR h1' hm' hk
    refine ⟨cells', cv', ?_, g2, g3, g4, g5⟩
    rw [Instr.fill, hp]
    simp only
    have hc0 : ¬ (v.cells.size ≠ sz ∨ off + v.cells.size > cv.size) := by omega
    rw [if_neg (by simpa using hc0)]
    exact g1
/-- The cells of a type's zero value. -/
def zeroCs (P : Program) (t : TypeId) : List AV := match (P.info? t).bind (·.zero) with
  | some v => v.cells.toList.map cv
  | none => []
/-- Where the parts of a type lie. -/
def placesOf (P : Program) (t : TypeId) (i : Nat) : Option (Nat × Nat) := match P.underlying t with
  | some (.struct fs) => match fs[i]? with
    | some fd => match P.info? fd.type with
      | some j => some (fd.offset, j.size)
      | none => none
    | none => none
  | some (.array _ e) => match P.info? e with
    | some j => some (i * j.size, j.size)
    | none => none
  | _ => none
/-- All that 'build' asks of the type: that its zero value is written out, of single cells, and that the types of its fields are known. -/
def bldOk (P : Program) (t : TypeId) : Bool := (match (P.info? t).bind (·.zero) with
    | some v => v.cells.toList.all Value.oneCell'
    | none => false) &&
  match P.underlying t with
  | some (.struct fs) => fs.toList.all fun fd => (P.info? fd.type).isSome
  | some (.array _ e) => (P.info? e).isSome
  | _ => false
theorem mapM_places {P : Program} : ∀ (fs : List Field), (fs.all fun fd => (P.info? fd.type).isSome) = true → ∀ w : World, (fs.mapM (m := Sem) fun f => do pure (f.offset, ← sizeOf f.type)).run P w = .ok (fs.map fun f => (f.offset, ((P.info? f.type).map (·.size)).getD 0)) w
  | [], _, w => by simp
  | f :: fs, hh, w => by
    simp only [List.all_cons, Bool.and_eq_true] at hh
    obtain ⟨i, hi⟩ := Option.isSome_iff_exists.1 hh.1
    have := mapM_places fs hh.2 w
    have hs : ∀ w : World, (sizeOf f.type).run P w = .ok i.size w := fun w => by simp [sizeOf, typeInfo, hi]
    simp only [List.mapM_cons, Sem.run_bind, hs, Result.andThen_ok, Sem.run_pure, this, List.map_cons, hi, Option.map_some, Option.getD_some]
theorem build_sound {t : Nat} (hok : bldOk P t = true) {ps : List (Nat × Nat × AV)} {parts : Array (Nat × Value)} {m : Nat} (hm : (zeroCs P t).length = m) (hp : PartsR ρ N m (placesOf P t) ps parts.toList) {k : AV → Bool} (hk : bldK ps (zeroCs P t) (fun cs => k (.a cs)) = true) (w : World) : Pure1 ρ N w ((Instr.build t parts).run P w) k := by
  unfold bldOk at hok
  simp only [Bool.and_eq_true] at hok
  obtain ⟨hz, hu⟩ := hok
  cases hzz : (P.info? t).bind (·.zero) with
  | none => rw [hzz] at hz; cases hz
  | some z =>
    rw [hzz] at hz
    have hz1 : ∀ v ∈ z.cells.toList, v.oneCell' = true := fun v hv => List.all_eq_true.1 hz v hv
    have hzc : zeroCs P t = z.cells.toList.map cv := by unfold zeroCs; rw [hzz]
    obtain ⟨i, hi, hiz⟩ := Option.bind_eq_some_iff.1 hzz
    have hsz : z.cells.size = m := by rw [← hm, hzc]; simp
    rw [hzc] at hk
    obtain ⟨cells', cv', g1, g2, g3, g4, g5⟩ := fill_run (ρ := ρ) (N := N) _ z.cells _ hp (relL_cv _ _ _) hz1 hsz hk
    refine ⟨.a cells', .agg cv', ?_, ?_, g5⟩
    · cases hd : P.underlying t with
      | none => rw [hd] at hu; cases hu
      | some d =>
        rw [hd] at hu
        cases d <;> first | (cases hu; done) | skip
        case struct fs =>
          have hpl : (fs.map fun f => (f.offset, ((P.info? f.type).map (·.size)).getD 0) : Array (Nat × Nat)) = fs.map fun f => (f.offset, ((P.info? f.type).map (·.size)).getD 0) := rfl
          have hfun : placesOf P t = fun i => ((fs.map fun f => (f.offset, ((P.info? f.type).map (·.size)).getD 0)) : Array (Nat × Nat))[i]? := by
            funext i
            unfold placesOf
            rw [hd]
            simp only [Array.getElem?_map]
            cases hf : fs[i]? with
            | none => rfl
            | some fd =>
              have hmem : fd ∈ fs.toList := by
                obtain ⟨h1, h2⟩ := Array.getElem?_eq_some_iff.1 hf
                rw [← h2]
                simp
              have := List.all_eq_true.1 hu fd hmem
              obtain ⟨j, hj⟩ := Option.isSome_iff_exists.1 this
              simp [hj]
          rw [hfun] at g1
          have hmm : (fs.mapM (m := Sem) fun f => do pure (f.offset, ← sizeOf f.type)).run P w = .ok (fs.map fun f => (f.offset, ((P.info? f.type).map (·.size)).getD 0)) w := by
            have := mapM_places fs.toList hu w
            rw [← Array.toArray_toList (xs := fs)]
            rw [List.mapM_toArray]
            simp only [Sem.run_map, this, Result.andThen_ok]
            congr 1
            apply Array.ext'
            rw [Array.toList_map]
          have hzv : (zeroValue t).run P w = .ok z w := by simp [zeroValue, typeInfo, hi, hiz]
          simp only [Instr.build, Sem.run_bind, hzv, Result.andThen_ok, run_underlying hd, hmm, g1, Sem.run_pure]
        case array len e =>
          obtain ⟨j, hj⟩ := Option.isSome_iff_exists.1 hu
          have hfun : placesOf P t = fun i => some (i * j.size, j.size) := by
            funext i
            unfold placesOf
            rw [hd]
            simp [hj]
          rw [hfun] at g1
          have hzv : (zeroValue t).run P w = .ok z w := by simp [zeroValue, typeInfo, hi, hiz]
          have hs : (sizeOf e).run P w = .ok j.size w := by simp [sizeOf, typeInfo, hj]
          simp only [Instr.build, Sem.run_bind, hzv, Result.andThen_ok, run_underlying hd, hs, g1, Sem.run_pure]
    · have := Rel.a (ρ := ρ) (N := N) cells' cv'.toList g2 g3
      simpa using this
end
end Go.Proofs.YtmddhlfjilkdfaaGreatDoor
namespace Go.Proofs.YtmddhlfjilkdfaaGreatDoor
set_option linter.unusedVariables false
set_option linter.unusedSimpArgs false

/-- The parts of a slice's literal, one behind the other. -/
inductive DenseR (ρ : Q → Loc) (N : Nat) : Nat → List AV → List (Nat × Value) → Prop
  | nil (i : Nat) : DenseR ρ N i [] []
  | cons (i : Nat) (x : AV) (v : Value) (xs : List AV) (vs : List (Nat × Value)) (h : Rel ρ N x v) (t : DenseR ρ N (i + 1) xs vs) : DenseR ρ N i (x :: xs) ((i, v) :: vs)
noncomputable def catK (sz : Nat) (xs : List AV) : (List AV → Bool) → Bool :=
  List.rec (motive := fun _ => (List AV → Bool) → Bool) (fun k => k []) (fun x _ ih k => x.cellsK sz fun cs => ih fun r => k (List.append cs r)) xs
section
variable {P : Program} {ρ : Q → Loc} {h : Hp} {w : World} {B N : Nat}
theorem cat_fill {s : Nat} : ∀ {i : Nat} {xs : List AV} {vs : List (Nat × Value)} (k : List AV → Bool) (pre : List Value) (cells : Array Value), DenseR ρ N i xs vs → catK s xs k = true → pre.length = i * s → cells.size = (i + xs.length) * s → cells.toList.take (i * s) = pre →
    ∃ (cs : List AV) (us : List Value), k cs = true ∧ RelL ρ N cs us ∧ (∀ u ∈ us, u.oneCell' = true) ∧ cs.length = xs.length * s ∧ Instr.fill (fun i => some (i * s, s)) cells vs = some (pre ++ us).toArray
  | i, _, _, k, pre, cells, .nil _, hk, hpre, hsz, htk => ⟨[], [], hk, .nil, by simp, by simp, by
      have : cells.toList = pre := by
        rw [← htk, List.take_of_length_le]
        simp only [Array.length_toList, hsz, List.length_nil, Nat.add_zero]
        exact Nat.le_refl _
      rw [Instr.fill, List.append_nil, ← this]⟩
  | i, _, _, k, pre, cells, .cons _ x v xs vs hx t, hk, hpre, hsz, htk => by
    have hk : x.cellsK s (fun cs => catK s xs fun r => k (List.append cs r)) = true := hk
    obtain ⟨cs, hk, hl, hvs, hrc, hc1⟩ := AV.cellsK_spec hk hx
    simp only [List.length_cons] at hsz
    have hmul : (i + (xs.length + 1)) * s = i * s + s + xs.length * s := by rw [Nat.add_mul, Nat.add_mul, Nat.one_mul]; omega
    have hfit : i * s + v.cells.size ≤ cells.size := by rw [hsz, hmul, hvs]; omega
    have hf := fold_set (i * s) v.cells.toList 0 cells (by simp only [Array.length_toList]; omega)
    simp only [Nat.add_zero] at hf
    have hfold : (v.cells.zipIdx.foldl (fun cs x => cs.setIfInBounds (i * s + x.2) x.1) cells).toList = cells.toList.take (i * s) ++ v.cells.toList ++ cells.toList.drop (i * s + v.cells.toList.length) := by
      rw [← hf, ← Array.foldl_toList, Array.toList_zipIdx]
    have hlv : v.cells.toList.length = s := by simp only [Array.length_toList]; exact hvs
    generalize hC : v.cells.zipIdx.foldl (fun cs x => cs.setIfInBounds (i * s + x.2) x.1) cells = C at hfold
    have hCsz : C.size = (i + 1 + xs.length) * s := by
      rw [← Array.length_toList, hfold]
      simp only [List.length_append, List.length_take, List.length_drop, Array.length_toList, hvs]
      rw [show (i + 1 + xs.length) * s = i * s + s + xs.length * s by rw [Nat.add_mul, Nat.add_mul, Nat.one_mul], hsz, hmul]
      omega
    obtain ⟨cs', us, g1, g2, g3, g4, g5⟩ := cat_fill (fun r => k (List.append cs r)) (pre ++ v.cells.toList) C t hk (by rw [List.length_append, hpre, hlv, Nat.add_mul, Nat.one_mul]) hCsz (by
      rw [hfold, htk, List.take_append_of_le_length (by rw [List.length_append, hpre, hlv, Nat.add_mul, Nat.one_mul]; exact Nat.le_refl _), List.take_of_length_le (by rw [List.length_append, hpre, hlv, Nat.add_mul, Nat.one_mul]; exact Nat.le_refl _)])
    refine ⟨cs ++ cs', v.cells.toList ++ us, g1, hrc.append g2, fun u hu => (List.mem_append.1 hu).elim (hc1 u) (g3 u), ?_, ?_⟩
    · rw [List.length_append, hl, g4, List.length_cons, Nat.add_mul, Nat.one_mul]; omega
    · rw [Instr.fill]
      simp only
      have hc0 : ¬ (v.cells.size ≠ s ∨ i * s + v.cells.size > cells.size) := by omega
      rw [if_neg (by simpa using hc0), hC, ← List.append_assoc]
      exact g5
/-- 'T{a, b, ..}' of a slice's type. -/
noncomputable def bsK (el sz n m : Nat) (xs : List AV) (h : Hp) (k : AV → Hp → Bool) : Bool := catK sz xs fun cs => nbK el m cs h fun q h' => k (.sl q 0 n (.k n)) h'
theorem bsK_sound (E : Emb P ρ h w B) {t e sz n m : Nat} (ht : P.underlying t = some (.slice e)) (he : elemOk P e sz = true) (hm : m = n * sz) (hsmall : m ≤ 1000000) {xs : List AV} {parts : Array (Nat × Value)} (hl : xs.length = n) (hp : DenseR ρ h.nx.num 0 xs parts.toList)
    {k : AV → Hp → Bool} (hk : bsK e sz n m xs h k = true) : Made P ρ h w B ((Instr.buildSlice t n parts).run P w) k := by
  obtain ⟨i, z, hi, hz, hzs, hs, hb⟩ := elemOk_spec he
  subst hm
  have hcells : P.cellsOf e = sz := by simp [Program.cellsOf, hi, hs]
  obtain ⟨cs, us, g1, g2, g3, g4, g5⟩ := cat_fill _ [] ((Array.range (n * sz)).map (z.cells[· % z.cells.size]!)) hp hk (by simp) (by simp [hl]) (by simp)
  rw [hl] at g4
  obtain ⟨v, hg, hk⟩ := nbK_spec g4 g1
  have hul := g2.length
  simp only [List.nil_append] at g5
  obtain ⟨a1, a2⟩ := E.cellsNew (w' := { w with heap := w.heap.push (.cells us.toArray e (0, 0)) }) us.toArray e (0, 0) rfl rfl rfl rfl g2 g3 (fun j u hu => by simpa using hu) (by simp) n (by rw [hcells]; simp; omega) (fun o _ => by simp) hg
  refine ⟨_, .slice (some ⟨w.heap.size, 0, none⟩) n n, _, _, _, ?_, a1, a2, ?_, hk⟩
  · have hsize : (sizeOf e).run P w = .ok sz w := by simp [sizeOf, typeInfo, hi, hs]
    have hzv : (zeroValue e).run P w = .ok z w := by simp [zeroValue, typeInfo, hi, hz]
    have h24 : ¬ (n * sz > 2 ^ 24) := by omega
    by_cases h0 : n * sz = 0
    · have hus : us = [] := List.eq_nil_of_length_eq_zero (by omega)
      have hr0 : ∀ f : Nat → Value, (Array.range 0).map f = #[] := fun f => by apply Array.ext'; simp
      have hfill : Instr.fill (fun i => some (i * sz, sz)) #[] parts.toList = some us.toArray := by
        rw [h0, hr0] at g5
        exact g5
      simp [Instr.buildSlice, run_underlying ht, hsize, h0, hr0, hfill, newRow]
    · simp [Instr.buildSlice, run_underlying ht, hsize, h24, h0, hzv, g5, newRow]
  · have := Rel.slk (ρ := upd ρ h.nx (Hp.loc w n)) (N := h.nx.succ.num) h.nx 0 n n (by rw [Q.num_succ]; omega) (Nat.le_refl _)
    rw [upd_same] at this
    show Rel _ h.nx.succ.num _ _
    simpa [Hp.loc] using this
end
end Go.Proofs.YtmddhlfjilkdfaaGreatDoor
namespace Go.Proofs.YtmddhlfjilkdfaaGreatDoor
set_option linter.unusedVariables false
set_option linter.unusedSimpArgs false

def sameB (a b : Bool) : Bool := Bool.casesOn (motive := fun _ => Bool) a (nb b) b
theorem sameB_eq (a b : Bool) : sameB a b = (a == b) := by cases a <;> cases b <;> rfl
/-- '==' and '!='. -/
def eqB (op : BinOp) (x : Bool) (k : AV → Bool) : Bool := BinOp.casesOn (motive := fun _ => Bool) op false false false false false false false false false false false (k (.b x)) (k (.b (nb x))) false false false false
/-- nil, of a pointer; a slice; a function; a map. -/
def nilP (x : AV) (k : Bool → Bool) : Bool := AV.casesOn (motive_1 := fun _ => Bool) x false (fun _ => false) (fun _ _ => false) (fun _ _ => false) (k true) (fun _ _ => k false) false (fun _ _ _ _ => false) false (fun _ _ _ => false) false false (fun _ => false) false (fun _ => false) (fun _ => false) (fun _ _ => false) (fun _ => false)
def nilS (x : AV) (k : Bool → Bool) : Bool := AV.casesOn (motive_1 := fun _ => Bool) x false (fun _ => false) (fun _ _ => false) (fun _ _ => false) false (fun _ _ => false) (k true) (fun _ _ _ _ => k false) (k false) (fun _ _ _ => false) false false (fun _ => false) false (fun _ => false) (fun _ => false) (fun _ _ => false) (fun s => Sy.casesOn (motive := fun _ => Bool) s (fun _ => false) (fun _ _ _ => false) (fun _ _ => k false) (fun _ _ _ => k false))
def nilF (x : AV) (k : Bool → Bool) : Bool := AV.casesOn (motive_1 := fun _ => Bool) x false (fun _ => false) (fun _ _ => false) (fun _ _ => false) false (fun _ _ => false) false (fun _ _ _ _ => false) false (fun _ _ _ => k false) (k true) false (fun _ => false) false (fun _ => false) (fun _ => false) (fun _ _ => false) (fun _ => false)
def nilM (x : AV) (k : Bool → Bool) : Bool := AV.casesOn (motive_1 := fun _ => Bool) x false (fun _ => false) (fun _ _ => false) (fun _ _ => false) false (fun _ _ => false) false (fun _ _ _ _ => false) false (fun _ _ _ => false) false (k true) (fun _ => k false) false (fun _ => false) (fun _ => false) (fun _ _ => false) (fun _ => false)
def orB (a b : Bool) : Bool := Bool.casesOn (motive := fun _ => Bool) a b true
def andB (a b : Bool) : Bool := Bool.casesOn (motive := fun _ => Bool) a false b
section
variable {P : Program} {ρ : Q → Loc} {h : Hp} {w : World} {B N : Nat}
theorem eqB_spec {op : BinOp} {x : Bool} {k : AV → Bool} (hk : eqB op x k = true) : (op = .eql ∧ k (.b x) = true) ∨ (op = .neq ∧ k (.b (!x)) = true) := by
  cases op <;> first | (cases hk; done) | exact .inl ⟨rfl, hk⟩ | exact .inr ⟨rfl, by rw [← nb_eq]; exact hk⟩
/-- From '==' to both. -/
theorem eq_both {op : BinOp} {x : Bool} {k : AV → Bool} (hk : eqB op x k = true) (t : TypeId) {u v : Value} (he : (Op.equal t u v).run P w = .ok x w) (hb : ∀ op, op = .eql ∨ op = .neq → binOp op t u v = (match op with | .eql => (do pure (.bool (← Op.equal t u v)) : Sem Value) | _ => (do pure (.bool (!(← Op.equal t u v))) : Sem Value))) : Pure1 ρ N w ((binOp op t u v).run P w) k := by
  rcases eqB_spec hk with ⟨rfl, hk2⟩ | ⟨rfl, hk2⟩
  · rw [hb .eql (.inl rfl)]
    exact ⟨_, .bool x, by simp [he], .b x, hk2⟩
  · rw [hb .neq (.inr rfl)]
    exact ⟨.b (!x), .bool (!x), by simp [he], .b _, hk2⟩
section
variable (d : Nat) {t e : TypeId}
theorem run_eqBool (ht : P.underlying t = some .bool) (a b : Bool) : (Op.equalIn (d + 1) t (.bool a) (.bool b)).run P w = .ok (a == b) w := by simp [Op.equalIn, run_underlying ht]
theorem run_eqPtrN (ht : P.underlying t = some (.pointer e)) (b : Option Addr) : (Op.equalIn (d + 1) t (.pointer none) (.pointer b)).run P w = .ok b.isNone w := by simp [Op.equalIn, run_underlying ht]
theorem run_eqPtrS (ht : P.underlying t = some (.pointer e)) (a : Addr) : (Op.equalIn (d + 1) t (.pointer (some a)) (.pointer none)).run P w = .ok false w := by simp [Op.equalIn, run_underlying ht]
theorem run_eqSlN (ht : P.underlying t = some (.slice e)) (b : Option Addr) (n c n' c' : Nat) : (Op.equalIn (d + 1) t (.slice none n c) (.slice b n' c')).run P w = .ok b.isNone w := by simp [Op.equalIn, run_underlying ht]
theorem run_eqSlS (ht : P.underlying t = some (.slice e)) (a : Addr) (n c n' c' : Nat) : (Op.equalIn (d + 1) t (.slice (some a) n c) (.slice none n' c')).run P w = .ok false w := by simp [Op.equalIn, run_underlying ht]
end
theorem bool_sound {op : BinOp} {a b : Bool} {k : AV → Bool} (hk : eqB op (sameB a b) k = true) {t : TypeId} (ht : P.underlying t = some .bool) : Pure1 ρ N w ((binOp op t (.bool a) (.bool b)).run P w) k :=
  eq_both hk t (by rw [sameB_eq]; exact run_eqBool 9999 ht a b) (fun op ho => by rcases ho with rfl | rfl <;> rfl)
/-- Comparison of a pointer with nil. -/
def npK (op : BinOp) (x y : AV) (k : AV → Bool) : Bool := nilP x fun a => nilP y fun b => ifT (orB a b) (eqB op (andB a b) k)
theorem npK_sound {op : BinOp} {x y : AV} {u v : Value} (hx : Rel ρ N x u) (hy : Rel ρ N y v) {k : AV → Bool} (hk : npK op x y k = true) {t e : TypeId} (ht : P.underlying t = some (.pointer e)) : Pure1 ρ N w ((binOp op t u v).run P w) k := by
  cases hx <;> first | (cases hk; done) | skip
  case np =>
    cases hy <;> first | (cases hk; done) | skip
    case np => exact eq_both (x := true) hk t (run_eqPtrN 9999 ht none) (fun op ho => by rcases ho with rfl | rfl <;> rfl)
    case p q o h => exact eq_both (x := false) hk t (run_eqPtrN 9999 ht _) (fun op ho => by rcases ho with rfl | rfl <;> rfl)
  case p q o h =>
    cases hy <;> first | (cases hk; done) | skip
    case np => exact eq_both (x := false) hk t (run_eqPtrS 9999 ht _) (fun op ho => by rcases ho with rfl | rfl <;> rfl)
def nsK (op : BinOp) (x y : AV) (k : AV → Bool) : Bool := nilS x fun a => nilS y fun b => ifT (orB a b) (eqB op (andB a b) k)
theorem nsK_sound {op : BinOp} {x y : AV} {u v : Value} (hx : Rel ρ N x u) (hy : Rel ρ N y v) {k : AV → Bool} (hk : nsK op x y k = true) {t e : TypeId} (ht : P.underlying t = some (.slice e)) : Pure1 ρ N w ((binOp op t u v).run P w) k := by
  cases hx <;> first | (cases hk; done) | skip
  case ns =>
    cases hy <;> first | (cases hk; done) | skip
    case ns => exact eq_both (x := true) hk t (run_eqSlN 9999 ht none 0 0 0 0) (fun op ho => by rcases ho with rfl | rfl <;> rfl)
    all_goals exact eq_both (x := false) hk t (run_eqSlN 9999 ht _ _ _ _ _) (fun op ho => by rcases ho with rfl | rfl <;> rfl)
  all_goals
    cases hy <;> first | (cases hk; done) | skip
    case ns => exact eq_both (x := false) hk t (run_eqSlS 9999 ht _ _ _ _ _) (fun op ho => by rcases ho with rfl | rfl <;> rfl)
end
end Go.Proofs.YtmddhlfjilkdfaaGreatDoor
namespace Go.Proofs.YtmddhlfjilkdfaaGreatDoor
set_option linter.unusedVariables false
set_option linter.unusedSimpArgs false

/-- A computation that hands one value on, or fails. -/
def Det {α : Type} (f : (α → Bool) → Bool) : Prop := ∃ r : Option α, ∀ k, f k = r.elim false k
def Det2 {α β : Type} (f : (α → β → Bool) → Bool) : Prop := ∃ r : Option (α × β), ∀ k, f k = r.elim false fun p => k p.1 p.2
section
variable {α β γ : Type}
theorem Det.ret (a : α) : Det (fun k => k a) := ⟨some a, fun _ => rfl⟩
theorem Det.fail : Det (fun _ : α → Bool => false) := ⟨none, fun _ => rfl⟩
theorem Det.bind {f : (α → Bool) → Bool} {g : α → (β → Bool) → Bool} (hf : Det f) (hg : ∀ a, Det (g a)) : Det (fun k => f fun a => g a k) := by
  obtain ⟨r, hr⟩ := hf
  cases r with
  | none => exact ⟨none, fun k => hr _⟩
  | some a =>
    obtain ⟨s, hs⟩ := hg a
    exact ⟨s, fun k => (hr _).trans (hs k)⟩
theorem Det.bind2 {f : (α → β → Bool) → Bool} {g : α → β → (γ → Bool) → Bool} (hf : Det2 f) (hg : ∀ a b, Det (g a b)) : Det (fun k => f fun a b => g a b k) := by
  obtain ⟨r, hr⟩ := hf
  cases r with
  | none => exact ⟨none, fun k => hr _⟩
  | some p =>
    obtain ⟨s, hs⟩ := hg p.1 p.2
    exact ⟨s, fun k => (hr _).trans (hs k)⟩
theorem Det2.ret (a : α) (b : β) : Det2 (fun k => k a b) := ⟨some (a, b), fun _ => rfl⟩
theorem Det2.fail : Det2 (fun _ : α → β → Bool => false) := ⟨none, fun _ => rfl⟩
theorem Det.to2 {f : (α → Bool) → Bool} {g : α → (β → γ → Bool) → Bool} (hf : Det f) (hg : ∀ a, Det2 (g a)) : Det2 (fun k => f fun a => g a k) := by
  obtain ⟨r, hr⟩ := hf
  cases r with
  | none => exact ⟨none, fun k => hr _⟩
  | some a =>
    obtain ⟨s, hs⟩ := hg a
    exact ⟨s, fun k => (hr _).trans (hs k)⟩
theorem Det2.bind2 {δ : Type} {f : (α → β → Bool) → Bool} {g : α → β → (γ → δ → Bool) → Bool} (hf : Det2 f) (hg : ∀ a b, Det2 (g a b)) : Det2 (fun k => f fun a b => g a b k) := by
  obtain ⟨r, hr⟩ := hf
  cases r with
  | none => exact ⟨none, fun k => hr _⟩
  | some p =>
    obtain ⟨s, hs⟩ := hg p.1 p.2
    exact ⟨s, fun k => (hr _).trans (hs k)⟩
/-- Its value. -/
theorem Det.val {f : (α → Bool) → Bool} (h : Det f) {k : α → Bool} (hk : f k = true) : ∃ a, (∀ k, f k = k a) ∧ k a = true := by
  obtain ⟨r, hr⟩ := h
  cases r with
  | none => rw [hr k] at hk; cases hk
  | some a => exact ⟨a, hr, (hr k).symm.trans hk⟩
theorem Det2.val {f : (α → β → Bool) → Bool} (h : Det2 f) {k : α → β → Bool} (hk : f k = true) : ∃ a b, (∀ k, f k = k a b) ∧ k a b = true := by
  obtain ⟨r, hr⟩ := h
  cases r with
  | none => rw [hr k] at hk; cases hk
  | some p => exact ⟨p.1, p.2, hr, (hr k).symm.trans hk⟩
end
section
variable {α β : Type}
theorem det_on_p {x : AV} {g : Q → Nat → (α → Bool) → Bool} (hg : ∀ q o, Det (g q o)) : Det (fun k => x.on_p fun q o => g q o k) := by cases x <;> first | exact hg _ _ | exact Det.fail
theorem det2_on_p {x : AV} {g : Q → Nat → (α → β → Bool) → Bool} (hg : ∀ q o, Det2 (g q o)) : Det2 (fun k => x.on_p fun q o => g q o k) := by cases x <;> first | exact hg _ _ | exact Det2.fail
theorem det_ifT {c : Bool} {g : (α → Bool) → Bool} (hg : Det g) : Det (fun k => ifT c (g k)) := by cases c <;> first | exact Det.fail | exact hg
theorem det2_ifT {c : Bool} {g : (α → β → Bool) → Bool} (hg : Det2 g) : Det2 (fun k => ifT c (g k)) := by cases c <;> first | exact Det2.fail | exact hg
theorem det_on {b : OB} {g : Nat → Nat → V → (α → Bool) → Bool} (hg : ∀ a n v, Det (g a n v)) : Det (fun k => b.on fun a n v => g a n v k) := by cases b <;> first | exact hg _ _ _ | exact Det.fail
theorem det2_on {b : OB} {g : Nat → Nat → V → (α → β → Bool) → Bool} (hg : ∀ a n v, Det2 (g a n v)) : Det2 (fun k => b.on fun a n v => g a n v k) := by cases b <;> first | exact hg _ _ _ | exact Det2.fail
end
end Go.Proofs.YtmddhlfjilkdfaaGreatDoor
namespace Go.Proofs.YtmddhlfjilkdfaaGreatDoor
set_option linter.unusedVariables false
set_option linter.unusedSimpArgs false

noncomputable def bytesK (cs : List AV) : (List Nat → Bool) → Bool :=
  List.rec (motive := fun _ => (List Nat → Bool) → Bool) (fun k => k []) (fun c _ ih k => c.on_i fun kd m => IntKind.casesOn (motive := fun _ => Bool) kd false false false false
    (ifT (Nat.ble 9223372036854775808 m) (natK (Nat.sub m 9223372036854775808) fun b => ifT (Nat.blt b 256) (ih fun r => k (b :: r)))) false false false) cs
section
variable {P : Program} {ρ : Q → Loc} {h : Hp} {w : World} {B N : Nat}
theorem bytesK_spec : ∀ {cs : List AV} {vs : List Value} {k : List Nat → Bool}, RelL ρ N cs vs → bytesK cs k = true → ∃ l : List Nat, k l = true ∧ vs = (l.map Int.ofNat).map (Value.int .u8) ∧ (∀ b ∈ l, b < 256) ∧ l.length = cs.length
  | _, _, _, .nil, hk => ⟨[], hk, rfl, by simp, rfl⟩
  | _, _, k, .cons x v xs vs hx t, hk => by
    obtain ⟨kd, m, rfl, hk2⟩ := AV.on_i_spec (show x.on_i _ = true from hk)
    cases kd <;> first | (cases hk2; done) | skip
    obtain ⟨hm, hk3⟩ := ifT_le (show ifT (Nat.ble 9223372036854775808 m) _ = true from hk2)
    rw [natK_eq] at hk3
    have hm' : (m : Int) - 9223372036854775808 = ((Nat.sub m 9223372036854775808 : Nat) : Int) := (Int.natCast_sub hm).symm
    generalize Nat.sub m 9223372036854775808 = b0 at hk3 hm'
    obtain ⟨hlt, hk4⟩ := ifT_lt hk3
    obtain ⟨l, g1, g2, g3, g4⟩ := bytesK_spec t hk4
    cases hx
    refine ⟨b0 :: l, g1, ?_, ?_, by simp [g4]⟩
    · rw [g2, hm']
      rfl
    · intro b hb
      rcases List.mem_cons.1 hb with rfl | hb
      · exact hlt
      · exact g3 b hb
theorem push_bytes : ∀ (l : List Nat) (s : ByteArray), (∀ b ∈ l, b < 256) → ((l.map Int.ofNat).foldl (fun r n => r.push (UInt8.ofNat n.toNat)) s).data.toList.map UInt8.toNat = s.data.toList.map UInt8.toNat ++ l
  | [], s, _ => by simp
  | b :: l, s, hb => by
    simp only [List.map_cons, List.foldl_cons]
    rw [push_bytes l _ (fun x hx => hb x (by simp [hx]))]
    have : b < 256 := hb b (by simp)
    simp [ByteArray.push, Nat.mod_eq_of_lt this]
theorem size_of_map {s : ByteArray} {l : List Nat} (h : s.data.toList.map UInt8.toNat = l) : s.size = l.length := by
  have := congrArg List.length h
  simpa using this
noncomputable def cbK (x : AV) (h : Hp) (k : AV → Bool) : Bool :=
  AV.casesOn (motive_1 := fun _ => Bool) x false (fun _ => false) (fun _ _ => false) (fun _ _ => false) false (fun _ _ => false) (k (.s 0 []))
    (fun q o n _ => (HT.getR q h.t).on fun _ m v => ifT (Nat.ble (Nat.add o n) m) (bytesK (v.range n o) fun l => k (.s n l))) (k (.s 0 []))
    (fun _ _ _ => false) false false (fun _ => false) false (fun _ => false) (fun _ => false) (fun _ _ => false) (fun _ => false)
theorem cbK_sound (E : Emb P ρ h w B) {s t e : Nat} (hs : P.underlying s = some (.slice e)) (he : P.underlying e = some (.int .u8)) (ht : P.underlying t = some .string) {x : AV} {u : Value} (hx : Rel ρ h.nx.num x u) {k : AV → Bool} (hk : cbK x h k = true) : Pure1 ρ h.nx.num w ((convert s t u).run P w) k := by
  have hconv : ∀ (a : Option Addr) (l c : Nat), (convert s t (.slice a l c)).run P w = (Conv.bytesToString (.slice a l c)).run P w := fun a l c => run_convert_bytes_string w s t e a l c hs he ht
  have h0 : Rel ρ h.nx.num (.s 0 []) (.string ByteArray.empty) := rel_s _ rfl rfl
  cases x <;> first | (cases hk; done) | skip
  case ns => cases hx; exact ⟨_, .string .empty, by rw [hconv]; simp [Conv.bytesToString], h0, hk⟩
  case se =>
    cases hx with
    | se a c =>
      refine ⟨_, .string .empty, ?_, h0, hk⟩
      rw [hconv, run_bytesToString w a 0 c [] (by simp [loadCells, loadCellsFrom])]
      rfl
  case sl q o n c =>
    dsimp only [cbK] at hk
    rw [HT.getR_eq] at hk
    obtain ⟨ty, m, v, hg, hk2⟩ := OB.on_spec hk
    obtain ⟨hle, hk3⟩ := ifT_le hk2
    obtain ⟨vs, hl, hr, h1, hc⟩ := E.cells hg o n hle
    obtain ⟨l, hk4, hv, hb, hll⟩ := bytesK_spec hr hk3
    have hrun := run_loadCells_list (P := P) w ⟨(ρ q).blk, (ρ q).base + o, none⟩ vs (fun j u hu => by rw [Addr.add_none]; exact hc j u hu)
    rw [hl, hv] at hrun
    have hp := push_bytes l ByteArray.empty hb
    have hp : _ = l := hp.trans (by simp)
    rw [V.range_length] at hll
    have key : ∀ cap : Nat, ∃ y v, (convert s t (.slice (some ⟨(ρ q).blk, (ρ q).base + o, none⟩) n cap)).run P w = .ok v w ∧ Rel ρ h.nx.num y v ∧ k y = true := fun cap =>
      ⟨_, _, by rw [hconv]; exact run_bytesToString w _ n cap _ hrun, rel_s _ ((size_of_map hp).trans hll) hp, hk4⟩
    obtain ⟨hq, ⟨cc, rfl, _, rfl⟩ | ⟨d, b, rfl, _, _, rfl⟩⟩ := hx.sl_inv
    · exact key _
    · exact key _
end
end Go.Proofs.YtmddhlfjilkdfaaGreatDoor
namespace Go.Proofs.YtmddhlfjilkdfaaGreatDoor
set_option linter.unusedVariables false
set_option linter.unusedSimpArgs false

/-- '[]byte(s)'. -/
noncomputable def sb2K (el : Nat) (x : AV) (h : Hp) (k : AV → Hp → Bool) : Bool := x.on_s fun n l => ifT (Nat.ble n 1000000) (nbK el n (List.map byteAV l) h fun q h' => k (.sl q 0 n (.u 0 n)) h')
section
variable {P : Program} {ρ : Q → Loc} {h : Hp} {w : World} {B N : Nat}
theorem sb2K_sound (E : Emb P ρ h w B) {s t e : Nat} (hs : P.underlying s = some .string) (ht : P.underlying t = some (.slice e)) (he : P.underlying e = some (.int .u8)) (hsz : P.cellsOf e = 1) {x : AV} {u : Value} (hx : Rel ρ h.nx.num x u) {k : AV → Hp → Bool} (hk : sb2K e x h k = true) : Made P ρ h w B ((convert s t u).run P w) k := by
  obtain ⟨n, l, rfl, hk2⟩ := AV.on_s_spec hk
  obtain ⟨hn6, hk2⟩ := ifT_le hk2
  clear hk
  cases hx with
  | s s =>
    have hge := grownCap_ge w s.size 0 e
    have hgm : grownCap w s.size 0 e ≤ 9223372036854775807 := grownCap_le_maxLen w s.size 0 e (by unfold maxLen; omega)
    have hrun := run_bytes_of_string (P := P) w _ _ e s hs ht he
    generalize hC : grownCap w s.size 0 e = C at *
    have hsize : (bytesRow s C).size = C := by
      unfold bytesRow
      simp
      omega
    have hll : (List.map byteAV (s.data.toList.map UInt8.toNat)).length = s.size := by simp
    obtain ⟨v, hg, hk⟩ := nbK_spec hll hk2
    have hr := rel_bytes ρ h.nx.num s.data.toList
    obtain ⟨a1, a2⟩ := E.cellsNew (w' := w.drew.alloc (.cells (bytesRow s C) e ((bytesRow s C).size, (bytesRow s C).size + 1))) (bytesRow s C) e ((bytesRow s C).size, (bytesRow s C).size + 1) rfl rfl rfl rfl hr
      (fun u hu => by obtain ⟨b, _, rfl⟩ := List.mem_map.1 hu; rfl)
      (fun j u hu => by
        have hj := (List.getElem?_eq_some_iff.1 hu).1
        have hj2 : j < s.data.size := by simpa using hj
        rw [bytesRow_at s C j hj2]
        rw [List.getElem?_eq_getElem hj] at hu
        simpa using hu)
      (by rw [hsize]; simpa using hge) C (by rw [hsize, hsz]; omega) (fun o ho => by simp only; omega) hg
    rw [hll] at a1 a2 hk
    exact ⟨_, _, _, _, _, hrun, a1, a2, rel_newSlice _ _ _ _ _ _ (by show h.nx.num < h.nx.succ.num; rw [Q.num_succ]; omega) hge hgm, hk⟩
end
end Go.Proofs.YtmddhlfjilkdfaaGreatDoor
namespace Go.Proofs.YtmddhlfjilkdfaaGreatDoor
set_option linter.unusedVariables false
set_option linter.unusedSimpArgs false

def kN (k : IntKind) : Nat := IntKind.casesOn (motive := fun _ => Nat) k 0 1 2 3 4 5 6 7
theorem kN_inj {a b : IntKind} (h : kN a = kN b) : a = b := by cases a <;> cases b <;> first | rfl | cases h
def ikK (op : BinOp) (x y : AV) (k : AV → Bool) : Bool := x.on_i fun kd a => y.on_i fun ke b => ifT (Nat.beq (kN kd) (kN ke)) (ibK op kd a b k)
def shkK (op : BinOp) (x y : AV) (k : AV → Bool) : Bool := x.on_i fun kd a => y.on_i fun _ b => shK op kd a b k
noncomputable def stK (op : BinOp) (x y : AV) (k : AV → Bool) : Bool := x.on_s fun n l => y.on_s fun m r => sbK op n l m r k
def bbK (op : BinOp) (x y : AV) (k : AV → Bool) : Bool := x.on_b fun a => y.on_b fun b => eqB op (sameB a b) k
/-- An interface's value held against nil. -/
def nilI (x : AV) (k : Bool → Bool) : Bool := AV.casesOn (motive_1 := fun _ => Bool) x false (fun _ => false) (fun _ _ => false) (fun _ _ => false) false (fun _ _ => false) false (fun _ _ _ _ => false) false (fun _ _ _ => false) false false (fun _ => false) (k true) (fun _ => false) (fun _ => false) (fun _ _ => k false) (fun _ => false)
def niK (op : BinOp) (x y : AV) (k : AV → Bool) : Bool := nilI x fun a => nilI y fun b => ifT (orB a b) (eqB op (andB a b) k)
def isC (x : Operand) : Bool := match x with
  | .const _ => true
  | _ => false
section
variable {P : Program} {ρ : Q → Loc} {h : Hp} {w : World} {B N : Nat}
theorem ikK_sound {op : BinOp} {x y : AV} {u v : Value} (hx : Rel ρ N x u) (hy : Rel ρ N y v) {k : AV → Bool} (hk : ikK op x y k = true) (t : TypeId) (w : World) : Pure1 ρ N w ((binOp op t u v).run P w) k := by
  obtain ⟨kd, a, rfl, hk2⟩ := AV.on_i_spec hk
  obtain ⟨ke, b, rfl, hk3⟩ := AV.on_i_spec hk2
  obtain ⟨he, hk4⟩ := ifT_eq hk3
  have := kN_inj he
  subst this
  cases hx
  cases hy
  exact ibK_sound hk4 t w
theorem shkK_sound {op : BinOp} {x y : AV} {u v : Value} (hx : Rel ρ N x u) (hy : Rel ρ N y v) {k : AV → Bool} (hk : shkK op x y k = true) (t : TypeId) (w : World) : Pure1 ρ N w ((binOp op t u v).run P w) k := by
  obtain ⟨kd, a, rfl, hk2⟩ := AV.on_i_spec hk
  obtain ⟨ke, b, rfl, hk3⟩ := AV.on_i_spec hk2
  cases hx
  cases hy
  exact shK_sound hk3 t w
theorem stK_sound {op : BinOp} {x y : AV} {u v : Value} (hx : Rel ρ N x u) (hy : Rel ρ N y v) {k : AV → Bool} (hk : stK op x y k = true) (t : TypeId) (w : World) : Pure1 ρ N w ((binOp op t u v).run P w) k := by
  obtain ⟨n, l, rfl, hk2⟩ := AV.on_s_spec hk
  obtain ⟨m, r, rfl, hk3⟩ := AV.on_s_spec hk2
  exact sbK_sound hx hy hk3 t w
theorem bbK_sound {op : BinOp} {x y : AV} {u v : Value} (hx : Rel ρ N x u) (hy : Rel ρ N y v) {k : AV → Bool} (hk : bbK op x y k = true) {t : TypeId} (ht : P.underlying t = some .bool) (w : World) : Pure1 ρ N w ((binOp op t u v).run P w) k := by
  obtain ⟨a, rfl, hk2⟩ := AV.on_b_spec hk
  obtain ⟨b, rfl, hk3⟩ := AV.on_b_spec hk2
  cases hx
  cases hy
  exact bool_sound hk3 ht
theorem run_eqI0 (d : Nat) {t : TypeId} {ms : Array (String × TypeId)} (ht : P.underlying t = some (.interface ms)) : (Op.equalIn (d + 1) t .nilIface .nilIface).run P w = .ok true w := by simp [Op.equalIn, run_underlying ht]
theorem run_eqI1 (d : Nat) {t : TypeId} {ms : Array (String × TypeId)} (ht : P.underlying t = some (.interface ms)) (a : TypeId) (v : Value) : (Op.equalIn (d + 1) t .nilIface (.iface a v)).run P w = .ok false w := by simp [Op.equalIn, run_underlying ht]
theorem run_eqI2 (d : Nat) {t : TypeId} {ms : Array (String × TypeId)} (ht : P.underlying t = some (.interface ms)) (a : TypeId) (v : Value) : (Op.equalIn (d + 1) t (.iface a v) .nilIface).run P w = .ok false w := by simp [Op.equalIn, run_underlying ht]
theorem niK_sound {op : BinOp} {x y : AV} {u v : Value} (hx : Rel ρ N x u) (hy : Rel ρ N y v) {k : AV → Bool} (hk : niK op x y k = true) {t : TypeId} {ms : Array (String × TypeId)} (ht : P.underlying t = some (.interface ms)) (w : World) : Pure1 ρ N w ((binOp op t u v).run P w) k := by
  cases hx <;> first | (cases hk; done) | skip
  case ni =>
    cases hy <;> first | (cases hk; done) | skip
    case ni => exact eq_both (x := true) hk t (run_eqI0 9999 ht) (fun op ho => by rcases ho with rfl | rfl <;> rfl)
    case e t' x' v' h' => exact eq_both (x := false) hk t (run_eqI1 9999 ht _ _) (fun op ho => by rcases ho with rfl | rfl <;> rfl)
  case e t' x' v' h' =>
    cases hy <;> first | (cases hk; done) | skip
    case ni => exact eq_both (x := false) hk t (run_eqI2 9999 ht _ _) (fun op ho => by rcases ho with rfl | rfl <;> rfl)
end

/-! Structs. -/
/-- A part of an aggregate. -/
noncomputable def paK (P : Program) (t off : Nat) (cs : List AV) (k : AV → Bool) : Bool := match aggOf P t with
  | some (true, n) => k (.a (List.take n (List.drop off cs)))
  | some (false, _) => lgetK cs off k
  | none => false
/-- The fields of two structs, one behind the other, by a comparison 'eq' of single fields. -/
noncomputable def efK (P : Program) (eq : TypeId → AV → AV → (Bool → Bool) → Bool) (xs ys : List AV) (fs : List Field) : (Bool → Bool) → Bool :=
  List.rec (motive := fun _ => (Bool → Bool) → Bool) (fun k => k true)
    (fun f _ ih k => Bool.casesOn (motive := fun _ => Bool) (f.name == "_") (paK P f.type f.offset xs fun a => paK P f.type f.offset ys fun b => eq f.type a b fun r => Bool.casesOn (motive := fun _ => Bool) r (k false) (ih k)) false) fs
noncomputable def eqK (P : Program) (d : Nat) : TypeId → AV → AV → (Bool → Bool) → Bool :=
  Nat.rec (motive := fun _ => TypeId → AV → AV → (Bool → Bool) → Bool) (fun _ _ _ _ => false)
    (fun _ ih t x y k => match P.underlying t with
      | some (.int _) => x.on_i fun kd a => y.on_i fun ke b => ifT (Nat.beq (kN kd) (kN ke)) (k (Nat.beq a b))
      | some .string => osK x y (x.on_s fun _ l => y.on_s fun _ r => k (leq l r)) (k true)
      | some .bool => x.on_b fun a => y.on_b fun b => k (sameB a b)
      | some (.struct fs) => Bool.casesOn (motive := fun _ => Bool) (P.stoodInHeld t) (x.on_a fun xs => y.on_a fun ys => efK P ih xs ys fs.toList k) false
      | _ => false) d
theorem eqK_zero (P : Program) : eqK P 0 = fun _ _ _ _ => false := rfl
theorem eqK_succ (P : Program) (d : Nat) (t : TypeId) (x y : AV) (k : Bool → Bool) : eqK P (d + 1) t x y k = match P.underlying t with
      | some (.int _) => x.on_i fun kd a => y.on_i fun ke b => ifT (Nat.beq (kN kd) (kN ke)) (k (Nat.beq a b))
      | some .string => osK x y (x.on_s fun _ l => y.on_s fun _ r => k (leq l r)) (k true)
      | some .bool => x.on_b fun a => y.on_b fun b => k (sameB a b)
      | some (.struct fs) => Bool.casesOn (motive := fun _ => Bool) (P.stoodInHeld t) (x.on_a fun xs => y.on_a fun ys => efK P (eqK P d) xs ys fs.toList k) false
      | _ => false := rfl
section
variable {P : Program} {ρ : Q → Loc} {h : Hp} {w : World} {B N : Nat}
theorem paK_sound {t off : Nat} {cs : List AV} {vs : List Value} (hr : RelL ρ N cs vs) (h1 : ∀ v ∈ vs, v.oneCell' = true) {k : AV → Bool} (hk : paK P t off cs k = true) (w : World) : Pure1 ρ N w ((part t vs.toArray off).run P w) k := by
  unfold paK at hk
  split at hk
  · rename_i n ha
    refine ⟨_, .agg ((vs.drop off).take n).toArray, ?_, .a _ _ ((hr.drop _).take _) (fun v hv => h1 v (List.mem_of_mem_drop (List.mem_of_mem_take hv))), hk⟩
    simp [part, (aggOf_true ha w).1, (aggOf_true ha w).2.1, List.extract]
  · rename_i n ha
    obtain ⟨hi, hk⟩ := lgetK_spec _ _ _ hk
    have hl := hr.length
    have hi2 : off < vs.length := by omega
    refine ⟨_, vs[off], ?_, hr.get _ hi hi2, hk⟩
    simp [part, (aggOf_false ha w).1, hi2]
  · cases hk
theorem eqK_sound : ∀ {d : Nat} {t : TypeId} {x y : AV} {u v : Value} {k : Bool → Bool}, Rel ρ N x u → Rel ρ N y v → eqK P d t x y k = true → ∀ w : World, ∃ r, (Op.equalIn d t u v).run P w = .ok r w ∧ k r = true
  | 0, _, _, _, _, _, _, _, _, hk, _ => by cases hk
  | d + 1, t, x, y, u, v, k, hx, hy, hk, w => by
    rw [eqK_succ] at hk
    split at hk
    · rename_i kk ht
      obtain ⟨kd, a, rfl, hk2⟩ := AV.on_i_spec hk
      obtain ⟨ke, b, rfl, hk3⟩ := AV.on_i_spec hk2
      obtain ⟨he, hk4⟩ := ifT_eq hk3
      have := kN_inj he
      subst this
      cases hx
      cases hy
      refine ⟨_, run_equalIn_int w d t kd kk _ _ ht, ?_⟩
      have : ((a : Int) - 9223372036854775808 == (b : Int) - 9223372036854775808) = Nat.beq a b := by rw [Bool.eq_iff_iff, beq_iff_eq, Nat.beq_eq]; omega
      rw [this]; exact hk4
    · rename_i ht
      rcases osK_spec hk with ⟨i, rfl, rfl, hk1⟩ | hk
      · cases hx
        cases hy
        exact ⟨_, run_equalIn_string w d t _ _ ht, by rw [beq_self_eq_true]; exact hk1⟩
      obtain ⟨n, l, rfl, hk2⟩ := AV.on_s_spec hk
      obtain ⟨m, r, rfl, hk3⟩ := AV.on_s_spec hk2
      cases hx with
      | s a =>
        cases hy with
        | s b =>
          refine ⟨_, run_equalIn_string w d t a b ht, ?_⟩
          have he : (a.toList == b.toList) = leq (a.data.toList.map UInt8.toNat) (b.data.toList.map UInt8.toNat) := by
            rw [leq_eq, ba_toList, ba_toList, Bool.eq_iff_iff, beq_iff_eq, decide_eq_true_eq]
            exact ⟨fun h => by rw [h], fun h => bytes_inj h⟩
          rw [he]; exact hk3
    · rename_i ht
      obtain ⟨a, rfl, hk2⟩ := AV.on_b_spec hk
      obtain ⟨b, rfl, hk3⟩ := AV.on_b_spec hk2
      cases hx
      cases hy
      exact ⟨_, run_equalIn_bool' w d t a b ht, by rw [← sameB_eq]; exact hk3⟩
    · rename_i fs ht
      cases hp : P.stoodInHeld t with
      | true => rw [hp] at hk; cases hk
      | false =>
        rw [hp] at hk
        obtain ⟨xs, rfl, hk2⟩ := AV.on_a_spec hk
        obtain ⟨ys, rfl, hk3⟩ := AV.on_a_spec hk2
        cases hx with
        | a _ vs hr h1 =>
          cases hy with
          | a _ us hs h2 =>
            have hfs : P.fieldsOf t = fs := by simp only [Program.fieldsOf, ht]
            rw [run_equalIn_agg w d t _ _ (by rw [hfs]; exact ht) hp, hfs]
            have key : ∀ (fl : List Field) (w : World), efK P (eqK P d) xs ys fl k = true → ∃ r, (Op.eqFields d vs.toArray us.toArray fl).run P w = .ok r w ∧ k r = true := by
              intro fl
              induction fl with
              | nil => intro w hh; exact ⟨true, rfl, hh⟩
              | cons f fl ih =>
                intro w hh
                have hh : Bool.casesOn (motive := fun _ => Bool) (f.name == "_") (paK P f.type f.offset xs fun a => paK P f.type f.offset ys fun b => eqK P d f.type a b fun r => Bool.casesOn (motive := fun _ => Bool) r (k false) (efK P (eqK P d) xs ys fl k)) false = true := hh
                cases hn : (f.name == "_") with
                | true => rw [hn] at hh; cases hh
                | false =>
                  rw [hn] at hh
                  have hne : f.name ≠ "_" := by simpa using hn
                  obtain ⟨a, av, e1, ra, hh1⟩ := paK_sound (P := P) hr h1 (show paK P f.type f.offset xs _ = true from hh) w
                  obtain ⟨b, bv, e2, rb, hh2⟩ := paK_sound (P := P) hs h2 hh1 w
                  obtain ⟨r, e3, hh3⟩ := eqK_sound ra rb hh2 w
                  cases r with
                  | false => exact ⟨false, by simp [Op.eqFields, hne, e1, e2, e3], hh3⟩
                  | true =>
                    obtain ⟨r, e4, hh4⟩ := ih w hh3
                    exact ⟨r, by simp [Op.eqFields, hne, e1, e2, e3, e4], hh4⟩
            exact key _ w hk3
    · cases hk
/-- Two structs. -/
noncomputable def sqK (P : Program) (op : BinOp) (t : TypeId) (x y : AV) (k : AV → Bool) : Bool := eqK P 10000 t x y fun r => eqB op r k
theorem sqK_sound {op : BinOp} {x y : AV} {u v : Value} (hx : Rel ρ N x u) (hy : Rel ρ N y v) {t : TypeId} {k : AV → Bool} (hk : sqK P op t x y k = true) (ha : ∃ cs ds, u = .agg cs ∧ v = .agg ds) (w : World) : Pure1 ρ N w ((binOp op t u v).run P w) k := by
  obtain ⟨r, h1, h2⟩ := eqK_sound hx hy hk w
  obtain ⟨cs, ds, rfl, rfl⟩ := ha
  exact eq_both h2 t h1 (fun op ho => by rcases ho with rfl | rfl <;> rfl)

/-! What 'eqGuard' asks. -/
theorem eqGuard_plain (op : BinOp) (t : TypeId) (x y : Operand) (a b : Value) (h1 : a ≠ .nilIface ∨ isC x = true ∨ isC y = true) (h2 : ∀ cs, a ≠ .agg cs) (w : World) : (eqGuard op t x y a b).run P w = .ok () w := by
  unfold eqGuard
  cases op <;> try (simp; done)
  all_goals
    cases a <;> first | (exact absurd rfl (h2 _)) | (cases b <;> simp; done) | skip
    cases b <;> first | (simp; done) | skip
    rcases h1 with h1 | h1 | h1
    · exact absurd rfl h1
    · cases x <;> first | (simp; done) | (cases h1; done)
    · cases y <;> first | (simp; done) | (cases h1; done)
end
end Go.Proofs.YtmddhlfjilkdfaaGreatDoor
namespace Go.Proofs.YtmddhlfjilkdfaaGreatDoor
set_option linter.unusedVariables false
set_option linter.unusedSimpArgs false

/-! The complement. -/
def cpN (k : IntKind) : Nat := IntKind.casesOn (motive := fun _ => Nat) k 9223372036854775807 9223372036854775807 9223372036854775807 9223372036854775807 9223372036854776063 9223372036854841343 9223372041149743103 27670116110564327423
def cplK (x : AV) (k : AV → Bool) : Bool := x.on_i fun kd a => ibK .xor kd (cpN kd) a k
/-! 'nilCheck'. -/
def ncK (x : AV) (k : AV → Bool) : Bool := x.on_p fun q o => k (.p q o)
/-! The greater of two; the least, the greatest of many. -/
def mxK (x y : AV) (k : AV → Bool) : Bool := x.on_i fun kd a => y.on_i fun _ b => k (.i kd (Bool.casesOn (motive := fun _ => Nat) (Nat.blt a b) a b))
noncomputable def mmL (f : AV → AV → (AV → Bool) → Bool) (ys : List AV) : AV → (AV → Bool) → Bool :=
  List.rec (motive := fun _ => AV → (AV → Bool) → Bool) (fun x k => k x) (fun y _ ih x k => f x y fun z => ih z k) ys
/-! Places in arrays. -/
def iapK (len sz : Nat) (x i : AV) (k : AV → Bool) : Bool := idxK i fun i => x.on_p fun q o => ifT (Nat.blt i len) (k (.p q (Nat.add o (Nat.mul i sz))))
def sapK (n sz : Nat) (lo hi : Option AV) (x : AV) (k : AV → Bool) : Bool := x.on_p fun q o => optK hi n fun h => optK lo 0 fun l => ifT (Nat.ble l h) (ifT (Nat.ble h n) (sl3K sz q o l h n k))
/-! Interfaces. -/
def notI (P : Program) (t : TypeId) : Bool := match P.underlying t with
  | some (.interface _) => false
  | some _ => true
  | none => false
/-- 'x.(T)' with a second value, T no interface. -/
def taK (asL : Nat) (z : AV) (x : AV) (k : AV → Bool) : Bool := AV.casesOn (motive_1 := fun _ => Bool) x false (fun _ => false) (fun _ _ => false) (fun _ _ => false) false (fun _ _ => false) false (fun _ _ _ _ => false) false (fun _ _ _ => false) false false (fun _ => false) (k (.t [z, .b false])) (fun _ => false) (fun _ => false)
  (fun t v => Bool.casesOn (motive := fun _ => Bool) (Nat.beq t asL) (k (.t [z, .b false])) (k (.t [v, .b true]))) (fun _ => false)
section
variable {P : Program} {ρ : Q → Loc} {h : Hp} {w : World} {B N : Nat}
theorem cplK_sound {x : AV} {u : Value} (hx : Rel ρ N x u) {k : AV → Bool} (hk : cplK x k = true) (w : World) : Pure1 ρ N w ((Op.unary .xor u).run P w) k := by
  obtain ⟨kd, a, rfl, hk2⟩ := AV.on_i_spec hk
  cases hx
  obtain ⟨y, v, h1, h2, h3⟩ := ibK_sound (P := P) (ρ := ρ) (N := N) (op := .xor) (kd := kd) (a := cpN kd) (b := a) (k := k) hk2 0 w
  refine ⟨y, v, ?_, h2, h3⟩
  rw [← h1]
  have hc : (((cpN kd : Nat) : Int) - 9223372036854775808) = if kd.signed then -1 else kd.max := by cases kd <;> rfl
  rw [hc]
  simp [binOp, Op.unary]
theorem ncK_sound {x : AV} {u : Value} (hx : Rel ρ N x u) {k : AV → Bool} (hk : ncK x k = true) : ∃ (a : Addr) (y : AV), u = .pointer (some a) ∧ Rel ρ N y u ∧ k y = true := by
  obtain ⟨q, o, rfl, hk⟩ := AV.on_p_spec hk
  cases hx with
  | p _ _ hq => exact ⟨_, _, rfl, .p q o hq, hk⟩
theorem mn2_sound {x y : AV} {u v : Value} (hx : Rel ρ N x u) (hy : Rel ρ N y v) {k : AV → Bool} (hk : mnK x y k = true) (w : World) : Pure1 ρ N w ((Builtin.min2 u v).run P w) k := by
  obtain ⟨kd, a, rfl, hk2⟩ := AV.on_i_spec hk
  obtain ⟨ke, b, rfl, hk3⟩ := AV.on_i_spec hk2
  cases hx
  cases hy
  refine ⟨_, .int kd (if (b : Int) - 9223372036854775808 < (a : Int) - 9223372036854775808 then (b : Int) - 9223372036854775808 else (a : Int) - 9223372036854775808), ?_, ?_, hk3⟩
  · simp [Builtin.min2]
  · by_cases hlt : b < a
    · rw [show Nat.blt b a = true from by rw [Nat.blt_eq]; exact hlt, if_pos (by omega)]; exact .i _ _
    · rw [show Nat.blt b a = false from by rw [← Bool.not_eq_true, Nat.blt_eq]; exact hlt, if_neg (by omega)]; exact .i _ _
theorem mx2_sound {x y : AV} {u v : Value} (hx : Rel ρ N x u) (hy : Rel ρ N y v) {k : AV → Bool} (hk : mxK x y k = true) (w : World) : Pure1 ρ N w ((Builtin.max2 u v).run P w) k := by
  obtain ⟨kd, a, rfl, hk2⟩ := AV.on_i_spec hk
  obtain ⟨ke, b, rfl, hk3⟩ := AV.on_i_spec hk2
  cases hx
  cases hy
  refine ⟨_, .int kd (if (b : Int) - 9223372036854775808 > (a : Int) - 9223372036854775808 then (b : Int) - 9223372036854775808 else (a : Int) - 9223372036854775808), ?_, ?_, hk3⟩
  · simp [Builtin.max2]
  · by_cases hlt : a < b
    · rw [show Nat.blt a b = true from by rw [Nat.blt_eq]; exact hlt, if_pos (by omega)]; exact .i _ _
    · rw [show Nat.blt a b = false from by rw [← Bool.not_eq_true, Nat.blt_eq]; exact hlt, if_neg (by omega)]; exact .i _ _
theorem mmL_sound {f : AV → AV → (AV → Bool) → Bool} {g : Value → Value → Sem Value} (w : World) (hf : ∀ {x y : AV} {u v : Value} {k : AV → Bool}, Rel ρ N x u → Rel ρ N y v → f x y k = true → Pure1 ρ N w ((g u v).run P w) k) :
    ∀ {ys : List AV} {vs : List Value} {x : AV} {u : Value} {k : AV → Bool}, RelL ρ N ys vs → Rel ρ N x u → mmL f ys x k = true → Pure1 ρ N w ((vs.foldlM g u).run P w) k
  | _, _, x, u, k, .nil, hx, hk => ⟨x, u, by simp, hx, hk⟩
  | _, _, x, u, k, .cons y v ys vs hy t, hx, hk => by
    obtain ⟨z, r, h1, h2, h3⟩ := hf hx hy (show f x y (fun z => mmL f ys z k) = true from hk)
    obtain ⟨z', r', h4, h5, h6⟩ := mmL_sound w hf t h2 h3
    exact ⟨z', r', by simp [List.foldlM_cons, h1, h4], h5, h6⟩
theorem iapK_sound {t e len sz : Nat} (ht : P.underlying t = some (.array len e)) (hs : ∀ w, (sizeOf e).run P w = .ok sz w) {x i : AV} {u v : Value} (hx : Rel ρ N x u) (hi : Rel ρ N i v) {k : AV → Bool} (hk : iapK len sz x i k = true) (w : World) : Pure1 ρ N w ((Instr.indexAt t u v).run P w) k := by
  obtain ⟨kd, j, rfl, hk2⟩ := idxK_spec hi hk
  obtain ⟨q, o, rfl, hk3⟩ := AV.on_p_spec hk2
  obtain ⟨hlt, hk4⟩ := ifT_lt hk3
  have h2 : (0 : Int) ≤ (j : Nat) ∧ ((j : Nat) : Int) < (len : Nat) := by omega
  cases hx with
  | p _ _ hq =>
    refine ⟨_, _, ?_, .p q (o + j * sz) hq, hk4⟩
    simp only [Instr.indexAt, asIntOf, Instr.sureAddr, Sem.run_bind, Sem.run_pure, Result.andThen_ok, run_underlying ht, if_pos h2, hs, Int.toNat_natCast, Addr.add_none, Nat.add_assoc]
theorem sapK_sound {t e n sz : Nat} (ht : P.underlying t = some (.array n e)) (hs : ∀ w, (sizeOf e).run P w = .ok sz w) {x : AV} {u : Value} {lo hi : Option AV} {lov hiv : Option Value} (hx : Rel ρ N x u) (hlo : RelO ρ N lo lov) (hhi : RelO ρ N hi hiv) {k : AV → Bool} (hk : sapK n sz lo hi x k = true) (w : World) :
    Pure1 ρ N w ((Instr.sliceAt t u lov hiv none).run P w) k := by
  obtain ⟨q, o, rfl, hk1⟩ := AV.on_p_spec hk
  obtain ⟨h, hk2, hh⟩ := opt_of (optK_spec hhi hk1)
  obtain ⟨l, hk3, hl⟩ := opt_of (optK_spec hlo hk2)
  obtain ⟨h1, hk4⟩ := ifT_le hk3
  obtain ⟨h2, hk5⟩ := ifT_le hk4
  cases hx with
  | p _ _ hq =>
    have hb := run_bounds2 (P := P) w false n n h l hh hl h1 h2
    have hrun : (Instr.sliceAt t (.pointer (some ⟨(ρ q).blk, (ρ q).base + o, none⟩)) lov hiv none).run P w = .ok (.slice (some (if n = l then ⟨(ρ q).blk, (ρ q).base + o, none⟩ else (⟨(ρ q).blk, (ρ q).base + o, none⟩ : Addr).add (l * sz))) (h - l) (n - l)) w := by
      simp only [Instr.sliceAt, Sem.run_bind, run_underlying ht, Result.andThen_ok, Instr.sureAddr, Sem.run_pure, hb, hs]
    refine pick_y hrun ?_
    by_cases hml : n = l
    · subst hml
      have hk : (Bool.casesOn (motive := fun _ => Bool) (Nat.beq n n) _ (k (.sl q o (Nat.sub h n) (.k 0)))) = true := hk5
      rw [Nat.beq_refl] at hk
      refine ⟨_, ?_, hk⟩
      rw [if_pos rfl, Nat.sub_self]
      exact .slk q o _ 0 hq (by show h - n ≤ 0; omega)
    · have hb : Nat.beq n l = false := by rw [← Bool.not_eq_true, Nat.beq_eq]; exact hml
      have hk : (Bool.casesOn (motive := fun _ => Bool) (Nat.beq n l) (k (.sl q (Nat.add o (Nat.mul l sz)) (Nat.sub h l) (.k (Nat.sub n l)))) (k (.sl q o (Nat.sub h l) (.k 0)))) = true := hk5
      rw [hb] at hk
      refine ⟨_, ?_, hk⟩
      rw [if_neg hml]
      have := Rel.slk (ρ := ρ) (N := N) q (o + l * sz) (h - l) (n - l) hq (by omega)
      simp only [Addr.add_none, Nat.add_assoc]
      exact this
theorem mi_sound {t : TypeId} (ht : notI P t = true) (v : Value) (w : World) : (Instr.makeInterface t v).run P w = .ok (.iface t v) w := by
  unfold notI at ht
  split at ht
  · cases ht
  · rename_i d h1 h2
    cases d <;> first | exact (h1 _ rfl).elim | simp [Instr.makeInterface, run_underlying h2]
  · cases ht
theorem taK_sound {xt asL : TypeId} (ht : notI P asL = true) {z : Value} (hz : (P.info? asL).bind (·.zero) = some z) {x : AV} {u : Value} (hx : Rel ρ N x u) {k : AV → Bool} (hk : taK asL (zeroOf P asL) x k = true) (w : World) : Pure1 ρ N w ((Instr.typeAssert u xt asL true).run P w) k := by
  have hzr : Rel ρ N (zeroOf P asL) z := by unfold zeroOf; rw [hz]; exact cva_rel _ _ _
  have hzv : (zeroValue asL).run P w = .ok z w := by
    cases hi : P.info? asL with
    | none => rw [hi] at hz; cases hz
    | some i => rw [hi] at hz; have hz : i.zero = some z := hz; simp [zeroValue, typeInfo, hi, hz]
  have hun : ∃ d, P.underlying asL = some d ∧ ∀ ms, d ≠ .interface ms := by
    unfold notI at ht
    split at ht
    · cases ht
    · rename_i d h1 h2
      exact ⟨d, h2, fun ms e => h1 ms (by rw [e])⟩
    · cases ht
  obtain ⟨d, hd, hni⟩ := hun
  have f0 : Pure1 ρ N w (.ok (.tuple #[z, .bool false]) w) k → Pure1 ρ N w ((Instr.typeAssert .nilIface xt asL true).run P w) k := fun H => by
    cases d <;> first | exact (hni _ rfl).elim | (simpa [Instr.typeAssert, run_underlying hd, hzv] using H)
  have f1 : ∀ (t : TypeId) (v : Value), t ≠ asL → Pure1 ρ N w (.ok (.tuple #[z, .bool false]) w) k → Pure1 ρ N w ((Instr.typeAssert (.iface t v) xt asL true).run P w) k := fun t v hne H => by
    cases d <;> first | exact (hni _ rfl).elim | (simpa [Instr.typeAssert, run_underlying hd, hzv, hne] using H)
  have f2 : ∀ (v : Value), Pure1 ρ N w (.ok (.tuple #[v, .bool true]) w) k → Pure1 ρ N w ((Instr.typeAssert (.iface asL v) xt asL true).run P w) k := fun v H => by
    cases d <;> first | exact (hni _ rfl).elim | (simpa [Instr.typeAssert, run_underlying hd] using H)
  cases x <;> first | (cases hk; done) | skip
  case ni =>
    cases hx
    exact f0 ⟨_, _, rfl, .t _ [z, .bool false] (.cons _ _ _ _ hzr (.cons _ _ _ _ (.b _) .nil)), hk⟩
  case e t v =>
    cases hx with
    | e _ _ v' hv =>
      have hk : (Bool.casesOn (motive := fun _ => Bool) (Nat.beq t asL) (k (.t [zeroOf P asL, .b false])) (k (.t [v, .b true]))) = true := hk
      by_cases he : t = asL
      · subst he
        rw [Nat.beq_refl] at hk
        exact f2 v' ⟨_, _, rfl, .t _ [v', .bool true] (.cons _ _ _ _ hv (.cons _ _ _ _ (.b _) .nil)), hk⟩
      · have hb : Nat.beq t asL = false := by rw [← Bool.not_eq_true, Nat.beq_eq]; exact he
        rw [hb] at hk
        exact f1 t v' he ⟨_, _, rfl, .t _ [z, .bool false] (.cons _ _ _ _ hzr (.cons _ _ _ _ (.b _) .nil)), hk⟩
end
end Go.Proofs.YtmddhlfjilkdfaaGreatDoor
