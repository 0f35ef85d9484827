/-
  No claim by itself: the evaluator: the other small operations. | the evaluator: literals of structs, arrays and slices. | the evaluator: literals of slices, make, bytes and texts, functions. | the evaluator: comparisons with nil, of bools; conversions of bytes. | the evaluator: each operation has one value, whatever follows. | the evaluator: bytes to a text. | the evaluator: a text to bytes. | the evaluator: operations of two values, by the type; structs held against each other. No condition.
-/
import Derived.Test.YtpchmdddkpocgaaGreatDoorP3
import Derived.Laws.BytesString
import Derived.Laws.IdiomStrings
import Derived.Laws.StructEq
namespace Go.Proofs.YtpchmdddkpocgaaGreatDoor
set_option linter.unusedVariables false
set_option linter.unusedSimpArgs false
section
variable {P : Program} {ρ : Q → Loc} {h : Hp} {w : World} {B N : Nat}
def Pure1 (ρ : Q → Loc) (N : Nat) (w : World) (r : Result Value) (k : AV → Bool) : Prop := ∃ y v, r = .ok v w ∧ Rel ρ N y v ∧ k y = true
def pkK (c a b : AV) (k : AV → Bool) : Bool := c.on_b fun x => k (Bool.casesOn (motive := fun _ => AV) x b a)
theorem pkK_sound {c a b : AV} {cv av bv : Value} (hc : Rel ρ N c cv) (ha : Rel ρ N a av) (hb : Rel ρ N b bv) {k : AV → Bool} (hk : pkK c a b k = true) (w : World) : ∃ x, (asBool cv).run P w = .ok x w ∧ ∃ y, Rel ρ N y (if x then av else bv) ∧ k y = true := by
 obtain ⟨x, rfl, hk⟩ := AV.on_b_spec hk
 cases hc
 refine ⟨x, rfl, _, ?_, hk⟩
 cases x
 ·exact hb
 ·exact ha
def notK (x : AV) (k : AV → Bool) : Bool := x.on_b fun b => k (.b (nb b))
theorem notK_sound {x : AV} {u : Value} (hx : Rel ρ N x u) {k : AV → Bool} (hk : notK x k = true) (w : World) : Pure1 ρ N w ((Op.unary .not u).run P w) k := by
 obtain ⟨b, rfl, hk⟩ := AV.on_b_spec hk
 cases hx
 exact ⟨_, .bool (!b), rfl, by rw [← nb_eq]; exact .b _, hk⟩
def negK (x : AV) (k : AV → Bool) : Bool := x.on_i fun kd a => natK (back kd (Nat.mod (Nat.add 9223372036854775808 (Nat.sub 36893488147419103232 (Nat.mod a (IM kd)))) (IM kd))) fun n => k (.i kd n)
theorem negK_sound {x : AV} {u : Value} (hx : Rel ρ N x u) {k : AV → Bool} (hk : negK x k = true) (w : World) : Pure1 ρ N w ((Op.unary .neg u).run P w) k := by
 obtain ⟨kd, a, rfl, hk⟩ := AV.on_i_spec hk
 cases hx
 have hk2 : ibK .sub kd 9223372036854775808 a k = true := hk
 obtain ⟨y, v, h1, h2, h3⟩ := ibK_sound (P := P) (ρ := ρ) (N := N) hk2 0 w
 rw [run_isub] at h1
 cases h1
 refine ⟨y, _, ?_, h2, h3⟩
 simp [Op.unary, Op.intArith]
noncomputable def exK (x : AV) (i : Nat) (k : AV → Bool) : Bool := x.on_t fun cs => lgetK cs i k
theorem exK_sound {x : AV} {u : Value} (hx : Rel ρ N x u) {i : Nat} {k : AV → Bool} (hk : exK x i k = true) (w : World) : Pure1 ρ N w ((Instr.extract u i).run P w) k := by
 obtain ⟨cs, rfl, hk⟩ := AV.on_t_spec hk
 obtain ⟨hi, hk⟩ := lgetK_spec _ _ _ hk
 cases hx with
 | t _ vs hr =>
  have hl := hr.length
  have hi2 : i < vs.length := by omega
  refine ⟨_, vs[i], ?_, hr.get i hi hi2, hk⟩
  simp [Instr.extract, hi2]
def faOf (P : Program) (s f : Nat) : Option Nat := match P.underlying s with
 | some (.struct fs) => match fs[f]? with
  | some fd => match P.info? fd.type with
   | some i => if i.size = 0 then none else some fd.offset
   | none => none
  | none => none
 | _ => none
def faK (off : Nat) (x : AV) (k : AV → Bool) : Bool := x.on_p fun q o => k (.p q (Nat.add o off))
theorem faK_sound {s f off : Nat} (hs : faOf P s f = some off) {x : AV} {u : Value} (hx : Rel ρ N x u) {k : AV → Bool} (hk : faK off x k = true) (w : World) : Pure1 ρ N w ((Instr.fieldAt s u f).run P w) k := by
 obtain ⟨q, o, rfl, hk⟩ := AV.on_p_spec hk
 unfold faOf at hs
 split at hs
 case h_2 => cases hs
 rename_i fs hfs
 split at hs
 case h_2 => cases hs
 rename_i fd hfd
 split at hs
 case h_2 => cases hs
 rename_i i hi
 split at hs
 ·cases hs
 rename_i hsz
 cases hs
 cases hx with
 | p _ _ hq =>
  refine ⟨_, _, ?_, .p q (o + fd.offset) hq, hk⟩
  simp [Instr.fieldAt, run_underlying hfs, hfd, Instr.sureAddr, fieldPlace, sizeOf, typeInfo, hi, hsz, Addr.add_none, Nat.add_assoc]
def fdOf (P : Program) (s f : Nat) : Option (Nat × Bool × Nat) := match P.underlying s with
 | some (.struct fs) => match fs[f]? with
  | some fd => match aggOf P fd.type with
   | some (g, n) => some (fd.offset, g, n)
   | none => none
  | none => none
 | _ => none
noncomputable def fdK (off : Nat) (g : Bool) (n : Nat) (x : AV) (k : AV → Bool) : Bool := x.on_a fun cs => Bool.casesOn (motive := fun _ => Bool) g (lgetK cs off k) (k (.a (List.take n (List.drop off cs))))
theorem RelL.drop {ρ : Q → Loc} {N : Nat} : ∀ (n : Nat) {x : List AV} {v : List Value}, RelL ρ N x v → RelL ρ N (x.drop n) (v.drop n)
 | 0, _, _, h => h
 | _ + 1, _, _, .nil => .nil
 | n + 1, _, _, .cons _ _ _ _ _ t => RelL.drop n t
theorem RelL.take {ρ : Q → Loc} {N : Nat} : ∀ (n : Nat) {x : List AV} {v : List Value}, RelL ρ N x v → RelL ρ N (x.take n) (v.take n)
 | 0, _, _, _ => by simp only [List.take_zero]; exact .nil
 | _ + 1, _, _, .nil => .nil
 | n + 1, _, _, .cons _ _ _ _ h t => .cons _ _ _ _ h (RelL.take n t)
theorem fdK_sound {s f off n : Nat} {g : Bool} (hs : fdOf P s f = some (off, g, n)) {x : AV} {u : Value} (hx : Rel ρ N x u) {k : AV → Bool} (hk : fdK off g n x k = true) (w : World) : Pure1 ρ N w ((Instr.field s u f).run P w) k := by
 obtain ⟨cs, rfl, hk⟩ := AV.on_a_spec hk
 unfold fdOf at hs
 split at hs
 case h_2 => cases hs
 rename_i fs hfs
 split at hs
 case h_2 => cases hs
 rename_i fd hfd
 split at hs
 case h_2 => cases hs
 rename_i g' n' hag
 simp only [Option.some.injEq, Prod.mk.injEq] at hs
 obtain ⟨rfl, rfl, rfl⟩ := hs
 cases hx with
 | a _ vs hr h1 =>
  cases g' with
  | true =>
   refine ⟨_, .agg ((vs.drop fd.offset).take n').toArray, ?_, .a _ _ ((hr.drop _).take _) (fun v hv => h1 v (List.mem_of_mem_drop (List.mem_of_mem_take hv))), hk⟩
   simp [Instr.field, run_underlying hfs, hfd, asAgg, part, (aggOf_true hag w).1, (aggOf_true hag w).2.1, List.extract]
  | false =>
   obtain ⟨hi, hk⟩ := lgetK_spec _ _ _ hk
   have hl := hr.length
   have hi2 : fd.offset < vs.length := by omega
   refine ⟨_, vs[fd.offset], ?_, hr.get _ hi hi2, hk⟩
   simp [Instr.field, run_underlying hfs, hfd, asAgg, part, (aggOf_false hag w).1, hi2]
def iaK (sz : Nat) (x i : AV) (k : AV → Bool) : Bool := idxK i fun i => x.on_sl fun q o n _ => ifT (Nat.blt i n) (k (.p q (Nat.add o (Nat.mul i sz))))
theorem iaK_sound {t e sz : Nat} (ht : P.underlying t = some (.slice e)) (hs : ∀ w, (sizeOf e).run P w = .ok sz w) {x i : AV} {u v : Value} (hx : Rel ρ N x u) (hi : Rel ρ N i v) {k : AV → Bool} (hk : iaK sz x i k = true) (w : World) : Pure1 ρ N w ((Instr.indexAt t u v).run P w) k := by
 obtain ⟨kd, j, rfl, hk2⟩ := idxK_spec hi hk
 obtain ⟨q, o, n, c, rfl, hk3⟩ := AV.on_sl_spec hk2
 obtain ⟨hlt, hk4⟩ := ifT_lt hk3
 have h2 : (0 : Int) ≤ (j : Nat) ∧ ((j : Nat) : Int) < (n : Nat) := by omega
 obtain ⟨hq, ⟨cc, rfl, hc, rfl⟩ | ⟨d, b, rfl, hn, hc, rfl⟩⟩ := hx.sl_inv
 all_goals
  refine ⟨_, _, ?_, .p q (o + j * sz) hq, hk4⟩
  simp only [Instr.indexAt, asIntOf, Sem.run_bind, Sem.run_pure, Result.andThen_ok, run_underlying ht, if_pos h2, hs, Int.toNat_natCast, Addr.add_none, Nat.add_assoc]
noncomputable def ixK (x i : AV) (k : AV → Bool) : Bool := idxK i fun i => x.on_s fun _ l => lgetK l i fun b => k (byteAV b)
theorem rel_byte (ρ : Q → Loc) (N : Nat) (b : Nat) : Rel ρ N (byteAV b) (.int .u8 b) := by
 have := Rel.i (ρ := ρ) (N := N) .u8 (b + 9223372036854775808)
 rw [Int.natCast_add, show (((9223372036854775808 : Nat) : Int)) = 9223372036854775808 from rfl, Int.add_sub_cancel] at this
 exact this
theorem ixK_sound {t : Nat} (ht : P.underlying t = some .string) {x i : AV} {u v : Value} (hx : Rel ρ N x u) (hi : Rel ρ N i v) {k : AV → Bool} (hk : ixK x i k = true) (w : World) : Pure1 ρ N w ((Instr.index t u v).run P w) k := by
 obtain ⟨kd, j, rfl, hk2⟩ := idxK_spec hi hk
 obtain ⟨n, l, rfl, hk3⟩ := AV.on_s_spec hk2
 obtain ⟨hlt, hk4⟩ := lgetK_spec _ _ _ hk3
 cases hx with
 | s s =>
  have hj : j < s.data.toList.length := by simpa using hlt
  have hj2 : j < s.size := by simpa using hj
  have hg : s[j]? = some s[j] := getElem?_pos s j hj2
  refine ⟨_, .int .u8 (s[j]'hj2).toNat, ?_, ?_, hk4⟩
  ·simp [Instr.index, asIntOf, run_underlying ht, hg]
  ·have e : (s.data.toList.map UInt8.toNat)[j] = (s[j]'hj2).toNat := by
    rw [List.getElem_map]
    rfl
   rw [e]
   exact rel_byte _ _ _
def lnS (x : AV) (k : AV → Bool) : Bool := x.on_s fun n _ => k (.i .i64 (Nat.add n 9223372036854775808))
def lnL (x : AV) (k : AV → Bool) : Bool := AV.casesOn (motive_1 := fun _ => Bool) x false (fun _ => false) (fun _ _ => false) (fun _ _ => false) false (fun _ _ => false) (k (.i .i64 9223372036854775808)) (fun _ _ n _ => k (.i .i64 (Nat.add n 9223372036854775808))) (k (.i .i64 9223372036854775808)) (fun _ _ _ => false) false false (fun _ => false) false (fun _ => false) (fun _ => false) (fun _ _ => false) (fun _ => false)
theorem rel_len (ρ : Q → Loc) (N n : Nat) : Rel ρ N (.i .i64 (Nat.add n 9223372036854775808)) (goInt n) := by
 have := Rel.i (ρ := ρ) (N := N) .i64 (n + 9223372036854775808)
 rw [Int.natCast_add, show (((9223372036854775808 : Nat) : Int)) = 9223372036854775808 from rfl, Int.add_sub_cancel] at this
 exact this
theorem lnS_sound {t ty : Nat} (ht : P.underlying t = some .string) {x : AV} {u : Value} (hx : Rel ρ N x u) {k : AV → Bool} (hk : lnS x k = true) (w : World) : Pure1 ρ N w ((Builtin.len_ #[t] ty #[u]).run P w) k := by
 obtain ⟨n, l, rfl, hk⟩ := AV.on_s_spec hk
 cases hx with
 | s s => exact ⟨_, goInt s.size, by simp [Builtin.len_, run_underlying ht], rel_len _ _ _, hk⟩
theorem lnL_sound {t e ty : Nat} (ht : P.underlying t = some (.slice e)) {x : AV} {u : Value} (hx : Rel ρ N x u) {k : AV → Bool} (hk : lnL x k = true) (w : World) : Pure1 ρ N w ((Builtin.len_ #[t] ty #[u]).run P w) k := by
 have h0 : Rel ρ N (.i .i64 9223372036854775808) (goInt 0) := by
  have := rel_len ρ N 0
  exact this
 cases x <;> first | (cases hk; done) | skip
 case ns => cases hx with | ns => exact ⟨_, goInt 0, by simp [Builtin.len_, run_underlying ht], h0, hk⟩
 case se => cases hx with | se a c => exact ⟨_, goInt 0, by simp [Builtin.len_, run_underlying ht], h0, hk⟩
 case sl q o n c =>
  obtain ⟨hq, ⟨cc, rfl, hc, rfl⟩ | ⟨d, b, rfl, hn, hc, rfl⟩⟩ := hx.sl_inv
  ·exact ⟨_, goInt n, by simp [Builtin.len_, run_underlying ht], rel_len _ _ _, hk⟩
  ·exact ⟨_, goInt n, by simp [Builtin.len_, run_underlying ht], rel_len _ _ _, hk⟩
def mnK (x y : AV) (k : AV → Bool) : Bool := x.on_i fun kd a => y.on_i fun _ b => k (.i kd (Bool.casesOn (motive := fun _ => Nat) (Nat.blt b a) a b))
def ciK (dst : IntKind) (x : AV) (k : AV → Bool) : Bool := x.on_i fun _ a => natK (back dst (res dst a)) fun n => k (.i dst n)
theorem ciK_sound {s t : Nat} {sd : TypeDesc} {dst : IntKind} (hs : P.underlying s = some sd) (ht : P.underlying t = some (.int dst)) {x : AV} {u : Value} (hx : Rel ρ N x u) {k : AV → Bool} (hk : ciK dst x k = true) (w : World) : Pure1 ρ N w ((convert s t u).run P w) k := by
 obtain ⟨kd, a, rfl, hk2⟩ := AV.on_i_spec hk
 rw [natK_eq] at hk2
 cases hx
 refine ⟨_, _, ?_, rel_back ρ N dst ((a : Int) - 9223372036854775808) (res dst a) (res_eq dst a), hk2⟩
 simp [convert, run_underlying hs, run_underlying ht, Conv.intToInt]
def csK (x : AV) (k : AV → Bool) : Bool := x.on_s fun n l => k (.s n l)
theorem csK_sound {s t : Nat} (hs : P.underlying s = some .string) (ht : P.underlying t = some .string) {x : AV} {u : Value} (hx : Rel ρ N x u) {k : AV → Bool} (hk : csK x k = true) (w : World) : Pure1 ρ N w ((convert s t u).run P w) k := by
 obtain ⟨n, l, rfl, hk⟩ := AV.on_s_spec hk
 cases hx with
 | s s => exact ⟨_, .string s, by simp [convert, run_underlying hs, run_underlying ht], .s s, hk⟩
end
def lput (off n : Nat) (xs cells : List AV) : List AV := List.append (List.take off cells) (List.append xs (List.drop (Nat.add off n) cells))
noncomputable def bldK (ps : List (Nat × Nat × AV)) : List AV → (List AV → Bool) → Bool :=
 List.rec (motive := fun _ => List AV → (List AV → Bool) → Bool) (fun cells k => k cells) (fun p _ ih cells k => p.2.2.cellsK p.2.1 fun cs => ih (lput p.1 p.2.1 cs cells) k) ps
inductive PartsR (ρ : Q → Loc) (N m : Nat) (place : Nat → Option (Nat × Nat)) : List (Nat × Nat × AV) → List (Nat × Value) → Prop
 | nil : PartsR ρ N m place [] []
 | cons (i off sz : Nat) (x : AV) (v : Value) (ps : List (Nat × Nat × AV)) (vs : List (Nat × Value)) (hp : place i = some (off, sz)) (hm : off + sz ≤ m) (h : Rel ρ N x v) (t : PartsR ρ N m place ps vs) : PartsR ρ N m place ((off, sz, x) :: ps) ((i, v) :: vs)
theorem fold_set (off : Nat) : ∀ (vs : List Value) (j0 : Nat) (cells : Array Value), off + j0 + vs.length ≤ cells.size →
  ((vs.zipIdx j0).foldl (fun cs x => cs.setIfInBounds (off + x.2) x.1) cells).toList = cells.toList.take (off + j0) ++ vs ++ cells.toList.drop (off + j0 + vs.length)
 | [], j0, cells, _ => by simp
 | v :: vs, j0, cells, h => by
  simp only [List.length_cons] at h
  rw [List.zipIdx_cons, List.foldl_cons, fold_set off vs (j0 + 1) _ (by simp; omega)]
  have := list_seg_step cells.toList (off + j0) v vs (by simp; omega)
  simpa [Nat.add_assoc, Nat.add_comm 1] using this
section
variable {P : Program} {ρ : Q → Loc} {h : Hp} {w : World} {B N : Nat}
theorem fill_run {m : Nat} {place : Nat → Option (Nat × Nat)} : ∀ {ps : List (Nat × Nat × AV)} {vs : List (Nat × Value)} (cells : List AV) (cv : Array Value) (k : List AV → Bool), PartsR ρ N m place ps vs → RelL ρ N cells cv.toList → (∀ v ∈ cv.toList, v.oneCell' = true) → cv.size = m → bldK ps cells k = true →
  ∃ (cells' : List AV) (cv' : Array Value), Instr.fill place cv vs = some cv' ∧ RelL ρ N cells' cv'.toList ∧ (∀ v ∈ cv'.toList, v.oneCell' = true) ∧ cv'.size = m ∧ k cells' = true
 | _, _, cells, cv, k, .nil, hr, h1, hm, hk => ⟨cells, cv, rfl, hr, h1, hm, hk⟩
 | _, _, cells, cv, k, .cons i off sz x v ps vs hp hle hx t, hr, h1, hm, hk => by
  have hk : x.cellsK sz (fun cs => bldK ps (lput off sz cs cells) k) = true := hk
  obtain ⟨cs, hk, hl, hsz, hrc, hc1⟩ := AV.cellsK_spec hk hx
  have hf := fold_set off v.cells.toList 0 cv (by simp only [Array.length_toList]; omega)
  have hl2 := hrc.length
  simp only [Nat.add_zero] at hf
  have hfold : (v.cells.zipIdx.foldl (fun cs x => cs.setIfInBounds (off + x.2) x.1) cv).toList = cv.toList.take off ++ v.cells.toList ++ cv.toList.drop (off + v.cells.toList.length) := by
   rw [← hf, ← Array.foldl_toList, Array.toList_zipIdx]
  have hR : RelL ρ N (lput off sz cs cells) (v.cells.zipIdx.foldl (fun cs x => cs.setIfInBounds (off + x.2) x.1) cv).toList := by
   rw [hfold, List.append_assoc]
   refine (hr.take off).append (hrc.append ?_)
   have := hr.drop (off + sz)
   rwa [show v.cells.toList.length = sz by simp only [Array.length_toList]; exact hsz]
  have h1' : ∀ u ∈ (v.cells.zipIdx.foldl (fun cs x => cs.setIfInBounds (off + x.2) x.1) cv).toList, u.oneCell' = true := by
   intro u hu
   rw [hfold] at hu
   rcases List.mem_append.1 hu with hu | hu
   ·rcases List.mem_append.1 hu with hu | hu
    ·exact h1 u (List.mem_of_mem_take hu)
    ·exact hc1 u hu
   ·exact h1 u (List.mem_of_mem_drop hu)
  have hm' : (v.cells.zipIdx.foldl (fun cs x => cs.setIfInBounds (off + x.2) x.1) cv).size = m := by
   rw [← Array.length_toList, hfold]
   simp only [List.length_append, List.length_take, List.length_drop, Array.length_toList, hm, hsz]
   omega
  obtain ⟨cells', cv', g1, g2, g3, g4, g5⟩ := fill_run _ _ k t hR h1' hm' hk
  refine ⟨cells', cv', ?_, g2, g3, g4, g5⟩
  rw [Instr.fill, hp]
  simp only
  have hc0 : ¬ (v.cells.size ≠ sz ∨ off + v.cells.size > cv.size) := by omega
  rw [if_neg (by simpa using hc0)]
  exact g1
def zeroCs (P : Program) (t : TypeId) : List AV := match (P.info? t).bind (·.zero) with
 | some v => v.cells.toList.map cv
 | none => []
def placesOf (P : Program) (t : TypeId) (i : Nat) : Option (Nat × Nat) := match P.underlying t with
 | some (.struct fs) => match fs[i]? with
  | some fd => match P.info? fd.type with
   | some j => some (fd.offset, j.size)
   | none => none
  | none => none
 | some (.array _ e) => match P.info? e with
  | some j => some (i * j.size, j.size)
  | none => none
 | _ => none
def bldOk (P : Program) (t : TypeId) : Bool := (match (P.info? t).bind (·.zero) with
  | some v => v.cells.toList.all Value.oneCell'
  | none => false) &&
 match P.underlying t with
 | some (.struct fs) => fs.toList.all fun fd => (P.info? fd.type).isSome
 | some (.array _ e) => (P.info? e).isSome
 | _ => false
theorem mapM_places {P : Program} : ∀ (fs : List Field), (fs.all fun fd => (P.info? fd.type).isSome) = true → ∀ w : World, (fs.mapM (m := Sem) fun f => do pure (f.offset, ← sizeOf f.type)).run P w = .ok (fs.map fun f => (f.offset, ((P.info? f.type).map (·.size)).getD 0)) w
 | [], _, w => by simp
 | f :: fs, hh, w => by
  simp only [List.all_cons, Bool.and_eq_true] at hh
  obtain ⟨i, hi⟩ := Option.isSome_iff_exists.1 hh.1
  have := mapM_places fs hh.2 w
  have hs : ∀ w : World, (sizeOf f.type).run P w = .ok i.size w := fun w => by simp [sizeOf, typeInfo, hi]
  simp only [List.mapM_cons, Sem.run_bind, hs, Result.andThen_ok, Sem.run_pure, this, List.map_cons, hi, Option.map_some, Option.getD_some]
theorem build_sound {t : Nat} (hok : bldOk P t = true) {ps : List (Nat × Nat × AV)} {parts : Array (Nat × Value)} {m : Nat} (hm : (zeroCs P t).length = m) (hp : PartsR ρ N m (placesOf P t) ps parts.toList) {k : AV → Bool} (hk : bldK ps (zeroCs P t) (fun cs => k (.a cs)) = true) (w : World) : Pure1 ρ N w ((Instr.build t parts).run P w) k := by
 unfold bldOk at hok
 simp only [Bool.and_eq_true] at hok
 obtain ⟨hz, hu⟩ := hok
 cases hzz : (P.info? t).bind (·.zero) with
 | none => rw [hzz] at hz; cases hz
 | some z =>
  rw [hzz] at hz
  have hz1 : ∀ v ∈ z.cells.toList, v.oneCell' = true := fun v hv => List.all_eq_true.1 hz v hv
  have hzc : zeroCs P t = z.cells.toList.map cv := by unfold zeroCs; rw [hzz]
  obtain ⟨i, hi, hiz⟩ := Option.bind_eq_some_iff.1 hzz
  have hsz : z.cells.size = m := by rw [← hm, hzc]; simp
  rw [hzc] at hk
  obtain ⟨cells', cv', g1, g2, g3, g4, g5⟩ := fill_run (ρ := ρ) (N := N) _ z.cells _ hp (relL_cv _ _ _) hz1 hsz hk
  refine ⟨.a cells', .agg cv', ?_, ?_, g5⟩
  ·cases hd : P.underlying t with
   | none => rw [hd] at hu; cases hu
   | some d =>
    rw [hd] at hu
    cases d <;> first | (cases hu; done) | skip
    case struct fs =>
     have hpl : (fs.map fun f => (f.offset, ((P.info? f.type).map (·.size)).getD 0) : Array (Nat × Nat)) = fs.map fun f => (f.offset, ((P.info? f.type).map (·.size)).getD 0) := rfl
     have hfun : placesOf P t = fun i => ((fs.map fun f => (f.offset, ((P.info? f.type).map (·.size)).getD 0)) : Array (Nat × Nat))[i]? := by
      funext i
      unfold placesOf
      rw [hd]
      simp only [Array.getElem?_map]
      cases hf : fs[i]? with
      | none => rfl
      | some fd =>
       have hmem : fd ∈ fs.toList := by
        obtain ⟨h1, h2⟩ := Array.getElem?_eq_some_iff.1 hf
        rw [← h2]
        simp
       have := List.all_eq_true.1 hu fd hmem
       obtain ⟨j, hj⟩ := Option.isSome_iff_exists.1 this
       simp [hj]
     rw [hfun] at g1
     have hmm : (fs.mapM (m := Sem) fun f => do pure (f.offset, ← sizeOf f.type)).run P w = .ok (fs.map fun f => (f.offset, ((P.info? f.type).map (·.size)).getD 0)) w := by
      have := mapM_places fs.toList hu w
      rw [← Array.toArray_toList (xs := fs)]
      rw [List.mapM_toArray]
      simp only [Sem.run_map, this, Result.andThen_ok]
      congr 1
      apply Array.ext'
      rw [Array.toList_map]
     have hzv : (zeroValue t).run P w = .ok z w := by simp [zeroValue, typeInfo, hi, hiz]
     simp only [Instr.build, Sem.run_bind, hzv, Result.andThen_ok, run_underlying hd, hmm, g1, Sem.run_pure]
    case array len e =>
     obtain ⟨j, hj⟩ := Option.isSome_iff_exists.1 hu
     have hfun : placesOf P t = fun i => some (i * j.size, j.size) := by
      funext i
      unfold placesOf
      rw [hd]
      simp [hj]
     rw [hfun] at g1
     have hzv : (zeroValue t).run P w = .ok z w := by simp [zeroValue, typeInfo, hi, hiz]
     have hs : (sizeOf e).run P w = .ok j.size w := by simp [sizeOf, typeInfo, hj]
     simp only [Instr.build, Sem.run_bind, hzv, Result.andThen_ok, run_underlying hd, hs, g1, Sem.run_pure]
  ·have := Rel.a (ρ := ρ) (N := N) cells' cv'.toList g2 g3
   simpa using this
end
inductive DenseR (ρ : Q → Loc) (N : Nat) : Nat → List AV → List (Nat × Value) → Prop
 | nil (i : Nat) : DenseR ρ N i [] []
 | cons (i : Nat) (x : AV) (v : Value) (xs : List AV) (vs : List (Nat × Value)) (h : Rel ρ N x v) (t : DenseR ρ N (i + 1) xs vs) : DenseR ρ N i (x :: xs) ((i, v) :: vs)
noncomputable def catK (sz : Nat) (xs : List AV) : (List AV → Bool) → Bool :=
 List.rec (motive := fun _ => (List AV → Bool) → Bool) (fun k => k []) (fun x _ ih k => x.cellsK sz fun cs => ih fun r => k (List.append cs r)) xs
section
variable {P : Program} {ρ : Q → Loc} {h : Hp} {w : World} {B N : Nat}
theorem cat_fill {s : Nat} : ∀ {i : Nat} {xs : List AV} {vs : List (Nat × Value)} (k : List AV → Bool) (pre : List Value) (cells : Array Value), DenseR ρ N i xs vs → catK s xs k = true → pre.length = i * s → cells.size = (i + xs.length) * s → cells.toList.take (i * s) = pre →
  ∃ (cs : List AV) (us : List Value), k cs = true ∧ RelL ρ N cs us ∧ (∀ u ∈ us, u.oneCell' = true) ∧ cs.length = xs.length * s ∧ Instr.fill (fun i => some (i * s, s)) cells vs = some (pre ++ us).toArray
 | i, _, _, k, pre, cells, .nil _, hk, hpre, hsz, htk => ⟨[], [], hk, .nil, by simp, by simp, by
   have : cells.toList = pre := by
    rw [← htk, List.take_of_length_le]
    simp only [Array.length_toList, hsz, List.length_nil, Nat.add_zero]
    exact Nat.le_refl _
   rw [Instr.fill, List.append_nil, ← this]⟩
 | i, _, _, k, pre, cells, .cons _ x v xs vs hx t, hk, hpre, hsz, htk => by
  have hk : x.cellsK s (fun cs => catK s xs fun r => k (List.append cs r)) = true := hk
  obtain ⟨cs, hk, hl, hvs, hrc, hc1⟩ := AV.cellsK_spec hk hx
  simp only [List.length_cons] at hsz
  have hmul : (i + (xs.length + 1)) * s = i * s + s + xs.length * s := by rw [Nat.add_mul, Nat.add_mul, Nat.one_mul]; omega
  have hfit : i * s + v.cells.size ≤ cells.size := by rw [hsz, hmul, hvs]; omega
  have hf := fold_set (i * s) v.cells.toList 0 cells (by simp only [Array.length_toList]; omega)
  simp only [Nat.add_zero] at hf
  have hfold : (v.cells.zipIdx.foldl (fun cs x => cs.setIfInBounds (i * s + x.2) x.1) cells).toList = cells.toList.take (i * s) ++ v.cells.toList ++ cells.toList.drop (i * s + v.cells.toList.length) := by
   rw [← hf, ← Array.foldl_toList, Array.toList_zipIdx]
  have hlv : v.cells.toList.length = s := by simp only [Array.length_toList]; exact hvs
  generalize hC : v.cells.zipIdx.foldl (fun cs x => cs.setIfInBounds (i * s + x.2) x.1) cells = C at hfold
  have hCsz : C.size = (i + 1 + xs.length) * s := by
   rw [← Array.length_toList, hfold]
   simp only [List.length_append, List.length_take, List.length_drop, Array.length_toList, hvs]
   rw [show (i + 1 + xs.length) * s = i * s + s + xs.length * s by rw [Nat.add_mul, Nat.add_mul, Nat.one_mul], hsz, hmul]
   omega
  obtain ⟨cs', us, g1, g2, g3, g4, g5⟩ := cat_fill (fun r => k (List.append cs r)) (pre ++ v.cells.toList) C t hk (by rw [List.length_append, hpre, hlv, Nat.add_mul, Nat.one_mul]) hCsz (by
   rw [hfold, htk, List.take_append_of_le_length (by rw [List.length_append, hpre, hlv, Nat.add_mul, Nat.one_mul]; exact Nat.le_refl _), List.take_of_length_le (by rw [List.length_append, hpre, hlv, Nat.add_mul, Nat.one_mul]; exact Nat.le_refl _)])
  refine ⟨cs ++ cs', v.cells.toList ++ us, g1, hrc.append g2, fun u hu => (List.mem_append.1 hu).elim (hc1 u) (g3 u), ?_, ?_⟩
  ·rw [List.length_append, hl, g4, List.length_cons, Nat.add_mul, Nat.one_mul]; omega
  ·rw [Instr.fill]
   simp only
   have hc0 : ¬ (v.cells.size ≠ s ∨ i * s + v.cells.size > cells.size) := by omega
   rw [if_neg (by simpa using hc0), hC, ← List.append_assoc]
   exact g5
noncomputable def bsK (el sz n m : Nat) (xs : List AV) (h : Hp) (k : AV → Hp → Bool) : Bool := catK sz xs fun cs => nbK el m cs h fun q h' => k (.sl q 0 n (.k n)) h'
theorem bsK_sound (E : Emb P ρ h w B) {t e sz n m : Nat} (ht : P.underlying t = some (.slice e)) (he : elemOk P e sz = true) (hm : m = n * sz) (hsmall : m ≤ 1000000) {xs : List AV} {parts : Array (Nat × Value)} (hl : xs.length = n) (hp : DenseR ρ h.nx.num 0 xs parts.toList)
  {k : AV → Hp → Bool} (hk : bsK e sz n m xs h k = true) : Made P ρ h w B ((Instr.buildSlice t n parts).run P w) k := by
 obtain ⟨i, z, hi, hz, hzs, hs, hb⟩ := elemOk_spec he
 subst hm
 have hcells : P.cellsOf e = sz := by simp [Program.cellsOf, hi, hs]
 obtain ⟨cs, us, g1, g2, g3, g4, g5⟩ := cat_fill _ [] ((Array.range (n * sz)).map (z.cells[· % z.cells.size]!)) hp hk (by simp) (by simp [hl]) (by simp)
 rw [hl] at g4
 obtain ⟨v, hg, hk⟩ := nbK_spec g4 g1
 have hul := g2.length
 simp only [List.nil_append] at g5
 obtain ⟨a1, a2⟩ := E.cellsNew (w' := { w with heap := w.heap.push (.cells us.toArray e (0, 0)) }) us.toArray e (0, 0) rfl rfl rfl rfl g2 g3 (fun j u hu => by simpa using hu) (by simp) n (by rw [hcells]; simp; omega) (fun o _ => by simp) hg
 refine ⟨_, .slice (some ⟨w.heap.size, 0, none⟩) n n, _, _, _, ?_, a1, a2, ?_, hk⟩
 ·have hsize : (sizeOf e).run P w = .ok sz w := by simp [sizeOf, typeInfo, hi, hs]
  have hzv : (zeroValue e).run P w = .ok z w := by simp [zeroValue, typeInfo, hi, hz]
  have h24 : ¬ (n * sz > 2 ^ 24) := by omega
  by_cases h0 : n * sz = 0
  ·have hus : us = [] := List.eq_nil_of_length_eq_zero (by omega)
   have hr0 : ∀ f : Nat → Value, (Array.range 0).map f = #[] := fun f => by apply Array.ext'; simp
   have hfill : Instr.fill (fun i => some (i * sz, sz)) #[] parts.toList = some us.toArray := by
    rw [h0, hr0] at g5
    exact g5
   simp [Instr.buildSlice, run_underlying ht, hsize, h0, hr0, hfill, newRow]
  ·simp [Instr.buildSlice, run_underlying ht, hsize, h24, h0, hzv, g5, newRow]
 ·have := Rel.slk (ρ := upd ρ h.nx (Hp.loc w n)) (N := h.nx.succ.num) h.nx 0 n n (by rw [Q.num_succ]; omega) (Nat.le_refl _)
  rw [upd_same] at this
  show Rel _ h.nx.succ.num _ _
  simpa [Hp.loc] using this
end
def sameB (a b : Bool) : Bool := Bool.casesOn (motive := fun _ => Bool) a (nb b) b
theorem sameB_eq (a b : Bool) : sameB a b = (a == b) := by cases a <;> cases b <;> rfl
def eqB (op : BinOp) (x : Bool) (k : AV → Bool) : Bool := BinOp.casesOn (motive := fun _ => Bool) op false false false false false false false false false false false (k (.b x)) (k (.b (nb x))) false false false false
def nilP (x : AV) (k : Bool → Bool) : Bool := AV.casesOn (motive_1 := fun _ => Bool) x false (fun _ => false) (fun _ _ => false) (fun _ _ => false) (k true) (fun _ _ => k false) false (fun _ _ _ _ => false) false (fun _ _ _ => false) false false (fun _ => false) false (fun _ => false) (fun _ => false) (fun _ _ => false) (fun _ => false)
def nilS (x : AV) (k : Bool → Bool) : Bool := AV.casesOn (motive_1 := fun _ => Bool) x false (fun _ => false) (fun _ _ => false) (fun _ _ => false) false (fun _ _ => false) (k true) (fun _ _ _ _ => k false) (k false) (fun _ _ _ => false) false false (fun _ => false) false (fun _ => false) (fun _ => false) (fun _ _ => false) (fun s => Sy.casesOn (motive := fun _ => Bool) s (fun _ => false) (fun _ _ _ => false) (fun _ _ => k false) (fun _ _ _ => k false) (fun _ _ => false))
def orB (a b : Bool) : Bool := Bool.casesOn (motive := fun _ => Bool) a b true
def andB (a b : Bool) : Bool := Bool.casesOn (motive := fun _ => Bool) a false b
section
variable {P : Program} {ρ : Q → Loc} {h : Hp} {w : World} {B N : Nat}
theorem eqB_spec {op : BinOp} {x : Bool} {k : AV → Bool} (hk : eqB op x k = true) : (op = .eql ∧ k (.b x) = true) ∨ (op = .neq ∧ k (.b (!x)) = true) := by
 cases op <;> first | (cases hk; done) | exact .inl ⟨rfl, hk⟩ | exact .inr ⟨rfl, by rw [← nb_eq]; exact hk⟩
theorem eq_both {op : BinOp} {x : Bool} {k : AV → Bool} (hk : eqB op x k = true) (t : TypeId) {u v : Value} (he : (Op.equal t u v).run P w = .ok x w) (hb : ∀ op, op = .eql ∨ op = .neq → binOp op t u v = (match op with | .eql => (do pure (.bool (← Op.equal t u v)) : Sem Value) | _ => (do pure (.bool (!(← Op.equal t u v))) : Sem Value))) : Pure1 ρ N w ((binOp op t u v).run P w) k := by
 rcases eqB_spec hk with ⟨rfl, hk2⟩ | ⟨rfl, hk2⟩
 ·rw [hb .eql (.inl rfl)]
  exact ⟨_, .bool x, by simp [he], .b x, hk2⟩
 ·rw [hb .neq (.inr rfl)]
  exact ⟨.b (!x), .bool (!x), by simp [he], .b _, hk2⟩
section
variable (d : Nat) {t e : TypeId}
theorem run_eqBool (ht : P.underlying t = some .bool) (a b : Bool) : (Op.equalIn (d + 1) t (.bool a) (.bool b)).run P w = .ok (a == b) w := by simp [Op.equalIn, run_underlying ht]
theorem run_eqPtrN (ht : P.underlying t = some (.pointer e)) (b : Option Addr) : (Op.equalIn (d + 1) t (.pointer none) (.pointer b)).run P w = .ok b.isNone w := by simp [Op.equalIn, run_underlying ht]
theorem run_eqPtrS (ht : P.underlying t = some (.pointer e)) (a : Addr) : (Op.equalIn (d + 1) t (.pointer (some a)) (.pointer none)).run P w = .ok false w := by simp [Op.equalIn, run_underlying ht]
theorem run_eqSlN (ht : P.underlying t = some (.slice e)) (b : Option Addr) (n c n' c' : Nat) : (Op.equalIn (d + 1) t (.slice none n c) (.slice b n' c')).run P w = .ok b.isNone w := by simp [Op.equalIn, run_underlying ht]
theorem run_eqSlS (ht : P.underlying t = some (.slice e)) (a : Addr) (n c n' c' : Nat) : (Op.equalIn (d + 1) t (.slice (some a) n c) (.slice none n' c')).run P w = .ok false w := by simp [Op.equalIn, run_underlying ht]
end
theorem bool_sound {op : BinOp} {a b : Bool} {k : AV → Bool} (hk : eqB op (sameB a b) k = true) {t : TypeId} (ht : P.underlying t = some .bool) : Pure1 ρ N w ((binOp op t (.bool a) (.bool b)).run P w) k :=
 eq_both hk t (by rw [sameB_eq]; exact run_eqBool 9999 ht a b) (fun op ho => by rcases ho with rfl | rfl <;> rfl)
def npK (op : BinOp) (x y : AV) (k : AV → Bool) : Bool := nilP x fun a => nilP y fun b => ifT (orB a b) (eqB op (andB a b) k)
theorem npK_sound {op : BinOp} {x y : AV} {u v : Value} (hx : Rel ρ N x u) (hy : Rel ρ N y v) {k : AV → Bool} (hk : npK op x y k = true) {t e : TypeId} (ht : P.underlying t = some (.pointer e)) : Pure1 ρ N w ((binOp op t u v).run P w) k := by
 cases hx <;> first | (cases hk; done) | skip
 case np =>
  cases hy <;> first | (cases hk; done) | skip
  case np => exact eq_both (x := true) hk t (run_eqPtrN 9999 ht none) (fun op ho => by rcases ho with rfl | rfl <;> rfl)
  case p q o h => exact eq_both (x := false) hk t (run_eqPtrN 9999 ht _) (fun op ho => by rcases ho with rfl | rfl <;> rfl)
 case p q o h =>
  cases hy <;> first | (cases hk; done) | skip
  case np => exact eq_both (x := false) hk t (run_eqPtrS 9999 ht _) (fun op ho => by rcases ho with rfl | rfl <;> rfl)
def nsK (op : BinOp) (x y : AV) (k : AV → Bool) : Bool := nilS x fun a => nilS y fun b => ifT (orB a b) (eqB op (andB a b) k)
theorem nsK_sound {op : BinOp} {x y : AV} {u v : Value} (hx : Rel ρ N x u) (hy : Rel ρ N y v) {k : AV → Bool} (hk : nsK op x y k = true) {t e : TypeId} (ht : P.underlying t = some (.slice e)) : Pure1 ρ N w ((binOp op t u v).run P w) k := by
 cases hx <;> first | (cases hk; done) | skip
 case ns =>
  cases hy <;> first | (cases hk; done) | skip
  case ns => exact eq_both (x := true) hk t (run_eqSlN 9999 ht none 0 0 0 0) (fun op ho => by rcases ho with rfl | rfl <;> rfl)
  all_goals exact eq_both (x := false) hk t (run_eqSlN 9999 ht _ _ _ _ _) (fun op ho => by rcases ho with rfl | rfl <;> rfl)
 all_goals
  cases hy <;> first | (cases hk; done) | skip
  case ns => exact eq_both (x := false) hk t (run_eqSlS 9999 ht _ _ _ _ _) (fun op ho => by rcases ho with rfl | rfl <;> rfl)
end
def Det {α : Type} (f : (α → Bool) → Bool) : Prop := ∃ r : Option α, ∀ k, f k = r.elim false k
def Det2 {α β : Type} (f : (α → β → Bool) → Bool) : Prop := ∃ r : Option (α × β), ∀ k, f k = r.elim false fun p => k p.1 p.2
section
variable {α β γ : Type}
theorem Det.ret (a : α) : Det (fun k => k a) := ⟨some a, fun _ => rfl⟩
theorem Det.fail : Det (fun _ : α → Bool => false) := ⟨none, fun _ => rfl⟩
theorem Det.bind {f : (α → Bool) → Bool} {g : α → (β → Bool) → Bool} (hf : Det f) (hg : ∀ a, Det (g a)) : Det (fun k => f fun a => g a k) := by
 obtain ⟨r, hr⟩ := hf
 cases r with
 | none => exact ⟨none, fun k => hr _⟩
 | some a =>
  obtain ⟨s, hs⟩ := hg a
  exact ⟨s, fun k => (hr _).trans (hs k)⟩
theorem Det.bind2 {f : (α → β → Bool) → Bool} {g : α → β → (γ → Bool) → Bool} (hf : Det2 f) (hg : ∀ a b, Det (g a b)) : Det (fun k => f fun a b => g a b k) := by
 obtain ⟨r, hr⟩ := hf
 cases r with
 | none => exact ⟨none, fun k => hr _⟩
 | some p =>
  obtain ⟨s, hs⟩ := hg p.1 p.2
  exact ⟨s, fun k => (hr _).trans (hs k)⟩
theorem Det2.ret (a : α) (b : β) : Det2 (fun k => k a b) := ⟨some (a, b), fun _ => rfl⟩
theorem Det2.fail : Det2 (fun _ : α → β → Bool => false) := ⟨none, fun _ => rfl⟩
theorem Det.to2 {f : (α → Bool) → Bool} {g : α → (β → γ → Bool) → Bool} (hf : Det f) (hg : ∀ a, Det2 (g a)) : Det2 (fun k => f fun a => g a k) := by
 obtain ⟨r, hr⟩ := hf
 cases r with
 | none => exact ⟨none, fun k => hr _⟩
 | some a =>
  obtain ⟨s, hs⟩ := hg a
  exact ⟨s, fun k => (hr _).trans (hs k)⟩
theorem Det2.bind2 {δ : Type} {f : (α → β → Bool) → Bool} {g : α → β → (γ → δ → Bool) → Bool} (hf : Det2 f) (hg : ∀ a b, Det2 (g a b)) : Det2 (fun k => f fun a b => g a b k) := by
 obtain ⟨r, hr⟩ := hf
 cases r with
 | none => exact ⟨none, fun k => hr _⟩
 | some p =>
  obtain ⟨s, hs⟩ := hg p.1 p.2
  exact ⟨s, fun k => (hr _).trans (hs k)⟩
theorem Det.val {f : (α → Bool) → Bool} (h : Det f) {k : α → Bool} (hk : f k = true) : ∃ a, (∀ k, f k = k a) ∧ k a = true := by
 obtain ⟨r, hr⟩ := h
 cases r with
 | none => rw [hr k] at hk; cases hk
 | some a => exact ⟨a, hr, (hr k).symm.trans hk⟩
theorem Det2.val {f : (α → β → Bool) → Bool} (h : Det2 f) {k : α → β → Bool} (hk : f k = true) : ∃ a b, (∀ k, f k = k a b) ∧ k a b = true := by
 obtain ⟨r, hr⟩ := h
 cases r with
 | none => rw [hr k] at hk; cases hk
 | some p => exact ⟨p.1, p.2, hr, (hr k).symm.trans hk⟩
end
section
variable {α β : Type}
theorem det_on_p {x : AV} {g : Q → Nat → (α → Bool) → Bool} (hg : ∀ q o, Det (g q o)) : Det (fun k => x.on_p fun q o => g q o k) := by cases x <;> first | exact hg _ _ | exact Det.fail
theorem det2_on_p {x : AV} {g : Q → Nat → (α → β → Bool) → Bool} (hg : ∀ q o, Det2 (g q o)) : Det2 (fun k => x.on_p fun q o => g q o k) := by cases x <;> first | exact hg _ _ | exact Det2.fail
theorem det_ifT {c : Bool} {g : (α → Bool) → Bool} (hg : Det g) : Det (fun k => ifT c (g k)) := by cases c <;> first | exact Det.fail | exact hg
theorem det2_ifT {c : Bool} {g : (α → β → Bool) → Bool} (hg : Det2 g) : Det2 (fun k => ifT c (g k)) := by cases c <;> first | exact Det2.fail | exact hg
theorem det_on {b : OB} {g : Nat → Nat → V → (α → Bool) → Bool} (hg : ∀ a n v, Det (g a n v)) : Det (fun k => b.on fun a n v => g a n v k) := by cases b <;> first | exact hg _ _ _ | exact Det.fail
theorem det2_on {b : OB} {g : Nat → Nat → V → (α → β → Bool) → Bool} (hg : ∀ a n v, Det2 (g a n v)) : Det2 (fun k => b.on fun a n v => g a n v k) := by cases b <;> first | exact hg _ _ _ | exact Det2.fail
end
noncomputable def bytesK (cs : List AV) : (List Nat → Bool) → Bool :=
 List.rec (motive := fun _ => (List Nat → Bool) → Bool) (fun k => k []) (fun c _ ih k => c.on_i fun kd m => IntKind.casesOn (motive := fun _ => Bool) kd false false false false
  (ifT (Nat.ble 9223372036854775808 m) (natK (Nat.sub m 9223372036854775808) fun b => ifT (Nat.blt b 256) (ih fun r => k (b :: r)))) false false false) cs
section
variable {P : Program} {ρ : Q → Loc} {h : Hp} {w : World} {B N : Nat}
theorem bytesK_spec : ∀ {cs : List AV} {vs : List Value} {k : List Nat → Bool}, RelL ρ N cs vs → bytesK cs k = true → ∃ l : List Nat, k l = true ∧ vs = (l.map Int.ofNat).map (Value.int .u8) ∧ (∀ b ∈ l, b < 256) ∧ l.length = cs.length
 | _, _, _, .nil, hk => ⟨[], hk, rfl, by simp, rfl⟩
 | _, _, k, .cons x v xs vs hx t, hk => by
  obtain ⟨kd, m, rfl, hk2⟩ := AV.on_i_spec (show x.on_i _ = true from hk)
  cases kd <;> first | (cases hk2; done) | skip
  obtain ⟨hm, hk3⟩ := ifT_le (show ifT (Nat.ble 9223372036854775808 m) _ = true from hk2)
  rw [natK_eq] at hk3
  have hm' : (m : Int) - 9223372036854775808 = ((Nat.sub m 9223372036854775808 : Nat) : Int) := (Int.natCast_sub hm).symm
  generalize Nat.sub m 9223372036854775808 = b0 at hk3 hm'
  obtain ⟨hlt, hk4⟩ := ifT_lt hk3
  obtain ⟨l, g1, g2, g3, g4⟩ := bytesK_spec t hk4
  cases hx
  refine ⟨b0 :: l, g1, ?_, ?_, by simp [g4]⟩
  ·rw [g2, hm']
   rfl
  ·intro b hb
   rcases List.mem_cons.1 hb with rfl | hb
   ·exact hlt
   ·exact g3 b hb
theorem push_bytes : ∀ (l : List Nat) (s : ByteArray), (∀ b ∈ l, b < 256) → ((l.map Int.ofNat).foldl (fun r n => r.push (UInt8.ofNat n.toNat)) s).data.toList.map UInt8.toNat = s.data.toList.map UInt8.toNat ++ l
 | [], s, _ => by simp
 | b :: l, s, hb => by
  simp only [List.map_cons, List.foldl_cons]
  rw [push_bytes l _ (fun x hx => hb x (by simp [hx]))]
  have : b < 256 := hb b (by simp)
  simp [ByteArray.push, Nat.mod_eq_of_lt this]
theorem size_of_map {s : ByteArray} {l : List Nat} (h : s.data.toList.map UInt8.toNat = l) : s.size = l.length := by
 have := congrArg List.length h
 simpa using this
noncomputable def cbK (x : AV) (h : Hp) (k : AV → Bool) : Bool :=
 AV.casesOn (motive_1 := fun _ => Bool) x false (fun _ => false) (fun _ _ => false) (fun _ _ => false) false (fun _ _ => false) (k (.s 0 []))
  (fun q o n _ => (HT.getR q h.t).on fun _ m v => ifT (Nat.ble (Nat.add o n) m) (bytesK (v.range n o) fun l => k (.s n l))) (k (.s 0 []))
  (fun _ _ _ => false) false false (fun _ => false) false (fun _ => false) (fun _ => false) (fun _ _ => false) (fun _ => false)
theorem cbK_sound (E : Emb P ρ h w B) {s t e : Nat} (hs : P.underlying s = some (.slice e)) (he : P.underlying e = some (.int .u8)) (ht : P.underlying t = some .string) {x : AV} {u : Value} (hx : Rel ρ h.nx.num x u) {k : AV → Bool} (hk : cbK x h k = true) : Pure1 ρ h.nx.num w ((convert s t u).run P w) k := by
 have hconv : ∀ (a : Option Addr) (l c : Nat), (convert s t (.slice a l c)).run P w = (Conv.bytesToString (.slice a l c)).run P w := fun a l c => run_convert_bytes_string w s t e a l c hs he ht
 have h0 : Rel ρ h.nx.num (.s 0 []) (.string ByteArray.empty) := rel_s _ rfl rfl
 cases x <;> first | (cases hk; done) | skip
 case ns => cases hx; exact ⟨_, .string .empty, by rw [hconv]; simp [Conv.bytesToString], h0, hk⟩
 case se =>
  cases hx with
  | se a c =>
   refine ⟨_, .string .empty, ?_, h0, hk⟩
   rw [hconv, run_bytesToString w a 0 c [] (by simp [loadCells, loadCellsFrom])]
   rfl
 case sl q o n c =>
  dsimp only [cbK] at hk
  rw [HT.getR_eq] at hk
  obtain ⟨ty, m, v, hg, hk2⟩ := OB.on_spec hk
  obtain ⟨hle, hk3⟩ := ifT_le hk2
  obtain ⟨vs, hl, hr, h1, hc⟩ := E.cells hg o n hle
  obtain ⟨l, hk4, hv, hb, hll⟩ := bytesK_spec hr hk3
  have hrun := run_loadCells_list (P := P) w ⟨(ρ q).blk, (ρ q).base + o, none⟩ vs (fun j u hu => by rw [Addr.add_none]; exact hc j u hu)
  rw [hl, hv] at hrun
  have hp := push_bytes l ByteArray.empty hb
  have hp : _ = l := hp.trans (by simp)
  rw [V.range_length] at hll
  have key : ∀ cap : Nat, ∃ y v, (convert s t (.slice (some ⟨(ρ q).blk, (ρ q).base + o, none⟩) n cap)).run P w = .ok v w ∧ Rel ρ h.nx.num y v ∧ k y = true := fun cap =>
   ⟨_, _, by rw [hconv]; exact run_bytesToString w _ n cap _ hrun, rel_s _ ((size_of_map hp).trans hll) hp, hk4⟩
  obtain ⟨hq, ⟨cc, rfl, _, rfl⟩ | ⟨d, b, rfl, _, _, rfl⟩⟩ := hx.sl_inv
  ·exact key _
  ·exact key _
end
noncomputable def sb2K (el : Nat) (x : AV) (h : Hp) (k : AV → Hp → Bool) : Bool := x.on_s fun n l => ifT (Nat.ble n 1000000) (nbK el n (List.map byteAV l) h fun q h' => k (.sl q 0 n (.u 0 n)) h')
section
variable {P : Program} {ρ : Q → Loc} {h : Hp} {w : World} {B N : Nat}
theorem sb2K_sound (E : Emb P ρ h w B) {s t e : Nat} (hs : P.underlying s = some .string) (ht : P.underlying t = some (.slice e)) (he : P.underlying e = some (.int .u8)) (hsz : P.cellsOf e = 1) {x : AV} {u : Value} (hx : Rel ρ h.nx.num x u) {k : AV → Hp → Bool} (hk : sb2K e x h k = true) : Made P ρ h w B ((convert s t u).run P w) k := by
 obtain ⟨n, l, rfl, hk2⟩ := AV.on_s_spec hk
 obtain ⟨hn6, hk2⟩ := ifT_le hk2
 clear hk
 cases hx with
 | s s =>
  have hge := grownCap_ge w s.size 0 e
  have hgm : grownCap w s.size 0 e ≤ 9223372036854775807 := grownCap_le_maxLen w s.size 0 e (by unfold maxLen; omega)
  have hrun := run_bytes_of_string (P := P) w _ _ e s hs ht he
  generalize hC : grownCap w s.size 0 e = C at *
  have hsize : (bytesRow s C).size = C := by
   unfold bytesRow
   simp
   omega
  have hll : (List.map byteAV (s.data.toList.map UInt8.toNat)).length = s.size := by simp
  obtain ⟨v, hg, hk⟩ := nbK_spec hll hk2
  have hr := rel_bytes ρ h.nx.num s.data.toList
  obtain ⟨a1, a2⟩ := E.cellsNew (w' := w.drew.alloc (.cells (bytesRow s C) e ((bytesRow s C).size, (bytesRow s C).size + 1))) (bytesRow s C) e ((bytesRow s C).size, (bytesRow s C).size + 1) rfl rfl rfl rfl hr
   (fun u hu => by obtain ⟨b, _, rfl⟩ := List.mem_map.1 hu; rfl)
   (fun j u hu => by
    have hj := (List.getElem?_eq_some_iff.1 hu).1
    have hj2 : j < s.data.size := by simpa using hj
    rw [bytesRow_at s C j hj2]
    rw [List.getElem?_eq_getElem hj] at hu
    simpa using hu)
   (by rw [hsize]; simpa using hge) C (by rw [hsize, hsz]; omega) (fun o ho => by simp only; omega) hg
  rw [hll] at a1 a2 hk
  exact ⟨_, _, _, _, _, hrun, a1, a2, rel_newSlice _ _ _ _ _ _ (by show h.nx.num < h.nx.succ.num; rw [Q.num_succ]; omega) hge hgm, hk⟩
end
def kN (k : IntKind) : Nat := IntKind.casesOn (motive := fun _ => Nat) k 0 1 2 3 4 5 6 7
theorem kN_inj {a b : IntKind} (h : kN a = kN b) : a = b := by cases a <;> cases b <;> first | rfl | cases h
def ikK (op : BinOp) (x y : AV) (k : AV → Bool) : Bool := x.on_i fun kd a => y.on_i fun ke b => ifT (Nat.beq (kN kd) (kN ke)) (ibK op kd a b k)
def shkK (op : BinOp) (x y : AV) (k : AV → Bool) : Bool := x.on_i fun kd a => y.on_i fun _ b => shK op kd a b k
noncomputable def stK (op : BinOp) (x y : AV) (k : AV → Bool) : Bool := x.on_s fun n l => y.on_s fun m r => sbK op n l m r k
def bbK (op : BinOp) (x y : AV) (k : AV → Bool) : Bool := x.on_b fun a => y.on_b fun b => eqB op (sameB a b) k
def nilI (x : AV) (k : Bool → Bool) : Bool := AV.casesOn (motive_1 := fun _ => Bool) x false (fun _ => false) (fun _ _ => false) (fun _ _ => false) false (fun _ _ => false) false (fun _ _ _ _ => false) false (fun _ _ _ => false) false false (fun _ => false) (k true) (fun _ => false) (fun _ => false) (fun _ _ => k false) (fun _ => false)
def niK (op : BinOp) (x y : AV) (k : AV → Bool) : Bool := nilI x fun a => nilI y fun b => ifT (orB a b) (eqB op (andB a b) k)
def isC (x : Operand) : Bool := match x with
 | .const _ => true
 | _ => false
section
variable {P : Program} {ρ : Q → Loc} {h : Hp} {w : World} {B N : Nat}
theorem ikK_sound {op : BinOp} {x y : AV} {u v : Value} (hx : Rel ρ N x u) (hy : Rel ρ N y v) {k : AV → Bool} (hk : ikK op x y k = true) (t : TypeId) (w : World) : Pure1 ρ N w ((binOp op t u v).run P w) k := by
 obtain ⟨kd, a, rfl, hk2⟩ := AV.on_i_spec hk
 obtain ⟨ke, b, rfl, hk3⟩ := AV.on_i_spec hk2
 obtain ⟨he, hk4⟩ := ifT_eq hk3
 have := kN_inj he
 subst this
 cases hx
 cases hy
 exact ibK_sound hk4 t w
theorem shkK_sound {op : BinOp} {x y : AV} {u v : Value} (hx : Rel ρ N x u) (hy : Rel ρ N y v) {k : AV → Bool} (hk : shkK op x y k = true) (t : TypeId) (w : World) : Pure1 ρ N w ((binOp op t u v).run P w) k := by
 obtain ⟨kd, a, rfl, hk2⟩ := AV.on_i_spec hk
 obtain ⟨ke, b, rfl, hk3⟩ := AV.on_i_spec hk2
 cases hx
 cases hy
 exact shK_sound hk3 t w
theorem stK_sound {op : BinOp} {x y : AV} {u v : Value} (hx : Rel ρ N x u) (hy : Rel ρ N y v) {k : AV → Bool} (hk : stK op x y k = true) (t : TypeId) (w : World) : Pure1 ρ N w ((binOp op t u v).run P w) k := by
 obtain ⟨n, l, rfl, hk2⟩ := AV.on_s_spec hk
 obtain ⟨m, r, rfl, hk3⟩ := AV.on_s_spec hk2
 exact sbK_sound hx hy hk3 t w
theorem bbK_sound {op : BinOp} {x y : AV} {u v : Value} (hx : Rel ρ N x u) (hy : Rel ρ N y v) {k : AV → Bool} (hk : bbK op x y k = true) {t : TypeId} (ht : P.underlying t = some .bool) (w : World) : Pure1 ρ N w ((binOp op t u v).run P w) k := by
 obtain ⟨a, rfl, hk2⟩ := AV.on_b_spec hk
 obtain ⟨b, rfl, hk3⟩ := AV.on_b_spec hk2
 cases hx
 cases hy
 exact bool_sound hk3 ht
theorem run_eqI0 (d : Nat) {t : TypeId} {ms : Array (String × TypeId)} (ht : P.underlying t = some (.interface ms)) : (Op.equalIn (d + 1) t .nilIface .nilIface).run P w = .ok true w := by simp [Op.equalIn, run_underlying ht]
theorem run_eqI1 (d : Nat) {t : TypeId} {ms : Array (String × TypeId)} (ht : P.underlying t = some (.interface ms)) (a : TypeId) (v : Value) : (Op.equalIn (d + 1) t .nilIface (.iface a v)).run P w = .ok false w := by simp [Op.equalIn, run_underlying ht]
theorem run_eqI2 (d : Nat) {t : TypeId} {ms : Array (String × TypeId)} (ht : P.underlying t = some (.interface ms)) (a : TypeId) (v : Value) : (Op.equalIn (d + 1) t (.iface a v) .nilIface).run P w = .ok false w := by simp [Op.equalIn, run_underlying ht]
theorem niK_sound {op : BinOp} {x y : AV} {u v : Value} (hx : Rel ρ N x u) (hy : Rel ρ N y v) {k : AV → Bool} (hk : niK op x y k = true) {t : TypeId} {ms : Array (String × TypeId)} (ht : P.underlying t = some (.interface ms)) (w : World) : Pure1 ρ N w ((binOp op t u v).run P w) k := by
 cases hx <;> first | (cases hk; done) | skip
 case ni =>
  cases hy <;> first | (cases hk; done) | skip
  case ni => exact eq_both (x := true) hk t (run_eqI0 9999 ht) (fun op ho => by rcases ho with rfl | rfl <;> rfl)
  case e t' x' v' h' => exact eq_both (x := false) hk t (run_eqI1 9999 ht _ _) (fun op ho => by rcases ho with rfl | rfl <;> rfl)
 case e t' x' v' h' =>
  cases hy <;> first | (cases hk; done) | skip
  case ni => exact eq_both (x := false) hk t (run_eqI2 9999 ht _ _) (fun op ho => by rcases ho with rfl | rfl <;> rfl)
end
noncomputable def paK (P : Program) (t off : Nat) (cs : List AV) (k : AV → Bool) : Bool := match aggOf P t with
 | some (true, n) => k (.a (List.take n (List.drop off cs)))
 | some (false, _) => lgetK cs off k
 | none => false
noncomputable def efK (P : Program) (eq : TypeId → AV → AV → (Bool → Bool) → Bool) (xs ys : List AV) (fs : List Field) : (Bool → Bool) → Bool :=
 List.rec (motive := fun _ => (Bool → Bool) → Bool) (fun k => k true)
  (fun f _ ih k => Bool.casesOn (motive := fun _ => Bool) (f.name == "_") (paK P f.type f.offset xs fun a => paK P f.type f.offset ys fun b => eq f.type a b fun r => Bool.casesOn (motive := fun _ => Bool) r (k false) (ih k)) false) fs
noncomputable def eqK (P : Program) (d : Nat) : TypeId → AV → AV → (Bool → Bool) → Bool :=
 Nat.rec (motive := fun _ => TypeId → AV → AV → (Bool → Bool) → Bool) (fun _ _ _ _ => false)
  (fun _ ih t x y k => match P.underlying t with
   | some (.int _) => x.on_i fun kd a => y.on_i fun ke b => ifT (Nat.beq (kN kd) (kN ke)) (k (Nat.beq a b))
   | some .string => osK x y (x.on_s fun _ l => y.on_s fun _ r => k (leq l r)) (k true)
   | some .bool => x.on_b fun a => y.on_b fun b => k (sameB a b)
   | some (.struct fs) => Bool.casesOn (motive := fun _ => Bool) (P.stoodInHeld t) (x.on_a fun xs => y.on_a fun ys => efK P ih xs ys fs.toList k) false
   | _ => false) d
theorem eqK_succ (P : Program) (d : Nat) (t : TypeId) (x y : AV) (k : Bool → Bool) : eqK P (d + 1) t x y k = match P.underlying t with
   | some (.int _) => x.on_i fun kd a => y.on_i fun ke b => ifT (Nat.beq (kN kd) (kN ke)) (k (Nat.beq a b))
   | some .string => osK x y (x.on_s fun _ l => y.on_s fun _ r => k (leq l r)) (k true)
   | some .bool => x.on_b fun a => y.on_b fun b => k (sameB a b)
   | some (.struct fs) => Bool.casesOn (motive := fun _ => Bool) (P.stoodInHeld t) (x.on_a fun xs => y.on_a fun ys => efK P (eqK P d) xs ys fs.toList k) false
   | _ => false := rfl
section
variable {P : Program} {ρ : Q → Loc} {h : Hp} {w : World} {B N : Nat}
theorem paK_sound {t off : Nat} {cs : List AV} {vs : List Value} (hr : RelL ρ N cs vs) (h1 : ∀ v ∈ vs, v.oneCell' = true) {k : AV → Bool} (hk : paK P t off cs k = true) (w : World) : Pure1 ρ N w ((part t vs.toArray off).run P w) k := by
 unfold paK at hk
 split at hk
 ·rename_i n ha
  refine ⟨_, .agg ((vs.drop off).take n).toArray, ?_, .a _ _ ((hr.drop _).take _) (fun v hv => h1 v (List.mem_of_mem_drop (List.mem_of_mem_take hv))), hk⟩
  simp [part, (aggOf_true ha w).1, (aggOf_true ha w).2.1, List.extract]
 ·rename_i n ha
  obtain ⟨hi, hk⟩ := lgetK_spec _ _ _ hk
  have hl := hr.length
  have hi2 : off < vs.length := by omega
  refine ⟨_, vs[off], ?_, hr.get _ hi hi2, hk⟩
  simp [part, (aggOf_false ha w).1, hi2]
 ·cases hk
theorem eqK_sound : ∀ {d : Nat} {t : TypeId} {x y : AV} {u v : Value} {k : Bool → Bool}, Rel ρ N x u → Rel ρ N y v → eqK P d t x y k = true → ∀ w : World, ∃ r, (Op.equalIn d t u v).run P w = .ok r w ∧ k r = true
 | 0, _, _, _, _, _, _, _, _, hk, _ => by cases hk
 | d + 1, t, x, y, u, v, k, hx, hy, hk, w => by
  rw [eqK_succ] at hk
  split at hk
  ·rename_i kk ht
   obtain ⟨kd, a, rfl, hk2⟩ := AV.on_i_spec hk
   obtain ⟨ke, b, rfl, hk3⟩ := AV.on_i_spec hk2
   obtain ⟨he, hk4⟩ := ifT_eq hk3
   have := kN_inj he
   subst this
   cases hx
   cases hy
   refine ⟨_, run_equalIn_int w d t kd kk _ _ ht, ?_⟩
   have : ((a : Int) - 9223372036854775808 == (b : Int) - 9223372036854775808) = Nat.beq a b := by rw [Bool.eq_iff_iff, beq_iff_eq, Nat.beq_eq]; omega
   rw [this]; exact hk4
  ·rename_i ht
   rcases osK_spec hk with ⟨i, rfl, rfl, hk1⟩ | hk
   ·cases hx
    cases hy
    exact ⟨_, run_equalIn_string w d t _ _ ht, by rw [beq_self_eq_true]; exact hk1⟩
   obtain ⟨n, l, rfl, hk2⟩ := AV.on_s_spec hk
   obtain ⟨m, r, rfl, hk3⟩ := AV.on_s_spec hk2
   cases hx with
   | s a =>
    cases hy with
    | s b =>
     refine ⟨_, run_equalIn_string w d t a b ht, ?_⟩
     have he : (a.toList == b.toList) = leq (a.data.toList.map UInt8.toNat) (b.data.toList.map UInt8.toNat) := by
      rw [leq_eq, ba_toList, ba_toList, Bool.eq_iff_iff, beq_iff_eq, decide_eq_true_eq]
      exact ⟨fun h => by rw [h], fun h => bytes_inj h⟩
     rw [he]; exact hk3
  ·rename_i ht
   obtain ⟨a, rfl, hk2⟩ := AV.on_b_spec hk
   obtain ⟨b, rfl, hk3⟩ := AV.on_b_spec hk2
   cases hx
   cases hy
   exact ⟨_, run_equalIn_bool' w d t a b ht, by rw [← sameB_eq]; exact hk3⟩
  ·rename_i fs ht
   cases hp : P.stoodInHeld t with
   | true => rw [hp] at hk; cases hk
   | false =>
    rw [hp] at hk
    obtain ⟨xs, rfl, hk2⟩ := AV.on_a_spec hk
    obtain ⟨ys, rfl, hk3⟩ := AV.on_a_spec hk2
    cases hx with
    | a _ vs hr h1 =>
     cases hy with
     | a _ us hs h2 =>
      have hfs : P.fieldsOf t = fs := by simp only [Program.fieldsOf, ht]
      rw [run_equalIn_agg w d t _ _ (by rw [hfs]; exact ht) hp, hfs]
      have key : ∀ (fl : List Field) (w : World), efK P (eqK P d) xs ys fl k = true → ∃ r, (Op.eqFields d vs.toArray us.toArray fl).run P w = .ok r w ∧ k r = true := by
       intro fl
       induction fl with
       | nil => intro w hh; exact ⟨true, rfl, hh⟩
       | cons f fl ih =>
        intro w hh
        have hh : Bool.casesOn (motive := fun _ => Bool) (f.name == "_") (paK P f.type f.offset xs fun a => paK P f.type f.offset ys fun b => eqK P d f.type a b fun r => Bool.casesOn (motive := fun _ => Bool) r (k false) (efK P (eqK P d) xs ys fl k)) false = true := hh
        cases hn : (f.name == "_") with
        | true => rw [hn] at hh; cases hh
        | false =>
         rw [hn] at hh
         have hne : f.name ≠ "_" := by simpa using hn
         obtain ⟨a, av, e1, ra, hh1⟩ := paK_sound (P := P) hr h1 (show paK P f.type f.offset xs _ = true from hh) w
         obtain ⟨b, bv, e2, rb, hh2⟩ := paK_sound (P := P) hs h2 hh1 w
         obtain ⟨r, e3, hh3⟩ := eqK_sound ra rb hh2 w
         cases r with
         | false => exact ⟨false, by simp [Op.eqFields, hne, e1, e2, e3], hh3⟩
         | true =>
          obtain ⟨r, e4, hh4⟩ := ih w hh3
          exact ⟨r, by simp [Op.eqFields, hne, e1, e2, e3, e4], hh4⟩
      exact key _ w hk3
  ·cases hk
noncomputable def sqK (P : Program) (op : BinOp) (t : TypeId) (x y : AV) (k : AV → Bool) : Bool := eqK P 10000 t x y fun r => eqB op r k
theorem sqK_sound {op : BinOp} {x y : AV} {u v : Value} (hx : Rel ρ N x u) (hy : Rel ρ N y v) {t : TypeId} {k : AV → Bool} (hk : sqK P op t x y k = true) (ha : ∃ cs ds, u = .agg cs ∧ v = .agg ds) (w : World) : Pure1 ρ N w ((binOp op t u v).run P w) k := by
 obtain ⟨r, h1, h2⟩ := eqK_sound hx hy hk w
 obtain ⟨cs, ds, rfl, rfl⟩ := ha
 exact eq_both h2 t h1 (fun op ho => by rcases ho with rfl | rfl <;> rfl)
theorem eqGuard_plain (op : BinOp) (t : TypeId) (x y : Operand) (a b : Value) (h1 : a ≠ .nilIface ∨ isC x = true ∨ isC y = true) (h2 : ∀ cs, a ≠ .agg cs) (w : World) : (eqGuard op t x y a b).run P w = .ok () w := by
 unfold eqGuard
 cases op <;> try (simp; done)
 all_goals
  cases a <;> first | (exact absurd rfl (h2 _)) | (cases b <;> simp; done) | skip
  cases b <;> first | (simp; done) | skip
  rcases h1 with h1 | h1 | h1
  ·exact absurd rfl h1
  ·cases x <;> first | (simp; done) | (cases h1; done)
  ·cases y <;> first | (simp; done) | (cases h1; done)
end
end Go.Proofs.YtpchmdddkpocgaaGreatDoor
