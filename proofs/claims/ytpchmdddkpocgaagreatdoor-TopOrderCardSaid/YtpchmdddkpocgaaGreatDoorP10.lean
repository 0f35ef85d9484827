/-
  No claim by itself: the evaluator: drawn regions: one operation more, at any time. | the evaluator: drawn regions do what is evaluated, in whatever order. | the evaluator: what a text means is one outcome. | the evaluator: a function that was written out does what it means. No condition.
-/
import Derived.Test.YtpchmdddkpocgaaGreatDoorP9
import Derived.Test.YtpchmdddkpocgaaGreatDoorP8
namespace Go.Proofs.YtpchmdddkpocgaaGreatDoor
set_option linter.unusedVariables false
set_option linter.unusedSimpArgs false
def addS (S : Nat → Bool) (j : Nat) (i : Nat) : Bool := if i = j then true else S i
theorem addS_same (S : Nat → Bool) (j : Nat) : addS S j j = true := if_pos rfl
theorem addS_ne (S : Nat → Bool) {i j : Nat} (h : i ≠ j) : addS S j i = S i := if_neg h
def fU (U : List Nat) (S : Nat → Bool) (r : Rw) : Option AV := if S r.1 = true then (if r.1 ∈ U then some .d else some r.2.2.2) else none
theorem fS_m1 {pre As : List Nat} {S : Nat → Bool} (h : m1 pre As S = true) : fS pre As S = fU As S := by
 funext r
 unfold fS fU
 by_cases hr : r.1 ∈ As
 ·rw [if_pos hr, if_pos (show m1 pre As S = true ∧ r.1 ∈ As from ⟨h, hr⟩)]
 ·rw [if_neg hr, if_neg (show ¬ (m1 pre As S = true ∧ r.1 ∈ As) from fun x => hr x.2)]
theorem fS_m2 {pre As : List Nat} {S : Nat → Bool} (h : m1 pre As S = false) : fS pre As S = fU [] S := by
 funext r
 unfold fS fU
 rw [if_neg (show ¬ (m1 pre As S = true ∧ r.1 ∈ As) from fun x => by rw [h] at x; cases x.1), if_neg (show ¬ r.1 ∈ [] by simp)]
section
variable {P : Program} {T : Tbl} {M : List (Nat × Nat)} {all : List Oper} {ord : List Nat} {env0 : List AV} {h0 : Hp} {acc : List Rw} {HH : List Hp} {envE : List AV} {hE : Hp} {A pre As post : List Nat}
def LateB (P : Program) (all : List Oper) (w0 : World) (ρ : Q → Loc) (H : Hp) (a : Act) (w : World) (x b : Nat) : Prop :=
 ∃ o ty z, all[x]? = some o ∧ o.op = .alloc ty ∧ (P.info? ty).bind (·.zero) = some z ∧ w0.heap.size ≤ b ∧ w.heap[b]? = some (.cells z.cells ty (0, 0)) ∧ (∀ q, H.live q → (ρ q).blk ≠ b) ∧ ∀ d, o.dst = some d → d < a.tmps.size → a.tmps.getD d undef = .pointer (some ⟨b, 0, none⟩)
def LateP (P : Program) (all : List Oper) (w0 : World) (U : List Nat) (S : Nat → Bool) (ρ : Q → Loc) (H : Hp) (a : Act) (w : World) (g : Nat → Nat) : Prop :=
 (∀ x ∈ U, S x = true → LateB P all w0 ρ H a w x (g x)) ∧ ∀ x ∈ U, ∀ y ∈ U, S x = true → S y = true → g x = g y → x = y
def Inv (P : Program) (all : List Oper) (env0 : List AV) (h0 : Hp) (acc : List Rw) (HH : List Hp) (pre As post : List Nat) (ρ0 : Q → Loc) (w0 : World) (B : Nat) (S : Nat → Bool) (a : Act) (w : World) : Prop :=
 Closed all (fun i => S i = true) ∧ ∃ ρ H, HH[idxS pre As post S]? = some H ∧ Emb P ρ H w B ∧ Step ρ0 h0 w0 ρ H w ∧ Env ρ H.nx.num (repF all (fS pre As S) acc env0) a ∧ (m1 pre As S = true → ∃ g, LateP P all w0 As S ρ H a w g)
theorem put_other {a : Act} {d : Option Nat} {v : Value} {t : Nat} (h : d ≠ some t) : (a.put d v).tmps.getD t undef = a.tmps.getD t undef := by
 cases d with
 | none => rfl
 | some d =>
  have hne : d ≠ t := fun e => h (by rw [e])
  simp [Act.put, Array.getD_eq_getD_getElem?, Array.getElem?_setIfInBounds_ne hne]
theorem putE_size {a : Act} {d : Option Nat} {v : Value} : (a.put d v).tmps.size = a.tmps.size := by
 cases d <;> simp [Act.put]
theorem LateB.step {w0 : World} {ρ ρ' : Q → Loc} {H H' : Hp} {a : Act} {w w' : World} {x b : Nat} (h : LateB P all w0 ρ H a w x b) (s : Step ρ H w ρ' H' w') {d : Option Nat} {v : Value} (hd : ∀ o t, all[x]? = some o → o.dst = some t → d ≠ some t) : LateB P all w0 ρ' H' (a.put d v) w' x b := by
 obtain ⟨o, ty, z, h1, h2, h3, h4, h5, h6, h7⟩ := h
 have hlt : b < w.heap.size := (Array.getElem?_eq_some_iff.1 h5).1
 refine ⟨o, ty, z, h1, h2, h3, h4, (s.frame b hlt h6).trans h5, fun q hq => ?_, fun t ht hlt => ?_⟩
 ·rcases s.img q hq with ⟨r, hr, e⟩ | e
  ·rw [e]; exact h6 r hr
  ·omega
 ·rw [put_other (hd o t h1 ht)]
  rw [putE_size] at hlt
  exact h7 t ht hlt
theorem Rdy.closed {S : Nat → Bool} {j : Nat} {o : Oper} (R : Rdy all S j o) : Closed all (fun i => addS S j i = true) := by
 intro i oi hi hS e he
 have mono : ∀ e, S e = true → addS S j e = true := fun e h => by
  unfold addS; split
  ·rfl
  ·exact h
 by_cases hij : i = j
 ·subst hij
  rw [R.op] at hi
  cases hi
  exact mono e (R.bef e he)
 ·have hS : S i = true := by rw [← addS_ne S hij]; exact hS
  exact mono e (R.cl i oi hi hS e he)
theorem DC.push (D : DC P T M all ord env0 h0 acc HH envE hE A pre As post) {S : Nat → Bool} {j : Nat} {o : Oper} (R : Rdy all S j o) {p q : List Rw} {r : Rw} (he : acc = p ++ r :: q) (hr : r.1 = j) (hord : ord = p.map (·.1) ++ j :: q.map (·.1)) (U : List Nat) :
  repF all (fU U (addS S j)) acc env0 = setP o.dst (if j ∈ U then .d else r.2.2.2) (repF all (fU U S) acc env0) := by
 have hnd := linOk_nodup D.hlin hord
 have hp : ∀ r' ∈ p, fU U (addS S j) r' = fU U S r' := fun r' hr' => by
  have : r'.1 ≠ j := fun e => hnd.1 (List.mem_map.2 ⟨r', hr', e⟩)
  unfold fU; rw [addS_ne S this]
 have hq : ∀ r' ∈ q, fU U (addS S j) r' = fU U S r' := fun r' hr' => by
  have : r'.1 ≠ j := fun e => hnd.2 (List.mem_map.2 ⟨r', hr', e⟩)
  unfold fU; rw [addS_ne S this]
 have hd : dstOE all r.1 = o.dst := by rw [hr]; simp [dstOE, R.op]
 have h1 : fU U (addS S j) r = some (if j ∈ U then .d else r.2.2.2) := by
  unfold fU
  rw [hr, if_pos (addS_same S j)]
  split <;> rfl
 have h2 : fU U S r = none := by
  unfold fU
  rw [hr, R.un]
  rfl
 rw [he, repF_append, repF_append, repF_cons, repF_cons, h1, h2, repF_congr hp, repF_congr hq]
 dsimp only
 rw [hd]
 refine repF_push fun r' hr' hf => ?_
 cases hdo : o.dst with
 | none =>
  cases dstOE all r'.1 with
  | none => exact .inl rfl
  | some t => exact .inr (by simp)
 | some d =>
  refine .inr fun e => hf ?_
  have := (D.writers R he hr hord (d := d) (by unfold nmsOf; rw [hdo]; simp)).2 r' (List.mem_cons_of_mem _ hr') e
  unfold fU
  rw [this]
  rfl
theorem DC.names (D : DC P T M all ord env0 h0 acc HH envE hE A pre As post) {S : Nat → Bool} {j : Nat} {o : Oper} (R : Rdy all S j o) (hm : m1 pre As S = true) {x : Nat} (hx : x ∈ As) (hxj : x ≠ j) : ∀ ox t, all[x]? = some ox → ox.dst = some t → o.dst ≠ some t := fun ox t h1 h2 e => by
 have hmem : t ∈ nmsOf all o := by unfold nmsOf; rw [e]; simp
 have hdn : dstN all x (nmsOf all o) = true := by
  unfold dstN
  rw [h1]
  simp only [Option.bind_some, h2]
  exact memN_spec.2 hmem
 rcases D.late.2.2.2 j o R.op with h | h | h
 ·rcases h.2 x hx with h | h
  ·exact hxj h
  ·rw [hdn] at h; cases h
 ·have := (h x hx).1
  rw [hdn] at this
  cases this
 ·have := m1_of (S := S) fun y hy => R.before (h y hy)
  rw [hm] at this
  cases this
theorem DC.named (D : DC P T M all ord env0 h0 acc HH envE hE A pre As post) {S : Nat → Bool} (hall : ∀ x ∈ pre ++ As, S x = true) {ρ0 : Q → Loc} {w0 : World} {B : Nat} (hB : B ≤ w0.heap.size) {a : Act} {w : World} : ∀ (U V : List Nat), As = V ++ U → ∀ (ρ : Q → Loc) (H : Hp) (g : Nat → Nat), HH[pre.length + V.length]? = some H → Emb P ρ H w B → Step ρ0 h0 w0 ρ H w → Env ρ H.nx.num (repF all (fU U S) acc env0) a → LateP P all w0 U S ρ H a w g →
  ∃ ρ' H', HH[pre.length + As.length]? = some H' ∧ Emb P ρ' H' w B ∧ Step ρ0 h0 w0 ρ' H' w ∧ Env ρ' H'.nx.num (repF all (fU [] S) acc env0) a
 | [], V, e, ρ, H, g, h1, h2, h3, h4, h5 => ⟨ρ, H, by rw [e, List.append_nil]; exact h1, h2, h3, h4⟩
 | x :: U, V, e, ρ, H, g, h1, E, s, en, hl => by
  have hxAs : x ∈ As := by rw [e]; simp
  have hxA : x ∈ A := D.late.1 x hxAs
  obtain ⟨o, ho, hal⟩ := D.hA x hxA
  have hxlt : x < all.length := (List.getElem?_eq_some_iff.1 ho).1
  obtain ⟨p, r, q, hacc, hr, hord⟩ := D.at_ hxlt
  have hhv : hvL P all (p.map (·.1)) = pre ++ V := by
   have hvx : isHeavy P o.op = true := (mem_late_heavy D ho hxA).1
   have e1 : hvL P all ord = hvL P all (p.map (·.1)) ++ x :: hvL P all (q.map (·.1)) := by
    conv => lhs; rw [hord]
    have : hvL P all (p.map (·.1) ++ x :: q.map (·.1)) = hvL P all (p.map (·.1)) ++ hvL P all (x :: q.map (·.1)) := List.filter_append ..
    rw [this, hvL_cons_heavy ho hvx]
   have e2 : hvL P all ord = (pre ++ V) ++ x :: (U ++ post) := by rw [D.hhv, e]; simp
   have n1 : x ∉ hvL P all (p.map (·.1)) := fun hm => (linOk_nodup D.hlin hord).1 (List.mem_filter.1 hm).1
   have n2 : x ∉ pre ++ V := fun hm => by
    have := D.ordered e2 hm
    obtain ⟨p1, p2, hpp, g1, g2⟩ := List.filter_eq_append_iff.1 e2
    obtain ⟨l1, l2, hl2, _, _, _⟩ := List.filter_eq_cons_iff.1 g2
    rw [← g1] at hm
    exact (linOk_nodup D.hlin (p := p1 ++ l1) (q := l2) (j := x) (by rw [hpp, hl2]; simp)).1 (by simp [(List.mem_filter.1 hm).1])
   rw [e1] at e2
   have key : ∀ (a b c d : List Nat), x ∉ a → x ∉ c → a ++ x :: b = c ++ x :: d → a = c := by
    intro a
    induction a with
    | nil => intro b c d _ hc h; cases c with
     | nil => rfl
     | cons y c => simp only [List.nil_append, List.cons_append, List.cons.injEq] at h; exact (hc (by rw [h.1]; simp)).elim
    | cons y a ih => intro b c d ha hc h; cases c with
     | nil => simp only [List.nil_append, List.cons_append, List.cons.injEq] at h; exact (ha (by rw [h.1]; simp)).elim
     | cons z c =>
      simp only [List.cons_append, List.cons.injEq] at h
      rw [h.1, ih b c d (fun hm => ha (List.mem_cons_of_mem _ hm)) (fun hm => hc (List.mem_cons_of_mem _ hm)) h.2]
   exact key _ _ _ _ n1 n2 e2
  obtain ⟨o', H1, a1, a2, a3, a4, a5⟩ := D.hat p r q hacc
  rw [hr, ho] at a1
  cases a1
  rw [hhv, List.length_append] at a4 a5
  rw [h1] at a4
  cases a4
  rcases a5 with ⟨hv, H', g1, g2⟩ | ⟨hv, _⟩
  case inr => rw [(mem_late_heavy D ho hxA).1] at hv; cases hv
  obtain ⟨ty, z, v, hop, _, hz, hsz, hy, hH', hone, cs, hcl, hcg, hcr⟩ := alloc_spec hal g2
  obtain ⟨o2, ty2, z2, b1, b2, b3, b4, b5, b6, b7⟩ := hl.1 x (by simp) (hall x (by simp [hxAs]))
  rw [ho] at b1
  cases b1
  rw [hop] at b2
  cases b2
  rw [hz] at b3
  cases b3
  have E' := E.name b5 (Nat.le_trans hB b4) b6 hone hsz hcl hcg (hcr ρ H.nx.num)
  have s' := s.name b4 (.bk ty z.cells.size v) 1
  rw [← hH'] at E' s'
  have hnx : H'.nx = H.nx.succ := by rw [hH']; rfl
  have hNN : H.nx.num ≤ H'.nx.num := by rw [hnx, Q.num_succ]; omega
  have hS : S x = true := hall x (by simp [hxAs])
  have en' : Env (upd ρ H.nx { blk := g x, base := 0, cap := 1 }) H'.nx.num (repF all (fU U S) acc env0) a := by
   have hold := en.mono (upd_lt ρ H.nx { blk := g x, base := 0, cap := 1 }) hNN
   refine ⟨by rw [repF_length, ← repF_length all (fU (x :: U) S) acc env0]; exact hold.size, fun i hi => ?_, hold.defers⟩
   rcases repF_named (g := fU U S) (f := fU (x :: U) S) (L := fun r' => r'.1 = x ∧ r' ∈ acc) (t := i) (acc := acc) (env := env0) (env' := env0) (fun r' hr' => by
    unfold fU
    by_cases hx : r'.1 = x
    ·by_cases hxU : x ∈ U
     ·left
      rw [hx, if_pos hS, if_pos hS, if_pos hxU, if_pos (List.mem_cons_of_mem _ hxU)]
     ·right
      refine ⟨⟨hx, hr'⟩, ?_, ?_⟩
      ·rw [hx, if_pos hS, if_neg hxU]
      ·rw [hx, if_pos hS, if_pos (by simp)]
    ·left
     have : (r'.1 ∈ x :: U) = (r'.1 ∈ U) := by simp [hx]
     simp only [this]) rfl (.inl rfl) with h | ⟨r', ⟨hr', hm⟩, hdst, hval⟩
   ·rw [h]; exact hold.tmp i
   ·have hrr : r' = r := by
     rw [hacc] at hm
     have hnd := linOk_nodup D.hlin hord
     rcases List.mem_append.1 hm with hm | hm
     ·exact (hnd.1 (List.mem_map.2 ⟨r', hm, hr'⟩)).elim
     ·rcases List.mem_cons.1 hm with rfl | hm
      ·rfl
      ·exact (hnd.2 (List.mem_map.2 ⟨r', hm, hr'⟩)).elim
    subst hrr
    rw [hval, hy]
    have hdo : o.dst = some i := by
     unfold dstOE at hdst
     rw [hr, ho] at hdst
     exact hdst
    have hi' : i < a.tmps.size := by rw [← hold.size, repF_length]; rwa [repF_length] at hi
    rw [b7 i hdo hi']
    have := Rel.p (ρ := upd ρ H.nx { blk := g x, base := 0, cap := 1 }) (N := H'.nx.num) H.nx 0 (by rw [hnx, Q.num_succ]; omega)
    rw [upd_same] at this
    exact this
  have hl' : LateP P all w0 U S (upd ρ H.nx { blk := g x, base := 0, cap := 1 }) H' a w g := by
   have hnd : x ∉ U := fun hm => by
    obtain ⟨u1, u2, rfl⟩ := List.append_of_mem hm
    have e2 : hvL P all ord = (pre ++ V ++ x :: u1) ++ x :: (u2 ++ post) := by rw [D.hhv, e]; simp
    obtain ⟨p1, p2, hpp, q1, q2⟩ := List.filter_eq_append_iff.1 e2
    obtain ⟨l1, l2, hl2, _, _, _⟩ := List.filter_eq_cons_iff.1 q2
    have hm : x ∈ p1 := by
     have : x ∈ pre ++ V ++ x :: u1 := by simp
     rw [← q1] at this
     exact (List.mem_filter.1 this).1
    exact (linOk_nodup D.hlin (p := p1 ++ l1) (q := l2) (j := x) (by rw [hpp, hl2]; simp)).1 (by simp [hm])
   refine ⟨fun y hyU hSy => ?_, fun y hyU z hzU => hl.2 y (List.mem_cons_of_mem _ hyU) z (List.mem_cons_of_mem _ hzU)⟩
   obtain ⟨o3, ty3, z3, c1, c2, c3, c4, c5, c6, c7⟩ := hl.1 y (List.mem_cons_of_mem _ hyU) hSy
   refine ⟨o3, ty3, z3, c1, c2, c3, c4, c5, fun qq hq => ?_, c7⟩
   rw [hH'] at hq
   by_cases eq : qq = H.nx
   ·subst eq
    rw [upd_same]
    intro eb
    have := hl.2 x (by simp) y (List.mem_cons_of_mem _ hyU) hS hSy eb
    exact hnd (this ▸ hyU)
   ·rw [Hp.live_mk, HT.get_set_ne _ _ _ _ eq] at hq
    rw [upd_ne _ _ eq]
    exact c6 qq hq
  obtain ⟨ρ2, H2, r1, r2, r3, r4⟩ := DC.named D hall hB U (V ++ [x]) (by rw [e]; simp) (upd ρ H.nx { blk := g x, base := 0, cap := 1 }) H' g (by rw [List.length_append, List.length_singleton, ← Nat.add_assoc]; exact g1) E' s' en' hl'
  exact ⟨ρ2, H2, r1, r2, r3, r4⟩
end
theorem split_eq {x : Nat} : ∀ (a b c d : List Nat), x ∉ a → x ∉ c → a ++ x :: b = c ++ x :: d → a = c ∧ b = d
 | [], b, [], d, _, _, h => ⟨rfl, by simpa using h⟩
 | [], b, y :: c, d, _, hc, h => by simp only [List.nil_append, List.cons_append, List.cons.injEq] at h; exact (hc (by rw [h.1]; simp)).elim
 | y :: a, b, [], d, ha, _, h => by simp only [List.nil_append, List.cons_append, List.cons.injEq] at h; exact (ha (by rw [h.1]; simp)).elim
 | y :: a, b, z :: c, d, ha, hc, h => by
  simp only [List.cons_append, List.cons.injEq] at h
  obtain ⟨h1, h2⟩ := split_eq a b c d (fun hm => ha (List.mem_cons_of_mem _ hm)) (fun hm => hc (List.mem_cons_of_mem _ hm)) h.2
  exact ⟨by rw [h.1, h1], h2⟩
section
variable {P : Program} {T : Tbl} {M : List (Nat × Nat)} {all : List Oper} {ord : List Nat} {env0 : List AV} {h0 : Hp} {acc : List Rw} {HH : List Hp} {envE : List AV} {hE : Hp} {A pre As post : List Nat}
theorem DC.hv_nodup (D : DC P T M all ord env0 h0 acc HH envE hE A pre As post) {a b : List Nat} {x : Nat} (e : hvL P all ord = a ++ x :: b) : x ∉ a ∧ x ∉ b := by
 obtain ⟨p1, p2, hp, g1, g2⟩ := List.filter_eq_append_iff.1 e
 obtain ⟨l1, l2, hl2, _, _, g3⟩ := List.filter_eq_cons_iff.1 g2
 have := linOk_nodup D.hlin (p := p1 ++ l1) (q := l2) (j := x) (by rw [hp, hl2]; simp)
 refine ⟨fun hm => ?_, fun hm => ?_⟩
 ·rw [← g1] at hm
  exact this.1 (by simp [(List.mem_filter.1 hm).1])
 ·rw [← g3] at hm
  exact this.2 (List.mem_filter.1 hm).1
theorem DC.place (D : DC P T M all ord env0 h0 acc HH envE hE A pre As post) {j : Nat} {o : Oper} (ho : all[j]? = some o) (hv : isHeavy P o.op = true) {p q : List Rw} (hord : ord = p.map (·.1) ++ j :: q.map (·.1)) {c d : List Nat} (e : hvL P all ord = c ++ j :: d) : hvL P all (p.map (·.1)) = c := by
 have e1 : hvL P all ord = hvL P all (p.map (·.1)) ++ j :: hvL P all (q.map (·.1)) := by
  conv => lhs; rw [hord]
  have : hvL P all (p.map (·.1) ++ j :: q.map (·.1)) = hvL P all (p.map (·.1)) ++ hvL P all (j :: q.map (·.1)) := List.filter_append ..
  rw [this, hvL_cons_heavy ho hv]
 exact (split_eq _ _ _ _ (D.hv_nodup e1).1 (D.hv_nodup e).1 (e1.symm.trans e)).1
theorem count_next {S : Nat → Bool} {j : Nat} {c d : List Nat} (hj : S j = false) (hc : ∀ y ∈ c, S y = true) (hd : ∀ y ∈ d, S y = false) (hjd : j ∉ d) : ((c ++ j :: d).filter S).length = c.length ∧ ((c ++ j :: d).filter (addS S j)).length = c.length + 1 := by
 have f1 : c.filter S = c := List.filter_eq_self.2 hc
 have f2 : d.filter S = [] := List.filter_eq_nil_iff.2 fun y hy => by rw [hd y hy]; simp
 have g1 : c.filter (addS S j) = c := List.filter_eq_self.2 fun y hy => by
  unfold addS; split
  ·rfl
  ·exact hc y hy
 have g2 : d.filter (addS S j) = [] := List.filter_eq_nil_iff.2 fun y hy => by
  rw [addS_ne S (fun (e : y = j) => hjd (e ▸ hy)), hd y hy]; simp
 constructor
 ·rw [List.filter_append, f1, List.filter_cons_of_neg (by rw [hj]; simp), f2, List.append_nil]
 ·rw [List.filter_append, g1, List.filter_cons_of_pos (addS_same S j), g2]; simp
theorem filter_same {S : Nat → Bool} {j : Nat} {l : List Nat} (h : j ∉ l) : l.filter (addS S j) = l.filter S :=
 List.filter_congr fun y hy => addS_ne S fun (e : y = j) => h (e ▸ hy)
theorem DC.finish (D : DC P T M all ord env0 h0 acc HH envE hE A pre As post) {S : Nat → Bool} {j : Nat} {o : Oper} (R : Rdy all S j o) {ρ0 : Q → Loc} {w0 : World} {B : Nat} (hB : B ≤ w0.heap.size) {a : Act} {w : World} {ρ : Q → Loc} {H : Hp} (E : Emb P ρ H w B) (s : Step ρ0 h0 w0 ρ H w)
  (h1 : m1 pre As S = true → HH[(pre.filter (addS S j)).length]? = some H ∧ Env ρ H.nx.num (repF all (fU As (addS S j)) acc env0) a ∧ ∃ g, LateP P all w0 As (addS S j) ρ H a w g)
  (h2 : m1 pre As S = false → HH[pre.length + As.length + (post.filter (addS S j)).length]? = some H ∧ Env ρ H.nx.num (repF all (fU [] (addS S j)) acc env0) a) (hjp : m1 pre As S = true → j ∉ post) : Inv P all env0 h0 acc HH pre As post ρ0 w0 B (addS S j) a w := by
 refine ⟨R.closed, ?_⟩
 have mono : ∀ e, S e = true → addS S j e = true := fun e h => by
  unfold addS; split
  ·rfl
  ·exact h
 cases hm : m1 pre As S with
 | false =>
  have hm' : m1 pre As (addS S j) = false := m1_of fun x hx => mono x (m1_false hm x hx)
  obtain ⟨g1, g2⟩ := h2 hm
  exact ⟨ρ, H, by unfold idxS; rw [hm']; exact g1, E, s, by rw [fS_m2 hm']; exact g2, fun h => by rw [hm'] at h; cases h⟩
 | true =>
  obtain ⟨g1, g2, g, g3⟩ := h1 hm
  cases hm' : m1 pre As (addS S j) with
  | true => exact ⟨ρ, H, by unfold idxS; rw [hm', if_pos rfl]; exact g1, E, s, by rw [fS_m1 hm']; exact g2, fun _ => ⟨g, g3⟩⟩
  | false =>
   have hall := m1_false hm'
   have hpre : pre.filter (addS S j) = pre := List.filter_eq_self.2 fun y hy => hall y (by simp [hy])
   have hpost : post.filter (addS S j) = [] := by
    rw [filter_same (hjp hm), List.filter_eq_nil_iff]
    intro y hy hS
    rw [D.post_m1 R.cl hy hS] at hm
    cases hm
   rw [hpre] at g1
   obtain ⟨ρ', H', r1, r2, r3, r4⟩ := D.named hall hB As [] rfl ρ H g (by simpa using g1) E s g2 g3
   exact ⟨ρ', H', by unfold idxS; rw [hm', if_neg (by simp), hpost]; simpa using r1, r2, r3, by rw [fS_m2 hm']; exact r4, fun h => by cases h⟩
end
section
variable {P : Program} {T : Tbl} {M : List (Nat × Nat)} {ops : Array Oper} {ord : List Nat} {env0 : List AV} {h0 : Hp} {acc : List Rw} {HH : List Hp} {envE : List AV} {hE : Hp} {A pre As post : List Nat}
theorem wpOp_of {QQ : Exit → Act → World → Prop} {K : Act → World → Prop} {j : Nat} {o : Oper} (ho : ops.toList[j]? = some o) {a : Act} {w : World} (h : if Region.wanted o (yielded ops a.tmps) then o.wp P a w K QQ else K (a.put o.dst undef) w) : wpOp P ops QQ j K a w := by
 have ho' : ops[j]? = some o := by rw [← Array.getElem?_toList]; exact ho
 unfold wpOp
 rw [ho']
 dsimp only
 split
 ·rename_i hw; rw [if_pos hw] at h; exact .inl h
 ·rename_i hw; rw [if_neg hw] at h; exact h
theorem DC.step (D : DC P T M ops.toList ord env0 h0 acc HH envE hE A pre As post) (hT : SoundT P T) {S : Nat → Bool} {j : Nat} {o : Oper} (R : Rdy ops.toList S j o) {ρ0 : Q → Loc} {w0 : World} {B : Nat} (hB : B ≤ w0.heap.size) {a : Act} {w : World} (I : Inv P ops.toList env0 h0 acc HH pre As post ρ0 w0 B S a w) {QQ : Exit → Act → World → Prop} {K : Act → World → Prop} (hK : ∀ a' w', Inv P ops.toList env0 h0 acc HH pre As post ρ0 w0 B (addS S j) a' w' → K a' w') : wpOp P ops QQ j K a w := by
 obtain ⟨_, ρ, H, hH, E, s, en, hlate⟩ := I
 have hjlt : j < ops.toList.length := (List.getElem?_eq_some_iff.1 R.op).1
 obtain ⟨p, r, q, hacc, hr, hord⟩ := D.at_ hjlt
 refine wpOp_of R.op ?_
 by_cases hjA : j ∈ A
 ·
  obtain ⟨o', e1, hal⟩ := D.hA j hjA
  rw [R.op] at e1
  cases e1
  have hheavy := (mem_late_heavy D R.op hjA).1
  have hjhv : j ∈ pre ++ As ++ post := by
   rw [← D.hhv]
   refine List.mem_filter.2 ⟨by rw [hord]; simp, ?_⟩
   rw [R.op]; exact hheavy
  have hjpre : j ∉ pre := fun h => D.hpre j h hjA
  have hjpost : j ∉ post := fun h => D.late.2.1 j h hjA
  have hjAs : j ∈ As := by
   rcases List.mem_append.1 hjhv with h | h
   ·rcases List.mem_append.1 h with h | h
    ·exact (hjpre h).elim
    ·exact h
   ·exact (hjpost h).elim
  have hm : m1 pre As S = true := by
   cases hm : m1 pre As S with
   | true => rfl
   | false =>
    have := m1_false hm j (by simp [hjAs])
    rw [R.un] at this
    cases this
  obtain ⟨o2, H1, a1, _, _, _, a5⟩ := D.hat p r q hacc
  rw [hr, R.op] at a1
  cases a1
  rcases a5 with ⟨_, H', _, g2⟩ | ⟨hv, _⟩
  case inr => rw [hheavy] at hv; cases hv
  obtain ⟨ty, z, v, hop, hg, hz, _⟩ := alloc_spec hal g2
  have hw : Region.wanted o (yielded ops a.tmps) = true := by simp [Region.wanted, hg]
  rw [if_pos hw]
  have hrun : (execOp a.eval o).run P w = .ok (.value (.pointer (some ⟨w.heap.size, 0, none⟩))) { w with heap := w.heap.push (.cells z.cells ty (0, 0)) } := by
   have : execOp a.eval o = (do pure (.value (← Instr.alloc ty true (.tuple #[]))) : Sem Next) := by
    obtain ⟨dst, op, type, pos, after, guard⟩ := o
    cases hop
    rfl
   rw [this]
   simp [alloc_run ty z hz, box_run]
  refine wp_of_value hrun (hK _ _ ?_)
  obtain ⟨g, hl⟩ := hlate hm
  rw [fS_m1 hm] at en
  have hidx : (pre.filter S).length = (pre.filter (addS S j)).length := by rw [filter_same hjpre]
  refine D.finish R hB (E.grow1 _) (s.trans (Step.grow1 ρ H w _)) (fun _ => ⟨?_, ?_, fun x => if x = j then w.heap.size else g x, ?_, ?_⟩) (fun h => by rw [hm] at h; cases h) (fun _ => hjpost)
  ·rw [← hidx]
   unfold idxS at hH
   rw [hm, if_pos rfl] at hH
   exact hH
  ·rw [D.push R hacc hr hord As, if_pos hjAs]
   exact en.setP o.dst (.d _)
  ·intro x hx hSx
   dsimp only
   by_cases hxj : x = j
   ·subst hxj
    rw [if_pos rfl]
    refine ⟨o, ty, z, R.op, hop, hz, s.size, by simp, fun q hq => ?_, fun d hd hlt => ?_⟩
    ·have := E.blk_lt hq; omega
    ·rw [hd]
     rw [putE_size] at hlt
     simp [Act.put, hlt]
   ·rw [if_neg hxj]
    rw [addS_ne S hxj] at hSx
    exact (hl.1 x hx hSx).step (Step.grow1 ρ H w _) fun ox t h1 h2 => D.names R hm hx hxj ox t h1 h2
  ·intro x hx y hy hSx hSy he
   dsimp only at he
   have lt : ∀ z ∈ As, z ≠ j → addS S j z = true → g z < w.heap.size := fun z hz hzj hSz => by
    rw [addS_ne S hzj] at hSz
    obtain ⟨_, _, _, _, _, _, _, h5, _⟩ := hl.1 z hz hSz
    exact (Array.getElem?_eq_some_iff.1 h5).1
   by_cases hxj : x = j
   ·by_cases hyj : y = j
    ·rw [hxj, hyj]
    ·rw [if_pos hxj, if_neg hyj] at he
     have := lt y hy hyj hSy
     omega
   ·by_cases hyj : y = j
    ·rw [if_neg hxj, if_pos hyj] at he
     have := lt x hx hxj hSx
     omega
    ·rw [if_neg hxj, if_neg hyj] at he
     rw [addS_ne S hxj] at hSx
     rw [addS_ne S hyj] at hSy
     exact hl.2 x hx y hy hSx hSy he
 ·
  have hjAs : j ∉ As := fun h => hjA (D.late.1 j h)
  have hnext : ∃ H', (∀ k, gopD P T M ops.toList o r.2.2.1 H k = k r.2.2.2 H') ∧ (m1 pre As S = true → HH[(pre.filter (addS S j)).length]? = some H' ∧ j ∉ post) ∧ (m1 pre As S = false → HH[pre.length + As.length + (post.filter (addS S j)).length]? = some H') := by
   cases hv : isHeavy P o.op with
   | false =>
    have hnot : j ∉ pre ++ As ++ post := fun hm => by
     obtain ⟨o', e1, e2⟩ := D.heavyOf hm
     rw [R.op] at e1
     cases e1
     rw [hv] at e2
     cases e2
    simp only [List.mem_append, not_or] at hnot
    refine ⟨H, D.light R hv hacc hr hH, fun hm => ⟨?_, hnot.2⟩, fun hm => ?_⟩
    ·rw [filter_same hnot.1.1]
     unfold idxS at hH
     rw [hm, if_pos rfl] at hH
     exact hH
    ·rw [filter_same hnot.2]
     unfold idxS at hH
     rw [hm, if_neg (by simp)] at hH
     exact hH
   | true =>
    have hjhv : j ∈ pre ++ As ++ post := by
     rw [← D.hhv]
     refine List.mem_filter.2 ⟨by rw [hord]; simp, ?_⟩
     rw [R.op]; exact hv
    obtain ⟨o2, H1, a1, _, _, a4, a5⟩ := D.hat p r q hacc
    rw [hr, R.op] at a1
    cases a1
    rcases a5 with ⟨_, H', g1, g2⟩ | ⟨hv', _⟩
    case inr => rw [hv] at hv'; cases hv'
    have fin : ∀ (c d : List Nat), hvL P ops.toList ord = c ++ j :: d → (idxS pre As post S = c.length) → (∀ k, gopD P T M ops.toList o r.2.2.1 H k = k r.2.2.2 H') ∧ HH[c.length + 1]? = some H' := fun c d e hi => by
     rw [D.place R.op hv hord e] at a4 g1
     rw [← hi, hH] at a4
     cases a4
     exact ⟨g2, g1⟩
    rcases List.mem_append.1 hjhv with h | h
    ·rcases List.mem_append.1 h with h | h
     ·
      obtain ⟨c, d, hcd⟩ := List.append_of_mem h
      have e : hvL P ops.toList ord = c ++ j :: (d ++ As ++ post) := by rw [D.hhv, hcd]; simp
      have hm : m1 pre As S = true := by
       cases hm : m1 pre As S with
       | true => rfl
       | false =>
        have := m1_false hm j (by simp [h])
        rw [R.un] at this
        cases this
      have hc : ∀ y ∈ c, S y = true := fun y hy => R.before (D.chain e hy hjA (D.hpre y (by rw [hcd]; simp [hy])))
      have hd : ∀ y ∈ d, S y = false := fun y hy => by
       obtain ⟨d1, d2, rfl⟩ := List.append_of_mem hy
       obtain ⟨oy, h1, _⟩ := D.heavyOf (i := y) (by rw [hcd]; simp)
       exact R.behind h1 (D.chain (a := c ++ j :: d1) (b := d2 ++ As ++ post) (x := y) (y := j) (by rw [D.hhv, hcd]; simp) (by simp) (D.hpre y (by rw [hcd]; simp)) hjA)
      have hjd : j ∉ d := fun hm => (D.hv_nodup e).2 (by simp [hm])
      obtain ⟨n1, n2⟩ := count_next R.un hc hd hjd
      obtain ⟨f1, f2⟩ := fin c _ e (by unfold idxS; rw [hm, if_pos rfl, hcd]; exact n1)
      refine ⟨H', f1, fun _ => ⟨by rw [hcd, n2]; exact f2, fun hp => (D.hv_nodup e).2 (by simp [hp])⟩, fun h' => by rw [hm] at h'; cases h'⟩
     ·exact (hjAs h).elim
    ·
     obtain ⟨c, d, hcd⟩ := List.append_of_mem h
     have e : hvL P ops.toList ord = (pre ++ As ++ c) ++ j :: d := by rw [D.hhv, hcd]; simp
     have hm : m1 pre As S = false := m1_of fun x hx => R.before (D.late.2.2.1 j h x hx)
     have hc : ∀ y ∈ c, S y = true := fun y hy => R.before (D.chain e (by simp [hy]) hjA (D.late.2.1 y (by rw [hcd]; simp [hy])))
     have hd : ∀ y ∈ d, S y = false := fun y hy => by
      obtain ⟨d1, d2, rfl⟩ := List.append_of_mem hy
      obtain ⟨oy, h1, _⟩ := D.heavyOf (i := y) (by rw [hcd]; simp)
      exact R.behind h1 (D.chain (a := pre ++ As ++ c ++ j :: d1) (b := d2) (x := y) (y := j) (by rw [D.hhv, hcd]; simp) (by simp) (D.late.2.1 y (by rw [hcd]; simp)) hjA)
     have hjd : j ∉ d := (D.hv_nodup e).2
     obtain ⟨n1, n2⟩ := count_next R.un hc hd hjd
     obtain ⟨f1, f2⟩ := fin _ d e (by unfold idxS; rw [hm, if_neg (by simp), hcd, n1]; simp; omega)
     refine ⟨H', f1, fun h' => (by rw [hm] at h'; cases h'), fun _ => by rw [hcd, n2]; simpa [Nat.add_assoc] using f2⟩
  obtain ⟨H', hk, hx1, hx2⟩ := hnext
  classical
  refine gopD_sound (M := M) (T := T) E hT ops o (env := r.2.2.1) (k := fun y' h' => decide (y' = r.2.2.2 ∧ h' = H')) (fun t ht => ?_) (by rw [hk]; simp) (fun y' v w' ρ' h' E' s' r' hk' => ?_)
  ·rw [← D.agree R hacc hr hord ht]
   exact en.tmp t
  ·have hk' : y' = r.2.2.2 ∧ h' = H' := by simpa using hk'
   obtain ⟨rfl, rfl⟩ := hk'
   refine hK _ _ (D.finish R hB E' (s.trans s') (fun hm => ?_) (fun hm => ?_) fun hm => (hx1 hm).2)
   ·obtain ⟨g, hl⟩ := hlate hm
    rw [fS_m1 hm] at en
    refine ⟨(hx1 hm).1, ?_, g, fun x hx hSx => ?_, fun x hx y hy hSx hSy he => ?_⟩
    ·rw [D.push R hacc hr hord As, if_neg hjAs]
     exact (en.mono s'.ext s'.nx).setP o.dst r'
    ·have hxj : x ≠ j := fun (e : x = j) => hjAs (e ▸ hx)
     rw [addS_ne S hxj] at hSx
     exact (hl.1 x hx hSx).step s' fun ox t h1 h2 => D.names R hm hx hxj ox t h1 h2
    ·rw [addS_ne S (fun (e : x = j) => hjAs (e ▸ hx))] at hSx
     rw [addS_ne S (fun (e : y = j) => hjAs (e ▸ hy))] at hSy
     exact hl.2 x hx y hy hSx hSy he
   ·rw [fS_m2 hm] at en
    refine ⟨hx2 hm, ?_⟩
    rw [D.push R hacc hr hord [], if_neg (by simp)]
    exact (en.mono s'.ext s'.nx).setP o.dst r'
end
theorem capp_clam_eq : ∀ (n : Nat) (f : List AV → Hp → Bool) (l : List AV) (h : Hp), l.length = n → capp n (clam n f) l h = f l h
 | 0, _, [], _, _ => rfl
 | 0, _, _ :: _, _, hh => by cases hh
 | n + 1, _, [], _, hh => by cases hh
 | n + 1, f, x :: l, h, hh => capp_clam_eq n (fun l => f (x :: l)) l h (by simpa using hh)
theorem capp_clam_ne : ∀ (n : Nat) (f : List AV → Hp → Bool) (l : List AV) (h : Hp), l.length ≠ n → capp n (clam n f) l h = false
 | 0, _, [], _, hh => (hh rfl).elim
 | 0, _, _ :: _, _, _ => rfl
 | n + 1, _, [], _, _ => rfl
 | n + 1, f, x :: l, h, hh => capp_clam_ne n (fun l => f (x :: l)) l h (fun e => hh (by simp [e]))
section
variable {α β : Type} {P : Program} {T : Tbl} {M : List (Nat × Nat)}
theorem Det2.setO (d : Option Nat) (x : AV) (env : List AV) {g : List AV → (α → β → Bool) → Bool} (hg : ∀ e, Det2 (g e)) : Det2 (fun k => setO d x env fun e => g e k) := (hg _).congr fun _ => setO_eq _ _ _ _
theorem opsD_det (hT : SoundT P T) (all : List Oper) {g : List AV → Hp → (α → β → Bool) → Bool} (hg : ∀ e h, Det2 (g e h)) : ∀ (l : List Oper) (env : List AV) (h : Hp), Det2 (fun k => opsD P T M all l env h fun e h' => g e h' k)
 | [], env, h => hg env h
 | o :: l, env, h => (gopD_det hT M all o env h).bind2 (g := fun y h' k => setO o.dst y env fun env' => opsD P T M all l env' h' fun e h' => g e h' k) fun y h' => Det2.setO _ _ _ fun env' => opsD_det hT all hg l env' h'
theorem rck1_det (hT : SoundT P T) (all : List Oper) (pm hv : List Nat) (r : Nat × Nat × List AV × AV) (o : Oper) {g : (α → β → Bool) → Bool} (hg : Det2 g) : ∀ (hs : List Hp) (c : Nat), Det2 (fun k => rck1 P T M all pm hv r o hs c (g k))
 | [], _ => hg
 | h :: hs, c => by
  have ih := rck1_det hT all pm hv r o hg hs (Nat.succ c)
  show Det2 fun k => (match mayAt pm hv r.1 c && !(Nat.beq (Nat.succ c) r.2.1) with
   | true => gopD P T M all o r.2.2.1 h fun y _ => ifT (avEq y r.2.2.2) (rck1 P T M all pm hv r o hs (Nat.succ c) (g k))
   | false => rck1 P T M all pm hv r o hs (Nat.succ c) (g k))
  cases mayAt pm hv r.1 c && !(Nat.beq (Nat.succ c) r.2.1) with
  | true => exact (gopD_det hT M all o r.2.2.1 h).bind2 (g := fun y _ k => ifT (avEq y r.2.2.2) (rck1 P T M all pm hv r o hs (Nat.succ c) (g k))) fun _ _ => det2_ifT ih
  | false => exact ih
theorem rckL_det (hT : SoundT P T) (all : List Oper) (pm hv : List Nat) (hs : List Hp) {g : (α → β → Bool) → Bool} (hg : Det2 g) : ∀ acc : List (Nat × Nat × List AV × AV), Det2 (fun k => rckL P T M all pm hv hs acc (g k))
 | [] => hg
 | r :: acc => by
  have ih := rckL_det hT all pm hv hs hg acc
  show Det2 fun k => (match all[r.1]? with
   | some o => match isRead P o.op with
    | true => rck1 P T M all pm hv r o hs 0 (rckL P T M all pm hv hs acc (g k))
    | false => rckL P T M all pm hv hs acc (g k)
   | none => false)
  cases all[r.1]? with
  | none => exact Det2.fail
  | some o =>
   dsimp only
   cases isRead P o.op with
   | true => exact rck1_det hT all pm hv r o ih hs 0
   | false => exact ih
theorem runG_det (hT : SoundT P T) (all : List Oper) {g : List (Nat × Nat × List AV × AV) → List Hp → List AV → Hp → (α → β → Bool) → Bool} (hg : ∀ a hs e h, Det2 (g a hs e h)) : ∀ (ord : List Nat) (acc : List (Nat × Nat × List AV × AV)) (hs : List Hp) (env : List AV) (h : Hp), Det2 (fun k => runG P T M all ord acc hs env h fun a hs e h => g a hs e h k)
 | [], acc, hs, env, h => hg acc hs env h
 | i :: ord, acc, hs, env, h => by
  show Det2 fun k => (match all[i]? with
   | some o => gopD P T M all o env h fun y h' => setO o.dst y env fun env' => runG P T M all ord (acc ++ [(i, hs.length, env, y)]) (match isHeavy P o.op with
    | true => hs ++ [h']
    | false => hs) env' h' fun a hs e h => g a hs e h k
   | none => false)
  cases all[i]? with
  | none => exact Det2.fail
  | some o => exact (gopD_det hT M all o env h).bind2 (g := fun y h' k => setO o.dst y env fun env' => runG P T M all ord (acc ++ [(i, hs.length, env, y)]) (match isHeavy P o.op with
    | true => hs ++ [h']
    | false => hs) env' h' fun a hs e h => g a hs e h k) fun y h' => Det2.setO _ _ _ fun env' => runG_det hT all hg ord _ _ env' h'
theorem drawD_det (hT : SoundT P T) (all : List Oper) (ord : List Nat) (env : List AV) (h : Hp) {g : List AV → Hp → (α → β → Bool) → Bool} (hg : ∀ e h, Det2 (g e h)) : Det2 (fun k => drawD P T M all ord env h fun e h' => g e h' k) := by
 simp only [drawD]
 cases ordOk P all ord with
 | false => exact Det2.fail
 | true => exact runG_det hT all (g := fun acc hs env' h' k => rckL P T M all (mskL all []) (hvL P all ord) hs acc (g env' h' k)) (fun acc hs e h => rckL_det hT all _ _ hs (hg e h) acc) ord [] [h] env h
theorem beK_det {g : List AV → (α → β → Bool) → Bool} (hg : ∀ e, Det2 (g e)) : ∀ (W : List Nat) (vals env : List AV), Det2 (fun k => beK W vals env fun e => g e k)
 | [], _, env => hg env
 | i :: W, [], env => Det2.fail
 | i :: W, x :: vals, env => (beK_det hg W vals (env.set i x)).congr fun k => lsK_eq x env i fun env' => beK W vals env' fun e => g e k
theorem met_det {N : Nat} (W : List Nat) (e0 : List AV) (h : Hp) {g : List AV → Hp → (α → β → Bool) → Bool} (hg : ∀ e h, Det2 (g e h)) : Det2 (fun k => capp W.length (clam W.length fun vals h => beK W vals (List.replicate N .d) fun env => g env h k) (sel W e0) h) :=
 (beK_det (fun e => hg e h) W (sel W e0) (List.replicate N .d)).congr fun _ => capp_clam_eq _ _ _ _ (by simp [sel])
theorem cdK_det (x : AV) {g1 g2 : (α → β → Bool) → Bool} (h1 : Det2 g1) (h2 : Det2 g2) : Det2 (fun k => cdK x (g1 k) (g2 k)) := by
 cases x <;> first | exact Det2.fail | exact Det2.bool _ h2 h1
theorem den_det (hT : SoundT P T) {N : Nat} : ∀ (c : Code) {ann : Ann} {K : (α → β → Bool) → Kt} (env : List AV) (h : Hp), (∀ e env h, Det2 (fun k => K k e env h)) → Det2 (fun k => den P T M N c ann (K k) env h) := by
 intro c
 induction c with
 | skip => intro ann K env h H; exact H .n env h
 | region id ops draw =>
  intro ann K env h H
  cases draw with
  | false => exact opsD_det hT ops.toList (g := fun e h k => K k .n e h) (fun e h => H .n e h) ops.toList env h
  | true =>
   cases ann <;> first | exact Det2.fail | skip
   case g ord => exact drawD_det hT ops.toList ord env h (g := fun e h k => K k .n e h) (fun e h => H .n e h)
 | seq x y ihx ihy =>
  intro ann K env h H
  cases ann <;> first | exact Det2.fail | skip
  case s ax ay =>
   exact ihx (ann := ax) (K := fun k => seqK (den P T M N y ay (K k)) (K k)) env h fun e env h => by
    cases e with
    | n => exact ihy env h H
    | x i => exact H (.x i) env h
    | r => exact H .r env h
 | cond cc x y ihx ihy =>
  intro ann K env h H
  cases ann <;> first | exact Det2.fail | skip
  case i ax ay => exact cdK_det _ (ihx env h H) (ihy env h H)
  case j W ax ay =>
   have H2 : ∀ e env h, Det2 (fun k => jK W.length (metK N W (K k)) W (K k) e env h) := fun e env h => by
    cases e with
    | n => exact met_det W env h (g := fun e h k => K k .n e h) fun e h => H .n e h
    | x i => exact H (.x i) env h
    | r => exact H .r env h
   exact cdK_det _ (ihx env h H2) (ihy env h H2)
 | block id x ihx =>
  intro ann K env h H
  have step : ∀ (K2 : (α → β → Bool) → Kt), (∀ e env h, Det2 (fun k => K2 k e env h)) → ∀ e env h, Det2 (fun k => blkK id (K2 k) e env h) := fun K2 H2 e env h => by
   cases e with
   | n => exact H2 .n env h
   | x i => exact Det2.bool _ (H2 (.x i) env h) (H2 .n env h)
   | r => exact H2 .r env h
  cases ann <;> first | exact Det2.fail | skip
  case b ax => exact ihx env h (step K H)
  case k W ax =>
   have H2 : ∀ e env h, Det2 (fun k => jK W.length (metK N W (K k)) W (K k) e env h) := fun e env h => by
    cases e with
    | n => exact met_det W env h (g := fun e h k => K k .n e h) fun e h => H .n e h
    | x i => exact H (.x i) env h
    | r => exact H .r env h
   exact ihx env h (step (fun k => jK W.length (metK N W (K k)) W (K k)) H2)
 | loop x ihx =>
  intro ann K env h H
  cases ann <;> first | exact Det2.fail | skip
  case l W ax =>
   let F : ((α → β → Bool) → Kt) → (α → β → Bool) → CT W.length → CT W.length := fun K k ih => clam W.length fun vals h' => beK W vals (List.replicate N .d) fun env' => den P T M N x ax (jK W.length ih W (K k)) env' h'
   have key : ∀ (m : Nat) (env : List AV) (h : Hp), Det2 (fun k => capp W.length (lpR W.length (F K k) m) (sel W env) h) := by
    intro m
    induction m with
    | zero => intro env h; exact Det2.congr (fun k => capp_clam_eq _ _ _ _ (by simp [sel])) (Det2.fail)
    | succ m ih =>
     intro env h
     refine met_det W env h (g := fun e h k => den P T M N x ax (jK W.length (lpR W.length (F K k) m) W (K k)) e h) fun e h => ?_
     refine ihx (K := fun k => jK W.length (lpR W.length (F K k) m) W (K k)) e h fun e env h => ?_
     cases e with
     | n => exact ih env h
     | x i => exact H (.x i) env h
     | r => exact H .r env h
   exact key 100000 env h
 | rangeFunc f ps x y _ _ => intro ann K env h _; exact Det2.fail
 | exit id => intro ann K env h H; exact H (.x id) env h
 | scope x _ => intro ann K env h _; exact Det2.fail
 | label l => intro ann K env h _; exact Det2.fail
 | goto l => intro ann K env h _; exact Det2.fail
 | ret => intro ann K env h H; exact H .r env h
 | refuse why => intro ann K env h _; exact Det2.fail
theorem ret1_det (l : List AV) (h : Hp) : Det2 (ret1 l h) := by
 rcases l with _ | ⟨x, _ | ⟨y, l⟩⟩ <;> exact Det2.ret _ _
theorem resD_det (env : List AV) (h : Hp) {g : List AV → (α → β → Bool) → Bool} (hg : ∀ l, Det2 (g l)) : ∀ (rs : List ResultVar) (f : List AV → List AV), Det2 (fun k => resD P env h rs fun l => g (f l) k)
 | [], f => hg _
 | .tmp t :: rs, f => resD_det env h hg rs fun l => f (env.getD t .d :: l)
 | .cell a t :: rs, f => by
  show Det2 fun k => (match aggOf P t with
   | some (true, n) => ldN n (env.getD a .d) h fun y => resD P env h rs fun l => g (f (y :: l)) k
   | some (false, _) => ld1 (env.getD a .d) h fun y => resD P env h rs fun l => g (f (y :: l)) k
   | none => false)
  rcases aggOf P t with _ | ⟨_ | _, n⟩
  ·exact Det2.fail
  ·exact Det.to2 (f := fun k => ld1 (env.getD a .d) h k) (g := fun y k => resD P env h rs fun l => g (f (y :: l)) k) (det_on_p fun _ _ => det_on fun _ _ _ => det_ifT (Det.ret _)) fun y => resD_det env h hg rs fun l => f (y :: l)
  ·exact Det.to2 (f := fun k => ldN n (env.getD a .d) h k) (g := fun y k => resD P env h rs fun l => g (f (y :: l)) k) (det_on_p fun _ _ => det_on fun _ _ _ => det_ifT (Det.ret _)) fun y => resD_det env h hg rs fun l => f (y :: l)
theorem retK_det (rs : List ResultVar) (e : Ex) (env : List AV) (h : Hp) : Det2 (fun k => retK P rs k e env h) := by
 cases e with
 | n => exact resD_det env h (g := fun l k => ret1 l h k) (fun l => ret1_det l h) rs fun l => l
 | x i => exact Det2.fail
 | r => exact resD_det env h (g := fun l k => ret1 l h k) (fun l => ret1_det l h) rs fun l => l
theorem fnD_det (hT : SoundT P T) (n N : Nat) (rs : List ResultVar) (c : Code) (ann : Ann) (args : List AV) (h : Hp) : Det2 (fnD P T M n N rs c ann args h) := by
 by_cases hl : args.length = n
 ·exact (den_det (M := M) (N := N) hT c (ann := ann) (K := retK P rs) (args ++ List.replicate (N - n) .d) h (retK_det rs)).congr fun k => capp_clam_eq n (fun vals h => den P T M N c ann (retK P rs k) (vals ++ List.replicate (N - n) .d) h) args h hl
 ·exact Det2.fail.congr fun k => capp_clam_ne n (fun vals h => den P T M N c ann (retK P rs k) (vals ++ List.replicate (N - n) .d) h) args h hl
end
section
variable {P : Program} {ρ : Q → Loc} {h : Hp} {w : World} {B : Nat} {T : Tbl} {M : List (Nat × Nat)}
def resOf (tmps : Array Value) : ResultVar → Sem Value := fun
 | .tmp t => pure (tmps.getD t undef)
 | .cell a t => do loadVar t (← asAddr (tmps.getD a undef))
theorem load_asAddr {t : TypeId} {u v : Value} (hp : ∃ a, u = .pointer (some a)) (hl : (Instr.loadAt t u).run P w = .ok v w) : (do loadVar t (← asAddr u) : Sem Value).run P w = .ok v w := by
 obtain ⟨a, rfl⟩ := hp
 simpa [Instr.loadAt, Instr.sureAddr, asAddr] using hl
theorem res_sound (E : Emb P ρ h w B) {env : List AV} {a : Act} (en : Env ρ h.nx.num env a) : ∀ {rs : List ResultVar} {k : List AV → Bool}, resD P env h rs k = true → ∃ l vs, k l = true ∧ (rs.mapM (m := Sem) (resOf a.tmps)).run P w = .ok vs w ∧ RelL ρ h.nx.num l vs
 | [], k, hk => ⟨[], [], hk, by simp, .nil⟩
 | .tmp t :: rs, k, hk => by
  obtain ⟨l, vs, h1, h2, h3⟩ := res_sound E en (rs := rs) (k := fun l => k (env.getD t .d :: l)) hk
  exact ⟨_, a.tmps.getD t undef :: vs, h1, by simp [List.mapM_cons, resOf, h2], .cons _ _ _ _ (en.tmp t) h3⟩
 | .cell b t :: rs, k, hk => by
  have hk : (match aggOf P t with
   | some (true, n) => ldN n (env.getD b .d) h fun y => resD P env h rs fun l => k (y :: l)
   | some (false, _) => ld1 (env.getD b .d) h fun y => resD P env h rs fun l => k (y :: l)
   | none => false) = true := hk
  have hb := en.tmp b
  have key : ∀ {y : AV} {v : Value}, (Instr.loadAt t (a.tmps.getD b undef)).run P w = .ok v w → Rel ρ h.nx.num y v → resD P env h rs (fun l => k (y :: l)) = true → (∃ a', a.tmps.getD b undef = .pointer (some a')) → ∃ l vs, k l = true ∧ ((ResultVar.cell b t :: rs).mapM (m := Sem) (resOf a.tmps)).run P w = .ok vs w ∧ RelL ρ h.nx.num l vs := fun {y v} h1 h2 h3 hp => by
   obtain ⟨l, vs, g1, g2, g3⟩ := res_sound E en (rs := rs) h3
   have hl := load_asAddr hp h1
   have hl' : (resOf a.tmps (.cell b t)).run P w = .ok v w := hl
   exact ⟨_, v :: vs, g1, by simp only [List.mapM_cons, Sem.run_bind, hl', Result.andThen_ok, g2, Sem.run_pure], .cons _ _ _ _ h2 g3⟩
  split at hk
  ·rename_i n ha
   obtain ⟨q, o, hx, _⟩ := AV.on_p_spec hk
   obtain ⟨y, v, h1, h2, h3⟩ := ldN_sound E ha hb hk
   exact key h1 h2 h3 (by rw [hx] at hb; generalize a.tmps.getD b undef = u at hb; cases hb; exact ⟨_, rfl⟩)
  ·rename_i n ha
   obtain ⟨q, o, hx, _⟩ := AV.on_p_spec hk
   obtain ⟨y, v, h1, h2, h3⟩ := ld1_sound E ha hb hk
   exact key h1 h2 h3 (by rw [hx] at hb; generalize a.tmps.getD b undef = u at hb; cases hb; exact ⟨_, rfl⟩)
  ·cases hk
theorem results_eq (fn : Func) (tmps : Array Value) : results fn tmps = (do
  let vs ← fn.results.mapM (resOf tmps)
  pure (if h : vs.size = 1 then vs[0] else .tuple vs) : Sem Value) := rfl
theorem ret_sound (E : Emb P ρ h w B) {env : List AV} {a : Act} (en : Env ρ h.nx.num env a) {fn : Func} {k : AV → Hp → Bool} (hk : resD P env h fn.results.toList (fun l => ret1 l h k) = true) : ∃ y v, (results fn a.tmps).run P w = .ok v w ∧ Rel ρ h.nx.num y v ∧ k y h = true := by
 obtain ⟨l, vs, h1, h2, h3⟩ := res_sound E en hk
 have hmm : (fn.results.mapM (m := Sem) (resOf a.tmps)).run P w = .ok vs.toArray w := by
  rw [← Array.toArray_toList (xs := fn.results), List.mapM_toArray]
  simp only [Sem.run_map, h2, Result.andThen_ok]
 have hr : (results fn a.tmps).run P w = .ok (if h : vs.toArray.size = 1 then vs.toArray[0] else .tuple vs.toArray) w := by
  rw [results_eq]
  simp only [Sem.run_bind, hmm, Result.andThen_ok, Sem.run_pure]
 cases h3 with
 | nil => exact ⟨.t [], _, hr, .t [] [] .nil, h1⟩
 | cons x v xs vs hx t =>
  cases t with
  | nil => exact ⟨x, v, hr, hx, h1⟩
  | cons y u ys us hy t =>
   refine ⟨.t (x :: y :: ys), .tuple (v :: u :: us).toArray, ?_, .t _ _ (.cons _ _ _ _ hx (.cons _ _ _ _ hy t)), h1⟩
   rw [hr, dif_neg (by simp)]
theorem enter_run {f : FuncId} {fn : Func} (hf : P.funcs[f]? = some fn) (hn : (fn.name == "runtime.NumGoroutine") = false) (hb : fn.body.isSome = true) (args : Array Value) (w : World) : (callFunc f args).run P w = .ok (.enter f args) w := by
 obtain ⟨c, hc⟩ := Option.isSome_iff_exists.1 hb
 have hn : ¬ fn.name = "runtime.NumGoroutine" := by simpa using hn
 simp [callFunc, run_program, hf, hn, hc]
theorem sound_fnD (hm : P.follows .mixedOrders = true) {f : FuncId} {fn : Func} (hf : P.funcs[f]? = some fn) (hn : (fn.name == "runtime.NumGoroutine") = false) (hb : fn.body.isSome = true) (hle : Nat.ble (Nat.add fn.params.toList.length fn.nfree) fn.ntmps = true) (hT : SoundT P T) (HD : DrawS P T M) {ann : Ann} {s : FS} (hs : s = fnF P T M fn ann) : SoundF P f s := by
 obtain ⟨c, hc⟩ := Option.isSome_iff_exists.1 hb
 have hs : s = fnD P T M (Nat.add fn.params.toList.length fn.nfree) fn.ntmps fn.results.toList c ann := by rw [hs]; unfold fnF; rw [hc]
 subst hs
 have hle := Nat.le_of_ble_eq_true hle
 refine ⟨enter_run hf hn hb, fun args h => fnD_det hT _ _ _ _ _ args h, fun ρ h w B args vals k E ha hk => ?_⟩
 obtain ⟨hl, hk2⟩ := capp_clam _ _ _ _ hk
 refine calls_of_wp hf hc ?_
 have hlen := ha.length
 generalize Nat.add fn.params.toList.length fn.nfree = n at hle hl hk2
 have hsz : vals.toArray.size = n := by simp; omega
 have hel : (args ++ List.replicate (fn.ntmps - n) AV.d).length = fn.ntmps := by simp; omega
 have en : Env ρ h.nx.num (args ++ List.replicate (fn.ntmps - n) .d) { tmps := vals.toArray ++ Array.replicate (fn.ntmps - vals.toArray.size) undef, defers := [] } := by
  refine ⟨by rw [hel, hsz]; simp; omega, fun i hi => ?_, rfl⟩
  by_cases hv : i < args.length
  ·have hv' : i < vals.length := by omega
   have := ha.get i hv hv'
   have e1 : (args ++ List.replicate (fn.ntmps - n) AV.d).getD i .d = args[i] := by
    rw [List.getD_eq_getElem?_getD, List.getElem?_append_left hv, List.getElem?_eq_getElem hv]; rfl
   have e2 : (vals.toArray ++ Array.replicate (fn.ntmps - vals.toArray.size) undef).getD i undef = vals[i] := by
    rw [Array.getD_eq_getD_getElem?, Array.getElem?_append_left (by simpa using hv')]
    simp [hv']
   rw [e1]
   show Rel ρ h.nx.num _ (Array.getD _ i undef)
   rw [e2]
   exact this
  ·have e1 : (args ++ List.replicate (fn.ntmps - n) AV.d).getD i .d = .d := by
    rw [List.getD_eq_getElem?_getD, List.getElem?_append_right (by omega), List.getElem?_replicate]
    split <;> rfl
   rw [e1]
   exact .d _
 refine den_sound hm hT HD c E en hel hk2 fun e env' h' ρ' w' a' E' s' en' _ hk' => ?_
 cases e with
 | n =>
  obtain ⟨y, v, h1, h2, h3⟩ := ret_sound E' en' hk'
  exact ⟨en'.defers, v, h1, ρ', h', y, E', s', h2, h3⟩
 | x i => cases hk'
 | r =>
  obtain ⟨y, v, h1, h2, h3⟩ := ret_sound E' en' hk'
  exact ⟨en'.defers, v, h1, ρ', h', y, E', s', h2, h3⟩
def sx : FS := fun _ _ _ => false
theorem sound_stub {f : FuncId} {fn : Func} (hf : P.funcs[f]? = some fn) (hn : (fn.name == "runtime.NumGoroutine") = false) (hb : fn.body.isSome = true) : SoundF P f sx :=
 ⟨enter_run hf hn hb, fun _ _ => Det2.fail, fun _ _ _ _ _ _ _ _ _ hk => by cases hk⟩
end
end Go.Proofs.YtpchmdddkpocgaaGreatDoor
