/-
  No claim by itself: the evaluator: a block that was laid before gets its name. | the evaluator: drawn regions: what is done at any time. | the evaluator: drawn regions: an operation that leaves the heap alone, at any time. | the evaluator: drawn regions: one operation more, at any time. | the evaluator: drawn regions do what is evaluated, in whatever order. | the evaluator: what a text means is one outcome. | the evaluator: a function that was written out does what it means. | the evaluator: drawn regions, whole; a function that was written out does what it means. | the evaluator: from an empty heap; the rest of a function's text; two functions by hand. No condition.
-/
import Derived.Test.YtmddhlfjilkdfaaGreatDoorE4
import Derived.Below
import Derived.Maps.RangeRun
namespace Go.Proofs.YtmddhlfjilkdfaaGreatDoor
set_option linter.unusedVariables false
set_option linter.unusedSimpArgs false

section
variable {P : Program} {ρ : Q → Loc} {h : Hp} {w : World} {B : Nat}
/-- A row of cells that no name stands for is named. -/
theorem Emb.name (E : Emb P ρ h w B) {b : Nat} {c : Array Value} {ty : TypeId} (hb : w.heap[b]? = some (.cells c ty (0, 0))) (hB : B ≤ b) (hni : ∀ q, h.live q → (ρ q).blk ≠ b) (h1 : ∀ u ∈ c.toList, u.oneCell' = true) (hsz : c.size = P.cellsOf ty)
    {cs : List AV} {v : V} (hl : cs.length = c.size) (hg : ∀ (j : Nat) (hj : j < cs.length), v.get j = cs[j]) (hr : RelL ρ h.nx.num cs c.toList) :
    Emb P (upd ρ h.nx { blk := b, base := 0, cap := 1 }) (.mk (h.t.set (.bk ty c.size v) h.nx) h.nx.succ) w B := by
  have hN : h.nx.num ≤ h.nx.succ.num := by rw [Q.num_succ]; omega
  have hlive : ∀ r, (Hp.mk (h.t.set (.bk ty c.size v) h.nx) h.nx.succ).live r → r = h.nx ∨ (h.live r ∧ r ≠ h.nx) := fun r hr => by
    by_cases e : r = h.nx
    · exact .inl e
    · rw [Hp.live_mk, HT.get_set_ne _ _ _ _ e] at hr; exact .inr ⟨hr, e⟩
  have hme : ∀ r, r.num < h.nx.num → upd ρ h.nx { blk := b, base := 0, cap := 1 } r = ρ r := upd_lt ρ h.nx _
  refine ⟨E.base, fun r hr => ?_, fun r hr => ?_, fun r s hr hs e => ?_, fun r ty' n v' hg' => ?_, fun r es hg' => ?_, fun r o l hg' => ?_, fun r i hg' => ?_, fun r ty' hg' => ?_, E.tab⟩
  · show r.num < h.nx.succ.num
    rcases hlive r hr with rfl | ⟨h1, _⟩
    · rw [Q.num_succ]; omega
    · exact Nat.lt_of_lt_of_le (E.lt r h1) hN
  · rcases hlive r hr with rfl | ⟨h1, h2⟩
    · rw [upd_same]; exact hB
    · rw [upd_ne _ _ h2]; exact E.ge r h1
  · rcases hlive r hr with rfl | ⟨h1, h2⟩
    · rcases hlive s hs with rfl | ⟨h3, h4⟩
      · rfl
      · rw [upd_same, upd_ne _ _ h4] at e; exact (hni s h3 e.symm).elim
    · rcases hlive s hs with rfl | ⟨h3, h4⟩
      · rw [upd_same, upd_ne _ _ h2] at e; exact (hni r h1 e).elim
      · rw [upd_ne _ _ h2, upd_ne _ _ h4] at e; exact E.inj r s h1 h3 e
  · by_cases e : r = h.nx
    · subst e
      rw [upd_same]
      have hg' : (h.t.set (.bk ty c.size v) h.nx).get h.nx = .bk ty' n v' := hg'
      rw [HT.get_set_same] at hg'
      cases hg'
      refine ⟨⟨c.size, by unfold World.shape?; simp only [hb], by simp, by simp [hsz], fun o ho => ?_⟩, fun i hi => ?_⟩
      · unfold World.frozen?
        simp [hb]
      · have hi2 : i < c.toList.length := by simpa using hi
        refine ⟨c.toList[i], ?_, ?_, h1 _ (List.getElem_mem hi2)⟩
        · unfold World.cell?
          simp only [hb, Nat.zero_add]
          simp [hi]
        · rw [hg i (by omega)]
          exact (hr.get i (by omega) hi2).mono hme hN
    · have hg' : (h.t.set (.bk ty c.size v) h.nx).get r = .bk ty' n v' := hg'
      rw [HT.get_set_ne _ _ _ _ e] at hg'
      rw [upd_ne _ _ e]
      exact (E.row r ty' n v' hg').mono hme hN rfl
  · by_cases e : r = h.nx
    · subst e
      have hg' : (h.t.set (.bk ty c.size v) h.nx).get h.nx = .mp es := hg'
      rw [HT.get_set_same] at hg'
      cases hg'
    · have hg' : (h.t.set (.bk ty c.size v) h.nx).get r = .mp es := hg'
      rw [HT.get_set_ne _ _ _ _ e] at hg'
      rw [upd_ne _ _ e]
      exact (E.map r es hg').mono hme hN rfl
  · by_cases e : r = h.nx
    · subst e
      have hg' : (h.t.set (.bk ty c.size v) h.nx).get h.nx = .si o l := hg'
      rw [HT.get_set_same] at hg'
      cases hg'
    · have hg' : (h.t.set (.bk ty c.size v) h.nx).get r = .si o l := hg'
      rw [HT.get_set_ne _ _ _ _ e] at hg'
      rw [upd_ne _ _ e]
      exact (E.si r o l hg').mono rfl
  · by_cases e : r = h.nx
    · subst e
      have hg' : (h.t.set (.bk ty c.size v) h.nx).get h.nx = .y (.op i) := hg'
      rw [HT.get_set_same] at hg'
      cases hg'
    · have hg' : (h.t.set (.bk ty c.size v) h.nx).get r = .y (.op i) := hg'
      rw [HT.get_set_ne _ _ _ _ e] at hg'
      rw [upd_ne _ _ e]
      exact ⟨Nat.lt_of_lt_of_le (E.op r i hg').1 hN, (E.op r i hg').2.mono hme (E.op r i hg').1 rfl⟩
  · by_cases e : r = h.nx
    · subst e
      have hg' : (h.t.set (.bk ty c.size v) h.nx).get h.nx = .y (.soup ty') := hg'
      rw [HT.get_set_same] at hg'
      cases hg'
    · have hg' : (h.t.set (.bk ty c.size v) h.nx).get r = .y (.soup ty') := hg'
      rw [HT.get_set_ne _ _ _ _ e] at hg'
      rw [upd_ne _ _ e]
      exact (E.soup r ty' hg').mono rfl
/-- A new block that no name stands for. -/
theorem Emb.grow1 (E : Emb P ρ h w B) (o : Obj) : Emb P ρ h { w with heap := w.heap.push o } B := by
  have hk : ∀ c, c < w.heap.size → (w.heap.push o)[c]? = w.heap[c]? := fun c hc => by rw [Array.getElem?_push, if_neg (by omega)]
  have hrow : ∀ q ty n v, h.t.get q = .bk ty n v → (ρ q).blk < w.heap.size := fun q ty n v hg => by
    obtain ⟨sz, h1, _⟩ := (E.row q ty n v hg).at_
    unfold World.shape? at h1
    by_cases hh : (ρ q).blk < w.heap.size
    · exact hh
    · rw [Array.getElem?_eq_none (by omega)] at h1; cases h1
  refine ⟨by have := E.base; simp; omega, E.lt, E.ge, E.inj, fun q ty n v hg => ?_, fun q es hg => ?_, fun q o' l hg => ?_, fun q i hg => ?_, fun q ty hg => ?_, E.tab.mono fun c hc => hk c (by have := E.base; omega)⟩
  · exact RowE.mono (w := w) (fun _ _ => rfl) (Nat.le_refl _) (hk _ (hrow q ty n v hg)) (E.row q ty n v hg)
  · have hm := E.map q es hg
    obtain ⟨fs, c, h1, _⟩ := hm
    exact MapAt.mono (w := w) (fun _ _ => rfl) (Nat.le_refl _) (hk _ (Array.getElem?_eq_some_iff.1 h1).1) (E.map q es hg)
  · obtain ⟨s, h1, _⟩ := E.si q o' l hg
    exact SiAt.mono (w := w) (hk _ (Array.getElem?_eq_some_iff.1 h1).1) (E.si q o' l hg)
  · obtain ⟨s, h1⟩ := (E.op q i hg).2.1
    exact ⟨(E.op q i hg).1, OpAt.mono (w := w) (fun _ _ => rfl) (E.op q i hg).1 (hk _ (Array.getElem?_eq_some_iff.1 h1).1) (E.op q i hg).2⟩
  · obtain ⟨sz, h1, _⟩ := (E.soup q ty hg).at_
    unfold World.shape? at h1
    by_cases hh : (ρ q).blk < w.heap.size
    · exact SoupAt.mono (w := w) (hk _ hh) (E.soup q ty hg)
    · rw [Array.getElem?_eq_none (by omega)] at h1; cases h1
theorem Emb.blk_lt (E : Emb P ρ h w B) {q : Q} (hq : h.live q) : (ρ q).blk < w.heap.size := by
  cases hg : h.t.get q with
  | no => exact (hq hg).elim
  | bk ty n v =>
    obtain ⟨sz, h1, _⟩ := (E.row q ty n v hg).at_
    unfold World.shape? at h1
    by_cases hh : (ρ q).blk < w.heap.size
    · exact hh
    · rw [Array.getElem?_eq_none (by omega)] at h1; cases h1
  | mp es =>
    obtain ⟨fs, c, h1, _⟩ := E.map q es hg
    exact (Array.getElem?_eq_some_iff.1 h1).1
  | si o l =>
    obtain ⟨s, h1, _⟩ := E.si q o l hg
    exact (Array.getElem?_eq_some_iff.1 h1).1
  | y o =>
    cases o with
    | op i =>
      obtain ⟨s, h1⟩ := (E.op q i hg).2.1
      exact (Array.getElem?_eq_some_iff.1 h1).1
    | soup ty =>
      obtain ⟨sz, h1, _⟩ := (E.soup q ty hg).at_
      unfold World.shape? at h1
      by_cases hh : (ρ q).blk < w.heap.size
      · exact hh
      · rw [Array.getElem?_eq_none (by omega)] at h1; cases h1
theorem Step.grow1 (ρ : Q → Loc) (h : Hp) (w : World) (o : Obj) : Step ρ h w ρ h { w with heap := w.heap.push o } :=
  ⟨fun _ _ => rfl, Nat.le_refl _, by simp, fun c hc _ => by show (w.heap.push o)[c]? = _; rw [Array.getElem?_push, if_neg (by omega)], fun q hq => .inl ⟨q, hq, rfl⟩, rfl, rfl, rfl⟩
/-- From the beginning to where the block has got its name. -/
theorem Step.name {ρ0 : Q → Loc} {h0 : Hp} {w0 : World} (s : Step ρ0 h0 w0 ρ h w) {b : Nat} (hb : w0.heap.size ≤ b) (x : OB) (cap : Nat) : Step ρ0 h0 w0 (upd ρ h.nx { blk := b, base := 0, cap := cap }) (.mk (h.t.set x h.nx) h.nx.succ) w := by
  refine ⟨fun q hq => ?_, ?_, s.size, s.frame, fun q hq => ?_, s.os, s.tape, s.output⟩
  · rw [upd_lt ρ h.nx _ q (Nat.lt_of_lt_of_le hq s.nx)]
    exact s.ext q hq
  · show h0.nx.num ≤ h.nx.succ.num
    rw [Q.num_succ]
    have := s.nx
    omega
  · by_cases e : q = h.nx
    · subst e
      rw [upd_same]
      exact .inr hb
    · rw [Hp.live_mk, HT.get_set_ne _ _ _ _ e] at hq
      rw [upd_ne _ _ e]
      exact s.img q hq
end
end Go.Proofs.YtmddhlfjilkdfaaGreatDoor
namespace Go.Proofs.YtmddhlfjilkdfaaGreatDoor
set_option linter.unusedVariables false
set_option linter.unusedSimpArgs false

/-- All that is known of a drawn region that was evaluated. -/
structure DC (P : Program) (T : Tbl) (M : List (Nat × Nat)) (all : List Oper) (ord : List Nat) (env0 : List AV) (h0 : Hp) (acc : List Rw) (HH : List Hp) (envE : List AV) (hE : Hp) (A pre As post : List Nat) : Prop where
  hcov : ∀ j, j < all.length → j ∈ ord
  hlin : linOk all [] ord = true
  hcmp : cmpOk P all (mskL all []) A = true
  hlate : lateOk P all (mskL all []) A pre As post = true
  hpre : ∀ i ∈ pre, i ∉ A
  hA : ∀ i ∈ A, ∃ o, all[i]? = some o ∧ isAl o = true
  hhv : hvL P all ord = pre ++ As ++ post
  hmap : acc.map (·.1) = ord
  hh0 : HH[0]? = some h0
  hhE : HH[(hvL P all ord).length]? = some hE
  henv : envE = repP all acc env0
  hat : ∀ p r q, acc = p ++ r :: q → AtR P T M all 1 env0 HH p r
  hrck : ∀ r ∈ acc, ∀ o, all[r.1]? = some o → isRead P o.op = true → ∀ i H, HH[i]? = some H → mayAt (mskL all []) (hvL P all ord) r.1 i = true → i + 1 ≠ r.2.1 → ∀ k, gopD P T M all o r.2.2.1 H k = k r.2.2.2 H
section
variable {P : Program} {T : Tbl} {M : List (Nat × Nat)} {all : List Oper} {ord : List Nat} {env0 : List AV} {h0 : Hp} {acc : List Rw} {HH : List Hp} {envE : List AV} {hE : Hp} {A pre As post : List Nat}
theorem DC.at_ (D : DC P T M all ord env0 h0 acc HH envE hE A pre As post) {j : Nat} (hj : j < all.length) : ∃ p r q, acc = p ++ r :: q ∧ r.1 = j ∧ ord = p.map (·.1) ++ j :: q.map (·.1) := by
  have := D.hcov j hj
  rw [← D.hmap] at this
  obtain ⟨r, hr, rfl⟩ := List.mem_map.1 this
  obtain ⟨p, q, rfl⟩ := List.append_of_mem hr
  exact ⟨p, r, q, rfl, rfl, by rw [← D.hmap]; simp⟩
theorem DC.pair (D : DC P T M all ord env0 h0 acc HH envE hE A pre As post) {i j : Nat} {oi oj : Oper} (hi : all[i]? = some oi) (hj : all[j]? = some oj) :
    i = j ∨ bfr (mskL all []) i j = true ∨ bfr (mskL all []) j i = true ∨ ((∀ d, oi.dst = some d → d ∉ nmsOf all oj) ∧ (¬ (isHeavy P oi.op = true ∧ isHeavy P oj.op = true) ∨ i ∈ A ∨ j ∈ A)) := by
  have hz : ∀ {i : Nat} {o : Oper}, all[i]? = some o → (o, i) ∈ all.zipIdx := fun {i o} h => by
    rw [List.mem_zipIdx_iff_getElem?]; exact h
  have h := List.all_eq_true.1 (List.all_eq_true.1 D.hcmp (oi, i) (hz hi)) (oj, j) (hz hj)
  simp only [Bool.or_eq_true] at h
  rcases h with ((h | h) | h) | h
  · exact .inl (Nat.eq_of_beq_eq_true h)
  · exact .inr (.inl h)
  · exact .inr (.inr (.inl h))
  · refine .inr (.inr (.inr ?_))
    simp only [Bool.and_eq_true, Bool.or_eq_true] at h
    obtain ⟨h1, h2⟩ := h
    refine ⟨fun d hd hm => ?_, ?_⟩
    · rw [hd] at h1
      simp only [memN_spec.2 hm] at h1
      cases h1
    · rcases h2 with (h2 | h2) | h2
      · left
        rintro ⟨a, b⟩
        rw [a, b] at h2
        cases h2
      · exact .inr (.inl (memN_spec.1 h2))
      · exact .inr (.inr (memN_spec.1 h2))
theorem DC.late (D : DC P T M all ord env0 h0 acc HH envE hE A pre As post) : (∀ i ∈ As, i ∈ A) ∧ (∀ i ∈ post, i ∉ A) ∧ (∀ i ∈ post, ∀ x ∈ pre ++ As, bfr (mskL all []) i x = true) ∧
    ∀ j o, all[j]? = some o → (j ∈ A ∧ ∀ x ∈ As, x = j ∨ dstN all x (nmsOf all o) = false) ∨ (∀ x ∈ As, dstN all x (nmsOf all o) = false ∧ ¬ (isRead P o.op = true ∧ bfr (mskL all []) j x = true)) ∨ (∀ x ∈ pre ++ As, bfr (mskL all []) j x = true) := by
  have h := D.hlate
  unfold lateOk at h
  simp only [Bool.and_eq_true] at h
  obtain ⟨⟨⟨h1, h2⟩, h3⟩, h4⟩ := h
  refine ⟨fun i hi => memN_spec.1 (List.all_eq_true.1 h1 i hi), fun i hi hm => ?_, fun i hi x hx => List.all_eq_true.1 (List.all_eq_true.1 h3 i hi) x hx, fun j o hj => ?_⟩
  · have := List.all_eq_true.1 h2 i hi
    rw [memN_spec.2 hm] at this
    cases this
  · have := List.all_eq_true.1 h4 (o, j) (by rw [List.mem_zipIdx_iff_getElem?]; exact hj)
    simp only [Bool.or_eq_true, Bool.and_eq_true] at this
    rcases this with (⟨h5, h6⟩ | h5) | h5
    · refine .inl ⟨memN_spec.1 h5, fun x hx => ?_⟩
      have := List.all_eq_true.1 h6 x hx
      simp only [Bool.or_eq_true] at this
      rcases this with h7 | h7
      · exact .inl (Nat.eq_of_beq_eq_true h7)
      · exact .inr (by simpa using h7)
    · refine .inr (.inl fun x hx => ?_)
      have := List.all_eq_true.1 h5 x hx
      simp only [Bool.and_eq_true] at this
      refine ⟨by simpa using this.1, fun ⟨a, b⟩ => ?_⟩
      rw [a, b] at this
      cases this.2
    · exact .inr (.inr fun x hx => List.all_eq_true.1 h5 x hx)
/-! At any time. -/
def m1 (pre As : List Nat) (S : Nat → Bool) : Bool := !((pre ++ As).all S)
def idxS (pre As post : List Nat) (S : Nat → Bool) : Nat := if m1 pre As S = true then (pre.filter S).length else pre.length + As.length + (post.filter S).length
def fS (pre As : List Nat) (S : Nat → Bool) (r : Rw) : Option AV := if S r.1 = true then (if m1 pre As S = true ∧ r.1 ∈ As then some .d else some r.2.2.2) else none
theorem m1_false {S : Nat → Bool} (h : m1 pre As S = false) : ∀ x ∈ pre ++ As, S x = true := fun x hx => by
  unfold m1 at h
  exact List.all_eq_true.1 (by simpa using h) x hx
theorem m1_of {S : Nat → Bool} (h : ∀ x ∈ pre ++ As, S x = true) : m1 pre As S = false := by
  unfold m1
  rw [List.all_eq_true.2 h]
  rfl
/-- An operation whose turn it may be. -/
structure Rdy (all : List Oper) (S : Nat → Bool) (j : Nat) (o : Oper) : Prop where
  op : all[j]? = some o
  un : S j = false
  bef : ∀ e ∈ dpr o, S e = true
  cl : Closed all (fun i => S i = true)
theorem Rdy.before {S : Nat → Bool} {j : Nat} {o : Oper} (R : Rdy all S j o) {i : Nat} (h : bfr (mskL all []) j i = true) : S i = true := bfr_closed R.cl j o R.op R.bef i h
theorem Rdy.behind {S : Nat → Bool} {j : Nat} {o : Oper} (R : Rdy all S j o) {i : Nat} {oi : Oper} (hi : all[i]? = some oi) (h : bfr (mskL all []) i j = true) : S i = false := by
  cases hS : S i with
  | false => rfl
  | true =>
    have := bfr_closed R.cl i oi hi (R.cl i oi hi hS) j h
    rw [R.un] at this
    cases this
/-- Of a temporary that an operation names, those who write it and are done are just those ahead of it. -/
theorem DC.writers (D : DC P T M all ord env0 h0 acc HH envE hE A pre As post) {S : Nat → Bool} {j : Nat} {o : Oper} (R : Rdy all S j o) {p q : List Rw} {r : Rw} (he : acc = p ++ r :: q) (hr : r.1 = j) (hord : ord = p.map (·.1) ++ j :: q.map (·.1)) {d : Nat} (hd : d ∈ nmsOf all o) :
    (∀ r' ∈ p, dstOE all r'.1 = some d → S r'.1 = true) ∧ ∀ r' ∈ r :: q, dstOE all r'.1 = some d → S r'.1 = false := by
  have hop : ∀ {i : Nat}, dstOE all i = some d → ∃ oi, all[i]? = some oi ∧ oi.dst = some d := fun {i} h => by
    unfold dstOE at h
    cases hi : all[i]? with
    | none => rw [hi] at h; cases h
    | some oi => rw [hi] at h; exact ⟨oi, rfl, h⟩
  refine ⟨fun r' hr' hdst => ?_, fun r' hr' hdst => ?_⟩
  · obtain ⟨oi, h1, h2⟩ := hop hdst
    have hne : r'.1 ≠ j := fun e => (linOk_nodup D.hlin hord).1 (List.mem_map.2 ⟨r', hr', e⟩)
    rcases D.pair h1 R.op with h | h | h | h
    · exact (hne h).elim
    · obtain ⟨p1, p2, hp⟩ := List.append_of_mem hr'
      have hb := linOk_before D.hlin (p := p1.map (·.1)) (q := p2.map (·.1) ++ j :: q.map (·.1)) (j := r'.1) (by rw [hord, hp]; simp) h
      have : j ∈ p.map (·.1) := by rw [hp]; simp only [List.map_append, List.mem_append]; exact .inl hb
      exact ((linOk_nodup D.hlin hord).1 this).elim
    · exact R.before h
    · exact (h.1 d h2 hd).elim
  · rcases List.mem_cons.1 hr' with rfl | hr'
    · rw [hr]; exact R.un
    · obtain ⟨oi, h1, h2⟩ := hop hdst
      have hne : r'.1 ≠ j := fun e => (linOk_nodup D.hlin hord).2 (List.mem_map.2 ⟨r', hr', e⟩)
      rcases D.pair h1 R.op with h | h | h | h
      · exact (hne h).elim
      · exact R.behind h1 h
      · have hb := linOk_before D.hlin hord h
        obtain ⟨q1, q2, hq⟩ := List.append_of_mem hr'
        have := (linOk_nodup D.hlin (p := p.map (·.1) ++ j :: q1.map (·.1)) (q := q2.map (·.1)) (j := r'.1) (by rw [hord, hq]; simp)).1
        exact (this (List.mem_append_left _ hb)).elim
      · exact (h.1 d h2 hd).elim
end
end Go.Proofs.YtmddhlfjilkdfaaGreatDoor
namespace Go.Proofs.YtmddhlfjilkdfaaGreatDoor
set_option linter.unusedVariables false
set_option linter.unusedSimpArgs false

theorem filter_take {S : Nat → Bool} : ∀ {l : List Nat}, (∀ a x b, l = a ++ x :: b → S x = true → ∀ y ∈ a, S y = true) → l.take (l.filter S).length = l.filter S ∧ ∀ y ∈ l.drop (l.filter S).length, S y = false
  | [], _ => ⟨rfl, fun y h => by simp at h⟩
  | x :: l, h => by
    cases hx : S x with
    | true =>
      obtain ⟨h1, h2⟩ := filter_take (l := l) fun a z b e hz y hy => h (x :: a) z b (by rw [e]; rfl) hz y (List.mem_cons_of_mem _ hy)
      rw [List.filter_cons_of_pos hx]
      simp only [List.length_cons, List.take_succ_cons, List.drop_succ_cons]
      exact ⟨by rw [h1], h2⟩
    | false =>
      have hall : ∀ y ∈ l, S y = false := fun y hy => by
        cases hS : S y with
        | false => rfl
        | true =>
          obtain ⟨a, b, rfl⟩ := List.append_of_mem hy
          have := h (x :: a) y b rfl hS x (by simp)
          rw [hx] at this
          cases this
      have hnil : (x :: l).filter S = [] := by
        rw [List.filter_eq_nil_iff]
        intro y hy
        rcases List.mem_cons.1 hy with rfl | hy
        · rw [hx]; simp
        · rw [hall y hy]; simp
      rw [hnil]
      refine ⟨rfl, fun y hy => ?_⟩
      rcases List.mem_cons.1 (by simpa using hy) with rfl | hy
      · exact hx
      · exact hall y hy
section
variable {P : Program} {T : Tbl} {M : List (Nat × Nat)} {all : List Oper} {ord : List Nat} {env0 : List AV} {h0 : Hp} {acc : List Rw} {HH : List Hp} {envE : List AV} {hE : Hp} {A pre As post : List Nat}
/-- The writers stand in the chosen order. -/
theorem DC.ordered (D : DC P T M all ord env0 h0 acc HH envE hE A pre As post) {a b : List Nat} {x y : Nat} (e : hvL P all ord = a ++ x :: b) (hy : y ∈ a) : bfr (mskL all []) y x = false := by
  obtain ⟨p1, p2, rfl, h1, h2⟩ := List.filter_eq_append_iff.1 e
  obtain ⟨l1, l2, rfl, _, _, _⟩ := List.filter_eq_cons_iff.1 h2
  have hy1 : y ∈ p1 := by rw [← h1] at hy; exact (List.mem_filter.1 hy).1
  obtain ⟨s, t, rfl⟩ := List.append_of_mem hy1
  cases hb : bfr (mskL all []) y x with
  | false => rfl
  | true =>
    have hx := linOk_before D.hlin (p := s) (q := t ++ (l1 ++ x :: l2)) (j := y) (by simp) hb
    have := (linOk_nodup D.hlin (p := s ++ y :: t ++ l1) (q := l2) (j := x) (by simp)).1
    exact (this (by simp [hx])).elim
theorem DC.heavyOf (D : DC P T M all ord env0 h0 acc HH envE hE A pre As post) {i : Nat} (hi : i ∈ pre ++ As ++ post) : ∃ o, all[i]? = some o ∧ isHeavy P o.op = true := by
  rw [← D.hhv] at hi
  have := (List.mem_filter.1 hi).2
  cases ho : all[i]? with
  | none => rw [ho] at this; cases this
  | some o => rw [ho] at this; exact ⟨o, rfl, this⟩
/-- Of two writers of which neither is laid late, the later one in the order is behind the other. -/
theorem DC.chain (D : DC P T M all ord env0 h0 acc HH envE hE A pre As post) {a b : List Nat} {x y : Nat} (e : hvL P all ord = a ++ x :: b) (hy : y ∈ a) (hx : x ∉ A) (hyA : y ∉ A) : bfr (mskL all []) x y = true := by
  obtain ⟨ox, h1, h2⟩ := D.heavyOf (i := x) (by rw [← D.hhv, e]; simp)
  obtain ⟨oy, h3, h4⟩ := D.heavyOf (i := y) (by rw [← D.hhv, e]; simp [hy])
  rcases D.pair h1 h3 with h | h | h | h
  · subst h
    have hnd : ∀ a b, hvL P all ord = a ++ x :: b → x ∉ a := fun a b e hm => by
      obtain ⟨p1, p2, rfl, g1, g2⟩ := List.filter_eq_append_iff.1 e
      obtain ⟨l1, l2, rfl, _, _, _⟩ := List.filter_eq_cons_iff.1 g2
      rw [← g1] at hm
      exact (linOk_nodup D.hlin (p := p1 ++ l1) (q := l2) (j := x) (by simp)).1 (by simp [(List.mem_filter.1 hm).1])
    exact (hnd a b e hy).elim
  · exact h
  · rw [D.ordered e hy] at h
    cases h
  · rcases h.2 with h | h | h
    · exact (h ⟨h2, h4⟩).elim
    · exact (hx h).elim
    · exact (hyA h).elim
theorem DC.pre_pre (D : DC P T M all ord env0 h0 acc HH envE hE A pre As post) {S : Nat → Bool} (hS : Closed all (fun i => S i = true)) : ∀ a x b, pre = a ++ x :: b → S x = true → ∀ y ∈ a, S y = true := fun a x b e hx y hy => by
  have := D.chain (a := a) (b := b ++ As ++ post) (x := x) (y := y) (by rw [D.hhv, e]; simp) hy (D.hpre x (by rw [e]; simp)) (D.hpre y (by rw [e]; simp [hy]))
  obtain ⟨ox, h1, _⟩ := D.heavyOf (i := x) (by rw [e]; simp)
  exact bfr_closed hS x ox h1 (hS x ox h1 hx) y this
theorem DC.post_pre (D : DC P T M all ord env0 h0 acc HH envE hE A pre As post) {S : Nat → Bool} (hS : Closed all (fun i => S i = true)) : ∀ a x b, post = a ++ x :: b → S x = true → ∀ y ∈ a, S y = true := fun a x b e hx y hy => by
  have := D.chain (a := pre ++ As ++ a) (b := b) (x := x) (y := y) (by rw [D.hhv, e]; simp) (by simp [hy]) (D.late.2.1 x (by rw [e]; simp)) (D.late.2.1 y (by rw [e]; simp [hy]))
  obtain ⟨ox, h1, _⟩ := D.heavyOf (i := x) (by rw [e]; simp)
  exact bfr_closed hS x ox h1 (hS x ox h1 hx) y this
theorem DC.post_m1 (D : DC P T M all ord env0 h0 acc HH envE hE A pre As post) {S : Nat → Bool} (hS : Closed all (fun i => S i = true)) {i : Nat} (hi : i ∈ post) (hx : S i = true) : m1 pre As S = false := by
  obtain ⟨ox, h1, _⟩ := D.heavyOf (i := i) (by simp [hi])
  exact m1_of fun y hy => bfr_closed hS i ox h1 (hS i ox h1 hx) y (D.late.2.2.1 i hi y hy)
theorem mem_late_heavy (D : DC P T M all ord env0 h0 acc HH envE hE A pre As post) {j : Nat} {o : Oper} (hj : all[j]? = some o) (hA : j ∈ A) : isHeavy P o.op = true ∧ seenT all o = [] := by
  obtain ⟨o', h1, h2⟩ := D.hA j hA
  rw [hj] at h1
  cases h1
  unfold isAl at h2
  split at h2
  · rename_i ty hop hg
    refine ⟨by rw [hop]; rfl, by simp [seenT, hop, hg, Op.operands]⟩
  · cases h2
theorem DC.mayAt (D : DC P T M all ord env0 h0 acc HH envE hE A pre As post) {S : Nat → Bool} {j : Nat} {o : Oper} (R : Rdy all S j o) (hl : isHeavy P o.op = false) (hr : isRead P o.op = true) : Go.Proofs.YtmddhlfjilkdfaaGreatDoor.mayAt (mskL all []) (hvL P all ord) j (idxS pre As post S) = true := by
  have hin : ∀ i ∈ pre ++ As ++ post, S i = true → bfr (mskL all []) i j = false := fun i hi hS => by
    obtain ⟨oi, h1, _⟩ := D.heavyOf hi
    cases hb : bfr (mskL all []) i j with
    | false => rfl
    | true => rw [R.behind h1 hb] at hS; cases hS
  have hout : ∀ i, S i = false → bfr (mskL all []) j i = false := fun i hS => by
    cases hb : bfr (mskL all []) j i with
    | false => rfl
    | true => rw [R.before hb] at hS; cases hS
  have key : ∀ t d : List Nat, pre ++ As ++ post = t ++ d → t.length = idxS pre As post S → (∀ i ∈ t, S i = true) → (∀ i ∈ d, bfr (mskL all []) j i = false) → Go.Proofs.YtmddhlfjilkdfaaGreatDoor.mayAt (mskL all []) (hvL P all ord) j (idxS pre As post S) = true := fun t d e hlen ht hd => by
    unfold Go.Proofs.YtmddhlfjilkdfaaGreatDoor.mayAt
    rw [D.hhv, e, ← hlen, List.take_left, List.drop_left, Bool.and_eq_true]
    refine ⟨List.all_eq_true.2 fun i hi => ?_, List.all_eq_true.2 fun i hi => ?_⟩
    · rw [hin i (by rw [e]; simp [hi]) (ht i hi)]; rfl
    · rw [hd i hi]; rfl
  obtain ⟨f1, f2⟩ := filter_take (D.pre_pre R.cl)
  obtain ⟨f3, f4⟩ := filter_take (D.post_pre R.cl)
  cases hm : m1 pre As S with
  | true =>
    refine key (pre.filter S) (pre.drop (pre.filter S).length ++ As ++ post) ?_ (by simp [idxS, hm]) (fun i hi => (List.mem_filter.1 hi).2) fun i hi => ?_
    · have := List.take_append_drop (pre.filter S).length pre
      rw [f1] at this
      conv => lhs; rw [← this]
      simp
    · rcases List.mem_append.1 hi with hi | hi
      · rcases List.mem_append.1 hi with hi | hi
        · exact hout i (f2 i hi)
        · rcases D.late.2.2.2 j o R.op with h | h | h
          · have := (mem_late_heavy D R.op h.1).1
            rw [hl] at this
            cases this
          · cases hb : bfr (mskL all []) j i with
            | false => rfl
            | true => exact ((h i hi).2 ⟨hr, hb⟩).elim
          · have := m1_of (S := S) fun x hx => R.before (h x hx)
            rw [hm] at this
            cases this
      · refine hout i ?_
        cases hS : S i with
        | false => rfl
        | true => rw [D.post_m1 R.cl hi hS] at hm; cases hm
  | false =>
    refine key (pre ++ As ++ post.filter S) (post.drop (post.filter S).length) ?_ (by simp [idxS, hm]; omega) (fun i hi => ?_) fun i hi => hout i (f4 i hi)
    · have := List.take_append_drop (post.filter S).length post
      rw [f3] at this
      conv => lhs; rw [← this]
      simp
    · rcases List.mem_append.1 hi with hi | hi
      · exact m1_false hm i hi
      · exact (List.mem_filter.1 hi).2
/-- What an operation that leaves the heap alone gives, at any time. -/
theorem DC.light (D : DC P T M all ord env0 h0 acc HH envE hE A pre As post) {S : Nat → Bool} {j : Nat} {o : Oper} (R : Rdy all S j o) (hl : isHeavy P o.op = false) {p q : List Rw} {r : Rw} (he : acc = p ++ r :: q) (hr : r.1 = j) {H : Hp} (hH : HH[idxS pre As post S]? = some H) : ∀ k, gopD P T M all o r.2.2.1 H k = k r.2.2.2 H := by
  obtain ⟨o', H', a1, a2, a3, a4, a5⟩ := D.hat p r q he
  rw [hr, R.op] at a1
  cases a1
  rcases a5 with ⟨h, _⟩ | ⟨_, h⟩
  · rw [hl] at h
    cases h
  · cases hrd : isRead P o.op with
    | false => exact gopD_pure hl hrd h
    | true =>
      by_cases hi : idxS pre As post S + 1 = r.2.1
      · have : idxS pre As post S = (hvL P all (p.map (·.1))).length := by
          rw [a3] at hi
          exact Nat.add_right_cancel (hi.trans (Nat.add_comm _ _))
        rw [this] at hH
        rw [hH] at a4
        cases a4
        exact h
      · refine D.hrck r (by rw [he]; simp) o (by rw [hr]; exact R.op) hrd _ H hH ?_ hi
        rw [hr]
        exact D.mayAt R hl hrd
/-- What it looks at is as it was in the chosen order. -/
theorem DC.agree (D : DC P T M all ord env0 h0 acc HH envE hE A pre As post) {S : Nat → Bool} {j : Nat} {o : Oper} (R : Rdy all S j o) {p q : List Rw} {r : Rw} (he : acc = p ++ r :: q) (hr : r.1 = j) (hord : ord = p.map (·.1) ++ j :: q.map (·.1)) {d : Nat} (hd : d ∈ seenT all o) :
    (repF all (fS pre As S) acc env0).getD d .d = r.2.2.1.getD d .d := by
  obtain ⟨_, _, _, a2, _⟩ := D.hat p r q he
  have hn : d ∈ nmsOf all o := List.mem_append_right _ hd
  obtain ⟨w1, w2⟩ := D.writers R he hr hord hn
  rw [a2, he, repF_append, repF_skip (fun r' hr' hdst => by unfold fS; rw [w2 r' hr' hdst]; rfl)]
  refine repF_agree (fun r' hr' hdst => ?_) rfl rfl
  have hS := w1 r' hr' hdst
  unfold fS
  rw [if_pos hS, if_neg]
  rintro ⟨hm, hAs⟩
  rcases D.late.2.2.2 j o R.op with h | h | h
  · rw [(mem_late_heavy D R.op h.1).2] at hd
    cases hd
  · have := (h _ hAs).1
    unfold dstN at this
    unfold dstOE at hdst
    rw [hdst] at this
    simp only [memN_spec.2 hn] at this
    cases this
  · have := m1_of (S := S) fun x hx => R.before (h x hx)
    rw [hm] at this
    cases this
end
end Go.Proofs.YtmddhlfjilkdfaaGreatDoor
namespace Go.Proofs.YtmddhlfjilkdfaaGreatDoor
set_option linter.unusedVariables false
set_option linter.unusedSimpArgs false

def addS (S : Nat → Bool) (j : Nat) (i : Nat) : Bool := if i = j then true else S i
theorem addS_same (S : Nat → Bool) (j : Nat) : addS S j j = true := if_pos rfl
theorem addS_ne (S : Nat → Bool) {i j : Nat} (h : i ≠ j) : addS S j i = S i := if_neg h
def fU (U : List Nat) (S : Nat → Bool) (r : Rw) : Option AV := if S r.1 = true then (if r.1 ∈ U then some .d else some r.2.2.2) else none
theorem fS_m1 {pre As : List Nat} {S : Nat → Bool} (h : m1 pre As S = true) : fS pre As S = fU As S := by
  funext r
  unfold fS fU
  by_cases hr : r.1 ∈ As
  · rw [if_pos hr, if_pos (show m1 pre As S = true ∧ r.1 ∈ As from ⟨h, hr⟩)]
  · rw [if_neg hr, if_neg (show ¬ (m1 pre As S = true ∧ r.1 ∈ As) from fun x => hr x.2)]
theorem fS_m2 {pre As : List Nat} {S : Nat → Bool} (h : m1 pre As S = false) : fS pre As S = fU [] S := by
  funext r
  unfold fS fU
  rw [if_neg (show ¬ (m1 pre As S = true ∧ r.1 ∈ As) from fun x => by rw [h] at x; cases x.1), if_neg (show ¬ r.1 ∈ [] by simp)]
section
variable {P : Program} {T : Tbl} {M : List (Nat × Nat)} {all : List Oper} {ord : List Nat} {env0 : List AV} {h0 : Hp} {acc : List Rw} {HH : List Hp} {envE : List AV} {hE : Hp} {A pre As post : List Nat}
/-- A block that was laid and bears no name yet. -/
def LateB (P : Program) (all : List Oper) (w0 : World) (ρ : Q → Loc) (H : Hp) (a : Act) (w : World) (x b : Nat) : Prop :=
  ∃ o ty z, all[x]? = some o ∧ o.op = .alloc ty ∧ (P.info? ty).bind (·.zero) = some z ∧ w0.heap.size ≤ b ∧ w.heap[b]? = some (.cells z.cells ty (0, 0)) ∧ (∀ q, H.live q → (ρ q).blk ≠ b) ∧ ∀ d, o.dst = some d → d < a.tmps.size → a.tmps.getD d undef = .pointer (some ⟨b, 0, none⟩)
def LateP (P : Program) (all : List Oper) (w0 : World) (U : List Nat) (S : Nat → Bool) (ρ : Q → Loc) (H : Hp) (a : Act) (w : World) (g : Nat → Nat) : Prop :=
  (∀ x ∈ U, S x = true → LateB P all w0 ρ H a w x (g x)) ∧ ∀ x ∈ U, ∀ y ∈ U, S x = true → S y = true → g x = g y → x = y
/-- What holds at any time. -/
def Inv (P : Program) (all : List Oper) (env0 : List AV) (h0 : Hp) (acc : List Rw) (HH : List Hp) (pre As post : List Nat) (ρ0 : Q → Loc) (w0 : World) (B : Nat) (S : Nat → Bool) (a : Act) (w : World) : Prop :=
  Closed all (fun i => S i = true) ∧ ∃ ρ H, HH[idxS pre As post S]? = some H ∧ Emb P ρ H w B ∧ Step ρ0 h0 w0 ρ H w ∧ Env ρ H.nx.num (repF all (fS pre As S) acc env0) a ∧ (m1 pre As S = true → ∃ g, LateP P all w0 As S ρ H a w g)
theorem put_other {a : Act} {d : Option Nat} {v : Value} {t : Nat} (h : d ≠ some t) : (a.put d v).tmps.getD t undef = a.tmps.getD t undef := by
  cases d with
  | none => rfl
  | some d =>
    have hne : d ≠ t := fun e => h (by rw [e])
    simp [Act.put, Array.getD_eq_getD_getElem?, Array.getElem?_setIfInBounds_ne hne]
theorem putE_size {a : Act} {d : Option Nat} {v : Value} : (a.put d v).tmps.size = a.tmps.size := by
  cases d <;> simp [Act.put]
/-- Such a block stays as it is. -/
theorem LateB.step {w0 : World} {ρ ρ' : Q → Loc} {H H' : Hp} {a : Act} {w w' : World} {x b : Nat} (h : LateB P all w0 ρ H a w x b) (s : Step ρ H w ρ' H' w') {d : Option Nat} {v : Value} (hd : ∀ o t, all[x]? = some o → o.dst = some t → d ≠ some t) : LateB P all w0 ρ' H' (a.put d v) w' x b := by
  obtain ⟨o, ty, z, h1, h2, h3, h4, h5, h6, h7⟩ := h
  have hlt : b < w.heap.size := (Array.getElem?_eq_some_iff.1 h5).1
  refine ⟨o, ty, z, h1, h2, h3, h4, (s.frame b hlt h6).trans h5, fun q hq => ?_, fun t ht hlt => ?_⟩
  · rcases s.img q hq with ⟨r, hr, e⟩ | e
    · rw [e]; exact h6 r hr
    · omega
  · rw [put_other (hd o t h1 ht)]
    rw [putE_size] at hlt
    exact h7 t ht hlt
theorem Rdy.closed {S : Nat → Bool} {j : Nat} {o : Oper} (R : Rdy all S j o) : Closed all (fun i => addS S j i = true) := by
  intro i oi hi hS e he
  have mono : ∀ e, S e = true → addS S j e = true := fun e h => by
    unfold addS; split
    · rfl
    · exact h
  by_cases hij : i = j
  · subst hij
    rw [R.op] at hi
    cases hi
    exact mono e (R.bef e he)
  · have hS : S i = true := by rw [← addS_ne S hij]; exact hS
    exact mono e (R.cl i oi hi hS e he)
/-- The environment, one operation more. -/
theorem DC.push (D : DC P T M all ord env0 h0 acc HH envE hE A pre As post) {S : Nat → Bool} {j : Nat} {o : Oper} (R : Rdy all S j o) {p q : List Rw} {r : Rw} (he : acc = p ++ r :: q) (hr : r.1 = j) (hord : ord = p.map (·.1) ++ j :: q.map (·.1)) (U : List Nat) :
    repF all (fU U (addS S j)) acc env0 = setP o.dst (if j ∈ U then .d else r.2.2.2) (repF all (fU U S) acc env0) := by
  have hnd := linOk_nodup D.hlin hord
  have hp : ∀ r' ∈ p, fU U (addS S j) r' = fU U S r' := fun r' hr' => by
    have : r'.1 ≠ j := fun e => hnd.1 (List.mem_map.2 ⟨r', hr', e⟩)
    unfold fU; rw [addS_ne S this]
  have hq : ∀ r' ∈ q, fU U (addS S j) r' = fU U S r' := fun r' hr' => by
    have : r'.1 ≠ j := fun e => hnd.2 (List.mem_map.2 ⟨r', hr', e⟩)
    unfold fU; rw [addS_ne S this]
  have hd : dstOE all r.1 = o.dst := by rw [hr]; simp [dstOE, R.op]
  have h1 : fU U (addS S j) r = some (if j ∈ U then .d else r.2.2.2) := by
    unfold fU
    rw [hr, if_pos (addS_same S j)]
    split <;> rfl
  have h2 : fU U S r = none := by
    unfold fU
    rw [hr, R.un]
    rfl
  rw [he, repF_append, repF_append, repF_cons, repF_cons, h1, h2, repF_congr hp, repF_congr hq]
  dsimp only
  rw [hd]
  refine repF_push fun r' hr' hf => ?_
  cases hdo : o.dst with
  | none =>
    cases dstOE all r'.1 with
    | none => exact .inl rfl
    | some t => exact .inr (by simp)
  | some d =>
    refine .inr fun e => hf ?_
    have := (D.writers R he hr hord (d := d) (by unfold nmsOf; rw [hdo]; simp)).2 r' (List.mem_cons_of_mem _ hr') e
    unfold fU
    rw [this]
    rfl
/-- An operation that is no late one names none that a block without a name is handed to, while some are. -/
theorem DC.names (D : DC P T M all ord env0 h0 acc HH envE hE A pre As post) {S : Nat → Bool} {j : Nat} {o : Oper} (R : Rdy all S j o) (hm : m1 pre As S = true) {x : Nat} (hx : x ∈ As) (hxj : x ≠ j) : ∀ ox t, all[x]? = some ox → ox.dst = some t → o.dst ≠ some t := fun ox t h1 h2 e => by
  have hmem : t ∈ nmsOf all o := by unfold nmsOf; rw [e]; simp
  have hdn : dstN all x (nmsOf all o) = true := by
    unfold dstN
    rw [h1]
    simp only [Option.bind_some, h2]
    exact memN_spec.2 hmem
  rcases D.late.2.2.2 j o R.op with h | h | h
  · rcases h.2 x hx with h | h
    · exact hxj h
    · rw [hdn] at h; cases h
  · have := (h x hx).1
    rw [hdn] at this
    cases this
  · have := m1_of (S := S) fun y hy => R.before (h y hy)
    rw [hm] at this
    cases this
/-- All that was laid gets its names, one behind the other. -/
theorem DC.named (D : DC P T M all ord env0 h0 acc HH envE hE A pre As post) {S : Nat → Bool} (hall : ∀ x ∈ pre ++ As, S x = true) {ρ0 : Q → Loc} {w0 : World} {B : Nat} (hB : B ≤ w0.heap.size) {a : Act} {w : World} : ∀ (U V : List Nat), As = V ++ U → ∀ (ρ : Q → Loc) (H : Hp) (g : Nat → Nat), HH[pre.length + V.length]? = some H → Emb P ρ H w B → Step ρ0 h0 w0 ρ H w → Env ρ H.nx.num (repF all (fU U S) acc env0) a → LateP P all w0 U S ρ H a w g →
    ∃ ρ' H', HH[pre.length + As.length]? = some H' ∧ Emb P ρ' H' w B ∧ Step ρ0 h0 w0 ρ' H' w ∧ Env ρ' H'.nx.num (repF all (fU [] S) acc env0) a
  | [], V, e, ρ, H, g, h1, h2, h3, h4, h5 => ⟨ρ, H, by rw [e, List.append_nil]; exact h1, h2, h3, h4⟩
  | x :: U, V, e, ρ, H, g, h1, E, s, en, hl => by
    have hxAs : x ∈ As := by rw [e]; simp
    have hxA : x ∈ A := D.late.1 x hxAs
    obtain ⟨o, ho, hal⟩ := D.hA x hxA
    have hxlt : x < all.length := (List.getElem?_eq_some_iff.1 ho).1
    obtain ⟨p, r, q, hacc, hr, hord⟩ := D.at_ hxlt
    -- its place among the writers
    have hhv : hvL P all (p.map (·.1)) = pre ++ V := by
      have hvx : isHeavy P o.op = true := (mem_late_heavy D ho hxA).1
      have e1 : hvL P all ord = hvL P all (p.map (·.1)) ++ x :: hvL P all (q.map (·.1)) := by
        conv => lhs; rw [hord]
        have : hvL P all (p.map (·.1) ++ x :: q.map (·.1)) = hvL P all (p.map (·.1)) ++ hvL P all (x :: q.map (·.1)) := List.filter_append ..
        rw [this, hvL_cons_heavy ho hvx]
      have e2 : hvL P all ord = (pre ++ V) ++ x :: (U ++ post) := by rw [D.hhv, e]; simp
      have n1 : x ∉ hvL P all (p.map (·.1)) := fun hm => (linOk_nodup D.hlin hord).1 (List.mem_filter.1 hm).1
      have n2 : x ∉ pre ++ V := fun hm => by
        have := D.ordered e2 hm
        obtain ⟨p1, p2, hpp, g1, g2⟩ := List.filter_eq_append_iff.1 e2
        obtain ⟨l1, l2, hl2, _, _, _⟩ := List.filter_eq_cons_iff.1 g2
        rw [← g1] at hm
        exact (linOk_nodup D.hlin (p := p1 ++ l1) (q := l2) (j := x) (by rw [hpp, hl2]; simp)).1 (by simp [(List.mem_filter.1 hm).1])
      rw [e1] at e2
      have key : ∀ (a b c d : List Nat), x ∉ a → x ∉ c → a ++ x :: b = c ++ x :: d → a = c := by
        intro a
        induction a with
        | nil => intro b c d _ hc h; cases c with
          | nil => rfl
          | cons y c => simp only [List.nil_append, List.cons_append, List.cons.injEq] at h; exact (hc (by rw [h.1]; simp)).elim
        | cons y a ih => intro b c d ha hc h; cases c with
          | nil => simp only [List.nil_append, List.cons_append, List.cons.injEq] at h; exact (ha (by rw [h.1]; simp)).elim
          | cons z c =>
            simp only [List.cons_append, List.cons.injEq] at h
            rw [h.1, ih b c d (fun hm => ha (List.mem_cons_of_mem _ hm)) (fun hm => hc (List.mem_cons_of_mem _ hm)) h.2]
      exact key _ _ _ _ n1 n2 e2
    obtain ⟨o', H1, a1, a2, a3, a4, a5⟩ := D.hat p r q hacc
    rw [hr, ho] at a1
    cases a1
    rw [hhv, List.length_append] at a4 a5
    rw [h1] at a4
    cases a4
    rcases a5 with ⟨hv, H', g1, g2⟩ | ⟨hv, _⟩
    case inr => rw [(mem_late_heavy D ho hxA).1] at hv; cases hv
    obtain ⟨ty, z, v, hop, _, hz, hsz, hy, hH', hone, cs, hcl, hcg, hcr⟩ := alloc_spec hal g2
    obtain ⟨o2, ty2, z2, b1, b2, b3, b4, b5, b6, b7⟩ := hl.1 x (by simp) (hall x (by simp [hxAs]))
    rw [ho] at b1
    cases b1
    rw [hop] at b2
    cases b2
    rw [hz] at b3
    cases b3
    have E' := E.name b5 (Nat.le_trans hB b4) b6 hone hsz hcl hcg (hcr ρ H.nx.num)
    have s' := s.name b4 (.bk ty z.cells.size v) 1
    rw [← hH'] at E' s'
    have hnx : H'.nx = H.nx.succ := by rw [hH']; rfl
    have hNN : H.nx.num ≤ H'.nx.num := by rw [hnx, Q.num_succ]; omega
    have hS : S x = true := hall x (by simp [hxAs])
    have en' : Env (upd ρ H.nx { blk := g x, base := 0, cap := 1 }) H'.nx.num (repF all (fU U S) acc env0) a := by
      have hold := en.mono (upd_lt ρ H.nx { blk := g x, base := 0, cap := 1 }) hNN
      refine ⟨by rw [repF_length, ← repF_length all (fU (x :: U) S) acc env0]; exact hold.size, fun i hi => ?_, hold.defers⟩
      rcases repF_named (g := fU U S) (f := fU (x :: U) S) (L := fun r' => r'.1 = x ∧ r' ∈ acc) (t := i) (acc := acc) (env := env0) (env' := env0) (fun r' hr' => by
        unfold fU
        by_cases hx : r'.1 = x
        · by_cases hxU : x ∈ U
          · left
            rw [hx, if_pos hS, if_pos hS, if_pos hxU, if_pos (List.mem_cons_of_mem _ hxU)]
          · right
            refine ⟨⟨hx, hr'⟩, ?_, ?_⟩
            · rw [hx, if_pos hS, if_neg hxU]
            · rw [hx, if_pos hS, if_pos (by simp)]
        · left
          have : (r'.1 ∈ x :: U) = (r'.1 ∈ U) := by simp [hx]
          simp only [this]) rfl (.inl rfl) with h | ⟨r', ⟨hr', hm⟩, hdst, hval⟩
      · rw [h]; exact hold.tmp i
      · have hrr : r' = r := by
          rw [hacc] at hm
          have hnd := linOk_nodup D.hlin hord
          rcases List.mem_append.1 hm with hm | hm
          · exact (hnd.1 (List.mem_map.2 ⟨r', hm, hr'⟩)).elim
          · rcases List.mem_cons.1 hm with rfl | hm
            · rfl
            · exact (hnd.2 (List.mem_map.2 ⟨r', hm, hr'⟩)).elim
        subst hrr
        rw [hval, hy]
        have hdo : o.dst = some i := by
          unfold dstOE at hdst
          rw [hr, ho] at hdst
          exact hdst
        have hi' : i < a.tmps.size := by rw [← hold.size, repF_length]; rwa [repF_length] at hi
        rw [b7 i hdo hi']
        have := Rel.p (ρ := upd ρ H.nx { blk := g x, base := 0, cap := 1 }) (N := H'.nx.num) H.nx 0 (by rw [hnx, Q.num_succ]; omega)
        rw [upd_same] at this
        exact this
    have hl' : LateP P all w0 U S (upd ρ H.nx { blk := g x, base := 0, cap := 1 }) H' a w g := by
      have hnd : x ∉ U := fun hm => by
        obtain ⟨u1, u2, rfl⟩ := List.append_of_mem hm
        have e2 : hvL P all ord = (pre ++ V ++ x :: u1) ++ x :: (u2 ++ post) := by rw [D.hhv, e]; simp
        obtain ⟨p1, p2, hpp, q1, q2⟩ := List.filter_eq_append_iff.1 e2
        obtain ⟨l1, l2, hl2, _, _, _⟩ := List.filter_eq_cons_iff.1 q2
        have hm : x ∈ p1 := by
          have : x ∈ pre ++ V ++ x :: u1 := by simp
          rw [← q1] at this
          exact (List.mem_filter.1 this).1
        exact (linOk_nodup D.hlin (p := p1 ++ l1) (q := l2) (j := x) (by rw [hpp, hl2]; simp)).1 (by simp [hm])
      refine ⟨fun y hyU hSy => ?_, fun y hyU z hzU => hl.2 y (List.mem_cons_of_mem _ hyU) z (List.mem_cons_of_mem _ hzU)⟩
      obtain ⟨o3, ty3, z3, c1, c2, c3, c4, c5, c6, c7⟩ := hl.1 y (List.mem_cons_of_mem _ hyU) hSy
      refine ⟨o3, ty3, z3, c1, c2, c3, c4, c5, fun qq hq => ?_, c7⟩
      rw [hH'] at hq
      by_cases eq : qq = H.nx
      · subst eq
        rw [upd_same]
        intro eb
        have := hl.2 x (by simp) y (List.mem_cons_of_mem _ hyU) hS hSy eb
        exact hnd (this ▸ hyU)
      · rw [Hp.live_mk, HT.get_set_ne _ _ _ _ eq] at hq
        rw [upd_ne _ _ eq]
        exact c6 qq hq
    obtain ⟨ρ2, H2, r1, r2, r3, r4⟩ := DC.named D hall hB U (V ++ [x]) (by rw [e]; simp) (upd ρ H.nx { blk := g x, base := 0, cap := 1 }) H' g (by rw [List.length_append, List.length_singleton, ← Nat.add_assoc]; exact g1) E' s' en' hl'
    exact ⟨ρ2, H2, r1, r2, r3, r4⟩
end
end Go.Proofs.YtmddhlfjilkdfaaGreatDoor
namespace Go.Proofs.YtmddhlfjilkdfaaGreatDoor
set_option linter.unusedVariables false
set_option linter.unusedSimpArgs false

theorem split_eq {x : Nat} : ∀ (a b c d : List Nat), x ∉ a → x ∉ c → a ++ x :: b = c ++ x :: d → a = c ∧ b = d
  | [], b, [], d, _, _, h => ⟨rfl, by simpa using h⟩
  | [], b, y :: c, d, _, hc, h => by simp only [List.nil_append, List.cons_append, List.cons.injEq] at h; exact (hc (by rw [h.1]; simp)).elim
  | y :: a, b, [], d, ha, _, h => by simp only [List.nil_append, List.cons_append, List.cons.injEq] at h; exact (ha (by rw [h.1]; simp)).elim
  | y :: a, b, z :: c, d, ha, hc, h => by
    simp only [List.cons_append, List.cons.injEq] at h
    obtain ⟨h1, h2⟩ := split_eq a b c d (fun hm => ha (List.mem_cons_of_mem _ hm)) (fun hm => hc (List.mem_cons_of_mem _ hm)) h.2
    exact ⟨by rw [h.1, h1], h2⟩
section
variable {P : Program} {T : Tbl} {M : List (Nat × Nat)} {all : List Oper} {ord : List Nat} {env0 : List AV} {h0 : Hp} {acc : List Rw} {HH : List Hp} {envE : List AV} {hE : Hp} {A pre As post : List Nat}
theorem DC.hv_nodup (D : DC P T M all ord env0 h0 acc HH envE hE A pre As post) {a b : List Nat} {x : Nat} (e : hvL P all ord = a ++ x :: b) : x ∉ a ∧ x ∉ b := by
  obtain ⟨p1, p2, hp, g1, g2⟩ := List.filter_eq_append_iff.1 e
  obtain ⟨l1, l2, hl2, _, _, g3⟩ := List.filter_eq_cons_iff.1 g2
  have := linOk_nodup D.hlin (p := p1 ++ l1) (q := l2) (j := x) (by rw [hp, hl2]; simp)
  refine ⟨fun hm => ?_, fun hm => ?_⟩
  · rw [← g1] at hm
    exact this.1 (by simp [(List.mem_filter.1 hm).1])
  · rw [← g3] at hm
    exact this.2 (List.mem_filter.1 hm).1
theorem DC.place (D : DC P T M all ord env0 h0 acc HH envE hE A pre As post) {j : Nat} {o : Oper} (ho : all[j]? = some o) (hv : isHeavy P o.op = true) {p q : List Rw} (hord : ord = p.map (·.1) ++ j :: q.map (·.1)) {c d : List Nat} (e : hvL P all ord = c ++ j :: d) : hvL P all (p.map (·.1)) = c := by
  have e1 : hvL P all ord = hvL P all (p.map (·.1)) ++ j :: hvL P all (q.map (·.1)) := by
    conv => lhs; rw [hord]
    have : hvL P all (p.map (·.1) ++ j :: q.map (·.1)) = hvL P all (p.map (·.1)) ++ hvL P all (j :: q.map (·.1)) := List.filter_append ..
    rw [this, hvL_cons_heavy ho hv]
  exact (split_eq _ _ _ _ (D.hv_nodup e1).1 (D.hv_nodup e).1 (e1.symm.trans e)).1
/-- How many are done, where the next writer is 'j'. -/
theorem count_next {S : Nat → Bool} {j : Nat} {c d : List Nat} (hj : S j = false) (hc : ∀ y ∈ c, S y = true) (hd : ∀ y ∈ d, S y = false) (hjd : j ∉ d) : ((c ++ j :: d).filter S).length = c.length ∧ ((c ++ j :: d).filter (addS S j)).length = c.length + 1 := by
  have f1 : c.filter S = c := List.filter_eq_self.2 hc
  have f2 : d.filter S = [] := List.filter_eq_nil_iff.2 fun y hy => by rw [hd y hy]; simp
  have g1 : c.filter (addS S j) = c := List.filter_eq_self.2 fun y hy => by
    unfold addS; split
    · rfl
    · exact hc y hy
  have g2 : d.filter (addS S j) = [] := List.filter_eq_nil_iff.2 fun y hy => by
    rw [addS_ne S (fun (e : y = j) => hjd (e ▸ hy)), hd y hy]; simp
  constructor
  · rw [List.filter_append, f1, List.filter_cons_of_neg (by rw [hj]; simp), f2, List.append_nil]
  · rw [List.filter_append, g1, List.filter_cons_of_pos (addS_same S j), g2]; simp
theorem filter_same {S : Nat → Bool} {j : Nat} {l : List Nat} (h : j ∉ l) : l.filter (addS S j) = l.filter S :=
  List.filter_congr fun y hy => addS_ne S fun (e : y = j) => h (e ▸ hy)
/-- The end of one operation, before what is whole gets its names. -/
theorem DC.finish (D : DC P T M all ord env0 h0 acc HH envE hE A pre As post) {S : Nat → Bool} {j : Nat} {o : Oper} (R : Rdy all S j o) {ρ0 : Q → Loc} {w0 : World} {B : Nat} (hB : B ≤ w0.heap.size) {a : Act} {w : World} {ρ : Q → Loc} {H : Hp} (E : Emb P ρ H w B) (s : Step ρ0 h0 w0 ρ H w)
    (h1 : m1 pre As S = true → HH[(pre.filter (addS S j)).length]? = some H ∧ Env ρ H.nx.num (repF all (fU As (addS S j)) acc env0) a ∧ ∃ g, LateP P all w0 As (addS S j) ρ H a w g)
    (h2 : m1 pre As S = false → HH[pre.length + As.length + (post.filter (addS S j)).length]? = some H ∧ Env ρ H.nx.num (repF all (fU [] (addS S j)) acc env0) a) (hjp : m1 pre As S = true → j ∉ post) : Inv P all env0 h0 acc HH pre As post ρ0 w0 B (addS S j) a w := by
  refine ⟨R.closed, ?_⟩
  have mono : ∀ e, S e = true → addS S j e = true := fun e h => by
    unfold addS; split
    · rfl
    · exact h
  cases hm : m1 pre As S with
  | false =>
    have hm' : m1 pre As (addS S j) = false := m1_of fun x hx => mono x (m1_false hm x hx)
    obtain ⟨g1, g2⟩ := h2 hm
    exact ⟨ρ, H, by unfold idxS; rw [hm']; exact g1, E, s, by rw [fS_m2 hm']; exact g2, fun h => by rw [hm'] at h; cases h⟩
  | true =>
    obtain ⟨g1, g2, g, g3⟩ := h1 hm
    cases hm' : m1 pre As (addS S j) with
    | true => exact ⟨ρ, H, by unfold idxS; rw [hm', if_pos rfl]; exact g1, E, s, by rw [fS_m1 hm']; exact g2, fun _ => ⟨g, g3⟩⟩
    | false =>
      have hall := m1_false hm'
      have hpre : pre.filter (addS S j) = pre := List.filter_eq_self.2 fun y hy => hall y (by simp [hy])
      have hpost : post.filter (addS S j) = [] := by
        rw [filter_same (hjp hm), List.filter_eq_nil_iff]
        intro y hy hS
        rw [D.post_m1 R.cl hy hS] at hm
        cases hm
      rw [hpre] at g1
      obtain ⟨ρ', H', r1, r2, r3, r4⟩ := D.named hall hB As [] rfl ρ H g (by simpa using g1) E s g2 g3
      exact ⟨ρ', H', by unfold idxS; rw [hm', if_neg (by simp), hpost]; simpa using r1, r2, r3, by rw [fS_m2 hm']; exact r4, fun h => by cases h⟩
end
section
variable {P : Program} {T : Tbl} {M : List (Nat × Nat)} {ops : Array Oper} {ord : List Nat} {env0 : List AV} {h0 : Hp} {acc : List Rw} {HH : List Hp} {envE : List AV} {hE : Hp} {A pre As post : List Nat}
theorem wpOp_of {QQ : Exit → Act → World → Prop} {K : Act → World → Prop} {j : Nat} {o : Oper} (ho : ops.toList[j]? = some o) {a : Act} {w : World} (h : if Region.wanted o (yielded ops a.tmps) then o.wp P a w K QQ else K (a.put o.dst undef) w) : wpOp P ops QQ j K a w := by
  have ho' : ops[j]? = some o := by rw [← Array.getElem?_toList]; exact ho
  unfold wpOp
  rw [ho']
  dsimp only
  split
  · rename_i hw; rw [if_pos hw] at h; exact .inl h
  · rename_i hw; rw [if_neg hw] at h; exact h
theorem DC.step (D : DC P T M ops.toList ord env0 h0 acc HH envE hE A pre As post) (hT : SoundT P T) {S : Nat → Bool} {j : Nat} {o : Oper} (R : Rdy ops.toList S j o) {ρ0 : Q → Loc} {w0 : World} {B : Nat} (hB : B ≤ w0.heap.size) {a : Act} {w : World} (I : Inv P ops.toList env0 h0 acc HH pre As post ρ0 w0 B S a w) {QQ : Exit → Act → World → Prop} {K : Act → World → Prop} (hK : ∀ a' w', Inv P ops.toList env0 h0 acc HH pre As post ρ0 w0 B (addS S j) a' w' → K a' w') : wpOp P ops QQ j K a w := by
  obtain ⟨_, ρ, H, hH, E, s, en, hlate⟩ := I
  have hjlt : j < ops.toList.length := (List.getElem?_eq_some_iff.1 R.op).1
  obtain ⟨p, r, q, hacc, hr, hord⟩ := D.at_ hjlt
  refine wpOp_of R.op ?_
  by_cases hjA : j ∈ A
  · -- new memory that is named later
    obtain ⟨o', e1, hal⟩ := D.hA j hjA
    rw [R.op] at e1
    cases e1
    have hheavy := (mem_late_heavy D R.op hjA).1
    have hjhv : j ∈ pre ++ As ++ post := by
      rw [← D.hhv]
      refine List.mem_filter.2 ⟨by rw [hord]; simp, ?_⟩
      rw [R.op]; exact hheavy
    have hjpre : j ∉ pre := fun h => D.hpre j h hjA
    have hjpost : j ∉ post := fun h => D.late.2.1 j h hjA
    have hjAs : j ∈ As := by
      rcases List.mem_append.1 hjhv with h | h
      · rcases List.mem_append.1 h with h | h
        · exact (hjpre h).elim
        · exact h
      · exact (hjpost h).elim
    have hm : m1 pre As S = true := by
      cases hm : m1 pre As S with
      | true => rfl
      | false =>
        have := m1_false hm j (by simp [hjAs])
        rw [R.un] at this
        cases this
    obtain ⟨o2, H1, a1, _, _, _, a5⟩ := D.hat p r q hacc
    rw [hr, R.op] at a1
    cases a1
    rcases a5 with ⟨_, H', _, g2⟩ | ⟨hv, _⟩
    case inr => rw [hheavy] at hv; cases hv
    obtain ⟨ty, z, v, hop, hg, hz, _⟩ := alloc_spec hal g2
    have hw : Region.wanted o (yielded ops a.tmps) = true := by simp [Region.wanted, hg]
    rw [if_pos hw]
    have hrun : (execOp a.eval o).run P w = .ok (.value (.pointer (some ⟨w.heap.size, 0, none⟩))) { w with heap := w.heap.push (.cells z.cells ty (0, 0)) } := by
      have : execOp a.eval o = (do pure (.value (← Instr.alloc ty true (.tuple #[]))) : Sem Next) := by
        obtain ⟨dst, op, type, pos, after, guard⟩ := o
        cases hop
        rfl
      rw [this]
      simp [alloc_run ty z hz, box_run]
    refine wp_of_value hrun (hK _ _ ?_)
    obtain ⟨g, hl⟩ := hlate hm
    rw [fS_m1 hm] at en
    have hidx : (pre.filter S).length = (pre.filter (addS S j)).length := by rw [filter_same hjpre]
    refine D.finish R hB (E.grow1 _) (s.trans (Step.grow1 ρ H w _)) (fun _ => ⟨?_, ?_, fun x => if x = j then w.heap.size else g x, ?_, ?_⟩) (fun h => by rw [hm] at h; cases h) (fun _ => hjpost)
    · rw [← hidx]
      unfold idxS at hH
      rw [hm, if_pos rfl] at hH
      exact hH
    · rw [D.push R hacc hr hord As, if_pos hjAs]
      exact en.setP o.dst (.d _)
    · intro x hx hSx
      dsimp only
      by_cases hxj : x = j
      · subst hxj
        rw [if_pos rfl]
        refine ⟨o, ty, z, R.op, hop, hz, s.size, by simp, fun q hq => ?_, fun d hd hlt => ?_⟩
        · have := E.blk_lt hq; omega
        · rw [hd]
          rw [putE_size] at hlt
          simp [Act.put, hlt]
      · rw [if_neg hxj]
        rw [addS_ne S hxj] at hSx
        exact (hl.1 x hx hSx).step (Step.grow1 ρ H w _) fun ox t h1 h2 => D.names R hm hx hxj ox t h1 h2
    · intro x hx y hy hSx hSy he
      dsimp only at he
      have lt : ∀ z ∈ As, z ≠ j → addS S j z = true → g z < w.heap.size := fun z hz hzj hSz => by
        rw [addS_ne S hzj] at hSz
        obtain ⟨_, _, _, _, _, _, _, h5, _⟩ := hl.1 z hz hSz
        exact (Array.getElem?_eq_some_iff.1 h5).1
      by_cases hxj : x = j
      · by_cases hyj : y = j
        · rw [hxj, hyj]
        · rw [if_pos hxj, if_neg hyj] at he
          have := lt y hy hyj hSy
          omega
      · by_cases hyj : y = j
        · rw [if_neg hxj, if_pos hyj] at he
          have := lt x hx hxj hSx
          omega
        · rw [if_neg hxj, if_neg hyj] at he
          rw [addS_ne S hxj] at hSx
          rw [addS_ne S hyj] at hSy
          exact hl.2 x hx y hy hSx hSy he
  · -- any other operation
    have hjAs : j ∉ As := fun h => hjA (D.late.1 j h)
    -- what it hands on, and where the heap stands behind it
    have hnext : ∃ H', (∀ k, gopD P T M ops.toList o r.2.2.1 H k = k r.2.2.2 H') ∧ (m1 pre As S = true → HH[(pre.filter (addS S j)).length]? = some H' ∧ j ∉ post) ∧ (m1 pre As S = false → HH[pre.length + As.length + (post.filter (addS S j)).length]? = some H') := by
      cases hv : isHeavy P o.op with
      | false =>
        have hnot : j ∉ pre ++ As ++ post := fun hm => by
          obtain ⟨o', e1, e2⟩ := D.heavyOf hm
          rw [R.op] at e1
          cases e1
          rw [hv] at e2
          cases e2
        simp only [List.mem_append, not_or] at hnot
        refine ⟨H, D.light R hv hacc hr hH, fun hm => ⟨?_, hnot.2⟩, fun hm => ?_⟩
        · rw [filter_same hnot.1.1]
          unfold idxS at hH
          rw [hm, if_pos rfl] at hH
          exact hH
        · rw [filter_same hnot.2]
          unfold idxS at hH
          rw [hm, if_neg (by simp)] at hH
          exact hH
      | true =>
        have hjhv : j ∈ pre ++ As ++ post := by
          rw [← D.hhv]
          refine List.mem_filter.2 ⟨by rw [hord]; simp, ?_⟩
          rw [R.op]; exact hv
        obtain ⟨o2, H1, a1, _, _, a4, a5⟩ := D.hat p r q hacc
        rw [hr, R.op] at a1
        cases a1
        rcases a5 with ⟨_, H', g1, g2⟩ | ⟨hv', _⟩
        case inr => rw [hv] at hv'; cases hv'
        have fin : ∀ (c d : List Nat), hvL P ops.toList ord = c ++ j :: d → (idxS pre As post S = c.length) → (∀ k, gopD P T M ops.toList o r.2.2.1 H k = k r.2.2.2 H') ∧ HH[c.length + 1]? = some H' := fun c d e hi => by
          rw [D.place R.op hv hord e] at a4 g1
          rw [← hi, hH] at a4
          cases a4
          exact ⟨g2, g1⟩
        rcases List.mem_append.1 hjhv with h | h
        · rcases List.mem_append.1 h with h | h
          · -- ahead of the late ones
            obtain ⟨c, d, hcd⟩ := List.append_of_mem h
            have e : hvL P ops.toList ord = c ++ j :: (d ++ As ++ post) := by rw [D.hhv, hcd]; simp
            have hm : m1 pre As S = true := by
              cases hm : m1 pre As S with
              | true => rfl
              | false =>
                have := m1_false hm j (by simp [h])
                rw [R.un] at this
                cases this
            have hc : ∀ y ∈ c, S y = true := fun y hy => R.before (D.chain e hy hjA (D.hpre y (by rw [hcd]; simp [hy])))
            have hd : ∀ y ∈ d, S y = false := fun y hy => by
              obtain ⟨d1, d2, rfl⟩ := List.append_of_mem hy
              obtain ⟨oy, h1, _⟩ := D.heavyOf (i := y) (by rw [hcd]; simp)
              exact R.behind h1 (D.chain (a := c ++ j :: d1) (b := d2 ++ As ++ post) (x := y) (y := j) (by rw [D.hhv, hcd]; simp) (by simp) (D.hpre y (by rw [hcd]; simp)) hjA)
            have hjd : j ∉ d := fun hm => (D.hv_nodup e).2 (by simp [hm])
            obtain ⟨n1, n2⟩ := count_next R.un hc hd hjd
            obtain ⟨f1, f2⟩ := fin c _ e (by unfold idxS; rw [hm, if_pos rfl, hcd]; exact n1)
            refine ⟨H', f1, fun _ => ⟨by rw [hcd, n2]; exact f2, fun hp => (D.hv_nodup e).2 (by simp [hp])⟩, fun h' => by rw [hm] at h'; cases h'⟩
          · exact (hjAs h).elim
        · -- behind the late ones
          obtain ⟨c, d, hcd⟩ := List.append_of_mem h
          have e : hvL P ops.toList ord = (pre ++ As ++ c) ++ j :: d := by rw [D.hhv, hcd]; simp
          have hm : m1 pre As S = false := m1_of fun x hx => R.before (D.late.2.2.1 j h x hx)
          have hc : ∀ y ∈ c, S y = true := fun y hy => R.before (D.chain e (by simp [hy]) hjA (D.late.2.1 y (by rw [hcd]; simp [hy])))
          have hd : ∀ y ∈ d, S y = false := fun y hy => by
            obtain ⟨d1, d2, rfl⟩ := List.append_of_mem hy
            obtain ⟨oy, h1, _⟩ := D.heavyOf (i := y) (by rw [hcd]; simp)
            exact R.behind h1 (D.chain (a := pre ++ As ++ c ++ j :: d1) (b := d2) (x := y) (y := j) (by rw [D.hhv, hcd]; simp) (by simp) (D.late.2.1 y (by rw [hcd]; simp)) hjA)
          have hjd : j ∉ d := (D.hv_nodup e).2
          obtain ⟨n1, n2⟩ := count_next R.un hc hd hjd
          obtain ⟨f1, f2⟩ := fin _ d e (by unfold idxS; rw [hm, if_neg (by simp), hcd, n1]; simp; omega)
          refine ⟨H', f1, fun h' => (by rw [hm] at h'; cases h'), fun _ => by rw [hcd, n2]; simpa [Nat.add_assoc] using f2⟩
    obtain ⟨H', hk, hx1, hx2⟩ := hnext
    classical
    refine gopD_sound (M := M) (T := T) E hT ops o (env := r.2.2.1) (k := fun y' h' => decide (y' = r.2.2.2 ∧ h' = H')) (fun t ht => ?_) (by rw [hk]; simp) (fun y' v w' ρ' h' E' s' r' hk' => ?_)
    · rw [← D.agree R hacc hr hord ht]
      exact en.tmp t
    · have hk' : y' = r.2.2.2 ∧ h' = H' := by simpa using hk'
      obtain ⟨rfl, rfl⟩ := hk'
      refine hK _ _ (D.finish R hB E' (s.trans s') (fun hm => ?_) (fun hm => ?_) fun hm => (hx1 hm).2)
      · obtain ⟨g, hl⟩ := hlate hm
        rw [fS_m1 hm] at en
        refine ⟨(hx1 hm).1, ?_, g, fun x hx hSx => ?_, fun x hx y hy hSx hSy he => ?_⟩
        · rw [D.push R hacc hr hord As, if_neg hjAs]
          exact (en.mono s'.ext s'.nx).setP o.dst r'
        · have hxj : x ≠ j := fun (e : x = j) => hjAs (e ▸ hx)
          rw [addS_ne S hxj] at hSx
          exact (hl.1 x hx hSx).step s' fun ox t h1 h2 => D.names R hm hx hxj ox t h1 h2
        · rw [addS_ne S (fun (e : x = j) => hjAs (e ▸ hx))] at hSx
          rw [addS_ne S (fun (e : y = j) => hjAs (e ▸ hy))] at hSy
          exact hl.2 x hx y hy hSx hSy he
      · rw [fS_m2 hm] at en
        refine ⟨hx2 hm, ?_⟩
        rw [D.push R hacc hr hord [], if_neg (by simp)]
        exact (en.mono s'.ext s'.nx).setP o.dst r'
end
end Go.Proofs.YtmddhlfjilkdfaaGreatDoor
namespace Go.Proofs.YtmddhlfjilkdfaaGreatDoor
set_option linter.unusedVariables false
set_option linter.unusedSimpArgs false

theorem capp_clam_eq : ∀ (n : Nat) (f : List AV → Hp → Bool) (l : List AV) (h : Hp), l.length = n → capp n (clam n f) l h = f l h
  | 0, _, [], _, _ => rfl
  | 0, _, _ :: _, _, hh => by cases hh
  | n + 1, _, [], _, hh => by cases hh
  | n + 1, f, x :: l, h, hh => capp_clam_eq n (fun l => f (x :: l)) l h (by simpa using hh)
theorem capp_clam_ne : ∀ (n : Nat) (f : List AV → Hp → Bool) (l : List AV) (h : Hp), l.length ≠ n → capp n (clam n f) l h = false
  | 0, _, [], _, hh => (hh rfl).elim
  | 0, _, _ :: _, _, _ => rfl
  | n + 1, _, [], _, _ => rfl
  | n + 1, f, x :: l, h, hh => capp_clam_ne n (fun l => f (x :: l)) l h (fun e => hh (by simp [e]))
section
variable {α β : Type} {P : Program} {T : Tbl} {M : List (Nat × Nat)}
theorem Det2.setO (d : Option Nat) (x : AV) (env : List AV) {g : List AV → (α → β → Bool) → Bool} (hg : ∀ e, Det2 (g e)) : Det2 (fun k => setO d x env fun e => g e k) := (hg _).congr fun _ => setO_eq _ _ _ _
theorem opsD_det (hT : SoundT P T) (all : List Oper) {g : List AV → Hp → (α → β → Bool) → Bool} (hg : ∀ e h, Det2 (g e h)) : ∀ (l : List Oper) (env : List AV) (h : Hp), Det2 (fun k => opsD P T M all l env h fun e h' => g e h' k)
  | [], env, h => hg env h
  | o :: l, env, h => (gopD_det hT M all o env h).bind2 (g := fun y h' k => setO o.dst y env fun env' => opsD P T M all l env' h' fun e h' => g e h' k) fun y h' => Det2.setO _ _ _ fun env' => opsD_det hT all hg l env' h'
theorem rck1_det (hT : SoundT P T) (all : List Oper) (pm hv : List Nat) (r : Nat × Nat × List AV × AV) (o : Oper) {g : (α → β → Bool) → Bool} (hg : Det2 g) : ∀ (hs : List Hp) (c : Nat), Det2 (fun k => rck1 P T M all pm hv r o hs c (g k))
  | [], _ => hg
  | h :: hs, c => by
    have ih := rck1_det hT all pm hv r o hg hs (Nat.succ c)
    show Det2 fun k => (match mayAt pm hv r.1 c && !(Nat.beq (Nat.succ c) r.2.1) with
      | true => gopD P T M all o r.2.2.1 h fun y _ => ifT (avEq y r.2.2.2) (rck1 P T M all pm hv r o hs (Nat.succ c) (g k))
      | false => rck1 P T M all pm hv r o hs (Nat.succ c) (g k))
    cases mayAt pm hv r.1 c && !(Nat.beq (Nat.succ c) r.2.1) with
    | true => exact (gopD_det hT M all o r.2.2.1 h).bind2 (g := fun y _ k => ifT (avEq y r.2.2.2) (rck1 P T M all pm hv r o hs (Nat.succ c) (g k))) fun _ _ => det2_ifT ih
    | false => exact ih
theorem rckL_det (hT : SoundT P T) (all : List Oper) (pm hv : List Nat) (hs : List Hp) {g : (α → β → Bool) → Bool} (hg : Det2 g) : ∀ acc : List (Nat × Nat × List AV × AV), Det2 (fun k => rckL P T M all pm hv hs acc (g k))
  | [] => hg
  | r :: acc => by
    have ih := rckL_det hT all pm hv hs hg acc
    show Det2 fun k => (match all[r.1]? with
      | some o => match isRead P o.op with
        | true => rck1 P T M all pm hv r o hs 0 (rckL P T M all pm hv hs acc (g k))
        | false => rckL P T M all pm hv hs acc (g k)
      | none => false)
    cases all[r.1]? with
    | none => exact Det2.fail
    | some o =>
      dsimp only
      cases isRead P o.op with
      | true => exact rck1_det hT all pm hv r o ih hs 0
      | false => exact ih
theorem runG_det (hT : SoundT P T) (all : List Oper) {g : List (Nat × Nat × List AV × AV) → List Hp → List AV → Hp → (α → β → Bool) → Bool} (hg : ∀ a hs e h, Det2 (g a hs e h)) : ∀ (ord : List Nat) (acc : List (Nat × Nat × List AV × AV)) (hs : List Hp) (env : List AV) (h : Hp), Det2 (fun k => runG P T M all ord acc hs env h fun a hs e h => g a hs e h k)
  | [], acc, hs, env, h => hg acc hs env h
  | i :: ord, acc, hs, env, h => by
    show Det2 fun k => (match all[i]? with
      | some o => gopD P T M all o env h fun y h' => setO o.dst y env fun env' => runG P T M all ord (acc ++ [(i, hs.length, env, y)]) (match isHeavy P o.op with
        | true => hs ++ [h']
        | false => hs) env' h' fun a hs e h => g a hs e h k
      | none => false)
    cases all[i]? with
    | none => exact Det2.fail
    | some o => exact (gopD_det hT M all o env h).bind2 (g := fun y h' k => setO o.dst y env fun env' => runG P T M all ord (acc ++ [(i, hs.length, env, y)]) (match isHeavy P o.op with
        | true => hs ++ [h']
        | false => hs) env' h' fun a hs e h => g a hs e h k) fun y h' => Det2.setO _ _ _ fun env' => runG_det hT all hg ord _ _ env' h'
theorem drawD_det (hT : SoundT P T) (all : List Oper) (ord : List Nat) (env : List AV) (h : Hp) {g : List AV → Hp → (α → β → Bool) → Bool} (hg : ∀ e h, Det2 (g e h)) : Det2 (fun k => drawD P T M all ord env h fun e h' => g e h' k) := by
  simp only [drawD]
  cases ordOk P all ord with
  | false => exact Det2.fail
  | true => exact runG_det hT all (g := fun acc hs env' h' k => rckL P T M all (mskL all []) (hvL P all ord) hs acc (g env' h' k)) (fun acc hs e h => rckL_det hT all _ _ hs (hg e h) acc) ord [] [h] env h
theorem beK_det {g : List AV → (α → β → Bool) → Bool} (hg : ∀ e, Det2 (g e)) : ∀ (W : List Nat) (vals env : List AV), Det2 (fun k => beK W vals env fun e => g e k)
  | [], _, env => hg env
  | i :: W, [], env => Det2.fail
  | i :: W, x :: vals, env => (beK_det hg W vals (env.set i x)).congr fun k => lsK_eq x env i fun env' => beK W vals env' fun e => g e k
theorem met_det {N : Nat} (W : List Nat) (e0 : List AV) (h : Hp) {g : List AV → Hp → (α → β → Bool) → Bool} (hg : ∀ e h, Det2 (g e h)) : Det2 (fun k => capp W.length (clam W.length fun vals h => beK W vals (List.replicate N .d) fun env => g env h k) (sel W e0) h) :=
  (beK_det (fun e => hg e h) W (sel W e0) (List.replicate N .d)).congr fun _ => capp_clam_eq _ _ _ _ (by simp [sel])
theorem cdK_det (x : AV) {g1 g2 : (α → β → Bool) → Bool} (h1 : Det2 g1) (h2 : Det2 g2) : Det2 (fun k => cdK x (g1 k) (g2 k)) := by
  cases x <;> first | exact Det2.fail | exact Det2.bool _ h2 h1
theorem den_det (hT : SoundT P T) {N : Nat} : ∀ (c : Code) {ann : Ann} {K : (α → β → Bool) → Kt} (env : List AV) (h : Hp), (∀ e env h, Det2 (fun k => K k e env h)) → Det2 (fun k => den P T M N c ann (K k) env h) := by
  intro c
  induction c with
  | skip => intro ann K env h H; exact H .n env h
  | region id ops draw =>
    intro ann K env h H
    cases draw with
    | false => exact opsD_det hT ops.toList (g := fun e h k => K k .n e h) (fun e h => H .n e h) ops.toList env h
    | true =>
      cases ann <;> first | exact Det2.fail | skip
      case g ord => exact drawD_det hT ops.toList ord env h (g := fun e h k => K k .n e h) (fun e h => H .n e h)
  | seq x y ihx ihy =>
    intro ann K env h H
    cases ann <;> first | exact Det2.fail | skip
    case s ax ay =>
      exact ihx (ann := ax) (K := fun k => seqK (den P T M N y ay (K k)) (K k)) env h fun e env h => by
        cases e with
        | n => exact ihy env h H
        | x i => exact H (.x i) env h
        | r => exact H .r env h
  | cond cc x y ihx ihy =>
    intro ann K env h H
    cases ann <;> first | exact Det2.fail | skip
    case i ax ay => exact cdK_det _ (ihx env h H) (ihy env h H)
    case j W ax ay =>
      have H2 : ∀ e env h, Det2 (fun k => jK W.length (metK N W (K k)) W (K k) e env h) := fun e env h => by
        cases e with
        | n => exact met_det W env h (g := fun e h k => K k .n e h) fun e h => H .n e h
        | x i => exact H (.x i) env h
        | r => exact H .r env h
      exact cdK_det _ (ihx env h H2) (ihy env h H2)
  | block id x ihx =>
    intro ann K env h H
    have step : ∀ (K2 : (α → β → Bool) → Kt), (∀ e env h, Det2 (fun k => K2 k e env h)) → ∀ e env h, Det2 (fun k => blkK id (K2 k) e env h) := fun K2 H2 e env h => by
      cases e with
      | n => exact H2 .n env h
      | x i => exact Det2.bool _ (H2 (.x i) env h) (H2 .n env h)
      | r => exact H2 .r env h
    cases ann <;> first | exact Det2.fail | skip
    case b ax => exact ihx env h (step K H)
    case k W ax =>
      have H2 : ∀ e env h, Det2 (fun k => jK W.length (metK N W (K k)) W (K k) e env h) := fun e env h => by
        cases e with
        | n => exact met_det W env h (g := fun e h k => K k .n e h) fun e h => H .n e h
        | x i => exact H (.x i) env h
        | r => exact H .r env h
      exact ihx env h (step (fun k => jK W.length (metK N W (K k)) W (K k)) H2)
  | loop x ihx =>
    intro ann K env h H
    cases ann <;> first | exact Det2.fail | skip
    case l W ax =>
      let F : ((α → β → Bool) → Kt) → (α → β → Bool) → CT W.length → CT W.length := fun K k ih => clam W.length fun vals h' => beK W vals (List.replicate N .d) fun env' => den P T M N x ax (jK W.length ih W (K k)) env' h'
      have key : ∀ (m : Nat) (env : List AV) (h : Hp), Det2 (fun k => capp W.length (lpR W.length (F K k) m) (sel W env) h) := by
        intro m
        induction m with
        | zero => intro env h; exact Det2.congr (fun k => capp_clam_eq _ _ _ _ (by simp [sel])) (Det2.fail)
        | succ m ih =>
          intro env h
          refine met_det W env h (g := fun e h k => den P T M N x ax (jK W.length (lpR W.length (F K k) m) W (K k)) e h) fun e h => ?_
          refine ihx (K := fun k => jK W.length (lpR W.length (F K k) m) W (K k)) e h fun e env h => ?_
          cases e with
          | n => exact ih env h
          | x i => exact H (.x i) env h
          | r => exact H .r env h
      exact key 100000 env h
  | rangeFunc f ps x y _ _ => intro ann K env h _; exact Det2.fail
  | exit id => intro ann K env h H; exact H (.x id) env h
  | scope x _ => intro ann K env h _; exact Det2.fail
  | label l => intro ann K env h _; exact Det2.fail
  | goto l => intro ann K env h _; exact Det2.fail
  | ret => intro ann K env h H; exact H .r env h
  | refuse why => intro ann K env h _; exact Det2.fail
theorem ret1_det (l : List AV) (h : Hp) : Det2 (ret1 l h) := by
  rcases l with _ | ⟨x, _ | ⟨y, l⟩⟩ <;> exact Det2.ret _ _
theorem resD_det (env : List AV) (h : Hp) {g : List AV → (α → β → Bool) → Bool} (hg : ∀ l, Det2 (g l)) : ∀ (rs : List ResultVar) (f : List AV → List AV), Det2 (fun k => resD P env h rs fun l => g (f l) k)
  | [], f => hg _
  | .tmp t :: rs, f => resD_det env h hg rs fun l => f (env.getD t .d :: l)
  | .cell a t :: rs, f => by
    show Det2 fun k => (match aggOf P t with
      | some (true, n) => ldN n (env.getD a .d) h fun y => resD P env h rs fun l => g (f (y :: l)) k
      | some (false, _) => ld1 (env.getD a .d) h fun y => resD P env h rs fun l => g (f (y :: l)) k
      | none => false)
    rcases aggOf P t with _ | ⟨_ | _, n⟩
    · exact Det2.fail
    · exact Det.to2 (f := fun k => ld1 (env.getD a .d) h k) (g := fun y k => resD P env h rs fun l => g (f (y :: l)) k) (det_on_p fun _ _ => det_on fun _ _ _ => det_ifT (Det.ret _)) fun y => resD_det env h hg rs fun l => f (y :: l)
    · exact Det.to2 (f := fun k => ldN n (env.getD a .d) h k) (g := fun y k => resD P env h rs fun l => g (f (y :: l)) k) (det_on_p fun _ _ => det_on fun _ _ _ => det_ifT (Det.ret _)) fun y => resD_det env h hg rs fun l => f (y :: l)
theorem retK_det (rs : List ResultVar) (e : Ex) (env : List AV) (h : Hp) : Det2 (fun k => retK P rs k e env h) := by
  cases e with
  | n => exact resD_det env h (g := fun l k => ret1 l h k) (fun l => ret1_det l h) rs fun l => l
  | x i => exact Det2.fail
  | r => exact resD_det env h (g := fun l k => ret1 l h k) (fun l => ret1_det l h) rs fun l => l
theorem fnD_det (hT : SoundT P T) (n N : Nat) (rs : List ResultVar) (c : Code) (ann : Ann) (args : List AV) (h : Hp) : Det2 (fnD P T M n N rs c ann args h) := by
  by_cases hl : args.length = n
  · exact (den_det (M := M) (N := N) hT c (ann := ann) (K := retK P rs) (args ++ List.replicate (N - n) .d) h (retK_det rs)).congr fun k => capp_clam_eq n (fun vals h => den P T M N c ann (retK P rs k) (vals ++ List.replicate (N - n) .d) h) args h hl
  · exact Det2.fail.congr fun k => capp_clam_ne n (fun vals h => den P T M N c ann (retK P rs k) (vals ++ List.replicate (N - n) .d) h) args h hl
end
end Go.Proofs.YtmddhlfjilkdfaaGreatDoor
namespace Go.Proofs.YtmddhlfjilkdfaaGreatDoor
set_option linter.unusedVariables false
set_option linter.unusedSimpArgs false

section
variable {P : Program} {ρ : Q → Loc} {h : Hp} {w : World} {B : Nat} {T : Tbl} {M : List (Nat × Nat)}
def resOf (tmps : Array Value) : ResultVar → Sem Value := fun
  | .tmp t => pure (tmps.getD t undef)
  | .cell a t => do loadVar t (← asAddr (tmps.getD a undef))
theorem load_asAddr {t : TypeId} {u v : Value} (hp : ∃ a, u = .pointer (some a)) (hl : (Instr.loadAt t u).run P w = .ok v w) : (do loadVar t (← asAddr u) : Sem Value).run P w = .ok v w := by
  obtain ⟨a, rfl⟩ := hp
  simpa [Instr.loadAt, Instr.sureAddr, asAddr] using hl
theorem res_sound (E : Emb P ρ h w B) {env : List AV} {a : Act} (en : Env ρ h.nx.num env a) : ∀ {rs : List ResultVar} {k : List AV → Bool}, resD P env h rs k = true → ∃ l vs, k l = true ∧ (rs.mapM (m := Sem) (resOf a.tmps)).run P w = .ok vs w ∧ RelL ρ h.nx.num l vs
  | [], k, hk => ⟨[], [], hk, by simp, .nil⟩
  | .tmp t :: rs, k, hk => by
    obtain ⟨l, vs, h1, h2, h3⟩ := res_sound E en (rs := rs) (k := fun l => k (env.getD t .d :: l)) hk
    exact ⟨_, a.tmps.getD t undef :: vs, h1, by simp [List.mapM_cons, resOf, h2], .cons _ _ _ _ (en.tmp t) h3⟩
  | .cell b t :: rs, k, hk => by
    have hk : (match aggOf P t with
      | some (true, n) => ldN n (env.getD b .d) h fun y => resD P env h rs fun l => k (y :: l)
      | some (false, _) => ld1 (env.getD b .d) h fun y => resD P env h rs fun l => k (y :: l)
      | none => false) = true := hk
    have hb := en.tmp b
    have key : ∀ {y : AV} {v : Value}, (Instr.loadAt t (a.tmps.getD b undef)).run P w = .ok v w → Rel ρ h.nx.num y v → resD P env h rs (fun l => k (y :: l)) = true → (∃ a', a.tmps.getD b undef = .pointer (some a')) → ∃ l vs, k l = true ∧ ((ResultVar.cell b t :: rs).mapM (m := Sem) (resOf a.tmps)).run P w = .ok vs w ∧ RelL ρ h.nx.num l vs := fun {y v} h1 h2 h3 hp => by
      obtain ⟨l, vs, g1, g2, g3⟩ := res_sound E en (rs := rs) h3
      have hl := load_asAddr hp h1
      have hl' : (resOf a.tmps (.cell b t)).run P w = .ok v w := hl
      exact ⟨_, v :: vs, g1, by simp only [List.mapM_cons, Sem.run_bind, hl', Result.andThen_ok, g2, Sem.run_pure], .cons _ _ _ _ h2 g3⟩
    split at hk
    · rename_i n ha
      obtain ⟨q, o, hx, _⟩ := AV.on_p_spec hk
      obtain ⟨y, v, h1, h2, h3⟩ := ldN_sound E ha hb hk
      exact key h1 h2 h3 (by rw [hx] at hb; generalize a.tmps.getD b undef = u at hb; cases hb; exact ⟨_, rfl⟩)
    · rename_i n ha
      obtain ⟨q, o, hx, _⟩ := AV.on_p_spec hk
      obtain ⟨y, v, h1, h2, h3⟩ := ld1_sound E ha hb hk
      exact key h1 h2 h3 (by rw [hx] at hb; generalize a.tmps.getD b undef = u at hb; cases hb; exact ⟨_, rfl⟩)
    · cases hk
theorem results_eq (fn : Func) (tmps : Array Value) : results fn tmps = (do
    let vs ← fn.results.mapM (resOf tmps)
    pure (if h : vs.size = 1 then vs[0] else .tuple vs) : Sem Value) := rfl
theorem ret_sound (E : Emb P ρ h w B) {env : List AV} {a : Act} (en : Env ρ h.nx.num env a) {fn : Func} {k : AV → Hp → Bool} (hk : resD P env h fn.results.toList (fun l => ret1 l h k) = true) : ∃ y v, (results fn a.tmps).run P w = .ok v w ∧ Rel ρ h.nx.num y v ∧ k y h = true := by
  obtain ⟨l, vs, h1, h2, h3⟩ := res_sound E en hk
  have hmm : (fn.results.mapM (m := Sem) (resOf a.tmps)).run P w = .ok vs.toArray w := by
    rw [← Array.toArray_toList (xs := fn.results), List.mapM_toArray]
    simp only [Sem.run_map, h2, Result.andThen_ok]
  have hr : (results fn a.tmps).run P w = .ok (if h : vs.toArray.size = 1 then vs.toArray[0] else .tuple vs.toArray) w := by
    rw [results_eq]
    simp only [Sem.run_bind, hmm, Result.andThen_ok, Sem.run_pure]
  cases h3 with
  | nil => exact ⟨.t [], _, hr, .t [] [] .nil, h1⟩
  | cons x v xs vs hx t =>
    cases t with
    | nil => exact ⟨x, v, hr, hx, h1⟩
    | cons y u ys us hy t =>
      refine ⟨.t (x :: y :: ys), .tuple (v :: u :: us).toArray, ?_, .t _ _ (.cons _ _ _ _ hx (.cons _ _ _ _ hy t)), h1⟩
      rw [hr, dif_neg (by simp)]
theorem enter_run {f : FuncId} {fn : Func} (hf : P.funcs[f]? = some fn) (hn : (fn.name == "runtime.NumGoroutine") = false) (hb : fn.body.isSome = true) (args : Array Value) (w : World) : (callFunc f args).run P w = .ok (.enter f args) w := by
  obtain ⟨c, hc⟩ := Option.isSome_iff_exists.1 hb
  have hn : ¬ fn.name = "runtime.NumGoroutine" := by simpa using hn
  simp [callFunc, run_program, hf, hn, hc]
theorem sound_fnD (hm : P.follows .mixedOrders = true) {f : FuncId} {fn : Func} (hf : P.funcs[f]? = some fn) (hn : (fn.name == "runtime.NumGoroutine") = false) (hb : fn.body.isSome = true) (hle : Nat.ble (Nat.add fn.params.toList.length fn.nfree) fn.ntmps = true) (hT : SoundT P T) (HD : DrawS P T M) {ann : Ann} {s : FS} (hs : s = fnF P T M fn ann) : SoundF P f s := by
  obtain ⟨c, hc⟩ := Option.isSome_iff_exists.1 hb
  have hs : s = fnD P T M (Nat.add fn.params.toList.length fn.nfree) fn.ntmps fn.results.toList c ann := by rw [hs]; unfold fnF; rw [hc]
  subst hs
  have hle := Nat.le_of_ble_eq_true hle
  refine ⟨enter_run hf hn hb, fun args h => fnD_det hT _ _ _ _ _ args h, fun ρ h w B args vals k E ha hk => ?_⟩
  obtain ⟨hl, hk2⟩ := capp_clam _ _ _ _ hk
  refine calls_of_wp hf hc ?_
  have hlen := ha.length
  generalize Nat.add fn.params.toList.length fn.nfree = n at hle hl hk2
  have hsz : vals.toArray.size = n := by simp; omega
  have hel : (args ++ List.replicate (fn.ntmps - n) AV.d).length = fn.ntmps := by simp; omega
  have en : Env ρ h.nx.num (args ++ List.replicate (fn.ntmps - n) .d) { tmps := vals.toArray ++ Array.replicate (fn.ntmps - vals.toArray.size) undef, defers := [] } := by
    refine ⟨by rw [hel, hsz]; simp; omega, fun i hi => ?_, rfl⟩
    by_cases hv : i < args.length
    · have hv' : i < vals.length := by omega
      have := ha.get i hv hv'
      have e1 : (args ++ List.replicate (fn.ntmps - n) AV.d).getD i .d = args[i] := by
        rw [List.getD_eq_getElem?_getD, List.getElem?_append_left hv, List.getElem?_eq_getElem hv]; rfl
      have e2 : (vals.toArray ++ Array.replicate (fn.ntmps - vals.toArray.size) undef).getD i undef = vals[i] := by
        rw [Array.getD_eq_getD_getElem?, Array.getElem?_append_left (by simpa using hv')]
        simp [hv']
      rw [e1]
      show Rel ρ h.nx.num _ (Array.getD _ i undef)
      rw [e2]
      exact this
    · have e1 : (args ++ List.replicate (fn.ntmps - n) AV.d).getD i .d = .d := by
        rw [List.getD_eq_getElem?_getD, List.getElem?_append_right (by omega), List.getElem?_replicate]
        split <;> rfl
      rw [e1]
      exact .d _
  refine den_sound hm hT HD c E en hel hk2 fun e env' h' ρ' w' a' E' s' en' _ hk' => ?_
  cases e with
  | n =>
    obtain ⟨y, v, h1, h2, h3⟩ := ret_sound E' en' hk'
    exact ⟨en'.defers, v, h1, ρ', h', y, E', s', h2, h3⟩
  | x i => cases hk'
  | r =>
    obtain ⟨y, v, h1, h2, h3⟩ := ret_sound E' en' hk'
    exact ⟨en'.defers, v, h1, ρ', h', y, E', s', h2, h3⟩
def sx : FS := fun _ _ _ => false
theorem sound_stub {f : FuncId} {fn : Func} (hf : P.funcs[f]? = some fn) (hn : (fn.name == "runtime.NumGoroutine") = false) (hb : fn.body.isSome = true) : SoundF P f sx :=
  ⟨enter_run hf hn hb, fun _ _ => Det2.fail, fun _ _ _ _ _ _ _ _ _ hk => by cases hk⟩
end
end Go.Proofs.YtmddhlfjilkdfaaGreatDoor
namespace Go.Proofs.YtmddhlfjilkdfaaGreatDoor
set_option linter.unusedVariables false
set_option linter.unusedSimpArgs false

def stS (listed : Array Bool) (i : Nat) : Bool := listed.getD i false
def unl (n : Nat) (listed : Array Bool) : Nat := ((List.range n).filter fun i => !(stS listed i)).length
theorem stS_set {listed : Array Bool} {j : Nat} (hj : j < listed.size) : stS (listed.setIfInBounds j true) = addS (stS listed) j := by
  funext i
  unfold stS addS
  by_cases h : i = j
  · subst h
    simp [hj]
  · rw [if_neg h]
    simp [Array.getElem?_setIfInBounds_ne (Ne.symm h)]
theorem filter_lt {p q : Nat → Bool} {j : Nat} (hpq : ∀ i, q i = true → p i = true) (hp : p j = true) (hq : q j = false) : ∀ {l : List Nat}, j ∈ l → (l.filter q).length < (l.filter p).length
  | x :: l, h => by
    have hle : ∀ l : List Nat, (l.filter q).length ≤ (l.filter p).length := fun l => by
      induction l with
      | nil => exact Nat.le_refl _
      | cons y l ih =>
        cases hqy : q y with
        | true =>
          rw [List.filter_cons_of_pos hqy, List.filter_cons_of_pos (hpq y hqy)]
          simp; exact ih
        | false =>
          rw [List.filter_cons_of_neg (by rw [hqy]; simp)]
          cases hpy : p y with
          | true => rw [List.filter_cons_of_pos hpy]; simp; omega
          | false => rw [List.filter_cons_of_neg (by rw [hpy]; simp)]; exact ih
    by_cases hx : x = j
    · subst hx
      rw [List.filter_cons_of_neg (by rw [hq]; simp), List.filter_cons_of_pos hp]
      have := hle l
      simp; omega
    · have hm : j ∈ l := (List.mem_cons.1 h).resolve_left (Ne.symm hx)
      have ih := filter_lt hpq hp hq hm
      cases hqy : q x with
      | true =>
        rw [List.filter_cons_of_pos hqy, List.filter_cons_of_pos (hpq x hqy)]
        simp; exact ih
      | false =>
        rw [List.filter_cons_of_neg (by rw [hqy]; simp)]
        cases hpy : p x with
        | true => rw [List.filter_cons_of_pos hpy]; simp; omega
        | false => rw [List.filter_cons_of_neg (by rw [hpy]; simp)]; exact ih
theorem first_un {S : Nat → Bool} : ∀ {l : List Nat}, (∃ i ∈ l, S i = false) → ∃ p j q, l = p ++ j :: q ∧ S j = false ∧ ∀ y ∈ p, S y = true
  | [], ⟨i, h, _⟩ => by cases h
  | x :: l, ⟨i, hi, hS⟩ => by
    cases hx : S x with
    | false => exact ⟨[], x, l, rfl, hx, fun y h => by cases h⟩
    | true =>
      have : i ∈ l := (List.mem_cons.1 hi).resolve_left fun e => by rw [e, hx] at hS; cases hS
      obtain ⟨p, j, q, rfl, h2, h3⟩ := first_un ⟨i, this, hS⟩
      exact ⟨x :: p, j, q, rfl, h2, fun y hy => by
        rcases List.mem_cons.1 hy with rfl | hy
        · exact hx
        · exact h3 y hy⟩
theorem repF_none {all : List Oper} {f : Rw → Option AV} : ∀ {acc : List Rw} {env : List AV}, (∀ r ∈ acc, f r = none) → repF all f acc env = env
  | [], _, _ => rfl
  | r :: acc, env, h => by
    rw [repF_cons, h r (by simp)]
    exact repF_none fun r' hr' => h r' (List.mem_cons_of_mem _ hr')
theorem repF_all {all : List Oper} {f : Rw → Option AV} : ∀ {acc : List Rw} {env : List AV}, (∀ r ∈ acc, f r = some r.2.2.2) → repF all f acc env = repP all acc env
  | [], _, _ => rfl
  | r :: acc, env, h => by
    rw [repF_cons, repP_cons, h r (by simp)]
    exact repF_all fun r' hr' => h r' (List.mem_cons_of_mem _ hr')
section
variable {P : Program} {T : Tbl} {M : List (Nat × Nat)} {ops : Array Oper} {ord : List Nat} {env0 : List AV} {h0 : Hp} {acc : List Rw} {HH : List Hp} {envE : List AV} {hE : Hp} {A pre As post : List Nat}
theorem DC.rdy {S : Nat → Bool} (hcl : Closed ops.toList (fun i => S i = true)) {listed : Array Bool} (hS : S = stS listed) {j : Nat} (hj : j ∈ Region.ready .any ops listed) : ∃ o, Rdy ops.toList S j o ∧ j < listed.size := by
  obtain ⟨h1, o, h2, h3⟩ := mem_ready.1 hj
  have hlt : j < listed.size := by
    rcases Nat.lt_or_ge j listed.size with h | h
    · exact h
    · rw [Array.getD_eq_getD_getElem?, Array.getElem?_eq_none h] at h1
      cases h1
  refine ⟨o, ⟨by rw [Array.getElem?_toList]; exact h2, ?_, fun e he => ?_, hcl⟩, hlt⟩
  · subst hS
    unfold stS
    rw [Array.getD_eq_getD_getElem?, Array.getElem?_eq_getElem hlt] at h1 ⊢
    exact h1
  · subst hS
    unfold dpr at he
    obtain ⟨e', he', rfl⟩ := List.mem_map.1 he
    obtain ⟨g1, g2⟩ := List.mem_filter.1 he'
    exact h3 e' (by simpa using g1) g2
theorem DC.done (D : DC P T M ops.toList ord env0 h0 acc HH envE hE A pre As post) {ρ0 : Q → Loc} {w0 : World} {B : Nat} {S : Nat → Bool} {a : Act} {w : World} (I : Inv P ops.toList env0 h0 acc HH pre As post ρ0 w0 B S a w) (hall : ∀ i, i < ops.toList.length → S i = true) : ∃ ρ, Emb P ρ hE w B ∧ Step ρ0 h0 w0 ρ hE w ∧ Env ρ hE.nx.num envE a := by
  obtain ⟨_, ρ, H, hH, E, s, en, _⟩ := I
  have hin : ∀ x ∈ pre ++ As ++ post, S x = true := fun x hx => by
    obtain ⟨o, h1, _⟩ := D.heavyOf hx
    exact hall x (List.getElem?_eq_some_iff.1 h1).1
  have hm : m1 pre As S = false := m1_of fun x hx => hin x (List.mem_append_left _ hx)
  have hp : post.filter S = post := List.filter_eq_self.2 fun y hy => hin y (List.mem_append_right _ hy)
  have hidx : idxS pre As post S = (hvL P ops.toList ord).length := by unfold idxS; rw [hm, if_neg (by simp), hp, D.hhv]; simp; omega
  rw [hidx, D.hhE] at hH
  cases hH
  rw [fS_m2 hm, repF_all, ← D.henv] at en
  · exact ⟨ρ, E, s, en⟩
  · intro r hr
    have : r.1 ∈ ord := by rw [← D.hmap]; exact List.mem_map.2 ⟨r, hr, rfl⟩
    obtain ⟨p, q, e⟩ := List.append_of_mem this
    obtain ⟨o, h1, _⟩ := linOk_split D.hlin e
    unfold fU
    rw [if_pos (hall r.1 (List.getElem?_eq_some_iff.1 h1).1), if_neg (by simp)]
theorem DC.any (D : DC P T M ops.toList ord env0 h0 acc HH envE hE A pre As post) (hT : SoundT P T) {ρ0 : Q → Loc} {w0 : World} {B : Nat} (hB : B ≤ w0.heap.size) {QQ : Exit → Act → World → Prop} (hfin : ∀ ρ a w, Emb P ρ hE w B → Step ρ0 h0 w0 ρ hE w → Env ρ hE.nx.num envE a → QQ .normal a w) :
    ∀ (fuel : Nat) (listed : Array Bool) (a : Act) (w : World), listed.size = ops.size → unl ops.size listed ≤ fuel → Inv P ops.toList env0 h0 acc HH pre As post ρ0 w0 B (stS listed) a w → wpAny P .any ops QQ fuel listed a w := by
  have hdone : ∀ (listed : Array Bool) (a : Act) (w : World), (∀ i, i < ops.toList.length → stS listed i = true) → Inv P ops.toList env0 h0 acc HH pre As post ρ0 w0 B (stS listed) a w → QQ .normal a w := fun listed a w hall I => by
    obtain ⟨ρ, h1, h2, h3⟩ := D.done I hall
    exact hfin ρ a w h1 h2 h3
  have hready : ∀ (listed : Array Bool), listed.size = ops.size → Region.ready .any ops listed = [] → ∀ i, i < ops.toList.length → stS listed i = true := fun listed hsz hr i hi => by
    cases hS : stS listed i with
    | true => rfl
    | false =>
      obtain ⟨p, j, q, e, h1, h2⟩ := first_un (S := stS listed) ⟨i, D.hcov i hi, hS⟩
      obtain ⟨o, g1, g2, _, _⟩ := linOk_split D.hlin e
      have g1' : ops[j]? = some o := by rw [← Array.getElem?_toList]; exact g1
      have hjlt : j < listed.size := by
        rw [hsz]
        exact (Array.getElem?_eq_some_iff.1 g1').1
      have : j ∈ Region.ready .any ops listed := mem_ready.2 ⟨by
        unfold stS at h1
        rw [Array.getD_eq_getD_getElem?, Array.getElem?_eq_getElem hjlt] at h1 ⊢
        exact h1, o, g1', fun e he hb => by
          have hm : e.on ∈ dpr o := by
            unfold dpr
            exact List.mem_map.2 ⟨e, List.mem_filter.2 ⟨by simpa using he, hb⟩, rfl⟩
          exact h2 e.on ((g2 e.on hm).resolve_left (by simp))⟩
      rw [hr] at this
      cases this
  intro fuel
  induction fuel with
  | zero =>
    intro listed a w hsz hu I
    have hall : ∀ i, i < ops.toList.length → stS listed i = true := fun i hi => by
      cases hS : stS listed i with
      | true => rfl
      | false =>
        have : i ∈ (List.range ops.size).filter fun i => !(stS listed i) := List.mem_filter.2 ⟨List.mem_range.2 (by simpa using hi), by rw [hS]; rfl⟩
        have h0 : (List.range ops.size).filter (fun i => !(stS listed i)) = [] := List.eq_nil_of_length_eq_zero (Nat.le_zero.1 hu)
        rw [h0] at this
        cases this
    refine ⟨?_, hdone listed a w hall I⟩
    cases hr : Region.ready .any ops listed with
    | nil => rfl
    | cons j l =>
      obtain ⟨o, R, _⟩ := DC.rdy I.1 rfl (listed := listed) (j := j) (by rw [hr]; simp)
      have := hall j (List.getElem?_eq_some_iff.1 R.op).1
      rw [R.un] at this
      cases this
  | succ fuel ih =>
    intro listed a w hsz hu I
    refine ⟨fun hr => hdone listed a w (hready listed hsz hr) I, fun j hj => ?_⟩
    obtain ⟨o, R, hlt⟩ := DC.rdy I.1 rfl hj
    refine D.step hT R hB I fun a' w' I' => ih _ a' w' (by simpa using hsz) ?_ (by rw [stS_set hlt]; exact I')
    have hjn : j ∈ List.range ops.size := List.mem_range.2 (by rw [← hsz]; exact hlt)
    have := filter_lt (p := fun i => !(stS listed i)) (q := fun i => !(stS (listed.setIfInBounds j true) i)) (j := j) (fun i hi => by
      rw [stS_set hlt] at hi
      by_cases hij : i = j
      · rw [hij, addS_same] at hi; cases hi
      · rwa [addS_ne _ hij] at hi) (by rw [R.un]; rfl) (by rw [stS_set hlt, addS_same]; rfl) hjn
    unfold unl at hu ⊢
    omega
/-- A drawn region does what is evaluated, in whatever order. -/
theorem draw_sound (hT : SoundT P T) : DrawS P T M := by
  intro ops ord env a ρ h w B L k QQ E en hl hk H
  unfold drawD at hk
  cases hok : ordOk P ops.toList ord with
  | false => rw [hok] at hk; cases hk
  | true =>
    rw [hok] at hk
    obtain ⟨acc, hs, envE, hE, c, hk2⟩ := runG_chain hT ord (show runG P T M ops.toList ord [] [h] env h _ = true from hk)
    obtain ⟨hk3, hrck⟩ := rckL_spec hk2
    obtain ⟨f1, f2, f3, f4, f5⟩ := c.facts
    simp only [List.nil_append, List.singleton_append] at hrck
    unfold ordOk at hok
    simp only [Bool.and_eq_true] at hok
    obtain ⟨⟨⟨o1, o2⟩, o3⟩, o4⟩ := hok
    generalize hA : lateL P ops.toList (mskL ops.toList []) = A at o3 o4
    have htd := List.takeWhile_append_dropWhile (p := fun i => !(memN A i)) (l := hvL P ops.toList ord)
    have D : DC P T M ops.toList ord env h acc (h :: hs) envE hE A (preL A (hvL P ops.toList ord)) (((hvL P ops.toList ord).drop (preL A (hvL P ops.toList ord)).length).take A.length) (((hvL P ops.toList ord).drop (preL A (hvL P ops.toList ord)).length).drop A.length) := by
      refine ⟨fun j hj => ?_, o2, o3, o4, fun i hi hm => ?_, fun i hi => ?_, ?_, f1, rfl, by rw [← f2]; exact f4, f3, f5, hrck⟩
      · have := List.all_eq_true.1 o1 j (List.mem_range.2 hj)
        exact memN_spec.1 this
      · have := List.all_eq_true.1 (List.all_takeWhile (p := fun i => !(memN A i)) (l := hvL P ops.toList ord)) i hi
        rw [memN_spec.2 hm] at this
        cases this
      · rw [← hA] at hi
        unfold lateL at hi
        obtain ⟨x, hx, rfl⟩ := List.mem_map.1 hi
        obtain ⟨g1, g2⟩ := List.mem_filter.1 hx
        simp only [Bool.and_eq_true] at g2
        rw [List.mem_zipIdx_iff_getElem?] at g1
        exact ⟨x.1, g1, g2.1⟩
      · have e1 : (hvL P ops.toList ord).drop (preL A (hvL P ops.toList ord)).length = (hvL P ops.toList ord).dropWhile fun i => !(memN A i) := by
          unfold preL
          conv => lhs; rw [← htd]
          rw [htd]
          conv => lhs; arg 2; rw [← htd]
          exact List.drop_left
        rw [List.append_assoc, List.take_append_drop, e1]
        exact htd.symm
    refine D.any hT E.base (fun ρ' a' w' E' s' en' => H envE hE ρ' w' a' E' s' en' ?_ hk3) ops.size (Array.replicate ops.size false) a w (by simp) ?_ ?_
    · rw [f3, ← hl]
      have : ∀ (acc : List Rw) (e : List AV), (repP ops.toList acc e).length = e.length := fun acc => by
        induction acc with
        | nil => intro e; rfl
        | cons r acc ih => intro e; rw [repP_cons, ih]; exact setP_length _ _ _
      exact this acc env
    · unfold unl
      exact Nat.le_trans (List.length_filter_le _ _) (by simp)
    · have hS : ∀ i, stS (Array.replicate ops.size false) i = false := fun i => by
        unfold stS
        rw [Array.getD_eq_getD_getElem?, Array.getElem?_replicate]
        split <;> rfl
      generalize stS (Array.replicate ops.size false) = S at hS
      have hnil : ∀ l : List Nat, l.filter S = [] := fun l => List.filter_eq_nil_iff.2 fun y _ => by rw [hS]; simp
      refine ⟨fun j o _ (hj : S j = true) => (by rw [hS] at hj; cases hj), ρ, h, ?_, E, Step.refl _ _ _, ?_, fun _ => ⟨fun _ => 0, fun x _ hx => (by rw [hS] at hx; cases hx), fun x _ y _ hx => (by rw [hS] at hx; cases hx)⟩⟩
      · have : ∀ (pre As post : List Nat), idxS pre As post S = 0 := fun pre As post => by
          unfold idxS
          split
          · rw [hnil]; rfl
          · rename_i hm
            have hall := m1_false (by simpa using hm : m1 pre As S = false)
            have e1 : pre = [] := List.eq_nil_iff_forall_not_mem.2 fun x hx => by have := hall x (by simp [hx]); rw [hS] at this; cases this
            have e2 : As = [] := List.eq_nil_iff_forall_not_mem.2 fun x hx => by have := hall x (by simp [hx]); rw [hS] at this; cases this
            rw [e1, e2, hnil]; rfl
        rw [this]
        rfl
      · rw [repF_none fun r _ => by unfold fS; rw [hS]; rfl]
        exact en
/-- A function that was written out. -/
theorem sound_fn {f : FuncId} {fn : Func} {ann : Ann} {s : FS} (hf : P.funcs[f]? = some fn) (hn : (fn.name == "runtime.NumGoroutine") = false) (hb : fn.body.isSome = true) (hle : Nat.ble (Nat.add fn.params.toList.length fn.nfree) fn.ntmps = true) (hm : P.follows .mixedOrders = true) (hT : SoundT P T) (hs : s = fnF P T M fn ann) : SoundF P f s :=
  sound_fnD hm hf hn hb hle hT (draw_sound hT) hs
end
end Go.Proofs.YtmddhlfjilkdfaaGreatDoor
namespace Go.Proofs.YtmddhlfjilkdfaaGreatDoor
set_option linter.unusedVariables false
set_option linter.unusedSimpArgs false
open Go.RowKit

section
variable {P : Program} {ρ : Q → Loc} {h : Hp} {w w' : World} {B : Nat}
/-- What has no name may come. -/
theorem Emb.below (E : Emb P ρ h w B) (hb : Below w.heap.size w w') : Emb P ρ h w' B ∧ Step ρ h w ρ h w' := by
  have lt_of : ∀ {b : Nat} {o : Obj}, w.heap[b]? = some o → b < w.heap.size := fun hx => (Array.getElem?_eq_some_iff.1 hx).1
  refine ⟨⟨Nat.le_trans E.base hb.size, E.lt, E.ge, E.inj, fun q ty n v hg => ?_, fun q es hg => ?_, fun q o l hg => ?_, fun q i hg => ?_, fun q ty hg => ?_, E.tab.mono fun c hc => hb.block c (by have := E.base; omega)⟩, ⟨fun _ _ => rfl, Nat.le_refl _, hb.size, fun b hlt _ => hb.block b hlt, fun q hq => .inl ⟨q, hq, rfl⟩, hb.os, hb.tape, hb.output⟩⟩
  · have R := E.row q ty n v hg
    obtain ⟨sz, h1, _⟩ := R.at_
    have : (ρ q).blk < w.heap.size := by
      unfold World.shape? at h1
      cases hx : w.heap[(ρ q).blk]? with
      | none => rw [hx] at h1; cases h1
      | some o => exact lt_of hx
    exact R.mono (fun _ _ => rfl) (Nat.le_refl _) (hb.block _ this)
  · have R := E.map q es hg
    obtain ⟨fs, c, h1, _⟩ := R
    exact (E.map q es hg).mono (fun _ _ => rfl) (Nat.le_refl _) (hb.block _ (lt_of h1))
  · have R := E.si q o l hg
    obtain ⟨s, h1, _⟩ := R
    exact (E.si q o l hg).mono (hb.block _ (lt_of h1))
  · obtain ⟨s, h1⟩ := (E.op q i hg).2.1
    exact ⟨(E.op q i hg).1, (E.op q i hg).2.mono (fun _ _ => rfl) (E.op q i hg).1 (hb.block _ (lt_of h1))⟩
  · have R := E.soup q ty hg
    obtain ⟨sz, h1, _⟩ := R.at_
    have : (ρ q).blk < w.heap.size := by
      unfold World.shape? at h1
      cases hx : w.heap[(ρ q).blk]? with
      | none => rw [hx] at h1; cases h1
      | some o => exact lt_of hx
    exact R.mono (hb.block _ this)
def h00 : Hp := .mk .z (.d1 .e)
/-- The empty heap's map of names, beside it the texts. -/
def rT (tx : Nat → ByteArray) : Q → Loc := fun _ => { blk := 0, base := 0, cap := 0, tx := tx }
theorem no00 (q : Q) : ¬ h00.live q := fun hq => hq (HT.get_z q)
theorem emb00 (P : Program) (ρ : Q → Loc) (w : World) (hT : Tabs P w.heap.size w) : Emb P ρ h00 w w.heap.size := by
  refine ⟨Nat.le_refl _, fun q hq => (no00 q hq).elim, fun q hq => (no00 q hq).elim, fun q _ hq => (no00 q hq).elim, fun q ty n v hg => ?_, fun q es hg => ?_, fun q o l hg => ?_, fun q i hg => ?_, fun q ty hg => ?_, hT⟩ <;>
  · have := HT.get_z q
    rw [show h00.t = .z from rfl, this] at hg
    cases hg
theorem Step.below {ρ' : Q → Loc} {h' : Hp} (s : Step ρ h00 w ρ' h' w') : Below w.heap.size w w' :=
  ⟨s.os, s.tape, s.output, s.size, fun b hb => s.frame b hb fun q hq => (no00 q hq).elim⟩
/-- A function, evaluated from the empty heap. -/
theorem SoundF.calls0 {f : FuncId} {s : FS} (hs : SoundF P f s) {args : List AV} {vals : List Value} (ha : RelL ρ 1 args vals) {k : AV → Hp → Bool} (hk : s args h00 k = true) (w : World) (hT : Tabs P w.heap.size w) :
    Calls P f vals.toArray w fun e w' => ∃ v ρ' h' y, e = .returned v ∧ Rel ρ' (Hp.nx h').num y v ∧ k y h' = true ∧ Below w.heap.size w w' :=
  (hs.sound ρ h00 w w.heap.size args vals k (emb00 P ρ w hT) ha hk).mono fun e w' hl => by
    cases e with
    | returned v =>
      obtain ⟨ρ', h', y, _, s, hr, hk⟩ := hl
      exact ⟨v, ρ', h', y, rfl, hr, hk, s.below⟩
    | _ => exact hl.elim
def isT (y : AV) : Bool := y.on_b fun b => b
theorem isT_spec {ρ : Q → Loc} {N : Nat} {y : AV} {v : Value} (hr : Rel ρ N y v) (h : isT y = true) : v = .bool true := by
  obtain ⟨b, rfl, hb⟩ := AV.on_b_spec (show y.on_b _ = true from h)
  subst hb
  cases hr
  rfl
/-- It tells true. -/
theorem SoundF.true0 {f : FuncId} {s : FS} (hs : SoundF P f s) {args : List AV} {vals : List Value} (ha : RelL ρ 1 args vals) (hk : s args h00 (fun y _ => isT y) = true) (w : World) (hT : Tabs P w.heap.size w) :
    Calls P f vals.toArray w fun e w' => e = .returned (.bool true) ∧ Below w.heap.size w w' :=
  (hs.calls0 ha hk w hT).mono fun e w' ⟨v, _, _, y, he, hr, hk, hb⟩ => ⟨by rw [he, isT_spec hr hk], hb⟩
/-- It gives nothing. -/
theorem SoundF.unit0 {f : FuncId} {s : FS} (hs : SoundF P f s) {args : List AV} {vals : List Value} (ha : RelL ρ 1 args vals) (hk : s args h00 (fun y _ => y.on_t fun l => l.isEmpty) = true) (w : World) (hT : Tabs P w.heap.size w) :
    Calls P f vals.toArray w fun e w' => e = .returned (.tuple #[]) ∧ Below w.heap.size w w' :=
  (hs.calls0 ha hk w hT).mono fun e w' ⟨v, _, _, y, he, hr, hk, hb⟩ => by
    obtain ⟨l, rfl, hl⟩ := AV.on_t_spec (show y.on_t _ = true from hk)
    cases l with
    | nil =>
      cases hr with
      | t _ vs hv =>
        cases hv
        exact ⟨he, hb⟩
    | cons _ _ => cases hl

/-! The rest of a function's text. -/
/-- What stands behind the first so many parts. -/
def tlK : Nat → Code → Code
  | 0, c => c
  | n + 1, .seq _ b => tlK n b
  | _ + 1, c => c
def tlA : Nat → Ann → Ann
  | 0, a => a
  | n + 1, .s _ b => tlA n b
  | _ + 1, a => a
/-- The environment in which two temporaries are known. -/
def env2 (N : Nat) (x y : AV) : List AV := x :: y :: List.replicate (N - 2) .d
def env1 (N : Nat) (x : AV) : List AV := x :: List.replicate (N - 1) .d
theorem env_d (ρ : Q → Loc) (n N : Nat) (i : Nat) (v : Value) : Rel ρ n ((List.replicate N AV.d).getD i .d) v := by
  have : (List.replicate N AV.d).getD i .d = .d := by
    rw [List.getD_eq_getElem?_getD, List.getElem?_replicate]
    split <;> rfl
  rw [this]
  exact .d _
theorem env2_rel {ρ : Q → Loc} {n N : Nat} {x y : AV} {a : Act} (hs : a.tmps.size = N) (hN : 2 ≤ N) (hd : a.defers = []) (hx : Rel ρ n x (a.tmps.getD 0 undef)) (hy : Rel ρ n y (a.tmps.getD 1 undef)) : Env ρ n (env2 N x y) a := by
  refine ⟨by simp [env2, hs]; omega, fun i _ => ?_, hd⟩
  match i with
  | 0 => exact hx
  | 1 => exact hy
  | i + 2 => exact env_d ρ n (N - 2) i _
theorem env1_rel {ρ : Q → Loc} {n N : Nat} {x : AV} {a : Act} (hs : a.tmps.size = N) (hN : 1 ≤ N) (hd : a.defers = []) (hx : Rel ρ n x (a.tmps.getD 0 undef)) : Env ρ n (env1 N x) a := by
  refine ⟨by simp [env1, hs]; omega, fun i _ => ?_, hd⟩
  match i with
  | 0 => exact hx
  | i + 1 => exact env_d ρ n (N - 1) i _
theorem rest_sound {T : Tbl} {M : List (Nat × Nat)} (hm : P.follows .mixedOrders = true) (hT' : SoundT P T) {fn : Func} {c : Code} {ann : Ann} {env : List AV} {a : Act} (en : Env ρ 1 env a) (hl : env.length = fn.ntmps)
    (hk : den P T M fn.ntmps c ann (retK P fn.results.toList fun y _ => isT y) env h00 = true) {w0 : World} (hw : Below w0.heap.size w0 w) (hT : Tabs P w.heap.size w) :
    c.wp P (bodyPost P fn fun e w' => e = .returned (.bool true) ∧ Below w0.heap.size w0 w') a w := by
  refine den_sound (B := w.heap.size) hm hT' (draw_sound hT') c (emb00 P ρ w hT) en hl hk fun e env' h' ρ' w' a' E' s' en' _ hk' => ?_
  have key : resD P env' h' fn.results.toList (fun l => ret1 l h' fun y _ => isT y) = true → bodyPost P fn (fun e w' => e = .returned (.bool true) ∧ Below w0.heap.size w0 w') .ret a' w' := fun hk' => by
    obtain ⟨y, v, h1, h2, h3⟩ := ret_sound E' en' hk'
    exact ⟨en'.defers, v, h1, by rw [isT_spec h2 h3], hw.trans (s'.below.mono hw.size)⟩
  cases e with
  | n => exact key hk'
  | x i => cases hk'
  | r => exact key hk'

/-! maps.Copy of one entry at the most, into another map. -/
theorem muD_run (E : Emb P ρ h w B) {t kt et : TypeId} (ht : mapOf P t = some (kt, et)) {str : Bool} (hs : kdOf P kt = some str) {q : Q} {x z : AV} {u zv : Value} (hx : Rel ρ h.nx.num x u) (hz : Rel ρ h.nx.num z zv) {k : Hp → Bool} (hk : muD str (.m q) x z h k = true) :
    ∃ fs' c' h', (Instr.mapUpdate t (.map (some (ρ q).blk)) u zv).run P w = .ok () { w with heap := w.heap.setIfInBounds (ρ q).blk (.map fs' c') } ∧
      Emb P ρ h' { w with heap := w.heap.setIfInBounds (ρ q).blk (.map fs' c') } B ∧ Step ρ h w ρ h' { w with heap := w.heap.setIfInBounds (ρ q).blk (.map fs' c') } ∧ k h' = true := by
  have ht := mapOf_spec ht
  obtain ⟨d, hd, hck⟩ := kd_desc hs
  have hk1 : ((HT.getR q h.t).onM fun es => muK str x z es fun es' => HT.setK (.mp es') q h.t fun t' => k (.mk t' h.nx)) = true := hk
  clear hk
  rw [HT.getR_eq] at hk1
  obtain ⟨es, hg, hk2⟩ := OB.onM_spec hk1
  obtain ⟨fs, c, hb, hr, hborn⟩ := E.map q es hg
  have hgo := run_getObj' (P := P) hb (by intro _ _ _ e; cases e)
  obtain ⟨es', hk3, hcase⟩ := muK_sound hs hd hx hz 0 hr hk2
  rw [HT.setK_eq] at hk3
  rcases hcase with ⟨h1, h2⟩ | ⟨j, e, h1, h2, h3, h4, h5⟩
  · obtain ⟨a1, a2⟩ := E.setMap hg (es' := es') (fs' := fs.push { key := u, val := zv, born := c }) (c' := c + 1) (by simpa using h2 c) (fun e he => by
      rw [Array.toList_push] at he
      rcases List.mem_append.1 he with he | he
      · have := hborn e he; omega
      · rcases List.mem_singleton.1 he with rfl; simp)
    exact ⟨_, _, _, by simp [Instr.mapUpdate, run_underlying ht, hgo, hck, run_findKey (P := P) hd h1, run_setObj' (P := P) hb (by intro _ _ _ e; cases e)], a1, a2, hk3⟩
  · have hj : fs[j]? = some e := by rw [← Array.getElem?_toList]; exact h2
    have hks : (Instr.keyThatStays (((fs[0 + j]?).map (·.key)).getD u) u).run P w = .ok u w := by
      simp [hj, h3, Instr.keyThatStays, h4]
    rw [Nat.zero_add] at hks h1
    obtain ⟨a1, a2⟩ := E.setMap hg (es' := es') (fs' := fs.modify j fun e => { e with key := u, val := zv }) (c' := c) (by rw [Array.toList_modify]; exact h5) (fun e' he => by
      rw [Array.toList_modify] at he
      obtain ⟨i, hi⟩ := List.mem_iff_getElem?.1 he
      rw [List.getElem?_modify] at hi
      cases hfi : fs.toList[i]? with
      | none => rw [hfi] at hi; simp at hi
      | some e0 =>
        rw [hfi] at hi
        have hb0 := hborn e0 (List.mem_of_getElem? hfi)
        by_cases hij : j = i
        · simp [hij] at hi; rw [← hi]; exact hb0
        · simp [hij] at hi; rw [← hi]; exact hb0)
    refine ⟨_, _, _, ?_, a1, a2, hk3⟩
    simp only [Instr.mapUpdate, Sem.run_bind, run_underlying ht, Result.andThen_ok, hgo, hck, run_findKey (P := P) hd h1, hks, run_setObj' (P := P) hb (by intro _ _ _ e; cases e)]
noncomputable def cpF : FS := fun args h k => capp 2 (fun dm s h => dm.on_m fun qd => s.on_m fun q => (HT.getR q h.t).onM fun es => List.casesOn (motive := fun _ => Bool) es (k (.t []) h) fun e t => List.casesOn (motive := fun _ => Bool) t (e.2.on_a fun cs => List.casesOn (motive := fun _ => Bool) cs false fun _ c2 => List.casesOn (motive := fun _ => Bool) c2 (ifT (nb (Q.eq qd q)) (muD true (.m qd) e.1 e.2 h fun h' => k (.t []) h')) (fun _ _ => false)) (fun _ _ => false)) args h
/-- slices.Sorted of maps.Keys of a map that holds nothing; 'n': the number of the iterator's text. -/
noncomputable def soF (n : Nat) : FS := fun args h k => capp 1 (fun f h => f.on_f fun g fs cs => ifT (Nat.beq g n) (List.casesOn (motive := fun _ => Bool) fs (List.casesOn (motive := fun _ => Bool) cs false fun c t => List.casesOn (motive := fun _ => Bool) t (ld1 c h fun m => m.on_m fun q => (HT.getR q h.t).onM fun es => List.casesOn (motive := fun _ => Bool) es (k .ns h) (fun _ _ => false)) (fun _ _ => false)) (fun _ _ => false))) args h
theorem cpF_det (args : List AV) (h : Hp) : Det2 (cpF args h) := by
  match args with
  | [] => exact Det2.fail
  | [_] => exact Det2.fail
  | _ :: _ :: _ :: _ => exact Det2.fail
  | [dm, s] =>
    show Det2 fun (k : AV → Hp → Bool) => dm.on_m fun qd => s.on_m fun q => (HT.getR q h.t).onM fun es => List.casesOn (motive := fun _ => Bool) es (k (.t []) h) fun e t => List.casesOn (motive := fun _ => Bool) t (e.2.on_a fun cs => List.casesOn (motive := fun _ => Bool) cs false fun _ c2 => List.casesOn (motive := fun _ => Bool) c2 (ifT (nb (Q.eq qd q)) (muD true (.m qd) e.1 e.2 h fun h' => k (.t []) h')) (fun _ _ => false)) (fun _ _ => false)
    cases dm with
    | m qd =>
      cases s with
      | m q =>
        show Det2 fun (k : AV → Hp → Bool) => (HT.getR q h.t).onM fun es => List.casesOn (motive := fun _ => Bool) es (k (.t []) h) fun e t => List.casesOn (motive := fun _ => Bool) t (e.2.on_a fun cs => List.casesOn (motive := fun _ => Bool) cs false fun _ c2 => List.casesOn (motive := fun _ => Bool) c2 (ifT (nb (Q.eq qd q)) (muD true (.m qd) e.1 e.2 h fun h' => k (.t []) h')) (fun _ _ => false)) (fun _ _ => false)
        cases HT.getR q h.t with
        | mp es =>
          match es with
          | [] => exact Det2.ret _ _
          | [e] =>
            show Det2 fun (k : AV → Hp → Bool) => e.2.on_a fun cs => List.casesOn (motive := fun _ => Bool) cs false fun _ c2 => List.casesOn (motive := fun _ => Bool) c2 (ifT (nb (Q.eq qd q)) (muD true (.m qd) e.1 e.2 h fun h' => k (.t []) h')) (fun _ _ => false)
            obtain ⟨e1, e2⟩ := e
            cases e2 with
            | a cs =>
              match cs with
              | [] => exact Det2.fail
              | [_] => exact det2_ifT ((muD_det true (.m qd) _ _ h).to2 fun h' => Det2.ret _ _)
              | _ :: _ :: _ => exact Det2.fail
            | _ => exact Det2.fail
          | _ :: _ :: _ => exact Det2.fail
        | _ => exact Det2.fail
      | _ => exact Det2.fail
    | _ => exact Det2.fail
theorem ld1_det (c : AV) (h : Hp) : Det (ld1 c h) := det_on_p fun _ _ => det_on fun _ _ _ => det_ifT (Det.ret _)
theorem soF_det (n : Nat) (args : List AV) (h : Hp) : Det2 (soF n args h) := by
  match args with
  | [] => exact Det2.fail
  | _ :: _ :: _ => exact Det2.fail
  | [f] =>
    show Det2 fun (k : AV → Hp → Bool) => f.on_f fun g fs cs => ifT (Nat.beq g n) (List.casesOn (motive := fun _ => Bool) fs (List.casesOn (motive := fun _ => Bool) cs false fun c t => List.casesOn (motive := fun _ => Bool) t (ld1 c h fun m => m.on_m fun q => (HT.getR q h.t).onM fun es => List.casesOn (motive := fun _ => Bool) es (k .ns h) (fun _ _ => false)) (fun _ _ => false)) (fun _ _ => false))
    refine Det2.on_f fun g fs cs => det2_ifT ?_
    match fs, cs with
    | _ :: _, _ => exact Det2.fail
    | [], [] => exact Det2.fail
    | [], _ :: _ :: _ => exact Det2.fail
    | [], [c] =>
      refine Det.to2 (g := fun m (k : AV → Hp → Bool) => m.on_m fun q => (HT.getR q h.t).onM fun es => List.casesOn (motive := fun _ => Bool) es (k .ns h) (fun _ _ => false)) (ld1_det c h) fun m => ?_
      cases m with
      | m q =>
        show Det2 fun (k : AV → Hp → Bool) => (HT.getR q h.t).onM fun es => List.casesOn (motive := fun _ => Bool) es (k .ns h) (fun _ _ => false)
        cases HT.getR q h.t with
        | mp es => cases es <;> first | exact Det2.ret _ _ | exact Det2.fail
        | _ => exact Det2.fail
      | _ => exact Det2.fail
end
end Go.Proofs.YtmddhlfjilkdfaaGreatDoor
