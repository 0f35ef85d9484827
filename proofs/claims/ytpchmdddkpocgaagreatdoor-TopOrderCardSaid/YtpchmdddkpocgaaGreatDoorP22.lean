/-
  No claim by itself: TopOrder: a queue writes; what was made stays. | TopOrder: a client, told by the rows that it has taken. | TopOrder: a client takes rows. | TopOrder: a client's calls. No condition.
-/
import Derived.Test.YtpchmdddkpocgaaGreatDoorP21
namespace Go.Proofs.YtpchmdddkpocgaaGreatDoor
set_option maxRecDepth 100000
set_option linter.unusedVariables false
set_option linter.unusedSimpArgs false
open Go.ChangeShapes Go.WideShapes Go.ChangeAt Go.RowKit
theorem But.cell {F : Nat → Prop} {w w' : World} (h : But F w w') {p : Addr} (hp : p.block < w.heap.size) (hF : ¬ F p.block) : w'.cell? p = w.cell? p := World.cell?_of_block (w := w) (h.block _ hp hF)
theorem But.frozen {F : Nat → Prop} {w w' : World} (h : But F w w') {p : Addr} (hp : p.block < w.heap.size) (hF : ¬ F p.block) : w'.frozen? p = w.frozen? p := World.frozen?_of_block (w := w) (h.block _ hp hF)
theorem But.below {F : Nat → Prop} {w w' : World} {m : Nat} (h : But F w w') (hm : m ≤ w.heap.size) (hF : ∀ b, F b → m ≤ b) : Below m w w' :=
 ⟨h.os, h.tape, h.output, h.size, fun b hb => h.block b (Nat.lt_of_lt_of_le hb hm) fun hf => absurd (hF b hf) (by omega)⟩
theorem But.of_belowM {F : Nat → Prop} {w w' : World} {m : Nat} (h : Below m w w') (hF : ∀ b, b < w.heap.size → m ≤ b → F b) : But F w w' :=
 ⟨h.os, h.tape, h.output, h.size, fun b hb hn => by
  by_cases hm : b < m
  ·exact h.block b hm
  ·exact (hn (hF b hb (by omega))).elim⟩
theorem QueAt.keeps {w w' : World} {q db st : Nat × Nat} {c : Nat} {lv : Value} (h : QueAt w q c db st lv) (hs : w.heap.size ≤ w'.heap.size) (hb : w'.heap[q.1]? = w.heap[q.1]?) : QueAt w' q c db st lv :=
 ⟨Nat.lt_of_lt_of_le h.lt hs, (World.cell?_of_block (w := w) (a := ⟨q.1, q.2, none⟩) hb).trans h.c0, (World.cell?_of_block (w := w) (a := ⟨q.1, q.2 + 1, none⟩) hb).trans h.c1, (World.cell?_of_block (w := w) (a := ⟨q.1, q.2 + 2, none⟩) hb).trans h.c2, (World.cell?_of_block (w := w) (a := ⟨q.1, q.2 + 3, none⟩) hb).trans h.c3, (World.frozen?_of_block (w := w) (a := ⟨q.1, q.2 + 3, none⟩) hb).trans h.fr⟩
theorem DskAt.stay {w w' : World} {B : Nat} {a : Nat × Nat} {p : Nat} {ρ : Q → Loc} (h : DskAt w B a p ρ) (hs : w.heap.size ≤ w'.heap.size) (hb : ∀ b, Blk ρ (dskS p) b → w'.heap[b]? = w.heap[b]?) (ht : ∀ b, b < B → w'.heap[b]? = w.heap[b]?) : DskAt w' B a p ρ := by
 refine ⟨Emb.stay h.E hs ?_ ht, h.root⟩
 intro q hq
 exact hb _ (blk_of_live hq)
theorem MadeR.rebase {w wz wr : World} {o : Nat} {R : List (Nat × Nat)} {v : Value} (h : MadeR wz wr o R v) (hb : Below w.heap.size w wz) : MadeR w wr o R v := by
 obtain ⟨ks, h1, h2, h3, h4, h5⟩ := h
 exact ⟨ks, h1.rebase hb.size, h2, fun r hr => Nat.le_trans hb.size (h3 r hr), hb.trans (h4.mono hb.size), h5⟩
theorem MadeR.below {w wr w' : World} {o : Nat} {R : List (Nat × Nat)} {v : Value} (h : MadeR w wr o R v) (hb : Below wr.heap.size wr w') : MadeR w w' o R v := by
 obtain ⟨ks, h1, h2, h3, h4, h5⟩ := h
 exact ⟨ks, h1.below hb, h2.below hb, h3, h4.trans (hb.mono h4.size), h5⟩
theorem rows_apart {w : World} {base : Nat} {v : Value} {ks : List VR} (h1 : RxO 5 vrF 50 w base v ks) {u : Value} {c s : Nat} (hu : OpsAt w u c s) : ∀ g, v.ownBlock = some g → opsB u ≠ g := by
 intro g hg e
 obtain ⟨sz, hs⟩ := hu.shape
 rcases h1.2 with ⟨rfl, _⟩ | ⟨g', cap, cur, rfl, _, hh, _⟩
 ·cases hg
 ·have hg : some g' = some g := hg
  simp only [Option.some.injEq] at hg
  subst hg
  unfold World.shape? at hs
  rw [e, hh] at hs
  cases hs
theorem queue_write {w : World} {B c p m base : Nat} {q db st : Nat × Nat} {lv v : Value} {l : List UInt8} {ρ : Q → Loc} (hQ : QueAt w q c db st lv) (hD : DskAt w B db p ρ) (ho : OwnB w base 5 v l) (hl : l.length = 17 * m) (hm : 0 < m) (hbB : B ≤ base) (hne : ∀ g, v.ownBlock = some g → ¬ Blk ρ (dskS p) g ∧ g ≠ q.1) (hq : ¬ Blk ρ (dskS p) q.1) (hA : appK p m = true) (hS : syncK p m = true) :
  Calls Tryz.prog 76 #[.pointer (some ⟨q.1, q.2, none⟩), v] w fun e w' => e = .returned (.int .i64 0) ∧ ∃ ρ', DskAt w' B db (p + m) ρ' ∧ But (fun b => Blk ρ (dskS p) b ∨ v.ownBlock = some b) w w' ∧ ∀ b, Blk ρ' (dskS (p + m)) b → Blk ρ (dskS p) b ∨ v.ownBlock = some b ∨ w.heap.size ≤ b := by
 have c0 := hQ.c0
 have hlt := hQ.lt
 obtain ⟨g, cap, rfl, _⟩ := ho.shape (by intro e; rw [e] at hl; simp at hl; omega)
 obtain ⟨hg1, hg2⟩ := hne g rfl
 have hA0 := dsk_append hD ho hl hm hbB (fun g hg => (hne g hg).1) hA
 rw [hl] at hA0 ⊢
 have hA' := Lib.hid hA0
 clear hQ hD ho hne hA0
 go_enter Tryz.func76, Tryz.ntmps76
 go_wp2_with fail
 refine (hA'.out).mono ?_
 rintro e w1 ⟨rfl, ρ1, E1, r1, b1, f1⟩
 have c0' : w1.cell? ⟨q.1, q.2, none⟩ = _ := (b1.cell (p := ⟨q.1, q.2, none⟩) hlt (by
  rintro (e | e)
  ·exact hq e
  ·exact hg2 (by simpa [Value.ownBlock] using e))).trans c0
 have HE := Lib.hid E1
 have HB := Lib.hid b1
 have HF := Lib.hid f1
 have HR := Lib.hid r1
 clear E1 b1 f1 r1 c0
 go_wp2_with fail
 refine (dsk_sync HE.out HR.out hS).mono ?_
 rintro e w2 ⟨rfl, ρ2, D2, b2, f2⟩
 have H2 := Lib.hid (And.intro D2 (And.intro b2 f2))
 clear D2 b2 f2
 go_wp2_with fail
 go_ret
 obtain ⟨D2, b2, f2⟩ := H2.out
 refine ⟨rfl, ρ2, D2, HB.out.trans b2 (fun b hb hf => ?_), fun b hb => ?_⟩
 ·rcases HF.out b hf with e | e | e
  ·exact .inl e
  ·exact .inr e
  ·omega
 ·rcases f2 b hb with e | e
  ·exact HF.out b e
  ·exact .inr (.inr (Nat.le_trans HB.out.size e))
theorem Recs.keepsB {α : Type} {m : Nat} {f : α → List Value} {w w' : World} {v : Value} {xs : List α} (h : Recs m f w v xs) (hs : w.heap.size ≤ w'.heap.size) (hb : ∀ g, v.ownBlock = some g → w'.heap[g]? = w.heap[g]?) : Recs m f w' v xs := by
 obtain ⟨a, cap, hv, h1, h2, h3⟩ := h
 refine ⟨a, cap, hv, h1, h2, fun k hk => ?_⟩
 obtain ⟨b, off, ha, hlt, hc⟩ := h3 k hk
 refine ⟨b, off, ha, Nat.lt_of_lt_of_le hlt hs, fun j u hu => ?_⟩
 exact (World.cell?_of_block (w := w) (a := ⟨b, off + k * m + j, none⟩) (hb b (by rw [hv, ha]; rfl))).trans (hc j u hu)
structure CliX where
 q : Nat × Nat
 db : Nat × Nat
 st : Nat × Nat
 lv : Value
 bs : List VB
 ρd : Q → Loc
 ρ : Q → Loc
def CliK (a : Nat × Nat) (x : CliX) (b : Nat) : Prop := b = a.1 ∨ x.lv.ownBlock = some b ∨ ∃ r ∈ x.bs, b = opsB r.v
def CliF (a : Nat × Nat) (R : List (Nat × Nat)) (x : CliX) (b : Nat) : Prop := CliK a x b ∨ b = x.q.1 ∨ Blk x.ρd (dskS R.length) b ∨ StrF R x.ρ b
structure CliAt (w : World) (B : Nat) (a : Nat × Nat) (c n : Nat) (R : List (Nat × Nat)) (x : CliX) : Prop where
 kl : a.1 < w.heap.size
 kc : w.cell? ⟨a.1, a.2, none⟩ = some (.pointer (some ⟨x.q.1, x.q.2, none⟩))
 qu : QueAt w x.q c x.db x.st x.lv
 A : Recs 3 vbF w x.lv x.bs
 Al : ∀ g, x.lv.ownBlock = some g → g < w.heap.size
 Ab : BsAt w c 0 x.bs
 An : x.bs.length = n
 D : DskAt w B x.db R.length x.ρd
 S : StrAt w B x.st R x.ρ
 kq : ¬ CliK a x x.q.1
 kd : ∀ b, CliK a x b → ¬ Blk x.ρd (dskS R.length) b
 ks : ∀ b, CliK a x b → ¬ StrF R x.ρ b
 qd : ¬ Blk x.ρd (dskS R.length) x.q.1
 qs : ¬ StrF R x.ρ x.q.1
 ds : ∀ b, Blk x.ρd (dskS R.length) b → ¬ StrF R x.ρ b
theorem BsAt.keepsB {w w' : World} {c s : Nat} {bs : List VB} (h : BsAt w c s bs) (hb : ∀ r ∈ bs, w'.heap[opsB r.v]? = w.heap[opsB r.v]?) : BsAt w' c s bs :=
 fun k hk => ⟨(h k hk).1, (h k hk).2.1, (h k hk).2.2.stay (hb _ (List.getElem_mem hk))⟩
theorem CliAt.lt {w : World} {B c n : Nat} {a : Nat × Nat} {R : List (Nat × Nat)} {x : CliX} (h : CliAt w B a c n R x) {b : Nat} (hb : CliF a R x b) : b < w.heap.size := by
 rcases hb with (rfl | hb | ⟨r, hr, rfl⟩) | rfl | hb | hb
 ·exact h.kl
 ·exact h.Al b hb
 ·obtain ⟨k, hk, rfl⟩ := List.mem_iff_getElem.1 hr
  exact (h.Ab k hk).2.2.lt
 ·exact h.qu.lt
 ·exact h.D.E.blkLt hb
 ·exact h.S.lt hb
theorem CliAt.stay {w w' : World} {B c n : Nat} {a : Nat × Nat} {R : List (Nat × Nat)} {x : CliX} (h : CliAt w B a c n R x) (hs : w.heap.size ≤ w'.heap.size) (hb : ∀ b, CliF a R x b → w'.heap[b]? = w.heap[b]?) (ht : ∀ b, b < B → w'.heap[b]? = w.heap[b]?) : CliAt w' B a c n R x :=
 ⟨Nat.lt_of_lt_of_le h.kl hs, (World.cell?_of_block (w := w) (a := ⟨a.1, a.2, none⟩) (hb _ (.inl (.inl rfl)))).trans h.kc, h.qu.keeps hs (hb _ (.inr (.inl rfl))), h.A.keepsB hs (fun g hg => hb g (.inl (.inr (.inl hg)))), fun g hg => Nat.lt_of_lt_of_le (h.Al g hg) hs, h.Ab.keepsB (fun r hr => hb _ (.inl (.inr (.inr ⟨r, hr, rfl⟩)))), h.An, h.D.stay hs (fun b hb' => hb b (.inr (.inr (.inl hb')))) ht, h.S.stay hs (fun b hb' => hb b (.inr (.inr (.inr hb')))) ht, h.kq, h.kd, h.ks, h.qd, h.qs, h.ds⟩
section
variable {w0 u : World} {B c n : Nat} {a : Nat × Nat} {R : List (Nat × Nat)} {x : CliX}
theorem CliAt.core (h : CliAt w0 B a c n R x) (hge : ∀ b, CliF a R x b → B ≤ b) (hb : But (StrF R x.ρ) w0 u) : QueAt u x.q c x.db x.st x.lv ∧ Recs 3 vbF u x.lv x.bs ∧ BsAt u c 0 x.bs ∧ DskAt u B x.db R.length x.ρd := by
 have hBs : ∀ b, b < B → u.heap[b]? = w0.heap[b]? := fun b hB => hb.block b (Nat.lt_of_lt_of_le hB h.S.E.base) (fun hf => absurd (hge b (.inr (.inr (.inr hf)))) (by omega))
 refine ⟨h.qu.keeps hb.size (hb.block _ h.qu.lt h.qs), h.A.keepsB hb.size (fun g hg => hb.block g (h.Al g hg) (h.ks g (.inr (.inl hg)))), h.Ab.keepsB (fun r hr => hb.block _ (h.lt (.inl (.inr (.inr ⟨r, hr, rfl⟩)))) (h.ks _ (.inr (.inr ⟨r, hr, rfl⟩)))), h.D.stay hb.size (fun b hb' => hb.block b (h.D.E.blkLt hb') (h.ds b hb')) hBs⟩
theorem CliAt.idle (h : CliAt w0 B a c n R x) (hge : ∀ b, CliF a R x b → B ≤ b) (hb : But (StrF R x.ρ) w0 u) {ρ' : Q → Loc} (hS : StrAt u B x.st R ρ') (hf : ∀ b, StrF R ρ' b → StrF R x.ρ b ∨ w0.heap.size ≤ b) :
  CliAt u B a c n R { x with ρ := ρ' } ∧ But (CliF a R x) w0 u ∧ ∀ b, CliF a R { x with ρ := ρ' } b → CliF a R x b ∨ w0.heap.size ≤ b := by
 obtain ⟨h1, h2, h3, h4⟩ := h.core hge hb
 have hlt : ∀ b, CliF a R x b → ¬ w0.heap.size ≤ b := fun b hb' => Nat.not_le.2 (h.lt hb')
 refine ⟨⟨Nat.lt_of_lt_of_le h.kl hb.size, (hb.cell (p := ⟨a.1, a.2, none⟩) h.kl (h.ks _ (.inl rfl))).trans h.kc, h1, h2, fun g hg => Nat.lt_of_lt_of_le (h.Al g hg) hb.size, h3, h.An, h4, hS, h.kq, h.kd, fun b hk hs => ?_, h.qd, fun hs => ?_, fun b hd hs => ?_⟩, hb.mono (fun b _ hf => .inr (.inr (.inr hf))), fun b hb' => ?_⟩
 ·exact (hf b hs).elim (h.ks b hk) (hlt b (.inl hk))
 ·exact (hf _ hs).elim h.qs (hlt _ (.inr (.inl rfl)))
 ·exact (hf b hs).elim (h.ds b hd) (hlt b (.inr (.inr (.inl hd))))
 ·rcases hb' with hb' | hb' | hb' | hb'
  ·exact .inl (.inl hb')
  ·exact .inl (.inr (.inl hb'))
  ·exact .inl (.inr (.inr (.inl hb')))
  ·exact (hf b hb').imp (fun x => .inr (.inr (.inr x))) id
theorem CliAt.took {w4 w6 w7 : World} {L : List (Nat × Nat)} {a' : Nat × Nat} {ρ4 ρd' : Q → Loc} (h : CliAt w0 B a c n R x) (hge : ∀ b, CliF a R x b → B ≤ b) (b04 : But (StrF R x.ρ) w0 w4) (S4 : StrAt w4 B a' (R ++ L) ρ4) (f4 : ∀ b, StrF (R ++ L) ρ4 b → StrF R x.ρ b ∨ w0.heap.size ≤ b) (b46 : Below w4.heap.size w4 w6)
  (b67 : But (fun b => Blk x.ρd (dskS R.length) b ∨ w4.heap.size ≤ b) w6 w7) (D7 : DskAt w7 B x.db (R.length + L.length) ρd') (fd : ∀ b, Blk ρd' (dskS (R.length + L.length)) b → Blk x.ρd (dskS R.length) b ∨ w4.heap.size ≤ b) :
  ∃ x', CliAt (w7.setCell ⟨x.q.1, x.q.2 + 3, none⟩ (.pointer (some ⟨a'.1, a'.2, none⟩))) B a c n (R ++ L) x' ∧ But (CliF a R x) w0 (w7.setCell ⟨x.q.1, x.q.2 + 3, none⟩ (.pointer (some ⟨a'.1, a'.2, none⟩))) ∧ ∀ b, CliF a (R ++ L) x' b → CliF a R x b ∨ w0.heap.size ≤ b := by
 have hlt : ∀ b, CliF a R x b → b < w0.heap.size := fun b hb' => h.lt hb'
 have hs4 := b04.size
 have hs6 := b46.size
 have hs7 := b67.size
 have hql := h.qu.lt
 obtain ⟨Q4, A4, Ab4, D4⟩ := h.core hge b04
 generalize hw8 : w7.setCell ⟨x.q.1, x.q.2 + 3, none⟩ (.pointer (some ⟨a'.1, a'.2, none⟩)) = w8
 have hs8 : w8.heap.size = w7.heap.size := by rw [← hw8, setCell_size]
 have hset : ∀ b, b ≠ x.q.1 → w8.heap[b]? = w7.heap[b]? := fun b hb => by rw [← hw8]; exact Below.heap_setCell _ _ _ _ hb
 have k48 : ∀ b, b < w4.heap.size → ¬ Blk x.ρd (dskS R.length) b → b ≠ x.q.1 → w8.heap[b]? = w4.heap[b]? := fun b hb h1 h2 =>
  (hset b h2).trans ((b67.block b (Nat.lt_of_lt_of_le hb hs6) (fun e => e.elim h1 (fun e => absurd e (Nat.not_le.2 hb)))).trans (b46.block b hb))
 have kK : ∀ b, CliK a x b → w8.heap[b]? = w4.heap[b]? := fun b hb => k48 b (Nat.lt_of_lt_of_le (hlt b (.inl hb)) hs4) (h.kd b hb) (fun e => h.kq (e ▸ hb))
 have hlen : (R ++ L).length = R.length + L.length := List.length_append
 have q7 : w7.heap[x.q.1]? = w4.heap[x.q.1]? := (b67.block _ (by omega) (fun e => e.elim h.qd (fun e => absurd e (by omega)))).trans (b46.block _ (by omega))
 have Q7 := Q4.keeps (Nat.le_trans hs6 hs7) q7
 have hBs : ∀ b, b < B → w8.heap[b]? = w4.heap[b]? := fun b hB => k48 b (Nat.lt_of_lt_of_le hB (Nat.le_trans h.S.E.base hs4)) (fun e => absurd (hge b (.inr (.inr (.inl e)))) (by omega)) (fun e => absurd (hge b (.inr (.inl e))) (by omega))
 have hBs7 : ∀ b, b < B → w8.heap[b]? = w7.heap[b]? := fun b hB => hset b (fun e => absurd (hge b (.inr (.inl e))) (by omega))
 have ge4 : ∀ b, w4.heap.size ≤ b → ¬ CliF a R x b := fun b hb hf => absurd (hlt b hf) (by omega)
 refine ⟨{ x with st := a', ρd := ρd', ρ := ρ4 }, ⟨Nat.lt_of_lt_of_le h.kl (by omega), ?_, ?_, A4.keepsB (by omega) (fun g hg => kK g (.inr (.inl hg))), fun g hg => Nat.lt_of_lt_of_le (h.Al g hg) (by omega), Ab4.keepsB (fun r hr => kK _ (.inr (.inr ⟨r, hr, rfl⟩))), h.An, ?_, ?_, h.kq, fun b hk hd => ?_, fun b hk hs => ?_, fun hd => ?_, fun hs => ?_, fun b hd hs => ?_⟩, ⟨?_, ?_, ?_, by omega, fun b hb hn => ?_⟩, fun b hb' => ?_⟩
 ·exact (World.cell?_of_block (w := w4) (a := ⟨a.1, a.2, none⟩) (kK _ (.inl rfl))).trans ((b04.cell (p := ⟨a.1, a.2, none⟩) h.kl (h.ks _ (.inl rfl))).trans h.kc)
 ·rw [← hw8]
  exact ⟨by rw [setCell_size]; exact Q7.lt, (World.cell?_setCell_other _ _ _ _ (by simp)).trans Q7.c0, (World.cell?_setCell_other _ _ _ _ (by simp)).trans Q7.c1, (World.cell?_setCell_other _ _ _ _ (by simp)).trans Q7.c2, World.cell?_setCell_same _ _ _ Q7.c3, by rw [World.frozen?_setCell]; exact Q7.fr⟩
 ·rw [hlen]
  refine D7.stay (by omega) (fun b hb => hset b (fun e => ?_)) hBs7
  subst e
  exact (fd _ hb).elim h.qd (fun e => absurd e (by omega))
 ·refine S4.stay (by omega) (fun b hb => k48 b (S4.lt hb) (fun hd => ?_) (fun e => ?_)) hBs
  ·exact (f4 b hb).elim (h.ds b hd) (fun e => absurd (hlt b (.inr (.inr (.inl hd)))) (by omega))
  ·subst e
   exact (f4 _ hb).elim h.qs (fun e => absurd e (by omega))
 ·have hd : Blk ρd' (dskS (R ++ L).length) b := hd
  rw [hlen] at hd
  exact (fd b hd).elim (h.kd b hk) (fun e => ge4 b e (.inl hk))
 ·exact (f4 b hs).elim (h.ks b hk) (fun e => absurd (hlt b (.inl hk)) (by omega))
 ·have hd : Blk ρd' (dskS (R ++ L).length) x.q.1 := hd
  rw [hlen] at hd
  exact (fd x.q.1 hd).elim h.qd (fun e => absurd e (by omega))
 ·exact (f4 x.q.1 hs).elim h.qs (fun e => absurd e (by omega))
 ·have hd : Blk ρd' (dskS (R ++ L).length) b := hd
  rw [hlen] at hd
  rcases fd b hd with hd | hd
  ·exact (f4 b hs).elim (h.ds b hd) (fun e => absurd (hlt b (.inr (.inr (.inl hd)))) (by omega))
  ·exact absurd (S4.lt hs) (by omega)
 ·rw [← hw8]; exact (b67.os.trans b46.os).trans b04.os
 ·rw [← hw8]; exact (b67.tape.trans b46.tape).trans b04.tape
 ·rw [← hw8]; exact (b67.output.trans b46.output).trans b04.output
 ·exact (k48 b (by omega) (fun e => hn (.inr (.inr (.inl e)))) (fun e => hn (.inr (.inl e)))).trans (b04.block b hb (fun e => hn (.inr (.inr (.inr e)))))
 ·rcases hb' with hb' | hb' | hb' | hb'
  ·exact .inl (.inl hb')
  ·exact .inl (.inr (.inl hb'))
  ·have hb' : Blk ρd' (dskS (R ++ L).length) b := hb'
   rw [hlen] at hb'
   exact (fd b hb').imp (fun e => .inr (.inr (.inl e))) (fun e => by omega)
  ·exact (f4 b hb').imp (fun e => .inr (.inr (.inr e))) id
end
theorem next_cell {w : World} {a : Nat × Nat} {la : Option Addr} {n lc : Nat} (c1 : w.cell? ⟨a.1, a.2 + 1, none⟩ = some (.slice la n lc)) (hl : n ≤ 1000) :
  Calls Tryz.prog 85 #[.pointer (some ⟨a.1, a.2, none⟩)] w fun e w' => e = .returned (.int .i64 ((n : Int) + 1)) ∧ w' = w := by
 have hne : ∀ u : World, (binOp .eql 70 (.pointer (some ⟨a.1, a.2, none⟩)) (.pointer none)).run Tryz.prog u = .ok (.bool false) u := fun u => by go_simp
 go_enter Tryz.func85, Tryz.ntmps85
 go_wp2_with fail
 go_ret
 exact ⟨rfl, rfl⟩
structure TakeK (p : Nat) (L : List (Nat × Nat)) : Prop where
 copy : copyK p = true ∧ copyM p = true
 one : ∀ j (hj : j < L.length), oneK (p + j) L[j].1 L[j].2 = true ∧ oneB (p + j) L[j].1 L[j].2 = true
 put : ∀ j (hj : j < L.length), putK (p + j) L[j].1 L[j].2 = true
 app : 0 < L.length → appK p L.length = true ∧ syncK p L.length = true
theorem info_u8 : (Tryz.prog.info? 5).map (fun i => (i.zero, i.size, i.bytes)) = some (some (.int .u8 0), 1, 1) := by kernel_rfl
theorem OwnB.keepsB {w w' : World} {base e : Nat} {v : Value} {l : List UInt8} (h : OwnB w base e v l) (hb : ∀ g, v.ownBlock = some g → w'.heap[g]? = w.heap[g]?) : OwnB w' base e v l := by
 refine ⟨h.1, ?_⟩
 rcases h.2 with h2 | ⟨g, cap, cur, hv, hg, hh, r⟩
 ·exact .inl h2
 ·exact .inr ⟨g, cap, cur, hv, hg, by rw [hb g (by rw [hv]; rfl)]; exact hh, r⟩
theorem OwnB.own {w : World} {base e : Nat} {v : Value} {l : List UInt8} (h : OwnB w base e v l) {g : Nat} (hg : v.ownBlock = some g) : base ≤ g ∧ g < w.heap.size := World.ownsRow.lt h g hg
def dropV (v : Value) (o : Nat) : Value := match v with
 | .slice a n cap => .slice (if cap = o then a else a.map (·.add (o * 5))) (n - o) (cap - o)
 | v => v
theorem MadeR.rest {w wr : World} {R L : List (Nat × Nat)} {v : Value} (h : MadeR w wr 0 (R ++ L) v) (hL : 0 < L.length) : ∃ b off cap ts, dropV v R.length = .slice (some ⟨b, off, none⟩) L.length cap ∧ Recs 5 vrF wr (.slice (some ⟨b, off, none⟩) L.length cap) ts ∧ RsAt wr R.length L ts ∧ (ts.map fun r => opsB r.v).Nodup ∧ (∀ r ∈ ts, w.heap.size ≤ opsB r.v) ∧ (∀ r ∈ ts, opsB r.v ≠ b) ∧ w.heap.size ≤ b ∧ b < wr.heap.size ∧ Below w.heap.size w wr := by
 obtain ⟨ks, k1, k2, k3, k4, k5⟩ := h
 have hrs := RxO.recs vrF_len k1
 obtain ⟨va, vc, rfl⟩ := hrs.slice
 have hkl : ks.length = R.length + L.length := by rw [k2.1, List.length_append]
 have hd := Recs.drop hrs R.length (by omega)
 have hdl : (ks.drop R.length).length = L.length := by rw [List.length_drop]; omega
 have htl : ks.length - R.length = L.length := by omega
 rw [htl] at hd
 have hrr : RsAt wr R.length L (ks.drop R.length) := ⟨hdl, fun k h1 h2 => by
  have := k2.2 (R.length + k) (by omega) (by rw [List.length_append]; omega)
  rw [List.getElem_append_right (by omega)] at this
  simp only [Nat.add_sub_cancel_left, Nat.zero_add] at this
  simp only [List.getElem_drop]
  exact this⟩
 have hdv : dropV (.slice va ks.length vc) R.length = .slice (if vc = R.length then va else va.map (·.add (R.length * 5))) L.length (vc - R.length) := by
  unfold dropV
  dsimp only
  rw [htl]
 obtain ⟨b, off, hb, hlt, _⟩ := hd.at 0 (by omega)
 have hcp : ks.length ≤ vc := by
  obtain ⟨a', c', hv, h1, h2, _⟩ := hrs
  simp only [Value.slice.injEq] at hv
  obtain ⟨_, _, rfl⟩ := hv
  exact h1
 obtain ⟨b0, o0, hb0, _, _⟩ := hrs.at 0 (by omega)
 have hbb : b = b0 := by
  rw [if_neg (by omega), hb0, Option.map_some, Addr.add_lit] at hb
  cases hb
  rfl
 subst hbb
 have hg : (Value.slice va ks.length vc).ownBlock = some b := by rw [hb0]; rfl
 rw [hb] at hd hdv
 refine ⟨b, off, _, _, hdv, hd, hrr, (by rw [List.map_drop]; exact k5.sublist (List.drop_sublist ..)), fun r hr => k3 r (List.mem_of_mem_drop hr), fun r hr => ?_, (World.ownsRow.lt k1 b hg).1, hlt, k4⟩
 obtain ⟨j, hj, rfl⟩ := List.mem_iff_getElem.1 hr
 exact rows_apart k1 (hrr.2 j hj (by omega)).2.2.2 b hg
set_option maxHeartbeats 16000000 in
theorem queue_done {w0 w : World} {B c n : Nat} {a : Nat × Nat} {R L : List (Nat × Nat)} {x : CliX} {rv : Value} (h : CliAt w0 B a c n R x) (hge : ∀ b, CliF a R x b → B ≤ b) (hM : MadeR w0 w R.length L rv) (h1 : 1 ≤ c) (h3 : c ≤ 3) (hn : n ≤ 100) (hR : ∀ r ∈ R, r.1 ≤ 3) (hL : Foll R L) (hLc : ∀ r ∈ L, r.1 = c → r.2 ≤ n) (hlen : R.length + L.length ≤ 500) (hK : TakeK R.length L) :
  Calls Tryz.prog 86 #[.pointer (some ⟨x.q.1, x.q.2, none⟩), rv] w fun e w' => e = .returned (.tuple #[.int .i64 L.length, .int .i64 0]) ∧ ∃ x', CliAt w' B a c n (R ++ L) x' ∧ But (CliF a R x) w0 w' ∧ ∀ b, CliF a (R ++ L) x' b → CliF a R x b ∨ w0.heap.size ≤ b := by
 obtain ⟨rs, m1, m2, m3, m4, m5⟩ := hM
 have hrs := RxO.recs vrF_len m1
 obtain ⟨la, lc, rfl⟩ := hrs.slice
 have hll := m2.1
 rw [hll] at hrs m1 ⊢
 have hcap : L.length ≤ lc ∧ lc ≤ 9223372036854775807 := by
  obtain ⟨a', c', hv, h1, h2, _⟩ := hrs
  simp only [Value.slice.injEq] at hv
  obtain ⟨_, _, rfl⟩ := hv
  exact ⟨by omega, h2⟩
 have hLL : ∀ r ∈ L, r.1 ≤ 3 ∧ (r.1 = c → 1 ≤ r.2 ∧ r.2 ≤ n) := fun r hr => by
  obtain ⟨j, hj, rfl⟩ := List.mem_iff_getElem.1 hr
  obtain ⟨g1, g2, g3⟩ := hL j hj
  exact ⟨g2, fun e => ⟨by rw [g3]; omega, hLc _ hr e⟩⟩
 have hblk : ∀ b, StrF R x.ρ b → b < w0.heap.size := fun b hb => h.lt (.inr (.inr (.inr hb)))
 have hql := h.qu.lt
 have hne : ∀ u : World, (binOp .eql 71 (.pointer (some ⟨x.q.1, x.q.2, none⟩)) (.pointer none)).run Tryz.prog u = .ok (.bool false) u := fun u => by go_simp
 have hW := (Below.refl w.heap.size w).alloc (Nat.le_refl _) (.cells #[.pointer (some ⟨x.q.1, x.q.2, none⟩)] 71)
 have hX : (w.alloc (.cells #[.pointer (some ⟨x.q.1, x.q.2, none⟩)] 71)).cell? ⟨w.heap.size, 0, none⟩ = some (.pointer (some ⟨x.q.1, x.q.2, none⟩)) := World.cell?_alloc_new _ _ _ _
 have hXl : w.heap.size < (w.alloc (.cells #[.pointer (some ⟨x.q.1, x.q.2, none⟩)] 71)).heap.size := by simp
 have b01 : Below w0.heap.size w0 (w.alloc (.cells #[.pointer (some ⟨x.q.1, x.q.2, none⟩)] 71)) := m4.trans (hW.mono m4.size)
 have q3 := (b01.cell (p := ⟨x.q.1, x.q.2 + 3, none⟩) hql).trans h.qu.c3
 have HM := Lib.hid (And.intro m1 (And.intro m2 (And.intro m3 (And.intro m4 m5))))
 have HW := Lib.hid hW
 have HX := Lib.hid hXl
 have H := Lib.hid h
 have HG := Lib.hid hge
 have HR := Lib.hid hR
 have HL := Lib.hid hL
 have HLL := Lib.hid hLL
 have HK := Lib.hid hK
 have HRS := Lib.hid hrs
 have HBK := Lib.hid hblk
 clear m1 m2 m3 m4 m5 hW hXl h hge hR hL hLL hK hrs hLc hblk
 go_enter Tryz.func86, Tryz.ntmps86
 go_wp2_with fail
 generalize w.alloc _ = w1 at *
 have S1 : StrAt w1 B x.st R x.ρ := H.out.S.stay b01.size (fun b hb => b01.block b (HBK.out b hb)) (fun b hB => b01.block b (Nat.lt_of_lt_of_le hB H.out.S.E.base))
 refine (str_copy S1 (by omega) HK.out.copy.1 HK.out.copy.2).mono ?_
 rintro e w2 ⟨a', ρ', ρ2, rfl, S2, S2', b12, f2, f2', dis⟩
 have hsz1 := b01.size
 have b12w : But (StrF R x.ρ) w1 w2 := b12.mono fun b _ hb => .inl hb
 have b02 : But (StrF R x.ρ) w0 w2 := (But.of_belowM (F := StrF R x.ρ) (b01) (fun b hb hm => absurd hm (by omega))).trans b12w (fun _ _ hf => hf)
 have hw1 : w0.heap.size ≤ w.heap.size := HM.out.2.2.2.1.size
 have hXw : w.heap.size < w1.heap.size := HX.out
 have hX2 : w2.cell? ⟨w.heap.size, 0, none⟩ = some (.pointer (some ⟨x.q.1, x.q.2, none⟩)) := (b12w.cell (p := ⟨w.heap.size, 0, none⟩) hXw (fun hf => absurd (HBK.out _ hf) (by show ¬ (w.heap.size < _); omega))).trans hX
 have core2 := H.out.core HG.out b02
 have hwk : But (StrF R x.ρ) w w2 := (But.of_below HW.out).trans b12w (fun _ _ hf => hf)
 have rs2 : Recs 5 vrF w2 (.slice la L.length lc) rs := HRS.out.keepsB hwk.size (fun g hg => by
  obtain ⟨g1, g2⟩ := World.ownsRow.lt HM.out.1 g hg
  exact hwk.block g g2 (fun hf => absurd (HBK.out g hf) (by omega)))
 have rr2 : RsAt w2 R.length L rs := ⟨hll, fun k k1 k2 => by
  obtain ⟨e1, e2, e3, e4⟩ := HM.out.2.1.2 k k1 k2
  exact ⟨e1, e2, e3, e4.stay (hwk.block _ e4.lt (fun hf => by
   have := HM.out.2.2.1 _ (List.getElem_mem k1)
   exact absurd (HBK.out _ hf) (by omega)))⟩⟩
 have C2 := Lib.hid core2
 have HRS2 := Lib.hid rs2
 have HRR2 := Lib.hid rr2
 have HB2 := Lib.hid b02
 have HF2 := Lib.hid (And.intro f2 (And.intro f2' dis))
 have HS2 := Lib.hid S2
 have HS2' := Lib.hid S2'
 have HWK := Lib.hid hwk
 have hsz2 := b12w.size
 clear core2 rs2 rr2 b02 f2 f2' dis S1 S2 S2' b12 b12w hwk q3 hX
 go_wp2_with fail
 refine (index_mine C2.out.1 C2.out.2.1 C2.out.2.2.1 H.out.An hn h3 hX2 HRS2.out HRR2.out HLL.out (by omega)).mono ?_
 rintro e w3 ⟨rfl, b23⟩
 have hw2l : w.heap.size < w2.heap.size := Nat.lt_of_lt_of_le hXw hsz2
 have hX3 : w3.cell? ⟨w.heap.size, 0, none⟩ = some (.pointer (some ⟨x.q.1, x.q.2, none⟩)) := (b23.cell (p := ⟨w.heap.size, 0, none⟩) hw2l).trans hX2
 have hsz3 := b23.size
 have h02 := HB2.out.size
 have b03 : But (StrF R x.ρ) w0 w3 := HB2.out.trans (But.of_below (F := fun _ => False) b23) (fun _ _ hf => hf.elim)
 have HB3 := Lib.hid b03
 have HRS3 := Lib.hid (HRS2.out.keeps b23)
 have HRR3 := Lib.hid (HRR2.out.below b23)
 have stay3 : ∀ {y : Nat × Nat} {ρy : Q → Loc}, StrAt w2 B y R ρy → StrAt w3 B y R ρy := fun hS => hS.stay b23.size (fun b hb => b23.block b (hS.lt hb)) (fun b hB => b23.block b (Nat.lt_of_lt_of_le hB hS.E.base))
 have HS3 := Lib.hid (stay3 HS2.out)
 have HS3' := Lib.hid (stay3 HS2'.out)
 have HB23 := Lib.hid b23
 clear stay3 b23 b03 hX2
 go_wp2_with fail
 have hopl : ∀ r ∈ rs, w0.heap.size ≤ opsB r.v ∧ opsB r.v < w.heap.size := fun r hr => by
  obtain ⟨k, hk, rfl⟩ := List.mem_iff_getElem.1 hr
  exact ⟨HM.out.2.2.1 _ hr, (HM.out.2.1.2 k hk (by omega)).2.2.2.lt⟩
 have hB0 : B ≤ w0.heap.size := H.out.S.E.base
 have f2' := HF2.out.2.1
 refine (str_take HS3'.out HRS3.out HRR3.out HM.out.2.2.2.2 (fun r hr hs => by
   obtain ⟨g1, g2⟩ := hopl r hr
   rcases f2' _ hs with e | e
   ·exact absurd (HBK.out _ e) (by omega)
   ·omega) (fun r hr => Nat.le_trans hB0 (hopl r hr).1) (fun g hg => by
   obtain ⟨g1, g2⟩ := World.ownsRow.lt HM.out.1 g hg
   refine ⟨fun hs => ?_, fun r hr => ?_⟩
   ·rcases f2' _ hs with e | e
    ·exact absurd (HBK.out _ e) (by omega)
    ·omega
   ·obtain ⟨k, hk, rfl⟩ := List.mem_iff_getElem.1 hr
    exact rows_apart (ks := rs) HM.out.1 (HM.out.2.1.2 k hk (by omega)).2.2.2 g hg) HL.out (by omega) HK.out.one).mono ?_
 rintro e w4 ⟨rfl, ρ4, hT⟩
 have hsz4 := hT.but.size
 have f4 : ∀ b, StrF (R ++ L) ρ4 b → StrF R x.ρ b ∨ w0.heap.size ≤ b := fun b hb => by
  have hb' : StrF (R ++ L.take rs.length) ρ4 b := by rw [hll, List.take_length]; exact hb
  rcases hT.foot b hb' with e | ⟨i, hi, _, rfl⟩ | e
  ·exact (f2' b e).imp id (fun e => by omega)
  ·exact .inr (hopl _ (List.getElem_mem hi)).1
  ·exact .inr (by omega)
 have b04 : But (StrF R x.ρ) w0 w4 := HB3.out.trans hT.but (fun b hb hf => by
  rcases hf with ⟨_, e⟩ | ⟨i, hi, _, rfl⟩
  ·exact (f2' b e).elim id (fun e => by omega)
  ·have := (hopl _ (List.getElem_mem hi)).1; omega)
 have S4 : StrAt w4 B a' (R ++ L) ρ4 := by
  have := hT.s
  rw [hll, List.take_length] at this
  exact this
 obtain ⟨lvs, rss, sc1, srs, srr⟩ := HS3.out.list
 obtain ⟨sa, scp, rfl⟩ := srs.slice
 rw [srr.1] at sc1
 have hst1 : ∃ q, (mkT (mkS (strS R.length))).get q ≠ .no ∧ (ρ' q).blk = x.st.1 := ⟨qn 1, by
  have := ndS_get (S := strS R.length) (strL_nd ..) (qn 1, .bk 117 [.p (qn 2) 0, slN (qn 5) R.length]) (by unfold strS strL; simp)
  dsimp only at this
  rw [this]
  simp [SB.ob], HS2.out.root.1⟩
 obtain ⟨qst, hqst, hqe⟩ := hst1
 have hstF : StrF R x.ρ x.st.1 ∨ w1.heap.size ≤ x.st.1 := HF2.out.1 _ (.inl ⟨qst, hqst, hqe⟩)
 have hstn : ¬ StrF R ρ2 x.st.1 := by
  rintro (e | ⟨i, hi, e⟩)
  ·exact HF2.out.2.2 _ e ⟨qst, hqst, hqe⟩
  ·exact EmbS.notOp HS2.out.E (strL_noOp ..) (HS2'.out.row i hi).2.2 qst hqst (hqe.trans e)
 have sc4 := (hT.but.cell (p := ⟨x.st.1, x.st.2 + 1, none⟩) (World.block_lt_of_cell? w3 _ sc1) (by
  rintro (⟨_, e⟩ | ⟨i, hi, _, e⟩)
  ·exact hstn e
  ·have e : x.st.1 = opsB rs[i].v := e
   have := hopl _ (List.getElem_mem hi)
   rw [← e] at this
   rcases hstF with e | e
   ·exact absurd (HBK.out _ e) (by omega)
   ·omega)).trans sc1
 have hq4 : w4.cell? ⟨x.q.1, x.q.2 + 3, none⟩ = some (.pointer (some ⟨x.st.1, x.st.2, none⟩)) := (H.out.core HG.out b04).1.c3
 have hXw4 : ¬ (StrF R x.ρ w.heap.size) := fun hf => absurd (HBK.out _ hf) (by omega)
 have hX4 : w4.cell? ⟨w.heap.size, 0, none⟩ = some (.pointer (some ⟨x.q.1, x.q.2, none⟩)) := (hT.but.cell (p := ⟨w.heap.size, 0, none⟩) (Nat.lt_of_lt_of_le hw2l hsz3) (by
  rintro (⟨_, e⟩ | ⟨i, hi, _, e⟩)
  ·rcases f2' _ e with e | e
   ·exact hXw4 e
   ·exact absurd e (by show ¬ (w1.heap.size ≤ w.heap.size); omega)
  ·have e : w.heap.size = opsB rs[i].v := e
   have := hopl _ (List.getElem_mem hi)
   omega)).trans hX3
 have HT := Lib.hid hT
 have H4 := Lib.hid (And.intro S4 (And.intro f4 b04))
 clear hT S4 f4 b04 sc1 srs srr hqst hqe hstF hstn hopl f2' hXw4 hX3
 by_cases hL0 : L.length = 0
 ·go_wp2_with fail
  go_ret2
  have hb34 : But (fun _ => False) w3 w4 := HT.out.but.mono (fun b _ hf => by
   rcases hf with ⟨e, _⟩ | ⟨i, hi, _, _⟩
   ·omega
   ·omega)
  have hLn : L = [] := List.eq_nil_of_length_eq_zero hL0
  subst hLn
  have S4' : StrAt w4 B x.st R ρ' := HS3.out.stay hb34.size (fun b hb => hb34.block b (HS3.out.lt hb) id) (fun b hB => hb34.block b (Nat.lt_of_lt_of_le hB HS3.out.E.base) id)
  obtain ⟨g1, g2, g3⟩ := H.out.idle HG.out H4.out.2.2 S4' (fun b hb => (HF2.out.1 b hb).imp id (fun e => by omega))
  rw [List.append_nil]
  exact ⟨by rfl, _, g1, g2, g3⟩
 ·have hLp : 0 < L.length := by omega
  have tL : decide ((L.length : Int) = 0) = false := decide_eq_false (by omega)
  go_upto_region 13 with fail
  have hs4lt : ∀ b, StrF (R ++ L) ρ4 b → b < w4.heap.size := fun b hb => H4.out.1.lt hb
  have hXlt4 : w.heap.size < w4.heap.size := by omega
  have hq4lt : x.q.1 < w4.heap.size := by omega
  have hst4lt : x.st.1 < w4.heap.size := World.block_lt_of_cell? w4 _ sc4
  have hRL : ∀ r ∈ R ++ L, r.1 ≤ 3 := fun r hr => (List.mem_append.1 hr).elim (HR.out r) (fun hr => (HLL.out r hr).1)
  have HRL := Lib.hid hRL
  have hRLl : (R ++ L).length = R.length + L.length := List.length_append
  clear hRL
  go_cut [55, 56, 57] (fun x y i wx => ∃ v, x = dropV v R.length ∧ y = .int .i64 (L.length : Int) ∧ i = .int .i64 0 ∧ Hid (MadeR w4 wx 0 (R ++ L) v))
  case first =>
   refine wp_region_sw (by rfl) (by kernel_rfl) (fun k => match k with | 1 => some (fun v u => MadeR w4 u 0 (R ++ L) v) | 6 => some (fun v _ => v = .int .i64 ((R.length : Int) + 1)) | 8 => some (fun v u => ∃ vr, v = dropV vr R.length ∧ MadeR w4 u 0 (R ++ L) vr) | _ => none) ?_ (fun vals => ?_)
   ·intro k φ hk v w1 w2 h1 h2
    match k, hk with
    | 1, hk => obtain rfl := Option.some.inj hk; exact MadeR.below h1 h2
    | 6, hk => obtain rfl := Option.some.inj hk; exact h1
    | 8, hk =>
     obtain rfl := Option.some.inj hk
     obtain ⟨vr, e1, e2⟩ := h1
     exact ⟨vr, e1, MadeR.below e2 h2⟩
   ((with_reducible refine sw_pure ?_ (fun K hK => ?_)); (· rfl); go_simp; with_reducible refine hK _ ?_; clear hK K)
   refine sw_call _ rfl rfl (fun wz hz' hH => ?_) (fun K hK => ?_)
   ·go_simp
    go_at_call 29
    refine (str_rows (H4.out.1.stay hz'.size (fun b hb => hz'.block b (hs4lt b hb)) (fun b hB => hz'.block b (Nat.lt_of_lt_of_le hB H4.out.1.E.base))) HRL.out (by rw [hRLl]; omega)).mono ?_
    rintro e' w' ⟨v, rfl, hM'⟩
    obtain ⟨_, _, _, _, hbm, _⟩ := id hM'
    exact ⟨_, rfl, hM'.rebase hz', hbm⟩
   go_simp; refine hK _ ?_; clear hK K
   refine sw_at (.pointer (some ⟨x.q.1, x.q.2, none⟩)) rfl rfl (fun wz hz' hH => ?_) (fun K hK => ?_)
   ·have g := (hz'.cell (p := ⟨w.heap.size, 0, none⟩) hXlt4).trans hX4
    go_simp
   go_simp; refine hK _ ?_; clear hK K
   iterate 2 ((with_reducible refine sw_pure ?_ (fun K hK => ?_)); (· rfl); go_simp; with_reducible refine hK _ ?_; clear hK K)
   refine sw_at (.pointer (some ⟨x.st.1, x.st.2, none⟩)) rfl rfl (fun wz hz' hH => ?_) (fun K hK => ?_)
   ·have g := (hz'.cell (p := ⟨x.q.1, x.q.2 + 3, none⟩) hq4lt).trans hq4
    go_simp
   go_simp; refine hK _ ?_; clear hK K
   refine sw_call _ rfl rfl (fun wz hz' hH => ?_) (fun K hK => ?_)
   ·go_simp
    go_at_call 85
    refine (next_cell (n := R.length) ((hz'.cell (p := ⟨x.st.1, x.st.2 + 1, none⟩) hst4lt).trans sc4) (by omega)).mono ?_
    rintro e' w' ⟨rfl, rfl⟩
    exact ⟨_, rfl, rfl, Below.refl _ _⟩
   go_simp; refine hK _ ?_; clear hK K
   have hwr : IntKind.i64.wrap (R.length : Int) = (R.length : Int) := i64_wrap (by omega) (by omega)
   refine sw_at (.int .i64 (R.length : Int)) rfl rfl (fun wz hz' hH => ?_) (fun K hK => ?_)
   ·have h3 := hH _ (List.Mem.head _) rfl
    dsimp only at h3
    rw [h3]
    go_simp
   go_simp; refine hK _ ?_; clear hK K
   refine sw_call _ rfl rfl (fun wz hz' hH => ?_) (fun K hK => ?_)
   ·have h3 := hH _ (List.Mem.tail _ (List.Mem.head _)) rfl
    dsimp only at h3
    obtain ⟨va, vc, hv⟩ := h3.val
    rw [hv] at h3
    rw [hv]
    have hcp : R.length + L.length ≤ vc ∧ vc ≤ 9223372036854775807 := by
     obtain ⟨ks, k1, k2, _⟩ := h3
     obtain ⟨a', c', hv', g1, g2, _⟩ := RxO.recs vrF_len k1
     have := k2.1
     rw [hRLl] at this
     simp only [Value.slice.injEq] at hv'
     obtain ⟨_, _, rfl⟩ := hv'
     omega
    rw [hRLl] at h3 ⊢
    have h3' := Lib.hid h3
    clear h3
    go_simp
    rw [if_pos (by omega)]
    exact ⟨⟨.slice va (R.length + L.length) vc, by unfold dropV; dsimp only; rw [Nat.add_sub_cancel_left], h3'.out⟩, Below.refl _ _⟩
   go_simp; refine hK _ ?_; clear hK K
   refine sw_at (.int .i64 (L.length : Int)) rfl rfl (fun wz hz' hH => ?_) (fun K hK => ?_)
   ·have h3 := hH _ (List.Mem.head _) rfl
    dsimp only at h3
    obtain ⟨vr, e1, h3⟩ := h3
    obtain ⟨va, vc, hv⟩ := h3.val
    rw [e1, hv, hRLl]
    unfold dropV
    go_simp
   go_simp; refine hK _ ?_; clear hK K
   ((with_reducible refine sw_pure ?_ (fun K hK => ?_)); (· rfl); go_simp; with_reducible refine hK _ ?_; clear hK K)
   refine sw_done (fun wz hz hH => ?_)
   obtain ⟨vr, e1, h3⟩ := hH _ (List.Mem.head _)
   dsimp only at e1
   rw [e1]
   have h3' := Lib.hid h3
   clear h3 hH
   go_wp2_with fail
   go_meet
   exact ⟨_, rfl, rfl, rfl, h3'⟩
  case rest =>
   obtain ⟨v, rfl, rfl, rfl, hMM⟩ := hcut
   rename World => w5
   obtain ⟨b5, off5, cap5, ts, hdv, hts, htr, htn, htg, htb, hb5, hb5l, b45⟩ := hMM.out.rest hLp
   rw [hdv]
   have htl := htr.1
   have hs45 := b45.size
   clear hMM hdv
   have HTS := Lib.hid hts
   have HTR := Lib.hid htr
   have HTN := Lib.hid htn
   have HTG := Lib.hid htg
   have HTB := Lib.hid htb
   have H45 := Lib.hid b45
   clear hts htr htn htg htb b45
   go_wp2_with fail
   go_loopw [10, 57] (fun bv i wr => ∃ (k : Nat) (l : List UInt8), k ≤ L.length ∧ i = .int .i64 k ∧ Hid (OwnB wr w5.heap.size 5 bv l ∧ l.length = 17 * k ∧ But (OpsIn ts k) w5 wr)) (fun _ i _ => L.length - (intOf i).toNat)
   case atStart => exact ⟨0, [], by omega, rfl, Lib.hid ⟨OwnB.nil _ _ _, rfl, But.refl _ _⟩⟩
   case round =>
    obtain ⟨k, l, hk, rfl, hI⟩ := hrel
    by_cases hlt : k < L.length
    ·obtain ⟨o1, o2, o3⟩ := id hI.out
     have hopsge : ∀ b, OpsIn ts k b → w4.heap.size ≤ b := fun b ⟨i, hi, _, e⟩ => by rw [e]; exact HTG.out _ (List.getElem_mem hi)
     have bel : Below w4.heap.size w4 wr := H45.out.trans (o3.below hs45 hopsge)
     have hkt : k < ts.length := by omega
     obtain ⟨b', off', hbo, hblt', hcc⟩ := HTS.out.at k hkt
     simp only [Option.some.injEq, Addr.mk.injEq, and_true] at hbo
     obtain ⟨rfl, rfl⟩ := hbo
     have hnb : ¬ OpsIn ts k b5 := fun ⟨i, hi, _, e⟩ => HTB.out _ (List.getElem_mem hi) e.symm
     have hbk := o3.block b5 hb5l hnb
     have hcell : ∀ j u, (vrF ts[k])[j]? = some u → wr.cell? ⟨b5, off5 + k * 5 + j, none⟩ = some u := fun j u hu => (World.cell?_of_block (w := w5) (a := ⟨b5, off5 + k * 5 + j, none⟩) hbk).trans (hcc j u hu)
     have d0 := hcell 0 _ rfl
     have d1 := hcell 1 _ rfl
     have d2 := hcell 2 _ rfl
     have d3 := hcell 3 _ rfl
     have d4 := hcell 4 _ rfl
     rw [Nat.add_zero] at d0
     obtain ⟨e1, e2, e3, e4⟩ := HTR.out.2 k hkt hlt
     have hnk : ¬ OpsIn ts k (opsB ts[k].v) := fun ⟨i, hi, hik, e⟩ => by
      have g1 : i < (ts.map fun r => opsB r.v).length := by simpa using hi
      have g2 : k < (ts.map fun r => opsB r.v).length := by simpa using hkt
      have g3 : (ts.map fun r => opsB r.v)[i] = (ts.map fun r => opsB r.v)[k] := by simpa using e.symm
      exact List.pairwise_iff_getElem.1 HTN.out i k g1 g2 hik g3
     have e5 := e4.stay (w' := wr) (o3.block _ e4.lt hnk)
     have hgk := HTG.out _ (List.getElem_mem hkt)
     have hlt5 := e4.lt
     have hpk := HK.out.put k hlt
     have hself : OpsIn ts (k + 1) (opsB ts[k].v) := ⟨k, hkt, by omega, rfl⟩
     have hsuc : ∀ b, OpsIn ts k b → OpsIn ts (k + 1) b := fun b ⟨i, hi, g1, g2⟩ => ⟨i, hi, by omega, g2⟩
     clear hcell hbk hnb hcc hnk
     generalize L[k] = y at *
     obtain ⟨yc, ys⟩ := y
     dsimp only at *
     generalize ts[k] = r at *
     obtain ⟨ri, rx, ry, rv, rh⟩ := r
     dsimp only at *
     subst e1 e2 e3
     obtain ⟨va, vn, vm, rfl⟩ := e4.val
     have ec : ((R.length + k + 1 : Nat) : Int) = (R.length : Int) + k + 1 := by omega
     have hW6 := (Below.refl wr.heap.size wr).alloc (Nat.le_refl _) (.cells #[.int .i64 ((R.length : Int) + k + 1), .int .i64 (yc : Int), .int .i64 (ys : Int), .slice (some va) vn vm, .int .i64 0] 50)
     have bel6 := bel.trans (hW6.mono bel.size)
     have S6 := H4.out.1.stay bel6.size (fun b hb => bel6.block b (hs4lt b hb)) (fun b hB => bel6.block b (Nat.lt_of_lt_of_le hB H4.out.1.E.base))
     have hput := put_row (EmbS.sub S6.E (strL_nd ..) (List.nil_subset _)) (e5.below hW6) (Nat.le_trans H4.out.1.E.base hgk) hpk
     rw [ec] at d0 hput
     have o16 := o1.below hW6
     have HO := Lib.hid (And.intro o1 (And.intro o2 o3))
     have HO6 := Lib.hid o16
     have HP := Lib.hid hput
     have HW6 := Lib.hid hW6
     have HSE := Lib.hid (And.intro hself hsuc)
     obtain ⟨ga, gc, rfl⟩ := o1.len
     clear hI o1 o2 o3 o16 hput hW6 bel bel6 S6 hself hsuc hopsge ec e4 e5 hpk
     go_wp2_with fail
     generalize wr.alloc _ = w6 at *
     refine (HP.out).mono ?_
     rintro e w7 ⟨v', l17, rfl, hby, hl17, b67⟩
     have own7 : OwnB w7 w5.heap.size 5 (.slice ga l.length gc) l := HO6.out.keepsB (fun g hg => by
      obtain ⟨g1, g2⟩ := HO6.out.own hg
      exact b67.block g g2 (fun e => by rw [e] at g1; omega))
     have hs7 : w5.heap.size ≤ w7.heap.size := Nat.le_trans HO.out.2.2.size (Nat.le_trans HW6.out.size b67.size)
     have hlb : l.length ≤ 17 * 500 := by have := HO.out.2.1; omega
     obtain ⟨pa, pn, pc, rfl⟩ : ∃ a n c, v' = .slice a n c := by
      obtain ⟨a, c, hv, _⟩ := hby
      exact ⟨_, _, _, hv⟩
     have HB67 := Lib.hid b67
     have HO7 := Lib.hid own7
     clear b67
     go_wp2_with (at_builtin; refine wpList_append_bytes 34 w5.heap.size 5 Tryz.underlying34 info_u8 rfl _ _ rfl own7 hby rfl rfl (by omega) hs7 ?_)
     intro v8 w8 h8 hg8 hk8
     have b58 : But (OpsIn ts (k + 1)) w5 w8 := by
      have g1 : But (OpsIn ts (k + 1)) w5 wr := HO.out.2.2.mono fun b _ hb => HSE.out.2 b hb
      have g2 := g1.trans (But.of_below (F := fun _ => False) HW6.out) (fun _ _ hf => hf.elim)
      have g3 := g2.trans HB67.out (fun b _ hf => by rw [hf]; exact HSE.out.1)
      have g4 : But (fun b => w5.heap.size ≤ b) w7 w8 := ⟨hg8.os, hg8.tape, hg8.output, hg8.size, fun b hb hn => hg8.block b hb (fun e => hn (HO7.out.own e.symm).1)⟩
      exact g3.trans g4 (fun b hb hf => by omega)
     have H8 : Hid (OwnB w8 w5.heap.size 5 v8 (l ++ l17) ∧ (l ++ l17).length = 17 * (k + 1) ∧ But (OpsIn ts (k + 1)) w5 w8) := Lib.hid ⟨h8, by rw [List.length_append, hl17, HO.out.2.1]; omega, b58⟩
     obtain ⟨qa, qn', qc, rfl⟩ : ∃ a n c, v8 = .slice a n c := by
      obtain ⟨a, c, hv⟩ := h8.len
      exact ⟨_, _, _, hv⟩
     clear h8 hg8 hk8 b58 own7 hby
     go_wp2_with fail
     go_roundw
     case rel => exact ⟨k + 1, l ++ l17, by omega, by go_num, H8⟩
     case measure => simp [intOf]; omega
    ·obtain rfl : k = L.length := by omega
     obtain ⟨o1, o2, o3⟩ := id hI.out
     obtain ⟨bg, bc, rfl, hbg1, hbg2⟩ := o1.shape (by intro e; rw [e] at o2; simp at o2; omega)
     have hopsge : ∀ b, OpsIn ts L.length b → w4.heap.size ≤ b := fun b ⟨i, hi, _, e⟩ => by rw [e]; exact HTG.out _ (List.getElem_mem hi)
     have bel : Below w4.heap.size w4 wr := H45.out.trans (o3.below hs45 hopsge)
     have hXr := (bel.cell (p := ⟨w.heap.size, 0, none⟩) hXlt4).trans hX4
     obtain ⟨Q4, A4, Ab4, D4⟩ := H.out.core HG.out H4.out.2.2
     have hq0 : x.q.1 < w0.heap.size := hql
     have hD0 : ∀ b, Blk x.ρd (dskS R.length) b → b < w0.heap.size := fun b hb => H.out.lt (.inr (.inr (.inl hb)))
     have Qr := Q4.keeps bel.size (bel.block _ hq4lt)
     have Dr := D4.stay bel.size (fun b hb => bel.block b (by have := hD0 b hb; omega)) (fun b hB => bel.block b (Nat.lt_of_lt_of_le hB H4.out.1.E.base))
     have hwr := queue_write (p := R.length) (m := L.length) (base := w5.heap.size) Qr Dr o1 o2 hLp (Nat.le_trans H4.out.1.E.base hs45) (fun g hg => by
      obtain ⟨g1, _⟩ := o1.own hg
      exact ⟨fun e => by have := hD0 g e; omega, by omega⟩) H.out.qd (HK.out.app hLp).1 (HK.out.app hLp).2
     have HWR := Lib.hid hwr
     have HQ := Lib.hid Qr
     have HBEL := Lib.hid bel
     have HD0 := Lib.hid hD0
     have HO := Lib.hid (And.intro o1 (And.intro o2 o3))
     clear o1 o2 o3 hI hwr Qr Dr bel hD0 Q4 A4 Ab4 D4 hopsge
     go_wp2_with fail
     refine (HWR.out).mono ?_
     rintro e w7 ⟨rfl, ρd', D7, b67, f7⟩
     have hwr5 : w5.heap.size ≤ wr.heap.size := HO.out.2.2.size
     have hX7 : w7.cell? ⟨w.heap.size, 0, none⟩ = some (.pointer (some ⟨x.q.1, x.q.2, none⟩)) := (b67.cell (p := ⟨w.heap.size, 0, none⟩) (by show w.heap.size < _; omega) (by
      rintro (e | e)
      ·have := HD0.out _ e; exact absurd this (by show ¬ (w.heap.size < _); omega)
      ·have e : some bg = some w.heap.size := e
       cases e
       omega)).trans hXr
     have Q7 := HQ.out.keeps b67.size (b67.block x.q.1 (by omega) (by
      rintro (e | e)
      ·exact H.out.qd e
      ·have e : some bg = some x.q.1 := e
       simp only [Option.some.injEq] at e
       omega))
     have q73 := Q7.c3
     have q7f := Q7.fr
     have HF7 := Lib.hid (And.intro D7 (And.intro b67 f7))
     clear D7 b67 f7 Q7
     go_wp2_with fail
     go_ret2
     obtain ⟨D7, b67, f7⟩ := HF7.out
     have hown : ∀ b, (Value.slice (some (⟨bg, 0, none⟩ : Addr)) l.length bc).ownBlock = some b → w4.heap.size ≤ b := fun b e => by
      have e : some bg = some b := e
      cases e
      omega
     refine ⟨rfl, H.out.took (w6 := wr) (L := L) (a' := a') HG.out H4.out.2.2 H4.out.1 H4.out.2.1 HBEL.out (b67.mono fun b _ hf => hf.imp id (hown b)) D7 (fun b hb => ?_)⟩
     rcases f7 b hb with e | e | e
     ·exact .inl e
     ·exact .inr (hown b e)
     ·exact .inr (by omega)
section
variable {w0 w : World} {B c n : Nat} {a : Nat × Nat} {R L : List (Nat × Nat)} {x : CliX}
theorem nil_cli (u : World) (p : Addr) : (binOp .eql 39 (.pointer (some p)) (.pointer none)).run Tryz.prog u = .ok (.bool false) u := by go_simp
theorem cli_take {rv : Value} (h : CliAt w0 B a c n R x) (hge : ∀ b, CliF a R x b → B ≤ b) (hM : MadeR w0 w R.length L rv) (h1 : 1 ≤ c) (h3 : c ≤ 3) (hn : n ≤ 100) (hR : ∀ r ∈ R, r.1 ≤ 3) (hL : Foll R L) (hLc : ∀ r ∈ L, r.1 = c → r.2 ≤ n) (hlen : R.length + L.length ≤ 500) (hK : TakeK R.length L) :
  Calls Tryz.prog 46 #[.pointer (some ⟨a.1, a.2, none⟩), rv] w fun e w' => e = .returned (.tuple #[.int .i64 L.length, .int .i64 0]) ∧ ∃ x', CliAt w' B a c n (R ++ L) x' ∧ But (CliF a R x) w0 w' ∧ ∀ b, CliF a (R ++ L) x' b → CliF a R x b ∨ w0.heap.size ≤ b := by
 have hne := fun u => nil_cli u ⟨a.1, a.2, none⟩
 have hkc : w.cell? ⟨a.1, a.2, none⟩ = some (.pointer (some ⟨x.q.1, x.q.2, none⟩)) := by
  obtain ⟨_, _, _, _, hb, _⟩ := id hM
  exact (hb.cell (p := ⟨a.1, a.2, none⟩) h.kl).trans h.kc
 obtain ⟨va, vc, rfl⟩ := hM.val
 have HD := Lib.hid (queue_done h hge hM h1 h3 hn hR hL hLc hlen hK)
 clear h hge hM hR hL hLc hK
 go_enter Tryz.func46, Tryz.ntmps46
 go_wp2_with fail
 refine (HD.out).mono ?_
 rintro e w' ⟨rfl, h2⟩
 have H2 := Lib.hid h2
 clear h2
 go_wp2_with fail
 go_ret2
 exact ⟨rfl, H2.out⟩
theorem queue_stream (h : CliAt w B a c n R x) : Calls Tryz.prog 28 #[.pointer (some ⟨x.q.1, x.q.2, none⟩)] w fun e w' => e = .returned (.pointer (some ⟨x.st.1, x.st.2, none⟩)) ∧ w' = w := by
 have hne : ∀ u : World, (binOp .eql 71 (.pointer (some ⟨x.q.1, x.q.2, none⟩)) (.pointer none)).run Tryz.prog u = .ok (.bool false) u := fun u => by go_simp
 have c3 := h.qu.c3
 clear h
 go_enter Tryz.func28, Tryz.ntmps28
 go_wp2_with fail
 go_ret
 exact ⟨rfl, rfl⟩
theorem cli_rows (h : CliAt w B a c n R x) (hR : ∀ r ∈ R, r.1 ≤ 3) (hl : R.length ≤ 1000) :
  Calls Tryz.prog 14 #[.pointer (some ⟨a.1, a.2, none⟩)] w fun e w' => RetRows w 0 R e w' := by
 have hne := fun u => nil_cli u ⟨a.1, a.2, none⟩
 have hkc := h.kc
 have H1 := Lib.hid (queue_stream h)
 have H2 := Lib.hid (str_rows h.S hR hl)
 clear h
 go_enter Tryz.func14, Tryz.ntmps14
 go_wp2_with fail
 refine (H1.out).mono ?_
 rintro e w' ⟨rfl, rfl⟩
 go_wp2_with fail
 refine (H2.out).mono ?_
 rintro e w' ⟨v, rfl, hM⟩
 obtain ⟨va, vn, vc, rfl⟩ := hM.val3
 have HM := Lib.hid hM
 clear hM
 go_wp2_with fail
 go_ret
 exact ⟨_, rfl, HM.out⟩
theorem cli_cursor (h : CliAt w B a c n R x) (hl : R.length ≤ 1000) :
  Calls Tryz.prog 45 #[.pointer (some ⟨a.1, a.2, none⟩)] w fun e w' => e = .returned (.int .i64 ((R.length : Int) + 1)) ∧ w' = w := by
 have hne := fun u => nil_cli u ⟨a.1, a.2, none⟩
 have hkc := h.kc
 have H1 := Lib.hid (queue_stream h)
 have H2 := Lib.hid (str_next h.S hl)
 clear h
 go_enter Tryz.func45, Tryz.ntmps45
 go_wp2_with fail
 refine (H1.out).mono ?_
 rintro e w' ⟨rfl, rfl⟩
 go_wp2_with fail
 refine (H2.out).mono ?_
 rintro e w' ⟨rfl, rfl⟩
 go_wp2_with fail
 go_ret
 exact ⟨rfl, rfl⟩
theorem cli_waits (h : CliAt w B a c n R x) (h1 : 1 ≤ c) (h3 : c ≤ 3) (hn : n ≤ 100) (hc : cntR R c ≤ n) :
  Calls Tryz.prog 78 #[.pointer (some ⟨a.1, a.2, none⟩)] w fun e w' => ∃ v, e = .returned v ∧ MadeB w w' c (cntR R c) (n - cntR R c) v := by
 have hne := fun u => nil_cli u ⟨a.1, a.2, none⟩
 have hkc := h.kc
 have H1 := Lib.hid (queue_all h.qu h.A h.Ab h.An hn h.S h1 h3 hc)
 clear h
 go_enter Tryz.func78, Tryz.ntmps78
 go_wp2_with fail
 refine (H1.out).mono ?_
 rintro e w' ⟨v, rfl, hM⟩
 obtain ⟨va, vc, rfl⟩ := hM.val
 generalize hN : n - cntR R c = N at *
 have HM := Lib.hid hM
 clear hM
 go_wp2_with fail
 go_ret
 refine ⟨_, rfl, ?_⟩
 first | exact HM.out | (rw [hN]; exact HM.out)
def RetFirst (w : World) (c s n : Nat) (e : Ending) (w' : World) : Prop := Below w.heap.size w w' ∧ ((s < n ∧ ∃ v, e = .returned (.tuple #[.agg #[.int .i64 c, .int .i64 ((s + 1 : Nat) : Int), v], .bool true]) ∧ OpsAt w' v c s ∧ w.heap.size ≤ opsB v) ∨ (n ≤ s ∧ e = .returned (.tuple #[.agg #[.int .i64 0, .int .i64 0, .slice none 0 0], .bool false])))
theorem results_cell2 {fn : Func} {p u : Tmp} {ty : TypeId} (h : fn.results = #[.cell p ty, .tmp u]) (tmps : Array Value) (P : Program) (w : World) (a : Addr) (v : Value)
  (hp : tmps.getD p undef = .pointer (some a)) (hl : (loadVar ty a).run P w = .ok v w) : (results fn tmps).run P w = .ok (.tuple #[v, tmps.getD u undef]) w := by
 simp only [results, h]
 simp only [Array.getD_eq_getD_getElem?] at hp
 simp [Result.andThen, hp, asAddr, hl]
theorem cli_first (h : CliAt w B a c n R x) (h1 : 1 ≤ c) (h3 : c ≤ 3) (hn : n ≤ 100) (hc : cntR R c ≤ n) :
  Calls Tryz.prog 42 #[.pointer (some ⟨a.1, a.2, none⟩)] w fun e w' => RetFirst w c (cntR R c) n e w' := by
 have hW := (Below.refl w.heap.size w).alloc (Nat.le_refl _) (.cells #[.int .i64 0, .int .i64 0, .slice none 0 0] 48)
 have X0 := BatB.new w 0 0 (.slice none 0 0) 48
 have h' : CliAt _ B a c n R x := h.stay hW.size (fun b hb => hW.block b (h.lt hb)) (fun b hB => hW.block b (Nat.lt_of_lt_of_le hB h.S.E.base))
 have HC := Lib.hid (cli_waits h' h1 h3 hn hc)
 generalize cntR R c = s at *
 have HW := Lib.hid hW
 have hw1l : w.heap.size < (w.alloc (.cells #[.int .i64 0, .int .i64 0, .slice none 0 0] 48)).heap.size := X0.lt
 clear h h' hW
 go_enter Tryz.func42, Tryz.ntmps42
 go_wp2_with fail
 generalize w.alloc _ = w1 at *
 refine (HC.out).mono ?_
 rintro e w2 ⟨v, rfl, hM⟩
 obtain ⟨va, vc, rfl⟩ := hM.val
 obtain ⟨ks, m1, m2, m3, m4, m5⟩ := hM
 replace X0 := X0.below m5
 have hbw := HW.out.trans (m5.mono HW.out.size)
 have x0 := X0.c0
 have x1 := X0.c1
 have x2 := X0.c2
 have xf := X0.fr
 have hlt := X0.lt
 by_cases hs : n - s = 0
 ·have HX := Lib.hid X0
  have HB := Lib.hid hbw
  have hns : n ≤ s := by omega
  rw [hs] at *
  clear X0 m1 m2 m3 m4 m5 hbw
  go_wp2_with fail
  have X2 := HX.out.setAll 0 0 (.slice none 0 0)
  refine bodyPost_ret (results_cell2 rfl _ _ _ _ _ rfl (load_bat X2)) rfl ?_
  refine ⟨((HB.out.setCell (p := ⟨w.heap.size, 0, none⟩) (Nat.le_refl _) _).setCell (p := ⟨w.heap.size, 1, none⟩) (Nat.le_refl _) _).setCell (p := ⟨w.heap.size, 2, none⟩) (Nat.le_refl _) _, .inr ⟨hns, rfl⟩⟩
 ·have hks : 0 < ks.length := by omega
  obtain ⟨b, off, rfl, hblt, hcc⟩ := (RxO.recs vbF_len m1).at 0 hks
  obtain ⟨e1, e2, e3⟩ := m3 0 hks
  have hg := m4 _ (List.getElem_mem hks)
  have d0 := hcc 0 _ rfl
  have d1 := hcc 1 _ rfl
  have d2 := hcc 2 _ rfl
  rw [Nat.zero_mul, Nat.add_zero] at d0 d1 d2
  generalize ks[0] = k0 at *
  obtain ⟨kx, ky, kv, kh⟩ := k0
  dsimp only at *
  subst e1 e2
  obtain ⟨ua, un, um, rfl⟩ := e3.val
  have ec : ((s + 0 + 1 : Nat) : Int) = (s : Int) + 1 := by omega
  rw [ec] at d1
  rw [Nat.add_zero] at e3
  have tn : decide (((n - s : Nat) : Int) = 0) = false := decide_eq_false (by omega)
  have HX := Lib.hid X0
  have HB := Lib.hid hbw
  have HE := Lib.hid (And.intro e3 hg)
  clear X0 m1 m2 m3 m4 m5 hbw e3 hg hcc
  have hn0 : 0 < n - s := by omega
  go_wp2_with fail
  have X2 := HX.out.setAll c ((s : Int) + 1) (.slice (some ua) un um)
  refine bodyPost_ret (results_cell2 rfl _ _ _ _ _ rfl (load_bat X2)) rfl ?_
  refine ⟨((HB.out.setCell (p := ⟨w.heap.size, 0, none⟩) (Nat.le_refl _) _).setCell (p := ⟨w.heap.size, 1, none⟩) (Nat.le_refl _) _).setCell (p := ⟨w.heap.size, 2, none⟩) (Nat.le_refl _) _, .inl ⟨by omega, .slice (some ua) un um, by rw [show ((s + 1 : Nat) : Int) = (s : Int) + 1 from by omega]; rfl, HE.out.1.stay ?_, ?_⟩⟩
  ·have := HE.out.2
   have := HW.out.size
   have n1 : opsB (.slice (some ua) un um) ≠ w.heap.size := by omega
   exact (Below.heap_setCell _ ⟨w.heap.size, 2, none⟩ _ _ n1).trans ((Below.heap_setCell _ ⟨w.heap.size, 1, none⟩ _ _ n1).trans (Below.heap_setCell _ ⟨w.heap.size, 0, none⟩ _ _ n1))
  ·exact Nat.le_trans HW.out.size HE.out.2
end
end Go.Proofs.YtpchmdddkpocgaaGreatDoor
