/-
  No claim by itself: TopOrder: all that the law's world is made of. | TopOrder: the world's Push. | TopOrder: the world's Pull, its Fire; all is quiet. | TopOrder: no server packs. | TopOrder: the first world's server and clients. | TopOrder: the first world's clients. No condition.
-/
import Derived.Test.YtpchmdddkpocgaaGreatDoorP22
import Derived.Test.YtpchmdddkpocgaaGreatDoorP21
namespace Go.Proofs.YtpchmdddkpocgaaGreatDoor
set_option maxRecDepth 100000
set_option linter.unusedVariables false
set_option linter.unusedSimpArgs false
open Go.ChangeShapes Go.WideShapes Go.ChangeAt Go.RowKit
structure TAt (w : World) (t wl : Nat × Nat) : Prop where
 lt : t.1 < w.heap.size
 c0 : w.cell? ⟨t.1, t.2, none⟩ = some (adr wl)
 c3 : w.cell? ⟨t.1, t.2 + 3, none⟩ = some (.bool true)
 fr : w.frozen? ⟨t.1, t.2 + 3, none⟩ = false
structure Geo where
 t : Nat × Nat
 wl : Nat × Nat
 sa : Nat × Nat
 ca : Nat → Nat × Nat
 o : World
structure Sub where
 ρw : Q → Loc
 ρs : Q → Loc
 xs : Nat → CliX
def Ft (g : Geo) (y : Sub) (R : List (Nat × Nat)) (p : Nat → Nat) (i b : Nat) : Prop :=
 if i = 0 then Blk y.ρw wldW b else if i = 4 then SrvF R y.ρs b else if i = 5 then b = g.t.1 else CliF (g.ca i) (R.take (p i)) (y.xs i) b
structure All (w : World) (B n : Nat) (g : Geo) (R : List (Nat × Nat)) (p : Nat → Nat) (y : Sub) : Prop where
 T : TAt w g.t g.wl
 W : WldAt w B g.wl g.sa g.ca y.ρw
 S : SrvAt w B g.sa R y.ρs
 C : ∀ c, 1 ≤ c → c ≤ 3 → CliAt w B (g.ca c) c n (R.take (p c)) (y.xs c)
 ge : ∀ i, i ≤ 5 → ∀ b, Ft g y R p i b → B ≤ b
 dj : ∀ i j, i ≤ 5 → j ≤ 5 → i ≠ j → ∀ b, Ft g y R p i b → ¬ Ft g y R p j b
 bel : Below B g.o w
def WS (w : World) (B n : Nat) (g : Geo) (R : List (Nat × Nat)) (p : Nat → Nat) : Prop := ∃ y, All w B n g R p y
section
variable {w w' : World} {B n : Nat} {g : Geo} {R R' : List (Nat × Nat)} {p p' : Nat → Nat} {y y' : Sub}
theorem Ft_0 {b : Nat} : Ft g y R p 0 b = Blk y.ρw wldW b := by unfold Ft; rw [if_pos rfl]
theorem Ft_4 {b : Nat} : Ft g y R p 4 b = SrvF R y.ρs b := by unfold Ft; rw [if_neg (by decide), if_pos rfl]
theorem Ft_5 {b : Nat} : Ft g y R p 5 b = (b = g.t.1) := by unfold Ft; rw [if_neg (by decide), if_neg (by decide), if_pos rfl]
theorem Ft_c {c b : Nat} (h1 : 1 ≤ c) (h3 : c ≤ 3) : Ft g y R p c b = CliF (g.ca c) (R.take (p c)) (y.xs c) b := by unfold Ft; rw [if_neg (by omega), if_neg (by omega), if_neg (by omega)]
theorem All.lt (h : All w B n g R p y) {i b : Nat} (hi : i ≤ 5) (hb : Ft g y R p i b) : b < w.heap.size := by
 by_cases e0 : i = 0
 ·subst e0; rw [Ft_0] at hb; exact h.W.E.blkLt hb
 by_cases e4 : i = 4
 ·subst e4; rw [Ft_4] at hb; exact h.S.lt hb
 by_cases e5 : i = 5
 ·subst e5; rw [Ft_5] at hb; rw [hb]; exact h.T.lt
 rw [Ft_c (by omega) (by omega)] at hb
 exact (h.C i (by omega) (by omega)).lt hb
theorem TAt.stay {t wl : Nat × Nat} (h : TAt w t wl) (hs : w.heap.size ≤ w'.heap.size) (hb : w'.heap[t.1]? = w.heap[t.1]?) : TAt w' t wl :=
 ⟨Nat.lt_of_lt_of_le h.lt hs, (World.cell?_of_block (w := w) (a := ⟨t.1, t.2, none⟩) hb).trans h.c0, (World.cell?_of_block (w := w) (a := ⟨t.1, t.2 + 3, none⟩) hb).trans h.c3, (World.frozen?_of_block (w := w) (a := ⟨t.1, t.2 + 3, none⟩) hb).trans h.fr⟩
theorem All.turn (h : All w B n g R p y) {k : Nat} (hk : k ≤ 5) (hb : But (Ft g y R p k) w w')
  (hT : k = 5 → TAt w' g.t g.wl) (hW : k ≠ 0 ∨ WldAt w' B g.wl g.sa g.ca y'.ρw) (hS : k = 4 → SrvAt w' B g.sa R' y'.ρs) (hC : 1 ≤ k → k ≤ 3 → CliAt w' B (g.ca k) k n (R'.take (p' k)) (y'.xs k))
  (sW : k ≠ 0 → y'.ρw = y.ρw) (sS : k ≠ 4 → R' = R ∧ y'.ρs = y.ρs) (sC : ∀ c, 1 ≤ c → c ≤ 3 → c ≠ k → R'.take (p' c) = R.take (p c) ∧ y'.xs c = y.xs c)
  (hf : ∀ b, Ft g y' R' p' k b → Ft g y R p k b ∨ w.heap.size ≤ b) : All w' B n g R' p' y' := by
 have keep : ∀ i, i ≤ 5 → i ≠ k → ∀ b, Ft g y R p i b → w'.heap[b]? = w.heap[b]? := fun i hi hne b hbi => hb.block b (h.lt hi hbi) (h.dj i k hi hk hne b hbi)
 have hB : ∀ b, b < B → w'.heap[b]? = w.heap[b]? := fun b hlt => hb.block b (Nat.lt_of_lt_of_le hlt h.S.E.base) (fun hfb => absurd (h.ge k hk b hfb) (by omega))
 have same : ∀ i, i ≤ 5 → i ≠ k → ∀ b, Ft g y' R' p' i b → Ft g y R p i b := fun i hi hne b hbi => by
  by_cases e0 : i = 0
  ·subst e0; rw [Ft_0] at hbi ⊢; rw [sW (by omega)] at hbi; exact hbi
  by_cases e4 : i = 4
  ·subst e4
   rw [Ft_4] at hbi ⊢
   obtain ⟨s1, s2⟩ := sS (by omega)
   rw [s1, s2] at hbi
   exact hbi
  by_cases e5 : i = 5
  ·subst e5; rw [Ft_5] at hbi ⊢; exact hbi
  rw [Ft_c (by omega) (by omega)] at hbi ⊢
  obtain ⟨s1, s2⟩ := sC i (by omega) (by omega) hne
  rw [s1, s2] at hbi
  exact hbi
 refine ⟨?_, ?_, ?_, fun c h1 h3 => ?_, fun i hi b hbi => ?_, fun i j hi hj hij b hbi hbj => ?_, h.bel.trans (hb.below h.S.E.base fun b hb' => h.ge k hk b hb')⟩
 ·by_cases e : k = 5
  ·exact hT e
  ·exact h.T.stay hb.size (keep 5 (by omega) (Ne.symm e) _ (by rw [Ft_5]))
 ·by_cases e : k = 0
  ·rcases hW with hW | hW
   ·exact absurd e hW
   ·exact hW
  ·rw [sW e]
   exact h.W.stay hb.size (fun b hb' => keep 0 (by omega) (Ne.symm e) b (by rw [Ft_0]; exact hb')) hB
 ·by_cases e : k = 4
  ·exact hS e
  ·obtain ⟨s1, s2⟩ := sS e
   rw [s1, s2]
   exact h.S.stay hb.size (fun b hb' => keep 4 (by omega) (Ne.symm e) b (by rw [Ft_4]; exact hb')) hB
 ·by_cases e : c = k
  ·subst e; exact hC h1 h3
  ·obtain ⟨s1, s2⟩ := sC c h1 h3 e
   rw [s1, s2]
   exact (h.C c h1 h3).stay hb.size (fun b hb' => keep c (by omega) e b (by rw [Ft_c h1 h3]; exact hb')) hB
 ·by_cases e : i = k
  ·subst e
   rcases hf b hbi with e2 | e2
   ·exact h.ge i hi b e2
   ·exact Nat.le_trans h.S.E.base e2
  ·exact h.ge i hi b (same i hi e b hbi)
 ·by_cases e : i = k
  ·subst e
   have hj' := same j hj (Ne.symm hij) b hbj
   rcases hf b hbi with e2 | e2
   ·exact h.dj i j hi hj hij b e2 hj'
   ·exact absurd (h.lt hj hj') (by omega)
  ·have hi' := same i hi e b hbi
   by_cases e3 : j = k
   ·subst e3
    rcases hf b hbj with e2 | e2
    ·exact h.dj i j hi hj hij b hi' e2
    ·exact absurd (h.lt hi hi') (by omega)
   ·exact h.dj i j hi hj hij b hi' (same j hj e3 b hbj)
theorem All.below (h : All w B n g R p y) (hb : Below w.heap.size w w') : All w' B n g R p y := by
 have hbk : ∀ i, i ≤ 5 → ∀ b, Ft g y R p i b → w'.heap[b]? = w.heap[b]? := fun i hi b hbi => hb.block b (h.lt hi hbi)
 have hB : ∀ b, b < B → w'.heap[b]? = w.heap[b]? := fun b hlt => hb.block b (Nat.lt_of_lt_of_le hlt h.S.E.base)
 exact ⟨h.T.stay hb.size (hb.block _ h.T.lt), h.W.stay hb.size (fun b hb' => hbk 0 (by omega) b (by rw [Ft_0]; exact hb')) hB, h.S.stay hb.size (fun b hb' => hbk 4 (by omega) b (by rw [Ft_4]; exact hb')) hB, fun c h1 h3 => (h.C c h1 h3).stay hb.size (fun b hb' => hbk c (by omega) b (by rw [Ft_c h1 h3]; exact hb')) hB, h.ge, h.dj, h.bel.trans (hb.mono h.S.E.base)⟩
theorem WS.below (h : WS w B n g R p) (hb : Below w.heap.size w w') : WS w' B n g R p := h.imp fun _ h => h.below hb
theorem All.srv (h : All w B n g R p y) {ρ' : Q → Loc} (hS : SrvAt w' B g.sa R' ρ') (hb : But (SrvF R y.ρs) w w') (hf : ∀ b, SrvF R' ρ' b → SrvF R y.ρs b ∨ w.heap.size ≤ b) (hR : ∀ c, 1 ≤ c → c ≤ 3 → R'.take (p c) = R.take (p c)) : All w' B n g R' p { y with ρs := ρ' } :=
 h.turn (k := 4) (by omega) (hb.mono fun b _ hx => by rw [Ft_4]; exact hx) (by omega) (.inl (by omega)) (fun _ => hS) (fun _ _ => by omega) (fun _ => rfl) (fun e => absurd rfl e) (fun c h1 h3 _ => ⟨hR c h1 h3, rfl⟩) (fun b hb' => by rw [Ft_4] at hb' ⊢; exact hf b hb')
theorem All.cli (h : All w B n g R p y) {c q : Nat} (h1 : 1 ≤ c) (h3 : c ≤ 3) {x' : CliX} (hC : CliAt w' B (g.ca c) c n (R.take q) x') (hb : But (CliF (g.ca c) (R.take (p c)) (y.xs c)) w w') (hf : ∀ b, CliF (g.ca c) (R.take q) x' b → CliF (g.ca c) (R.take (p c)) (y.xs c) b ∨ w.heap.size ≤ b) :
  All w' B n g R (fun d => if d = c then q else p d) { y with xs := fun d => if d = c then x' else y.xs d } :=
 h.turn (k := c) (by omega) (hb.mono fun b _ hx => by rw [Ft_c h1 h3]; exact hx) (by omega) (.inl (by omega)) (by omega) (fun _ _ => by rw [if_pos rfl]; show CliAt w' B (g.ca c) c n (R.take q) (if c = c then x' else y.xs c); rw [if_pos rfl]; exact hC) (fun _ => rfl) (fun _ => ⟨rfl, rfl⟩)
  (fun d d1 d3 hne => ⟨by rw [if_neg hne], by show (if d = c then x' else y.xs d) = _; rw [if_neg hne]⟩)
  (fun b hb' => by
   rw [Ft_c h1 h3] at hb'
   rw [Ft_c h1 h3]
   have hb' : CliF (g.ca c) (R.take (if c = c then q else p c)) (if c = c then x' else y.xs c) b := hb'
   rw [if_pos rfl, if_pos rfl] at hb'
   exact hf b hb')
end
structure Fam : Prop where
 push : ∀ c s k, 1 ≤ c → c ≤ 3 → s < 8 → s ≤ k → k < 24 → pushK c s k = true ∧ backK c s k = true
 told : ∀ c s k, 1 ≤ c → c ≤ 3 → 1 ≤ s → s ≤ 8 → s ≤ k → k ≤ 24 → toldK c s k = true ∧ toldB c s k = true
 fire : ∀ k, k ≤ 24 → fireK k = true
 copy : ∀ k, k ≤ 24 → copyK k = true ∧ copyM k = true
 one : ∀ k c t, k < 24 → 1 ≤ c → c ≤ 3 → 1 ≤ t → t ≤ 8 → t ≤ k + 1 → oneK k c t = true ∧ oneB k c t = true ∧ putK k c t = true
 app : ∀ k m, 1 ≤ m → m ≤ 10 → k + m ≤ 24 → appK k m = true ∧ syncK k m = true
structure InvR (n : Nat) (R : List (Nat × Nat)) (p : Nat → Nat) : Prop where
 wf : Foll [] R
 pl : ∀ c, p c ≤ R.length
 d1 : ∀ c, 1 ≤ c → c ≤ 3 → cntR R c ≤ cntR (R.take (p c)) c + 1
 cn : ∀ c, 1 ≤ c → c ≤ 3 → cntR R c ≤ n
theorem cntR_append (R L : List (Nat × Nat)) (c : Nat) : cntR (R ++ L) c = cntR R c + cntR L c := by
 unfold cntR
 exact List.countP_append
theorem cntR_take_le (R : List (Nat × Nat)) (k c : Nat) : cntR (R.take k) c ≤ cntR R c := by
 have := cntR_append (R.take k) (R.drop k) c
 rw [List.take_append_drop] at this
 omega
theorem cntR_le (R : List (Nat × Nat)) (c : Nat) : cntR R c ≤ R.length := List.countP_le_length
theorem cntR_sum : ∀ {R : List (Nat × Nat)}, (∀ r ∈ R, 1 ≤ r.1 ∧ r.1 ≤ 3) → R.length = cntR R 1 + cntR R 2 + cntR R 3
 | [], _ => rfl
 | r :: R, h => by
  have ih := cntR_sum (R := R) (fun x hx => h x (List.mem_cons_of_mem _ hx))
  obtain ⟨h1, h3⟩ := h r List.mem_cons_self
  have e : ∀ c, cntR (r :: R) c = (if r.1 = c then 1 else 0) + cntR R c := fun c => by
   have := cntR_append [r] R c
   rw [List.singleton_append] at this
   rw [this]
   congr 1
   unfold cntR
   by_cases e : r.1 = c
   ·rw [if_pos e]; simp [e]
   ·rw [if_neg e]; simp [e]
  rw [e 1, e 2, e 3, List.length_cons, ih]
  have : r.1 = 1 ∨ r.1 = 2 ∨ r.1 = 3 := by omega
  rcases this with e | e | e <;> rw [e] <;> simp <;> omega
theorem Foll.mem {R L : List (Nat × Nat)} (h : Foll R L) : ∀ r ∈ L, 1 ≤ r.1 ∧ r.1 ≤ 3 := fun r hr => by
 obtain ⟨j, hj, rfl⟩ := List.mem_iff_getElem.1 hr
 exact ⟨(h j hj).1, (h j hj).2.1⟩
theorem InvR.len {n : Nat} {R : List (Nat × Nat)} {p : Nat → Nat} (I : InvR n R p) : R.length ≤ 3 * n := by
 have := cntR_sum I.wf.mem
 have h1 := I.cn 1 (by omega) (by omega)
 have h2 := I.cn 2 (by omega) (by omega)
 have h3 := I.cn 3 (by omega) (by omega)
 omega
theorem InvR.len_lt {n : Nat} {R : List (Nat × Nat)} {p : Nat → Nat} (I : InvR n R p) {c : Nat} (h1 : 1 ≤ c) (h3 : c ≤ 3) (hc : cntR R c < n) : R.length < 3 * n := by
 have := cntR_sum I.wf.mem
 have q1 := I.cn 1 (by omega) (by omega)
 have q2 := I.cn 2 (by omega) (by omega)
 have q3 := I.cn 3 (by omega) (by omega)
 have : c = 1 ∨ c = 2 ∨ c = 3 := by omega
 rcases this with rfl | rfl | rfl <;> omega
def pushR (n : Nat) (R : List (Nat × Nat)) (p : Nat → Nat) (c : Nat) : List (Nat × Nat) := if cntR (R.take (p c)) c < n ∧ cntR R c = cntR (R.take (p c)) c then R ++ [(c, cntR R c + 1)] else R
theorem cliV_of {ca : Nat → Nat × Nat} {c : Nat} (h : c ≤ 3) : cliV ca c = .pointer (some ⟨(ca c).1, (ca c).2, none⟩) := if_pos h
theorem srvV_one (sa : Nat × Nat) : srvV sa 1 = .pointer (some ⟨sa.1, sa.2, none⟩) := if_pos rfl
theorem nil_srv (u : World) (p : Addr) : (binOp .eql 54 (.pointer (some p)) (.pointer none)).run Tryz.prog u = .ok (.bool false) u := by go_simp
set_option maxHeartbeats 4000000 in
theorem wld_push {w : World} {B n : Nat} {g : Geo} {R : List (Nat × Nat)} {p : Nat → Nat} {y : Sub} (F : Fam) (h : All w B n g R p y) (I : InvR n R p) (hn : n ≤ 8) {c : Nat} (h1 : 1 ≤ c) (h3 : c ≤ 3) :
  Calls Tryz.prog 25 #[adr g.wl, .int .i64 c, .int .i64 1] w fun e w' => (∃ r : Int, (r = 0 ∨ r = 13) ∧ e = .returned (.int .i64 r)) ∧ WS w' B n g (pushR n R p c) p := by
 have hC := h.C c h1 h3
 have HCl := Lib.hid (wld_client h.W h1 (by omega : c ≤ 10))
 have HSv := Lib.hid (wld_server h.W (id := 1) (by omega) (by omega))
 rw [cliV_of h3] at HCl
 rw [srvV_one] at HSv
 have hcs : cntR (R.take (p c)) c ≤ n := Nat.le_trans (cntR_take_le _ _ _) (I.cn c h1 h3)
 have HF := Lib.hid (cli_first hC h1 h3 (by omega) hcs)
 have HG := Lib.hid (fun (e : Nat) (u : World) => wld_goes (w := u) (adr g.wl))
 have hne := fun u => nil_srv u ⟨g.sa.1, g.sa.2, none⟩
 have hne2 := fun u => nil_cli u ⟨(g.ca c).1, (g.ca c).2, none⟩
 have H := Lib.hid h
 have HI := Lib.hid I
 have FF := Lib.hid F
 clear h I hC F
 have Hadr : Hid (adr g.wl = .pointer (some ⟨g.wl.1, g.wl.2, none⟩)) := Lib.hid rfl
 generalize adr g.wl = wv at *
 go_enter Tryz.func25, Tryz.ntmps25
 go_wp2_with fail
 refine (HCl.out).mono ?_
 rintro e w' ⟨rfl, rfl⟩
 go_wp2_with fail
 refine (HSv.out).mono ?_
 rintro e w' ⟨rfl, rfl⟩
 rename World => w
 go_wp2_with fail
 refine (HF.out).mono ?_
 rintro e w1 ⟨hb1, ⟨hlt, v, rfl, ho, hge⟩ | ⟨hle, rfl⟩⟩
 ·obtain ⟨va, vn, vm, rfl⟩ := ho.val
  have ec : ((cntR (R.take (p c)) c + 1 : Nat) : Int) = (cntR (R.take (p c)) c : Int) + 1 := by omega
  rw [ec]
  have hW2 := (Below.refl w1.heap.size w1).alloc (Nat.le_refl _) (.cells #[.int .i64 (c : Int), .int .i64 ((cntR (R.take (p c)) c : Int) + 1), .slice (some va) vn vm] 48)
  have hb2 := hb1.trans (hW2.mono hb1.size)
  have ho2 := ho.below hW2
  have hlen := HI.out.len
  have hd1 := HI.out.d1 c h1 h3
  have hle := cntR_take_le R (p c) c
  have hRl := cntR_le R c
  by_cases hs : cntR R c = cntR (R.take (p c)) c
  ·have hpR : pushR n R p c = R ++ [(c, cntR R c + 1)] := if_pos ⟨hlt, hs⟩
   obtain ⟨k1, k2⟩ := FF.out.push c (cntR R c) R.length h1 h3 (by omega) hRl (by have := HI.out.len_lt h1 h3 (by omega); omega)
   have hpush := srv_push H.out.S hb2 h1 h3 rfl (by omega) (by rw [hs]; exact ho2) hge k1 k2
   rw [hs, ec] at hpush
   have HP := Lib.hid hpush
   have HB2 := Lib.hid hb2
   have HR := Lib.hid hpR
   clear hpush hb2 ho2 hW2 ho hb1 hpR k1 k2
   generalize cntR (R.take (p c)) c = s at *
   go_wp2_with fail
   generalize w1.alloc _ = w2 at *
   refine (HP.out).mono ?_
   rintro e w3 ⟨⟨r, ⟨r0, r1, r2, r3, r4, rfl, o0, o1, o2, o3, o4⟩, rfl⟩, ρ', hS, hb3, hf⟩
   have hA : WS w3 B n g (pushR n R p c) p := by
    rw [HR.out]
    refine ⟨_, H.out.srv (R' := R ++ [(c, cntR R c + 1)]) (by rw [hs]; exact hS) ((But.of_below (F := SrvF R y.ρs) HB2.out).trans hb3 (fun b hb hf2 => ?_)) (fun b hb => hf b (by rw [← hs]; exact hb)) (fun d d1 d3 => ?_)⟩
    ·rcases hf2 with e | e
     ·exact .inl e
     ·omega
    ·have := HI.out.pl d
     rw [List.take_append_of_le_length this]
   have HA := Lib.hid hA
   have t0 : ∀ (u : World) (q : Addr), (store q r0).run Tryz.prog u = stored Tryz.prog u q r0 .plain := fun u q => run_store _ u q r0 .plain o0
   have t1 : ∀ (u : World) (q : Addr), (store q r1).run Tryz.prog u = stored Tryz.prog u q r1 .plain := fun u q => run_store _ u q r1 .plain o1
   have t2 : ∀ (u : World) (q : Addr), (store q r2).run Tryz.prog u = stored Tryz.prog u q r2 .plain := fun u q => run_store _ u q r2 .plain o2
   have t3 : ∀ (u : World) (q : Addr), (store q r3).run Tryz.prog u = stored Tryz.prog u q r3 .plain := fun u q => run_store _ u q r3 .plain o3
   have t4 : ∀ (u : World) (q : Addr), (store q r4).run Tryz.prog u = stored Tryz.prog u q r4 .plain := fun u q => run_store _ u q r4 .plain o4
   clear hS hb3 hf hA
   go_wp2_with fail
   refine (HG.out 0 _).mono ?_
   rintro e w4 ⟨rfl, rfl⟩
   go_wp2_with fail
   go_ret
   exact ⟨⟨0, .inl rfl, rfl⟩, HA.out.below ((Below.refl _ _).alloc (Nat.le_refl _) _)⟩
  ·have hs1 : cntR R c = cntR (R.take (p c)) c + 1 := by omega
   have hpR : pushR n R p c = R := if_neg (fun e => hs e.2)
   obtain ⟨k1, k2⟩ := FF.out.told c (cntR R c) R.length h1 h3 (by omega) (by have := HI.out.cn c h1 h3; omega) hRl (by omega)
   have hpush := srv_told H.out.S hb2 h1 h3 (s := cntR R c) rfl (by omega) (by omega) (by rw [hs1, Nat.add_sub_cancel]; exact ho2) hge k1 k2
   have ec1 : ((cntR R c : Nat) : Int) = (cntR (R.take (p c)) c : Int) + 1 := by omega
   rw [ec1] at hpush
   have HP := Lib.hid hpush
   have HB2 := Lib.hid hb2
   have HR := Lib.hid hpR
   clear hpush hb2 ho2 hW2 ho hb1 hpR k1 k2
   generalize cntR (R.take (p c)) c = s at *
   go_wp2_with fail
   generalize w1.alloc _ = w2 at *
   refine (HP.out).mono ?_
   rintro e w3 ⟨⟨r, ⟨r0, r1, r2, r3, r4, rfl, o0, o1, o2, o3, o4⟩, rfl⟩, ρ', hS, hb3, hf⟩
   have hA : WS w3 B n g (pushR n R p c) p := by
    rw [HR.out]
    refine ⟨_, H.out.srv (R' := R) hS ((But.of_below (F := SrvF R y.ρs) HB2.out).trans hb3 (fun b hb hf2 => ?_)) hf (fun d d1 d3 => rfl)⟩
    rcases hf2 with e | e
    ·exact e
    ·omega
   have HA := Lib.hid hA
   have t0 : ∀ (u : World) (q : Addr), (store q r0).run Tryz.prog u = stored Tryz.prog u q r0 .plain := fun u q => run_store _ u q r0 .plain o0
   have t1 : ∀ (u : World) (q : Addr), (store q r1).run Tryz.prog u = stored Tryz.prog u q r1 .plain := fun u q => run_store _ u q r1 .plain o1
   have t2 : ∀ (u : World) (q : Addr), (store q r2).run Tryz.prog u = stored Tryz.prog u q r2 .plain := fun u q => run_store _ u q r2 .plain o2
   have t3 : ∀ (u : World) (q : Addr), (store q r3).run Tryz.prog u = stored Tryz.prog u q r3 .plain := fun u q => run_store _ u q r3 .plain o3
   have t4 : ∀ (u : World) (q : Addr), (store q r4).run Tryz.prog u = stored Tryz.prog u q r4 .plain := fun u q => run_store _ u q r4 .plain o4
   clear hS hb3 hf hA
   go_wp2_with fail
   refine (HG.out 0 _).mono ?_
   rintro e w4 ⟨rfl, rfl⟩
   go_wp2_with fail
   go_ret
   exact ⟨⟨0, .inl rfl, rfl⟩, HA.out.below ((Below.refl _ _).alloc (Nat.le_refl _) _)⟩
 ·have hA : WS w1 B n g (pushR n R p c) p := by
   have : pushR n R p c = R := if_neg (by omega)
   rw [this]
   exact ⟨y, H.out.below hb1⟩
  have HA := Lib.hid (And.intro hA hb1)
  clear hA hb1
  go_wp2_with fail
  go_ret
  exact ⟨⟨13, .inr rfl, rfl⟩, HA.out.1.below ((Below.refl _ _).alloc (Nat.le_refl _) _)⟩
theorem take_drop (R : List (Nat × Nat)) (k j : Nat) : R.take k ++ ((R.drop k).take 10).take j = R.take (k + min j 10) := by
 rw [List.take_take, List.take_add]
theorem Foll.part {R : List (Nat × Nat)} (h : Foll [] R) (k : Nat) (hk : k ≤ R.length) : Foll (R.take k) ((R.drop k).take 10) := by
 intro j hj
 have hj2 : j < 10 ∧ k + j < R.length := by
  rw [List.length_take, List.length_drop] at hj
  omega
 have e1 : ((R.drop k).take 10)[j] = R[k + j] := by simp only [List.getElem_take, List.getElem_drop]
 obtain ⟨a1, a2, a3⟩ := h (k + j) hj2.2
 rw [List.nil_append] at a3
 rw [e1]
 refine ⟨a1, a2, ?_⟩
 rw [take_drop, Nat.min_eq_left (by omega)]
 exact a3
theorem cntR_at {R : List (Nat × Nat)} (h : Foll [] R) (j : Nat) (hj : j < R.length) : R[j].2 ≤ cntR R R[j].1 ∧ 1 ≤ R[j].2 ∧ R[j].2 ≤ j + 1 := by
 obtain ⟨_, _, a3⟩ := h j hj
 rw [List.nil_append] at a3
 have e : R.take (j + 1) = R.take j ++ [R[j]] := by rw [List.take_succ_eq_append_getElem hj]
 have h1 := cntR_take_le R (j + 1) R[j].1
 rw [e, cntR_snoc, if_pos rfl] at h1
 have h2 := cntR_le (R.take j) R[j].1
 rw [List.length_take] at h2
 omega
theorem Fam.takeK (F : Fam) {n : Nat} {R : List (Nat × Nat)} {p : Nat → Nat} (I : InvR n R p) (hn : n ≤ 8) (k : Nat) (hk : k ≤ R.length) : TakeK k ((R.drop k).take 10) := by
 have hl := I.len
 have hlen : ((R.drop k).take 10).length = min 10 (R.length - k) := by rw [List.length_take, List.length_drop]
 have el : ∀ j (hj : j < ((R.drop k).take 10).length), k + j < R.length ∧ ∀ (h : k + j < R.length), ((R.drop k).take 10)[j] = R[k + j] := fun j hj => ⟨by omega, fun h => by simp only [List.getElem_take, List.getElem_drop]⟩
 have one : ∀ j (hj : j < ((R.drop k).take 10).length), oneK (k + j) ((R.drop k).take 10)[j].1 ((R.drop k).take 10)[j].2 = true ∧ oneB (k + j) ((R.drop k).take 10)[j].1 ((R.drop k).take 10)[j].2 = true ∧ putK (k + j) ((R.drop k).take 10)[j].1 ((R.drop k).take 10)[j].2 = true := fun j hj => by
  obtain ⟨h1, h2⟩ := el j hj
  rw [h2 h1]
  obtain ⟨a1, a2, _⟩ := I.wf (k + j) h1
  obtain ⟨b1, b2, b3⟩ := cntR_at I.wf (k + j) h1
  have := I.cn _ a1 a2
  exact F.one (k + j) _ _ (by omega) a1 a2 b2 (by omega) b3
 exact ⟨F.copy k (by omega), fun j hj => ⟨(one j hj).1, (one j hj).2.1⟩, fun j hj => (one j hj).2.2, fun hp => F.app k _ (by omega) (by omega) (by omega)⟩
def pullP (R : List (Nat × Nat)) (p : Nat → Nat) (c : Nat) : Nat → Nat := fun d => if d = c then min (p c + 10) R.length else p d
set_option maxHeartbeats 4000000 in
theorem wld_pull {w : World} {B n : Nat} {g : Geo} {R : List (Nat × Nat)} {p : Nat → Nat} {y : Sub} (F : Fam) (h : All w B n g R p y) (I : InvR n R p) (hn : n ≤ 8) {c : Nat} (h1 : 1 ≤ c) (h3 : c ≤ 3) :
  Calls Tryz.prog 26 #[adr g.wl, .int .i64 c, .int .i64 1] w fun e w' => e = .returned (.int .i64 0) ∧ WS w' B n g R (pullP R p c) := by
 have hC := h.C c h1 h3
 have hpl := I.pl c
 have hlen := I.len
 have HCl := Lib.hid (wld_client h.W h1 (by omega : c ≤ 10))
 have HSv := Lib.hid (wld_server h.W (id := 1) (by omega) (by omega))
 rw [cliV_of h3] at HCl
 rw [srvV_one] at HSv
 have htl : (R.take (p c)).length = p c := by rw [List.length_take]; omega
 have hcur := cli_cursor hC (by omega)
 rw [htl] at hcur
 have HCu := Lib.hid hcur
 have hRm : ∀ r ∈ R, r.1 ≤ 3 := fun r hr => (I.wf.mem r hr).2
 have HPu := Lib.hid (srv_pull h.S hRm (by omega) (p c) hpl)
 have hL : ((R.drop (p c)).take 10).length = min 10 (R.length - p c) := by rw [List.length_take, List.length_drop]
 have HTk := Lib.hid (fun (u : World) (rv : Value) (hM : MadeR w u (p c) ((R.drop (p c)).take 10) rv) => cli_take hC (fun b hb => h.ge c (by omega) b (by rw [Ft_c h1 h3]; exact hb)) (by rw [htl]; exact hM) h1 h3 (by omega) (fun r hr => hRm r (List.mem_of_mem_take hr)) (I.wf.part (p c) hpl) (fun r hr _ => by
  obtain ⟨j, hj, e⟩ := List.mem_iff_getElem.1 (List.mem_of_mem_drop (List.mem_of_mem_take hr))
  subst e
  obtain ⟨a1, a2, _⟩ := I.wf j hj
  exact Nat.le_trans (cntR_at I.wf j hj).1 (I.cn _ a1 a2)) (by rw [htl, hL]; omega) (by rw [htl]; exact F.takeK I hn (p c) hpl))
 have hne := fun u => nil_srv u ⟨g.sa.1, g.sa.2, none⟩
 have hne2 := fun u => nil_cli u ⟨(g.ca c).1, (g.ca c).2, none⟩
 have H := Lib.hid h
 have hTE : R.take (p c) ++ (R.drop (p c)).take 10 = R.take (min (p c + 10) R.length) := by
  have e1 : R.take (p c + 10) = R.take (p c) ++ (R.drop (p c)).take 10 := List.take_add
  rw [← e1]
  by_cases e : p c + 10 ≤ R.length
  ·rw [Nat.min_eq_left e]
  ·rw [List.take_of_length_le (by omega), List.take_of_length_le (by omega)]
 have HTE := Lib.hid hTE
 clear h I hC F hRm hcur htl hTE
 generalize (R.drop (p c)).take 10 = L at *
 generalize hwv : adr g.wl = wv at *
 clear hwv
 go_enter Tryz.func26, Tryz.ntmps26
 go_wp2_with fail
 refine (HCl.out).mono ?_
 rintro e w' ⟨rfl, rfl⟩
 go_wp2_with fail
 refine (HSv.out).mono ?_
 rintro e w' ⟨rfl, rfl⟩
 go_wp2_with fail
 refine (HCu.out).mono ?_
 rintro e w' ⟨rfl, rfl⟩
 rename World => w
 go_wp2_with fail
 refine (HPu.out).mono ?_
 rintro e w1 ⟨rv, rfl, hM⟩
 obtain ⟨va, vn, vc, rfl⟩ := hM.val3
 have HM := Lib.hid hM
 clear hM
 go_wp2_with fail
 refine (HTk.out _ _ HM.out).mono ?_
 rintro e w2 ⟨rfl, x', hC', hb, hf⟩
 have hA : WS w2 B n g R (pullP R p c) := ⟨_, H.out.cli h1 h3 (q := min (p c + 10) R.length) (by rw [← HTE.out]; exact hC') hb (fun b hb' => hf b (by rw [HTE.out]; exact hb'))⟩
 have HA := Lib.hid hA
 clear hC' hb hf hA
 go_wp2_with fail
 go_ret
 exact ⟨rfl, HA.out⟩
theorem srv_bad {w : World} {B : Nat} {a : Nat × Nat} {R : List (Nat × Nat)} {ρ : Q → Loc} (h : SrvAt w B a R ρ) : Calls Tryz.prog 37 #[.pointer (some ⟨a.1, a.2, none⟩)] w fun e w' => e = .returned (.bool false) ∧ w' = w := by
 have hms : (qn 1, SB.bk 89 [.p (qn 2) 0, .p (qn 3) 0, .p (qn 4) 0, .b false]) ∈ srvS R.length := by unfold srvS srvL; simp
 obtain ⟨v, c1, c2, _⟩ := EmbS.atq h.E (srvL_nd ..) hms (i := 3) (y := .b false) rfl
 have hv : v = .bool false := by cases c2; rfl
 subst hv
 rw [h.root.1, h.root.2] at c1
 have hne := fun u => nil_srv u ⟨a.1, a.2, none⟩
 clear h hms c2
 go_enter Tryz.func37, Tryz.ntmps37
 go_wp2_with fail
 go_ret
 exact ⟨rfl, rfl⟩
theorem wld_fire {w : World} {B n : Nat} {g : Geo} {R : List (Nat × Nat)} {p : Nat → Nat} {y : Sub} (F : Fam) (h : All w B n g R p y) (hl : R.length ≤ 24) :
  Calls Tryz.prog 22 #[adr g.wl, .int .i64 1] w fun e w' => e = .returned (.int .i64 0) ∧ WS w' B n g R p := by
 have HSv := Lib.hid (wld_server h.W (id := 1) (by omega) (by omega))
 rw [srvV_one] at HSv
 have HBd := Lib.hid (srv_bad h.S)
 have HFi := Lib.hid (srv_fire h.S (F.fire _ hl))
 have HG := Lib.hid (fun (e : Nat) (u : World) => wld_goes (w := u) (adr g.wl))
 have hne := fun u => nil_srv u ⟨g.sa.1, g.sa.2, none⟩
 have H := Lib.hid h
 clear h F
 generalize hwv : adr g.wl = wv at *
 clear hwv
 go_enter Tryz.func22, Tryz.ntmps22
 go_wp2_with fail
 refine (HSv.out).mono ?_
 rintro e w' ⟨rfl, rfl⟩
 go_wp2_with fail
 refine (HBd.out).mono ?_
 rintro e w' ⟨rfl, rfl⟩
 go_wp2_with fail
 refine (HFi.out).mono ?_
 rintro e w1 ⟨rfl, ρ', hS, hb, hf⟩
 have HA : Hid (WS w1 B n g R p) := Lib.hid ⟨_, H.out.srv hS hb hf (fun _ _ _ => rfl)⟩
 clear hS hb hf
 go_wp2_with fail
 refine (HG.out 0 _).mono ?_
 rintro e w2 ⟨rfl, rfl⟩
 go_wp2_with fail
 go_ret
 exact ⟨rfl, HA.out⟩
theorem calm_quiet {w : World} {B : Nat} {wl sa : Nat × Nat} {ca : Nat → Nat × Nat} {ρ : Q → Loc} (h : WldAt w B wl sa ca ρ) (m : Int) (hm : m = 5000 ∨ m = 20000) :
  Calls Tryz.prog 40 #[adr wl, .int .i64 m] w fun e w' => e = .returned (.bool true) ∧ w' = w := by
 obtain ⟨nt, c1, hN⟩ := wld_net h
 have HN := Lib.hid hN
 have HL := Lib.hid (net_len0 c1)
 have hmx : ∀ u : World, (Builtin.max_ #[3, 3] 3 #[.int .i64 m, .int .i64 0]).run Tryz.prog u = .ok (.int .i64 m) u := fun u => by
  rcases hm with rfl | rfl <;> simp [Builtin.max_, Builtin.max2]
 have hmn : ∀ u : World, (Builtin.min_ #[3, 3] 3 #[.int .i64 m, .int .i64 20000]).run Tryz.prog u = .ok (.int .i64 m) u := fun u => by
  rcases hm with rfl | rfl <;> simp [Builtin.min_, Builtin.min2]
 have hm0 : decide ((0 : Int) < m) = true := decide_eq_true (by omega)
 clear h hN c1
 generalize hwv : adr wl = wv at *
 clear hwv
 generalize hnv : adr nt = nv at *
 clear hnv
 go_enter Tryz.func40, Tryz.ntmps40
 go_wp2_with fail
 go_loopw [8] (fun i wr => i = .int .i64 0 ∧ wr = w) (fun _ _ => 0)
 case atStart => exact ⟨rfl, rfl⟩
 case round =>
  obtain ⟨rfl, rfl⟩ := hrel
  go_wp2_with fail
  refine (HN.out).mono ?_
  rintro e w' ⟨rfl, rfl⟩
  go_wp2_with fail
  refine (HL.out).mono ?_
  rintro e w' ⟨rfl, rfl⟩
  go_wp2_with fail
  refine (HN.out).mono ?_
  rintro e w' ⟨rfl, rfl⟩
  go_wp2_with fail
  refine (HL.out).mono ?_
  rintro e w' ⟨rfl, rfl⟩
  go_wp2_with fail
  go_ret
  exact ⟨rfl, rfl⟩
noncomputable def getK (k : Nat) : Bool := runS s126 [.p (qn 7) 0, iN 1, iN 200] (srvS k) (qn 30) (fin1 30 (.sl (qn 20) 0 (Nat.succ k) (.u 0 (Nat.succ k))) [(qn 1, qn 1)] (srvS k))
section
variable {w : World} {B : Nat} {a : Nat × Nat} {R : List (Nat × Nat)} {ρ : Q → Loc}
def locOf (ρ : Q → Loc) (q : Q) : Nat × Nat := ((ρ q).blk, (ρ q).base)
theorem rel_loc {q : Q} {v : Value} {N : Nat} (h : Rel ρ N (.p q 0) v) : v = adr (locOf ρ q) := by cases h; rfl
theorem srv_raft (h : SrvAt w B a R ρ) : Calls Tryz.prog 19 #[adr a] w fun e w' => e = .returned (adr (locOf ρ (qn 3))) ∧ w' = w := by
 have hms : (qn 1, SB.bk 89 [.p (qn 2) 0, .p (qn 3) 0, .p (qn 4) 0, .b false]) ∈ srvS R.length := by unfold srvS srvL; simp
 obtain ⟨v, c1, c2, _⟩ := EmbS.atq h.E (srvL_nd ..) hms (i := 1) (y := .p (qn 3) 0) rfl
 have hv := rel_loc c2
 subst hv
 rw [h.root.1, h.root.2] at c1
 have hne := fun u => nil_srv u ⟨a.1, a.2, none⟩
 generalize locOf ρ (qn 3) = l at *
 unfold adr at *
 clear h hms c2
 go_enter Tryz.func19, Tryz.ntmps19
 go_wp2_with fail
 go_ret
 exact ⟨rfl, rfl⟩
theorem raft_log (h : SrvAt w B a R ρ) : Calls Tryz.prog 125 #[adr (locOf ρ (qn 3))] w fun e w' => e = .returned (adr (locOf ρ (qn 7))) ∧ w' = w := by
 have hms : ∃ cs, (qn 3, SB.bk 99 cs) ∈ srvS R.length ∧ cs[3]? = some (.p (qn 7) 0) := ⟨[iN 1, iN 1, iN 1, .p (qn 7) 0, iN (Nat.succ R.length), iN 2, iN 1, .b false, .p (qn 9) 0, .p (qn 12) 0, .ns, .b false, iN 0, .b false], by unfold srvS srvL; simp, rfl⟩
 obtain ⟨cs, hms, hcs⟩ := hms
 obtain ⟨v, c1, c2, _⟩ := EmbS.atq h.E (srvL_nd ..) hms (i := 3) (y := .p (qn 7) 0) hcs
 have hv := rel_loc c2
 subst hv
 have c1 : w.cell? ⟨(locOf ρ (qn 3)).1, (locOf ρ (qn 3)).2 + 3, none⟩ = _ := c1
 generalize locOf ρ (qn 3) = l at *
 generalize locOf ρ (qn 7) = l7 at *
 unfold adr at *
 have hne : ∀ u : World, (binOp .eql 56 (.pointer (some ⟨l.1, l.2, none⟩)) (.pointer none)).run Tryz.prog u = .ok (.bool false) u := fun u => by go_simp
 clear h hms c2
 go_enter Tryz.func125, Tryz.ntmps125
 go_wp2_with fail
 go_ret
 exact ⟨rfl, rfl⟩
theorem log_first (h : SrvAt w B a R ρ) : Calls Tryz.prog 157 #[adr (locOf ρ (qn 7))] w fun e w' => e = .returned (.int .i64 1) ∧ w' = w := by
 have hms : ∃ cs, (qn 7, SB.bk 221 cs) ∈ srvS R.length ∧ cs[0]? = some (iN 0) := ⟨[iN 0, iN 0, .s 1 [49], .s 2 [0, 0], slN (qn 8) (Nat.succ R.length)], by unfold srvS srvL; simp, rfl⟩
 obtain ⟨cs, hms, hcs⟩ := hms
 obtain ⟨v, c1, c2, _⟩ := EmbS.atq h.E (srvL_nd ..) hms (i := 0) (y := iN 0) hcs
 have hv := rel_iN c2
 subst hv
 have c1 : w.cell? ⟨(locOf ρ (qn 7)).1, (locOf ρ (qn 7)).2, none⟩ = some (.int .i64 0) := c1
 generalize locOf ρ (qn 7) = l at *
 unfold adr at *
 have hne : ∀ u : World, (binOp .eql 92 (.pointer (some ⟨l.1, l.2, none⟩)) (.pointer none)).run Tryz.prog u = .ok (.bool false) u := fun u => by go_simp
 clear h hms c2
 go_enter Tryz.func157, Tryz.ntmps157
 go_wp2_with fail
 go_ret
 exact ⟨rfl, rfl⟩
theorem log_get (h : SrvAt w B a R ρ) (hK : getK R.length = true) :
  Calls Tryz.prog 126 #[adr (locOf ρ (qn 7)), .int .i64 1, .int .i64 200] w fun e w' => (∃ l c, e = .returned (.slice (some l) (R.length + 1) c)) ∧ ∃ ρ', SrvAt w' B a R ρ' ∧ But (SrvF R ρ) w w' ∧ ∀ b, SrvF R ρ' b → SrvF R ρ b ∨ w.heap.size ≤ b := by
 have hargs : RelL ρ (qn 30).num [.p (qn 7) 0, iN 1, iN 200] [adr (locOf ρ (qn 7)), .int .i64 1, .int .i64 200] := by
  refine .cons _ _ _ _ ?_ (.cons _ _ _ _ (iN_rel 1) (.cons _ _ _ _ (iN_rel 200) .nil))
  exact Rel.p (ρ := ρ) (N := (qn 30).num) (qn 7) 0 (by decide)
 have hrun := SoundF.run1 d126 (S := srvS R.length) (X := .sl (qn 20) 0 (Nat.succ R.length) (.u 0 (Nat.succ R.length))) (nx := qn 30) h.E (by decide) (by decide) (f0 := [(qn 1, qn 1)]) (by decide) (by decide) hargs
 refine (hrun hK).mono ?_
 rintro e w' ⟨v, ρ', rfl, hv, ET, tn, hst⟩
 refine ⟨?_, ρ', h.same ET tn (hst _ List.mem_cons_self)⟩
 cases hv with
 | slu _ _ _ _ _ h0 h1 h2 h3 => exact ⟨_, _, rfl⟩
end
section
variable {w : World} {B n : Nat} {ρ : Q → Loc}
def Im (ρ : Q → Loc) (S : List (Q × SB)) (b : Nat) : Prop := ∃ e ∈ S, (ρ e.1).blk = b
theorem im_of_live {S : List (Q × SB)} {b : Nat} (h : Blk ρ S b) : Im ρ S b := by
 obtain ⟨q, hq, rfl⟩ := h
 obtain ⟨e, he, rfl, _⟩ := mkS_mem hq
 exact ⟨e, he, rfl⟩
theorem Im.mono {S T : List (Q × SB)} {b : Nat} (h : Im ρ S b) (hs : S ⊆ T) : Im ρ T b := by
 obtain ⟨e, he, rfl⟩ := h
 exact ⟨e, hs he, rfl⟩
theorem EmbS.renamed {S T : List (Q × SB)} {nx : Q} {N : Nat} {f : List (Q × Q)} {nx0 : Q} (E : EmbS Tryz.prog ρ S nx0 w B) (hf : okK N f = true) (hN : 0 < N) (hnx : nx.num = N) (hm : matchS N (.mk (mkT (mkS S)) nx0) T f = true) :
  ∃ ρ', EmbS Tryz.prog ρ' T nx w B ∧ (∀ e ∈ f, ρ' e.1 = ρ e.2) ∧ (∀ b, Blk ρ' T b → Im ρ S b) ∧ ρ' .e = ρ .e := by
 rw [matchS_eq] at hm
 obtain ⟨ρ', E', hc, hl⟩ := match_sound E (okK_spec hf) hN hnx hm
 refine ⟨ρ', E', fun e he => (hc.eq e he).1, fun b hb => ?_, hc.e⟩
 obtain ⟨q, hq, rfl⟩ := hb
 obtain ⟨r, h1, h2⟩ := hl q hq
 rw [h2]
 exact im_of_live ⟨r, h1, rfl⟩
theorem srvN_nd : ndS (srvN qn) = true := by kernel_rfl
theorem first_srv (E : EmbS Tryz.prog ρ (srvN (oN 200)) (qn 600) w B) : ∃ ρ', SrvAt w B (locOf ρ (qn 201)) [] ρ' ∧ ∀ b, SrvF [] ρ' b → Im ρ (srvN (oN 200)) b := by
 obtain ⟨ρ1, E1, h1, h2, _⟩ := EmbS.renamed (nx := qn 30) E (by decide) (by decide) (by decide) srvM_ok
 obtain ⟨hk, hr⟩ := andB_spec srvR_ok
 have hin : (mkT (mkS (srvN qn))).get (qn 19) ≠ .no := by
  have := ndS_get srvN_nd (qn 19, .bk 5 (repS u8A 45)) (by simp [srvN])
  dsimp only at this
  rw [this]
  simp [SB.ob]
 have E2 := EmbS.soupify E1 hk hin cells_u8
 generalize hρ2 : (fun q => if q = qn 19 then { ρ1 (qn 19) with fil := 45 } else ρ1 q) = ρ2 at E2
 have hb2 : ∀ q, (ρ2 q).blk = (ρ1 q).blk := fun q => by rw [← hρ2]; dsimp only; split <;> rename_i e <;> first | (rw [e]) | rfl
 have ho2 : ∀ q, (ρ2 q).base = (ρ1 q).base := fun q => by rw [← hρ2]; dsimp only; split <;> rename_i e <;> first | (rw [e]) | rfl
 have ER := Emb.retell E2 (nx' := qn 30) (Nat.le_refl _) (by decide) hr
 have hr1 : ρ1 (qn 1) = ρ (qn 201) := h1 _ List.mem_cons_self
 have hndO : ndS srvO = true := by kernel_rfl
 have hcell : ∀ c, 1 ≤ c → c ≤ 3 → (reN ρ2 (mkS srvO) w .e).vl (qn 13) (2 + 6 * c) = .int .i64 0 := fun c c1 c3 => by
  have hm : (qn 13, SB.bk 180 ([iN 0, .p (qn 15) 0] ++ told0)) ∈ srvO := List.mem_map.2 ⟨(qn 13, SB.bk 180 ([iN 0, .p (qn 15) 0] ++ told0)), by simp [srvN], by kernel_rfl⟩
  obtain ⟨x, d1, d2, _⟩ := EmbS.atq E2 hndO hm (i := 2 + 6 * c) (y := iN 0) (by
   match c, c1, c3 with
   | 1, _, _ => rfl
   | 2, _, _ => rfl
   | 3, _, _ => rfl)
  rw [reN_vl (by omega) d1, rel_iN d2]
  rfl
 refine ⟨reN ρ2 (mkS srvO) w, ⟨ER, ?_, fun i hi => absurd hi (by simp), fun c c1 c3 => ⟨?_, fun hp => absurd hp (by simp [cntR])⟩, fun c _ _ hp => absurd hp (by simp [cntR]), fun c _ _ hp => absurd hp (by simp [cntR])⟩, fun b hb => ?_⟩
 ·rw [reN_ne (by decide), hb2, ho2, hr1]
  exact ⟨rfl, rfl⟩
 ·rw [hcell c c1 c3]
  rfl
 ·rcases hb with hb | ⟨i, hi, _⟩ | ⟨c, _, _, hp, _⟩
  ·obtain ⟨q, hq, rfl⟩ := hb
   have hq1 := respT_get (respS_T hr) q hq
   have hq2 : (mkT (mkS srvO)).get q ≠ .no := live_of_respO hq1.2.2
   rw [reN_ne hq1.1, hb2]
   refine h2 _ ⟨q, ?_, rfl⟩
   obtain ⟨e', he', rfl, hg⟩ := mkS_mem hq2
   have : ∃ e ∈ srvN qn, e.1 = e'.1 := by
    unfold srvO soupL at he'
    obtain ⟨e, he, rfl⟩ := List.mem_map.1 he'
    refine ⟨e, he, ?_⟩
    cases Q.eq e.1 (qn 19) <;> cases Q.eq e.1 (qn 18) <;> rfl
   obtain ⟨e, he, e1⟩ := this
   rw [← e1, ndS_get srvN_nd e he]
   cases e.2 <;> simp [SB.ob]
  ·exact absurd hi (by simp)
  ·exact absurd hp (by simp [cntR])
end
theorem addCN_len (o : Nat → Q) (c : Nat) : ∀ n, (addCN o c n).length = 3 * n
 | 0 => rfl
 | n + 1 => by
  show (addCN o c n ++ _).length = _
  rw [List.length_append, addCN_len o c n]
  simp only [List.length_cons, List.length_nil]
  omega
theorem addCN_get (o : Nat → Q) (c : Nat) : ∀ (n i j : Nat), i < n → j < 3 → (addCN o c n)[i * 3 + j]? = [iN c, iN (Nat.succ i), AV.sl (o (Nat.add 40 i)) 0 1 (.u 0 1)][j]?
 | 0, _, _, h, _ => absurd h (by omega)
 | n + 1, i, j, hi, hj => by
  have hl := addCN_len o c n
  show (addCN o c n ++ _)[i * 3 + j]? = _
  by_cases e : i < n
  ·rw [List.getElem?_append_left (by omega)]
   exact addCN_get o c n i j e hj
  ·have e : i = n := by omega
   subst e
   rw [List.getElem?_append_right (by omega), hl]
   congr 1
   omega
theorem addON_mem (o : Nat → Q) (c : Nat) : ∀ (n i : Nat), i < n → (o (Nat.add 40 i), SB.bk 32 (opC c i)) ∈ addON o c n
 | 0, _, h => absurd h (by omega)
 | n + 1, i, h => by
  show _ ∈ addON o c n ++ _
  by_cases e : i < n
  ·exact List.mem_append_left _ (addON_mem o c n i e)
  ·have e : i = n := by omega
   subst e
   exact List.mem_append_right _ List.mem_cons_self
section
variable {w : World} {B n k c : Nat} {ρ : Q → Loc}
theorem live_mem {S : List (Q × SB)} (hn : ndS S = true) {e : Q × SB} (he : e ∈ S) {q : Q} (hq : e.1 = q) : (mkT (mkS S)).get q ≠ .no := by
 rw [← hq, ndS_get hn e he]
 cases e.2 <;> simp [SB.ob]
theorem live_inj {S : List (Q × SB)} {nx : Q} (E : EmbS Tryz.prog ρ S nx w B) {q r : Q} (l1 : (mkT (mkS S)).get q ≠ .no) (l2 : (mkT (mkS S)).get r ≠ .no) (h : (ρ q).blk = (ρ r).blk) : q = r := E.inj q r l1 l2 h
theorem blk_of {S : List (Q × SB)} {q : Q} (h : (mkT (mkS S)).get q ≠ .no) : Blk ρ S (ρ q).blk := ⟨q, h, rfl⟩
theorem blk_mem {S : List (Q × SB)} (hn : ndS S = true) {e : Q × SB} (he : e ∈ S) : Blk ρ S (ρ e.1).blk := blk_of (live_mem hn he rfl)
theorem EmbS.renamed1 {S T : List (Q × SB)} {nx nx0 q r : Q} {N : Nat} (E : EmbS Tryz.prog ρ S nx0 w B) (hf : okK N [(q, r)] = true) (hN : 0 < N) (hnx : nx.num = N) (hm : matchS N (.mk (mkT (mkS S)) nx0) T [(q, r)] = true) :
  ∃ ρ', EmbS Tryz.prog ρ' T nx w B ∧ ρ' q = ρ r ∧ (∀ b, Blk ρ' T b → Im ρ S b) ∧ ρ' .e = ρ .e := by
 obtain ⟨ρ', h1, h2, h3, h4⟩ := EmbS.renamed E hf hN hnx hm
 exact ⟨ρ', h1, h2 (q, r) List.mem_cons_self, h3, h4⟩
theorem soup_name {qb qf : Q} {u8 m : Nat} {S : List (Q × SB)} {e' : Q × SB} (h : e' ∈ soupL qb qf u8 m S) : ∃ e ∈ S, e.1 = e'.1 := by
 unfold soupL at h
 obtain ⟨e, he, rfl⟩ := List.mem_map.1 h
 refine ⟨e, he, ?_⟩
 cases Q.eq e.1 qb <;> cases Q.eq e.1 qf <;> rfl
theorem row_of {S : List (Q × SB)} {nx q : Q} {ty : Nat} {cs : List AV} (E : EmbS Tryz.prog ρ S nx w B) (hn : ndS S = true) (hm : (q, SB.bk ty cs) ∈ S) : RowE Tryz.prog (ρ q) ρ nx.num w ty cs.length (V.ofL cs) := E.row q ty cs.length (V.ofL cs) (ndS_get hn _ hm)
theorem rel_slN {N m : Nat} {q : Q} {v : Value} (hm : 1 ≤ m) (h : Rel ρ N (slN q m) v) : ∃ cap, v = .slice (some ⟨(ρ q).blk, (ρ q).base, none⟩) m cap ∧ m ≤ cap ∧ cap ≤ 9223372036854775807 := by
 obtain ⟨m, rfl⟩ : ∃ l, m = l + 1 := ⟨m - 1, by omega⟩
 have h : Rel ρ N (.sl q 0 (m + 1) (.u 0 (m + 1))) v := h
 cases h with
 | slu _ _ _ _ _ h0 h1 h2 h3 => exact ⟨_, rfl, by omega, by omega⟩
theorem rel_sl1 {N : Nat} {q : Q} {v : Value} (h : Rel ρ N (.sl q 0 1 (.u 0 1)) v) : opsB v = (ρ q).blk := by cases h; rfl
def At (ρ : Q → Loc) (k c n i b : Nat) : Prop := (∃ e ∈ cliN k c n, e.1 = oN k i) ∧ (ρ (oN k i)).blk = b
theorem at_uniq (E : EmbS Tryz.prog ρ (cliN k c n) (qn 600) w B) (hnd : ndS (cliN k c n) = true) {i j b : Nat} (h : At ρ k c n i b) (h' : At ρ k c n j b) : i = j := by
 obtain ⟨⟨e, he, e1⟩, h1⟩ := h
 obtain ⟨⟨e', he', e2⟩, h2⟩ := h'
 have := live_inj E (live_mem hnd he e1) (live_mem hnd he' e2) (h1.trans h2.symm)
 have := congrArg Q.num this
 unfold oN at this
 rw [qn_num, qn_num] at this
 have : k + i = k + j := this
 omega
theorem at_mk {i : Nat} {x : SB} (hm : (oN k i, x) ∈ cliN k c n) : At ρ k c n i (ρ (oN k i)).blk := ⟨⟨(oN k i, x), hm, rfl⟩, rfl⟩
theorem at_im {i b : Nat} (h : At ρ k c n i b) : Im ρ (cliN k c n) b := by
 obtain ⟨⟨e, he, e1⟩, h2⟩ := h
 exact ⟨e, he, by rw [e1]; exact h2⟩
theorem at_of {S : List (Q × SB)} (hs : S ⊆ cliN k c n) {P : Nat → Prop} (hP : ∀ e ∈ S, ∃ i, P i ∧ e.1 = oN k i) {b : Nat} (hb : Im ρ S b) : ∃ i, P i ∧ At ρ k c n i b := by
 obtain ⟨e, he, hb⟩ := hb
 obtain ⟨i, h1, h2⟩ := hP e he
 exact ⟨i, h1, ⟨e, hs he, h2⟩, by rw [← h2]; exact hb⟩
theorem all_names {S : List (Q × SB)} {k : Nat} {P : Nat → Prop} : (∀ e ∈ S, ∃ i, P i ∧ e.1 = oN k i) → ∀ {i : Nat} {x : SB}, P i → ∀ e ∈ (oN k i, x) :: S, ∃ i, P i ∧ e.1 = oN k i := fun h i x hi e he => by
 rcases List.mem_cons.1 he with he | he
 ·exact ⟨i, hi, by rw [he]⟩
 ·exact h e he
theorem no_names {k : Nat} {P : Nat → Prop} : ∀ e ∈ ([] : List (Q × SB)), ∃ i, P i ∧ e.1 = oN k i := fun e he => by cases he
theorem cliDN_names (k n : Nat) : ∀ e ∈ cliDN (oN k) n, ∃ i, (33 ≤ i ∧ i ≤ 36) ∧ e.1 = oN k i :=
 all_names (P := fun i => 33 ≤ i ∧ i ≤ 36) (all_names (all_names (all_names no_names (by omega)) (by omega)) (by omega)) (by omega)
theorem cliSN_names (k : Nat) : ∀ e ∈ cliSN (oN k), ∃ i, i ≤ 4 ∧ e.1 = oN k i :=
 all_names (P := fun i => i ≤ 4) (all_names (all_names (all_names no_names (by omega)) (by omega)) (by omega)) (by omega)
set_option maxHeartbeats 600000 in
theorem first_cli (E : EmbS Tryz.prog ρ (cliN k c n) (qn 600) w B) (hnd : ndS (cliN k c n) = true) (hM : cliM k n = true) (hn1 : 1 ≤ n) (hn8 : n ≤ 8) (hk : k ≤ 500) :
  ∃ x, CliAt w B (locOf ρ (oN k 31)) c n [] x ∧ ∀ b, CliF (locOf ρ (oN k 31)) [] x b → Im ρ (cliN k c n) b := by
 obtain ⟨m1, m2⟩ := andB_spec hM
 obtain ⟨m2, m3⟩ := andB_spec m2
 obtain ⟨m3, m4⟩ := andB_spec m3
 obtain ⟨m4, m5⟩ := andB_spec m4
 clear hM
 have hsD : cliDN (oN k) n ⊆ cliN k c n := fun e he => List.mem_append_right _ (List.mem_append_left _ he)
 have hsS : cliSN (oN k) ⊆ cliN k c n := fun e he => List.mem_append_right _ (List.mem_append_right _ (List.mem_append_right _ he))
 have hsA : cliAN (oN k) c n ⊆ cliN k c n := fun e he => List.mem_append_right _ (List.mem_append_right _ (List.mem_append_left _ he))
 have hsQ : cliQN (oN k) c n ⊆ cliN k c n := fun e he => List.mem_append_left _ he
 have h31 : (oN k 31, SB.bk 73 [.p (oN k 32) 0]) ∈ cliN k c n := hsQ (by simp [cliQN])
 have h32 : (oN k 32, SB.bk 114 [.p (oN k 33) 0, iN c, slN (oN k 37) n, .p (oN k 1) 0]) ∈ cliN k c n := hsQ (by simp [cliQN])
 have h37 : (oN k 37, SB.bk 48 (addCN (oN k) c n)) ∈ cliN k c n := hsA (by simp [cliAN])
 have hop : ∀ i, i < n → (oN k (Nat.add 40 i), SB.bk 32 (opC c i)) ∈ cliN k c n := fun i hi => hsA (List.mem_append_right _ (addON_mem _ _ _ _ hi))
 obtain ⟨ρ1, E1, a1, a2, _⟩ := EmbS.renamed1 (nx := qn 40) (EmbS.sub E hnd hsD) (by rfl) (by decide) (by decide) m1
 obtain ⟨ndD, _⟩ := andB_spec m2
 have hin : (mkT (mkS (cliDN qn n))).get (qn 36) ≠ .no := live_mem ndD (e := (qn 36, SB.bk 5 (repS u8A (Nat.mul 15 n)))) (by simp [cliDN]) rfl
 have E2 := EmbS.soupify E1 m2 hin cells_u8
 generalize hρ2 : (fun q => if q = qn 36 then { ρ1 (qn 36) with fil := Nat.mul 15 n } else ρ1 q) = ρ2 at E2
 have hb2 : ∀ q, (ρ2 q).blk = (ρ1 q).blk := fun q => by rw [← hρ2]; dsimp only; split <;> rename_i e <;> first | (rw [e]) | rfl
 have ho2 : ∀ q, (ρ2 q).base = (ρ1 q).base := fun q => by rw [← hρ2]; dsimp only; split <;> rename_i e <;> first | (rw [e]) | rfl
 obtain ⟨ρ3, E3, a3, a4, _⟩ := EmbS.renamed1 (nx := qn 40) (S := cliO n) E2 (by rfl) (by decide) (by decide) m3
 have hD : DskAt w B (locOf ρ (oN k 33)) 0 ρ3 := ⟨E3, by
  have e1 : ρ3 (qn 33) = ρ2 (qn 33) := a3
  have e2 : ρ1 (qn 33) = ρ (qn (Nat.add k 33)) := a1
  rw [e1, hb2, ho2, e2]
  exact ⟨rfl, rfl⟩⟩
 have hDi : ∀ b, Blk ρ3 (dskS 0) b → Im ρ (cliDN (oN k) n) b := fun b hb => by
  obtain ⟨e', he', rfl⟩ := a4 b hb
  rw [hb2]
  obtain ⟨e, he, e1⟩ := soup_name he'
  rw [← e1]
  exact a2 _ (blk_mem ndD he)
 obtain ⟨ρs, Es, s1, s2, _⟩ := EmbS.renamed1 (nx := qn 20) (EmbS.sub E hnd hsS) (by rfl) (by decide) (by decide) m4
 have ER := Emb.retell Es (nx' := qn 20) (Nat.le_refl _) (by decide) m5
 have ndS' : ndS (cliSN qn) = true := by kernel_rfl
 have hs1 : ρs (qn 1) = ρ (qn (Nat.add k 1)) := s1
 have hS : StrAt w B (locOf ρ (oN k 1)) [] (reN ρs (mkS (cliSN qn)) w) := by
  refine ⟨ER, ?_, fun i hi => absurd hi (by simp), fun d d1 d3 => ?_, ?_⟩
  ·rw [reN_ne (by decide), hs1]
   exact ⟨rfl, rfl⟩
  ·have hm : (qn 2, SB.bk 180 ([iN 0, .p (qn 3) 0] ++ told0)) ∈ cliSN qn := by simp [cliSN]
   obtain ⟨x, d1', d2', _⟩ := EmbS.atq Es ndS' hm (i := 2 + 6 * d) (y := iN 0) (by
    match d, d1, d3 with
    | 1, _, _ => rfl
    | 2, _, _ => rfl
    | 3, _, _ => rfl)
   rw [reN_vl (by omega) d1', rel_iN d2']
   rfl
  ·have hg := ndS_get ndS' (qn 4, SB.mp []) (by simp [cliSN])
   dsimp only [SB.ob] at hg
   unfold reN
   rw [if_pos rfl]
   dsimp only
   rw [hg]
   rfl
 have hSi : ∀ b, StrF [] (reN ρs (mkS (cliSN qn)) w) b → Im ρ (cliSN (oN k)) b := fun b hb => by
  rcases hb with hb | ⟨i, hi, _⟩
  ·obtain ⟨q, hq, rfl⟩ := hb
   have hq1 := respT_get (respS_T m5) q hq
   have hq2 : (mkT (mkS (cliSN qn))).get q ≠ .no := live_of_respO hq1.2.2
   rw [reN_ne hq1.1]
   exact s2 _ (blk_of hq2)
  ·exact absurd hi (by simp)
 obtain ⟨v0, g0, r0, _⟩ := EmbS.atq E hnd h31 (i := 0) (y := .p (oN k 32) 0) rfl
 have v0e := rel_loc r0
 subst v0e
 obtain ⟨w0, p0, q0, _⟩ := EmbS.atq E hnd h32 (i := 0) (y := .p (oN k 33) 0) rfl
 have w0e := rel_loc q0
 subst w0e
 obtain ⟨w1, p1, q1, _⟩ := EmbS.atq E hnd h32 (i := 1) (y := iN c) rfl
 have w1e := rel_iN q1
 subst w1e
 obtain ⟨lv, p2, q2, _⟩ := EmbS.atq E hnd h32 (i := 2) (y := slN (oN k 37) n) rfl
 obtain ⟨w3, p3, q3, _⟩ := EmbS.atq E hnd h32 (i := 3) (y := .p (oN k 1) 0) rfl
 have w3e := rel_loc q3
 subst w3e
 have hfr : w.frozen? ⟨(ρ (oN k 32)).blk, (ρ (oN k 32)).base + 3, none⟩ = false := by
  obtain ⟨sz, r1, r2, _, r4⟩ := (row_of E hnd h32).at_
  have r2 : (ρ (oN k 32)).base + 4 ≤ sz := r2
  exact r4 _ (by omega)
 have hlv := rel_slN hn1 q2
 obtain ⟨cap, rfl, hc1, hc2⟩ := hlv
 have h37l : (ρ (oN k 37)).blk < w.heap.size := by
  obtain ⟨x, d1, _⟩ := EmbS.atq E hnd h37 (i := 0) (y := iN c) (by have := addCN_get (oN k) c n 0 0 (by omega) (by omega); exact this)
  exact World.block_lt_of_cell? w _ d1
 have hrow : ∀ i, i < n → ∃ b : VB, (∀ j u, (vbF b)[j]? = some u → w.cell? ⟨(ρ (oN k 37)).blk, (ρ (oN k 37)).base + i * 3 + j, none⟩ = some u) ∧ b.x = (c : Int) ∧ b.y = ((i + 1 : Nat) : Int) ∧ OpsAt w b.v c i ∧ opsB b.v = (ρ (oN k (Nat.add 40 i))).blk := fun i hi => by
  obtain ⟨x0, d0, e0, _⟩ := EmbS.atq E hnd h37 (i := i * 3 + 0) (y := iN c) (addCN_get (oN k) c n i 0 hi (by omega))
  obtain ⟨x1, d1, e1, _⟩ := EmbS.atq E hnd h37 (i := i * 3 + 1) (y := iN (Nat.succ i)) (addCN_get (oN k) c n i 1 hi (by omega))
  obtain ⟨x2, d2, e2, o2⟩ := EmbS.atq E hnd h37 (i := i * 3 + 2) (y := .sl (oN k (Nat.add 40 i)) 0 1 (.u 0 1)) (addCN_get (oN k) c n i 2 hi (by omega))
  have ho := OpsAt.of E hnd (hop i hi) e2
  have hbl : opsB x2 = (ρ (oN k (Nat.add 40 i))).blk := rel_sl1 e2
  have x0e := rel_iN e0
  have x1e := rel_iN e1
  subst x0e x1e
  refine ⟨⟨c, ((i + 1 : Nat) : Int), x2, o2⟩, fun j u hu => ?_, rfl, rfl, ho, hbl⟩
  have hj : j < 3 := (List.getElem?_eq_some_iff.1 hu).1
  match j, hj with
  | 0, _ => cases hu; exact d0
  | 1, _ => cases hu; exact d1
  | 2, _ => cases hu; exact d2
 obtain ⟨bs, hbl, hbs⟩ := list_of_all n hrow
 have hA : Recs 3 vbF w (.slice (some ⟨(ρ (oN k 37)).blk, (ρ (oN k 37)).base, none⟩) n cap) bs := ⟨_, _, by rw [hbl], by omega, hc2, fun j hj => ⟨_, _, rfl, h37l, (hbs j hj).1⟩⟩
 let X : CliX := ⟨locOf ρ (oN k 32), locOf ρ (oN k 33), locOf ρ (oN k 1), .slice (some ⟨(ρ (oN k 37)).blk, (ρ (oN k 37)).base, none⟩) n cap, bs, ρ3, reN ρs (mkS (cliSN qn)) w⟩
 have a31 : At ρ k c n 31 (locOf ρ (oN k 31)).1 := at_mk h31
 have a37 : At ρ k c n 37 (ρ (oN k 37)).blk := at_mk h37
 have kK : ∀ b, CliK (locOf ρ (oN k 31)) X b → ∃ i, (i = 31 ∨ 37 ≤ i) ∧ At ρ k c n i b := fun b hb => by
  rcases hb with hb | hb | ⟨r, hr, hb⟩
  ·exact ⟨31, .inl rfl, by rw [hb]; exact a31⟩
  ·have hb : some (ρ (oN k 37)).blk = some b := hb
   simp only [Option.some.injEq] at hb
   exact ⟨37, .inr (by omega), by rw [← hb]; exact a37⟩
  ·obtain ⟨j, hj, hr⟩ := List.mem_iff_getElem.1 hr
   refine ⟨Nat.add 40 j, .inr (by show 37 ≤ 40 + j; omega), ?_⟩
   have e1 := (hbs j hj).2.2.2.2
   rw [hb, ← hr, e1]
   exact at_mk (hop j (by rw [← hbl]; exact hj))
 have kQ : At ρ k c n 32 (locOf ρ (oN k 32)).1 := at_mk h32
 have kD : ∀ b, Blk ρ3 (dskS 0) b → ∃ i, (33 ≤ i ∧ i ≤ 36) ∧ At ρ k c n i b := fun b hb => at_of hsD (cliDN_names k n) (hDi b hb)
 have kS : ∀ b, StrF [] (reN ρs (mkS (cliSN qn)) w) b → ∃ i, i ≤ 4 ∧ At ρ k c n i b := fun b hb => at_of hsS (cliSN_names k) (hSi b hb)
 have uq : ∀ {i j b}, At ρ k c n i b → At ρ k c n j b → i = j := fun h h' => at_uniq E hnd h h'
 refine ⟨X, ⟨?_, g0, ⟨?_, p0, p1, p2, p3, hfr⟩, hA, fun g hg => ?_, fun j hj => ?_, hbl, hD, hS, fun hb => ?_, fun b hb hd => ?_, fun b hb hs => ?_, fun hd => ?_, fun hs => ?_, fun b hd hs => ?_⟩, fun b hb => ?_⟩
 ·exact World.block_lt_of_cell? w _ g0
 ·exact World.block_lt_of_cell? w _ p0
 ·have hg : some (ρ (oN k 37)).blk = some g := hg
  simp only [Option.some.injEq] at hg
  rw [← hg]
  exact h37l
 ·obtain ⟨_, b1, b2, b3, _⟩ := hbs j hj
  rw [Nat.zero_add]
  exact ⟨b1, b2, b3⟩
 ·obtain ⟨i, hi, ha⟩ := kK _ hb
  have := uq ha kQ
  omega
 ·obtain ⟨i, hi, ha⟩ := kK _ hb
  obtain ⟨j, hj, ha'⟩ := kD _ hd
  have := uq ha ha'
  omega
 ·obtain ⟨i, hi, ha⟩ := kK _ hb
  obtain ⟨j, hj, ha'⟩ := kS _ hs
  have := uq ha ha'
  omega
 ·obtain ⟨j, hj, ha'⟩ := kD _ hd
  have := uq kQ ha'
  omega
 ·obtain ⟨j, hj, ha'⟩ := kS _ hs
  have := uq kQ ha'
  omega
 ·obtain ⟨i, hi, ha⟩ := kD _ hd
  obtain ⟨j, hj, ha'⟩ := kS _ hs
  have := uq ha ha'
  omega
 ·rcases hb with hb | hb | hb | hb
  ·obtain ⟨i, _, ha⟩ := kK _ hb; exact at_im ha
  ·rw [hb]; exact at_im kQ
  ·obtain ⟨i, _, ha⟩ := kD _ hb; exact at_im ha
  ·obtain ⟨i, _, ha⟩ := kS _ hb; exact at_im ha
end
end Go.Proofs.YtpchmdddkpocgaaGreatDoor
