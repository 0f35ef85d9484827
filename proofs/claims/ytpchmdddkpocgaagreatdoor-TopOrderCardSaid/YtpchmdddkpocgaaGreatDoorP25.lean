/-
  No claim by itself: TopOrder: a document tells a number. | TopOrder: what a client has agreed on. | TopOrder: the law's first calls, evaluated. | TopOrder: the law's first calls. | TopOrder: helpers for the walk of the law. | TopOrder: what is evaluated, number by number. No condition.
-/
import Derived.Test.YtpchmdddkpocgaaGreatDoorP24
import Derived.Test.YtpchmdddkpocgaaGreatDoorP16
import Derived.Test.YtpchmdddkpocgaaGreatDoorP22
import Derived.Test.YtpchmdddkpocgaaGreatDoorP17
import Derived.Test.YtpchmdddkpocgaaGreatDoorP14
import Derived.KernelRfl
import Derived.IntWalk
import Derived.ProofKit
import Derived.OpenShut
import Derived.Test.YtpchmdddkpocgaaGreatDoorP21
namespace Go.Proofs.YtpchmdddkpocgaaGreatDoor
set_option maxRecDepth 100000
set_option linter.unusedVariables false
set_option linter.unusedSimpArgs false
open Go.ChangeShapes Go.WideShapes Go.ChangeAt Go.RowKit
def keyS (c : Nat) : ByteArray := ⟨#[107, UInt8.ofNat (48 + c)]⟩
def keyL (c : Nat) : Lit := .string (keyS c).data.toList
theorem keyL_ne {c d : Nat} (h1 : c ≤ 3) (h2 : d ≤ 3) (h : c ≠ d) : keyL c ≠ keyL d := by
 intro e
 have : UInt8.ofNat (48 + c) = UInt8.ofNat (48 + d) := by
  unfold keyL keyS at e
  simpa using e
 have := congrArg UInt8.toNat this
 simp at this
 omega
theorem docR_snoc (R : List (Nat × Nat)) (r : Nat × Nat) : docR (R ++ [r]) = (docR R).put (keyL r.1) (.lit (.int .i64 (((r.2 - 1 : Nat) : Int)))) := by
 unfold docR
 rw [List.foldl_append]
 show updM _ (keyB r.1, 9223372036854775808 + (r.2 - 1)) = _
 unfold updM keyL keyS keyB
 congr 2
 congr 1
 omega
theorem docR_map : ∀ n (R : List (Nat × Nat)), R.length = n → Maps.IsMap (docR R)
 | 0, R, h => by
  obtain rfl := List.eq_nil_of_length_eq_zero h
  exact ⟨_, rfl⟩
 | n + 1, R, h => by
  have hne : R ≠ [] := by intro e; rw [e] at h; simp at h
  have e := List.dropLast_concat_getLast hne
  have hl : R.dropLast.length = n := by rw [List.length_dropLast]; omega
  rw [← e, docR_snoc]
  exact (docR_map n R.dropLast hl).put _ _
theorem docR_at : ∀ n (R : List (Nat × Nat)), R.length = n → Foll [] R → ∀ c, 1 ≤ c → c ≤ 3 → 0 < cntR R c → ∀ zd, (docR R).atKey (keyL c) zd = .lit (.int .i64 ((cntR R c - 1 : Nat) : Int))
 | 0, R, h, _, c, _, _, hp, _ => by
  obtain rfl := List.eq_nil_of_length_eq_zero h
  simp [cntR] at hp
 | n + 1, R, h, hF, c, h1, h3, hp, zd => by
  have hne : R ≠ [] := by intro e; rw [e] at h; simp at h
  obtain ⟨S, r, rfl⟩ : ∃ S r, R = S ++ [r] := ⟨R.dropLast, R.getLast hne, (List.dropLast_concat_getLast hne).symm⟩
  have hl : S.length = n := by simpa using h
  have hFS : Foll [] S := fun j hj => by
   have := hF j (by simp; omega)
   rw [List.getElem_append_left hj, List.take_append_of_le_length (by omega)] at this
   exact this
  have hr := hF S.length (by simp)
  rw [List.getElem_append_right (Nat.le_refl _)] at hr
  simp only [Nat.sub_self, List.getElem_cons_zero, List.nil_append, List.take_append_of_le_length (Nat.le_refl _), List.take_length] at hr
  obtain ⟨r1, r3, r2⟩ := hr
  rw [docR_snoc, cntR_snoc]
  rw [cntR_snoc] at hp
  by_cases e : r.1 = c
  ·subst e
   rw [Maps.atKey_put_same (docR_map n S hl) (by unfold keyL; trivial), if_pos rfl, r2, Nat.add_sub_cancel]
  ·rw [if_neg e] at hp ⊢
   rw [Maps.atKey_put_other (keyL_ne h3 r3 (Ne.symm e))]
   exact docR_at n S hl hFS c h1 h3 hp zd
theorem load_raw {w : World} {X : Nat} {k n : Int} {s : ByteArray} (c0 : w.cell? ⟨X, 0, none⟩ = some (.int .i64 k)) (c1 : w.cell? ⟨X, 1, none⟩ = some (.int .i64 n)) (c2 : w.cell? ⟨X, 2, none⟩ = some (.string s)) : (loadVar 30 ⟨X, 0, none⟩).run Tryz.prog w = .ok (.agg #[.int .i64 k, .int .i64 n, .string s]) w := by
 unfold loadVar
 go_simp
theorem value_raw (n : Int) (w : World) : Calls Tryz.prog 52 #[.agg #[.iface 181 (.int .i64 n)]] w fun e w' => e = .returned (.agg #[.int .i64 1, .int .i64 n, .string ⟨#[]⟩]) ∧ Below w.heap.size w w' := by
 have hta : ∀ (xt : TypeId) (u : World), (Instr.typeAssert (.iface 181 (.int .i64 n)) xt 181 true).run Tryz.prog u = .ok (.tuple #[.int .i64 n, .bool true]) u := fun xt u => by
  simp [Instr.typeAssert, run_underlying Tryz.underlying181]
 have hb1 := (Below.refl w.heap.size w).alloc (Nat.le_refl _) (.cells #[.iface 181 (.int .i64 n)] 125)
 have s1 : (w.alloc (.cells #[.iface 181 (.int .i64 n)] 125)).heap.size = w.heap.size + 1 := by simp
 go_enter Tryz.func52, Tryz.ntmps52
 go_wp2_with fail
 generalize w.alloc _ = w1 at *
 rw [← s1]
 refine bodyPost_ret (results_cell1 rfl _ _ _ _ _ rfl (load_raw (World.cell?_alloc_new _ _ _ _) (World.cell?_alloc_new _ _ _ _) (World.cell?_alloc_new _ _ _ _))) rfl ?_
 exact ⟨rfl, hb1.alloc hb1.size _⟩
set_option maxHeartbeats 800000 in
theorem doc_get {w : World} {d o b m : Nat} {D : DataW Unit} (h : DocS w d o b m D) (s : ByteArray) (hs : s.size ≤ maxLen) {v : Int} (hat : ∀ zd, D.atKey (.string s.data.toList) zd = .lit (.int .i64 v)) :
  Calls Tryz.prog 31 #[.pointer (some ⟨d, o, none⟩), .string s] w fun e w' => e = .returned (.tuple #[.agg #[.int .i64 1, .int .i64 v, .string ⟨#[]⟩], .bool true]) ∧ Below w.heap.size w w' := by
 have hb1 := (Below.refl w.heap.size w).alloc (Nat.le_refl _) (.cells #[.int .i64 0, .int .i64 0, .string ⟨#[]⟩] 30)
 have x0 : (w.alloc (.cells #[.int .i64 0, .int .i64 0, .string ⟨#[]⟩] 30)).cell? ⟨w.heap.size, 0, none⟩ = some (.int .i64 0) := World.cell?_alloc_new _ _ _ _
 have x1 : (w.alloc (.cells #[.int .i64 0, .int .i64 0, .string ⟨#[]⟩] 30)).cell? ⟨w.heap.size, 1, none⟩ = some (.int .i64 0) := World.cell?_alloc_new _ _ _ _
 have x2 : (w.alloc (.cells #[.int .i64 0, .int .i64 0, .string ⟨#[]⟩] 30)).cell? ⟨w.heap.size, 2, none⟩ = some (.string ⟨#[]⟩) := World.cell?_alloc_new _ _ _ _
 have xf : ∀ j, (w.alloc (.cells #[.int .i64 0, .int .i64 0, .string ⟨#[]⟩] 30)).frozen? ⟨w.heap.size, j, none⟩ = false := fun j => World.frozen?_alloc_new _ _ _ _
 have s1 : w.heap.size < (w.alloc (.cells #[.int .i64 0, .int .i64 0, .string ⟨#[]⟩] 30)).heap.size := by simp
 replace h := h.keeps (Keeps.of_below (F := []) hb1) (by simp) (by simp)
 have hhas : Maps.has D (.string s.data.toList) = true := Maps.has_true_of_atKey hat
 have hne : ∀ u : World, (binOp .eql 76 (.pointer (some ⟨d, o, none⟩)) (.pointer none)).run Tryz.prog u = .ok (.bool false) u := fun u => by go_simp
 have HH := Lib.hid h
 clear h
 go_enter Tryz.func31, Tryz.ntmps31
 go_wp2_with fail
 generalize w.alloc _ = w1 at *
 refine (doc_has HH.out s hs).mono ?_
 rintro e w2 ⟨rfl, hb2⟩
 rw [hhas]
 have h2 := HH.out.keeps (Keeps.of_below (F := []) hb2) (by simp) (by simp)
 have hlk : (Instr.lookup 126 (.map (some b)) (.string s) false).run Tryz.prog w2 = .ok (.agg #[.iface 181 (.int .i64 v)]) w2 := by
  rcases doc_look h2.m s hs with ⟨hf, _⟩ | ⟨c, _, hat2, hrun⟩
  ·rw [hhas] at hf; cases hf
  ·have := (hat .nil).symm.trans (hat2 .nil)
   cases this
   exact hrun
 have c0 := h2.c0
 have y0 := (hb2.cell (p := ⟨w.heap.size, 0, none⟩) s1).trans x0
 have y1 := (hb2.cell (p := ⟨w.heap.size, 1, none⟩) s1).trans x1
 have y2 := (hb2.cell (p := ⟨w.heap.size, 2, none⟩) s1).trans x2
 have yf : ∀ j, w2.frozen? ⟨w.heap.size, j, none⟩ = false := fun j => (hb2.frozen (p := ⟨w.heap.size, j, none⟩) s1).trans (xf j)
 have s2 := Nat.lt_of_lt_of_le s1 hb2.size
 have HB := Lib.hid (hb1.trans (hb2.mono hb1.size))
 clear h2 x0 x1 x2 xf s1 hb1 hb2 HH
 go_wp2_with fail
 refine (value_raw v w2).mono ?_
 rintro e w3 ⟨rfl, hb3⟩
 have z0 := (hb3.cell (p := ⟨w.heap.size, 0, none⟩) s2).trans y0
 have z1 := (hb3.cell (p := ⟨w.heap.size, 1, none⟩) s2).trans y1
 have z2 := (hb3.cell (p := ⟨w.heap.size, 2, none⟩) s2).trans y2
 have zf : ∀ j, w3.frozen? ⟨w.heap.size, j, none⟩ = false := fun j => (hb3.frozen (p := ⟨w.heap.size, j, none⟩) s2).trans (yf j)
 have HB3 := Lib.hid (HB.out.trans (hb3.mono HB.out.size))
 clear y0 y1 y2 yf hb3 hlk
 go_wp2_with fail
 refine bodyPost_ret (results_cell2 rfl _ _ _ _ _ rfl (load_raw (k := 1) (n := v) (s := ⟨#[]⟩) ?_ ?_ ?_)) rfl ?_
 ·exact (World.cell?_setCell_other _ _ _ _ (by simp)).trans ((World.cell?_setCell_other _ _ _ _ (by simp)).trans (World.cell?_setCell_same _ _ _ z0))
 ·exact (World.cell?_setCell_other _ _ _ _ (by simp)).trans (World.cell?_setCell_same _ _ _ ((World.cell?_setCell_other _ _ _ _ (by simp)).trans z1))
 ·exact World.cell?_setCell_same _ _ _ ((World.cell?_setCell_other _ _ _ _ (by simp)).trans ((World.cell?_setCell_other _ _ _ _ (by simp)).trans z2))
 ·exact ⟨rfl, ((HB3.out.setCell (p := ⟨w.heap.size, 0, none⟩) (Nat.le_refl _) _).setCell (p := ⟨w.heap.size, 1, none⟩) (Nat.le_refl _) _).setCell (p := ⟨w.heap.size, 2, none⟩) (Nat.le_refl _) _⟩
def foldC (p : Nat) : List (Q × SB) :=
 [(qn 12, .bk 180 ([iN p, .p (qn 13) 0] ++ toldC (qn 2))),
  (qn 13, .bk 128 [.m (qn 14)]),
  (qn 14, .dm (9, 181, p) (qn 4) [])]
def docC (p : Nat) : List (Q × SB) :=
 [(qn 16, .bk 128 [.m (qn 17)]),
  (qn 17, .dm (9, 181, p) (qn 4) [])]
noncomputable def foldK (p : Nat) : Bool := runS s49 [.p (qn 1) 0] (strS p) (qn 20) (fin1 20 (.p (qn 12) 0) [(qn 1, qn 1)] (strS p ++ foldC p))
noncomputable def docK (p : Nat) : Bool := runS s50 [.p (qn 12) 0] (foldC p) (qn 20) (fin1 20 (.p (qn 16) 0) [] (docC p))
theorem strF_nd (p : Nat) : ndS (strS p ++ foldC p) = true := by cases p <;> rfl
theorem docC_nd (p : Nat) : ndS (docC p) = true := rfl
theorem foldC_noOp (p : Nat) : noOp (foldC p) = true := rfl
theorem strS_low (p : Nat) : ∀ y ∈ strS p, y.1.num < 10 := by
 intro y h1
 revert h1
 cases p <;> (intro h1; simp [strS, strL] at h1; rcases h1 with rfl | rfl | rfl | rfl | rfl <;> (dsimp only; decide))
theorem foldC_high (p : Nat) : ∀ y ∈ foldC p, 10 < y.1.num := by
 intro y h
 simp [foldC] at h
 rcases h with rfl | rfl | rfl <;> (dsimp only; decide)
theorem rel_p0 {ρ : Q → Loc} {N : Nat} {q : Q} {v : Value} (h : Rel ρ N (.p q 0) v) : v = adr (locOf ρ q) := rel_loc h
theorem live_of_mem {S : List (Q × SB)} (hn : ndS S = true) {e : Q × SB} (he : e ∈ S) : (mkT (mkS S)).get e.1 ≠ .no := by
 rw [ndS_get hn e he]
 cases e.2 <;> simp [SB.ob]
theorem str_agreed {w : World} {B : Nat} {a : Nat × Nat} {R : List (Nat × Nat)} {ρ : Q → Loc} (h : StrAt w B a R ρ) (hF : foldK R.length = true) :
  Calls Tryz.prog 49 #[adr a] w fun e w' => ∃ ρ', e = .returned (adr (locOf ρ' (qn 12))) ∧ StrAt w' B a R ρ' ∧ But (StrF R ρ) w w' ∧ (∀ b, StrF R ρ' b → StrF R ρ b ∨ w.heap.size ≤ b) ∧ EmbS Tryz.prog ρ' (foldC R.length) (qn 20) w' B ∧ (∀ b, Blk ρ' (foldC R.length) b → (StrF R ρ b ∨ w.heap.size ≤ b) ∧ ¬ StrF R ρ' b) ∧ (ρ' .e).mc (qn 4) = docR R := by
 have hargs : RelL ρ (qn 20).num [.p (qn 1) 0] [adr a] := by
  refine .cons _ _ _ _ ?_ .nil
  have := Rel.p (ρ := ρ) (N := (qn 20).num) (qn 1) 0 (by decide)
  rw [h.root.1, h.root.2] at this
  exact this
 refine (SoundF.run1 d49 (nx := qn 20) h.E (by decide) (by decide) (f0 := [(qn 1, qn 1)]) (by decide) (by decide) hargs hF).mono ?_
 rintro e w' ⟨v, ρ', rfl, hv, ET, tn, hst⟩
 have hnd := strF_nd R.length
 have s1 : strS R.length ⊆ strS R.length ++ foldC R.length := List.subset_append_left _ _
 have s2 : foldC R.length ⊆ strS R.length ++ foldC R.length := List.subset_append_right _ _
 have EA : EmbS Tryz.prog ρ' (strS R.length) (qn 20) w' B := EmbS.sub ET hnd s1
 have EC : EmbS Tryz.prog ρ' (foldC R.length) (qn 20) w' B := EmbS.sub ET hnd s2
 have hops : ∀ {x : Value} {c' s' : Nat}, OpsAt w x c' s' → OpsAt w' x c' s' := fun {x c' s'} hx => by
  refine hx.stay (tn.frame _ hx.lt (fun q hq e => ?_))
  exact EmbS.notOp h.E (strL_noOp ..) hx q hq e
 have hρ'e : ρ' .e = ρ .e := tn.e
 have hr1 : ρ' (qn 1) = ρ (qn 1) := hst _ List.mem_cons_self
 have hS : StrAt w' B a R ρ' := ⟨EA, by rw [hr1]; exact h.root, fun i hi => by rw [hρ'e]; exact ⟨(h.row i hi).1, (h.row i hi).2.1, hops (h.row i hi).2.2⟩, fun c h1 h3 => by rw [hρ'e]; exact h.told c h1 h3, by rw [hρ'e]; exact h.doc⟩
 have himg : ∀ q, (mkT (mkS (strS R.length ++ foldC R.length))).get q ≠ .no → Blk ρ (strS R.length) (ρ' q).blk ∨ w.heap.size ≤ (ρ' q).blk := fun q hq => by
  rcases tn.img q hq with ⟨r, h3, h4⟩ | h3
  ·exact .inl ⟨r, h3, h4.symm⟩
  ·exact .inr h3
 refine ⟨ρ', by rw [rel_p0 hv], hS, ⟨tn.os, tn.tape, tn.output, tn.size, fun b hb hn => tn.frame b hb (fun q hq e => hn (.inl ⟨q, hq, e⟩))⟩, fun b hb => ?_, EC, fun b hb => ⟨?_, ?_⟩, by rw [hρ'e]; exact h.doc⟩
 ·rcases hb with hb | hb
  ·obtain ⟨q, hq, rfl⟩ := Blk.sub hnd s1 hb
   exact (himg q hq).imp .inl id
  ·rw [hρ'e] at hb; exact .inl (.inr hb)
 ·obtain ⟨q, hq, rfl⟩ := Blk.sub hnd s2 hb
  exact (himg q hq).imp .inl id
 ·obtain ⟨q, hq, rfl⟩ := hb
  rintro (hb | ⟨i, hi, e⟩)
  ·obtain ⟨q1, hq1, e1⟩ := hb
   obtain ⟨x1, hx1, rfl, _⟩ := mkS_mem hq1
   obtain ⟨x2, hx2, rfl, _⟩ := mkS_mem hq
   have := ET.inj _ _ (live_of_mem hnd (s1 hx1)) (live_of_mem hnd (s2 hx2)) e1
   have n1 := strS_low R.length _ hx1
   have n2 := foldC_high R.length _ hx2
   rw [this] at n1
   omega
  ·exact EmbS.notOp EC (foldC_noOp _) (hS.row i hi).2.2 q hq e
theorem fold_doc {w : World} {B p : Nat} {ρ : Q → Loc} {D : DataW Unit} (E : EmbS Tryz.prog ρ (foldC p) (qn 20) w B) (hD : (ρ .e).mc (qn 4) = D) (hK : docK p = true) :
  Calls Tryz.prog 50 #[adr (locOf ρ (qn 12))] w fun e w' => ∃ d o b, e = .returned (.pointer (some ⟨d, o, none⟩)) ∧ DocS w' d o b p D ∧ But (Blk ρ (foldC p)) w w' := by
 have hargs : RelL ρ (qn 20).num [.p (qn 12) 0] [adr (locOf ρ (qn 12))] := .cons _ _ _ _ (Rel.p (ρ := ρ) (N := (qn 20).num) (qn 12) 0 (by decide)) .nil
 refine (SoundF.run1 d50 (nx := qn 20) E (by decide) (by decide) (f0 := []) (by decide) (by decide) hargs hK).mono ?_
 rintro e w' ⟨v, ρ', rfl, hv, ET, tn, _⟩
 have hnd := docC_nd p
 have hm : (qn 16, SB.bk 128 [.m (qn 17)]) ∈ docC p := by simp [docC]
 have hm2 : (qn 17, SB.dm (9, 181, p) (qn 4) []) ∈ docC p := by simp [docC]
 obtain ⟨x, c1, c2, _⟩ := EmbS.atq ET hnd hm (i := 0) (y := .m (qn 17)) rfl
 have hx : x = .map (some (ρ' (qn 17)).blk) := by cases c2; rfl
 subst hx
 have hrow := ET.row (qn 16) _ _ _ (ndS_get hnd _ hm)
 obtain ⟨sz, r1, r2, r3, r4⟩ := hrow.at_
 have hdm := ET.dm (qn 17) _ _ _ (ndS_get hnd _ hm2)
 have hmc : dmC ρ' (qn 4) [] = D := by
  unfold dmC
  rw [tn.e]
  exact hD
 refine ⟨(ρ' (qn 16)).blk, (ρ' (qn 16)).base, (ρ' (qn 17)).blk, ?_, ⟨?_, c1, ?_, ?_, ?_⟩, ⟨tn.os, tn.tape, tn.output, tn.size, fun b hb hn => tn.frame b hb (fun q hq e => hn ⟨q, hq, e⟩)⟩⟩
 ·have := rel_p0 hv
  rw [this]
  rfl
 ·exact World.block_lt_of_cell? w' _ c1
 ·have r2 : (ρ' (qn 16)).base + 1 ≤ sz := r2
  exact r4 _ (by omega)
 ·rw [← hmc]
  exact DmAt.own.1 hdm.2
 ·intro e
  have := ET.inj _ _ (live_of_mem hnd hm2) (live_of_mem hnd hm) e
  exact absurd (show qn 17 = qn 16 from this) (by decide)
section
variable {w : World} {B c n : Nat} {a : Nat × Nat} {R : List (Nat × Nat)} {x : CliX}
theorem cli_agreed (h : CliAt w B a c n R x) (hge : ∀ b, CliF a R x b → B ≤ b) (hF : foldK R.length = true) (hK : docK R.length = true) :
  Calls Tryz.prog 30 #[.pointer (some ⟨a.1, a.2, none⟩)] w fun e w' => ∃ d o b, e = .returned (.pointer (some ⟨d, o, none⟩)) ∧ DocS w' d o b R.length (docR R) ∧ ∃ x', CliAt w' B a c n R x' ∧ But (CliF a R x) w w' ∧ ∀ b, CliF a R x' b → CliF a R x b ∨ w.heap.size ≤ b := by
 have hne := fun u => nil_cli u ⟨a.1, a.2, none⟩
 have hkc := h.kc
 have H1 := Lib.hid (queue_stream h)
 have H2 := Lib.hid (str_agreed h.S hF)
 unfold adr at H2
 have H := Lib.hid (And.intro h (And.intro hge hK))
 clear h hge hF hK
 go_enter Tryz.func30, Tryz.ntmps30
 go_wp2_with fail
 refine (H1.out).mono ?_
 rintro e w' ⟨rfl, rfl⟩
 rename World => w
 go_wp2_with fail
 refine (H2.out).mono ?_
 rintro e w1 ⟨ρ', rfl, S1, b1, f1, E1, dis, hmc⟩
 have HD := Lib.hid (fold_doc E1 hmc H.out.2.2)
 unfold adr at HD
 have HS := Lib.hid (And.intro S1 (And.intro b1 (And.intro f1 dis)))
 clear S1 b1 f1 E1 dis hmc
 go_wp2_with fail
 refine (HD.out).mono ?_
 rintro e w2 ⟨d, o, b, rfl, hdoc, b2⟩
 have H3 := Lib.hid (And.intro hdoc b2)
 clear hdoc b2
 go_wp2_with fail
 go_ret
 obtain ⟨hdoc, b2⟩ := H3.out
 obtain ⟨S1, b1, f1, dis⟩ := HS.out
 obtain ⟨h, hge, _⟩ := H.out
 refine ⟨d, o, b, rfl, hdoc, _, h.idle hge (b1.trans b2 (fun b hb hf => ?_)) (ρ' := ρ') (S1.stay b2.size (fun b hb => b2.block b (S1.lt hb) (fun hf => (dis b hf).2 hb)) (fun b hB => b2.block b (Nat.lt_of_lt_of_le hB S1.E.base) (fun hf => ?_))) f1⟩
 ·exact (dis b hf).1.elim id (fun e => by omega)
 ·rcases (dis b hf).1 with e | e
  ·exact absurd (hge b (.inr (.inr (.inr e)))) (by omega)
  ·have := h.S.E.base
   omega
end
set_option maxHeartbeats 1600000 in
theorem t_agrees {w : World} {B n : Nat} {g : Geo} (hF : ∀ k, k ≤ 24 → foldK k = true ∧ docK k = true) (hn : n ≤ 8) (hn1 : 1 ≤ n) (h : Rested w B n g) {c : Nat} (h1 : 1 ≤ c) (h3 : c ≤ 3) :
  Calls Tryz.prog 15 #[adr g.t, .int .i64 2, .string (keyS c), .int .i64 ((n : Int) - 1)] w fun e w' => e = .returned (.bool true) ∧ Rested w' B n g := by
 obtain ⟨R, p, ⟨y, hA⟩, I, hFin⟩ := h
 have hl := I.len
 obtain ⟨fc, _⟩ := hFin c h1 h3
 obtain ⟨_, f2⟩ := hFin 2 (by omega) (by omega)
 have hC := hA.C 2 (by omega) (by omega)
 have ht : R.take (p 2) = R := by rw [f2, List.take_length]
 have hat : ∀ zd, (docR R).atKey (keyL c) zd = .lit (.int .i64 ((n : Int) - 1)) := fun zd => by
  have := docR_at _ R rfl I.wf c h1 h3 (by omega) zd
  rw [fc] at this
  rw [this]
  congr 2
  omega
 have hge : ∀ b, CliF (g.ca 2) (R.take (p 2)) (y.xs 2) b → B ≤ b := fun b hb => hA.ge 2 (by omega) b (by rw [Ft_c (by omega) (by omega)]; exact hb)
 rw [ht] at hC hge
 have HCl := Lib.hid (wld_client hA.W (id := 2) (by omega) (by omega))
 rw [cliV_of (by omega)] at HCl
 have HAg := Lib.hid (cli_agreed hC hge (hF _ (by omega)).1 (hF _ (by omega)).2)
 have hne := fun u => nil_cli u ⟨(g.ca 2).1, (g.ca 2).2, none⟩
 have c0 := hA.T.c0
 have HA := Lib.hid (And.intro hA (And.intro I hFin))
 have HT := Lib.hid (And.intro ht f2)
 have HAT := Lib.hid hat
 clear hA I hFin hC ht hat hge f2
 unfold adr at c0 HCl ⊢
 have hks : (keyS c).size ≤ maxLen := by show 2 ≤ _; decide
 generalize hkc : keyS c = ks at *
 go_enter Tryz.func15, Tryz.ntmps15
 go_wp2_with fail
 refine (HCl.out).mono ?_
 rintro e w' ⟨rfl, rfl⟩
 rename World => w
 go_wp2_with fail
 refine (HAg.out).mono ?_
 rintro e w1 ⟨d, o, b, rfl, hdoc, x', hC', hb, hf⟩
 have hW1 : Rested w1 B n g := by
  obtain ⟨hA, I, hFin⟩ := HA.out
  have e2 : (fun d => if d = 2 then p 2 else p d) = p := funext fun d => by by_cases e : d = 2 <;> simp [e]
  have := hA.cli (c := 2) (by omega) (by omega) (q := p 2) (x' := x') (by rw [HT.out.1]; exact hC') (by rw [HT.out.1]; exact hb) (by rw [HT.out.1]; exact hf)
  rw [e2] at this
  exact ⟨R, p, ⟨_, this⟩, I, hFin⟩
 have HW1 := Lib.hid hW1
 have HG := Lib.hid (doc_get hdoc ks hks (v := (n : Int) - 1) (fun zd => by rw [← hkc]; exact HAT.out zd))
 clear hdoc hC' hb hf hW1
 go_wp2_with fail
 refine (HG.out).mono ?_
 rintro e w2 ⟨rfl, hb2⟩
 have HW2 : Hid (Rested w2 B n g) := Lib.hid (by
  obtain ⟨R', p', hW, I, hFin⟩ := HW1.out
  exact ⟨R', p', hW.below hb2, I, hFin⟩)
 clear hb2
 go_wp2_with fail
 go_ret
 refine ⟨rfl, ?_⟩
 obtain ⟨R', p', hW, I, hFin⟩ := HW2.out
 exact ⟨R', p', hW.below ((Below.refl _ _).alloc (Nat.le_refl _) _), I, hFin⟩
end Go.Proofs.YtpchmdddkpocgaaGreatDoor
namespace Go.Proofs.YtpchmdddkpocgaaGreatDoor
set_option maxRecDepth 100000
set_option linter.unusedVariables false
set_option linter.unusedSimpArgs false
theorem ev_begun : s4 [] h00 (fun y _ => isT y) = true := by kernel_rfl
theorem pre_1 : preK 1 = true := by kernel_rfl
theorem pre_2 : preK 2 = true := by kernel_rfl
theorem pre_3 : preK 3 = true := by kernel_rfl
theorem pre_4 : preK 4 = true := by kernel_rfl
theorem pre_5 : preK 5 = true := by kernel_rfl
theorem pre_6 : preK 6 = true := by kernel_rfl
theorem pre_7 : preK 7 = true := by kernel_rfl
theorem pre_8 : preK 8 = true := by kernel_rfl
theorem pre_all : ∀ n, 1 ≤ n → n ≤ 8 → preK n = true
 | 1, _, _ => pre_1
 | 2, _, _ => pre_2
 | 3, _, _ => pre_3
 | 4, _, _ => pre_4
 | 5, _, _ => pre_5
 | 6, _, _ => pre_6
 | 7, _, _ => pre_7
 | 8, _, _ => pre_8
end Go.Proofs.YtpchmdddkpocgaaGreatDoor
namespace Go.Proofs.YtpchmdddkpocgaaGreatDoor
set_option maxRecDepth 100000
set_option linter.unusedVariables false
set_option linter.unusedSimpArgs false
open Go.ChangeShapes Go.WideShapes Go.ChangeAt Go.RowKit
theorem relL_of {ρ : Q → Loc} {N : Nat} : ∀ (ys : List AV) (us : List Value), ys.length = us.length → (∀ (j : Nat) (y : AV) (u : Value), ys[j]? = some y → us[j]? = some u → Rel ρ N y u) → RelL ρ N ys us
 | [], [], _, _ => .nil
 | [], _ :: _, h, _ => by cases h
 | _ :: _, [], h, _ => by cases h
 | a :: ys, u :: us, hl, hx => .cons _ _ _ _ (hx 0 a u rfl rfl) (relL_of ys us (by simpa using hl) (fun j y u h1 h2 => hx (j + 1) y u h1 h2))
theorem opC_relL {ρ : Q → Loc} {N c s : Nat} (hc : c ≤ 3) : RelL ρ N (opC c s) (opV c s) :=
 relL_of _ _ rfl (fun j y u h1 h2 => opC_rel hc j (List.getElem?_eq_some_iff.1 h1).1 y u h1 h2)
def Wri (w0 w : World) (B n : Nat) (v : Value) (l : List (Nat × Nat)) : Prop := ∃ (ρ : Q → Loc) (h : Hp) (t : AV), Emb Tryz.prog ρ h w B ∧ Rel ρ h.nx.num t v ∧ wrK n t l h = true ∧ Below B w0 w
theorem step_below {P : Program} {ρ ρ' : Q → Loc} {h h' : Hp} {w w' : World} {B : Nat} (E : Emb P ρ h w B) (s : Step ρ h w ρ' h' w') : Below B w w' :=
 ⟨s.os, s.tape, s.output, s.size, fun b hb => s.frame b (Nat.lt_of_lt_of_le hb E.base) fun q hq e => absurd (E.ge q hq) (by omega)⟩
theorem first_made {w : World} (hT : Tabs Tryz.prog w.heap.size w) {n : Nat} (hn1 : 1 ≤ n) (hn8 : n ≤ 8) : Calls Tryz.prog 6 #[.int .i64 1, .int .i64 3] w fun e w' => ∃ v, e = .returned v ∧ ∃ (ρ : Q → Loc) (h : Hp) (t : AV), Emb Tryz.prog ρ h w' w.heap.size ∧ Rel ρ h.nx.num t v ∧ leadK n t h = true ∧ Below w.heap.size w w' := by
 have E0 := emb00 Tryz.prog (fun _ => ⟨0, 0, 0, 0, fun _ => .empty, fun _ _ => .bool false, fun _ => .nil⟩) w hT
 refine (SoundF.sound d6 _ h00 w w.heap.size [iN 1, iN 3] [.int .i64 1, .int .i64 3] (fun t h1 => leadK n t h1) E0 (.cons _ _ _ _ (iN_rel 1) (.cons _ _ _ _ (iN_rel 3) .nil)) (pre_all n hn1 hn8)).mono fun e w' hl => ?_
 cases e with
 | returned v =>
  obtain ⟨ρ1, h1, y, E1, s, hr, hk⟩ := hl
  exact ⟨v, rfl, ρ1, h1, y, E1, hr, hk, step_below E0 s⟩
 | _ => exact hl.elim
theorem first_lead {w0 w : World} {B n : Nat} {ρ : Q → Loc} {h : Hp} {t : AV} {v : Value} (E : Emb Tryz.prog ρ h w B) (hr : Rel ρ h.nx.num t v) (hk : leadK n t h = true) (hb : Below B w0 w) : Calls Tryz.prog 7 #[v, .int .i64 1] w fun e w' => e = .returned (.bool true) ∧ Wri w0 w' B n v (wrAll n) := by
 refine (SoundF.sound d7 ρ h w B [t, iN 1] [v, .int .i64 1] (fun y h2 => andB (isT y) (wrK n t (wrAll n) h2)) E (.cons _ _ _ _ hr (.cons _ _ _ _ (iN_rel 1) .nil)) hk).mono fun e w' hl => ?_
 cases e with
 | returned u =>
  obtain ⟨ρ1, h1, y, E1, s, hr1, hk1⟩ := hl
  obtain ⟨k1, k2⟩ := andB_spec hk1
  refine ⟨by rw [isT_spec hr1 k1], ρ1, h1, t, E1, hr.mono s.ext s.nx, k2, hb.trans (step_below E s)⟩
 | _ => exact hl.elim
theorem first_write {w0 w w1 : World} {B n c i : Nat} {v : Value} {l : List (Nat × Nat)} (hc : c ≤ 3) (h : Wri w0 w B n v ((c, i) :: l)) (hb : Below w.heap.size w w1) : Calls Tryz.prog 8 #[v, .int .i64 c, .slice (some ⟨w1.heap.size, 0, none⟩) 1 1] (w1.alloc (.cells (opV c i).toArray 32)) fun e w' => (∃ u, e = .returned u) ∧ Wri w0 w' B n v l := by
 obtain ⟨ρ, h, t, E, hr, hk, hbw⟩ := h
 have hk : nbK 32 9 (opC c i) h (fun q h' => s8 [t, iN c, .sl q 0 1 (.k 1)] h' fun _ h'' => wrK n t l h'') = true := hk
 obtain ⟨vt, hv, hk2⟩ := nbK_spec (by rfl) hk
 have E1 : Emb Tryz.prog ρ h w1 B := E.stay hb.size (fun q hq => hb.block _ (E.blk_lt' hq)) (fun b hB => hb.block b (Nat.lt_of_lt_of_le hB E.base))
 have hal := (Below.refl w1.heap.size w1).alloc (Nat.le_refl _) (.cells (opV c i).toArray 32)
 have E2 : Emb Tryz.prog ρ h (w1.alloc (.cells (opV c i).toArray 32)) B := E1.stay hal.size (fun q hq => hal.block _ (E1.blk_lt' hq)) (fun b hB => hal.block b (Nat.lt_of_lt_of_le hB E1.base))
 have E3 := E2.name (b := w1.heap.size) (c := (opV c i).toArray) (ty := 32) (heap_alloc_new w1 _) E1.base (fun q hq => Nat.ne_of_lt (E1.blk_lt' hq)) (fun u hu => opF_one (c, i) u (by rw [List.toList_toArray] at hu; exact hu)) (by rw [cells_op]; rfl) (cs := opC c i) (v := vt) (by rfl) hv (by rw [List.toList_toArray]; exact opC_relL hc)
 have hme : ∀ r, r.num < h.nx.num → upd ρ h.nx { blk := w1.heap.size, base := 0, cap := 1 } r = ρ r := upd_lt ρ h.nx _
 have hsucc : h.nx.num < h.nx.succ.num := by rw [Q.num_succ]; omega
 refine (SoundF.sound d8 _ _ _ B [t, iN c, .sl h.nx 0 1 (.k 1)] [v, .int .i64 c, .slice (some ⟨w1.heap.size, 0, none⟩) 1 1] (fun _ h'' => wrK n t l h'') E3 (.cons _ _ _ _ (hr.mono hme (Nat.le_of_lt hsucc)) (.cons _ _ _ _ (iN_rel c) (.cons _ _ _ _ ?_ .nil))) hk2).mono fun e w' hl => ?_
 ·have := Rel.slk (ρ := upd ρ h.nx { blk := w1.heap.size, base := 0, cap := 1 }) (N := h.nx.succ.num) h.nx 0 1 1 hsucc (Nat.le_refl _)
  rw [upd_same] at this
  exact this
 ·cases e with
  | returned u =>
   obtain ⟨ρ1, h1, y, E4, s, hr1, hk1⟩ := hl
   refine ⟨⟨u, rfl⟩, ρ1, h1, t, E4, (hr.mono hme (Nat.le_of_lt hsucc)).mono s.ext s.nx, hk1, ((hbw.trans (hb.mono E.base)).trans (hal.mono E1.base)).trans (step_below E3 s)⟩
  | _ => exact hl.elim
theorem inv0 (n : Nat) : InvR n [] (fun _ => 0) := ⟨fun j hj => absurd hj (by simp), fun _ => Nat.le_refl _, fun c _ _ => Nat.zero_le _, fun c _ _ => Nat.zero_le _⟩
theorem first_going {w0 w : World} {B n : Nat} {v : Value} (h : Wri w0 w B n v []) (hn1 : 1 ≤ n) (hn8 : n ≤ 8) : ∃ g : Geo, v = adr g.t ∧ g.o = w0 ∧ Going w B n g 0 := by
 obtain ⟨ρ, h, t, E, hr, hk, hbw⟩ := h
 have hk : finE n t h = true := hk
 obtain ⟨q, o, rfl, hk1⟩ := AV.on_p_spec (show t.on_p _ = true from hk)
 obtain ⟨h0, hk2⟩ := ifT_eq hk1
 obtain ⟨k1, k2⟩ := andB_spec hk2
 rw [matchS_eq] at k2
 obtain ⟨ρ1, E1, hc, _⟩ := match_sound (nx := qn 600) E (okK_spec k1) (by decide) (by rw [qn_num]) k2
 have hq : ρ1 (qn 101) = ρ q := (hc.eq (qn 101, q) List.mem_cons_self).1
 obtain ⟨g, g1, g2, hW⟩ := first_all E1 hbw hn1 hn8
 refine ⟨g, ?_, g2, [], _, hW, inv0 n, prog0⟩
 have h0 : o = 0 := h0
 subst h0
 rw [rel_loc hr, g1]
 unfold locOf
 rw [hq]
def smZ (x k : Int) : Int := if x.tmod k < 0 then -(x.tmod k) else x.tmod k
theorem tmod_lt (x k : Int) (hk : 0 < k) : -k < x.tmod k ∧ x.tmod k < k := by
 have h1 := Int.tmod_lt_of_pos x hk
 have h2 := Int.tmod_lt_of_pos (-x) hk
 rw [Int.neg_tmod] at h2
 omega
theorem smZ_lt (x k : Int) (hk : 0 < k) : 0 ≤ smZ x k ∧ smZ x k < k := by
 have := tmod_lt x k hk
 unfold smZ
 split <;> omega
theorem small_walk (x k : Int) (hk : 0 < k) (hk2 : k ≤ 100) (w : World) : Calls Tryz.prog 5 #[.int .i64 x, .int .i64 k] w fun e w' => (∃ n : Nat, e = .returned (.int .i64 n) ∧ (n : Int) < k) ∧ w' = w := by
 have hb := tmod_lt x k hk
 have hs := smZ_lt x k hk
 have hne : ¬ k = 0 := by omega
 have hw : wrap64 (x.tmod k) = x.tmod k := IntWalk.wrap64_in _ (by omega)
 have hw2 : wrap64 (-(x.tmod k)) = -(x.tmod k) := IntWalk.wrap64_in _ (by omega)
 have hn : ∃ n : Nat, (n : Int) = smZ x k := ⟨(smZ x k).toNat, by omega⟩
 obtain ⟨n, hn⟩ := hn
 unfold smZ at hn hs
 go_enter Tryz.func5, Tryz.ntmps5
 go_wp2
 all_goals rename_i h
 ·rw [if_pos h] at hn hs
  go_ret
  exact ⟨⟨n, by rw [hn]; rfl, by omega⟩, rfl⟩
 ·rw [if_neg (by omega)] at hn hs
  go_ret
  exact ⟨⟨n, by rw [hn]; rfl, by omega⟩, rfl⟩
theorem RI.below {w w' : World} {v : Value} {l : List Int} (h : RI w v l) (hb : Below w.heap.size w w') : RI w' v l := Reads.below h hb rfl
theorem wrS_len (c : Nat) : ∀ n, (wrS c n).length = n
 | 0 => rfl
 | n + 1 => by show (wrS c n ++ _).length = _; rw [List.length_append, wrS_len c n]; rfl
theorem wrS_get (c : Nat) : ∀ n i, i < n → (wrS c n)[i]? = some (c, i)
 | 0, _, h => absurd h (by omega)
 | n + 1, i, h => by
  show (wrS c n ++ [(c, n)])[i]? = _
  by_cases e : i < n
  ·rw [List.getElem?_append_left (by rw [wrS_len]; exact e)]
   exact wrS_get c n i e
  ·have e : i = n := by omega
   subst e
   rw [List.getElem?_append_right (by rw [wrS_len]; exact Nat.le_refl _), wrS_len, Nat.sub_self]
   rfl
def tlW (n : Nat) : Nat → List (Nat × Nat)
 | 1 => wrS 2 n ++ wrS 3 n
 | 2 => wrS 3 n
 | _ => []
def remW (n c i : Nat) : List (Nat × Nat) := (wrS c n).drop i ++ tlW n c
theorem remW_step (n c i : Nat) (h : i < n) : remW n c i = (c, i) :: remW n c (i + 1) := by
 unfold remW
 have hl : i < (wrS c n).length := by rw [wrS_len]; exact h
 rw [List.drop_eq_getElem_cons hl]
 have : (wrS c n)[i] = (c, i) := by
  have h1 := wrS_get c n i h
  rw [List.getElem?_eq_getElem hl] at h1
  exact Option.some.inj h1
 rw [this]
 rfl
theorem remW_end (n c : Nat) (h1 : 1 ≤ c) (h3 : c ≤ 2) : remW n c n = remW n (c + 1) 0 := by
 have e : (wrS c n).drop n = [] := List.drop_of_length_le (by rw [wrS_len]; exact Nat.le_refl _)
 unfold remW
 rw [e]
 match c, h1, h3 with
 | 1, _, _ => rfl
 | 2, _, _ => show wrS 3 n = wrS 3 n ++ []; rw [List.append_nil]
theorem remW_last (n : Nat) : remW n 3 n = [] := by
 have e : (wrS 3 n).drop n = [] := List.drop_of_length_le (by rw [wrS_len]; exact Nat.le_refl _)
 unfold remW
 rw [e]
 rfl
def remO (n : Nat) : Nat → List (Nat × Nat)
 | 4 => []
 | c => remW n c 0
theorem remO_at (n c : Nat) (h : c ≤ 3) : remO n c = remW n c 0 := by
 unfold remO
 split
 ·omega
 ·rfl
theorem remO_end (n c : Nat) (h1 : 1 ≤ c) (h3 : c ≤ 3) : remW n c n = remO n (c + 1) := by
 by_cases e : c = 3
 ·subst e; exact remW_last n
 ·rw [remO_at n (c + 1) (by omega)]; exact remW_end n c h1 (by omega)
theorem cntR_next {R : List (Nat × Nat)} (h : Foll [] R) (i : Nat) (hi : i < R.length) : 1 ≤ R[i].1 ∧ R[i].1 ≤ 3 ∧ R[i].2 = cntR (R.take i) R[i].1 + 1 ∧ ∀ d, cntR (R.take (i + 1)) d = if d = R[i].1 then cntR (R.take i) d + 1 else cntR (R.take i) d := by
 obtain ⟨a1, a2, a3⟩ := h i hi
 rw [List.nil_append] at a3
 refine ⟨a1, a2, a3, fun d => ?_⟩
 rw [List.take_succ_eq_append_getElem hi, cntR_snoc]
 by_cases e : d = R[i].1
 ·rw [if_pos e, if_pos e.symm]
 ·rw [if_neg e, if_neg (Ne.symm e), Nat.add_zero]
theorem Going.bel {w : World} {B n k : Nat} {g : Geo} (h : Going w B n g k) : Below B g.o w := by
 obtain ⟨R, p, ⟨y, hA⟩, I, hP⟩ := h
 exact hA.bel
theorem Rested.below {w w' : World} {B n : Nat} {g : Geo} (h : Rested w B n g) (hb : Below w.heap.size w w') : Rested w' B n g := by
 obtain ⟨R, p, hW, I, hF⟩ := h
 exact ⟨R, p, hW.below hb, I, hF⟩
theorem Rested.bel {w : World} {B n : Nat} {g : Geo} (h : Rested w B n g) : Below B g.o w := by
 obtain ⟨R, p, ⟨y, hA⟩, I, hF⟩ := h
 exact hA.bel
structure LastAt (w : World) (A : Nat) (f : Nat → Nat) : Prop where
 lt : A < w.heap.size
 c : ∀ d, 1 ≤ d → d ≤ 3 → w.cell? ⟨A, d, none⟩ = some (.int .i64 (f d))
 fr : ∀ d, w.frozen? ⟨A, d, none⟩ = false
theorem LastAt.stay {w w' : World} {A : Nat} {f : Nat → Nat} (h : LastAt w A f) (hb : Below w.heap.size w w') : LastAt w' A f :=
 ⟨Nat.lt_of_lt_of_le h.lt hb.size, fun d h1 h3 => (hb.cell (p := ⟨A, d, none⟩) h.lt).trans (h.c d h1 h3), fun d => (World.frozen?_of_block (w := w) (a := ⟨A, d, none⟩) (hb.block _ h.lt)).trans (h.fr d)⟩
theorem LastAt.new (w : World) (T : TypeId) : LastAt (w.alloc (.cells #[.int .i64 0, .int .i64 0, .int .i64 0, .int .i64 0] T)) w.heap.size (fun _ => 0) :=
 ⟨by simp, fun d h1 h3 => by
  obtain rfl | rfl | rfl : d = 1 ∨ d = 2 ∨ d = 3 := by omega
  all_goals exact World.cell?_alloc_new _ _ _ _, fun _ => World.frozen?_alloc_new _ _ _ _⟩
theorem LastAt.set {w : World} {A d : Nat} {f : Nat → Nat} (h : LastAt w A f) (h1 : 1 ≤ d) (h3 : d ≤ 3) : LastAt (w.setCell ⟨A, d, none⟩ (.int .i64 ((f d + 1 : Nat) : Int))) A (fun e => if e = d then f e + 1 else f e) := by
 refine ⟨by rw [setCell_size]; exact h.lt, fun e e1 e3 => ?_, fun e => by rw [World.frozen?_setCell]; exact h.fr e⟩
 by_cases he : e = d
 ·subst he
  rw [if_pos rfl]
  exact World.cell?_setCell_same _ _ _ (h.c e e1 e3)
 ·rw [if_neg he]
  exact (World.cell?_setCell_other _ _ _ _ (by simp)).trans (h.c e e1 e3)
theorem conv_one (w : World) (d : UInt8) : (convert 34 9 (.slice (some ⟨w.heap.size, 0, none⟩) 1 1)).run Tryz.prog (w.alloc (.cells #[.int .u8 (d.toNat : Int)] 5)) = .ok (.string ⟨#[d]⟩) (w.alloc (.cells #[.int .u8 (d.toNat : Int)] 5)) :=
 run_string_of 34 9 5 Tryz.underlying34 Tryz.underlying5 Tryz.underlying9 (l := [d]) ⟨_, _, rfl, Nat.le_refl _, by decide, fun _ => ⟨_, _, rfl, fun j hj => by
  obtain rfl : j = 0 := by simpa using hj
  exact World.cell?_alloc_new w _ _ 0⟩⟩
theorem key_1 : (⟨#[107]⟩ : ByteArray) ++ ⟨#[49]⟩ = keyS 1 := rfl
theorem key_2 : (⟨#[107]⟩ : ByteArray) ++ ⟨#[50]⟩ = keyS 2 := rfl
theorem key_3 : (⟨#[107]⟩ : ByteArray) ++ ⟨#[51]⟩ = keyS 3 := rfl
theorem top_put (s : ByteArray) (i : Int) (w : World) : Calls Tryz.prog 9 #[.string s, .int .i64 i] w fun e w' => e = .returned (.agg #[.int .i64 1, .string s, .int .i64 1, .int .i64 i, .string ⟨#[]⟩, .int .i64 0, .int .i64 0, .string ⟨#[]⟩, .int .i64 0]) ∧ Below w.heap.size w w' := by
 go_enter Tryz.func9, Tryz.ntmps9
 go_wp2_with fail
 have hl : (loadVar 32 ⟨w.heap.size, 0, none⟩).run Tryz.prog (w.alloc (.cells #[.int .i64 1, .string s, .int .i64 1, .int .i64 i, .string ⟨#[]⟩, .int .i64 0, .int .i64 0, .string ⟨#[]⟩, .int .i64 0] 32)) = .ok (.agg #[.int .i64 1, .string s, .int .i64 1, .int .i64 i, .string ⟨#[]⟩, .int .i64 0, .int .i64 0, .string ⟨#[]⟩, .int .i64 0]) (w.alloc (.cells #[.int .i64 1, .string s, .int .i64 1, .int .i64 i, .string ⟨#[]⟩, .int .i64 0, .int .i64 0, .string ⟨#[]⟩, .int .i64 0] 32)) := by
  unfold loadVar
  go_simp
 refine bodyPost_ret (results_cell1 rfl _ _ _ _ _ rfl hl) rfl ?_
 exact ⟨rfl, (Below.refl _ _).alloc (Nat.le_refl _) _⟩
end Go.Proofs.YtpchmdddkpocgaaGreatDoor
namespace Go.Proofs.YtpchmdddkpocgaaGreatDoor
set_option maxRecDepth 100000
set_option linter.unusedVariables false
set_option linter.unusedSimpArgs false
noncomputable def allU (p : Nat → Bool) (n : Nat) : Bool := Nat.rec true (fun k r => cond (p k) r false) n
theorem allU_spec {p : Nat → Bool} : ∀ {n : Nat}, allU p n = true → ∀ k, k < n → p k = true
 | 0, _, _, h => absurd h (by omega)
 | n + 1, h, k, hk => by
  have h : cond (p n) (allU p n) false = true := h
  cases e : p n with
  | false => rw [e] at h; cases h
  | true =>
   rw [e] at h
   by_cases hkn : k = n
   ·subst hkn; exact e
   ·exact allU_spec h k (by omega)
noncomputable def hiK (a : Nat) (p : Nat → Bool) (k : Nat) : Bool := cond (Nat.ble a k) (p k) true
noncomputable def pbK (c s k : Nat) : Bool := cond (Nat.ble s k) (cond (pushK c s k) (backK c s k) false) true
noncomputable def tbK (c s k : Nat) : Bool := cond (Nat.ble s k) (cond (toldK c s k) (toldB c s k) false) true
noncomputable def obK (c t k : Nat) : Bool := cond (Nat.ble t (Nat.succ k)) (cond (oneK k c t) (cond (oneB k c t) (putK k c t) false) false) true
noncomputable def abK (m k : Nat) : Bool := cond (Nat.ble (Nat.add k m) 24) (cond (appK k m) (syncK k m) false) true
noncomputable def xbK (k : Nat) : Bool := cond (fireK k) (cond (copyK k) (cond (copyM k) (cond (getK k) (cond (foldK k) (docK k) false) false) false) false) false
theorem cond_and {a b : Bool} (h : cond a b false = true) : a = true ∧ b = true := by cases a <;> simp_all
theorem cond_le {a b : Nat} {p : Bool} (h : cond (Nat.ble a b) p true = true) (hab : a ≤ b) : p = true := by rw [Nat.ble_eq_true_of_le hab] at h; exact h
theorem allU_two {p : Nat → Bool} {a n : Nat} (h1 : allU p a = true) (h2 : allU (hiK a p) n = true) : ∀ k, k < n → p k = true := fun k hk => by
 by_cases h : a ≤ k
 ·exact cond_le (allU_spec h2 k hk) h
 ·exact allU_spec h1 k (by omega)
end Go.Proofs.YtpchmdddkpocgaaGreatDoor
