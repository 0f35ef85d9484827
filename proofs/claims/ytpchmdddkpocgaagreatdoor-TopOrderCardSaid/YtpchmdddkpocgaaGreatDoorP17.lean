/-
  No claim by itself: conf.Decode of an opaque text, maps.Copy and do over documents' maps are sound. No condition.
-/
import Derived.Test.YtpchmdddkpocgaaGreatDoorP16
import Derived.Test.YtpchmdddkpocgaaGreatDoorP11
namespace Go.Proofs.YtpchmdddkpocgaaGreatDoor
set_option linter.unusedVariables false
set_option linter.unusedSimpArgs false
open Go.RowKit Go.Maps Go.MapKept Go.ChangeMaps
theorem confF_sound {o : FS} (ho : SoundF Tryz.prog 154 o) : SoundF Tryz.prog 154 (confF o) := by
 refine arm1_sound confG_det (fun ρ h w B s v k E hx hk => ?_) ho
 obtain ⟨q, i, rfl, h1⟩ := Sy.on_sv_spec hk
 obtain ⟨hi, h2⟩ := ifT_le h1
 cases hx with
 | sv _ _ _ h0 hv hy =>
  obtain ⟨-, hy⟩ := hy
  obtain ⟨s, rfl, hs, c, r, hl, hc⟩ := hy hi
  have hm : mayC (decC s.data.toList) = false := by
   rw [hl]
   exact mayC_no (k := 0) (by simp [decC]) (by simp [decC, okAt]; omega)
  refine (conf_decode_no s w (by omega) hm).mono ?_
  rintro e w' ⟨rfl, hb⟩
  exact Left.of_below E hb (.t _ [_, _] (.cons _ _ _ _ .ns (.cons _ _ _ _ (.b false) .nil))) h2
theorem readNum_eq : readNum = rdN := by
 funext T v
 unfold readNum rdN
 rfl
theorem DmAt.own {w : World} {b n : Nat} {D : DataW Unit} : DmAt Tryz.prog w b (9, 181, n) D ↔ OwnN w b n D := by
 unfold DmAt OwnN
 rw [readNum_eq]
theorem MapAt.empty {ρ : Q → Loc} {N : Nat} {w : World} {b : Nat} (h : MapAt ρ N w b []) : OwnN w b 0 (.map []) := by
 obtain ⟨fs, c, hb, hr, _⟩ := h
 obtain rfl : fs = #[] := by cases hf : fs.toList with
  | nil => exact Array.toList_eq_nil_iff.1 hf
  | cons _ _ => rw [hf] at hr; cases hr
 exact ⟨#[], c, hb, ⟨by simp, stamped_empty c, by simp⟩, Nat.le_refl _, rfl⟩
theorem cpdF_sound {o : FS} (ho : SoundF Tryz.prog 169 o) :
  SoundF Tryz.prog 169 (cpdF 9 181 o) := by
 refine ⟨ho.enter, arm2b_det (c := fun _ s h => isDm s h) (cpdG_det _ _) ho.det, fun ρ h w B args vals k E ha hk => ?_⟩
 obtain ⟨dd, s, rfl⟩ : ∃ dd s, args = [dd, s] := by
  match args, hk with
  | [], hk => cases hk
  | [_], hk => cases hk
  | _ :: _ :: _ :: _, hk => cases hk
  | [dd, s], _ => exact ⟨dd, s, rfl⟩
 have hk : Bool.casesOn (motive := fun _ => Bool) (isDm s h) (o [dd, s] h k) (cpdG 9 181 dd s h k) = true := hk
 cases hd : isDm s h with
 | false => rw [hd] at hk; exact ho.sound ρ h w B [dd, s] vals k E ha hk
 | true =>
  rw [hd] at hk
  have hk : cpdG 9 181 dd s h k = true := hk
  obtain ⟨qd, rfl, h1⟩ := AV.on_m_spec (show dd.on_m _ = true from hk)
  rw [HT.getR_eq] at h1
  obtain ⟨es, hgd, h2⟩ := OB.onM_spec h1
  match es, h2 with
  | _ :: _, h2 => cases h2
  | [], h2 =>
   obtain ⟨q, rfl, h3⟩ := AV.on_m_spec (show s.on_m _ = true from h2)
   rw [HT.getR_eq] at h3
   obtain ⟨oy, hg, h4⟩ := OB.onY_spec h3
   obtain ⟨⟨t1, t2, t3⟩, q0, us, rfl, h5⟩ := Oy.on_dm_spec h4
   obtain ⟨e1, h6⟩ := ifT_eq h5
   obtain ⟨e2, h7⟩ := ifT_eq h6
   obtain ⟨e3, h8⟩ := ifT_le h7
   dsimp only at e1 e2 e3
   subst e1
   subst e2
   rw [HT.setK_eq] at h8
   cases ha with
   | cons _ dv _ _ hdv t =>
    cases t with
    | cons _ sv _ _ hsv t2 =>
     cases t2
     cases hdv
     cases hsv
     obtain ⟨h0, hm⟩ := E.dm q _ q0 us hg
     have hown := DmAt.own.1 hm
     have hout := MapAt.empty (E.map qd [] hgd)
     have hne : (ρ q).blk ≠ (ρ qd).blk := fun e => by
      have := E.inj q qd (by rw [Hp.live, hg]; simp) (by rw [Hp.live, hgd]; simp) e
      rw [this, hgd] at hg
      cases hg
     have hsz := World.ownsMap.size_le hown
     refine (maps_copy _ _ _ _ w hown hout hne (by omega)).mono ?_
     rintro e w' ⟨rfl, ho1, _, hkp⟩
     obtain ⟨E', s'⟩ := E.setDm (q := qd) (by rw [Hp.live, hgd]; simp) (ty := (9, 181, t3)) (q0 := q0) (us := us) h0 hkp.size (fun c hc hn => hkp.block c hc (by simpa using hn)) hkp.os hkp.tape hkp.output (DmAt.own.2 (ho1.mono hsz))
     exact ⟨ρ, _, .t [], E', s', .t [] [] .nil, h8⟩
theorem isDoc_spec {x : AV} {h : Hp} (hd : isDoc x h = true) : ∃ q ty n v, x = .p q 0 ∧ h.t.get q = .bk ty n v ∧ 0 < n := by
 obtain ⟨q, o, rfl, h1⟩ := AV.on_p_spec (show x.on_p _ = true from hd)
 obtain ⟨ho, h2⟩ := ifT_eq h1
 subst ho
 rw [HT.getR_eq] at h2
 obtain ⟨ty, n, v, hg, h3⟩ := OB.on_spec h2
 obtain ⟨hn, -⟩ := ifT_lt h3
 exact ⟨q, ty, n, v, rfl, hg, hn⟩
theorem on_put_spec {x : AV} {f : List Nat → Nat → Bool} (h : onPut x f = true) : ∃ sz bs n, x = .a [.i .i64 9223372036854775809, .s sz bs, .i .i64 9223372036854775809, .i .i64 n, .s 0 [], .i .i64 9223372036854775808, .i .i64 9223372036854775808, .s 0 [], .i .i64 9223372036854775808] ∧ sz ≤ 1000 ∧ f bs n = true := by
 obtain ⟨l, rfl, h1⟩ := AV.on_a_spec (show x.on_a _ = true from h)
 match l, h1 with
 | [], h1 => cases h1
 | [_], h1 => cases h1
 | [_, _], h1 => cases h1
 | [_, _, _], h1 => cases h1
 | a :: b :: c :: e :: l, h1 =>
  obtain ⟨e1, h2⟩ := ifT_spec (show ifT (avEq a (.i .i64 9223372036854775809)) _ = true from h1)
  obtain ⟨e2, h3⟩ := ifT_spec h2
  obtain ⟨e3, h4⟩ := ifT_spec h3
  obtain ⟨sz, bs, rfl, h5⟩ := AV.on_s_spec h4
  obtain ⟨e4, h6⟩ := ifT_le h5
  obtain ⟨kk, n, rfl, h7⟩ := AV.on_i_spec h6
  obtain ⟨e5, h8⟩ := ifT_eq h7
  obtain rfl := avEq_eq e1
  obtain rfl := avEq_eq e2
  obtain rfl := avEqL_eq e3
  have : kk = .i64 := by cases kk <;> first | rfl | cases e5
  subst this
  exact ⟨sz, bs, n, rfl, e4, h8⟩
theorem rel_int {ρ : Q → Loc} {N : Nat} {k : IntKind} {n : Nat} {x : Value} (h : Rel ρ N (.i k n) x) : x = .int k ((n : Int) - 9223372036854775808) := by cases h; rfl
theorem rel_str {ρ : Q → Loc} {N : Nat} {n : Nat} {l : List Nat} {x : Value} (h : Rel ρ N (.s n l) x) : ∃ s : ByteArray, x = .string s ∧ n = s.size ∧ l = s.data.toList.map UInt8.toNat := by
 generalize hz : AV.s n l = a at h
 cases h with
 | s s => injection hz with h1 h2; exact ⟨s, rfl, h1, h2⟩
 | _ => cases hz
theorem rel_str0 {ρ : Q → Loc} {N : Nat} {x : Value} (h : Rel ρ N (.s 0 []) x) : x = .string { data := #[] } := by
 obtain ⟨s, rfl, h1, h2⟩ := rel_str h
 have : s = { data := #[] } := by
  apply ByteArray.ext
  apply Array.ext'
  have : s.data.toList.length = 0 := by simpa using h1.symm
  rw [List.eq_nil_of_length_eq_zero this]
 rw [this]
theorem put_open {ρ : Q → Loc} {N : Nat} {sz : Nat} {bs : List Nat} {n : Nat} {v : Value} (h : Rel ρ N (.a [.i .i64 9223372036854775809, .s sz bs, .i .i64 9223372036854775809, .i .i64 n, .s 0 [], .i .i64 9223372036854775808, .i .i64 9223372036854775808, .s 0 [], .i .i64 9223372036854775808]) v) :
  ∃ s : ByteArray, v = putOp s ((n : Int) - 9223372036854775808) ∧ sz = s.size ∧ bs = s.data.toList.map UInt8.toNat := by
 cases h with
 | a _ vs hl h1 =>
  cases hl with
  | cons _ v0 _ _ r0 t0 =>
  cases t0 with
  | cons _ v1 _ _ r1 t1 =>
  cases t1 with
  | cons _ v2 _ _ r2 t2 =>
  cases t2 with
  | cons _ v3 _ _ r3 t3 =>
  cases t3 with
  | cons _ v4 _ _ r4 t4 =>
  cases t4 with
  | cons _ v5 _ _ r5 t5 =>
  cases t5 with
  | cons _ v6 _ _ r6 t6 =>
  cases t6 with
  | cons _ v7 _ _ r7 t7 =>
  cases t7 with
  | cons _ v8 _ _ r8 t8 =>
  cases t8
  obtain rfl := rel_int r0
  obtain ⟨s, rfl, e1, e2⟩ := rel_str r1
  obtain rfl := rel_int r2
  obtain rfl := rel_int r3
  obtain rfl := rel_str0 r4
  obtain rfl := rel_int r5
  obtain rfl := rel_int r6
  obtain rfl := rel_str0 r7
  obtain rfl := rel_int r8
  exact ⟨s, rfl, e1, e2⟩
theorem dmC_snoc {ρ : Q → Loc} {q : Q} {us : List (List Nat × Nat)} {s : ByteArray} {n : Nat} : dmC ρ q (us ++ [(s.data.toList.map UInt8.toNat, n)]) = (dmC ρ q us).put (.string s.data.toList) (.lit (.int .i64 ((n : Int) - 9223372036854775808))) := by
 unfold dmC
 rw [List.foldl_append]
 simp only [List.foldl_cons, List.foldl_nil, updM, List.map_map]
 congr 2
 rw [List.map_congr_left (g := id) (fun x _ => by simp)]
 simp
theorem doF_sound {o : FS} (ho : SoundF Tryz.prog 222 o) : SoundF Tryz.prog 222 (doF 9 181 o) := by
 refine ⟨ho.enter, arm2b_det (c := fun dd _ h => isDoc dd h) (doG_det _ _) ho.det, fun ρ h w B args vals k E ha hk => ?_⟩
 obtain ⟨dd, x, rfl⟩ : ∃ dd x, args = [dd, x] := by
  match args, hk with
  | [], hk => cases hk
  | [_], hk => cases hk
  | _ :: _ :: _ :: _, hk => cases hk
  | [dd, x], _ => exact ⟨dd, x, rfl⟩
 have hk : Bool.casesOn (motive := fun _ => Bool) (isDoc dd h) (o [dd, x] h k) (doG 9 181 dd x h k) = true := hk
 cases hd : isDoc dd h with
 | false => rw [hd] at hk; exact ho.sound ρ h w B [dd, x] vals k E ha hk
 | true =>
  rw [hd] at hk
  have hk : doG 9 181 dd x h k = true := hk
  obtain ⟨q, ty, n, v, rfl, hgq, hn0⟩ := isDoc_spec hd
  have h1 : ((HT.getR q h.t).on fun _ _ v => (v.get 0).on_m fun qm => (HT.getR qm h.t).onY fun oy => oy.on_dm fun ty q0 us => ifT (Nat.beq ty.1 9) (ifT (Nat.beq ty.2.1 181) (ifT (Nat.blt ty.2.2 50) (onPut x fun bs n => HT.setK (.y (.dm (ty.1, ty.2.1, Nat.succ ty.2.2) q0 (us ++ [(bs, n)]))) qm h.t fun t' => k (.i .i64 9223372036854775808) (.mk t' h.nx))))) = true := hk
  rw [HT.getR_eq, hgq] at h1
  obtain ⟨qm, hvm, h3⟩ := AV.on_m_spec (show (v.get 0).on_m _ = true from h1)
  rw [HT.getR_eq] at h3
  obtain ⟨oy, hg, h4⟩ := OB.onY_spec h3
  obtain ⟨⟨t1, t2, t3⟩, q0, us, rfl, h5⟩ := Oy.on_dm_spec h4
  obtain ⟨e1, h6⟩ := ifT_eq h5
  obtain ⟨e2, h7⟩ := ifT_eq h6
  obtain ⟨e3, h8⟩ := ifT_lt h7
  dsimp only at e1 e2 e3
  subst e1
  subst e2
  obtain ⟨sz, bs, m, rfl, e4, h9⟩ := on_put_spec h8
  rw [HT.setK_eq] at h9
  cases ha with
  | cons _ dv _ _ hdv t =>
   cases t with
   | cons _ xv _ _ hxv t2 =>
    cases t2
    cases hdv
    obtain ⟨s, rfl, rfl, rfl⟩ := put_open hxv
    obtain ⟨h0, hm⟩ := E.dm qm _ q0 us hg
    have hown := DmAt.own.1 hm
    have hR := E.row q ty n v hgq
    obtain ⟨u, hu, hru, _⟩ := hR.get 0 hn0
    rw [hvm] at hru
    cases hru with
    | m _ hqm =>
     obtain ⟨szq, hs1, hs2, _, hs4⟩ := hR.at_
     have hne : (ρ qm).blk ≠ (ρ q).blk := fun e => by
      have := E.inj qm q (by rw [Hp.live, hg]; simp) (by rw [Hp.live, hgq]; simp) e
      rw [this, hgq] at hg
      cases hg
     have hlt := E.blk_lt' (q := q) (by rw [Hp.live, hgq]; simp)
     have hcap := World.ownsMap.size_le hown
     have hD : DocS w (ρ q).blk ((ρ q).base + 0) (ρ qm).blk t3 (dmC ρ q0 us) := ⟨hlt, hu, hs4 _ (by omega), hown, hne⟩
     refine (doc_do hD e3 s (by unfold maxLen; omega) ((m : Int) - 9223372036854775808)).mono ?_
     rintro e w' ⟨rfl, hD2, hkp⟩
     rw [← dmC_snoc] at hD2
     obtain ⟨E', s'⟩ := E.setDm (q := qm) (by rw [Hp.live, hg]; simp) (ty := (9, 181, Nat.succ t3)) (q0 := q0) (us := us ++ [(s.data.toList.map UInt8.toNat, m)]) h0 hkp.size (fun c hc hn => hkp.block c hc (by simpa using hn)) hkp.os hkp.tape hkp.output (DmAt.own.2 hD2.m)
     exact ⟨ρ, _, .i .i64 9223372036854775808, E', s', .i _ _, h9⟩
end Go.Proofs.YtpchmdddkpocgaaGreatDoor
