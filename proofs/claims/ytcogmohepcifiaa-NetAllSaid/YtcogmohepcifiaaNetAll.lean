/-
  Messages are sent, taken, looked at, lost, in any order: any operations. No condition.
-/
import Derived.Test.YtcogmohepcifiaaNetAllK
import Derived.Test.YtcogmohepcifiaaNetAllA
import Derived.Test.YtcogmohepcifiaaNetAllB
import Derived.Test.YtcogmohepcifiaaNetAllE
import Derived.Test.YtcogmohepcifiaaNetAllC
import Derived.Test.YtcogmohepcifiaaNetAllT
namespace Go.Proofs.Ytcogmohepcifiaa
open Go.ChangeShapes Go.WideShapes Go.ChangeAt Go.RowKit Go.Deep

def netAll_wit0 : Value := .slice none 0 0
set_option maxRecDepth 100000 in
theorem netAll_open0 {H : Type} {enc : TypeId × Value → H} {W : World} {base base' : Nat} {r : Reach} {v : Value} {d : DataW H} {ps : List MemPlace}
    (hv : Value.okWide Try.prog W r base' 41 v) (h : DataW.Trod enc Try.prog W base (fun _ => true) true 41 v d ps) : ∃ ops : List OpV, Recs 15 opCells W v ops ∧ ∀ o ∈ ops, o.good W := open_ops hv h


set_option maxRecDepth 100000 in
set_option maxHeartbeats 16000000 in
theorem netAll_walk (v0 : Value) (ops : List OpV) (w : World) (h0 : Recs 15 opCells w v0 ops ∧ ∀ o ∈ ops, o.good w) :
    Calls Try.prog 6 #[v0] w fun e w' => e = .returned (.bool true) ∧ Below w.heap.size w w' := by
  obtain ⟨hR, hgood⟩ := h0
  obtain ⟨oa, oc, rfl, ho1, ho2, hoc⟩ := hR
  have HOC := Lib.hid hoc
  have HGOOD := Lib.hid hgood
  have HAG : Hid (∀ v (m : Msg), msgAgg v m = .agg #[.int .i64 m.k, .int .i64 m.f, .int .i64 m.o, .int .i64 m.t, .int .i64 m.i, .int .i64 m.l, .int .i64 m.c, .bool m.y, v, .int .i64 m.s.i, .int .i64 m.s.t, .string m.s.c, .string m.s.d]) := Lib.hid (fun _ _ => rfl)
  clear hoc hgood
  go_enter Try.func6, Try.ntmps6
  go_wp2_with fail
  refine (msg_begun _).mono ?_
  rintro e w1 ⟨rfl, hb1⟩
  go_wp2_with fail
  refine (net_new _).mono ?_
  rintro e w2 ⟨rfl, hN, hb2⟩
  have hwb := hb1.size
  replace hb1 := hb1.trans (hb2.mono hb1.size)
  generalize w1.heap.size = b at *
  have HS : Hid (LS w2 w.heap.size b (.slice none 0 0) [] (.slice none 0 0) [] [] [] 0) := Lib.hid ⟨⟨hN, LOwn.nil _ _, by simp, hwb, fun g _ => ⟨by simp [Value.ownBlock], by simp, by simp⟩, by simp, by simp⟩, rfl, by simp, by simp⟩
  clear hN hb2
  go_wp2_with fail
  go_loopw [5, 6] (fun lv i wr => ∃ (k : Nat) (nv : Value) (ms lm : List VMsg), i = .int .i64 k ∧ k ≤ ops.length ∧ k ≤ 60 ∧ Hid (LS wr w.heap.size b nv ms lv lm [] [] k) ∧ Below w.heap.size w wr) (fun _ i _ => ops.length - (intOf i).toNat)
  case atStart => exact ⟨0, _, [], [], rfl, by omega, by omega, HS, hb1⟩
  case round =>
    clear HS hb1
    obtain ⟨k, nv, ms, lm, rfl, hk, hk60, HL, hb⟩ := hrel
    by_cases hlt : k < ops.length
    case neg =>
      have t1 : decide ((k : Int) < (ops.length : Int)) = false := decide_eq_false (by omega)
      go_wp2_with fail
      go_ret
      exact ⟨rfl, hb⟩
    by_cases hlt2 : k < 60
    case neg =>
      have t2 : decide ((k : Int) < 60) = false := decide_eq_false (by omega)
      go_wp2_with fail
      go_ret
      exact ⟨rfl, hb⟩
    go_upto_block 1 with fail
    go_cut [5] (fun y wx => ∃ nv' ms' lm', Hid (LS wx w.heap.size b nv' ms' y lm' [] [] (k + 1)) ∧ Below w.heap.size w wx)
    case rest =>
      obtain ⟨nv', ms', lm', HL2, hbel⟩ := hcut
      go_wp2_with fail
      go_roundw
      case rel => exact ⟨k + 1, nv', ms', lm', by go_num, by omega, by omega, HL2, hbel⟩
      case measure => simp [intOf]; omega
    case first =>
      obtain ⟨ob, off, rfl, hobl, hcc⟩ := HOC.out k hlt
      have hgo := HGOOD.out ops[k] (List.getElem_mem hlt)
      generalize ops[k] = o at *
      obtain ⟨hok, hoi, hoE, hwf⟩ := hgo
      have hgc : ∀ j u, (opCells o)[j]? = some u → wr.cell? ⟨ob, off + k * 15 + j, none⟩ = some u := fun j u hu => (hb.cell (p := ⟨ob, off + k * 15 + j, none⟩) hobl).trans (hcc j u hu)
      obtain ⟨ok, oi, ev, m⟩ := o
      dsimp only at hok hoi hoE hwf
      obtain ⟨ea, ec, rfl⟩ := hoE.slice
      have hlen := hoE.len
      replace hoE := hoE.below hb
      have r0 := hgc 0 _ rfl
      have r1 := hgc 1 _ rfl
      have r2 := hgc 2 _ rfl
      have r3 := hgc 3 _ rfl
      have r4 := hgc 4 _ rfl
      have r5 := hgc 5 _ rfl
      have r6 := hgc 6 _ rfl
      have r7 := hgc 7 _ rfl
      have r8 := hgc 8 _ rfl
      have r9 := hgc 9 _ rfl
      have r10 := hgc 10 _ rfl
      have r11 := hgc 11 _ rfl
      have r12 := hgc 12 _ rfl
      have r13 := hgc 13 _ rfl
      have r14 := hgc 14 _ rfl
      dsimp only at r0 r1 r2 r3 r4 r5 r6 r7 r8 r9 r10 r11 r12 r13 r14
      rw [Nat.add_zero] at r0
      have hbx := (Below.refl wr.heap.size wr).alloc (Nat.le_refl _) (.cells #[.int .i64 ok, .int .i64 oi, .int .i64 m.k, .int .i64 m.f, .int .i64 m.o, .int .i64 m.t, .int .i64 m.i, .int .i64 m.l, .int .i64 m.c, .bool m.y, .slice ea m.es.length ec, .int .i64 m.s.i, .int .i64 m.s.t, .string m.s.c, .string m.s.d] 44)
      have hO := opB_box wr ⟨ok, oi, .slice ea m.es.length ec, m⟩ 44
      dsimp only at hO
      clear hgc hcc
      have HCUT := Lib.hid (fun (u : World) (hx : EntR u (.slice ea m.es.length ec) m.es) => law_cut' (.slice ea m.es.length ec) m u hx hlen hwf)
      replace hoE := hoE.below hbx
      have HL1 := Lib.hid (HL.out.below hbx)
      have HTB := Lib.hid (HL.out.two.box hbx (by simp))
      go_upto_region 10 with fail
      clear r0 r1 r2 r3 r4 r5 r6 r7 r8 r9 r10 r11 r12 r13 r14 hwf hlen
      replace hb := hb.trans (hbx.mono hb.size)
      clear hbx HL1
      have HLA : Hid (vms ms = vms lm ∧ (∀ p ∈ lm, okM p.2) ∧ lm.length ≤ k) := Lib.hid ⟨HL.out.same, HL.out.ok, HL.out.len⟩
      clear HL
      generalize wr.alloc _ = w3 at *
      generalize wr.heap.size = O at *
      have y0 := hO.c0
      have y1 := hO.c1
      have y2 := hO.c2
      have y3 := hO.c3
      have y4 := hO.c4
      have y5 := hO.c5
      have y6 := hO.c6
      have y7 := hO.c7
      have y8 := hO.c8
      have y9 := hO.c9
      have y10 := hO.c10
      have y11 := hO.c11
      have y12 := hO.c12
      have y13 := hO.c13
      have y14 := hO.c14
      dsimp only at y0 y1 y2 y3 y4 y5 y6 y7 y8 y9 y10 y11 y12 y13 y14
      go_wp2_with fail
      refine (HCUT.out _ hoE).mono ?_
      rintro e w4 ⟨ma, rfl, ho, hb4⟩
      have hcs := cutM_small m
      clear HCUT hoE y0 y1 y2 y3 y4 y5 y6 y7 y8 y9 y10 y11 y12 y13 y14
      generalize hM : cutM m = M at *
      clear hM
      have HT4 := Lib.hid (HTB.out.got hb4 (p := (ma, M)) ho)
      replace hO := hO.below hb4
      replace hb := hb.trans (hb4.mono hb.size)
      obtain ⟨maa, mac, rfl⟩ := ho.r.slice
      clear HTB ho hb4
      have hX := msgS_box w4 (.slice maa M.es.length mac) M 30
      have hbx := (Below.refl w4.heap.size w4).alloc (Nat.le_refl _) (.cells #[.int .i64 M.k, .int .i64 M.f, .int .i64 M.o, .int .i64 M.t, .int .i64 M.i, .int .i64 M.l, .int .i64 M.c, .bool M.y, .slice maa M.es.length mac, .int .i64 M.s.i, .int .i64 M.s.t, .string M.s.c, .string M.s.d] 30)
      have HT5 := Lib.hid (HT4.out.box hbx (by simp))
      replace hO := hO.below hbx
      rw [HAG.out]
      go_upto_region 11 with fail
      replace hb := hb.trans (hbx.mono hb.size)
      clear hbx HT4
      have o0 := hO.c0
      have o1 := hO.c1
      dsimp only at o0 o1
      generalize w4.alloc _ = w5 at *
      generalize w4.heap.size = X at *
      obtain ⟨la, lc, rfl⟩ := HT5.out.l.slice
      go_cut [9] (fun x wx => x = .bool (decide (0 ≤ oi) && decide (oi < (lm.length : Int))) ∧ wx = w5)
      case first =>
        by_cases h0 : 0 ≤ oi
        · by_cases h1 : oi < (lm.length : Int)
          · have t0 : decide (0 ≤ oi) = true := decide_eq_true h0
            have t1 : decide (oi < (lm.length : Int)) = true := decide_eq_true h1
            go_wp2_with fail
            go_meet
            exact ⟨by rw [t0, t1]; rfl, rfl⟩
          · have t0 : decide (0 ≤ oi) = true := decide_eq_true h0
            have t1 : decide (oi < (lm.length : Int)) = false := decide_eq_false h1
            go_wp2_with fail
            go_meet
            exact ⟨by rw [t0, t1]; rfl, rfl⟩
        · have t0 : decide (0 ≤ oi) = false := decide_eq_false h0
          go_wp2_with fail
          go_meet
          exact ⟨by rw [t0]; rfl, rfl⟩
      case rest =>
        obtain ⟨rfl, rfl⟩ := hcut
        have HSIT := Lib.hid (⟨HT5.out, hX, hO, hb⟩ : Sit w wc b nv ms (.slice la lm.length lc) lm X O (.slice maa M.es.length mac) M ⟨ok, oi, .slice ea m.es.length ec, m⟩)
        have HSM : Hid (∀ p ∈ ms, p.2.es.length ≤ 1000000000) := Lib.hid (fun p hp => by
          have : p.2 ∈ vms lm := by rw [← HLA.out.1]; exact List.mem_map_of_mem hp
          obtain ⟨q, hq, he⟩ := List.mem_map.1 this
          have := (HLA.out.2.1 q hq).2.1
          rw [he] at this
          omega)
        clear HT5 hX hO hb
        obtain ⟨inb, hinb⟩ : ∃ q, (decide (0 ≤ oi) && decide (oi < (lm.length : Int))) = q := ⟨_, rfl⟩
        rw [hinb]
        go_upto_block 2 with fail
        go_cut [5] (fun y wx => ∃ nv' ms' lm', Hid (LS wx w.heap.size b nv' ms' y lm' [] [O] (k + 1)) ∧ OpB wx O ⟨ok, oi, .slice ea m.es.length ec, m⟩ ∧ Below w.heap.size w wx)
        case first =>
          by_cases k0 : ok = 0
          case pos => exact netAll_c0 hlt2 hoi hcs HAG HLA HSM HSIT hinb k0 (by assumption) (by assumption)
          case neg =>
          have tk0 : (ok == 0) = false := beq_eq_false_iff_ne.2 k0
          by_cases k1 : ok = 1
          case pos => exact netAll_c1 hlt2 hoi hcs HAG HLA HSM HSIT hinb tk0 k1 (by assumption) (by assumption)
          case neg =>
          have tk1 : (ok == 1) = false := beq_eq_false_iff_ne.2 k1
          by_cases k2 : ok = 2
          case pos => exact netAll_c2 hlt2 hoi hcs HAG HLA HSM HSIT hinb tk0 tk1 k2 (by assumption) (by assumption)
          case neg =>
          have tk2 : (ok == 2) = false := beq_eq_false_iff_ne.2 k2
          by_cases k3 : ok = 3
          case pos => exact netAll_c3 hlt2 hoi hcs HAG HLA HSM HSIT hinb tk0 tk1 tk2 k3 (by assumption) (by assumption)
          case neg =>
          have tk3 : (ok == 3) = false := beq_eq_false_iff_ne.2 k3
          exact netAll_c4 hlt2 hoi hcs HAG HLA HSM HSIT hinb tk0 tk1 tk2 tk3 (by assumption) (by assumption)
        case rest =>
          clear HSIT o0 o1 hinb
          have hKK := ‹∀ (a : Act) (w : World), Code.wp Try.prog netAft (Exit.inBlock 1 (Exit.then _ _)) a w → _›
          exact hKK _ _ (netAll_tail hlt2 hoi HAG hcut (by assumption) (by assumption))
/-! ### From the row to the walk -/
namespace netAllF
set_option linter.unusedVariables false
theorem own : ownKnob Try.prog.godebug = none := by kernel_rfl
theorem laidOut : laidOutB Try.prog = true := by kernel_rfl
set_option maxRecDepth 100000 in
theorem lifted (os : Os) (started : os.Started) (H : Type) (enc : TypeId × Value → H) :
    ReturnsInHanded {} Try.checked os 6 .any (Rows.netAllSpec.pre6 enc Try.prog Try.f6 Rows.netAllRow.domain false) (Rows.netAllSpec.post enc Try.prog Try.f6 false true false false) := by
  refine returnsInHanded_of_change (C := Try.checked) own started (by kernel_rfl) Try.func6
    (ChangeSpec.witness6 (enc := enc) (C := Try.checked) false ⟨#[], #[netAll_wit0], []⟩ 8 (by kernel_rfl) (by kernel_rfl) (by kernel_rfl) (by kernel_rfl)) ?_
  intro W base args ds gs before hval0 hW hcnd _
  have hval : ∀ (j : Nat) t v, Try.f6.params[j]? = some t → args[j]? = some v → Value.okWide Try.prog W .any base t v := hval0
  have hW' := hW
  obtain ⟨p, q, hA0, hV, rfl, hfz, hnd⟩ := hW
  have hA : DataW.TrodAll enc Try.prog W 0 (fun _ => true) true Try.f6.params.toList args.toList ds p := hA0
  rw [Try.params6] at hA hval
  obtain ⟨v0, vs0, d0, ds0, p0, q0, hargs, rfl, rfl, h0, r0⟩ := trodAll_cons hA
  obtain ⟨rfl, rfl, rfl⟩ := trodAll_nil r0
  obtain rfl : args = #[v0] := by cases args; simp_all
  obtain ⟨rfl, rfl⟩ := trodVars_none hV
  have k0 := h0
  have lt0 : ∀ x ∈ p0, x.block < W.heap.size := by obtain ⟨m, hm⟩ := k0; exact DataW.trod_lt m _ _ _ hm
  obtain ⟨x0, w0⟩ := netAll_open0 (hval 0 41 v0 rfl rfl) h0
  clear hA0 hval0
  refine (netAll_walk v0 x0 W w0).mono fun e W' ⟨he, bel⟩ => ?_
  subst he
  exact ⟨_, rfl, _, _, _, [], _, [], hW', trodAll_mk1 (shut_bool Try.underlying4 _), (trodAll_cons_mk (Below.trod laidOut (by kernel_rfl) (of_decide_eq_true (by kernel_rfl)) k0 bel lt0) trodAll_mk0), rfl, bel.frame _, fun h => by cases h⟩
theorem over : Rows.netAllRow.holds Try.pinned (OpenSpec.ofChange Rows.netAllSpec) :=
  OpenClaim.holds_of_wide 6 Try.f6 rfl rfl rfl rfl rfl rfl rfl ⟨rfl, rfl, rfl, rfl, rfl⟩ rfl rfl rfl rfl rfl (by kernel_rfl) Try.func6 (by kernel_rfl)
    (of_decide_eq_true (by kernel_rfl)) (by unfold Func.isWrapper; first | (rw [if_pos (by decide +kernel)]; kernel_rfl) | (rw [if_neg (by decide +kernel)]; exact ⟨rfl, rfl⟩))
    (fun os started H enc _ => lifted os started H enc)
end netAllF
theorem netAll_holds : Rows.NetAllSaid := netAllF.over
#print axioms netAll_holds
end Go.Proofs.Ytcogmohepcifiaa
