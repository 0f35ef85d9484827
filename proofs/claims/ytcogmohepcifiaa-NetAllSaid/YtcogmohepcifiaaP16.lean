/-
  No claim by itself: how the program writes a message. | the reader of a message's parts. No condition.
-/
import Derived.Test.YtcogmohepcifiaaP14
import Derived.Test.YtcogmohepcifiaaP15
namespace Go.Proofs.Ytcogmohepcifiaa
open Go.ChangeShapes Go.WideShapes Go.ChangeAt Go.RowKit

def RetEnc (w : World) (m : Msg) (e : Ending) (w' : World) : Prop :=
  ∃ v, e = .returned v ∧ OwnB w' w.heap.size 5 v (encM m) ∧ Below w.heap.size w w' ∧ (mayM m = false → v = .slice none 0 0)
def lenOf : Value → Nat
  | .slice _ n _ => n
  | _ => 0

set_option maxRecDepth 100000 in
set_option maxHeartbeats 4000000 in
theorem msg_encode (v : Value) (m : Msg) (w : World) (h : EntR w v m.es) (hl : m.es.length ≤ 1000000000000) (hc : m.s.c.size ≤ 1000000000) :
    Calls Try.prog 18 #[msgAgg v m] w fun e w' => RetEnc w m e w' := by
  obtain ⟨a, cap, rfl⟩ := h.slice
  have hNo := @encM_no m
  have hFr := @encM_frm m
  have hTl := @textM_len m
  have HTX := Lib.hid (fun (u : World) (x : Value) (hx : EntR u x m.es) (hy : mayM m = true) => msg_text x m u hx hy)
  have HRM := Lib.hid (fun (u : World) (x : Value) (hx : EntR u x m.es) => raft_may x m u hx hl hc)
  have HNO := Lib.hid hNo
  have HFR := Lib.hid hFr
  have HTL := Lib.hid hTl
  have HRE : Hid (∀ (u : World) (x : Value) (e : Ending) (u' : World), RetEnc u m e u' = ∃ v, e = .returned v ∧ OwnB u' u.heap.size 5 v (encM m) ∧ Below u.heap.size u u' ∧ (mayM m = false → v = .slice none 0 0)) := Lib.hid (fun _ _ _ _ => rfl)
  unfold RetEnc
  clear hNo hFr hTl HRE
  have hS := msgS_box w (.slice a m.es.length cap) m 30
  obtain ⟨T, hT⟩ : ∃ T, textM m = T := ⟨_, rfl⟩
  obtain ⟨E, hE0⟩ : ∃ E, encM m = E := ⟨_, rfl⟩
  obtain ⟨R, hR⟩ : ∃ R, mayM m = R := ⟨_, rfl⟩
  rw [hT] at HFR HTL HTX
  rw [hE0] at HFR HNO ⊢
  rw [hR] at HFR HTL HTX HNO HRM ⊢
  clear hT hE0 hR
  obtain ⟨mk, mf, mo, mt, mi, ml, mc, my, es, ⟨si, st, sc, sd⟩⟩ := m
  dsimp only at *
  have hbx := (Below.refl w.heap.size w).alloc (Nat.le_refl _) (.cells #[.int .i64 mk, .int .i64 mf, .int .i64 mo, .int .i64 mt, .int .i64 mi, .int .i64 ml, .int .i64 mc, .bool my, .slice a es.length cap, .int .i64 si, .int .i64 st, .string sc, .string sd] 30)
  have hE := h.below hbx
  clear h hl hc
  unfold msgAgg at *
  dsimp only at *
  go_enter Try.func18, Try.ntmps18
  go_wp2_with fail
  refine (HRM.out _ _ hE).mono ?_
  rintro e w1 ⟨rfl, hb1⟩
  have hbw := hbx.trans (hb1.mono hbx.size)
  have hS1 := hS.below hb1
  have hE1 := hE.below hb1
  clear hS hE hbx hb1 HRM
  cases R with
  | false =>
    have HF := Lib.hid (HNO.out rfl)
    clear HNO HFR HTL HTX
    go_wp2_with fail
    go_ret
    exact ⟨_, rfl, by rw [HF.out]; exact OwnB.nil _ _ _, hbw, by first | rfl | (intro _; rfl)⟩
  | true =>
    have HF := Lib.hid (HFR.out rfl)
    have htl := HTL.out rfl
    have HTX2 := Lib.hid (fun (u : World) (x : Value) (hx : EntR u x es) => HTX.out u x hx rfl)
    clear HNO HFR HTL HTX
    have c0 := hS1.c0
    have c1 := hS1.c1
    have c2 := hS1.c2
    have c3 := hS1.c3
    have c4 := hS1.c4
    have c5 := hS1.c5
    have c6 := hS1.c6
    have c7 := hS1.c7
    have c8 := hS1.c8
    have c9 := hS1.c9
    have c10 := hS1.c10
    have c11 := hS1.c11
    have c12 := hS1.c12
    dsimp only at c0 c1 c2 c3 c4 c5 c6 c7 c8 c9 c10 c11 c12
    go_wp2_with fail
    refine (HTX2.out _ _ hE1).mono ?_
    rintro e w2 ⟨v2, rfl, ho2, hb2⟩
    have hbw2 := hbw.trans (hb2.mono hbw.size)
    have hB2 := ho2.bytes
    obtain ⟨a2, cap2, rfl⟩ := ho2.len
    clear hb2 ho2 hbw c0 c1 c2 c3 c4 c5 c6 c7 c8 c9 c10 c11 c12 hS1 hE1 HTX2
    have hpn := putN_nat_len T.length
    go_wp2_with fail
    refine (num_put _ [] (T.length : Nat) w2.heap.size _ (by omega) (by omega) (by simp) (Nat.le_refl _) (OwnB.nil _ _ _)).mono ?_
    rintro e w3 ⟨v3, rfl, ho3, hg3, -⟩
    have hb3 := below_of_grown hg3
    rw [List.nil_append] at ho3
    clear hg3
    go_wp2_with fail
    refine (frame_seal 7 _ _ _ (by omega) (by omega) ho3.bytes).mono ?_
    rintro e w4 ⟨v4, rfl, ho4, hb4⟩
    rw [show sealP 7 (putN (T.length : Nat)) = sizeF T from rfl] at ho4
    have hb5 := hb3.trans (hb4.mono hb3.size)
    have ho5 := ho4.rebase hb3.size
    have hB5 := hB2.below hb5 rfl
    have hbk := bytes_block hB2
    have hsl := sizeF_len T
    clear ho4 hb4 hb3 ho3
    have hw2 := hbw2.size
    go_wp2_with fail
    go_loopw [3, 4, 5] (fun b o _ wr => ∃ (r cur : List UInt8), Bytes wr b r ∧ (r ≠ [] → ∀ ad n c, b = .slice (some ad) n c → ad.block < w2.heap.size) ∧ OwnB wr w2.heap.size 5 o cur ∧ Hid (E = cur ++ pcsP r) ∧ cur.length + 16 * r.length ≤ 4100000 ∧ r.length ≤ 250000 ∧ Below w2.heap.size w2 wr) (fun b _ _ _ => lenOf b)
    case atStart => exact ⟨T, sizeF T, hB5, hbk, ho5, HF, by omega, htl, hb5⟩
    case round =>
      clear hB5 hbk ho5 HF hb5 hB2
      obtain ⟨r, cur, hB, hbk, ho, hE, hcl, hrl, hbel⟩ := hrel
      by_cases hz : r.length = 0
      · obtain rfl : r = [] := List.eq_nil_of_length_eq_zero hz
        have hE2 : Hid (E = cur) := Lib.hid (by rw [hE.out, pcsP_nil, List.append_nil])
        obtain ⟨ar, cr, rfl, -⟩ := hB
        clear hE
        go_wp2_with fail
        go_ret
        refine ⟨_, rfl, ?_, hbw2.trans (hbel.mono hbw2.size), ?_⟩
        · rw [hE2.out]; exact ho.rebase hw2
        · first | trivial | (intro h; cases h)
      · have hB0 := hB
        obtain ⟨ar, cr, rfl, hcr, hcm, har⟩ := hB
        obtain ⟨b, off, rfl, -⟩ := har (fun e => hz (by rw [e]; rfl))
        have hbl := hbk (fun e => hz (by rw [e]; rfl)) _ _ _ rfl
        have hmin : (if 3000 < ((r.length : Nat) : Int) then 3000 else ((r.length : Nat) : Int)) = ((min r.length 3000 : Nat) : Int) := by split <;> omega
        obtain ⟨n, hn⟩ : ∃ n, n = min r.length 3000 := ⟨_, rfl⟩
        rw [← hn] at hmin
        have hE3 : Hid (E = cur ++ sealP 8 (r.take n) ++ pcsP (r.drop n)) := Lib.hid (by
          have e1 : r.take n = r.take 3000 := by
            rw [hn]
            rcases Nat.le_total r.length 3000 with h | h
            · rw [Nat.min_eq_left h, List.take_of_length_le (by omega), List.take_of_length_le (by omega)]
            · rw [Nat.min_eq_right h]
          have e2 : r.drop n = r.drop 3000 := by
            rw [hn]
            rcases Nat.le_total r.length 3000 with h | h
            · rw [Nat.min_eq_left h, List.drop_of_length_le (by omega), List.drop_of_length_le (by omega)]
            · rw [Nat.min_eq_right h]
          rw [hE.out, pcsP_cons hz, e1, e2, List.append_assoc])
        have h1 : n ≤ r.length := by omega
        have h2 : n ≤ 3000 := by omega
        have h3 : 1 ≤ n := by omega
        have hBt := hB0.take n h1
        have hBd := hB0.sub n (r.length - n) (by omega)
        rw [List.take_of_length_le (by rw [List.length_drop]; omega)] at hBd
        have hne := sub_ne (k := n) (m := r.length - n) (c := cr - n) hbk
        have hld : (r.drop n).length = r.length - n := List.length_drop
        have hlt : (r.take n).length = n := by rw [List.length_take]; omega
        have hsl8 : (sealP 8 (r.take n)).length ≤ 15 + n := by
          have := putN_nat_len (r.take n).length
          rw [sealP_len (by omega) (by omega) (by omega)]
          omega
        have HN := Lib.hid hn
        clear hE hn hB0 har
        go_wp2_with fail
        refine (frame_seal 8 _ _ _ (by omega) (by omega) hBt).mono ?_
        rintro e w6 ⟨v6, rfl, ho6, hb6⟩
        have hbq := hbel.trans (hb6.mono hbel.size)
        have ho7 := ho.below hb6
        have hBd2 := hBd.below hb6 rfl
        have hbs := hbel.size
        clear hbel hb6 ho hBd hBt
        go_wp2_with (at_builtin; refine wpList_append_bytes 46 w2.heap.size 5 Try.underlying46 info_u8 rfl _ _ rfl ho7 ho6.bytes rfl rfl (by omega) hbq.size ?_)
        intro v8 w8 ho8 hg8 hk8
        have hb8 : Below w2.heap.size w2 w8 := hbq.grown hg8 hbq.size (fun k hk => (ho7.lt k hk).1)
        have hBd3 := hBd2.keeps (Keeps.of_grown hg8) (fun hn ad m c hg hx => by
          have h1 := hne hn ad m c hg
          have h2 := (ho7.lt ad.block (by simpa using hx)).1
          omega)
        clear hg8 hk8 ho6 ho7 hbq hBd2
        by_cases hck : cr = n
        · rw [if_pos hck] at hBd3 hne
          have hHNE := Lib.hid hne
          subst hck
          clear hne
          rw [Nat.sub_self, show r.length - cr = 0 by omega] at hBd3
          go_wp2_with fail
          go_roundw
          case rel => exact ⟨r.drop cr, _, hBd3, fun hn => absurd (List.eq_nil_of_length_eq_zero (by omega)) hn, ho8, hE3, by rw [List.length_append]; omega, by omega, hb8⟩
          case measure => simp [lenOf]; omega
        · rw [if_neg hck] at hBd3 hne
          simp only [Option.map_some, Addr.add_lit] at hBd3 hne
          have hHNE := Lib.hid hne
          clear hne
          go_wp2_with fail
          go_roundw
          case rel => exact ⟨r.drop n, _, hBd3, hHNE.out, ho8, hE3, by rw [List.length_append]; omega, by omega, hb8⟩
          case measure => simp [lenOf]; omega
end Go.Proofs.Ytcogmohepcifiaa
namespace Go.Proofs.Ytcogmohepcifiaa
open Go.ChangeShapes Go.WideShapes Go.ChangeAt Go.RowKit

def tookP (s : List UInt8 × Bool) (n err : Nat) : List UInt8 × Bool := (if (s.2 || decide (err ≠ 0)) then s.1 else s.1.drop n, s.2 || decide (err ≠ 0))
theorem rdN_took (s : List UInt8 × Bool) : rdN s = ((getN s.1).1, tookP s (getN s.1).2.1 (getN s.1).2.2) := rfl

set_option maxRecDepth 100000 in
set_option maxHeartbeats 1000000 in
theorem m_took {w : World} {b : Nat} {v : Value} {s : List UInt8 × Bool} (h : RdS w b v s) (n err : Nat) (hn : err = 0 → n ≤ s.1.length) :
    Calls Try.prog 57 #[.pointer (some ⟨b, 0, none⟩), .int .i64 n, .int .i64 err] w fun e w' => e = .returned (.tuple #[]) ∧ (∃ v', RdS w' b v' (tookP s n err)) ∧ Keeps [b] w w' := by
  obtain ⟨l, bad⟩ := s
  have hr := h.r
  have c0 := h.c0
  have c1 := h.c1
  have fr := h.fr
  have hne := h.ne
  dsimp only at hr c1 hn
  obtain ⟨a, cap, rfl, hcap, hcm, -⟩ := hr
  have hr := h.r
  dsimp only at hr
  cases bad with
  | true =>
    have hset := h.setBad true
    dsimp only at hset
    have HSET := Lib.hid hset
    have hR : tookP (l, true) n err = (l, true) := rfl
    have HR := Lib.hid hR
    have c1' := HSET.out.1.c1
    dsimp only at c1'
    clear h hne hset hR
    go_enter Try.func57, Try.ntmps57
    go_wp2_with fail
    go_end0
    rw [HR.out]
    exact ⟨rfl, ⟨_, HSET.out.1⟩, HSET.out.2⟩
  | false =>
    by_cases he : err = 0
    case neg =>
      have hset := h.setBad true
      dsimp only at hset
      have HSET := Lib.hid hset
      have hR : tookP (l, false) n err = (l, true) := by unfold tookP; simp [he]
      have HR := Lib.hid hR
      have te : ((err : Int) != 0) = true := by simp; omega
      have c1' := HSET.out.1.c1
      dsimp only at c1'
      clear h hne hset hR
      go_enter Try.func57, Try.ntmps57
      go_wp2_with fail
      go_end0
      rw [HR.out]
      exact ⟨rfl, ⟨_, HSET.out.1⟩, HSET.out.2⟩
    case pos =>
      subst he
      have hn := hn rfl
      have hset := h.setBad false
      dsimp only at hset
      have hsub := hset.1.r.sub n (l.length - n) (by dsimp only; omega)
      dsimp only at hsub
      rw [List.take_of_length_le (by rw [List.length_drop]; omega)] at hsub
      have hset2 := hset.1.setB hsub (sub_ne hne)
      dsimp only at hset2
      have hR : tookP (l, false) n 0 = (l.drop n, false) := rfl
      have HR := Lib.hid hR
      clear hR hsub
      have HSET := Lib.hid hset
      have c1' := HSET.out.1.c1
      have c0' := HSET.out.1.c0
      have fr' := HSET.out.1.fr
      dsimp only at c1' c0'
      have HSET2 := Lib.hid (And.intro hset2.1 (hset.2.trans hset2.2 (fun x hx => .inl hx)))
      clear hset hset2 h hne
      go_enter Try.func57, Try.ntmps57
      by_cases hck : cap = n
      · rw [if_pos hck] at HSET2
        subst hck
        rw [Nat.sub_self, show l.length - cap = 0 by omega] at HSET2
        go_wp2_with fail
        go_end0
        rw [HR.out]
        exact ⟨rfl, ⟨_, HSET2.out.1⟩, HSET2.out.2⟩
      · rw [if_neg hck] at HSET2
        go_wp2_with fail
        go_end0
        rw [HR.out]
        exact ⟨rfl, ⟨_, HSET2.out.1⟩, HSET2.out.2⟩

set_option maxRecDepth 100000 in
set_option maxHeartbeats 1000000 in
theorem m_num {w : World} {b : Nat} {v : Value} {s : List UInt8 × Bool} (h : RdS w b v s) :
    Calls Try.prog 55 #[.pointer (some ⟨b, 0, none⟩)] w fun e w' => RetRd w b (.int .i64 (rdN s).1) (rdN s).2 e w' := by
  have hr := h.r
  have c0 := h.c0
  have HR := Lib.hid (rdN_took s)
  have HH := Lib.hid h
  have hk : (getN s.1).2.2 = 0 → (getN s.1).2.1 ≤ s.1.length := by
    rcases getN_any s.1 with (h | h) | ⟨x, k, h, -, -, -, h2, -⟩ <;> rw [h]
    · intro h; cases h
    · intro h; cases h
    · exact fun _ => h2
  clear h
  obtain ⟨a, cap, rfl⟩ : ∃ a cap, v = .slice a s.1.length cap := by obtain ⟨a, cap, hv, -⟩ := hr; exact ⟨a, cap, hv⟩
  obtain ⟨x, k, e, hg⟩ : ∃ x k e, getN s.1 = (x, k, e) := ⟨_, _, _, rfl⟩
  rw [hg] at HR hk
  have HG := Lib.hid hg
  clear hg
  go_enter Try.func55, Try.ntmps55
  go_wp2_with fail
  refine (num_get _ s.1 _ hr).mono ?_
  rintro e' w' ⟨rfl, rfl⟩
  rw [HG.out]
  unfold getV
  go_wp2_with fail
  refine (m_took HH.out k e hk).mono ?_
  rintro e' w2 ⟨rfl, hrd, hkp⟩
  go_wp2_with fail
  go_ret
  rw [HR.out]
  exact ⟨rfl, hrd, hkp⟩

/-! ### A message's cells -/
theorem MsgS.setK {w : World} {b : Nat} {v : Value} {m : Msg} (h : MsgS w b v m) (x : Int) : MsgS (w.setCell ⟨b, 0, none⟩ (.int .i64 x)) b v { m with k := x } :=
  ⟨by rw [setCell_size]; exact h.lt, World.cell?_setCell_same _ _ _ h.c0, (World.cell?_setCell_other _ _ _ _ (by simp)).trans h.c1, (World.cell?_setCell_other _ _ _ _ (by simp)).trans h.c2, (World.cell?_setCell_other _ _ _ _ (by simp)).trans h.c3, (World.cell?_setCell_other _ _ _ _ (by simp)).trans h.c4, (World.cell?_setCell_other _ _ _ _ (by simp)).trans h.c5, (World.cell?_setCell_other _ _ _ _ (by simp)).trans h.c6, (World.cell?_setCell_other _ _ _ _ (by simp)).trans h.c7, (World.cell?_setCell_other _ _ _ _ (by simp)).trans h.c8, (World.cell?_setCell_other _ _ _ _ (by simp)).trans h.c9, (World.cell?_setCell_other _ _ _ _ (by simp)).trans h.c10, (World.cell?_setCell_other _ _ _ _ (by simp)).trans h.c11, (World.cell?_setCell_other _ _ _ _ (by simp)).trans h.c12, fun j => by rw [World.frozen?_setCell]; exact h.fr j⟩
theorem MsgS.setF {w : World} {b : Nat} {v : Value} {m : Msg} (h : MsgS w b v m) (x : Int) : MsgS (w.setCell ⟨b, 1, none⟩ (.int .i64 x)) b v { m with f := x } :=
  ⟨by rw [setCell_size]; exact h.lt, (World.cell?_setCell_other _ _ _ _ (by simp)).trans h.c0, World.cell?_setCell_same _ _ _ h.c1, (World.cell?_setCell_other _ _ _ _ (by simp)).trans h.c2, (World.cell?_setCell_other _ _ _ _ (by simp)).trans h.c3, (World.cell?_setCell_other _ _ _ _ (by simp)).trans h.c4, (World.cell?_setCell_other _ _ _ _ (by simp)).trans h.c5, (World.cell?_setCell_other _ _ _ _ (by simp)).trans h.c6, (World.cell?_setCell_other _ _ _ _ (by simp)).trans h.c7, (World.cell?_setCell_other _ _ _ _ (by simp)).trans h.c8, (World.cell?_setCell_other _ _ _ _ (by simp)).trans h.c9, (World.cell?_setCell_other _ _ _ _ (by simp)).trans h.c10, (World.cell?_setCell_other _ _ _ _ (by simp)).trans h.c11, (World.cell?_setCell_other _ _ _ _ (by simp)).trans h.c12, fun j => by rw [World.frozen?_setCell]; exact h.fr j⟩
theorem MsgS.setO {w : World} {b : Nat} {v : Value} {m : Msg} (h : MsgS w b v m) (x : Int) : MsgS (w.setCell ⟨b, 2, none⟩ (.int .i64 x)) b v { m with o := x } :=
  ⟨by rw [setCell_size]; exact h.lt, (World.cell?_setCell_other _ _ _ _ (by simp)).trans h.c0, (World.cell?_setCell_other _ _ _ _ (by simp)).trans h.c1, World.cell?_setCell_same _ _ _ h.c2, (World.cell?_setCell_other _ _ _ _ (by simp)).trans h.c3, (World.cell?_setCell_other _ _ _ _ (by simp)).trans h.c4, (World.cell?_setCell_other _ _ _ _ (by simp)).trans h.c5, (World.cell?_setCell_other _ _ _ _ (by simp)).trans h.c6, (World.cell?_setCell_other _ _ _ _ (by simp)).trans h.c7, (World.cell?_setCell_other _ _ _ _ (by simp)).trans h.c8, (World.cell?_setCell_other _ _ _ _ (by simp)).trans h.c9, (World.cell?_setCell_other _ _ _ _ (by simp)).trans h.c10, (World.cell?_setCell_other _ _ _ _ (by simp)).trans h.c11, (World.cell?_setCell_other _ _ _ _ (by simp)).trans h.c12, fun j => by rw [World.frozen?_setCell]; exact h.fr j⟩
theorem MsgS.setT {w : World} {b : Nat} {v : Value} {m : Msg} (h : MsgS w b v m) (x : Int) : MsgS (w.setCell ⟨b, 3, none⟩ (.int .i64 x)) b v { m with t := x } :=
  ⟨by rw [setCell_size]; exact h.lt, (World.cell?_setCell_other _ _ _ _ (by simp)).trans h.c0, (World.cell?_setCell_other _ _ _ _ (by simp)).trans h.c1, (World.cell?_setCell_other _ _ _ _ (by simp)).trans h.c2, World.cell?_setCell_same _ _ _ h.c3, (World.cell?_setCell_other _ _ _ _ (by simp)).trans h.c4, (World.cell?_setCell_other _ _ _ _ (by simp)).trans h.c5, (World.cell?_setCell_other _ _ _ _ (by simp)).trans h.c6, (World.cell?_setCell_other _ _ _ _ (by simp)).trans h.c7, (World.cell?_setCell_other _ _ _ _ (by simp)).trans h.c8, (World.cell?_setCell_other _ _ _ _ (by simp)).trans h.c9, (World.cell?_setCell_other _ _ _ _ (by simp)).trans h.c10, (World.cell?_setCell_other _ _ _ _ (by simp)).trans h.c11, (World.cell?_setCell_other _ _ _ _ (by simp)).trans h.c12, fun j => by rw [World.frozen?_setCell]; exact h.fr j⟩
theorem MsgS.setI {w : World} {b : Nat} {v : Value} {m : Msg} (h : MsgS w b v m) (x : Int) : MsgS (w.setCell ⟨b, 4, none⟩ (.int .i64 x)) b v { m with i := x } :=
  ⟨by rw [setCell_size]; exact h.lt, (World.cell?_setCell_other _ _ _ _ (by simp)).trans h.c0, (World.cell?_setCell_other _ _ _ _ (by simp)).trans h.c1, (World.cell?_setCell_other _ _ _ _ (by simp)).trans h.c2, (World.cell?_setCell_other _ _ _ _ (by simp)).trans h.c3, World.cell?_setCell_same _ _ _ h.c4, (World.cell?_setCell_other _ _ _ _ (by simp)).trans h.c5, (World.cell?_setCell_other _ _ _ _ (by simp)).trans h.c6, (World.cell?_setCell_other _ _ _ _ (by simp)).trans h.c7, (World.cell?_setCell_other _ _ _ _ (by simp)).trans h.c8, (World.cell?_setCell_other _ _ _ _ (by simp)).trans h.c9, (World.cell?_setCell_other _ _ _ _ (by simp)).trans h.c10, (World.cell?_setCell_other _ _ _ _ (by simp)).trans h.c11, (World.cell?_setCell_other _ _ _ _ (by simp)).trans h.c12, fun j => by rw [World.frozen?_setCell]; exact h.fr j⟩
theorem MsgS.setL {w : World} {b : Nat} {v : Value} {m : Msg} (h : MsgS w b v m) (x : Int) : MsgS (w.setCell ⟨b, 5, none⟩ (.int .i64 x)) b v { m with l := x } :=
  ⟨by rw [setCell_size]; exact h.lt, (World.cell?_setCell_other _ _ _ _ (by simp)).trans h.c0, (World.cell?_setCell_other _ _ _ _ (by simp)).trans h.c1, (World.cell?_setCell_other _ _ _ _ (by simp)).trans h.c2, (World.cell?_setCell_other _ _ _ _ (by simp)).trans h.c3, (World.cell?_setCell_other _ _ _ _ (by simp)).trans h.c4, World.cell?_setCell_same _ _ _ h.c5, (World.cell?_setCell_other _ _ _ _ (by simp)).trans h.c6, (World.cell?_setCell_other _ _ _ _ (by simp)).trans h.c7, (World.cell?_setCell_other _ _ _ _ (by simp)).trans h.c8, (World.cell?_setCell_other _ _ _ _ (by simp)).trans h.c9, (World.cell?_setCell_other _ _ _ _ (by simp)).trans h.c10, (World.cell?_setCell_other _ _ _ _ (by simp)).trans h.c11, (World.cell?_setCell_other _ _ _ _ (by simp)).trans h.c12, fun j => by rw [World.frozen?_setCell]; exact h.fr j⟩
theorem MsgS.setC {w : World} {b : Nat} {v : Value} {m : Msg} (h : MsgS w b v m) (x : Int) : MsgS (w.setCell ⟨b, 6, none⟩ (.int .i64 x)) b v { m with c := x } :=
  ⟨by rw [setCell_size]; exact h.lt, (World.cell?_setCell_other _ _ _ _ (by simp)).trans h.c0, (World.cell?_setCell_other _ _ _ _ (by simp)).trans h.c1, (World.cell?_setCell_other _ _ _ _ (by simp)).trans h.c2, (World.cell?_setCell_other _ _ _ _ (by simp)).trans h.c3, (World.cell?_setCell_other _ _ _ _ (by simp)).trans h.c4, (World.cell?_setCell_other _ _ _ _ (by simp)).trans h.c5, World.cell?_setCell_same _ _ _ h.c6, (World.cell?_setCell_other _ _ _ _ (by simp)).trans h.c7, (World.cell?_setCell_other _ _ _ _ (by simp)).trans h.c8, (World.cell?_setCell_other _ _ _ _ (by simp)).trans h.c9, (World.cell?_setCell_other _ _ _ _ (by simp)).trans h.c10, (World.cell?_setCell_other _ _ _ _ (by simp)).trans h.c11, (World.cell?_setCell_other _ _ _ _ (by simp)).trans h.c12, fun j => by rw [World.frozen?_setCell]; exact h.fr j⟩
theorem MsgS.setY {w : World} {b : Nat} {v : Value} {m : Msg} (h : MsgS w b v m) (x : Bool) : MsgS (w.setCell ⟨b, 7, none⟩ (.bool x)) b v { m with y := x } :=
  ⟨by rw [setCell_size]; exact h.lt, (World.cell?_setCell_other _ _ _ _ (by simp)).trans h.c0, (World.cell?_setCell_other _ _ _ _ (by simp)).trans h.c1, (World.cell?_setCell_other _ _ _ _ (by simp)).trans h.c2, (World.cell?_setCell_other _ _ _ _ (by simp)).trans h.c3, (World.cell?_setCell_other _ _ _ _ (by simp)).trans h.c4, (World.cell?_setCell_other _ _ _ _ (by simp)).trans h.c5, (World.cell?_setCell_other _ _ _ _ (by simp)).trans h.c6, World.cell?_setCell_same _ _ _ h.c7, (World.cell?_setCell_other _ _ _ _ (by simp)).trans h.c8, (World.cell?_setCell_other _ _ _ _ (by simp)).trans h.c9, (World.cell?_setCell_other _ _ _ _ (by simp)).trans h.c10, (World.cell?_setCell_other _ _ _ _ (by simp)).trans h.c11, (World.cell?_setCell_other _ _ _ _ (by simp)).trans h.c12, fun j => by rw [World.frozen?_setCell]; exact h.fr j⟩
theorem MsgS.setV {w : World} {b : Nat} {v : Value} {m : Msg} (h : MsgS w b v m) (x : Value) (es : List Ent) : MsgS (w.setCell ⟨b, 8, none⟩ x) b x { m with es := es } :=
  ⟨by rw [setCell_size]; exact h.lt, (World.cell?_setCell_other _ _ _ _ (by simp)).trans h.c0, (World.cell?_setCell_other _ _ _ _ (by simp)).trans h.c1, (World.cell?_setCell_other _ _ _ _ (by simp)).trans h.c2, (World.cell?_setCell_other _ _ _ _ (by simp)).trans h.c3, (World.cell?_setCell_other _ _ _ _ (by simp)).trans h.c4, (World.cell?_setCell_other _ _ _ _ (by simp)).trans h.c5, (World.cell?_setCell_other _ _ _ _ (by simp)).trans h.c6, (World.cell?_setCell_other _ _ _ _ (by simp)).trans h.c7, World.cell?_setCell_same _ _ _ h.c8, (World.cell?_setCell_other _ _ _ _ (by simp)).trans h.c9, (World.cell?_setCell_other _ _ _ _ (by simp)).trans h.c10, (World.cell?_setCell_other _ _ _ _ (by simp)).trans h.c11, (World.cell?_setCell_other _ _ _ _ (by simp)).trans h.c12, fun j => by rw [World.frozen?_setCell]; exact h.fr j⟩
theorem MsgS.setSI {w : World} {b : Nat} {v : Value} {m : Msg} (h : MsgS w b v m) (x : Int) : MsgS (w.setCell ⟨b, 9, none⟩ (.int .i64 x)) b v { m with s := { m.s with i := x } } :=
  ⟨by rw [setCell_size]; exact h.lt, (World.cell?_setCell_other _ _ _ _ (by simp)).trans h.c0, (World.cell?_setCell_other _ _ _ _ (by simp)).trans h.c1, (World.cell?_setCell_other _ _ _ _ (by simp)).trans h.c2, (World.cell?_setCell_other _ _ _ _ (by simp)).trans h.c3, (World.cell?_setCell_other _ _ _ _ (by simp)).trans h.c4, (World.cell?_setCell_other _ _ _ _ (by simp)).trans h.c5, (World.cell?_setCell_other _ _ _ _ (by simp)).trans h.c6, (World.cell?_setCell_other _ _ _ _ (by simp)).trans h.c7, (World.cell?_setCell_other _ _ _ _ (by simp)).trans h.c8, World.cell?_setCell_same _ _ _ h.c9, (World.cell?_setCell_other _ _ _ _ (by simp)).trans h.c10, (World.cell?_setCell_other _ _ _ _ (by simp)).trans h.c11, (World.cell?_setCell_other _ _ _ _ (by simp)).trans h.c12, fun j => by rw [World.frozen?_setCell]; exact h.fr j⟩
theorem MsgS.setST {w : World} {b : Nat} {v : Value} {m : Msg} (h : MsgS w b v m) (x : Int) : MsgS (w.setCell ⟨b, 10, none⟩ (.int .i64 x)) b v { m with s := { m.s with t := x } } :=
  ⟨by rw [setCell_size]; exact h.lt, (World.cell?_setCell_other _ _ _ _ (by simp)).trans h.c0, (World.cell?_setCell_other _ _ _ _ (by simp)).trans h.c1, (World.cell?_setCell_other _ _ _ _ (by simp)).trans h.c2, (World.cell?_setCell_other _ _ _ _ (by simp)).trans h.c3, (World.cell?_setCell_other _ _ _ _ (by simp)).trans h.c4, (World.cell?_setCell_other _ _ _ _ (by simp)).trans h.c5, (World.cell?_setCell_other _ _ _ _ (by simp)).trans h.c6, (World.cell?_setCell_other _ _ _ _ (by simp)).trans h.c7, (World.cell?_setCell_other _ _ _ _ (by simp)).trans h.c8, (World.cell?_setCell_other _ _ _ _ (by simp)).trans h.c9, World.cell?_setCell_same _ _ _ h.c10, (World.cell?_setCell_other _ _ _ _ (by simp)).trans h.c11, (World.cell?_setCell_other _ _ _ _ (by simp)).trans h.c12, fun j => by rw [World.frozen?_setCell]; exact h.fr j⟩
theorem MsgS.setSC {w : World} {b : Nat} {v : Value} {m : Msg} (h : MsgS w b v m) (x : ByteArray) : MsgS (w.setCell ⟨b, 11, none⟩ (.string x)) b v { m with s := { m.s with c := x } } :=
  ⟨by rw [setCell_size]; exact h.lt, (World.cell?_setCell_other _ _ _ _ (by simp)).trans h.c0, (World.cell?_setCell_other _ _ _ _ (by simp)).trans h.c1, (World.cell?_setCell_other _ _ _ _ (by simp)).trans h.c2, (World.cell?_setCell_other _ _ _ _ (by simp)).trans h.c3, (World.cell?_setCell_other _ _ _ _ (by simp)).trans h.c4, (World.cell?_setCell_other _ _ _ _ (by simp)).trans h.c5, (World.cell?_setCell_other _ _ _ _ (by simp)).trans h.c6, (World.cell?_setCell_other _ _ _ _ (by simp)).trans h.c7, (World.cell?_setCell_other _ _ _ _ (by simp)).trans h.c8, (World.cell?_setCell_other _ _ _ _ (by simp)).trans h.c9, (World.cell?_setCell_other _ _ _ _ (by simp)).trans h.c10, World.cell?_setCell_same _ _ _ h.c11, (World.cell?_setCell_other _ _ _ _ (by simp)).trans h.c12, fun j => by rw [World.frozen?_setCell]; exact h.fr j⟩
theorem MsgS.setSD {w : World} {b : Nat} {v : Value} {m : Msg} (h : MsgS w b v m) (x : ByteArray) : MsgS (w.setCell ⟨b, 12, none⟩ (.string x)) b v { m with s := { m.s with d := x } } :=
  ⟨by rw [setCell_size]; exact h.lt, (World.cell?_setCell_other _ _ _ _ (by simp)).trans h.c0, (World.cell?_setCell_other _ _ _ _ (by simp)).trans h.c1, (World.cell?_setCell_other _ _ _ _ (by simp)).trans h.c2, (World.cell?_setCell_other _ _ _ _ (by simp)).trans h.c3, (World.cell?_setCell_other _ _ _ _ (by simp)).trans h.c4, (World.cell?_setCell_other _ _ _ _ (by simp)).trans h.c5, (World.cell?_setCell_other _ _ _ _ (by simp)).trans h.c6, (World.cell?_setCell_other _ _ _ _ (by simp)).trans h.c7, (World.cell?_setCell_other _ _ _ _ (by simp)).trans h.c8, (World.cell?_setCell_other _ _ _ _ (by simp)).trans h.c9, (World.cell?_setCell_other _ _ _ _ (by simp)).trans h.c10, (World.cell?_setCell_other _ _ _ _ (by simp)).trans h.c11, World.cell?_setCell_same _ _ _ h.c12, fun j => by rw [World.frozen?_setCell]; exact h.fr j⟩
def msgTo (w : World) (b : Nat) (v' : Value) (m' : Msg) : World := (((((((((((((w.setCell ⟨b, 0, none⟩ (.int .i64 m'.k)).setCell ⟨b, 1, none⟩ (.int .i64 m'.f)).setCell ⟨b, 2, none⟩ (.int .i64 m'.o)).setCell ⟨b, 3, none⟩ (.int .i64 m'.t)).setCell ⟨b, 4, none⟩ (.int .i64 m'.i)).setCell ⟨b, 5, none⟩ (.int .i64 m'.l)).setCell ⟨b, 6, none⟩ (.int .i64 m'.c)).setCell ⟨b, 7, none⟩ (.bool m'.y)).setCell ⟨b, 8, none⟩ v').setCell ⟨b, 9, none⟩ (.int .i64 m'.s.i)).setCell ⟨b, 10, none⟩ (.int .i64 m'.s.t)).setCell ⟨b, 11, none⟩ (.string m'.s.c)).setCell ⟨b, 12, none⟩ (.string m'.s.d))
theorem MsgS.setAll {w : World} {b : Nat} {v v' : Value} {m m' : Msg} (h : MsgS w b v m) : MsgS (msgTo w b v' m') b v' m' := (((((((((((((h.setK m'.k).setF m'.f).setO m'.o).setT m'.t).setI m'.i).setL m'.l).setC m'.c).setY m'.y).setV v' m'.es).setSI m'.s.i).setST m'.s.t).setSC m'.s.c).setSD m'.s.d)
theorem keeps_msgTo (w : World) (b : Nat) (v' : Value) (m' : Msg) : Keeps [b] w (msgTo w b v' m') := ((((((((((((((Keeps.refl [b] w).setCell (.inl (by simp)) _).setCell (.inl (by simp)) _).setCell (.inl (by simp)) _).setCell (.inl (by simp)) _).setCell (.inl (by simp)) _).setCell (.inl (by simp)) _).setCell (.inl (by simp)) _).setCell (.inl (by simp)) _).setCell (.inl (by simp)) _).setCell (.inl (by simp)) _).setCell (.inl (by simp)) _).setCell (.inl (by simp)) _).setCell (.inl (by simp)) _)

theorem load_msg {w : World} {b : Nat} {v : Value} {m : Msg} (h : MsgS w b v m) : (loadVar 30 ⟨b, 0, none⟩).run Try.prog w = .ok (msgAgg v m) w := by
  have c0 := h.c0
  have c1 := h.c1
  have c2 := h.c2
  have c3 := h.c3
  have c4 := h.c4
  have c5 := h.c5
  have c6 := h.c6
  have c7 := h.c7
  have c8 := h.c8
  have c9 := h.c9
  have c10 := h.c10
  have c11 := h.c11
  have c12 := h.c12
  unfold msgAgg loadVar
  go_simp
theorem results_cell1 {fn : Func} {p : Tmp} {ty : TypeId} (h : fn.results = #[.cell p ty]) (tmps : Array Value) (P : Program) (w : World) (a : Addr) (v : Value)
    (hp : tmps.getD p undef = .pointer (some a)) (hl : (loadVar ty a).run P w = .ok v w) : (results fn tmps).run P w = .ok v w := by
  simp only [results, h]
  simp only [Array.getD_eq_getD_getElem?] at hp
  simp [hp, asAddr, hl]
theorem results_cell2 {fn : Func} {p u : Tmp} {ty : TypeId} (h : fn.results = #[.cell p ty, .tmp u]) (tmps : Array Value) (P : Program) (w : World) (a : Addr) (v : Value)
    (hp : tmps.getD p undef = .pointer (some a)) (hl : (loadVar ty a).run P w = .ok v w) : (results fn tmps).run P w = .ok (.tuple #[v, tmps.getD u undef]) w := by
  simp only [results, h]
  simp only [Array.getD_eq_getD_getElem?] at hp
  simp [Result.andThen, hp, asAddr, hl]
end Go.Proofs.Ytcogmohepcifiaa
