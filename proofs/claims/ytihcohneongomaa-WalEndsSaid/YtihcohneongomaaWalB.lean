/-
  No claim by itself: what every law on records begins with. No condition.
-/
import Derived.Test.YtihcohneongomaaWalG
import Derived.Test.YtihcohneongomaaWal5
namespace Go.Proofs.Ytihcohneongomaa
open Go.ChangeShapes Go.WideShapes Go.ChangeAt Go.RowKit

def rec32 : Rec := ⟨true, 3, 2, zeroE⟩
def snp42 : Snp := ⟨4, 2, ⟨#[49, 50]⟩, ⟨#[100]⟩⟩
theorem rec32_may : mayR rec32 = true := by decide +kernel
theorem snp42_may : mayS snp42 = true := by decide +kernel
theorem enc32 : (encR rec32).length = 8 ∧ (encR rec32)[0]? = some 1 := by decide +kernel
theorem dec32 : decR (encR rec32) = (rec32, 8, 0) := by
  have := decR_enc [] rec32_may
  rw [List.append_nil] at this
  rw [this, enc32.1]
theorem scan32 : scanR (encR rec32 ++ [1]) = ([rec32], 8, true) := by
  have h := decR_enc [1] rec32_may
  have hl := enc32.1
  have hd : (decR (encR rec32 ++ [1])).2.2 = 0 := by rw [h]
  rw [scanR_yes (by simp) hd, h]
  simp only [List.drop_left]
  have h1 : decR [1] = (zeroR, 0, 2) := by
    have ho : openP [1] = (0, [], 0, 2) := by decide +kernel
    unfold decR
    rw [ho]
    rfl
  rw [scanR_no (by simp) (by rw [h1]; decide), h1, hl]
  rfl
theorem get42 : getS (putS snp42) = (snp42, (putS snp42).length, 0) := by
  have := getS_put [] snp42_may
  rw [List.append_nil] at this
  exact this
theorem put42_pos : 0 < (putS snp42).length := by
  unfold putS
  rw [if_pos snp42_may, List.length_append, sealP_len (by decide) (by decide) (by have := headS_len snp42_may; omega)]
  omega
def tupAt (v : Value) (i : Nat) : Value :=
  match v with
  | .tuple vs => vs.getD i undef
  | _ => undef

set_option maxRecDepth 100000 in
set_option maxHeartbeats 4000000 in
theorem wal_begun (w : World) : Calls Try.prog 39 #[] w fun e w' => e = .returned (.bool true) ∧ Below w.heap.size w w' := by
  go_enter Try.func39, Try.ntmps39
  go_wp2_with fail
  refine (wal_encode rec32 _).mono ?_
  rintro e w1 ⟨v1, rfl, ho1, hb1⟩
  obtain ⟨hl8, hg0⟩ := enc32
  obtain ⟨E, hE⟩ : ∃ E, E = encR rec32 := ⟨_, rfl⟩
  have D := dec32
  have SC := scan32
  rw [← hE] at ho1 hl8 hg0 D SC
  have hD := Lib.hid D
  have hSC := Lib.hid SC
  have hGE := Lib.hid hE
  clear hE D SC
  obtain ⟨g1, cap1, rfl, hg1, hg2, hg3⟩ := ho1.shape (by intro h; rw [h] at hl8; cases hl8)
  have hB1 := ho1.bytes
  have hc0 := ho1.cellAt 0 (by omega)
  have he0 : E[0]'(by omega) = 1 := by
    have := List.getElem?_eq_getElem (l := E) (i := 0) (by omega)
    rw [hg0] at this
    exact (Option.some.inj this).symm
  rw [he0] at hc0
  have hl8' := hl8
  rw [hl8] at ho1 hB1
  clear hg0 he0
  have hb1z := hb1.size
  go_wp2_with fail
  refine (wal_decode _ E w1 hB1 (by omega)).mono ?_
  rw [hD.out]
  rintro e w2 ⟨rfl, hb2⟩
  unfold decV recAgg rec32 zeroE
  dsimp only
  have hB2 := hB1.below hb2 rfl
  have hc2 := (hb2.cell (p := ⟨g1, 0, none⟩) hg2).trans hc0
  have hbw := hb1.trans (hb2.mono hb1z)
  have hb2z := hb2.size
  clear hb1 hb2 ho1 hB1 hc0
  have hR := recS_box w2 ⟨true, 3, 2, ⟨0, 0, 0, .empty⟩⟩ 66
  dsimp only at hR
  have hE0 : (⟨#[]⟩ : ByteArray) = .empty := rfl
  rw [show ((8 : Nat) : Int) = 8 from rfl, show ((0 : Nat) : Int) = 0 from rfl]
  have hbx := (Below.refl w2.heap.size w2).alloc (Nat.le_refl _) (.cells #[.bool true, .int .i64 3, .int .i64 2, .int .i64 0, .int .i64 0, .int .i64 0, .string .empty] 66)
  have hB3 := hB2.below hbx rfl
  have hg4 : g1 < w2.heap.size := Nat.lt_of_lt_of_le hg2 hb2z
  have hc3 := (hbx.cell (p := ⟨g1, 0, none⟩) hg4).trans hc2
  have hbw3 := hbw.trans (hbx.mono hbw.size)
  clear hB2 hc2
  go_upto_region 5 with fail
  go_cut [5, 6, 7] (fun lv at_ ok wx => (∃ a cap, lv = .slice a 1 cap) ∧ at_ = .int .i64 8 ∧ ok = .bool true ∧ Below (w2.heap.size + 1) (w2.alloc (.cells #[.bool true, .int .i64 3, .int .i64 2, .int .i64 0, .int .i64 0, .int .i64 0, .string .empty] 66)) wx)
  case first =>
    generalize hWW : w2.alloc (.cells #[.bool true, .int .i64 3, .int .i64 2, .int .i64 0, .int .i64 0, .int .i64 0, .string .empty] 66) = w3 at *
    have hz3 : w3.heap.size = w2.heap.size + 1 := by rw [← hWW]; simp
    have hg5 : g1 < w3.heap.size := by omega
    clear hWW
    refine wp_region_ch (by rfl) (by kernel_rfl) (fun k' => match k' with | 1 => some (BytesAt w3.heap.size E) | 5 => some (fun v w => Bytes w v [1]) | 6 => some (BytesAt w3.heap.size (E ++ [1])) | 7 => some (fun v _ => ∃ a cap, v = .tuple #[.slice a 1 cap, .int .i64 8, .bool true]) | 8 => some (fun v _ => ∃ a cap, v = .tuple #[.slice a 1 cap, .int .i64 8, .bool true]) | _ => none) ⟨[1, 6, 7, 8], [6], [(1, 6), (5, 6)]⟩ (PlanOk.of [1, 5, 6, 7, 8] (by kernel_rfl) (fun k φ hk => ?_) (fun k φ hk v w1 w2 h1 h2 => ?_)) (fun vals => ?_)
    · split at hk
      all_goals first | (cases hk; done) | simp
    · split at hk
      all_goals first | (cases hk; exact OwnB.below h1 h2) | (cases hk; exact Bytes.below h1 h2 rfl) | (cases hk; exact h1) | cases hk
    ((with_reducible refine sc_pure ?_ (fun K hK => ?_)); (· rfl); go_simp; with_reducible refine hK _ ?_; clear hK K)
    refine sc_call _ rfl rfl rfl (fun wz hz' hH => ?_) (fun K hK => ?_)
    · obtain ⟨v', w', hr, ho, hg, hn⟩ := run_append_bytes (P := Try.prog) 62 62 w3.heap.size 5 Try.underlying62 info_u8 (OwnB.nil wz w3.heap.size 5) (hB3.below hz' rfl) (by simp; omega) hz'.size
      exact yields_append rfl rfl rfl hr ⟨ho, below_of_grown hg⟩
    go_simp; refine hK _ ?_; clear hK K
    iterate 2 ((with_reducible refine sc_pure ?_ (fun K hK => ?_)); (· rfl); go_simp; with_reducible refine hK _ ?_; clear hK K)
    refine sc_at (.int .u8 1) rfl rfl (fun wz hz' hH => ?_) (fun K hK => ?_)
    · have g := (hz'.cell (p := ⟨g1, 0, none⟩) hg5).trans hc3
      rw [show ((UInt8.toNat 1 : Nat) : Int) = 1 from rfl] at g
      go_simp
    go_simp; refine hK _ ?_; clear hK K
    refine sc_call _ rfl rfl rfl (fun wz hz' hH => ?_) (fun K hK => ?_)
    · have hfr := Bytes.fresh wz [1] 5 (0, 0) #[.int .u8 1] 1 rfl (by rfl) (by simp)
      go_simp
      exact (Below.refl _ _).alloc (Nat.le_refl _) _
    go_simp; refine hK _ ?_; clear hK K
    refine sc_grow _ rfl rfl rfl (fun wz hz' hH => ?_) (fun K hK => ?_)
    · have e5 := hH _ (List.Mem.head _) rfl
      have e1 := hH _ (List.Mem.tail _ (List.Mem.head _)) rfl
      unfold BytesAt at e1
      dsimp only at e1 e5
      obtain ⟨v', w', hr, ho, hg, hn⟩ := run_append_bytes (P := Try.prog) 62 62 w3.heap.size 5 Try.underlying62 info_u8 e1 e5 (by simp; omega) hz'.size
      refine yields_append rfl rfl rfl hr ⟨ho, (Below.refl _ _).grown hg hz'.size (fun k hk => (World.ownsRow.lt e1 k hk).1), fun p hp hd => ?_⟩
      rcases List.mem_cons.1 hp with rfl | hp
      · cases hd
      · obtain rfl := List.mem_singleton.1 hp
        cases hd
    go_simp; refine hK _ ?_; clear hK K
    refine sc_call _ rfl rfl rfl (fun wz hz' hH => ?_) (fun K hK => ?_)
    · have e6 := hH _ (List.Mem.head _) rfl
      unfold BytesAt at e6
      go_simp
      go_at_call 64
      refine (wal_scan _ (E ++ [1]) _ (OwnB.bytes e6) (by simp; omega)).mono ?_
      rintro e wy ⟨v2, rfl, hro, hby⟩
      rw [hSC.out] at hro ⊢
      obtain ⟨g, cap, rfl, -⟩ := ownsRow_shape hro (by simp)
      exact ⟨_, rfl, ⟨_, _, rfl⟩, hby⟩
    go_simp; refine hK _ ?_; clear hK K
    refine sc_call _ rfl rfl rfl (fun wz hz' hH => ?_) (fun K hK => ?_)
    · have e7 := hH _ (List.Mem.head _) rfl
      go_simp
      exact ⟨e7, Below.refl _ _⟩
    go_simp; refine hK _ ?_; clear hK K
    refine sc_at (tupAt (vals 8) 0) rfl rfl (fun wz hz' hH => ?_) (fun K hK => ?_)
    · obtain ⟨a8, c8, h8⟩ := hH _ (List.Mem.head _) rfl
      dsimp only at h8
      rw [show (0 + 1 + 1 + 1 + 1 + 1 + 1 + 1 + 1 : Nat) = 8 from rfl] at h8
      rw [h8]
      unfold tupAt
      go_simp
    go_simp; refine hK _ ?_; clear hK K
    refine sc_at (tupAt (vals 8) 1) rfl rfl (fun wz hz' hH => ?_) (fun K hK => ?_)
    · obtain ⟨a8, c8, h8⟩ := hH _ (List.Mem.head _) rfl
      dsimp only at h8
      rw [show (0 + 1 + 1 + 1 + 1 + 1 + 1 + 1 + 1 : Nat) = 8 from rfl] at h8
      rw [h8]
      unfold tupAt
      go_simp
    go_simp; refine hK _ ?_; clear hK K
    refine sc_at (tupAt (vals 8) 2) rfl rfl (fun wz hz' hH => ?_) (fun K hK => ?_)
    · obtain ⟨a8, c8, h8⟩ := hH _ (List.Mem.head _) rfl
      dsimp only at h8
      rw [show (0 + 1 + 1 + 1 + 1 + 1 + 1 + 1 + 1 : Nat) = 8 from rfl] at h8
      rw [h8]
      unfold tupAt
      go_simp
    go_simp; refine hK _ ?_; clear hK K
    iterate 3 ((with_reducible refine sc_pure ?_ (fun K hK => ?_)); (· rfl); go_simp; with_reducible refine hK _ ?_; clear hK K)
    refine sc_done (fun wz hz hH => ?_)
    obtain ⟨a8, c8, h8⟩ := hH _ (List.Mem.head _) rfl
    dsimp only at h8
    rw [show (0 + 1 + 1 + 1 + 1 + 1 + 1 + 1 + 1 : Nat) = 8 from rfl] at h8
    rw [h8]
    unfold tupAt
    dsimp only
    go_wp2_with fail
    go_meet
    rw [hz3] at hz
    exact ⟨⟨_, _, rfl⟩, rfl, rfl, hz⟩
  case rest =>
    obtain ⟨⟨a5, c5, rfl⟩, rfl, rfl, hz⟩ := hcut
    rename World => wx
    have hR4 := hR.below (hz.mono (by simp))
    have hbw4 := hbw3.trans (hz.mono (by have := hbw3.size; simp at this; omega))
    have y2 := hR4.c2
    dsimp only at y2
    clear hR hz hbw3 hbx hB3 hc3
    have hP := Lib.hid get42
    have hQ := Lib.hid put42_pos
    have hlp := parts_len (snp42.d.data.toList.length + 1) snp42.d.data.toList (Nat.lt_succ_self _)
    have hpl : (putS snp42).length ≤ 1000000 := by
      unfold putS
      rw [if_pos snp42_may, List.length_append]
      have := sealP_le 3 (headS snp42)
      have h1 : snp42.d.data.toList.length = 1 := rfl
      omega
    go_wp2_with fail
    refine (wal_putSnap snp42 _).mono ?_
    rintro e w5 ⟨v5, rfl, ho5, hb5⟩
    have hR5 := hR4.below hb5
    have hbw5 := hbw4.trans (hb5.mono hbw4.size)
    clear hR4 hb5 hbw4 y2
    go_wp2_with fail
    refine (wal_getSnap _ (putS snp42) _ ho5.bytes (by omega)).mono ?_
    rw [hP.out]
    rintro e w6 ⟨rfl, hb6⟩
    unfold getSV snpAgg snp42
    dsimp only
    have hR6 := hR5.below hb6
    have hbw6 := hbw5.trans (hb6.mono hbw5.size)
    have y2 := hR6.c2
    dsimp only at y2
    have hq := hQ.out
    unfold snp42 at hq
    generalize (putS ⟨4, 2, ⟨#[49, 50]⟩, ⟨#[100]⟩⟩).length = L at *
    have hq2 : (0 : Int) < (L : Int) := by omega
    have hlt := hR6.lt
    have hcc := (((Below.refl w6.heap.size w6).alloc (Nat.le_refl _) (.cells #[.int .i64 4, .int .i64 2, .string ⟨#[49, 50]⟩, .string ⟨#[100]⟩] 23)).cell (p := ⟨w2.heap.size, 2, none⟩) hlt).trans y2
    clear hR5 hb6 hP hQ ho5 hbw5 hR6
    go_wp2_with fail
    go_ret
    exact ⟨rfl, hbw6.alloc hbw6.size _⟩
end Go.Proofs.Ytihcohneongomaa
