/-
  No claim by itself: the contracts of num.Put, num.Get, num.PutText, num.GetText, num.Four, of the document's Put, Get, PutText, GetText, and of Cut: each answers what the plain function answers. Conditions: the slice reads as bytes; what is written to is the call's own.
-/
import Derived.Test.YtihcohneongomaaRows
import Derived.Test.YtihcohneongomaaBase
import Derived.Test.YtihcohneongomaaNumPlain
import Derived.Deep.DeepCutAuto
import Derived.Deep.Cut
namespace Go.Proofs.Ytihcohneongomaa
open Go.RowKit

theorem info8 : (Try.prog.info? 5).map (fun i => (i.zero, i.size, i.bytes)) = some (some (.int .u8 0), 1, 1) := by kernel_rfl

theorem max_xor (x : Nat) (h : x < 18446744073709551616) : 18446744073709551615 ^^^ x = 18446744073709551615 - x := by
  have e1 : (BitVec.allOnes 64 ^^^ BitVec.ofNat 64 x) = ~~~(BitVec.ofNat 64 x) := BitVec.allOnes_xor
  have e2 := congrArg BitVec.toNat e1
  rw [BitVec.toNat_xor, BitVec.toNat_not, BitVec.toNat_allOnes, BitVec.toNat_ofNat, Nat.mod_eq_of_lt (by simpa using h)] at e2
  simpa using e2

theorem xor_u64 (x : Int) (h0 : 0 ≤ x) (h1 : x < 18446744073709551616) : bits .xor .u64 IntKind.u64.max x = 18446744073709551615 - x := by
  obtain ⟨y, rfl⟩ := Int.eq_ofNat_of_zero_le h0
  rw [show IntKind.u64.max = ((18446744073709551615 : Nat) : Int) by decide, u64_xor_nat _ _ (by omega) (by omega), max_xor y (by omega)]
  omega

theorem zig_neg (n : Int) (hn0 : -9223372036854775808 ≤ n) (hn : n < 0) : bits .xor .u64 IntKind.u64.max (IntKind.u64.wrap (IntKind.u64.wrap n * 2)) = (zig n : Nat) := by
  rw [IntKind.wrap_u64, IntKind.wrap_u64, xor_u64 _ (by omega) (by omega)]
  unfold zig
  rw [if_pos hn]
  omega
theorem zig_pos (n : Int) (hn1 : n ≤ 9223372036854775807) (hn : ¬ n < 0) : IntKind.u64.wrap (IntKind.u64.wrap n * 2) = ((zig n : Nat) : Int) := by
  rw [IntKind.wrap_u64, IntKind.wrap_u64]
  unfold zig
  rw [if_neg hn]
  omega

theorem or128 (u : Nat) (h : u < 18446744073709551616) : bits .or .u8 ((u : Int) % 256) 128 = ((u % 128 + 128 : Nat) : Int) := by
  rw [show ((u : Int) % 256) = ((u % 256 : Nat) : Int) by omega, show (128 : Int) = ((128 : Nat) : Int) by rfl, u8_or_nat _ _ (by omega) (by omega)]
  congr 1
  have h1 : u % 256 = u % 128 ∨ u % 256 = u % 128 + 128 := by omega
  have h2 : u % 128 < 128 := by omega
  generalize u % 128 = m at *
  generalize u % 256 = k at *
  have key : ∀ m : Fin 128, (m.val ||| 128 = m.val + 128) ∧ ((m.val + 128) ||| 128 = m.val + 128) := by decide
  rcases h1 with rfl | rfl
  · exact (key ⟨_, h2⟩).1
  · exact (key ⟨_, h2⟩).2

theorem num_put (v : Value) (l : List UInt8) (n : Int) (B : Nat) (w : World) (hn0 : -9223372036854775808 ≤ n) (hn1 : n ≤ 9223372036854775807) (hl : l.length ≤ 140737488355000) (hB : B ≤ w.heap.size) (ho : OwnB w B 5 v l) :
    Calls Try.prog 68 #[v, .int .i64 n] w fun e w' => RetOwn w B 5 v (l ++ putN n) e w' := by
  have hz := zig_lt hn0 hn1
  go_enter Try.func68, Try.ntmps68
  go_upto_if 10 with fail
  go_cut [5] (fun s wx => s = .int .u64 (zig n : Nat) ∧ wx = w)
  case first =>
    have H1 := Lib.hid (zig_neg n hn0)
    have H2 := Lib.hid (zig_pos n hn1)
    by_cases hneg : n < 0
    · go_wp2_with fail
      go_meet
      exact ⟨congrArg (Value.int .u64) (H1.out hneg), rfl⟩
    · go_wp2_with fail
      go_meet
      exact ⟨congrArg (Value.int .u64) (H2.out hneg), rfl⟩
  case rest =>
    obtain ⟨rfl, rfl⟩ := hcut
    clear hn0 hn1
    go_wp2_with fail
    go_loopw [0, 5] (fun s x wr => ∃ (f u : Nat) (done : List UInt8), putN n = done ++ leb f u ∧ u < 2 * 128 ^ f ∧ done.length + f = 9 ∧ x = .int .u64 u ∧ OwnB wr B 5 s (l ++ done) ∧ wc.grownBy wr v.ownBlock ∧ (∀ k, s.ownBlock = some k → v.ownBlock = some k ∨ wc.heap.size ≤ k)) (fun _ x _ => (intOf x).toNat)
    case atStart => exact ⟨9, zig n, [], rfl, by omega, rfl, rfl, by rw [List.append_nil]; exact ho, World.grownBy.refl _ _, fun k hk => .inl hk⟩
    case round =>
      obtain ⟨f, u, done, hput, hu, hd, rfl, hown, hgr, hrow⟩ := hrel
      have HPUT := Lib.hid hput
      clear hput
      have hu64 : u < 18446744073709551616 := by
        have : 128 ^ f ≤ 128 ^ 9 := Nat.pow_le_pow_right (by omega) (by omega)
        omega
      have hsz := hgr.size
      by_cases hlt : 127 < u
      · obtain ⟨f, rfl⟩ : ∃ f', f = f' + 1 := ⟨f - 1, by
          rcases f with _ | f
          · simp at hu; omega
          · rfl⟩
        have HARR : Hid (#[Value.int .u8 (bits .or .u8 ((u : Int) % 256) 128)] = ([UInt8.ofNat (u % 128 + 128)].map byteV).toArray) := Lib.hid (by
          rw [or128 u hu64]
          simp [byteV, show (u % 128 + 128) % 256 = u % 128 + 128 by omega])
        have HC : Hid (leb (f + 1) u = UInt8.ofNat (u % 128 + 128) :: leb f (u / 128)) := Lib.hid (by rw [leb, if_neg (by omega)])
        generalize UInt8.ofNat (u % 128 + 128) = c at *
        go_wp2_with (at_builtin; refine wpList_append_bytes 62 B 5 Try.underlying62 info8 rfl _ _ rfl (hown.alloc _) (Bytes.fresh wr [c] _ (0, 0) _ 1 rfl HARR.out (by simp)) rfl rfl (by simp; omega) (by simp; omega) ?_)
        intro v2 w2 ho2 hg2 hk2
        have hg3 : wc.grownBy w2 v.ownBlock := grownBy_trans (grownBy_trans hgr (World.grownBy_alloc wr _ none) (by simp)) hg2 (fun x hx => (hrow x hx).symm.imp id id)
        have hk3 : ∀ k, v2.ownBlock = some k → v.ownBlock = some k ∨ wc.heap.size ≤ k := fun k hk => by
          rcases hk2 k hk with h | h
          · exact hrow k h
          · right; first | omega | (simp at h; omega)
        have HK3 := Lib.hid hk3
        clear hk3 hk2 hrow hg2 hgr hown
        go_wp2_with fail
        go_roundw
        case rel =>
          refine ⟨f, u / 128, done ++ [c], ?_, ?_, by simp; omega, by go_num, ho2, hg3, HK3.out⟩
          · rw [HPUT.out, HC.out]
            simp
          · rw [Nat.pow_succ] at hu; omega
        case measure => simp [intOf]; omega
      · have HARR : Hid (#[Value.int .u8 (u : Int)] = ([UInt8.ofNat u].map byteV).toArray) := Lib.hid (by
          simp [byteV, show u % 256 = u by omega])
        go_wp2_with (at_builtin; refine wpList_append_bytes 62 B 5 Try.underlying62 info8 rfl _ _ rfl (hown.alloc _) (Bytes.fresh wr [UInt8.ofNat u] _ (0, 0) _ 1 rfl HARR.out (by simp)) rfl rfl (by simp; omega) (by simp; omega) ?_)
        intro v2 w2 ho2 hg2 hk2
        have hg3 : wc.grownBy w2 v.ownBlock := grownBy_trans (grownBy_trans hgr (World.grownBy_alloc wr _ none) (by simp)) hg2 (fun x hx => (hrow x hx).symm.imp id id)
        have hk3 : ∀ k, v2.ownBlock = some k → v.ownBlock = some k ∨ wc.heap.size ≤ k := fun k hk => by
          rcases hk2 k hk with h | h
          · exact hrow k h
          · right; first | omega | (simp at h; omega)
        have HK3 := Lib.hid hk3
        clear hk3 hk2 hrow hg2 hgr hown
        go_wp2_with fail
        go_ret
        refine ⟨v2, rfl, ?_, hg3, HK3.out⟩
        have e : leb f u = [UInt8.ofNat u] := by
          cases f with
          | zero => rfl
          | succ f => rw [leb, if_pos (by omega)]
        rw [HPUT.out, e]
        first | exact ho2 | (rw [← List.append_assoc]; exact ho2)
end Go.Proofs.Ytihcohneongomaa
