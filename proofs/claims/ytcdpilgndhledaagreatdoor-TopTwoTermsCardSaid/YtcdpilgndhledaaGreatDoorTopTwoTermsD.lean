/-
  No claim by itself: what the rest of TopTwoTerms means. No condition.
-/
import Derived.Test.YtcdpilgndhledaaGreatDoorTD4
namespace Go.Proofs.YtcdpilgndhledaaGreatDoor
set_option linter.unusedVariables false
set_option maxRecDepth 100000 in
noncomputable def R11 (s14 s16 s17 s22 s20 s19 s21 s25 s24 s26 s38 s39 s41 s29 s30 s37 s31 s32 : FS) (x : AV) (h : Hp) (k : AV → Hp → Bool) : Bool := s14 [(.i .i64 9223372036854775813), (.i .i64 9223372036854775813)] h fun x0 h0 =>
 capp 3 (lp 3 fun (x1 : CT 3) x2 x3 x4 h1 =>
 ikK .leq x4 x2 fun x5 =>
 cdK x5 (
 ikK .rem x4 (.i .i64 9223372036854775813) fun x6 =>
 ikK .add (.i .i64 9223372036854775809) x6 fun x7 =>
 capp 5 (lp 5 fun (x8 : CT 5) x9 x10 x11 x12 x13 h2 =>
 ikK .lss x13 (.i .i64 9223372036854775814) fun x14 =>
 gdK x14 true (fun k => k x10 h2) (fun x15 h3 =>
 gdK x14 true (fun k => ncK x15 fun y => k y h3) (fun x16 h4 =>
 gdK x14 true (fun k => faK 0 x16 fun y => k y h4) (fun x17 h5 =>
 gdK x14 true (fun k => ld1 x17 h5 fun y => k y h5) (fun x18 h6 =>
 gdK x14 true (fun k => k x12 h6) (fun x19 h7 =>
 gdK x14 true (fun k => s16 [x18, x19] h7 k) (fun x20 h8 =>
 gdK x14 true (fun k => s17 [x20] h8 k) (fun x21 h9 =>
 gdK x14 true (fun k => s22 [x21] h9 k) (fun x22 h10 =>
 gdK x14 true (fun k => ikK .neq x22 (.i .i64 9223372036854775810) fun y => k y h10) (fun x23 h11 =>
 pkK x14 x23 (.b false) fun x24 =>
 cdK x24 (
 ncK x10 fun x25 =>
 faK 0 x25 fun x26 =>
 ld1 x26 h11 fun x27 =>
 s20 [x27, x12] h11 fun x28 h12 =>
 s19 [x10, x28] h12 fun x29 h13 =>
 s21 [x10] h13 fun x30 h14 =>
 ikK .add x13 (.i .i64 9223372036854775809) fun x31 =>
 x8 x9 x10 x11 x12 x31 h14) (
 ncK x10 fun x32 =>
 faK 0 x32 fun x33 =>
 ld1 x33 h11 fun x34 =>
 s16 [x34, x12] h11 fun x35 h15 =>
 s17 [x35] h15 fun x36 h16 =>
 s22 [x36] h16 fun x37 h17 =>
 ikK .neq x37 (.i .i64 9223372036854775810) fun x38 =>
 cdK x38 (
 k (.b false) h17) (
 s25 [(.s 1 [110]), (.i .i64 9223372036854775809)] h17 fun x39 h18 =>
 bsK 46 9 1 9 [x39] h18 fun x40 h19 =>
 s24 [x10, x11, x40] h19 fun x41 h20 =>
 s26 [x10, x11, x12] h20 fun x42 h21 =>
 capp 3 (lp 3 fun (x43 : CT 3) x44 x45 x46 h22 =>
 ncK x45 fun x47 =>
 faK 0 x47 fun x48 =>
 ld1 x48 h22 fun x49 =>
 s38 [x49] h22 fun x50 h23 =>
 s39 [x50] h23 fun x51 h24 =>
 ikK .gtr x51 (.i .i64 9223372036854775808) fun x52 =>
 cdK x52 (
 ncK x45 fun x53 =>
 faK 0 x53 fun x54 =>
 ld1 x54 h24 fun x55 =>
 s38 [x55] h24 fun x56 h25 =>
 s41 [x56, (.i .i64 9223372036854775808)] h25 fun x57 h26 =>
 x43 x44 x45 x46 h26) (
 ikK .add x46 (.i .i64 9223372036854775809) fun x58 =>
 x1 x44 x45 x58 h24)) [x9, x10, x11] h21))) h10) h9) h8) h7) h6) h5) h4) h3) h2) [x2, x3, x4, x7, (.i .i64 9223372036854775808)] h1) (
 s29 [x3] h1 fun x59 h27 =>
 s30 [x3] h27 fun x60 h28 =>
 capp 3 (lp 3 fun (x61 : CT 3) x62 x63 x64 h29 =>
 ikK .leq x64 (.i .i64 9223372036854775813) fun x65 =>
 cdK x65 (
 s37 [x63, x64, (.s 1 [110]), x62] h29 fun x66 h30 =>
 notK x66 fun x67 =>
 cdK x67 (
 k (.b false) h30) (
 ikK .add x64 (.i .i64 9223372036854775809) fun x68 =>
 x61 x62 x63 x68 h30)) (
 ncK x63 fun x69 =>
 faK 3 x69 fun x70 =>
 ld1 x70 h29 fun x71 =>
 gdK x71 true (fun k => k x63 h29) (fun x72 h31 =>
 gdK x71 true (fun k => s31 [x72, (.i .i64 9223372036854775809)] h31 k) (fun x73 h32 =>
 gdK x71 true (fun k => lnL x73 fun y => k y h32) (fun x74 h33 =>
 gdK x71 true (fun k => k x62 h33) (fun x75 h34 =>
 gdK x71 true (fun k => ikK .eql x74 x75 fun y => k y h34) (fun x76 h35 =>
 pkK x71 x76 (.b false) fun x77 =>
 gdK x77 true (fun k => k x63 h35) (fun x78 h36 =>
 gdK x77 true (fun k => s32 [x78] h36 k) (fun x79 h37 =>
 pkK x77 x79 (.b false) fun x80 =>
 k x80 h37) h36) h35) h34) h33) h32) h31) h29)) [x2, x3, (.i .i64 9223372036854775809)] h28)) [x, x0, (.i .i64 9223372036854775809)] h0
noncomputable def ra11 : Ann := (.s .o (.s (.s .o (.b (.l [0, 4, 5] (.s (.s .o (.i .o .o)) (.s (.b (.s .o (.s (.s .o (.b (.l [0, 4, 5, 6, 7] (.s (.s .o (.i .o .o)) (.s (.b (.s .o .o)) .o))))) (.s (.s .o (.i (.s .o .o) .o)) (.s .o (.s .o (.b (.l [0, 4, 5] (.s (.s .o (.i .o .o)) (.b .o)))))))))) .o))))) (.s .o (.s .o (.s (.s .o (.b (.l [0, 4, 8] (.s (.s .o (.i .o .o)) (.s (.b (.s .o (.i (.s .o .o) .o))) .o))))) (.s .o .o))))))
def GoodTopTwoTerms (i : Nat) : Prop := R11 s14 s16 s17 s22 s20 s19 s21 s25 s24 s26 s38 s39 s41 s29 s30 s37 s31 s32 (.i .i64 (Nat.add 9223372036854775810 i)) h00 (fun y _ => isT y) = true
end Go.Proofs.YtcdpilgndhledaaGreatDoor
