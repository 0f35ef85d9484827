/-
  No claim by itself: what the rest of TopTwice means. No condition.
-/
import Derived.Test.YtcdpilgndhledaaGreatDoorTD4
namespace Go.Proofs.YtcdpilgndhledaaGreatDoor
set_option linter.unusedVariables false
set_option maxRecDepth 100000 in
noncomputable def R9 (s14 s15 s25 s24 s26 s38 s39 s40 s41 s21 s28 s29 s37 s31 s32 : FS) (x y : AV) (h : Hp) (k : AV → Hp → Bool) : Bool := s14 [(.i .i64 9223372036854775811), (.i .i64 9223372036854775809)] h fun x0 h0 =>
 s15 [x0, (.i .i64 9223372036854775809)] h0 fun x1 h1 =>
 notK x1 fun x2 =>
 cdK x2 (
 k (.b false) h1) (
 capp 4 (lp 4 fun (x3 : CT 4) x4 x5 x6 x7 h2 =>
 ikK .lss x7 x4 fun x8 =>
 cdK x8 (
 s25 [(.s 1 [110]), (.i .i64 9223372036854775809)] h2 fun x9 h3 =>
 bsK 46 9 1 9 [x9] h3 fun x10 h4 =>
 s24 [x6, (.i .i64 9223372036854775809), x10] h4 fun x11 h5 =>
 s26 [x6, (.i .i64 9223372036854775809), (.i .i64 9223372036854775809)] h5 fun x12 h6 =>
 capp 5 (lp 5 fun (x13 : CT 5) x14 x15 x16 x17 x18 h7 =>
 ikK .lss x18 (.i .i64 9223372036854776108) fun x19 =>
 gdK x19 true (fun k => k x16 h7) (fun x20 h8 =>
 gdK x19 true (fun k => ncK x20 fun y => k y h8) (fun x21 h9 =>
 gdK x19 true (fun k => faK 0 x21 fun y => k y h9) (fun x22 h10 =>
 gdK x19 true (fun k => ld1 x22 h10 fun y => k y h10) (fun x23 h11 =>
 gdK x19 true (fun k => s38 [x23] h11 k) (fun x24 h12 =>
 gdK x19 true (fun k => s39 [x24] h12 k) (fun x25 h13 =>
 gdK x19 true (fun k => ikK .gtr x25 (.i .i64 9223372036854775808) fun y => k y h13) (fun x26 h14 =>
 pkK x19 x26 (.b false) fun x27 =>
 cdK x27 (
 capp 6 (lp 6 fun (x28 : CT 6) x29 x30 x31 x32 x33 x34 h15 =>
 ikK .lss x34 x30 fun x35 =>
 cdK x35 (
 ncK x31 fun x36 =>
 faK 0 x36 fun x37 =>
 ld1 x37 h15 fun x38 =>
 s40 [x38, (.i .i64 9223372036854775808), (.b true)] h15 fun x39 h16 =>
 ikK .add x34 (.i .i64 9223372036854775809) fun x40 =>
 x28 x29 x30 x31 x32 x33 x40 h16) (
 ncK x31 fun x41 =>
 faK 0 x41 fun x42 =>
 ld1 x42 h15 fun x43 =>
 s40 [x43, (.i .i64 9223372036854775808), (.b false)] h15 fun x44 h17 =>
 ncK x31 fun x45 =>
 faK 0 x45 fun x46 =>
 ld1 x46 h17 fun x47 =>
 s38 [x47] h17 fun x48 h18 =>
 s39 [x48] h18 fun x49 h19 =>
 ikK .gtr x49 (.i .i64 9223372036854775908) fun x50 =>
 jn 5 (fun x51 : CT 5 =>
 cdK x50 (
 capp 5 (lp 5 fun (x52 : CT 5) x53 x54 x55 x56 x57 h20 =>
 ncK x55 fun x58 =>
 faK 0 x58 fun x59 =>
 ld1 x59 h20 fun x60 =>
 s38 [x60] h20 fun x61 h21 =>
 s39 [x61] h21 fun x62 h22 =>
 ikK .gtr x62 (.i .i64 9223372036854775828) fun x63 =>
 cdK x63 (
 ncK x55 fun x64 =>
 faK 0 x64 fun x65 =>
 ld1 x65 h22 fun x66 =>
 s38 [x66] h22 fun x67 h23 =>
 s41 [x67, (.i .i64 9223372036854775808)] h23 fun x68 h24 =>
 x52 x53 x54 x55 x56 x57 h24) (
 x51 x53 x54 x55 x56 x57 h22)) [x29, x30, x31, x32, x33] h19) (
 x51 x29 x30 x31 x32 x33 h19)) fun x69 x70 x71 x72 x73 h25 =>
 ikK .add x73 (.i .i64 9223372036854775809) fun x74 =>
 x13 x69 x70 x71 x72 x74 h25)) [x14, x15, x16, x17, x18, (.i .i64 9223372036854775809)] h14) (
 s21 [x16] h14 fun x75 h26 =>
 s28 [x16, (.i .i64 9223372036854775809), (.i .i64 9223372036854775809)] h26 fun x76 h27 =>
 ikK .add x17 (.i .i64 9223372036854775809) fun x77 =>
 x3 x14 x15 x16 x77 h27)) h13) h12) h11) h10) h9) h8) h7) [x4, x5, x6, x7, (.i .i64 9223372036854775808)] h6) (
 s29 [x6] h2 fun x78 h28 =>
 ncK x6 fun x79 =>
 faK 3 x79 fun x80 =>
 ld1 x80 h28 fun x81 =>
 gdK x81 true (fun k => k x6 h28) (fun x82 h29 =>
 gdK x81 true (fun k => k x4 h29) (fun x83 h30 =>
 gdK x81 true (fun k => s37 [x82, (.i .i64 9223372036854775809), (.s 1 [110]), x83] h30 k) (fun x84 h31 =>
 pkK x81 x84 (.b false) fun x85 =>
 gdK x85 true (fun k => k x6 h31) (fun x86 h32 =>
 gdK x85 true (fun k => s31 [x86, (.i .i64 9223372036854775809)] h32 k) (fun x87 h33 =>
 gdK x85 true (fun k => lnL x87 fun y => k y h33) (fun x88 h34 =>
 gdK x85 true (fun k => k x4 h34) (fun x89 h35 =>
 gdK x85 true (fun k => ikK .eql x88 x89 fun y => k y h35) (fun x90 h36 =>
 pkK x85 x90 (.b false) fun x91 =>
 gdK x91 true (fun k => k x6 h36) (fun x92 h37 =>
 gdK x91 true (fun k => s32 [x92] h37 k) (fun x93 h38 =>
 pkK x91 x93 (.b false) fun x94 =>
 k x94 h38) h37) h36) h35) h34) h33) h32) h31) h30) h29) h28)) [x, y, x0, (.i .i64 9223372036854775808)] h1)
noncomputable def ra9 : Ann := (.s .o (.s (.s .o (.i (.s .o .o) .o)) (.s (.s .o (.b (.l [0, 1, 6, 7] (.s (.s .o (.i .o .o)) (.s (.b (.s .o (.s .o (.s (.s .o (.b (.l [0, 1, 6, 7, 8] (.s (.s .o (.i .o .o)) (.s (.b (.s (.s .o (.b (.l [0, 1, 6, 7, 8, 9] (.s (.s .o (.i .o .o)) (.s (.b .o) .o))))) (.s .o (.s .o (.j [0, 1, 6, 7, 8] (.b (.l [0, 1, 6, 7, 8] (.s (.s .o (.i .o .o)) (.b .o)))) .o))))) .o))))) (.s .o .o))))) .o))))) (.s .o (.s .o .o)))))
def GoodTopTwice (i j : Nat) : Prop := R9 s14 s15 s25 s24 s26 s38 s39 s40 s41 s21 s28 s29 s37 s31 s32 (.i .i64 (Nat.add 9223372036854775809 i)) (.i .i64 (Nat.add 9223372036854775810 j)) h00 (fun y _ => isT y) = true
end Go.Proofs.YtcdpilgndhledaaGreatDoor
