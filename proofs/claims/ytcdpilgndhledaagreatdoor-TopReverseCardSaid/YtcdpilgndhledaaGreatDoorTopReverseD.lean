/-
  No claim by itself: what the rest of TopReverse means. No condition.
-/
import Derived.Test.YtcdpilgndhledaaGreatDoorTD4
namespace Go.Proofs.YtcdpilgndhledaaGreatDoor
set_option linter.unusedVariables false
set_option maxRecDepth 100000 in
noncomputable def R10 (s14 s25 s24 s20 s19 s38 s39 s40 s42 s32 s29 s37 : FS) (x : AV) (h : Hp) (k : AV → Hp → Bool) : Bool := s14 [(.i .i64 9223372036854775811), (.i .i64 9223372036854775809)] h fun x0 h0 =>
 capp 3 (lp 3 fun (x1 : CT 3) x2 x3 x4 h1 =>
 ikK .lss x4 x2 fun x5 =>
 cdK x5 (
 s25 [(.s 1 [110]), (.i .i64 9223372036854775809)] h1 fun x6 h2 =>
 bsK 46 9 1 9 [x6] h2 fun x7 h3 =>
 s24 [x3, (.i .i64 9223372036854775809), x7] h3 fun x8 h4 =>
 ikK .add x4 (.i .i64 9223372036854775809) fun x9 =>
 x1 x2 x3 x9 h4) (
 capp 3 (lp 3 fun (x10 : CT 3) x11 x12 x13 h5 =>
 ikK .lss x13 (.i .i64 9223372036854775814) fun x14 =>
 cdK x14 (
 capp 4 (lp 4 fun (x15 : CT 4) x16 x17 x18 x19 h6 =>
 ikK .leq x19 (.i .i64 9223372036854775811) fun x20 =>
 cdK x20 (
 ncK x17 fun x21 =>
 faK 0 x21 fun x22 =>
 ld1 x22 h6 fun x23 =>
 s20 [x23, x19] h6 fun x24 h7 =>
 s19 [x17, x24] h7 fun x25 h8 =>
 capp 5 (lp 5 fun (x26 : CT 5) x27 x28 x29 x30 x31 h9 =>
 ikK .lss x31 (.i .i64 9223372036854776308) fun x32 =>
 gdK x32 true (fun k => k x28 h9) (fun x33 h10 =>
 gdK x32 true (fun k => ncK x33 fun y => k y h10) (fun x34 h11 =>
 gdK x32 true (fun k => faK 0 x34 fun y => k y h11) (fun x35 h12 =>
 gdK x32 true (fun k => ld1 x35 h12 fun y => k y h12) (fun x36 h13 =>
 gdK x32 true (fun k => s38 [x36] h13 k) (fun x37 h14 =>
 gdK x32 true (fun k => s39 [x37] h14 k) (fun x38 h15 =>
 gdK x32 true (fun k => ikK .gtr x38 (.i .i64 9223372036854775808) fun y => k y h15) (fun x39 h16 =>
 pkK x32 x39 (.b false) fun x40 =>
 cdK x40 (
 ncK x28 fun x41 =>
 faK 0 x41 fun x42 =>
 ld1 x42 h16 fun x43 =>
 ncK x28 fun x44 =>
 faK 0 x44 fun x45 =>
 ld1 x45 h16 fun x46 =>
 s38 [x46] h16 fun x47 h17 =>
 s39 [x47] h17 fun x48 h18 =>
 ikK .sub x48 (.i .i64 9223372036854775809) fun x49 =>
 s40 [x43, x49, (.b false)] h18 fun x50 h19 =>
 ld1 x42 h17 fun x51 => ifT (avEq x51 x43) <|
 ld1 x42 h18 fun x52 => ifT (avEq x52 x43) <|
 ikK .add x31 (.i .i64 9223372036854775809) fun x53 =>
 x26 x27 x28 x29 x30 x53 h19) (
 ncK x28 fun x54 =>
 faK 0 x54 fun x55 =>
 ld1 x55 h16 fun x56 =>
 s42 [x56, (.i .i64 9223372036854775809), x30] h16 fun x57 h20 =>
 ikK .add x30 (.i .i64 9223372036854775809) fun x58 =>
 x15 x27 x28 x29 x58 h20)) h15) h14) h13) h12) h11) h10) h9) [x16, x17, x18, x19, (.i .i64 9223372036854775808)] h8) (
 s32 [x17] h6 fun x59 h21 =>
 notK x59 fun x60 =>
 cdK x60 (
 k (.b false) h21) (
 ikK .add x18 (.i .i64 9223372036854775809) fun x61 =>
 x10 x16 x17 x61 h21))) [x11, x12, x13, (.i .i64 9223372036854775809)] h5) (
 s29 [x12] h5 fun x62 h22 =>
 ncK x12 fun x63 =>
 faK 3 x63 fun x64 =>
 ld1 x64 h22 fun x65 =>
 gdK x65 true (fun k => k x12 h22) (fun x66 h23 =>
 gdK x65 true (fun k => k x11 h23) (fun x67 h24 =>
 gdK x65 true (fun k => s37 [x66, (.i .i64 9223372036854775809), (.s 1 [110]), x67] h24 k) (fun x68 h25 =>
 pkK x65 x68 (.b false) fun x69 =>
 gdK x69 true (fun k => k x12 h25) (fun x70 h26 =>
 gdK x69 true (fun k => s32 [x70] h26 k) (fun x71 h27 =>
 pkK x69 x71 (.b false) fun x72 =>
 k x72 h27) h26) h25) h24) h23) h22)) [x2, x3, (.i .i64 9223372036854775808)] h1)) [x, x0, (.i .i64 9223372036854775808)] h0
noncomputable def ra10 : Ann := (.s .o (.s (.s .o (.b (.l [0, 4, 5] (.s (.s .o (.i .o .o)) (.s (.b .o) .o))))) (.s (.s .o (.b (.l [0, 4, 6] (.s (.s .o (.i .o .o)) (.s (.b (.s (.s .o (.b (.l [0, 4, 6, 7] (.s (.s .o (.i .o .o)) (.s (.b (.s .o (.s (.s .o (.b (.l [0, 4, 6, 7, 8] (.s (.s .o (.i .o .o)) (.s (.b (.g [0, 1, 2, 3, 4, 5, 6, 7, 8, 9, 10, 11])) .o))))) .o))) .o))))) (.s .o (.i (.s .o .o) .o)))) .o))))) (.s .o (.s .o .o)))))
def GoodTopReverse (i : Nat) : Prop := R10 s14 s25 s24 s20 s19 s38 s39 s40 s42 s32 s29 s37 (.i .i64 (Nat.add 9223372036854775809 i)) h00 (fun y _ => isT y) = true
end Go.Proofs.YtcdpilgndhledaaGreatDoor
