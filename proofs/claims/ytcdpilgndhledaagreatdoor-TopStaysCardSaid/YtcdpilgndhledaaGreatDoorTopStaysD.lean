/-
  No claim by itself: what the rest of TopStays means. No condition.
-/
import Derived.Test.YtcdpilgndhledaaGreatDoorTD4
namespace Go.Proofs.YtcdpilgndhledaaGreatDoor
set_option linter.unusedVariables false
set_option maxRecDepth 100000 in
noncomputable def R3 (s14 s15 s16 s17 s18 s20 s19 s21 s22 : FS) (x y : AV) (h : Hp) (k : AV → Hp → Bool) : Bool := s14 [x, (.i .i64 9223372036854775809)] h fun x0 h0 =>
 s15 [x0, (.i .i64 9223372036854775809)] h0 fun x1 h1 =>
 notK x1 fun x2 =>
 cdK x2 (
 k (.b false) h1) (
 ncK x0 fun x3 =>
 faK 0 x3 fun x4 =>
 ld1 x4 h1 fun x5 =>
 s16 [x5, (.i .i64 9223372036854775809)] h1 fun x6 h2 =>
 s17 [x6] h2 fun x7 h3 =>
 s18 [x7] h3 fun x8 h4 =>
 fdK 0 false 1 x8 fun x9 =>
 capp 5 (lp 5 fun (x10 : CT 5) x11 x12 x13 x14 x15 h5 =>
 ikK .lss x15 x12 fun x16 =>
 cdK x16 (
 capp 6 (lp 6 fun (x17 : CT 6) x18 x19 x20 x21 x22 x23 h6 =>
 ikK .leq x23 x18 fun x24 =>
 cdK x24 (
 ncK x20 fun x25 =>
 faK 0 x25 fun x26 =>
 ld1 x26 h6 fun x27 =>
 s20 [x27, x23] h6 fun x28 h7 =>
 s19 [x20, x28] h7 fun x29 h8 =>
 s21 [x20] h8 fun x30 h9 =>
 ikK .add x23 (.i .i64 9223372036854775809) fun x31 =>
 x17 x18 x19 x20 x21 x22 x31 h9) (
 ikK .add x22 (.i .i64 9223372036854775809) fun x32 =>
 x10 x18 x19 x20 x21 x32 h6)) [x11, x12, x13, x14, x15, (.i .i64 9223372036854775809)] h5) (
 ncK x13 fun x33 =>
 faK 3 x33 fun x34 =>
 ld1 x34 h5 fun x35 =>
 gdK x35 true (fun k => k x13 h5) (fun x36 h10 =>
 gdK x35 true (fun k => ncK x36 fun y => k y h10) (fun x37 h11 =>
 gdK x35 true (fun k => faK 0 x37 fun y => k y h11) (fun x38 h12 =>
 gdK x35 true (fun k => ld1 x38 h12 fun y => k y h12) (fun x39 h13 =>
 gdK x35 true (fun k => s16 [x39, (.i .i64 9223372036854775809)] h13 k) (fun x40 h14 =>
 gdK x35 true (fun k => s17 [x40] h14 k) (fun x41 h15 =>
 gdK x35 true (fun k => s22 [x41] h15 k) (fun x42 h16 =>
 gdK x35 true (fun k => ikK .eql x42 (.i .i64 9223372036854775810) fun y => k y h16) (fun x43 h17 =>
 pkK x35 x43 (.b false) fun x44 =>
 gdK x44 true (fun k => k x13 h17) (fun x45 h18 =>
 gdK x44 true (fun k => ncK x45 fun y => k y h18) (fun x46 h19 =>
 gdK x44 true (fun k => faK 0 x46 fun y => k y h19) (fun x47 h20 =>
 gdK x44 true (fun k => ld1 x47 h20 fun y => k y h20) (fun x48 h21 =>
 gdK x44 true (fun k => s16 [x48, (.i .i64 9223372036854775809)] h21 k) (fun x49 h22 =>
 gdK x44 true (fun k => s17 [x49] h22 k) (fun x50 h23 =>
 gdK x44 true (fun k => s18 [x50] h23 k) (fun x51 h24 =>
 gdK x44 true (fun k => fdK 0 false 1 x51 fun y => k y h24) (fun x52 h25 =>
 gdK x44 true (fun k => k x14 h25) (fun x53 h26 =>
 gdK x44 true (fun k => ikK .eql x52 x53 fun y => k y h26) (fun x54 h27 =>
 pkK x44 x54 (.b false) fun x55 =>
 k x55 h27) h26) h25) h24) h23) h22) h21) h20) h19) h18) h17) h16) h15) h14) h13) h12) h11) h10) h5)) [x, y, x0, x9, (.i .i64 9223372036854775808)] h4)
noncomputable def ra3 : Ann := (.s .o (.s (.s .o (.i (.s .o .o) .o)) (.s .o (.s (.s .o (.b (.l [0, 1, 6, 7, 8] (.s (.s .o (.i .o .o)) (.s (.b (.s .o (.b (.l [0, 1, 6, 7, 8, 9] (.s (.s .o (.i .o .o)) (.s (.b (.s .o .o)) .o)))))) .o))))) (.s .o .o)))))
def GoodTopStays (i j : Nat) : Prop := R3 s14 s15 s16 s17 s18 s20 s19 s21 s22 (.i .i64 (Nat.add 9223372036854775809 i)) (.i .i64 (Nat.add 9223372036854775808 j)) h00 (fun y _ => isT y) = true
end Go.Proofs.YtcdpilgndhledaaGreatDoor
