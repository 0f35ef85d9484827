/-
  No claim by itself: what the rest of TopOnce means. No condition.
-/
import Derived.Test.YtcdpilgndhledaaGreatDoorTD4
namespace Go.Proofs.YtcdpilgndhledaaGreatDoor
set_option linter.unusedVariables false
set_option maxRecDepth 100000 in
noncomputable def R7 (s14 s15 s25 s24 s33 s29 s37 s34 s35 s32 : FS) (x y : AV) (h : Hp) (k : AV → Hp → Bool) : Bool := s14 [x, (.i .i64 9223372036854775809)] h fun x0 h0 =>
 s15 [x0, (.i .i64 9223372036854775809)] h0 fun x1 h1 =>
 notK x1 fun x2 =>
 cdK x2 (
 k (.b false) h1) (
 s25 [(.s 1 [110]), (.i .i64 9223372036854775809)] h1 fun x3 h2 =>
 bsK 46 9 1 9 [x3] h2 fun x4 h3 =>
 s24 [x0, (.i .i64 9223372036854775809), x4] h3 fun x5 h4 =>
 capp 4 (lp 4 fun (x6 : CT 4) x7 x8 x9 x10 h5 =>
 ikK .lss x10 x8 fun x11 =>
 cdK x11 (
 capp 5 (lp 5 fun (x12 : CT 5) x13 x14 x15 x16 x17 h6 =>
 ikK .leq x17 x13 fun x18 =>
 cdK x18 (
 s33 [x15, (.i .i64 9223372036854775809), x17] h6 fun x19 h7 =>
 ikK .eql x17 (.i .i64 9223372036854775809) fun x20 =>
 gdK x20 true (fun k => k x19 h7) (fun x21 h8 =>
 gdK x20 true (fun k => ikK .neq x21 (.i .i64 9223372036854775808) fun y => k y h8) (fun x22 h9 =>
 pkK x20 x22 (.b false) fun x23 =>
 gdK x23 false (fun k => k x17 h9) (fun x24 h10 =>
 gdK x23 false (fun k => ikK .neq x24 (.i .i64 9223372036854775809) fun y => k y h10) (fun x25 h11 =>
 gdK x23 false (fun k => k x25 h11) (fun x26 h12 =>
 gdK x26 true (fun k => k x19 h12) (fun x27 h13 =>
 gdK x26 true (fun k => ikK .neq x27 (.i .i64 9223372036854775817) fun y => k y h13) (fun x28 h14 =>
 gdK x23 false (fun k => pkK x26 x28 (.b false) fun y => k y h14) (fun x29 h15 =>
 pkK x23 (.b true) x29 fun x30 =>
 cdK x30 (
 k (.b false) h15) (
 ikK .add x17 (.i .i64 9223372036854775809) fun x31 =>
 x12 x13 x14 x15 x16 x31 h15)) h14) h13) h12) h11) h10) h9) h8) h7) (
 ikK .add x16 (.i .i64 9223372036854775809) fun x32 =>
 x6 x13 x14 x15 x32 h6)) [x7, x8, x9, x10, (.i .i64 9223372036854775809)] h5) (
 s29 [x9] h5 fun x33 h16 =>
 ncK x9 fun x34 =>
 faK 3 x34 fun x35 =>
 ld1 x35 h16 fun x36 =>
 gdK x36 true (fun k => k x9 h16) (fun x37 h17 =>
 gdK x36 true (fun k => s37 [x37, (.i .i64 9223372036854775809), (.s 1 [110]), (.i .i64 9223372036854775809)] h17 k) (fun x38 h18 =>
 pkK x36 x38 (.b false) fun x39 =>
 gdK x39 true (fun k => k x9 h18) (fun x40 h19 =>
 gdK x39 true (fun k => ncK x40 fun y => k y h19) (fun x41 h20 =>
 gdK x39 true (fun k => faK 0 x41 fun y => k y h20) (fun x42 h21 =>
 gdK x39 true (fun k => ld1 x42 h21 fun y => k y h21) (fun x43 h22 =>
 gdK x39 true (fun k => s34 [x43, (.i .i64 9223372036854775809)] h22 k) (fun x44 h23 =>
 gdK x39 true (fun k => s35 [x44] h23 k) (fun x45 h24 =>
 gdK x39 true (fun k => lnL x45 fun y => k y h24) (fun x46 h25 =>
 gdK x39 true (fun k => ikK .eql x46 (.i .i64 9223372036854775809) fun y => k y h25) (fun x47 h26 =>
 pkK x39 x47 (.b false) fun x48 =>
 gdK x48 true (fun k => k x9 h26) (fun x49 h27 =>
 gdK x48 true (fun k => s32 [x49] h27 k) (fun x50 h28 =>
 pkK x48 x50 (.b false) fun x51 =>
 k x51 h28) h27) h26) h25) h24) h23) h22) h21) h20) h19) h18) h17) h16)) [x, y, x0, (.i .i64 9223372036854775808)] h4)
noncomputable def ra7 : Ann := (.s .o (.s (.s .o (.i (.s .o .o) .o)) (.s .o (.s (.s .o (.b (.l [0, 1, 6, 7] (.s (.s .o (.i .o .o)) (.s (.b (.s .o (.b (.l [0, 1, 6, 7, 8] (.s (.s .o (.i .o .o)) (.s (.b (.s .o (.s .o (.i (.s .o .o) .o)))) .o)))))) .o))))) (.s .o (.s .o .o))))))
def GoodTopOnce (i j : Nat) : Prop := R7 s14 s15 s25 s24 s33 s29 s37 s34 s35 s32 (.i .i64 (Nat.add 9223372036854775809 i)) (.i .i64 (Nat.add 9223372036854775809 j)) h00 (fun y _ => isT y) = true
end Go.Proofs.YtcdpilgndhledaaGreatDoor
