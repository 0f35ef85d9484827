/-
  No claim by itself: what the rest of TopFar means. No condition.
-/
import Derived.Test.YtcdpilgndhledaaGreatDoorTD4
namespace Go.Proofs.YtcdpilgndhledaaGreatDoor
set_option linter.unusedVariables false
set_option maxRecDepth 100000 in
noncomputable def R6 (s14 s15 s25 s24 s33 s28 s34 s35 s36 s19 s37 : FS) (x : AV) (h : Hp) (k : AV → Hp → Bool) : Bool := s14 [(.i .i64 9223372036854775809), (.i .i64 9223372036854775810)] h fun x0 h0 =>
 s15 [x0, (.i .i64 9223372036854775809)] h0 fun x1 h1 =>
 notK x1 fun x2 =>
 cdK x2 (
 k (.b false) h1) (
 capp 3 (lp 3 fun (x3 : CT 3) x4 x5 x6 h2 =>
 ikK .lss x6 x4 fun x7 =>
 cdK x7 (
 s25 [(.s 1 [110]), (.i .i64 9223372036854775809)] h2 fun x8 h3 =>
 bsK 46 9 1 9 [x8] h3 fun x9 h4 =>
 s24 [x5, (.i .i64 9223372036854775809), x9] h4 fun x10 h5 =>
 s33 [x5, (.i .i64 9223372036854775809), (.i .i64 9223372036854775809)] h5 fun x11 h6 =>
 ikK .neq x11 (.i .i64 9223372036854775808) fun x12 =>
 cdK x12 (
 k (.b false) h6) (
 s28 [x5, (.i .i64 9223372036854775809), (.i .i64 9223372036854775809)] h6 fun x13 h7 =>
 ikK .add x6 (.i .i64 9223372036854775809) fun x14 =>
 x3 x4 x5 x14 h7)) (
 ncK x5 fun x15 =>
 faK 0 x15 fun x16 =>
 ld1 x16 h2 fun x17 =>
 s34 [x17, (.i .i64 9223372036854775810)] h2 fun x18 h8 =>
 capp 4 (lp 4 fun (x19 : CT 4) x20 x21 x22 x23 h9 =>
 s35 [x22] h9 fun x24 h10 =>
 lnL x24 fun x25 =>
 ikK .lss x25 x20 fun x26 =>
 cdK x26 (
 s35 [x22] h10 fun x27 h11 =>
 lnL x27 fun x28 =>
 ncK x21 fun x29 =>
 faK 0 x29 fun x30 =>
 ld1 x30 h11 fun x31 =>
 s36 [x31, (.i .i64 9223372036854775810), (.i .i64 9223372036854775809)] h11 fun x32 h12 =>
 s19 [x21, x32] h12 fun x33 h13 =>
 s35 [x22] h13 fun x34 h14 =>
 lnL x34 fun x35 =>
 ikK .add x28 (.i .i64 9223372036854775818) fun x36 =>
 mmL mnK [x36] x20 fun x37 =>
 ikK .neq x35 x37 fun x38 =>
 gdK x38 false (fun k => k x23 h14) (fun x39 h15 =>
 gdK x38 false (fun k => ikK .gtr x39 (.i .i64 9223372036854775818) fun y => k y h15) (fun x40 h16 =>
 pkK x38 (.b true) x40 fun x41 =>
 cdK x41 (
 k (.b false) h16) (
 ikK .add x23 (.i .i64 9223372036854775809) fun x42 =>
 x19 x20 x21 x22 x42 h16)) h15) h14) (
 ncK x21 fun x43 =>
 faK 3 x43 fun x44 =>
 ld1 x44 h10 fun x45 =>
 gdK x45 true (fun k => k x20 h10) (fun x46 h17 =>
 gdK x45 true (fun k => ikK .eql x46 (.i .i64 9223372036854775808) fun y => k y h17) (fun x47 h18 =>
 gdK x45 true (fun k => k x47 h18) (fun x48 h19 =>
 gdK x48 false (fun k => k x21 h19) (fun x49 h20 =>
 gdK x48 false (fun k => k x20 h20) (fun x50 h21 =>
 gdK x48 false (fun k => s37 [x49, (.i .i64 9223372036854775810), (.s 1 [110]), x50] h21 k) (fun x51 h22 =>
 gdK x45 true (fun k => pkK x48 (.b true) x51 fun y => k y h22) (fun x52 h23 =>
 pkK x45 x52 (.b false) fun x53 =>
 k x53 h23) h22) h21) h20) h19) h18) h17) h10)) [x4, x5, x18, (.i .i64 9223372036854775808)] h8)) [x, x0, (.i .i64 9223372036854775808)] h1)
noncomputable def ra6 : Ann := (.s .o (.s (.s .o (.i (.s .o .o) .o)) (.s (.s .o (.b (.l [0, 4, 5] (.s (.s .o (.i .o .o)) (.s (.b (.s .o (.s (.s .o (.i (.s .o .o) .o)) .o))) .o))))) (.s .o (.s (.s .o (.b (.l [0, 4, 6, 7] (.s (.s .o (.i .o .o)) (.s (.b (.s .o (.s .o (.s .o (.i (.s .o .o) .o))))) .o))))) (.s .o .o))))))
def GoodTopFar (i : Nat) : Prop := R6 s14 s15 s25 s24 s33 s28 s34 s35 s36 s19 s37 (.i .i64 (Nat.add 9223372036854775808 i)) h00 (fun y _ => isT y) = true
end Go.Proofs.YtcdpilgndhledaaGreatDoor
