/-
  No claim by itself: what the rest of TopStale means. No condition.
-/
import Derived.Test.YtcdpilgndhledaaGreatDoorTD4
namespace Go.Proofs.YtcdpilgndhledaaGreatDoor
set_option linter.unusedVariables false
set_option maxRecDepth 100000 in
noncomputable def R5 (s14 s15 s25 s24 s26 s27 s28 s20 s19 s21 s16 s17 s22 s29 s30 s31 s32 : FS) (x : AV) (h : Hp) (k : AV → Hp → Bool) : Bool := s14 [(.i .i64 9223372036854775811), (.i .i64 9223372036854775809)] h fun x0 h0 =>
 s15 [x0, (.i .i64 9223372036854775809)] h0 fun x1 h1 =>
 notK x1 fun x2 =>
 cdK x2 (
 k (.b false) h1) (
 capp 3 (lp 3 fun (x3 : CT 3) x4 x5 x6 h2 =>
 ikK .lss x6 x4 fun x7 =>
 cdK x7 (
 s25 [(.s 1 [110]), (.i .i64 9223372036854775809)] h2 fun x8 h3 =>
 bsK 46 9 1 9 [x8] h3 fun x9 h4 =>
 s24 [x5, (.i .i64 9223372036854775809), x9] h4 fun x10 h5 =>
 s26 [x5, (.i .i64 9223372036854775809), (.i .i64 9223372036854775809)] h5 fun x11 h6 =>
 s27 [x5, (.i .i64 9223372036854775811)] h6 fun x12 h7 =>
 s28 [x5, (.i .i64 9223372036854775809), (.i .i64 9223372036854775809)] h7 fun x13 h8 =>
 ikK .add x6 (.i .i64 9223372036854775809) fun x14 =>
 x3 x4 x5 x14 h8) (
 capp 3 (lp 3 fun (x15 : CT 3) x16 x17 x18 h9 =>
 ikK .lss x18 (.i .i64 9223372036854775811) fun x19 =>
 cdK x19 (
 ncK x17 fun x20 =>
 faK 0 x20 fun x21 =>
 ld1 x21 h9 fun x22 =>
 s20 [x22, (.i .i64 9223372036854775811)] h9 fun x23 h10 =>
 s19 [x17, x23] h10 fun x24 h11 =>
 s21 [x17] h11 fun x25 h12 =>
 ncK x17 fun x26 =>
 faK 0 x26 fun x27 =>
 ld1 x27 h12 fun x28 =>
 s16 [x28, (.i .i64 9223372036854775811)] h12 fun x29 h13 =>
 s17 [x29] h13 fun x30 h14 =>
 s22 [x30] h14 fun x31 h15 =>
 ikK .eql x31 (.i .i64 9223372036854775810) fun x32 =>
 cdK x32 (
 k (.b false) h15) (
 ikK .add x18 (.i .i64 9223372036854775809) fun x33 =>
 x15 x16 x17 x33 h15)) (
 s29 [x17] h9 fun x34 h16 =>
 s30 [x17] h16 fun x35 h17 =>
 ncK x17 fun x36 =>
 faK 3 x36 fun x37 =>
 ld1 x37 h17 fun x38 =>
 gdK x38 true (fun k => k x17 h17) (fun x39 h18 =>
 gdK x38 true (fun k => s31 [x39, (.i .i64 9223372036854775811)] h18 k) (fun x40 h19 =>
 gdK x38 true (fun k => lnL x40 fun y => k y h19) (fun x41 h20 =>
 gdK x38 true (fun k => k x16 h20) (fun x42 h21 =>
 gdK x38 true (fun k => ikK .eql x41 x42 fun y => k y h21) (fun x43 h22 =>
 pkK x38 x43 (.b false) fun x44 =>
 gdK x44 true (fun k => k x17 h22) (fun x45 h23 =>
 gdK x44 true (fun k => s32 [x45] h23 k) (fun x46 h24 =>
 pkK x44 x46 (.b false) fun x47 =>
 k x47 h24) h23) h22) h21) h20) h19) h18) h17)) [x4, x5, (.i .i64 9223372036854775808)] h2)) [x, x0, (.i .i64 9223372036854775808)] h1)
noncomputable def ra5 : Ann := (.s .o (.s (.s .o (.i (.s .o .o) .o)) (.s (.s .o (.b (.l [0, 4, 5] (.s (.s .o (.i .o .o)) (.s (.b (.s .o (.s .o (.s .o .o)))) .o))))) (.s (.s .o (.b (.l [0, 4, 6] (.s (.s .o (.i .o .o)) (.s (.b (.s .o (.s .o (.s .o (.i (.s .o .o) .o))))) .o))))) (.s .o (.s .o (.s .o .o)))))))
def GoodTopStale (i : Nat) : Prop := R5 s14 s15 s25 s24 s26 s27 s28 s20 s19 s21 s16 s17 s22 s29 s30 s31 s32 (.i .i64 (Nat.add 9223372036854775809 i)) h00 (fun y _ => isT y) = true
end Go.Proofs.YtcdpilgndhledaaGreatDoor
