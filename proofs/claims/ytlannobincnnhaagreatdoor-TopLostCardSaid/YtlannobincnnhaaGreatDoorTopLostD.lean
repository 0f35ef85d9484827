/-
  No claim by itself: what the rest of TopLost means. No condition.
-/
import Derived.Test.YtlannobincnnhaaGreatDoorTD4
namespace Go.Proofs.YtlannobincnnhaaGreatDoor
set_option linter.unusedVariables false
set_option maxRecDepth 100000 in
noncomputable def R3 (s6 s8 s7 s10 s9 s11 s12 s13 s14 s15 s16 : FS) (x y : AV) (h : Hp) (k : AV → Hp → Bool) : Bool := s6 [x, (.i .i64 9223372036854775810)] h fun x0 h0 =>
 s8 [(.s 1 [110]), (.i .i64 9223372036854775809)] h0 fun x1 h1 =>
 bsK 30 9 1 9 [x1] h1 fun x2 h2 =>
 s7 [x0, (.i .i64 9223372036854775809), x2] h2 fun x3 h3 =>
 s8 [(.s 1 [110]), (.i .i64 9223372036854775810)] h3 fun x4 h4 =>
 bsK 30 9 1 9 [x4] h4 fun x5 h5 =>
 s7 [x0, (.i .i64 9223372036854775810), x5] h5 fun x6 h6 =>
 capp 4 (lp 4 fun (x7 : CT 4) x8 x9 x10 x11 h7 =>
 ikK .lss x11 x9 fun x12 =>
 cdK x12 (
 ncK x10 fun x13 =>
 faK 0 x13 fun x14 =>
 ld1 x14 h7 fun x15 =>
 ikK .rem x11 x8 fun x16 =>
 ikK .add (.i .i64 9223372036854775809) x16 fun x17 =>
 s10 [x15, x17] h7 fun x18 h8 =>
 s9 [x10, x18] h8 fun x19 h9 =>
 capp 4 (lp 4 fun (x20 : CT 4) x21 x22 x23 x24 h10 =>
 ncK x23 fun x25 =>
 faK 0 x25 fun x26 =>
 ld1 x26 h10 fun x27 =>
 s11 [x27] h10 fun x28 h11 =>
 s12 [x28] h11 fun x29 h12 =>
 ikK .gtr x29 (.i .i64 9223372036854775808) fun x30 =>
 cdK x30 (
 ncK x23 fun x31 =>
 faK 0 x31 fun x32 =>
 ld1 x32 h12 fun x33 =>
 s11 [x33] h12 fun x34 h13 =>
 s13 [x34, (.i .i64 9223372036854775808)] h13 fun x35 h14 =>
 x20 x21 x22 x23 x24 h14) (
 ikK .add x24 (.i .i64 9223372036854775809) fun x36 =>
 x7 x21 x22 x23 x36 h12)) [x8, x9, x10, x11] h9) (
 s14 [x10] h7 fun x37 h15 =>
 ncK x10 fun x38 =>
 faK 3 x38 fun x39 =>
 ld1 x39 h15 fun x40 =>
 gdK x40 true (fun k => k x10 h15) (fun x41 h16 =>
 gdK x40 true (fun k => s15 [x41, (.i .i64 9223372036854775809), (.s 1 [110]), (.i .i64 9223372036854775811)] h16 k) (fun x42 h17 =>
 pkK x40 x42 (.b false) fun x43 =>
 gdK x43 true (fun k => k x10 h17) (fun x44 h18 =>
 gdK x43 true (fun k => s15 [x44, (.i .i64 9223372036854775810), (.s 1 [110]), (.i .i64 9223372036854775811)] h18 k) (fun x45 h19 =>
 pkK x43 x45 (.b false) fun x46 =>
 gdK x46 true (fun k => k x10 h19) (fun x47 h20 =>
 gdK x46 true (fun k => s16 [x47] h20 k) (fun x48 h21 =>
 pkK x46 x48 (.b false) fun x49 =>
 k x49 h21) h20) h19) h18) h17) h16) h15)) [x, y, x0, (.i .i64 9223372036854775808)] h6
noncomputable def ra3 : Ann := (.s .o (.s .o (.s .o (.s (.s .o (.b (.l [0, 1, 6, 7] (.s (.s .o (.i .o .o)) (.s (.b (.s (.g [0, 1, 2, 3, 4, 5, 6, 7, 8, 9, 10]) (.b (.l [0, 1, 6, 7] (.s (.s .o (.i .o .o)) (.b .o)))))) .o))))) (.s .o (.s .o .o))))))
def GoodTopLost (i j : Nat) : Prop := R3 s6 s8 s7 s10 s9 s11 s12 s13 s14 s15 s16 (.i .i64 (Nat.add 9223372036854775809 i)) (.i .i64 (Nat.add 9223372036854775808 j)) h00 (fun y _ => isT y) = true
end Go.Proofs.YtlannobincnnhaaGreatDoor
