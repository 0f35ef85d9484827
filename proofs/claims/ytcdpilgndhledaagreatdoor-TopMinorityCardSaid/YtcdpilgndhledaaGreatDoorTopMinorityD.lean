/-
  No claim by itself: what the rest of TopMinority means. No condition.
-/
import Derived.Test.YtcdpilgndhledaaGreatDoorTD4
namespace Go.Proofs.YtcdpilgndhledaaGreatDoor
set_option linter.unusedVariables false
set_option maxRecDepth 100000 in
noncomputable def R8 (s14 s15 s25 s24 s26 s27 s31 s16 s17 s22 s20 s19 s29 s30 s37 s32 : FS) (x : AV) (h : Hp) (k : AV → Hp → Bool) : Bool := s14 [x, (.i .i64 9223372036854775810)] h fun x0 h0 =>
 s15 [x0, (.i .i64 9223372036854775809)] h0 fun x1 h1 =>
 notK x1 fun x2 =>
 cdK x2 (
 k (.b false) h1) (
 s25 [(.s 1 [110]), (.i .i64 9223372036854775809)] h1 fun x3 h2 =>
 bsK 46 9 1 9 [x3] h2 fun x4 h3 =>
 s24 [x0, (.i .i64 9223372036854775809), x4] h3 fun x5 h4 =>
 s26 [x0, (.i .i64 9223372036854775809), (.i .i64 9223372036854775809)] h4 fun x6 h5 =>
 s27 [x0, (.i .i64 9223372036854775809)] h5 fun x7 h6 =>
 s31 [x0, (.i .i64 9223372036854775809)] h6 fun x8 h7 =>
 lnL x8 fun x9 =>
 ikK .neq x9 (.i .i64 9223372036854775808) fun x10 =>
 cdK x10 (
 k (.b false) h7) (
 capp 2 (lp 2 fun (x11 : CT 2) x12 x13 h8 =>
 ikK .lss x13 (.i .i64 9223372036854775812) fun x14 =>
 gdK x14 true (fun k => k x12 h8) (fun x15 h9 =>
 gdK x14 true (fun k => ncK x15 fun y => k y h9) (fun x16 h10 =>
 gdK x14 true (fun k => faK 0 x16 fun y => k y h10) (fun x17 h11 =>
 gdK x14 true (fun k => ld1 x17 h11 fun y => k y h11) (fun x18 h12 =>
 gdK x14 true (fun k => s16 [x18, (.i .i64 9223372036854775810)] h12 k) (fun x19 h13 =>
 gdK x14 true (fun k => s17 [x19] h13 k) (fun x20 h14 =>
 gdK x14 true (fun k => s22 [x20] h14 k) (fun x21 h15 =>
 gdK x14 true (fun k => ikK .neq x21 (.i .i64 9223372036854775810) fun y => k y h15) (fun x22 h16 =>
 pkK x14 x22 (.b false) fun x23 =>
 cdK x23 (
 ncK x12 fun x24 =>
 faK 0 x24 fun x25 =>
 ld1 x25 h16 fun x26 =>
 s20 [x26, (.i .i64 9223372036854775810)] h16 fun x27 h17 =>
 s19 [x12, x27] h17 fun x28 h18 =>
 s27 [x12, (.i .i64 9223372036854775809)] h18 fun x29 h19 =>
 ikK .add x13 (.i .i64 9223372036854775809) fun x30 =>
 x11 x12 x30 h19) (
 s25 [(.s 1 [110]), (.i .i64 9223372036854775818)] h16 fun x31 h20 =>
 bsK 46 9 1 9 [x31] h20 fun x32 h21 =>
 s24 [x12, (.i .i64 9223372036854775810), x32] h21 fun x33 h22 =>
 s26 [x12, (.i .i64 9223372036854775810), (.i .i64 9223372036854775810)] h22 fun x34 h23 =>
 s27 [x12, (.i .i64 9223372036854775809)] h23 fun x35 h24 =>
 ncK x12 fun x36 =>
 faK 3 x36 fun x37 =>
 ld1 x37 h24 fun x38 =>
 notK x38 fun x39 =>
 gdK x39 false (fun k => k x12 h24) (fun x40 h25 =>
 gdK x39 false (fun k => s31 [x40, (.i .i64 9223372036854775810)] h25 k) (fun x41 h26 =>
 gdK x39 false (fun k => lnL x41 fun y => k y h26) (fun x42 h27 =>
 gdK x39 false (fun k => ikK .neq x42 (.i .i64 9223372036854775809) fun y => k y h27) (fun x43 h28 =>
 pkK x39 (.b true) x43 fun x44 =>
 gdK x44 false (fun k => k x12 h28) (fun x45 h29 =>
 gdK x44 false (fun k => s31 [x45, (.i .i64 9223372036854775809)] h29 k) (fun x46 h30 =>
 gdK x44 false (fun k => lnL x46 fun y => k y h30) (fun x47 h31 =>
 gdK x44 false (fun k => ikK .neq x47 (.i .i64 9223372036854775808) fun y => k y h31) (fun x48 h32 =>
 pkK x44 (.b true) x48 fun x49 =>
 cdK x49 (
 k (.b false) h32) (
 s29 [x12] h32 fun x50 h33 =>
 s30 [x12] h33 fun x51 h34 =>
 ncK x12 fun x52 =>
 faK 3 x52 fun x53 =>
 ld1 x53 h34 fun x54 =>
 gdK x54 true (fun k => k x12 h34) (fun x55 h35 =>
 gdK x54 true (fun k => s37 [x55, (.i .i64 9223372036854775809), (.s 1 [110]), (.i .i64 9223372036854775819)] h35 k) (fun x56 h36 =>
 pkK x54 x56 (.b false) fun x57 =>
 gdK x57 true (fun k => k x12 h36) (fun x58 h37 =>
 gdK x57 true (fun k => s37 [x58, (.i .i64 9223372036854775810), (.s 1 [110]), (.i .i64 9223372036854775819)] h37 k) (fun x59 h38 =>
 pkK x57 x59 (.b false) fun x60 =>
 gdK x60 true (fun k => k x12 h38) (fun x61 h39 =>
 gdK x60 true (fun k => s31 [x61, (.i .i64 9223372036854775809)] h39 k) (fun x62 h40 =>
 gdK x60 true (fun k => lnL x62 fun y => k y h40) (fun x63 h41 =>
 gdK x60 true (fun k => ikK .eql x63 (.i .i64 9223372036854775810) fun y => k y h41) (fun x64 h42 =>
 pkK x60 x64 (.b false) fun x65 =>
 gdK x65 true (fun k => k x12 h42) (fun x66 h43 =>
 gdK x65 true (fun k => s31 [x66, (.i .i64 9223372036854775809)] h43 k) (fun x67 h44 =>
 gdK x65 true (fun k => iaK 5 x67 (.i .i64 9223372036854775808) fun y => k y h44) (fun x68 h45 =>
 gdK x65 true (fun k => faK 1 x68 fun y => k y h45) (fun x69 h46 =>
 gdK x65 true (fun k => faK 0 x69 fun y => k y h46) (fun x70 h47 =>
 gdK x65 true (fun k => ld1 x70 h47 fun y => k y h47) (fun x71 h48 =>
 gdK x65 true (fun k => ikK .eql x71 (.i .i64 9223372036854775810) fun y => k y h48) (fun x72 h49 =>
 pkK x65 x72 (.b false) fun x73 =>
 gdK x73 true (fun k => k x12 h49) (fun x74 h50 =>
 gdK x73 true (fun k => s32 [x74] h50 k) (fun x75 h51 =>
 pkK x73 x75 (.b false) fun x76 =>
 k x76 h51) h50) h49) h48) h47) h46) h45) h44) h43) h42) h41) h40) h39) h38) h37) h36) h35) h34)) h31) h30) h29) h28) h27) h26) h25) h24)) h15) h14) h13) h12) h11) h10) h9) h8) [x0, (.i .i64 9223372036854775808)] h7))
noncomputable def ra8 : Ann := (.s .o (.s (.s .o (.i (.s .o .o) .o)) (.s .o (.s .o (.s .o (.s (.s .o (.i (.s .o .o) .o)) (.s (.s .o (.b (.l [4, 5] (.s (.s .o (.i .o .o)) (.s (.b (.s .o .o)) .o))))) (.s .o (.s .o (.s .o (.s (.s .o (.i (.s .o .o) .o)) (.s .o (.s .o (.s .o .o))))))))))))))
def GoodTopMinority (i : Nat) : Prop := R8 s14 s15 s25 s24 s26 s27 s31 s16 s17 s22 s20 s19 s29 s30 s37 s32 (.i .i64 (Nat.add 9223372036854775808 i)) h00 (fun y _ => isT y) = true
end Go.Proofs.YtcdpilgndhledaaGreatDoor
