/-
  No claim by itself: what the rest of TopLead means. No condition.
-/
import Derived.Test.YtcdpilgndhledaaGreatDoorTD4
namespace Go.Proofs.YtcdpilgndhledaaGreatDoor
set_option linter.unusedVariables false
set_option maxRecDepth 100000 in
noncomputable def R4 (s14 s15 s20 s19 s21 s16 s17 s23 s22 s18 : FS) (x y : AV) (h : Hp) (k : AV → Hp → Bool) : Bool := s14 [x, (.i .i64 9223372036854775809)] h fun x0 h0 =>
 s15 [x0, y] h0 fun x1 h1 =>
 notK x1 fun x2 =>
 cdK x2 (
 k (.b false) h1) (
 ncK x0 fun x3 =>
 faK 0 x3 fun x4 =>
 ld1 x4 h1 fun x5 =>
 s20 [x5, y] h1 fun x6 h2 =>
 s19 [x0, x6] h2 fun x7 h3 =>
 s21 [x0] h3 fun x8 h4 =>
 capp 4 (lp 4 fun (x9 : CT 4) x10 x11 x12 x13 h5 =>
 ikK .leq x13 x10 fun x14 =>
 cdK x14 (
 ncK x12 fun x15 =>
 faK 0 x15 fun x16 =>
 ld1 x16 h5 fun x17 =>
 s16 [x17, x13] h5 fun x18 h6 =>
 s17 [x18] h6 fun x19 h7 =>
 s23 [x19] h7 fun x20 h8 =>
 ikK .neq x20 x11 fun x21 =>
 gdK x21 false (fun k => k x19 h8) (fun x22 h9 =>
 gdK x21 false (fun k => k x13 h9) (fun x23 h10 =>
 gdK x21 false (fun k => k x11 h10) (fun x24 h11 =>
 gdK x21 false (fun k => ikK .eql x23 x24 fun y => k y h11) (fun x25 h12 =>
 gdK x21 false (fun k => s22 [x22] h12 k) (fun x26 h13 =>
 gdK x21 false (fun k => ikK .eql x26 (.i .i64 9223372036854775810) fun y => k y h13) (fun x27 h14 =>
 gdK x21 false (fun k => bbK .neq x27 x25 fun y => k y h14) (fun x28 h15 =>
 pkK x21 (.b true) x28 fun x29 =>
 gdK x29 false (fun k => k x19 h15) (fun x30 h16 =>
 gdK x29 false (fun k => k x12 h16) (fun x31 h17 =>
 gdK x29 false (fun k => ncK x31 fun y => k y h17) (fun x32 h18 =>
 gdK x29 false (fun k => faK 0 x32 fun y => k y h18) (fun x33 h19 =>
 gdK x29 false (fun k => ld1 x33 h19 fun y => k y h19) (fun x34 h20 =>
 gdK x29 false (fun k => k x11 h20) (fun x35 h21 =>
 gdK x29 false (fun k => s18 [x30] h21 k) (fun x36 h22 =>
 gdK x29 false (fun k => fdK 0 false 1 x36 fun y => k y h22) (fun x37 h23 =>
 gdK x29 false (fun k => s16 [x34, x35] h23 k) (fun x38 h24 =>
 gdK x29 false (fun k => s17 [x38] h24 k) (fun x39 h25 =>
 gdK x29 false (fun k => s18 [x39] h25 k) (fun x40 h26 =>
 gdK x29 false (fun k => fdK 0 false 1 x40 fun y => k y h26) (fun x41 h27 =>
 gdK x29 false (fun k => ikK .neq x37 x41 fun y => k y h27) (fun x42 h28 =>
 pkK x29 (.b true) x42 fun x43 =>
 gdK x29 false (fun k => ld1 x33 h22 fun y => k y h22) (fun x44 _ => ifT (avEq x44 x34) <|
 cdK x43 (
 k (.b false) h28) (
 ikK .add x13 (.i .i64 9223372036854775809) fun x45 =>
 x9 x10 x11 x12 x45 h28)) h22) h27) h26) h25) h24) h23) h22) h21) h20) h19) h18) h17) h16) h15) h14) h13) h12) h11) h10) h9) h8) (
 ncK x12 fun x46 =>
 faK 3 x46 fun x47 =>
 ld1 x47 h5 fun x48 =>
 k x48 h5)) [x, y, x0, (.i .i64 9223372036854775809)] h4)
noncomputable def ra4 : Ann := (.s .o (.s (.s .o (.i (.s .o .o) .o)) (.s .o (.s .o (.s (.s .o (.b (.l [0, 1, 6, 7] (.s (.s .o (.i .o .o)) (.s (.b (.s .o (.s (.g [0, 2, 1, 3, 4, 5, 8, 9, 10, 6, 7, 11, 12, 13, 14, 17, 18, 19, 20, 21, 15, 16, 22, 23, 24, 25, 26, 27]) (.i (.s .o .o) .o)))) .o))))) (.s .o .o))))))
def GoodTopLead (i j : Nat) : Prop := R4 s14 s15 s20 s19 s21 s16 s17 s23 s22 s18 (.i .i64 (Nat.add 9223372036854775809 i)) (.i .i64 (Nat.add 9223372036854775809 j)) h00 (fun y _ => isT y) = true
end Go.Proofs.YtcdpilgndhledaaGreatDoor
