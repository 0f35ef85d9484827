/-
  No claim by itself: what the functions' texts mean. No condition.
-/
import Derived.Test.YtlannobincnnhaaGreatDoorTD3
namespace Go.Proofs.YtlannobincnnhaaGreatDoor
set_option linter.unusedVariables false
set_option maxRecDepth 100000 in
noncomputable def S50 (s102 s103 : FS) : FS := fun args h k => capp 2 (fun x0 x1 h0 =>
 boxK 86 38 x0 h0 fun x2 h1 =>
 boxK 49 3 x1 h1 fun x3 h2 =>
 boxK 86 38 z86 h2 fun x4 h3 =>
 boxK 83 5 z83 h3 fun x5 h4 =>
 ldN 3 x3 h4 fun x6 =>
 s102 [x6] h4 fun x7 h5 =>
 notK x7 fun x8 =>
 gdK x8 false (fun k => faK 1 x3 fun y => k y h5) (fun x9 h6 =>
 gdK x8 false (fun k => ld1 x9 h6 fun y => k y h6) (fun x10 h7 =>
 gdK x8 false (fun k => faK 0 x3 fun y => k y h7) (fun x11 h8 =>
 gdK x8 false (fun k => ld1 x11 h8 fun y => k y h8) (fun x12 h9 =>
 gdK x8 false (fun k => faK 2 x2 fun y => k y h9) (fun x13 h10 =>
 gdK x8 false (fun k => iapK 6 1 x13 x12 fun y => k y h10) (fun x14 h11 =>
 gdK x8 false (fun k => ld1 x14 h11 fun y => k y h11) (fun x15 h12 =>
 gdK x8 false (fun k => ikK .add x15 (.i .i64 9223372036854775809) fun y => k y h12) (fun x16 h13 =>
 gdK x8 false (fun k => ikK .neq x10 x16 fun y => k y h13) (fun x17 h14 =>
 pkK x8 (.b true) x17 fun x18 =>
 cdK x18 (
 ldN 38 x2 h14 fun x19 =>
 blK [] Z83 fun x20 =>
 stL 38 x4 x19 h14 fun h15 =>
 stL 5 x5 x20 h15 fun h16 =>
 ldN 38 x4 h16 fun x21 => ldN 5 x5 h16 fun x22 => k (.t [x21, x22, (.b false)]) h16) (
 faK 1 x2 fun x23 =>
 ldN 1 x23 h14 fun x24 =>
 faK 2 x3 fun x25 =>
 ld1 x25 h14 fun x26 =>
 s103 [x24, x26] h14 fun x27 h17 =>
 exK x27 0 fun x28 =>
 exK x27 1 fun x29 =>
 boxK 80 1 z80 h17 fun x30 h18 =>
 stL 1 x30 x28 h18 fun h19 =>
 ldN 1 x30 h19 fun x31 =>
 faK 1 x2 fun x32 =>
 stL 1 x32 x31 h19 fun h20 =>
 faK 0 x2 fun x33 =>
 ld1 x33 h20 fun x34 =>
 ikK .add x34 (.i .i64 9223372036854775809) fun x35 =>
 faK 0 x2 fun x36 =>
 stL 1 x36 x35 h20 fun h21 =>
 faK 0 x2 fun x37 =>
 ld1 x37 h21 fun x38 =>
 ldN 3 x3 h21 fun x39 =>
 blK [(0, 1, x38), (1, 3, x39), (4, 1, x29)] Z83 fun x40 =>
 boxK 83 5 z83 h21 fun x41 h22 =>
 stL 5 x41 x40 h22 fun h23 =>
 faK 0 x3 fun x42 =>
 ld1 x42 h23 fun x43 =>
 faK 1 x3 fun x44 =>
 ld1 x44 h23 fun x45 =>
 faK 2 x2 fun x46 =>
 iapK 6 1 x46 x43 fun x47 =>
 stL 1 x47 x45 h23 fun h24 =>
 faK 0 x3 fun x48 =>
 ld1 x48 h24 fun x49 =>
 ldN 5 x41 h24 fun x50 =>
 faK 8 x2 fun x51 =>
 iapK 6 5 x51 x49 fun x52 =>
 stL 5 x52 x50 h24 fun h25 =>
 ldN 38 x2 h25 fun x53 =>
 ldN 5 x41 h25 fun x54 =>
 stL 38 x4 x53 h25 fun h26 =>
 stL 5 x5 x54 h26 fun h27 =>
 ldN 5 x41 h26 fun x55 => ifT (avEq x55 x54) <|
 ldN 38 x4 h27 fun x56 => ldN 5 x5 h27 fun x57 => k (.t [x56, x57, (.b true)]) h27)) h13) h12) h11) h10) h9) h8) h7) h6) h5) args h
noncomputable def s50 : FS := S50 s102 s103
noncomputable def a50 : Ann := (.s .o (.s (.s (.g [0, 1, 2, 3, 4, 5, 6, 7, 8, 9, 10, 11, 12, 13]) (.i (.s .o .o) .o)) (.s .o (.s .o (.s .o (.s .o (.s .o (.s .o (.s (.g [0, 1, 2, 3, 4]) .o)))))))))
set_option maxRecDepth 100000 in
noncomputable def S31 (s50 s51 : FS) : FS := fun args h k => capp 1 (fun x0 h0 =>
 boxK 86 38 z86 h0 fun x1 h1 =>
 blK [] Z86 fun x2 =>
 boxK 86 38 z86 h1 fun x3 h2 =>
 stL 38 x3 x2 h2 fun h3 =>
 capp 4 (lp 4 fun (x4 : CT 4) x5 x6 x7 x8 h4 =>
 lnL x5 fun x9 =>
 ikK .lss x8 x9 fun x10 =>
 cdK x10 (
 ldN 38 x7 h4 fun x11 =>
 iaK 5 x5 x8 fun x12 =>
 faK 1 x12 fun x13 =>
 ldN 3 x13 h4 fun x14 =>
 s50 [x11, x14] h4 fun x15 h5 =>
 exK x15 0 fun x16 =>
 exK x15 1 fun x17 =>
 exK x15 2 fun x18 =>
 boxK 86 38 z86 h5 fun x19 h6 =>
 boxK 83 5 z83 h6 fun x20 h7 =>
 stL 38 x19 x16 h7 fun h8 =>
 stL 5 x20 x17 h8 fun h9 =>
 notK x18 fun x21 =>
 gdK x21 false (fun k => ldN 5 x20 h9 fun y => k y h9) (fun x22 h10 =>
 gdK x21 false (fun k => k x5 h10) (fun x23 h11 =>
 gdK x21 false (fun k => k x8 h11) (fun x24 h12 =>
 gdK x21 false (fun k => iaK 5 x23 x24 fun y => k y h12) (fun x25 h13 =>
 gdK x21 false (fun k => ldN 5 x25 h13 fun y => k y h13) (fun x26 h14 =>
 gdK x21 false (fun k => s51 [x22, x26] h14 k) (fun x27 h15 =>
 gdK x21 false (fun k => notK x27 fun y => k y h15) (fun x28 h16 =>
 pkK x21 (.b true) x28 fun x29 =>
 cdK x29 (
 ldN 38 x7 h16 fun x30 =>
 stL 38 x6 x30 h16 fun h17 =>
 ldN 38 x6 h17 fun x31 => k (.t [x31, (.b false)]) h17) (
 ldN 38 x19 h16 fun x32 =>
 stL 38 x7 x32 h16 fun h18 =>
 ikK .add x8 (.i .i64 9223372036854775809) fun x33 =>
 x4 x5 x6 x7 x33 h18)) h15) h14) h13) h12) h11) h10) h9) (
 ldN 38 x7 h4 fun x34 =>
 stL 38 x6 x34 h4 fun h19 =>
 ldN 38 x6 h19 fun x35 => k (.t [x35, (.b true)]) h19)) [x0, x1, x3, (.i .i64 9223372036854775808)] h3) args h
noncomputable def s31 : FS := S31 s50 s51
noncomputable def a31 : Ann := (.s .o (.s .o (.s (.s .o (.b (.l [0, 2, 4, 5] (.s (.s .o (.i .o .o)) (.s (.b (.s (.g [0, 1, 2, 3, 4, 5, 6, 7, 8, 9, 10, 11, 12, 13, 14, 15]) (.s (.s (.g [0, 1, 2, 3, 4, 5, 6, 7, 8, 9, 10]) (.i (.s .o .o) .o)) .o))) .o))))) (.s .o .o))))
set_option maxRecDepth 100000 in
noncomputable def S16 (s29 s30 s31 : FS) : FS := fun args h k => capp 1 (fun x0 h0 =>
 capp 3 (lp 3 fun (x1 : CT 3) x2 x3 x4 h1 =>
 ikK .lss x4 (.i .i64 9223372036854775810) fun x5 =>
 cdK x5 (
 capp 4 (lp 4 fun (x6 : CT 4) x7 x8 x9 x10 h2 =>
 ikK .leq x10 (.i .i64 9223372036854775815) fun x11 =>
 cdK x11 (
 s29 [x7, x10] h2 fun x12 h3 =>
 s30 [x12, x8] h3 fun x13 h4 =>
 notK x13 fun x14 =>
 gdK x14 true (fun k => k x8 h4) (fun x15 h5 =>
 gdK x14 true (fun k => k x12 h5) (fun x16 h6 =>
 gdK x14 true (fun k => s30 [x15, x16] h6 k) (fun x17 h7 =>
 gdK x14 true (fun k => notK x17 fun y => k y h7) (fun x18 h8 =>
 pkK x14 x18 (.b false) fun x19 =>
 cdK x19 (
 k (.b false) h8) (
 lnL x12 fun x20 =>
 lnL x8 fun x21 =>
 ikK .gtr x20 x21 fun x22 =>
 jn 4 (fun x23 : CT 4 =>
 cdK x22 (
 x23 x7 x12 x9 x10 h8) (
 x23 x7 x8 x9 x10 h8)) fun x24 x25 x26 x27 h9 =>
 ikK .add x27 (.i .i64 9223372036854775809) fun x28 =>
 x6 x24 x25 x26 x28 h9)) h7) h6) h5) h4) (
 ikK .add x9 (.i .i64 9223372036854775809) fun x29 =>
 x1 x7 x8 x29 h2)) [x2, x3, x4, (.i .i64 9223372036854775809)] h1) (
 s31 [x3] h1 fun x30 h10 =>
 exK x30 0 fun x31 =>
 exK x30 1 fun x32 =>
 boxK 86 38 z86 h10 fun x33 h11 =>
 stL 38 x33 x31 h11 fun h12 =>
 k x32 h12)) [x0, .ns, (.i .i64 9223372036854775808)] h0) args h
noncomputable def s16 : FS := S16 s29 s30 s31
noncomputable def a16 : Ann := (.s .o (.s .o (.s (.s .o (.b (.l [0, 3, 4] (.s (.s .o (.i .o .o)) (.s (.b (.s .o (.b (.l [0, 3, 4, 5] (.s (.s .o (.i .o .o)) (.s (.b (.s .o (.s (.s .o (.i (.s .o .o) .o)) (.s .o (.j [0, 3, 4, 5] .o .o))))) .o)))))) .o))))) (.s .o (.s .o .o)))))
set_option maxRecDepth 100000 in
noncomputable def S52 (s43 s105 : FS) : FS := fun args h k => capp 1 (fun x0 h0 =>
 npK .eql x0 .np fun x1 =>
 cdK x1 (
 k .ns h0) (
 ncK x0 fun x2 =>
 faK 0 x2 fun x3 =>
 ld1 x3 h0 fun x4 =>
 s43 [x4] h0 fun x5 h1 =>
 s105 [x5] h1 fun x6 h2 =>
 k x6 h2)) args h
noncomputable def s52 : FS := S52 s43 s105
noncomputable def a52 : Ann := (.s .o (.s (.s .o (.i (.s .o .o) .o)) (.s .o .o)))
set_option maxRecDepth 100000 in
noncomputable def S32 (s18 s19 s20 s26 s52 s53 s11 s12 : FS) : FS := fun args h k => capp 0 (fun h0 =>
 s18 [(.i .i64 9223372036854775811), (.i .i64 9223372036854775809)] h0 fun x0 h1 =>
 npK .eql x0 .np fun x1 =>
 gdK x1 false (fun k => k x0 h1) (fun x2 h2 =>
 gdK x1 false (fun k => s19 [x2, (.i .i64 9223372036854775809)] h2 k) (fun x3 h3 =>
 gdK x1 false (fun k => npK .eql x3 .np fun y => k y h3) (fun x4 h4 =>
 pkK x1 (.b true) x4 fun x5 =>
 cdK x5 (
 k (.b false) h4) (
 s19 [x0, (.i .i64 9223372036854775809)] h4 fun x6 h5 =>
 blK [(0, 1, (.i .i64 9223372036854775812)), (1, 1, (.s 1 [110])), (8, 1, (.i .i64 9223372036854775809))] Z30 fun x7 =>
 bsK 30 9 1 9 [x7] h5 fun x8 h6 =>
 s20 [x6, x8] h6 fun x9 h7 =>
 s26 [x0, (.i .i64 9223372036854775820)] h7 fun x10 h8 =>
 gdK x10 true (fun k => k x0 h8) (fun x11 h9 =>
 gdK x10 true (fun k => s19 [x11, (.i .i64 9223372036854775809)] h9 k) (fun x12 h10 =>
 gdK x10 true (fun k => s52 [x12] h10 k) (fun x13 h11 =>
 gdK x10 true (fun k => lnL x13 fun y => k y h11) (fun x14 h12 =>
 gdK x10 true (fun k => ikK .eql x14 (.i .i64 9223372036854775809) fun y => k y h12) (fun x15 h13 =>
 pkK x10 x15 (.b false) fun x16 =>
 gdK x16 true (fun k => k x0 h13) (fun x17 h14 =>
 gdK x16 true (fun k => s53 [x17, (.i .i64 9223372036854775818)] h14 k) (fun x18 h15 =>
 pkK x16 x18 (.b false) fun x19 =>
 gdK x19 true (fun k => k x0 h15) (fun x20 h16 =>
 gdK x19 true (fun k => s11 [x20] h16 k) (fun x21 h17 =>
 gdK x19 true (fun k => s12 [x21] h17 k) (fun x22 h18 =>
 gdK x19 true (fun k => ikK .eql x22 (.i .i64 9223372036854775808) fun y => k y h18) (fun x23 h19 =>
 pkK x19 x23 (.b false) fun x24 =>
 k x24 h19) h18) h17) h16) h15) h14) h13) h12) h11) h10) h9) h8)) h3) h2) h1) args h
noncomputable def s32 : FS := S32 s18 s19 s20 s26 s52 s53 s11 s12
noncomputable def a32 : Ann := (.s .o (.s .o (.s (.s .o (.i (.s .o .o) .o)) (.s .o (.s .o .o)))))
set_option maxRecDepth 100000 in
noncomputable def S17 (s32 : FS) : FS := fun args h k => capp 0 (fun h0 =>
 s32 [] h0 fun x0 h1 =>
 k x0 h1) args h
noncomputable def s17 : FS := S17 s32
noncomputable def a17 : Ann := (.s .o (.s .o .o))
set_option maxRecDepth 100000 in
noncomputable def S4 (s17 : FS) : FS := fun args h k => capp 0 (fun h0 =>
 s17 [] h0 fun x0 h1 =>
 k x0 h1) args h
noncomputable def s4 : FS := S4 s17
noncomputable def a4 : Ann := (.s .o (.s .o .o))
end Go.Proofs.YtlannobincnnhaaGreatDoor
