/-
  No claim by itself: what the functions' texts mean. No condition.
-/
import Derived.Test.YtcdpilgndhledaaGreatDoorTD3
namespace Go.Proofs.YtcdpilgndhledaaGreatDoor
set_option linter.unusedVariables false
set_option maxRecDepth 100000 in
noncomputable def S140 (s217 s218 s219 s220 s221 : FS) : FS := fun args h k => capp 2 (fun x0 x1 h0 =>
 boxK 93 1 x0 h0 fun x2 h1 =>
 boxK 93 1 z93 h1 fun x3 h2 =>
 lnL x1 fun x4 =>
 ikK .lss x4 (.i .i64 9223372036854775809) fun x5 =>
 gdK x5 false (fun k => k x1 h2) (fun x6 h3 =>
 gdK x5 false (fun k => lnL x6 fun y => k y h3) (fun x7 h4 =>
 gdK x5 false (fun k => ikK .gtr x7 (.i .i64 9223372036854775816) fun y => k y h4) (fun x8 h5 =>
 pkK x5 (.b true) x8 fun x9 =>
 cdK x9 (
 ldN 1 x2 h5 fun x10 =>
 stL 1 x3 x10 h5 fun h6 =>
 ldN 1 x3 h6 fun x11 => k (.t [x11, (.i .i64 9223372036854775809)]) h6) (
 ldN 1 x2 h5 fun x12 =>
 boxK 93 1 z93 h5 fun x13 h7 =>
 stL 1 x13 x12 h7 fun h8 =>
 capp 5 (lp 5 fun (x14 : CT 5) x15 x16 x17 x18 x19 h9 =>
 lnL x15 fun x20 =>
 ikK .lss x19 x20 fun x21 =>
 cdK x21 (
 iaK 9 x15 x19 fun x22 =>
 ldN 9 x22 h9 fun x23 =>
 boxK 46 9 z46 h9 fun x24 h10 =>
 stL 9 x24 x23 h10 fun h11 =>
 ldN 9 x24 h11 fun x25 =>
 s217 [x25] h11 fun x26 h12 =>
 notK x26 fun x27 =>
 cdK x27 (
 ldN 1 x16 h12 fun x28 =>
 stL 1 x17 x28 h12 fun h13 =>
 ldN 1 x17 h13 fun x29 => k (.t [x29, (.i .i64 9223372036854775809)]) h13) (
 ldN 1 x18 h12 fun x30 =>
 faK 1 x24 fun x31 =>
 ld1 x31 h12 fun x32 =>
 s218 [x30, x32] h12 fun x33 h14 =>
 exK x33 0 fun x34 =>
 exK x33 1 fun x35 =>
 boxK 44 3 z44 h14 fun x36 h15 =>
 stL 3 x36 x34 h15 fun h16 =>
 faK 2 x24 fun x37 =>
 ldN 3 x37 h16 fun x38 =>
 boxK 44 3 z44 h16 fun x39 h17 =>
 stL 3 x39 x38 h17 fun h18 =>
 faK 0 x24 fun x40 =>
 ld1 x40 h18 fun x41 =>
 ikK .eql x41 (.i .i64 9223372036854775811) fun x42 =>
 jn 8 (fun x43 : CT 8 =>
 cdK x42 (
 ldN 3 x36 h18 fun x44 =>
 faK 5 x24 fun x45 =>
 ldN 3 x45 h18 fun x46 =>
 s219 [x44, x46] h18 fun x47 h19 =>
 notK x47 fun x48 =>
 cdK x48 (
 ldN 1 x16 h19 fun x49 =>
 stL 1 x17 x49 h19 fun h20 =>
 ldN 1 x17 h20 fun x50 => k (.t [x50, (.i .i64 9223372036854775816)]) h20) (
 x43 x15 x16 x17 x18 x19 x24 x35 x39 h19)) (
 ikK .eql x41 (.i .i64 9223372036854775812) fun x51 =>
 cdK x51 (
 gdK x35 true (fun k => faK 0 x36 fun y => k y h18) (fun x52 h21 =>
 gdK x35 true (fun k => ld1 x52 h21 fun y => k y h21) (fun x53 h22 =>
 gdK x35 true (fun k => ikK .neq x53 (.i .i64 9223372036854775809) fun y => k y h22) (fun x54 h23 =>
 pkK x35 x54 (.b false) fun x55 =>
 cdK x55 (
 ldN 1 x16 h23 fun x56 =>
 stL 1 x17 x56 h23 fun h24 =>
 ldN 1 x17 h24 fun x57 => k (.t [x57, (.i .i64 9223372036854775815)]) h24) (
 faK 1 x36 fun x58 =>
 ld1 x58 h23 fun x59 =>
 s220 [x59] h23 fun x60 h25 =>
 gdK x60 false (fun k => faK 1 x36 fun y => k y h25) (fun x61 h26 =>
 gdK x60 false (fun k => ld1 x61 h26 fun y => k y h26) (fun x62 h27 =>
 gdK x60 false (fun k => faK 8 x24 fun y => k y h27) (fun x63 h28 =>
 gdK x60 false (fun k => ld1 x63 h28 fun y => k y h28) (fun x64 h29 =>
 gdK x60 false (fun k => ikK .add x62 x64 fun y => k y h29) (fun x65 h30 =>
 gdK x60 false (fun k => s220 [x65] h30 k) (fun x66 h31 =>
 pkK x60 (.b true) x66 fun x67 =>
 cdK x67 (
 ldN 1 x16 h31 fun x68 =>
 stL 1 x17 x68 h31 fun h32 =>
 ldN 1 x17 h32 fun x69 => k (.t [x69, (.i .i64 9223372036854775812)]) h32) (
 faK 1 x36 fun x70 =>
 ld1 x70 h31 fun x71 =>
 faK 8 x24 fun x72 =>
 ld1 x72 h31 fun x73 =>
 ikK .add x71 x73 fun x74 =>
 blK [(0, 1, (.i .i64 9223372036854775809)), (1, 1, x74)] Z44 fun x75 =>
 stL 3 x39 x75 h31 fun h33 =>
 x43 x15 x16 x17 x18 x19 x24 x35 x39 h33)) h30) h29) h28) h27) h26) h25)) h22) h21) h18) (
 x43 x15 x16 x17 x18 x19 x24 x35 x39 h18))) fun x76 x77 x78 x79 x80 x81 x82 x83 h34 =>
 faK 0 x83 fun x84 =>
 ld1 x84 h34 fun x85 =>
 ikK .neq x85 (.i .i64 9223372036854775808) fun x86 =>
 gdK x86 true (fun k => k x82 h34) (fun x87 h35 =>
 gdK x86 true (fun k => notK x87 fun y => k y h35) (fun x88 h36 =>
 pkK x86 x88 (.b false) fun x89 =>
 gdK x89 true (fun k => faK 0 x79 fun y => k y h36) (fun x90 h37 =>
 gdK x89 true (fun k => ld1 x90 h37 fun y => k y h37) (fun x91 h38 =>
 gdK x89 true (fun k => lnL x91 fun y => k y h38) (fun x92 h39 =>
 gdK x89 true (fun k => ikK .geq x92 (.i .i64 9223372036854775858) fun y => k y h39) (fun x93 h40 =>
 pkK x89 x93 (.b false) fun x94 =>
 cdK x94 (
 ldN 1 x77 h40 fun x95 =>
 stL 1 x78 x95 h40 fun h41 =>
 ldN 1 x78 h41 fun x96 => k (.t [x96, (.i .i64 9223372036854775814)]) h41) (
 ldN 1 x79 h40 fun x97 =>
 faK 1 x81 fun x98 =>
 ld1 x98 h40 fun x99 =>
 ldN 3 x83 h40 fun x100 =>
 s221 [x97, x99, x100] h40 fun x101 h42 =>
 stL 1 x79 x101 h42 fun h43 =>
 ikK .add x80 (.i .i64 9223372036854775809) fun x102 =>
 x14 x76 x77 x78 x79 x102 h43)) h39) h38) h37) h36) h35) h34)) (
 ldN 1 x18 h9 fun x103 =>
 stL 1 x17 x103 h9 fun h44 =>
 ldN 1 x17 h44 fun x104 => k (.t [x104, (.i .i64 9223372036854775808)]) h44)) [x1, x2, x3, x13, (.i .i64 9223372036854775808)] h8)) h4) h3) h2) args h
noncomputable def s140 : FS := S140 s217 s218 s219 s220 s221
noncomputable def a140 : Ann := (.s .o (.s (.s .o (.i (.s .o .o) .o)) (.s .o (.s (.s .o (.b (.l [1, 2, 4, 6, 7] (.s (.s .o (.i .o .o)) (.s (.b (.s .o (.s (.s .o (.i (.s .o .o) .o)) (.s .o (.s .o (.s (.s .o (.b (.s .o (.j [1, 2, 4, 6, 7, 8, 10, 11] (.s .o (.i (.s .o .o) .o)) (.s .o (.i (.s (.s .o (.i (.s .o .o) .o)) (.s (.s .o (.i (.s .o .o) .o)) .o)) .o)))))) (.s (.s .o (.i (.s .o .o) .o)) .o))))))) .o))))) (.s .o .o)))))
def Z97 : List AV := [(.i .i64 9223372036854775808), .ns, (.i .i64 9223372036854775808), (.i .i64 9223372036854775808), (.i .i64 9223372036854775808), (.i .i64 9223372036854775808), (.i .i64 9223372036854775808), (.i .i64 9223372036854775808), (.i .i64 9223372036854775808), (.i .i64 9223372036854775808), (.i .i64 9223372036854775808), .ns, (.i .i64 9223372036854775808), (.i .i64 9223372036854775808), (.i .i64 9223372036854775808), (.i .i64 9223372036854775808), .ns, (.i .i64 9223372036854775808), (.i .i64 9223372036854775808), (.i .i64 9223372036854775808), (.i .i64 9223372036854775808), .ns, (.i .i64 9223372036854775808), (.i .i64 9223372036854775808), (.i .i64 9223372036854775808), (.i .i64 9223372036854775808), .ns, (.i .i64 9223372036854775808), (.i .i64 9223372036854775808), (.i .i64 9223372036854775808), (.i .i64 9223372036854775808), .ns, (.i .i64 9223372036854775808), (.i .i64 9223372036854775808), (.i .i64 9223372036854775808), (.i .i64 9223372036854775808), .ns, (.i .i64 9223372036854775808)]
def z97 : AV := .a Z97
set_option maxRecDepth 100000 in
noncomputable def S81 (s139 s140 : FS) : FS := fun args h k => capp 2 (fun x0 x1 h0 =>
 boxK 97 38 x0 h0 fun x2 h1 =>
 boxK 60 3 x1 h1 fun x3 h2 =>
 boxK 97 38 z97 h2 fun x4 h3 =>
 boxK 62 5 z62 h3 fun x5 h4 =>
 ldN 3 x3 h4 fun x6 =>
 s139 [x6] h4 fun x7 h5 =>
 notK x7 fun x8 =>
 gdK x8 false (fun k => faK 1 x3 fun y => k y h5) (fun x9 h6 =>
 gdK x8 false (fun k => ld1 x9 h6 fun y => k y h6) (fun x10 h7 =>
 gdK x8 false (fun k => faK 0 x3 fun y => k y h7) (fun x11 h8 =>
 gdK x8 false (fun k => ld1 x11 h8 fun y => k y h8) (fun x12 h9 =>
 gdK x8 false (fun k => faK 2 x2 fun y => k y h9) (fun x13 h10 =>
 gdK x8 false (fun k => iapK 6 1 x13 x12 fun y => k y h10) (fun x14 h11 =>
 gdK x8 false (fun k => ld1 x14 h11 fun y => k y h11) (fun x15 h12 =>
 gdK x8 false (fun k => ikK .add x15 (.i .i64 9223372036854775809) fun y => k y h12) (fun x16 h13 =>
 gdK x8 false (fun k => ikK .neq x10 x16 fun y => k y h13) (fun x17 h14 =>
 pkK x8 (.b true) x17 fun x18 =>
 cdK x18 (
 ldN 38 x2 h14 fun x19 =>
 blK [] Z62 fun x20 =>
 stL 38 x4 x19 h14 fun h15 =>
 stL 5 x5 x20 h15 fun h16 =>
 ldN 38 x4 h16 fun x21 => ldN 5 x5 h16 fun x22 => k (.t [x21, x22, (.b false)]) h16) (
 faK 1 x2 fun x23 =>
 ldN 1 x23 h14 fun x24 =>
 faK 2 x3 fun x25 =>
 ld1 x25 h14 fun x26 =>
 s140 [x24, x26] h14 fun x27 h17 =>
 exK x27 0 fun x28 =>
 exK x27 1 fun x29 =>
 boxK 93 1 z93 h17 fun x30 h18 =>
 stL 1 x30 x28 h18 fun h19 =>
 ldN 1 x30 h19 fun x31 =>
 faK 1 x2 fun x32 =>
 stL 1 x32 x31 h19 fun h20 =>
 faK 0 x2 fun x33 =>
 ld1 x33 h20 fun x34 =>
 ikK .add x34 (.i .i64 9223372036854775809) fun x35 =>
 faK 0 x2 fun x36 =>
 stL 1 x36 x35 h20 fun h21 =>
 faK 0 x2 fun x37 =>
 ld1 x37 h21 fun x38 =>
 ldN 3 x3 h21 fun x39 =>
 blK [(0, 1, x38), (1, 3, x39), (4, 1, x29)] Z62 fun x40 =>
 boxK 62 5 z62 h21 fun x41 h22 =>
 stL 5 x41 x40 h22 fun h23 =>
 faK 0 x3 fun x42 =>
 ld1 x42 h23 fun x43 =>
 faK 1 x3 fun x44 =>
 ld1 x44 h23 fun x45 =>
 faK 2 x2 fun x46 =>
 iapK 6 1 x46 x43 fun x47 =>
 stL 1 x47 x45 h23 fun h24 =>
 faK 0 x3 fun x48 =>
 ld1 x48 h24 fun x49 =>
 ldN 5 x41 h24 fun x50 =>
 faK 8 x2 fun x51 =>
 iapK 6 5 x51 x49 fun x52 =>
 stL 5 x52 x50 h24 fun h25 =>
 ldN 38 x2 h25 fun x53 =>
 ldN 5 x41 h25 fun x54 =>
 stL 38 x4 x53 h25 fun h26 =>
 stL 5 x5 x54 h26 fun h27 =>
 ldN 5 x41 h26 fun x55 => ifT (avEq x55 x54) <|
 ldN 38 x4 h27 fun x56 => ldN 5 x5 h27 fun x57 => k (.t [x56, x57, (.b true)]) h27)) h13) h12) h11) h10) h9) h8) h7) h6) h5) args h
noncomputable def s81 : FS := S81 s139 s140
noncomputable def a81 : Ann := (.s .o (.s (.s (.g [0, 1, 2, 3, 4, 5, 6, 7, 8, 9, 10, 11, 12, 13]) (.i (.s .o .o) .o)) (.s .o (.s .o (.s .o (.s .o (.s .o (.s .o (.s (.g [0, 1, 2, 3, 4]) .o)))))))))
set_option maxRecDepth 100000 in
noncomputable def S54 (s81 s82 : FS) : FS := fun args h k => capp 1 (fun x0 h0 =>
 boxK 97 38 z97 h0 fun x1 h1 =>
 blK [] Z97 fun x2 =>
 boxK 97 38 z97 h1 fun x3 h2 =>
 stL 38 x3 x2 h2 fun h3 =>
 capp 4 (lp 4 fun (x4 : CT 4) x5 x6 x7 x8 h4 =>
 lnL x5 fun x9 =>
 ikK .lss x8 x9 fun x10 =>
 cdK x10 (
 ldN 38 x7 h4 fun x11 =>
 iaK 5 x5 x8 fun x12 =>
 faK 1 x12 fun x13 =>
 ldN 3 x13 h4 fun x14 =>
 s81 [x11, x14] h4 fun x15 h5 =>
 exK x15 0 fun x16 =>
 exK x15 1 fun x17 =>
 exK x15 2 fun x18 =>
 boxK 97 38 z97 h5 fun x19 h6 =>
 boxK 62 5 z62 h6 fun x20 h7 =>
 stL 38 x19 x16 h7 fun h8 =>
 stL 5 x20 x17 h8 fun h9 =>
 notK x18 fun x21 =>
 gdK x21 false (fun k => ldN 5 x20 h9 fun y => k y h9) (fun x22 h10 =>
 gdK x21 false (fun k => k x5 h10) (fun x23 h11 =>
 gdK x21 false (fun k => k x8 h11) (fun x24 h12 =>
 gdK x21 false (fun k => iaK 5 x23 x24 fun y => k y h12) (fun x25 h13 =>
 gdK x21 false (fun k => ldN 5 x25 h13 fun y => k y h13) (fun x26 h14 =>
 gdK x21 false (fun k => s82 [x22, x26] h14 k) (fun x27 h15 =>
 gdK x21 false (fun k => notK x27 fun y => k y h15) (fun x28 h16 =>
 pkK x21 (.b true) x28 fun x29 =>
 cdK x29 (
 ldN 38 x7 h16 fun x30 =>
 stL 38 x6 x30 h16 fun h17 =>
 ldN 38 x6 h17 fun x31 => k (.t [x31, (.b false)]) h17) (
 ldN 38 x19 h16 fun x32 =>
 stL 38 x7 x32 h16 fun h18 =>
 ikK .add x8 (.i .i64 9223372036854775809) fun x33 =>
 x4 x5 x6 x7 x33 h18)) h15) h14) h13) h12) h11) h10) h9) (
 ldN 38 x7 h4 fun x34 =>
 stL 38 x6 x34 h4 fun h19 =>
 ldN 38 x6 h19 fun x35 => k (.t [x35, (.b true)]) h19)) [x0, x1, x3, (.i .i64 9223372036854775808)] h3) args h
noncomputable def s54 : FS := S54 s81 s82
noncomputable def a54 : Ann := (.s .o (.s .o (.s (.s .o (.b (.l [0, 2, 4, 5] (.s (.s .o (.i .o .o)) (.s (.b (.s (.g [0, 1, 2, 3, 4, 5, 6, 7, 8, 9, 10, 11, 12, 13, 14, 15]) (.s (.s (.g [0, 1, 2, 3, 4, 5, 6, 7, 8, 9, 10]) (.i (.s .o .o) .o)) .o))) .o))))) (.s .o .o))))
set_option maxRecDepth 100000 in
noncomputable def S32 (s31 s53 s54 : FS) : FS := fun args h k => capp 1 (fun x0 h0 =>
 capp 3 (lp 3 fun (x1 : CT 3) x2 x3 x4 h1 =>
 ikK .lss x4 (.i .i64 9223372036854775810) fun x5 =>
 cdK x5 (
 capp 4 (lp 4 fun (x6 : CT 4) x7 x8 x9 x10 h2 =>
 ikK .leq x10 (.i .i64 9223372036854775815) fun x11 =>
 cdK x11 (
 s31 [x7, x10] h2 fun x12 h3 =>
 s53 [x12, x8] h3 fun x13 h4 =>
 notK x13 fun x14 =>
 gdK x14 true (fun k => k x8 h4) (fun x15 h5 =>
 gdK x14 true (fun k => k x12 h5) (fun x16 h6 =>
 gdK x14 true (fun k => s53 [x15, x16] h6 k) (fun x17 h7 =>
 gdK x14 true (fun k => notK x17 fun y => k y h7) (fun x18 h8 =>
 pkK x14 x18 (.b false) fun x19 =>
 cdK x19 (
 k (.b false) h8) (
 lnL x12 fun x20 =>
 lnL x8 fun x21 =>
 ikK .gtr x20 x21 fun x22 =>
 jn 4 (fun x23 : CT 4 =>
 cdK x22 (
 x23 x7 x12 x9 x10 h8) (
 x23 x7 x8 x9 x10 h8)) fun x24 x25 x26 x27 h9 =>
 ikK .add x27 (.i .i64 9223372036854775809) fun x28 =>
 x6 x24 x25 x26 x28 h9)) h7) h6) h5) h4) (
 ikK .add x9 (.i .i64 9223372036854775809) fun x29 =>
 x1 x7 x8 x29 h2)) [x2, x3, x4, (.i .i64 9223372036854775809)] h1) (
 s54 [x3] h1 fun x30 h10 =>
 exK x30 0 fun x31 =>
 exK x30 1 fun x32 =>
 boxK 97 38 z97 h10 fun x33 h11 =>
 stL 38 x33 x31 h11 fun h12 =>
 k x32 h12)) [x0, .ns, (.i .i64 9223372036854775808)] h0) args h
noncomputable def s32 : FS := S32 s31 s53 s54
noncomputable def a32 : Ann := (.s .o (.s .o (.s (.s .o (.b (.l [0, 3, 4] (.s (.s .o (.i .o .o)) (.s (.b (.s .o (.b (.l [0, 3, 4, 5] (.s (.s .o (.i .o .o)) (.s (.b (.s .o (.s (.s .o (.i (.s .o .o) .o)) (.s .o (.j [0, 3, 4, 5] .o .o))))) .o)))))) .o))))) (.s .o (.s .o .o)))))
set_option maxRecDepth 100000 in
noncomputable def S15 (s16 s17 s22 s20 s19 s21 : FS) : FS := fun args h k => capp 2 (fun x0 x1 h0 =>
 capp 3 (lp 3 fun (x2 : CT 3) x3 x4 x5 h1 =>
 ikK .lss x5 (.i .i64 9223372036854775812) fun x6 =>
 cdK x6 (
 ncK x3 fun x7 =>
 faK 0 x7 fun x8 =>
 ld1 x8 h1 fun x9 =>
 s16 [x9, x4] h1 fun x10 h2 =>
 npK .eql x10 .np fun x11 =>
 gdK x11 false (fun k => k x10 h2) (fun x12 h3 =>
 gdK x11 false (fun k => s17 [x12] h3 k) (fun x13 h4 =>
 gdK x11 false (fun k => s22 [x13] h4 k) (fun x14 h5 =>
 gdK x11 false (fun k => ikK .eql x14 (.i .i64 9223372036854775810) fun y => k y h5) (fun x15 h6 =>
 pkK x11 (.b true) x15 fun x16 =>
 cdK x16 (
 npK .neq x10 .np fun x17 =>
 k x17 h6) (
 ncK x3 fun x18 =>
 faK 0 x18 fun x19 =>
 ld1 x19 h6 fun x20 =>
 s20 [x20, x4] h6 fun x21 h7 =>
 s19 [x3, x21] h7 fun x22 h8 =>
 s21 [x3] h8 fun x23 h9 =>
 ikK .add x5 (.i .i64 9223372036854775809) fun x24 =>
 x2 x3 x4 x24 h9)) h5) h4) h3) h2) (
 ncK x3 fun x25 =>
 faK 0 x25 fun x26 =>
 ld1 x26 h1 fun x27 =>
 s16 [x27, x4] h1 fun x28 h10 =>
 npK .neq x28 .np fun x29 =>
 gdK x29 true (fun k => k x28 h10) (fun x30 h11 =>
 gdK x29 true (fun k => s17 [x30] h11 k) (fun x31 h12 =>
 gdK x29 true (fun k => s22 [x31] h12 k) (fun x32 h13 =>
 gdK x29 true (fun k => ikK .eql x32 (.i .i64 9223372036854775810) fun y => k y h13) (fun x33 h14 =>
 pkK x29 x33 (.b false) fun x34 =>
 k x34 h14) h13) h12) h11) h10)) [x0, x1, (.i .i64 9223372036854775808)] h0) args h
noncomputable def s15 : FS := S15 s16 s17 s22 s20 s19 s21
noncomputable def a15 : Ann := (.s .o (.s (.s .o (.b (.l [0, 1, 5] (.s (.s .o (.i .o .o)) (.s (.b (.s .o (.s (.s .o (.i (.s .o .o) .o)) (.s .o .o)))) .o))))) (.s .o (.s .o .o))))
set_option maxRecDepth 100000 in
noncomputable def S23 : FS := fun args h k => capp 1 (fun x0 h0 =>
 npK .eql x0 .np fun x1 =>
 cdK x1 (
 k (.i .i64 9223372036854775808) h0) (
 ncK x0 fun x2 =>
 faK 6 x2 fun x3 =>
 ld1 x3 h0 fun x4 =>
 k x4 h0)) args h
noncomputable def s23 : FS := S23
noncomputable def a23 : Ann := (.s .o (.s (.s .o (.i (.s .o .o) .o)) (.s .o .o)))
set_option maxRecDepth 100000 in
noncomputable def S50 (s38 s39 s62 s41 : FS) : FS := fun args h k => capp 2 (fun x0 x1 h0 =>
 ncK x0 fun x2 =>
 faK 0 x2 fun x3 =>
 ld1 x3 h0 fun x4 =>
 s38 [x4] h0 fun x5 h1 =>
 s39 [x5] h1 fun x6 h2 =>
 ikK .sub x6 (.i .i64 9223372036854775809) fun x7 =>
 capp 3 (lp 3 fun (x8 : CT 3) x9 x10 x11 h3 =>
 ikK .geq x11 (.i .i64 9223372036854775808) fun x12 =>
 cdK x12 (
 ncK x9 fun x13 =>
 faK 0 x13 fun x14 =>
 ld1 x14 h3 fun x15 =>
 s38 [x15] h3 fun x16 h4 =>
 s62 [x16, x11] h4 fun x17 h5 =>
 exK x17 0 fun x18 =>
 exK x17 1 fun x19 =>
 boxK 120 13 z120 h5 fun x20 h6 =>
 stL 13 x20 x18 h6 fun h7 =>
 faK 2 x20 fun x21 =>
 ld1 x21 h7 fun x22 =>
 ikK .eql x22 x10 fun x23 =>
 gdK x23 false (fun k => faK 1 x20 fun y => k y h7) (fun x24 h8 =>
 gdK x23 false (fun k => ld1 x24 h8 fun y => k y h8) (fun x25 h9 =>
 gdK x23 false (fun k => k x10 h9) (fun x26 h10 =>
 gdK x23 false (fun k => ikK .eql x25 x26 fun y => k y h10) (fun x27 h11 =>
 pkK x23 (.b true) x27 fun x28 =>
 jn 3 (fun x29 : CT 3 =>
 cdK x28 (
 ncK x9 fun x30 =>
 faK 0 x30 fun x31 =>
 ld1 x31 h11 fun x32 =>
 s38 [x32] h11 fun x33 h12 =>
 s41 [x33, x11] h12 fun x34 h13 =>
 x29 x9 x10 x11 h13) (
 x29 x9 x10 x11 h11)) fun x35 x36 x37 h14 =>
 ikK .sub x37 (.i .i64 9223372036854775809) fun x38 =>
 x8 x35 x36 x38 h14) h10) h9) h8) h7) (
 k (.t []) h3)) [x0, x1, x7] h2) args h
noncomputable def s50 : FS := S50 s38 s39 s62 s41
noncomputable def a50 : Ann := (.s .o (.b (.l [0, 1, 4] (.s (.s .o (.i .o .o)) (.s (.b (.s .o (.s .o (.j [0, 1, 4] .o .o)))) .o)))))
set_option maxRecDepth 100000 in
noncomputable def S27 (s50 s38 s39 s40 : FS) : FS := fun args h k => capp 2 (fun x0 x1 h0 =>
 capp 3 (lp 3 fun (x2 : CT 3) x3 x4 x5 h1 =>
 ikK .lss x5 (.i .i64 9223372036854780808) fun x6 =>
 cdK x6 (
 s50 [x3, x4] h1 fun x7 h2 =>
 ncK x3 fun x8 =>
 faK 0 x8 fun x9 =>
 ld1 x9 h2 fun x10 =>
 s38 [x10] h2 fun x11 h3 =>
 s39 [x11] h3 fun x12 h4 =>
 ikK .eql x12 (.i .i64 9223372036854775808) fun x13 =>
 cdK x13 (
 k (.t []) h4) (
 ncK x3 fun x14 =>
 faK 0 x14 fun x15 =>
 ld1 x15 h4 fun x16 =>
 s40 [x16, (.i .i64 9223372036854775808), (.b false)] h4 fun x17 h5 =>
 ikK .add x5 (.i .i64 9223372036854775809) fun x18 =>
 x2 x3 x4 x18 h5)) (
 ncK x3 fun x19 =>
 faK 3 x19 fun x20 =>
 stL 1 x20 (.b false) h1 fun h6 =>
 k (.t []) h6)) [x0, x1, (.i .i64 9223372036854775808)] h0) args h
noncomputable def s27 : FS := S27 s50 s38 s39 s40
noncomputable def a27 : Ann := (.s (.s .o (.b (.l [0, 1, 4] (.s (.s .o (.i .o .o)) (.s (.b (.s .o (.s (.s .o (.i .o .o)) .o))) .o))))) .o)
set_option maxRecDepth 100000 in
noncomputable def S35 (s55 s56 : FS) : FS := fun args h k => capp 1 (fun x0 h0 =>
 npK .eql x0 .np fun x1 =>
 cdK x1 (
 k .ns h0) (
 ncK x0 fun x2 =>
 faK 0 x2 fun x3 =>
 ld1 x3 h0 fun x4 =>
 s55 [x4] h0 fun x5 h1 =>
 s56 [x5] h1 fun x6 h2 =>
 k x6 h2)) args h
noncomputable def s35 : FS := S35 s55 s56
noncomputable def a35 : Ann := (.s .o (.s (.s .o (.i (.s .o .o) .o)) (.s .o .o)))
set_option maxRecDepth 100000 in
noncomputable def S28 (s34 s35 s36 s19 : FS) : FS := fun args h k => capp 3 (fun x0 x1 x2 h0 =>
 capp 4 (lp 4 fun (x3 : CT 4) x4 x5 x6 x7 h1 =>
 ikK .lss x7 (.i .i64 9223372036854775908) fun x8 =>
 cdK x8 (
 ncK x4 fun x9 =>
 faK 0 x9 fun x10 =>
 ld1 x10 h1 fun x11 =>
 s34 [x11, x5] h1 fun x12 h2 =>
 npK .eql x12 .np fun x13 =>
 cdK x13 (
 ncK x4 fun x14 =>
 faK 3 x14 fun x15 =>
 stL 1 x15 (.b false) h2 fun h3 =>
 k (.t []) h3) (
 s35 [x12] h2 fun x16 h4 =>
 lnL x16 fun x17 =>
 ncK x4 fun x18 =>
 faK 0 x18 fun x19 =>
 ld1 x19 h4 fun x20 =>
 s36 [x20, x5, x6] h4 fun x21 h5 =>
 s19 [x4, x21] h5 fun x22 h6 =>
 s35 [x12] h6 fun x23 h7 =>
 lnL x23 fun x24 =>
 ikK .eql x24 x17 fun x25 =>
 cdK x25 (
 k (.t []) h7) (
 ikK .add x7 (.i .i64 9223372036854775809) fun x26 =>
 x3 x4 x5 x6 x26 h7))) (
 k (.t []) h1)) [x0, x1, x2, (.i .i64 9223372036854775808)] h0) args h
noncomputable def s28 : FS := S28 s34 s35 s36 s19
noncomputable def a28 : Ann := (.s .o (.b (.l [0, 1, 2, 6] (.s (.s .o (.i .o .o)) (.s (.b (.s .o (.s (.s .o (.i (.s .o .o) .o)) (.s .o (.s .o (.s .o (.i .o .o))))))) .o)))))
set_option maxRecDepth 100000 in
noncomputable def S33 (s42 s21 : FS) : FS := fun args h k => capp 3 (fun x0 x1 x2 h0 =>
 ncK x0 fun x3 =>
 faK 0 x3 fun x4 =>
 ld1 x4 h0 fun x5 =>
 s42 [x5, x1, x2] h0 fun x6 h1 =>
 s21 [x0] h1 fun x7 h2 =>
 ikK .eql x6 (.i .i64 9223372036854775818) fun x8 =>
 cdK x8 (
 k (.i .i64 9223372036854775808) h2) (
 k x6 h2)) args h
noncomputable def s33 : FS := S33 s42 s21
noncomputable def a33 : Ann := (.s .o (.s .o (.s .o (.s (.s .o (.i (.s .o .o) .o)) (.s .o .o)))))
set_option maxRecDepth 100000 in
noncomputable def S67 (s44 s34 s49 s51 s35 s48 s38 s39 : FS) : FS := fun args h k => capp 0 (fun h0 =>
 s44 [(.i .i64 9223372036854775811), (.i .i64 9223372036854775809)] h0 fun x0 h1 =>
 npK .eql x0 .np fun x1 =>
 gdK x1 false (fun k => k x0 h1) (fun x2 h2 =>
 gdK x1 false (fun k => s34 [x2, (.i .i64 9223372036854775809)] h2 k) (fun x3 h3 =>
 gdK x1 false (fun k => npK .eql x3 .np fun y => k y h3) (fun x4 h4 =>
 pkK x1 (.b true) x4 fun x5 =>
 cdK x5 (
 k (.b false) h4) (
 s34 [x0, (.i .i64 9223372036854775809)] h4 fun x6 h5 =>
 blK [(0, 1, (.i .i64 9223372036854775812)), (1, 1, (.s 1 [110])), (8, 1, (.i .i64 9223372036854775809))] Z46 fun x7 =>
 bsK 46 9 1 9 [x7] h5 fun x8 h6 =>
 s49 [x6, x8] h6 fun x9 h7 =>
 s51 [x0, (.i .i64 9223372036854775820)] h7 fun x10 h8 =>
 gdK x10 true (fun k => k x0 h8) (fun x11 h9 =>
 gdK x10 true (fun k => s34 [x11, (.i .i64 9223372036854775809)] h9 k) (fun x12 h10 =>
 gdK x10 true (fun k => s35 [x12] h10 k) (fun x13 h11 =>
 gdK x10 true (fun k => lnL x13 fun y => k y h11) (fun x14 h12 =>
 gdK x10 true (fun k => ikK .eql x14 (.i .i64 9223372036854775809) fun y => k y h12) (fun x15 h13 =>
 pkK x10 x15 (.b false) fun x16 =>
 gdK x16 true (fun k => k x0 h13) (fun x17 h14 =>
 gdK x16 true (fun k => s48 [x17, (.i .i64 9223372036854775818)] h14 k) (fun x18 h15 =>
 pkK x16 x18 (.b false) fun x19 =>
 gdK x19 true (fun k => k x0 h15) (fun x20 h16 =>
 gdK x19 true (fun k => s38 [x20] h16 k) (fun x21 h17 =>
 gdK x19 true (fun k => s39 [x21] h17 k) (fun x22 h18 =>
 gdK x19 true (fun k => ikK .eql x22 (.i .i64 9223372036854775808) fun y => k y h18) (fun x23 h19 =>
 pkK x19 x23 (.b false) fun x24 =>
 k x24 h19) h18) h17) h16) h15) h14) h13) h12) h11) h10) h9) h8)) h3) h2) h1) args h
noncomputable def s67 : FS := S67 s44 s34 s49 s51 s35 s48 s38 s39
noncomputable def a67 : Ann := (.s .o (.s .o (.s (.s .o (.i (.s .o .o) .o)) (.s .o (.s .o .o)))))
set_option maxRecDepth 100000 in
noncomputable def S43 (s67 : FS) : FS := fun args h k => capp 0 (fun h0 =>
 s67 [] h0 fun x0 h1 =>
 k x0 h1) args h
noncomputable def s43 : FS := S43 s67
noncomputable def a43 : Ann := (.s .o (.s .o .o))
set_option maxRecDepth 100000 in
noncomputable def S12 (s43 : FS) : FS := fun args h k => capp 0 (fun h0 =>
 s43 [] h0 fun x0 h1 =>
 k x0 h1) args h
noncomputable def s12 : FS := S12 s43
noncomputable def a12 : Ann := (.s .o (.s .o .o))
end Go.Proofs.YtcdpilgndhledaaGreatDoor
