/-
  No claim by itself: what the functions' texts mean. No condition.
-/
import Derived.Test.YtlannobincnnhaaGreatDoorTD1
namespace Go.Proofs.YtlannobincnnhaaGreatDoor
set_option linter.unusedVariables false
set_option maxRecDepth 100000 in
noncomputable def S130 (s132 : FS) : FS := fun args h k => capp 1 (fun x0 h0 =>
 jn 2 (fun x1 : CT 2 =>
 capp 3 (lp 3 fun (x2 : CT 3) x3 x4 x5 h1 =>
 lnL x3 fun x6 =>
 ikK .lss x5 x6 fun x7 =>
 cdK x7 (
 sllK 1 (some x5) none none x3 fun x8 =>
 s132 [x8] h1 fun x9 h2 =>
 exK x9 0 fun x10 =>
 exK x9 1 fun x11 =>
 exK x9 2 fun x12 =>
 exK x9 3 fun x13 =>
 ikK .neq x13 (.i .i64 9223372036854775808) fun x14 =>
 cdK x14 (
 x1 x4 x5 h2) (
 blK [(0, 1, x10), (1, 1, x11)] Z241 fun x15 =>
 bsK 241 2 1 2 [x15] h2 fun x16 h3 =>
 apK 241 2 x4 x16 h3 fun x17 h4 =>
 ikK .add x5 x12 fun x18 =>
 x2 x3 x17 x18 h4)) (
 x1 x4 x5 h1)) [x0, .ns, (.i .i64 9223372036854775808)] h0) fun x19 x20 h5 =>
 k (.t [x19, x20]) h5) args h
noncomputable def s130 : FS := S130 s132
noncomputable def a130 : Ann := (.s .o (.s .o (.s .o (.s (.k [4, 5] (.l [0, 4, 5] (.s (.s .o (.i .o .o)) (.b (.s .o (.s (.s .o (.i .o .o)) (.s .o .o))))))) (.s .o .o)))))
noncomputable def s131 : FS := sx
def Z156 : List AV := [.np, (.i .i64 9223372036854775808), .ns, .np]
def z156 : AV := .a Z156
set_option maxRecDepth 100000 in
noncomputable def S66 (s129 s107 s130 s131 s132 s111 : FS) : FS := fun args h k => capp 2 (fun x0 x1 h0 =>
 ikK .lss x1 (.i .i64 9223372036854775809) fun x2 =>
 gdK x2 false (fun k => k x1 h0) (fun x3 h1 =>
 gdK x2 false (fun k => ikK .gtr x3 (.i .i64 9223372036854775813) fun y => k y h1) (fun x4 h2 =>
 pkK x2 (.b true) x4 fun x5 =>
 cdK x5 (
 k (.t [.np, (.i .i64 9223372036854775809)]) h2) (
 s129 [] h2 fun x6 h3 =>
 blK [(0, 1, x0), (1, 1, x1), (3, 1, x6)] Z156 fun x7 =>
 boxK 156 4 x7 h3 fun x8 h4 =>
 s107 [x0, (.s 5 [113, 117, 101, 117, 101])] h4 fun x9 h5 =>
 exK x9 0 fun x10 =>
 exK x9 1 fun x11 =>
 s130 [x10] h5 fun x12 h6 =>
 exK x12 0 fun x13 =>
 exK x12 1 fun x14 =>
 lnL x13 fun x15 =>
 capp 7 (lp 7 fun (x16 : CT 7) x17 x18 x19 x20 x21 x22 x23 h7 =>
 ikK .lss x23 x22 fun x24 =>
 cdK x24 (
 iaK 2 x21 x23 fun x25 =>
 ldN 2 x25 h7 fun x26 =>
 boxK 241 2 z241 h7 fun x27 h8 =>
 stL 2 x27 x26 h8 fun h9 =>
 ldN 2 x27 h9 fun x28 =>
 s131 [x18, x28] h9 fun x29 h10 =>
 notK x29 fun x30 =>
 cdK x30 (
 k (.t [.np, (.i .i64 9223372036854775811)]) h10) (
 ikK .add x23 (.i .i64 9223372036854775809) fun x31 =>
 x16 x17 x18 x19 x20 x21 x22 x31 h10)) (
 lnL x19 fun x32 =>
 ikK .lss x20 x32 fun x33 =>
 jn 1 (fun x34 : CT 1 =>
 cdK x33 (
 sllK 1 (some x20) none none x19 fun x35 =>
 s132 [x35] h7 fun x36 h11 =>
 exK x36 0 fun x37 =>
 exK x36 1 fun x38 =>
 exK x36 2 fun x39 =>
 exK x36 3 fun x40 =>
 ikK .neq x40 (.i .i64 9223372036854775810) fun x41 =>
 cdK x41 (
 k (.t [.np, (.i .i64 9223372036854775811)]) h11) (
 sllK 1 none (some x20) none x19 fun x42 =>
 s111 [x17, (.s 5 [113, 117, 101, 117, 101]), x42] h11 fun x43 h12 =>
 ikK .neq x43 (.i .i64 9223372036854775808) fun x44 =>
 cdK x44 (
 k (.t [.np, x43]) h12) (
 x34 x18 h12))) (
 x34 x18 h7)) fun x45 h13 =>
 k (.t [x45, (.i .i64 9223372036854775808)]) h13)) [x0, x8, x10, x14, x13, x15, (.i .i64 9223372036854775808)] h6)) h1) h0) args h
noncomputable def s66 : FS := S66 s129 s107 s130 s131 s132 s111
noncomputable def a66 : Ann := (.s .o (.s (.s .o (.i (.s .o .o) .o)) (.s .o (.s .o (.s .o (.s (.s .o (.b (.l [0, 6, 7, 10, 39, 40, 41] (.s .o (.s (.i .o .o) (.s (.b (.s .o (.s .o (.i (.s .o .o) .o)))) .o)))))) (.s (.s .o (.j [6] (.s (.s .o (.s .o (.i (.s .o .o) .o))) (.s .o (.s .o (.i (.s .o .o) .o)))) .o)) (.s .o .o))))))))
def Z98 : List AV := [.np]
def z98 : AV := .a Z98
set_option maxRecDepth 100000 in
noncomputable def S36 (s66 : FS) : FS := fun args h k => capp 2 (fun x0 x1 h0 =>
 s66 [x1, x0] h0 fun x2 h1 =>
 exK x2 0 fun x3 =>
 exK x2 1 fun x4 =>
 ikK .neq x4 (.i .i64 9223372036854775808) fun x5 =>
 cdK x5 (
 k (.t [.np, x4]) h1) (
 blK [(0, 1, x3)] Z98 fun x6 =>
 boxK 98 1 x6 h1 fun x7 h2 =>
 k (.t [x7, (.i .i64 9223372036854775808)]) h2)) args h
noncomputable def s36 : FS := S36 s66
noncomputable def a36 : Ann := (.s .o (.s .o (.s (.s .o (.i (.s .o .o) .o)) (.s .o .o))))
def Z61 : List AV := [.nm, .nm, .nm, .nm, .np]
def z61 : AV := .a Z61
set_option maxRecDepth 100000 in
noncomputable def S18 (s33 s34 s35 s36 : FS) : FS := fun args h k => capp 2 (fun x0 x1 h0 =>
 mmD h0 fun x2 h1 =>
 mmD h1 fun x3 h2 =>
 mmD h2 fun x4 h3 =>
 mmD h3 fun x5 h4 =>
 s33 [] h4 fun x6 h5 =>
 blK [(0, 1, x2), (1, 1, x3), (2, 1, x4), (3, 1, x5), (4, 1, x6)] Z61 fun x7 =>
 boxK 61 5 x7 h5 fun x8 h6 =>
 capp 5 (lp 5 fun (x9 : CT 5) x10 x11 x12 x13 x14 h7 =>
 mmL mxK [(.i .i64 9223372036854775809)] x10 fun x15 =>
 mmL mnK [(.i .i64 9223372036854775815)] x15 fun x16 =>
 ikK .leq x14 x16 fun x17 =>
 cdK x17 (
 bsK 3 1 1 1 [x14] h7 fun x18 h8 =>
 apK 3 1 x13 x18 h8 fun x19 h9 =>
 ikK .add x14 (.i .i64 9223372036854775809) fun x20 =>
 x9 x10 x11 x12 x19 x20 h9) (
 capp 4 (lp 4 fun (x21 : CT 4) x22 x23 x24 x25 h10 =>
 ikK .leq x25 (.i .i64 9223372036854775815) fun x26 =>
 cdK x26 (
 ncK x23 fun x27 =>
 faK 2 x27 fun x28 =>
 ld1 x28 h10 fun x29 =>
 s34 [] h10 fun x30 h11 =>
 muD false x29 x25 x30 h11 fun h12 =>
 ld1 x28 h11 fun x31 => ifT (avEq x31 x29) <|
 ikK .add x25 (.i .i64 9223372036854775809) fun x32 =>
 x21 x22 x23 x24 x32 h12) (
 lnL x24 fun x33 =>
 capp 6 (lp 6 fun (x34 : CT 6) x35 x36 x37 x38 x39 x40 h13 =>
 ikK .lss x40 x39 fun x41 =>
 cdK x41 (
 iaK 1 x38 x40 fun x42 =>
 ld1 x42 h13 fun x43 =>
 ncK x36 fun x44 =>
 faK 2 x44 fun x45 =>
 ld1 x45 h13 fun x46 =>
 lkK false false .np x46 x43 h13 fun x47 =>
 s35 [x43, x47, x37] h13 fun x48 h14 =>
 exK x48 0 fun x49 =>
 exK x48 1 fun x50 =>
 ikK .eql x50 (.i .i64 9223372036854775808) fun x51 =>
 jn 6 (fun x52 : CT 6 =>
 cdK x51 (
 ncK x36 fun x53 =>
 faK 0 x53 fun x54 =>
 ld1 x54 h14 fun x55 =>
 muD false x55 x43 x49 h14 fun h15 =>
 x52 x35 x36 x37 x38 x39 x40 h15) (
 x52 x35 x36 x37 x38 x39 x40 h14)) fun x56 x57 x58 x59 x60 x61 h16 =>
 ikK .add x61 (.i .i64 9223372036854775809) fun x62 =>
 x34 x56 x57 x58 x59 x60 x62 h16) (
 capp 3 (lp 3 fun (x63 : CT 3) x64 x65 x66 h17 =>
 mmL mxK [(.i .i64 9223372036854775809)] x64 fun x67 =>
 mmL mnK [(.i .i64 9223372036854775813)] x67 fun x68 =>
 ikK .leq x66 x68 fun x69 =>
 cdK x69 (
 ncK x65 fun x70 =>
 faK 3 x70 fun x71 =>
 ld1 x71 h17 fun x72 =>
 s34 [] h17 fun x73 h18 =>
 muD false x72 x66 x73 h18 fun h19 =>
 ld1 x71 h18 fun x74 => ifT (avEq x74 x72) <|
 ncK x65 fun x75 =>
 faK 3 x75 fun x76 =>
 ld1 x76 h19 fun x77 =>
 lkK false false .np x77 x66 h19 fun x78 =>
 s36 [x66, x78] h19 fun x79 h20 =>
 exK x79 0 fun x80 =>
 exK x79 1 fun x81 =>
 ikK .eql x81 (.i .i64 9223372036854775808) fun x82 =>
 jn 3 (fun x83 : CT 3 =>
 cdK x82 (
 ncK x65 fun x84 =>
 faK 1 x84 fun x85 =>
 ld1 x85 h20 fun x86 =>
 muD false x86 x66 x80 h20 fun h21 =>
 x83 x64 x65 x66 h21) (
 x83 x64 x65 x66 h20)) fun x87 x88 x89 h22 =>
 ikK .add x89 (.i .i64 9223372036854775809) fun x90 =>
 x63 x87 x88 x90 h22) (
 k x65 h17)) [x35, x36, (.i .i64 9223372036854775809)] h13)) [x22, x23, x24, x24, x33, (.i .i64 9223372036854775808)] h10)) [x11, x12, x13, (.i .i64 9223372036854775809)] h7)) [x0, x1, x8, .ns, (.i .i64 9223372036854775809)] h6) args h
noncomputable def s18 : FS := S18 s33 s34 s35 s36
noncomputable def a18 : Ann := (.s .o (.s .o (.s .o (.s (.s .o (.b (.l [0, 1, 5, 6, 7] (.s (.s .o (.i .o .o)) (.s (.b .o) .o))))) (.s (.s .o (.b (.l [1, 5, 6, 8] (.s (.s .o (.i .o .o)) (.s (.b (.g [0, 1, 2, 3, 4, 5, 6])) .o))))) (.s (.s .o (.b (.l [1, 5, 6, 44, 45, 46] (.s .o (.s (.i .o .o) (.s (.b (.s .o (.s .o (.s .o (.j [1, 5, 6, 44, 45, 46] .o .o))))) .o)))))) (.s (.s .o (.b (.l [1, 5, 13] (.s (.s .o (.i .o .o)) (.s (.b (.s (.g [0, 1, 2, 3, 4, 5, 6]) (.s .o (.s .o (.j [1, 5, 13] .o .o))))) .o))))) (.s .o .o))))))))
def Z36 : List AV := [.np, (.i .i64 9223372036854775808), (.i .i64 9223372036854775808), (.b false)]
def z36 : AV := .a Z36
set_option maxRecDepth 100000 in
noncomputable def S6 (s18 : FS) : FS := fun args h k => capp 2 (fun x0 x1 h0 =>
 s18 [x0, x1] h0 fun x2 h1 =>
 npK .neq x2 .np fun x3 =>
 blK [(0, 1, x2), (1, 1, x0), (2, 1, x1), (3, 1, x3)] Z36 fun x4 =>
 boxK 36 4 x4 h1 fun x5 h2 =>
 k x5 h2) args h
noncomputable def s6 : FS := S6 s18
noncomputable def a6 : Ann := (.s .o (.s .o (.s .o .o)))
set_option maxRecDepth 100000 in
noncomputable def S8 : FS := fun args h k => capp 2 (fun x0 x1 h0 =>
 boxK 30 9 z30 h0 fun x2 h1 =>
 blK [(0, 1, (.i .i64 9223372036854775812)), (1, 1, x0), (8, 1, x1)] Z30 fun x3 =>
 stL 9 x2 x3 h1 fun h2 =>
 ldN 9 x2 h2 fun x4 => k x4 h2) args h
noncomputable def s8 : FS := S8
noncomputable def a8 : Ann := (.s .o (.s .o .o))
set_option maxRecDepth 100000 in
noncomputable def S19 : FS := fun args h k => capp 2 (fun x0 x1 h0 =>
 npK .eql x0 .np fun x2 =>
 cdK x2 (
 k .np h0) (
 ncK x0 fun x3 =>
 faK 1 x3 fun x4 =>
 ld1 x4 h0 fun x5 =>
 lkK false false .np x5 x1 h0 fun x6 =>
 k x6 h0)) args h
noncomputable def s19 : FS := S19
noncomputable def a19 : Ann := (.s .o (.s (.s .o (.i (.s .o .o) .o)) (.s .o .o)))
set_option maxRecDepth 100000 in
noncomputable def S67 (s133 : FS) : FS := fun args h k => capp 1 (fun x0 h0 =>
 boxK 49 3 x0 h0 fun x1 h1 =>
 boxK 49 3 z49 h1 fun x2 h2 =>
 faK 2 x1 fun x3 =>
 ld1 x3 h2 fun x4 =>
 s133 [x4] h2 fun x5 h3 =>
 faK 2 x1 fun x6 =>
 stL 1 x6 x5 h3 fun h4 =>
 ldN 3 x1 h4 fun x7 =>
 stL 3 x2 x7 h4 fun h5 =>
 ldN 3 x2 h5 fun x8 => k x8 h5) args h
noncomputable def s67 : FS := S67 s133
noncomputable def a67 : Ann := (.s .o (.s .o (.s .o .o)))
set_option maxRecDepth 100000 in
noncomputable def S136 (s195 : FS) : FS := fun args h k => capp 2 (fun x0 x1 h0 =>
 ncK x0 fun x2 =>
 faK 0 x2 fun x3 =>
 ld1 x3 h0 fun x4 =>
 s195 [x4, x1] h0 fun x5 h1 =>
 k x5 h1) args h
noncomputable def s136 : FS := S136 s195
noncomputable def a136 : Ann := (.s .o (.s .o .o))
set_option maxRecDepth 100000 in
noncomputable def S69 (s136 : FS) : FS := fun args h k => capp 1 (fun x0 h0 =>
 ncK x0 fun x1 =>
 faK 2 x1 fun x2 =>
 ld1 x2 h0 fun x3 =>
 lnL x3 fun x4 =>
 ncK x0 fun x5 =>
 faK 3 x5 fun x6 =>
 ld1 x6 h0 fun x7 =>
 ncK x0 fun x8 =>
 faK 1 x8 fun x9 =>
 ld1 x9 h0 fun x10 =>
 s136 [x7, x10] h0 fun x11 h1 =>
 ikK .sub x4 x11 fun x12 =>
 ld1 x2 h1 fun x13 => ifT (avEq x13 x3) <|
 k x12 h1) args h
noncomputable def s69 : FS := S69 s136
noncomputable def a69 : Ann := (.s .o (.s (.g [0, 1, 2, 3, 4, 5, 6, 7, 8, 9, 10, 11, 12, 13, 14, 15]) .o))
set_option maxRecDepth 100000 in
noncomputable def S137 (s188 : FS) : FS := fun args h k => capp 3 (fun x0 x1 x2 h0 =>
 npK .eql x0 .np fun x3 =>
 cdK x3 (
 k (.i .i64 9223372036854775821) h0) (
 ncK x0 fun x4 =>
 faK 1 x4 fun x5 =>
 ld1 x5 h0 fun x6 =>
 ikK .add x6 (.i .i64 9223372036854775809) fun x7 =>
 ncK x0 fun x8 =>
 faK 1 x8 fun x9 =>
 stL 1 x9 x7 h0 fun h1 =>
 s188 [x1] h1 fun x10 h2 =>
 notK x10 fun x11 =>
 cdK x11 (
 k (.i .i64 9223372036854775809) h2) (
 ncK x0 fun x12 =>
 faK 0 x12 fun x13 =>
 ld1 x13 h2 fun x14 =>
 lkK true false .np x14 x1 h2 fun x15 =>
 npK .eql x15 .np fun x16 =>
 jn 4 (fun x17 : CT 4 =>
 cdK x16 (
 blK [] Z289 fun x18 =>
 boxK 289 3 x18 h2 fun x19 h3 =>
 x17 x0 x1 x2 x19 h3) (
 x17 x0 x1 x2 x15 h2)) fun x20 x21 x22 x23 h4 =>
 ncK x23 fun x24 =>
 faK 0 x24 fun x25 =>
 ld1 x25 h4 fun x26 =>
 lnL x26 fun x27 =>
 lnL x22 fun x28 =>
 ikK .sub (.i .i64 9223372036855824384) x28 fun x29 =>
 ikK .gtr x27 x29 fun x30 =>
 cdK x30 (
 k (.i .i64 9223372036854775813) h4) (
 ncK x23 fun x31 =>
 faK 0 x31 fun x32 =>
 ld1 x32 h4 fun x33 =>
 apK 5 1 x33 x22 h4 fun x34 h5 =>
 ncK x23 fun x35 =>
 faK 0 x35 fun x36 =>
 stL 1 x36 x34 h5 fun h6 =>
 ncK x20 fun x37 =>
 faK 0 x37 fun x38 =>
 ld1 x38 h6 fun x39 =>
 muD true x39 x21 x23 h6 fun h7 =>
 k (.i .i64 9223372036854775808) h7)))) args h
noncomputable def s137 : FS := S137 s188
noncomputable def a137 : Ann := (.s .o (.s (.s .o (.i (.s .o .o) .o)) (.s .o (.s (.s .o (.i (.s .o .o) .o)) (.s .o (.s (.s .o (.j [0, 1, 2, 7] .o .o)) (.s (.s .o (.i (.s .o .o) .o)) (.s .o (.s .o (.s .o .o))))))))))
set_option maxRecDepth 100000 in
noncomputable def S138 : FS := fun args h k => capp 2 (fun x0 x1 h0 =>
 npK .eql x0 .np fun x2 =>
 cdK x2 (
 k (.i .i64 9223372036854775821) h0) (
 ncK x0 fun x3 =>
 faK 1 x3 fun x4 =>
 ld1 x4 h0 fun x5 =>
 ikK .add x5 (.i .i64 9223372036854775809) fun x6 =>
 ncK x0 fun x7 =>
 faK 1 x7 fun x8 =>
 stL 1 x8 x6 h0 fun h1 =>
 ncK x0 fun x9 =>
 faK 0 x9 fun x10 =>
 ld1 x10 h1 fun x11 =>
 lkK true false .np x11 x1 h1 fun x12 =>
 npK .eql x12 .np fun x13 =>
 cdK x13 (
 k (.i .i64 9223372036854775821) h1) (
 ncK x12 fun x14 =>
 faK 0 x14 fun x15 =>
 ld1 x15 h1 fun x16 =>
 lnL x16 fun x17 =>
 ncK x12 fun x18 =>
 faK 1 x18 fun x19 =>
 stL 1 x19 x17 h1 fun h2 =>
 ncK x12 fun x20 =>
 faK 2 x20 fun x21 =>
 stL 1 x21 (.b true) h2 fun h3 =>
 k (.i .i64 9223372036854775808) h3))) args h
noncomputable def s138 : FS := S138
noncomputable def a138 : Ann := (.s .o (.s (.s .o (.i (.s .o .o) .o)) (.s .o (.s .o (.s (.s .o (.i (.s .o .o) .o)) (.s .o (.s .o .o)))))))
set_option maxRecDepth 100000 in
noncomputable def S70 (s137 s138 : FS) : FS := fun args h k => capp 2 (fun x0 x1 h0 =>
 ncK x0 fun x2 =>
 faK 0 x2 fun x3 =>
 ld1 x3 h0 fun x4 =>
 s137 [x4, (.s 5 [113, 117, 101, 117, 101]), x1] h0 fun x5 h1 =>
 ikK .neq x5 (.i .i64 9223372036854775808) fun x6 =>
 cdK x6 (
 k x5 h1) (
 ncK x0 fun x7 =>
 faK 0 x7 fun x8 =>
 ld1 x8 h1 fun x9 =>
 s138 [x9, (.s 5 [113, 117, 101, 117, 101])] h1 fun x10 h2 =>
 k x10 h2)) args h
noncomputable def s70 : FS := S70 s137 s138
noncomputable def a70 : Ann := (.s .o (.s (.s .o (.s .o (.i (.s .o .o) .o))) (.s .o .o)))
set_option maxRecDepth 100000 in
noncomputable def S37 (s67 s68 s69 s71 s70 : FS) : FS := fun args h k => capp 2 (fun x0 x1 h0 =>
 boxK 49 3 z49 h0 fun x2 h1 =>
 npK .eql x0 .np fun x3 =>
 cdK x3 (
 blK [] Z49 fun x4 =>
 stL 3 x2 x4 h1 fun h2 =>
 ldN 3 x2 h2 fun x5 => k (.t [x5, (.i .i64 9223372036854775820)]) h2) (
 ncK x0 fun x6 =>
 faK 1 x6 fun x7 =>
 ld1 x7 h1 fun x8 =>
 ncK x0 fun x9 =>
 faK 2 x9 fun x10 =>
 ld1 x10 h1 fun x11 =>
 lnL x11 fun x12 =>
 ikK .add x12 (.i .i64 9223372036854775809) fun x13 =>
 blK [(0, 1, x8), (1, 1, x13), (2, 1, x1)] Z49 fun x14 =>
 s67 [x14] h1 fun x15 h3 =>
 boxK 49 3 z49 h3 fun x16 h4 =>
 stL 3 x16 x15 h4 fun h5 =>
 ldN 3 x16 h5 fun x17 =>
 s68 [x17] h5 fun x18 h6 =>
 nsK .eql x18 .ns fun x19 =>
 cdK x19 (
 blK [] Z49 fun x20 =>
 stL 3 x2 x20 h6 fun h7 =>
 ldN 3 x2 h7 fun x21 => k (.t [x21, (.i .i64 9223372036854775809)]) h7) (
 s69 [x0] h6 fun x22 h8 =>
 ikK .geq x22 (.i .i64 9223372036854775838) fun x23 =>
 cdK x23 (
 blK [] Z49 fun x24 =>
 stL 3 x2 x24 h8 fun h9 =>
 ldN 3 x2 h9 fun x25 => k (.t [x25, (.i .i64 9223372036854775813)]) h9) (
 s71 [(.i .i64 9223372036854775809), x18] h8 fun x26 h10 =>
 s70 [x0, x26] h10 fun x27 h11 =>
 ikK .neq x27 (.i .i64 9223372036854775808) fun x28 =>
 cdK x28 (
 blK [] Z49 fun x29 =>
 stL 3 x2 x29 h11 fun h12 =>
 ldN 3 x2 h12 fun x30 => k (.t [x30, x27]) h12) (
 ncK x0 fun x31 =>
 faK 2 x31 fun x32 =>
 ld1 x32 h11 fun x33 =>
 ldN 3 x16 h11 fun x34 =>
 bsK 49 3 1 3 [x34] h11 fun x35 h13 =>
 apK 49 3 x33 x35 h13 fun x36 h14 =>
 ncK x0 fun x37 =>
 faK 2 x37 fun x38 =>
 stL 1 x38 x36 h14 fun h15 =>
 ld1 x32 h13 fun x39 => ifT (avEq x39 x33) <|
 ldN 3 x16 h15 fun x40 =>
 s67 [x40] h15 fun x41 h16 =>
 stL 3 x2 x41 h16 fun h17 =>
 ldN 3 x2 h17 fun x42 => k (.t [x42, (.i .i64 9223372036854775808)]) h17))))) args h
noncomputable def s37 : FS := S37 s67 s68 s69 s71 s70
noncomputable def a37 : Ann := (.s .o (.s (.s .o (.i (.s .o .o) .o)) (.s (.g [0, 1, 2, 3, 4, 5, 6, 7, 8, 9, 10, 11, 12, 13, 14]) (.s .o (.s (.b (.s .o (.i (.s .o .o) (.s .o (.i (.s .o .o) .o))))) (.s (.s .o (.s .o (.i (.s .o .o) .o))) (.s (.g [0, 1, 2, 3, 4, 5, 6, 7, 8, 9, 10]) (.s .o .o))))))))
set_option maxRecDepth 100000 in
noncomputable def S20 (s37 : FS) : FS := fun args h k => capp 2 (fun x0 x1 h0 =>
 boxK 49 3 z49 h0 fun x2 h1 =>
 npK .eql x0 .np fun x3 =>
 cdK x3 (
 blK [] Z49 fun x4 =>
 stL 3 x2 x4 h1 fun h2 =>
 ldN 3 x2 h2 fun x5 => k (.t [x5, (.i .i64 9223372036854775820)]) h2) (
 ncK x0 fun x6 =>
 faK 0 x6 fun x7 =>
 ld1 x7 h1 fun x8 =>
 s37 [x8, x1] h1 fun x9 h3 =>
 exK x9 0 fun x10 =>
 exK x9 1 fun x11 =>
 stL 3 x2 x10 h3 fun h4 =>
 ldN 3 x2 h4 fun x12 => k (.t [x12, x11]) h4)) args h
noncomputable def s20 : FS := S20 s37
noncomputable def a20 : Ann := (.s .o (.s (.s .o (.i (.s .o .o) .o)) (.s .o .o)))
set_option maxRecDepth 100000 in
noncomputable def S9 : FS := fun args h k => capp 2 (fun x0 x1 h0 =>
 ncK x0 fun x2 =>
 faK 3 x2 fun x3 =>
 ld1 x3 h0 fun x4 =>
 gdK x4 true (fun k => k x1 h0) (fun x5 h1 =>
 gdK x4 true (fun k => ikK .eql x5 (.i .i64 9223372036854775808) fun y => k y h1) (fun x6 h2 =>
 pkK x4 x6 (.b false) fun x7 =>
 ncK x0 fun x8 =>
 faK 3 x8 fun x9 =>
 stL 1 x9 x7 h2 fun h3 =>
 k (.t []) h3) h1) h0) args h
noncomputable def s9 : FS := S9
noncomputable def a9 : Ann := .o
set_option maxRecDepth 100000 in
noncomputable def S7 (s19 s20 s9 : FS) : FS := fun args h k => capp 3 (fun x0 x1 x2 h0 =>
 ncK x0 fun x3 =>
 faK 0 x3 fun x4 =>
 ld1 x4 h0 fun x5 =>
 s19 [x5, x1] h0 fun x6 h1 =>
 npK .eql x6 .np fun x7 =>
 cdK x7 (
 ncK x0 fun x8 =>
 faK 3 x8 fun x9 =>
 stL 1 x9 (.b false) h1 fun h2 =>
 k (.t []) h2) (
 s20 [x6, x2] h1 fun x10 h3 =>
 exK x10 0 fun x11 =>
 exK x10 1 fun x12 =>
 boxK 49 3 z49 h3 fun x13 h4 =>
 stL 3 x13 x11 h4 fun h5 =>
 s9 [x0, x12] h5 fun x14 h6 =>
 k (.t []) h6)) args h
noncomputable def s7 : FS := S7 s19 s20 s9
noncomputable def a7 : Ann := (.s .o (.s (.s .o (.i (.s .o .o) .o)) (.s .o .o)))
set_option maxRecDepth 100000 in
noncomputable def S21 : FS := fun args h k => capp 2 (fun x0 x1 h0 =>
 npK .eql x0 .np fun x2 =>
 cdK x2 (
 k .np h0) (
 ncK x0 fun x3 =>
 faK 0 x3 fun x4 =>
 ld1 x4 h0 fun x5 =>
 lkK false false .np x5 x1 h0 fun x6 =>
 k x6 h0)) args h
noncomputable def s21 : FS := S21
noncomputable def a21 : Ann := (.s .o (.s (.s .o (.i (.s .o .o) .o)) (.s .o .o)))
set_option maxRecDepth 100000 in
noncomputable def S22 : FS := fun args h k => capp 1 (fun x0 h0 =>
 npK .neq x0 .np fun x1 =>
 gdK x1 true (fun k => k x0 h0) (fun x2 h1 =>
 gdK x1 true (fun k => ncK x2 fun y => k y h1) (fun x3 h2 =>
 gdK x1 true (fun k => faK 3 x3 fun y => k y h2) (fun x4 h3 =>
 gdK x1 true (fun k => ld1 x4 h3 fun y => k y h3) (fun x5 h4 =>
 pkK x1 x5 (.b false) fun x6 =>
 k x6 h4) h3) h2) h1) h0) args h
noncomputable def s22 : FS := S22
noncomputable def a22 : Ann := (.s .o (.s .o .o))
set_option maxRecDepth 100000 in
noncomputable def S39 : FS := fun args h k => capp 1 (fun x0 h0 =>
 npK .eql x0 .np fun x1 =>
 gdK x1 false (fun k => k x0 h0) (fun x2 h1 =>
 gdK x1 false (fun k => ncK x2 fun y => k y h1) (fun x3 h2 =>
 gdK x1 false (fun k => faK 3 x3 fun y => k y h2) (fun x4 h3 =>
 gdK x1 false (fun k => ld1 x4 h3 fun y => k y h3) (fun x5 h4 =>
 pkK x1 (.b true) x5 fun x6 =>
 k x6 h4) h3) h2) h1) h0) args h
noncomputable def s39 : FS := S39
noncomputable def a39 : Ann := (.s .o (.s .o .o))
set_option maxRecDepth 100000 in
noncomputable def S150 : FS := fun args h k => capp 1 (fun x0 h0 =>
 npK .eql x0 .np fun x1 =>
 cdK x1 (
 k (.i .i64 9223372036854775808) h0) (
 ncK x0 fun x2 =>
 faK 0 x2 fun x3 =>
 faK 0 x3 fun x4 =>
 ld1 x4 h0 fun x5 =>
 ikK .add x5 (.i .i64 9223372036854775809) fun x6 =>
 k x6 h0)) args h
noncomputable def s150 : FS := S150
noncomputable def a150 : Ann := (.s .o (.s (.s .o (.i (.s .o .o) .o)) (.s .o .o)))
set_option maxRecDepth 100000 in
noncomputable def S145 (s54 : FS) : FS := fun args h k => capp 1 (fun x0 h0 =>
 lnS x0 fun x1 =>
 capp 4 (lp 4 fun (x2 : CT 4) x3 x4 x5 x6 h1 =>
 ikK .lss x6 x5 fun x7 =>
 cdK x7 (
 ixK x3 x6 fun x8 =>
 ciK .i64 x8 fun x9 =>
 ikK .sub x9 (.i .i64 9223372036854775856) fun x10 =>
 bsK 3 1 1 1 [x10] h1 fun x11 h2 =>
 apK 3 1 x4 x11 h2 fun x12 h3 =>
 ikK .add x6 (.i .i64 9223372036854775809) fun x13 =>
 x2 x3 x12 x5 x13 h3) (
 s54 [x4] h1 fun x14 h4 =>
 notK x14 fun x15 =>
 cdK x15 (
 k (.t [.ns, (.b false)]) h4) (
 k (.t [x4, (.b true)]) h4))) [x0, .ns, x1, (.i .i64 9223372036854775808)] h0) args h
noncomputable def s145 : FS := S145 s54
noncomputable def a145 : Ann := (.s .o (.s .o (.s (.s .o (.b (.l [0, 4, 7, 8] (.s .o (.s (.i .o .o) (.s (.b (.s .o .o)) .o)))))) (.s (.s .o (.i (.s .o .o) .o)) (.s .o .o)))))
set_option maxRecDepth 100000 in
noncomputable def S152 (s88 s150 s145 : FS) : FS := fun args h k => capp 2 (fun x0 x1 h0 =>
 npK .eql x0 .np fun x2 =>
 cdK x2 (
 k (.t [.ns, (.i .i64 9223372036854775808)]) h0) (
 s88 [x0] h0 fun x3 h1 =>
 mmL mnK [x3] x1 fun x4 =>
 capp 2 (lp 2 fun (x5 : CT 2) x6 x7 h2 =>
 s150 [x6] h2 fun x8 h3 =>
 ikK .geq x7 x8 fun x9 =>
 cdK x9 (
 ncK x6 fun x10 =>
 faK 4 x10 fun x11 =>
 ld1 x11 h3 fun x12 =>
 s150 [x6] h3 fun x13 h4 =>
 ikK .sub x7 x13 fun x14 =>
 iaK 4 x12 x14 fun x15 =>
 ldN 4 x15 h4 fun x16 =>
 boxK 168 4 z168 h4 fun x17 h5 =>
 stL 4 x17 x16 h5 fun h6 =>
 ld1 x11 h4 fun x18 => ifT (avEq x18 x12) <|
 ld1 x11 h5 fun x19 => ifT (avEq x19 x12) <|
 ldN 4 x15 h5 fun x20 => ifT (avEq x20 x16) <|
 faK 3 x17 fun x21 =>
 ld1 x21 h6 fun x22 =>
 s145 [x22] h6 fun x23 h7 =>
 exK x23 0 fun x24 =>
 exK x23 1 fun x25 =>
 gdK x25 true (fun k => faK 2 x17 fun y => k y h7) (fun x26 h8 =>
 gdK x25 true (fun k => ld1 x26 h8 fun y => k y h8) (fun x27 h9 =>
 gdK x25 true (fun k => ikK .eql x27 (.i .i64 9223372036854775811) fun y => k y h9) (fun x28 h10 =>
 pkK x25 x28 (.b false) fun x29 =>
 cdK x29 (
 k (.t [x24, x7]) h10) (
 ikK .sub x7 (.i .i64 9223372036854775809) fun x30 =>
 x5 x6 x30 h10)) h9) h8) h7) (
 ncK x6 fun x31 =>
 faK 0 x31 fun x32 =>
 faK 2 x32 fun x33 =>
 ld1 x33 h3 fun x34 =>
 s145 [x34] h3 fun x35 h11 =>
 exK x35 0 fun x36 =>
 exK x35 1 fun x37 =>
 cdK x37 (
 ncK x6 fun x38 =>
 faK 0 x38 fun x39 =>
 faK 0 x39 fun x40 =>
 ld1 x40 h11 fun x41 =>
 k (.t [x36, x41]) h11) (
 k (.t [.ns, (.i .i64 9223372036854775808)]) h11))) [x0, x4] h1)) args h
noncomputable def s152 : FS := S152 s88 s150 s145
noncomputable def a152 : Ann := (.s .o (.s (.s .o (.i (.s .o .o) .o)) (.s (.s .o (.b (.l [0, 6] (.s (.s .o (.i .o .o)) (.s (.b (.s (.g [0, 1, 2, 3, 4, 5, 6, 7, 8, 9, 10, 11]) (.s .o (.s .o (.i (.s .o .o) .o))))) .o))))) (.s (.s .o (.s .o (.i (.s (.g [0, 1, 2, 3, 4, 5, 6, 7]) .o) .o))) (.s .o .o)))))
set_option maxRecDepth 100000 in
noncomputable def S79 (s88 s152 : FS) : FS := fun args h k => capp 1 (fun x0 h0 =>
 s88 [x0] h0 fun x1 h1 =>
 s152 [x0, x1] h1 fun x2 h2 =>
 exK x2 0 fun x3 =>
 exK x2 1 fun x4 =>
 k (.t [x3, x4]) h2) args h
noncomputable def s79 : FS := S79 s88 s152
noncomputable def a79 : Ann := (.s .o (.s .o .o))
set_option maxRecDepth 100000 in
noncomputable def S89 (s79 : FS) : FS := fun args h k => capp 1 (fun x0 h0 =>
 ncK x0 fun x1 =>
 faK 3 x1 fun x2 =>
 ld1 x2 h0 fun x3 =>
 s79 [x3] h0 fun x4 h1 =>
 exK x4 0 fun x5 =>
 exK x4 1 fun x6 =>
 lnL x5 fun x7 =>
 capp 5 (lp 5 fun (x8 : CT 5) x9 x10 x11 x12 x13 h2 =>
 ikK .lss x13 x12 fun x14 =>
 cdK x14 (
 iaK 1 x11 x13 fun x15 =>
 ld1 x15 h2 fun x16 =>
 ncK x9 fun x17 =>
 faK 0 x17 fun x18 =>
 ld1 x18 h2 fun x19 =>
 ikK .neq x16 x19 fun x20 =>
 jn 5 (fun x21 : CT 5 =>
 cdK x20 (
 bsK 3 1 1 1 [x16] h2 fun x22 h3 =>
 apK 3 1 x10 x22 h3 fun x23 h4 =>
 x21 x9 x23 x11 x12 x13 h4) (
 x21 x9 x10 x11 x12 x13 h2)) fun x24 x25 x26 x27 x28 h5 =>
 ikK .add x28 (.i .i64 9223372036854775809) fun x29 =>
 x8 x24 x25 x26 x27 x29 h5) (
 k x10 h2)) [x0, .ns, x5, x7, (.i .i64 9223372036854775808)] h1) args h
noncomputable def s89 : FS := S89 s79
noncomputable def a89 : Ann := (.s .o (.s .o (.s .o (.s (.s .o (.b (.l [0, 5, 16, 17, 18] (.s .o (.s (.i .o .o) (.s (.b (.s .o (.s .o (.j [0, 5, 16, 17, 18] .o .o)))) .o)))))) (.s .o .o)))))
set_option maxRecDepth 100000 in
noncomputable def S243 : FS := fun args h k => capp 2 (fun x0 x1 h0 =>
 npK .neq x0 .np fun x2 =>
 gdK x2 true (fun k => k x1 h0) (fun x3 h1 =>
 gdK x2 true (fun k => ikK .geq x3 (.i .i64 9223372036854775809) fun y => k y h1) (fun x4 h2 =>
 pkK x2 x4 (.b false) fun x5 =>
 gdK x5 true (fun k => k x1 h2) (fun x6 h3 =>
 gdK x5 true (fun k => ikK .leq x6 (.i .i64 9223372036854775815) fun y => k y h3) (fun x7 h4 =>
 pkK x5 x7 (.b false) fun x8 =>
 k x8 h4) h3) h2) h1) h0) args h
noncomputable def s243 : FS := S243
noncomputable def a243 : Ann := (.s .o (.s .o .o))
set_option maxRecDepth 100000 in
noncomputable def S207 (s243 : FS) : FS := fun args h k => capp 2 (fun x0 x1 h0 =>
 s243 [x0, x1] h0 fun x2 h1 =>
 notK x2 fun x3 =>
 cdK x3 (
 k (.i .i64 9223372036854775808) h1) (
 ncK x0 fun x4 =>
 faK 0 x4 fun x5 =>
 iapK 8 1 x5 x1 fun x6 =>
 ld1 x6 h1 fun x7 =>
 k x7 h1)) args h
noncomputable def s207 : FS := S207 s243
noncomputable def a207 : Ann := (.s .o (.s (.s .o (.i (.s .o .o) .o)) (.s .o .o)))
set_option maxRecDepth 100000 in
noncomputable def S90 : FS := fun args h k => capp 2 (fun x0 x1 h0 =>
 boxK 69 13 x1 h0 fun x2 h1 =>
 ncK x0 fun x3 =>
 faK 0 x3 fun x4 =>
 ld1 x4 h1 fun x5 =>
 ncK x0 fun x6 =>
 faK 1 x6 fun x7 =>
 faK 0 x7 fun x8 =>
 ld1 x8 h1 fun x9 =>
 faK 1 x2 fun x10 =>
 stL 1 x10 x5 h1 fun h2 =>
 faK 3 x2 fun x11 =>
 stL 1 x11 x9 h2 fun h3 =>
 ld1 x8 h2 fun x12 => ifT (avEq x12 x9) <|
 ncK x0 fun x13 =>
 faK 10 x13 fun x14 =>
 faK 0 x14 fun x15 =>
 ld1 x15 h3 fun x16 =>
 ldN 13 x2 h3 fun x17 =>
 bsK 69 13 1 13 [x17] h3 fun x18 h4 =>
 apK 69 13 x16 x18 h4 fun x19 h5 =>
 ncK x0 fun x20 =>
 faK 10 x20 fun x21 =>
 faK 0 x21 fun x22 =>
 stL 1 x22 x19 h5 fun h6 =>
 ld1 x15 h4 fun x23 => ifT (avEq x23 x16) <|
 k (.t []) h6) args h
noncomputable def s90 : FS := S90
noncomputable def a90 : Ann := (.s .o (.s (.g [0, 1, 2, 3, 4, 5, 6, 7, 8, 9, 10, 11, 12]) (.g [0, 1, 2, 3, 4, 5, 6, 7, 8, 9, 10, 11, 12])))
set_option maxRecDepth 100000 in
noncomputable def S87 (s88 s150 : FS) : FS := fun args h k => capp 2 (fun x0 x1 h0 =>
 npK .eql x0 .np fun x2 =>
 gdK x2 false (fun k => k x1 h0) (fun x3 h1 =>
 gdK x2 false (fun k => k x0 h1) (fun x4 h2 =>
 gdK x2 false (fun k => ncK x4 fun y => k y h2) (fun x5 h3 =>
 gdK x2 false (fun k => faK 0 x5 fun y => k y h3) (fun x6 h4 =>
 gdK x2 false (fun k => faK 0 x6 fun y => k y h4) (fun x7 h5 =>
 gdK x2 false (fun k => ld1 x7 h5 fun y => k y h5) (fun x8 h6 =>
 gdK x2 false (fun k => ikK .lss x3 x8 fun y => k y h6) (fun x9 h7 =>
 pkK x2 (.b true) x9 fun x10 =>
 gdK x10 false (fun k => k x1 h7) (fun x11 h8 =>
 gdK x10 false (fun k => k x0 h8) (fun x12 h9 =>
 gdK x10 false (fun k => s88 [x12] h9 k) (fun x13 h10 =>
 gdK x10 false (fun k => ikK .gtr x11 x13 fun y => k y h10) (fun x14 h11 =>
 pkK x10 (.b true) x14 fun x15 =>
 cdK x15 (
 k (.t [(.i .i64 9223372036854775808), (.b false)]) h11) (
 ncK x0 fun x16 =>
 faK 0 x16 fun x17 =>
 faK 0 x17 fun x18 =>
 ld1 x18 h11 fun x19 =>
 ikK .eql x1 x19 fun x20 =>
 cdK x20 (
 ncK x0 fun x21 =>
 faK 0 x21 fun x22 =>
 faK 1 x22 fun x23 =>
 ld1 x23 h11 fun x24 =>
 k (.t [x24, (.b true)]) h11) (
 ncK x0 fun x25 =>
 faK 4 x25 fun x26 =>
 ld1 x26 h11 fun x27 =>
 s150 [x0] h11 fun x28 h12 =>
 ikK .sub x1 x28 fun x29 =>
 iaK 4 x27 x29 fun x30 =>
 faK 1 x30 fun x31 =>
 ld1 x31 h12 fun x32 =>
 ld1 x26 h12 fun x33 => ifT (avEq x33 x27) <|
 k (.t [x32, (.b true)]) h12))) h10) h9) h8) h7) h6) h5) h4) h3) h2) h1) h0) args h
noncomputable def s87 : FS := S87 s88 s150
noncomputable def a87 : Ann := (.s .o (.s (.b (.s .o (.i (.s .o .o) (.s .o (.i (.s .o .o) .o))))) (.s (.g [0, 1, 2, 3, 4, 5, 6, 7, 8, 9, 10, 11, 12]) .o)))
set_option maxRecDepth 100000 in
noncomputable def S77 (s150 s88 s119 : FS) : FS := fun args h k => capp 3 (fun x0 x1 x2 h0 =>
 npK .eql x0 .np fun x3 =>
 gdK x3 false (fun k => k x1 h0) (fun x4 h1 =>
 gdK x3 false (fun k => k x0 h1) (fun x5 h2 =>
 gdK x3 false (fun k => s150 [x5] h2 k) (fun x6 h3 =>
 gdK x3 false (fun k => ikK .lss x4 x6 fun y => k y h3) (fun x7 h4 =>
 pkK x3 (.b true) x7 fun x8 =>
 gdK x8 false (fun k => k x1 h4) (fun x9 h5 =>
 gdK x8 false (fun k => k x0 h5) (fun x10 h6 =>
 gdK x8 false (fun k => s88 [x10] h6 k) (fun x11 h7 =>
 gdK x8 false (fun k => ikK .gtr x9 x11 fun y => k y h7) (fun x12 h8 =>
 pkK x8 (.b true) x12 fun x13 =>
 gdK x13 false (fun k => k x2 h8) (fun x14 h9 =>
 gdK x13 false (fun k => ikK .lss x14 (.i .i64 9223372036854775809) fun y => k y h9) (fun x15 h10 =>
 pkK x13 (.b true) x15 fun x16 =>
 cdK x16 (
 k .ns h10) (
 ncK x0 fun x17 =>
 faK 4 x17 fun x18 =>
 ld1 x18 h10 fun x19 =>
 s150 [x0] h10 fun x20 h11 =>
 ikK .sub x1 x20 fun x21 =>
 sllK 4 (some x21) none none x19 fun x22 =>
 ld1 x18 h11 fun x23 => ifT (avEq x23 x19) <|
 lnL x22 fun x24 =>
 mmL mnK [x24] x2 fun x25 =>
 sllK 4 none (some x25) none x22 fun x26 =>
 s119 [x26] h11 fun x27 h12 =>
 k x27 h12)) h9) h8) h7) h6) h5) h4) h3) h2) h1) h0) args h
noncomputable def s77 : FS := S77 s150 s88 s119
noncomputable def a77 : Ann := (.s .o (.s (.s .o (.i (.s .o .o) .o)) (.s (.g [0, 1, 2, 3, 4, 5, 6, 7, 8, 9]) (.s .o .o))))
set_option maxRecDepth 100000 in
noncomputable def S210 : FS := fun args h k => capp 1 (fun x0 h0 =>
 ikK .geq x0 (.i .i64 9223372036854775808) fun x1 =>
 gdK x1 true (fun k => k x0 h0) (fun x2 h1 =>
 gdK x1 true (fun k => ikK .leq x2 (.i .i64 9223373136366403584) fun y => k y h1) (fun x3 h2 =>
 pkK x1 x3 (.b false) fun x4 =>
 k x4 h2) h1) h0) args h
noncomputable def s210 : FS := S210
noncomputable def a210 : Ann := (.s .o (.s .o .o))
set_option maxRecDepth 100000 in
noncomputable def S208 (s243 s210 : FS) : FS := fun args h k => capp 3 (fun x0 x1 x2 h0 =>
 s243 [x0, x1] h0 fun x3 h1 =>
 gdK x3 true (fun k => k x2 h1) (fun x4 h2 =>
 gdK x3 true (fun k => s210 [x4] h2 k) (fun x5 h3 =>
 pkK x3 x5 (.b false) fun x6 =>
 cdK x6 (
 ncK x0 fun x7 =>
 faK 0 x7 fun x8 =>
 iapK 8 1 x8 x1 fun x9 =>
 ld1 x9 h3 fun x10 =>
 ikK .add x2 (.i .i64 9223372036854775809) fun x11 =>
 mmL mxK [x11] x10 fun x12 =>
 ncK x0 fun x13 =>
 faK 0 x13 fun x14 =>
 iapK 8 1 x14 x1 fun x15 =>
 stL 1 x15 x12 h3 fun h4 =>
 k (.t []) h4) (
 k (.t []) h3)) h2) h1) args h
noncomputable def s208 : FS := S208 s243 s210
noncomputable def a208 : Ann := (.s .o (.i (.g [0, 1, 2, 3, 4, 5, 6, 7, 8, 9, 10, 11, 12, 13, 14]) .o))
def Z69 : List AV := [(.i .i64 9223372036854775808), (.i .i64 9223372036854775808), (.i .i64 9223372036854775808), (.i .i64 9223372036854775808), (.i .i64 9223372036854775808), (.i .i64 9223372036854775808), (.i .i64 9223372036854775808), (.b false), .ns, (.i .i64 9223372036854775808), (.i .i64 9223372036854775808), (.s 0 []), (.s 0 [])]
def z69 : AV := .a Z69
set_option maxRecDepth 100000 in
noncomputable def S153 (s207 s150 s126 s90 s87 s77 s208 : FS) : FS := fun args h k => capp 2 (fun x0 x1 h0 =>
 ncK x0 fun x2 =>
 faK 9 x2 fun x3 =>
 ld1 x3 h0 fun x4 =>
 s207 [x4, x1] h0 fun x5 h1 =>
 ncK x0 fun x6 =>
 faK 3 x6 fun x7 =>
 ld1 x7 h1 fun x8 =>
 s150 [x8] h1 fun x9 h2 =>
 ikK .lss x5 x9 fun x10 =>
 cdK x10 (
 ncK x0 fun x11 =>
 faK 3 x11 fun x12 =>
 ld1 x12 h2 fun x13 =>
 s126 [x13] h2 fun x14 h3 =>
 blK [(0, 1, (.i .i64 9223372036854775813)), (2, 1, x1), (9, 4, x14)] Z69 fun x15 =>
 s90 [x0, x15] h3 fun x16 h4 =>
 k (.t []) h4) (
 ncK x0 fun x17 =>
 faK 3 x17 fun x18 =>
 ld1 x18 h2 fun x19 =>
 ikK .sub x5 (.i .i64 9223372036854775809) fun x20 =>
 s87 [x19, x20] h2 fun x21 h5 =>
 exK x21 0 fun x22 =>
 exK x21 1 fun x23 =>
 ikK .sub x5 (.i .i64 9223372036854775809) fun x24 =>
 ncK x0 fun x25 =>
 faK 3 x25 fun x26 =>
 ld1 x26 h5 fun x27 =>
 ncK x0 fun x28 =>
 faK 4 x28 fun x29 =>
 ld1 x29 h5 fun x30 =>
 s77 [x27, x5, (.i .i64 9223372036854775816)] h5 fun x31 h6 =>
 blK [(0, 1, (.i .i64 9223372036854775811)), (2, 1, x1), (4, 1, x24), (5, 1, x22), (8, 1, x31), (6, 1, x30)] Z69 fun x32 =>
 boxK 69 13 z69 h6 fun x33 h7 =>
 stL 13 x33 x32 h7 fun h8 =>
 ld1 x29 h6 fun x34 => ifT (avEq x34 x30) <|
 ld1 x29 h7 fun x35 => ifT (avEq x35 x30) <|
 ncK x0 fun x36 =>
 faK 9 x36 fun x37 =>
 ld1 x37 h8 fun x38 =>
 ikK .sub x5 (.i .i64 9223372036854775809) fun x39 =>
 faK 8 x33 fun x40 =>
 ld1 x40 h8 fun x41 =>
 lnL x41 fun x42 =>
 ikK .add x39 x42 fun x43 =>
 s208 [x38, x1, x43] h8 fun x44 h9 =>
 ldN 13 x33 h9 fun x45 =>
 s90 [x0, x45] h9 fun x46 h10 =>
 k (.t []) h10)) args h
noncomputable def s153 : FS := S153 s207 s150 s126 s90 s87 s77 s208
noncomputable def a153 : Ann := (.s .o (.s (.s .o (.i (.s .o .o) .o)) (.s .o (.s (.g [0, 1, 2, 3, 4, 5, 6, 7, 8, 10, 11, 12, 13, 9, 14, 15, 16]) (.s (.g [0, 1, 2, 3, 4, 5, 6, 7, 8, 9, 10, 11]) .o)))))
set_option maxRecDepth 100000 in
noncomputable def S80 (s89 s153 : FS) : FS := fun args h k => capp 1 (fun x0 h0 =>
 ncK x0 fun x1 =>
 faK 5 x1 fun x2 =>
 ld1 x2 h0 fun x3 =>
 ikK .neq x3 (.i .i64 9223372036854775810) fun x4 =>
 cdK x4 (
 k (.t []) h0) (
 s89 [x0] h0 fun x5 h1 =>
 lnL x5 fun x6 =>
 capp 4 (lp 4 fun (x7 : CT 4) x8 x9 x10 x11 h2 =>
 ikK .lss x11 x10 fun x12 =>
 cdK x12 (
 iaK 1 x9 x11 fun x13 =>
 ld1 x13 h2 fun x14 =>
 s153 [x8, x14] h2 fun x15 h3 =>
 ikK .add x11 (.i .i64 9223372036854775809) fun x16 =>
 x7 x8 x9 x10 x16 h3) (
 k (.t []) h2)) [x0, x5, x6, (.i .i64 9223372036854775808)] h1)) args h
noncomputable def s80 : FS := S80 s89 s153
noncomputable def a80 : Ann := (.s (.s .o (.i .o .o)) (.s .o (.b (.l [0, 10, 11, 12] (.s .o (.s (.i .o .o) (.s (.b (.s .o .o)) .o)))))))
set_option maxRecDepth 100000 in
noncomputable def S209 : FS := fun args h k => capp 2 (fun x0 x1 h0 =>
 lnL x0 fun x2 =>
 capp 4 (lp 4 fun (x3 : CT 4) x4 x5 x6 x7 h1 =>
 ikK .lss x7 x6 fun x8 =>
 cdK x8 (
 iaK 1 x4 x7 fun x9 =>
 ld1 x9 h1 fun x10 =>
 ikK .eql x5 x10 fun x11 =>
 cdK x11 (
 k x7 h1) (
 ikK .add x7 (.i .i64 9223372036854775809) fun x12 =>
 x3 x4 x5 x6 x12 h1)) (
 k (.i .i64 9223372036854775807) h1)) [x0, x1, x2, (.i .i64 9223372036854775808)] h0) args h
noncomputable def s209 : FS := S209
noncomputable def a209 : Ann := (.s .o (.s (.s .o (.b (.l [0, 1, 7, 8] (.s .o (.s (.i .o .o) (.s (.b (.s .o (.s .o (.i (.s .o .o) .o)))) .o)))))) (.s .o .o)))
set_option maxRecDepth 100000 in
noncomputable def S154 (s209 : FS) : FS := fun args h k => capp 2 (fun x0 x1 h0 =>
 s209 [x0, x1] h0 fun x2 h1 =>
 ikK .geq x2 (.i .i64 9223372036854775808) fun x3 =>
 k x3 h1) args h
noncomputable def s154 : FS := S154 s209
noncomputable def a154 : Ann := (.s .o (.s .o .o))
set_option maxRecDepth 100000 in
noncomputable def S81 (s154 : FS) : FS := fun args h k => capp 2 (fun x0 x1 h0 =>
 s154 [x0, x1] h0 fun x2 h1 =>
 k x2 h1) args h
noncomputable def s81 : FS := S81 s154
noncomputable def a81 : Ann := (.s .o (.s .o .o))
set_option maxRecDepth 100000 in
noncomputable def S82 : FS := fun args h k => capp 2 (fun x0 x1 h0 =>
 boxK 141 2 x1 h0 fun x2 h1 =>
 ncK x0 fun x3 =>
 faK 10 x3 fun x4 =>
 faK 1 x4 fun x5 =>
 ld1 x5 h1 fun x6 =>
 gdK x6 false (fun k => ldN 2 x2 h1 fun y => k y h1) (fun x7 h2 =>
 gdK x6 false (fun k => k x0 h2) (fun x8 h3 =>
 gdK x6 false (fun k => ncK x8 fun y => k y h3) (fun x9 h4 =>
 gdK x6 false (fun k => faK 1 x9 fun y => k y h4) (fun x10 h5 =>
 gdK x6 false (fun k => ldN 2 x10 h5 fun y => k y h5) (fun x11 h6 =>
 gdK x6 false (fun k => sqA .neq 141 x7 x11 fun y => k y h6) (fun x12 h7 =>
 pkK x6 (.b true) x12 fun x13 =>
 ncK x0 fun x14 =>
 faK 10 x14 fun x15 =>
 faK 1 x15 fun x16 =>
 stL 1 x16 x13 h7 fun h8 =>
 ldN 2 x2 h8 fun x17 =>
 ncK x0 fun x18 =>
 faK 1 x18 fun x19 =>
 stL 2 x19 x17 h8 fun h9 =>
 k (.t []) h9) h6) h5) h4) h3) h2) h1) args h
noncomputable def s82 : FS := S82
noncomputable def a82 : Ann := (.s .o (.s (.g [0, 1, 2, 3, 4, 5, 6, 7, 8, 9, 10, 11, 12, 13, 14, 15, 16, 17]) .o))
set_option maxRecDepth 100000 in
noncomputable def S155 : FS := fun args h k => capp 1 (fun x0 h0 =>
 nsK .eql x0 .ns fun x1 =>
 cdK x1 (
 k .ns h0) (
 bsK 3 1 0 0 [] h0 fun x2 h1 =>
 apK 3 1 x2 x0 h1 fun x3 h2 =>
 k x3 h2)) args h
noncomputable def s155 : FS := S155
noncomputable def a155 : Ann := (.s .o (.s (.s .o (.i (.s .o .o) .o)) (.s .o .o)))
def Z264 : List AV := [.ns, .ns, .ns]
def z264 : AV := .a Z264
set_option maxRecDepth 100000 in
noncomputable def S83 (s54 s155 : FS) : FS := fun args h k => capp 1 (fun x0 h0 =>
 s54 [x0] h0 fun x1 h1 =>
 notK x1 fun x2 =>
 jn 1 (fun x3 : CT 1 =>
 cdK x2 (
 x3 .ns h1) (
 x3 x0 h1)) fun x4 h2 =>
 s155 [x4] h2 fun x5 h3 =>
 blK [(0, 1, x5)] Z264 fun x6 =>
 boxK 264 3 x6 h3 fun x7 h4 =>
 k x7 h4) args h
noncomputable def s83 : FS := S83 s54 s155
noncomputable def a83 : Ann := (.s .o (.s (.s .o (.j [0] .o .o)) (.s .o .o)))
set_option maxRecDepth 100000 in
noncomputable def S156 (s81 : FS) : FS := fun args h k => capp 2 (fun x0 x1 h0 =>
 npK .neq x0 .np fun x2 =>
 gdK x2 true (fun k => k x0 h0) (fun x3 h1 =>
 gdK x2 true (fun k => ncK x3 fun y => k y h1) (fun x4 h2 =>
 gdK x2 true (fun k => faK 0 x4 fun y => k y h2) (fun x5 h3 =>
 gdK x2 true (fun k => ld1 x5 h3 fun y => k y h3) (fun x6 h4 =>
 gdK x2 true (fun k => k x1 h4) (fun x7 h5 =>
 gdK x2 true (fun k => s81 [x6, x7] h5 k) (fun x8 h6 =>
 pkK x2 x8 (.b false) fun x9 =>
 gdK x9 true (fun k => k x0 h6) (fun x10 h7 =>
 gdK x9 true (fun k => ncK x10 fun y => k y h7) (fun x11 h8 =>
 gdK x9 true (fun k => faK 1 x11 fun y => k y h8) (fun x12 h9 =>
 gdK x9 true (fun k => ld1 x12 h9 fun y => k y h9) (fun x13 h10 =>
 gdK x9 true (fun k => k x1 h10) (fun x14 h11 =>
 gdK x9 true (fun k => s81 [x13, x14] h11 k) (fun x15 h12 =>
 gdK x9 true (fun k => notK x15 fun y => k y h12) (fun x16 h13 =>
 pkK x9 x16 (.b false) fun x17 =>
 gdK x17 true (fun k => k x0 h13) (fun x18 h14 =>
 gdK x17 true (fun k => ncK x18 fun y => k y h14) (fun x19 h15 =>
 gdK x17 true (fun k => faK 2 x19 fun y => k y h15) (fun x20 h16 =>
 gdK x17 true (fun k => ld1 x20 h16 fun y => k y h16) (fun x21 h17 =>
 gdK x17 true (fun k => k x1 h17) (fun x22 h18 =>
 gdK x17 true (fun k => s81 [x21, x22] h18 k) (fun x23 h19 =>
 gdK x17 true (fun k => notK x23 fun y => k y h19) (fun x24 h20 =>
 pkK x17 x24 (.b false) fun x25 =>
 k x25 h20) h19) h18) h17) h16) h15) h14) h13) h12) h11) h10) h9) h8) h7) h6) h5) h4) h3) h2) h1) h0) args h
noncomputable def s156 : FS := S156 s81
noncomputable def a156 : Ann := (.s .o (.s .o .o))
set_option maxRecDepth 100000 in
noncomputable def S84 (s156 : FS) : FS := fun args h k => capp 2 (fun x0 x1 h0 =>
 s156 [x0, x1] h0 fun x2 h1 =>
 notK x2 fun x3 =>
 cdK x3 (
 k (.b false) h1) (
 ncK x0 fun x4 =>
 faK 1 x4 fun x5 =>
 ld1 x5 h1 fun x6 =>
 bsK 3 1 1 1 [x1] h1 fun x7 h2 =>
 apK 3 1 x6 x7 h2 fun x8 h3 =>
 ncK x0 fun x9 =>
 faK 1 x9 fun x10 =>
 stL 1 x10 x8 h3 fun h4 =>
 k (.b true) h4)) args h
noncomputable def s84 : FS := S84 s156
noncomputable def a84 : Ann := (.s .o (.s (.s .o (.i (.s .o .o) .o)) (.s .o (.s .o .o))))
set_option maxRecDepth 100000 in
noncomputable def S157 (s81 s54 : FS) : FS := fun args h k => capp 2 (fun x0 x1 h0 =>
 lnL x0 fun x2 =>
 capp 6 (lp 6 fun (x3 : CT 6) x4 x5 x6 x7 x8 x9 h1 =>
 ikK .lss x9 x8 fun x10 =>
 cdK x10 (
 iaK 1 x7 x9 fun x11 =>
 ld1 x11 h1 fun x12 =>
 s81 [x5, x12] h1 fun x13 h2 =>
 jn 6 (fun x14 : CT 6 =>
 cdK x13 (
 ikK .add x6 (.i .i64 9223372036854775809) fun x15 =>
 x14 x4 x5 x15 x7 x8 x9 h2) (
 x14 x4 x5 x6 x7 x8 x9 h2)) fun x16 x17 x18 x19 x20 x21 h3 =>
 ikK .add x21 (.i .i64 9223372036854775809) fun x22 =>
 x3 x16 x17 x18 x19 x20 x22 h3) (
 s54 [x4] h1 fun x23 h4 =>
 gdK x23 true (fun k => k x6 h4) (fun x24 h5 =>
 gdK x23 true (fun k => ikK .mul (.i .i64 9223372036854775810) x24 fun y => k y h5) (fun x25 h6 =>
 gdK x23 true (fun k => k x4 h6) (fun x26 h7 =>
 gdK x23 true (fun k => lnL x26 fun y => k y h7) (fun x27 h8 =>
 gdK x23 true (fun k => ikK .gtr x25 x27 fun y => k y h8) (fun x28 h9 =>
 pkK x23 x28 (.b false) fun x29 =>
 k x29 h9) h8) h7) h6) h5) h4)) [x0, x1, (.i .i64 9223372036854775808), x0, x2, (.i .i64 9223372036854775808)] h0) args h
noncomputable def s157 : FS := S157 s81 s54
noncomputable def a157 : Ann := (.s .o (.s .o (.s (.s .o (.b (.l [0, 1, 5, 8, 9, 10] (.s .o (.s (.i .o .o) (.s (.b (.s .o (.s .o (.j [0, 1, 5, 8, 9, 10] .o .o)))) .o)))))) (.s .o .o))))
set_option maxRecDepth 100000 in
noncomputable def S85 (s157 : FS) : FS := fun args h k => capp 1 (fun x0 h0 =>
 npK .neq x0 .np fun x1 =>
 gdK x1 true (fun k => k x0 h0) (fun x2 h1 =>
 gdK x1 true (fun k => ncK x2 fun y => k y h1) (fun x3 h2 =>
 gdK x1 true (fun k => faK 0 x3 fun y => k y h2) (fun x4 h3 =>
 gdK x1 true (fun k => ld1 x4 h3 fun y => k y h3) (fun x5 h4 =>
 gdK x1 true (fun k => k x0 h4) (fun x6 h5 =>
 gdK x1 true (fun k => ncK x6 fun y => k y h5) (fun x7 h6 =>
 gdK x1 true (fun k => faK 1 x7 fun y => k y h6) (fun x8 h7 =>
 gdK x1 true (fun k => ld1 x8 h7 fun y => k y h7) (fun x9 h8 =>
 gdK x1 true (fun k => s157 [x5, x9] h8 k) (fun x10 h9 =>
 pkK x1 x10 (.b false) fun x11 =>
 k x11 h9) h8) h7) h6) h5) h4) h3) h2) h1) h0) args h
noncomputable def s85 : FS := S85 s157
noncomputable def a85 : Ann := (.s .o (.s (.g [0, 1, 2, 3, 4, 5, 6, 7, 8, 9, 10, 11, 12, 13]) .o))
def Z318 : List AV := [(.i .i64 9223372036854775808), (.i .i64 9223372036854775808), (.i .i64 9223372036854775808), (.i .i64 9223372036854775808), (.i .i64 9223372036854775808), (.i .i64 9223372036854775808), (.i .i64 9223372036854775808), (.i .i64 9223372036854775808), (.i .i64 9223372036854775808), (.i .i64 9223372036854775808), (.i .i64 9223372036854775808), (.i .i64 9223372036854775808), (.i .i64 9223372036854775808), (.i .i64 9223372036854775808), (.i .i64 9223372036854775808), (.i .i64 9223372036854775808)]
def z318 : AV := .a Z318
set_option maxRecDepth 100000 in
noncomputable def S158 (s210 : FS) : FS := fun args h k => capp 1 (fun x0 h0 =>
 s210 [x0] h0 fun x1 h1 =>
 notK x1 fun x2 =>
 jn 1 (fun x3 : CT 1 =>
 cdK x2 (
 x3 (.i .i64 9223372036854775808) h1) (
 x3 x0 h1)) fun x4 h2 =>
 blK [] Z318 fun x5 =>
 boxK 318 16 x5 h2 fun x6 h3 =>
 capp 3 (lp 3 fun (x7 : CT 3) x8 x9 x10 h4 =>
 ikK .lss x10 (.i .i64 9223372036854775816) fun x11 =>
 cdK x11 (
 ikK .add x8 (.i .i64 9223372036854775809) fun x12 =>
 ncK x9 fun x13 =>
 faK 0 x13 fun x14 =>
 iapK 8 1 x14 x10 fun x15 =>
 stL 1 x15 x12 h4 fun h5 =>
 ikK .add x10 (.i .i64 9223372036854775809) fun x16 =>
 x7 x8 x9 x16 h5) (
 k x9 h4)) [x4, x6, (.i .i64 9223372036854775808)] h3) args h
noncomputable def s158 : FS := S158 s210
noncomputable def a158 : Ann := (.s .o (.s (.s .o (.j [0] .o .o)) (.s .o (.s (.s .o (.b (.l [0, 3, 10] (.s .o (.s (.i .o .o) (.s (.b (.s .o .o)) .o)))))) (.s .o .o)))))
set_option maxRecDepth 100000 in
noncomputable def S214 (s87 : FS) : FS := fun args h k => capp 3 (fun x0 x1 x2 h0 =>
 s87 [x0, x1] h0 fun x3 h1 =>
 exK x3 0 fun x4 =>
 exK x3 1 fun x5 =>
 gdK x5 true (fun k => k x4 h1) (fun x6 h2 =>
 gdK x5 true (fun k => k x2 h2) (fun x7 h3 =>
 gdK x5 true (fun k => ikK .eql x6 x7 fun y => k y h3) (fun x8 h4 =>
 pkK x5 x8 (.b false) fun x9 =>
 k x9 h4) h3) h2) h1) args h
noncomputable def s214 : FS := S214 s87
noncomputable def a214 : Ann := (.s .o (.s .o (.s .o .o)))
set_option maxRecDepth 100000 in
noncomputable def S212 (s88 s128 s214 s150 s87 : FS) : FS := fun args h k => capp 2 (fun x0 x1 h0 =>
 npK .eql x0 .np fun x2 =>
 cdK x2 (
 k (.t [(.i .i64 9223372036854775808), (.b false)]) h0) (
 lnL x1 fun x3 =>
 ikK .eql x3 (.i .i64 9223372036854775808) fun x4 =>
 cdK x4 (
 k (.t [(.i .i64 9223372036854775808), (.b true)]) h0) (
 iaK 4 x1 (.i .i64 9223372036854775808) fun x5 =>
 faK 0 x5 fun x6 =>
 ld1 x6 h0 fun x7 =>
 s88 [x0] h0 fun x8 h1 =>
 ikK .add x8 (.i .i64 9223372036854775809) fun x9 =>
 ikK .gtr x7 x9 fun x10 =>
 gdK x10 false (fun k => k x1 h1) (fun x11 h2 =>
 gdK x10 false (fun k => iaK 4 x11 (.i .i64 9223372036854775808) fun y => k y h2) (fun x12 h3 =>
 gdK x10 false (fun k => faK 0 x12 fun y => k y h3) (fun x13 h4 =>
 gdK x10 false (fun k => ld1 x13 h4 fun y => k y h4) (fun x14 h5 =>
 gdK x10 false (fun k => ikK .sub x14 (.i .i64 9223372036854775809) fun y => k y h5) (fun x15 h6 =>
 gdK x10 false (fun k => k x1 h6) (fun x16 h7 =>
 gdK x10 false (fun k => iaK 4 x16 (.i .i64 9223372036854775808) fun y => k y h7) (fun x17 h8 =>
 gdK x10 false (fun k => faK 1 x17 fun y => k y h8) (fun x18 h9 =>
 gdK x10 false (fun k => ld1 x18 h9 fun y => k y h9) (fun x19 h10 =>
 gdK x10 false (fun k => k x1 h10) (fun x20 h11 =>
 gdK x10 false (fun k => s128 [x15, x19, x20] h11 k) (fun x21 h12 =>
 gdK x10 false (fun k => notK x21 fun y => k y h12) (fun x22 h13 =>
 pkK x10 (.b true) x22 fun x23 =>
 ld1 x6 h1 fun x24 => ifT (avEq x24 x7) <|
 cdK x23 (
 k (.t [(.i .i64 9223372036854775808), (.b false)]) h13) (
 capp 2 (lp 2 fun (x25 : CT 2) x26 x27 h14 =>
 lnL x27 fun x28 =>
 ikK .gtr x28 (.i .i64 9223372036854775808) fun x29 =>
 gdK x29 true (fun k => k x27 h14) (fun x30 h15 =>
 gdK x29 true (fun k => iaK 4 x30 (.i .i64 9223372036854775808) fun y => k y h15) (fun x31 h16 =>
 gdK x29 true (fun k => faK 0 x31 fun y => k y h16) (fun x32 h17 =>
 gdK x29 true (fun k => ld1 x32 h17 fun y => k y h17) (fun x33 h18 =>
 gdK x29 true (fun k => k x26 h18) (fun x34 h19 =>
 gdK x29 true (fun k => ncK x34 fun y => k y h19) (fun x35 h20 =>
 gdK x29 true (fun k => faK 0 x35 fun y => k y h20) (fun x36 h21 =>
 gdK x29 true (fun k => faK 0 x36 fun y => k y h21) (fun x37 h22 =>
 gdK x29 true (fun k => ld1 x37 h22 fun y => k y h22) (fun x38 h23 =>
 gdK x29 true (fun k => ikK .leq x33 x38 fun y => k y h23) (fun x39 h24 =>
 gdK x29 true (fun k => k x39 h24) (fun x40 h25 =>
 gdK x40 false (fun k => k x26 h25) (fun x41 h26 =>
 gdK x40 false (fun k => k x27 h26) (fun x42 h27 =>
 gdK x40 false (fun k => iaK 4 x42 (.i .i64 9223372036854775808) fun y => k y h27) (fun x43 h28 =>
 gdK x40 false (fun k => faK 0 x43 fun y => k y h28) (fun x44 h29 =>
 gdK x40 false (fun k => ld1 x44 h29 fun y => k y h29) (fun x45 h30 =>
 gdK x40 false (fun k => k x27 h30) (fun x46 h31 =>
 gdK x40 false (fun k => iaK 4 x46 (.i .i64 9223372036854775808) fun y => k y h31) (fun x47 h32 =>
 gdK x40 false (fun k => faK 1 x47 fun y => k y h32) (fun x48 h33 =>
 gdK x40 false (fun k => ld1 x48 h33 fun y => k y h33) (fun x49 h34 =>
 gdK x40 false (fun k => s214 [x41, x45, x49] h34 k) (fun x50 h35 =>
 gdK x29 true (fun k => pkK x40 (.b true) x50 fun y => k y h35) (fun x51 h36 =>
 pkK x29 x51 (.b false) fun x52 =>
 cdK x52 (
 sllK 4 (some (.i .i64 9223372036854775809)) none none x27 fun x53 =>
 x25 x26 x53 h36) (
 lnL x27 fun x54 =>
 ikK .eql x54 (.i .i64 9223372036854775808) fun x55 =>
 cdK x55 (
 k (.t [(.i .i64 9223372036854775808), (.b true)]) h36) (
 iaK 4 x27 (.i .i64 9223372036854775808) fun x56 =>
 faK 0 x56 fun x57 =>
 ld1 x57 h36 fun x58 =>
 s150 [x26] h36 fun x59 h37 =>
 ikK .sub x58 x59 fun x60 =>
 ikK .sub x58 (.i .i64 9223372036854775809) fun x61 =>
 s87 [x26, x61] h37 fun x62 h38 =>
 exK x62 0 fun x63 =>
 exK x62 1 fun x64 =>
 iaK 4 x27 (.i .i64 9223372036854775808) fun x65 =>
 faK 1 x65 fun x66 =>
 ld1 x66 h38 fun x67 =>
 ikK .lss x67 x63 fun x68 =>
 gdK x68 false (fun k => k x60 h38) (fun x69 h39 =>
 gdK x68 false (fun k => k x27 h39) (fun x70 h40 =>
 gdK x68 false (fun k => lnL x70 fun y => k y h40) (fun x71 h41 =>
 gdK x68 false (fun k => ikK .add x69 x71 fun y => k y h41) (fun x72 h42 =>
 gdK x68 false (fun k => ikK .gtr x72 (.i .i64 9223372036854776008) fun y => k y h42) (fun x73 h43 =>
 pkK x68 (.b true) x73 fun x74 =>
 cdK x74 (
 k (.t [(.i .i64 9223372036854775808), (.b false)]) h43) (
 ncK x26 fun x75 =>
 faK 4 x75 fun x76 =>
 ld1 x76 h43 fun x77 =>
 sllK 4 none (some x60) (some x60) x77 fun x78 =>
 apK 168 4 x78 x27 h43 fun x79 h44 =>
 ncK x26 fun x80 =>
 faK 4 x80 fun x81 =>
 stL 1 x81 x79 h44 fun h45 =>
 k (.t [x58, (.b true)]) h45)) h42) h41) h40) h39) h38))) h35) h34) h33) h32) h31) h30) h29) h28) h27) h26) h25) h24) h23) h22) h21) h20) h19) h18) h17) h16) h15) h14) [x0, x1] h13)) h12) h11) h10) h9) h8) h7) h6) h5) h4) h3) h2) h1))) args h
noncomputable def s212 : FS := S212 s88 s128 s214 s150 s87
noncomputable def a212 : Ann := (.s .o (.s (.s .o (.i (.s .o .o) .o)) (.s (.s .o (.i (.s .o .o) .o)) (.s (.s (.g [0, 1, 2, 3, 4, 5, 6, 7, 8, 9, 10, 11, 12, 13, 14, 15, 16, 17, 18, 19, 20, 21]) (.i (.s .o .o) .o)) (.s (.b (.l [0, 1] (.s (.s (.g [0, 1, 2, 3, 4, 5, 6, 7, 8, 9, 10, 11, 12, 13, 14, 15, 16, 17, 18, 19, 20, 21, 22, 23, 24, 25, 26]) (.i .o .o)) (.b .o)))) (.s (.s .o (.i (.s .o .o) .o)) (.s .o (.s .o (.s (.s .o (.s .o (.i (.s .o .o) .o))) (.s .o (.s .o .o)))))))))))
set_option maxRecDepth 100000 in
noncomputable def S211 : FS := fun args h k => capp 3 (fun x0 x1 x2 h0 =>
 ikK .gtr x1 (.i .i64 9223372036854775808) fun x3 =>
 gdK x3 true (fun k => k x0 h0) (fun x4 h1 =>
 gdK x3 true (fun k => ncK x4 fun y => k y h1) (fun x5 h2 =>
 gdK x3 true (fun k => faK 10 x5 fun y => k y h2) (fun x6 h3 =>
 gdK x3 true (fun k => faK 2 x6 fun y => k y h3) (fun x7 h4 =>
 gdK x3 true (fun k => ld1 x7 h4 fun y => k y h4) (fun x8 h5 =>
 gdK x3 true (fun k => ikK .eql x8 (.i .i64 9223372036854775808) fun y => k y h5) (fun x9 h6 =>
 gdK x3 true (fun k => k x9 h6) (fun x10 h7 =>
 gdK x10 false (fun k => k x1 h7) (fun x11 h8 =>
 gdK x10 false (fun k => k x0 h8) (fun x12 h9 =>
 gdK x10 false (fun k => ncK x12 fun y => k y h9) (fun x13 h10 =>
 gdK x10 false (fun k => faK 10 x13 fun y => k y h10) (fun x14 h11 =>
 gdK x10 false (fun k => faK 2 x14 fun y => k y h11) (fun x15 h12 =>
 gdK x10 false (fun k => ld1 x15 h12 fun y => k y h12) (fun x16 h13 =>
 gdK x10 false (fun k => ikK .lss x11 x16 fun y => k y h13) (fun x17 h14 =>
 gdK x3 true (fun k => pkK x10 (.b true) x17 fun y => k y h14) (fun x18 h15 =>
 pkK x3 x18 (.b false) fun x19 =>
 jn 1 (fun x20 : CT 1 =>
 cdK x19 (
 ncK x0 fun x21 =>
 faK 10 x21 fun x22 =>
 faK 2 x22 fun x23 =>
 stL 1 x23 x1 h15 fun h16 =>
 x20 x2 h16) (
 x20 x2 h15)) fun x24 h17 =>
 k x24 h17) h14) h13) h12) h11) h10) h9) h8) h7) h6) h5) h4) h3) h2) h1) h0) args h
noncomputable def s211 : FS := S211
noncomputable def a211 : Ann := (.s .o (.s (.s .o (.j [2] .o .o)) (.s .o .o)))
set_option maxRecDepth 100000 in
noncomputable def S159 (s88 s212 s211 : FS) : FS := fun args h k => capp 3 (fun x0 x1 x2 h0 =>
 ncK x0 fun x3 =>
 faK 3 x3 fun x4 =>
 ld1 x4 h0 fun x5 =>
 s88 [x5] h0 fun x6 h1 =>
 ikK .add x6 (.i .i64 9223372036854775809) fun x7 =>
 ncK x0 fun x8 =>
 faK 3 x8 fun x9 =>
 ld1 x9 h1 fun x10 =>
 ncK x0 fun x11 =>
 faK 1 x11 fun x12 =>
 faK 0 x12 fun x13 =>
 ld1 x13 h1 fun x14 =>
 blK [(0, 1, x7), (1, 1, x14), (2, 1, x1), (3, 1, x2)] Z168 fun x15 =>
 bsK 168 4 1 4 [x15] h1 fun x16 h2 =>
 s212 [x10, x16] h2 fun x17 h3 =>
 exK x17 0 fun x18 =>
 exK x17 1 fun x19 =>
 s211 [x0, x18, x19] h3 fun x20 h4 =>
 ld1 x9 h2 fun x21 => ifT (avEq x21 x10) <|
 k x7 h4) args h
noncomputable def s159 : FS := S159 s88 s212 s211
noncomputable def a159 : Ann := (.s .o (.s .o (.s (.g [0, 1, 2, 3, 4, 5, 6, 7, 8, 9, 10, 11, 12, 13, 14, 15, 16, 17, 18]) (.s .o .o))))
set_option maxRecDepth 100000 in
noncomputable def S310 : FS := fun args h k => capp 1 (fun x0 h0 =>
 ikK .neq x0 x0 fun x1 =>
 k x1 h0) args h
noncomputable def s310 : FS := S310
noncomputable def a310 : Ann := (.s .o (.s .o .o))
set_option maxRecDepth 100000 in
noncomputable def S304 (s310 : FS) : FS := fun args h k => capp 2 (fun x0 x1 h0 =>
 s310 [x0] h0 fun x2 h1 =>
 gdK x2 true (fun k => k x1 h1) (fun x3 h2 =>
 gdK x2 true (fun k => s310 [x3] h2 k) (fun x4 h3 =>
 gdK x2 true (fun k => notK x4 fun y => k y h3) (fun x5 h4 =>
 pkK x2 x5 (.b false) fun x6 =>
 gdK x6 false (fun k => k x0 h4) (fun x7 h5 =>
 gdK x6 false (fun k => k x1 h5) (fun x8 h6 =>
 gdK x6 false (fun k => ikK .lss x7 x8 fun y => k y h6) (fun x9 h7 =>
 pkK x6 (.b true) x9 fun x10 =>
 k x10 h7) h6) h5) h4) h3) h2) h1) args h
noncomputable def s304 : FS := S304 s310
noncomputable def a304 : Ann := (.s .o (.s .o .o))
set_option maxRecDepth 100000 in
noncomputable def S298 (s304 : FS) : FS := fun args h k => capp 3 (fun x0 x1 x2 h0 =>
 ikK .add x1 (.i .i64 9223372036854775809) fun x3 =>
 capp 4 (lp 4 fun (x4 : CT 4) x5 x6 x7 x8 h1 =>
 ikK .lss x8 x7 fun x9 =>
 cdK x9 (
 capp 5 (lp 5 fun (x10 : CT 5) x11 x12 x13 x14 x15 h2 =>
 ikK .gtr x15 x12 fun x16 =>
 gdK x16 true (fun k => k x11 h2) (fun x17 h3 =>
 gdK x16 true (fun k => k x15 h3) (fun x18 h4 =>
 gdK x16 true (fun k => iaK 1 x17 x18 fun y => k y h4) (fun x19 h5 =>
 gdK x16 true (fun k => ld1 x19 h5 fun y => k y h5) (fun x20 h6 =>
 gdK x16 true (fun k => k x11 h6) (fun x21 h7 =>
 gdK x16 true (fun k => k x15 h7) (fun x22 h8 =>
 gdK x16 true (fun k => ikK .sub x22 (.i .i64 9223372036854775809) fun y => k y h8) (fun x23 h9 =>
 gdK x16 true (fun k => iaK 1 x21 x23 fun y => k y h9) (fun x24 h10 =>
 gdK x16 true (fun k => ld1 x24 h10 fun y => k y h10) (fun x25 h11 =>
 gdK x16 true (fun k => s304 [x20, x25] h11 k) (fun x26 h12 =>
 pkK x16 x26 (.b false) fun x27 =>
 cdK x27 (
 ikK .sub x15 (.i .i64 9223372036854775809) fun x28 =>
 ikK .sub x15 (.i .i64 9223372036854775809) fun x29 =>
 iaK 1 x11 x29 fun x30 =>
 ld1 x30 h12 fun x31 =>
 iaK 1 x11 x15 fun x32 =>
 ld1 x32 h12 fun x33 =>
 iaK 1 x11 x15 fun x34 =>
 stL 1 x34 x31 h12 fun h13 =>
 iaK 1 x11 x28 fun x35 =>
 stL 1 x35 x33 h13 fun h14 =>
 ikK .sub x15 (.i .i64 9223372036854775809) fun x36 =>
 x10 x11 x12 x13 x14 x36 h14) (
 ikK .add x14 (.i .i64 9223372036854775809) fun x37 =>
 x4 x11 x12 x13 x37 h12)) h11) h10) h9) h8) h7) h6) h5) h4) h3) h2) [x5, x6, x7, x8, x8] h1) (
 k (.t []) h1)) [x0, x1, x2, x3] h0) args h
noncomputable def s298 : FS := S298 s304
noncomputable def a298 : Ann := (.s .o (.b (.l [0, 1, 2, 6] (.s (.s .o (.i .o .o)) (.s (.b (.s .o (.b (.l [0, 1, 2, 6, 7] (.s (.s (.g [0, 1, 2, 3, 4, 5, 6, 7, 8, 9, 10, 11, 12, 13, 14]) (.i .o .o)) (.s (.b (.g [0, 1, 2, 3, 4, 5, 6, 7, 8, 9, 10, 11, 12, 13, 14, 15, 16, 17])) .o)))))) .o)))))
noncomputable def s299 : FS := sx
noncomputable def s300 : FS := sx
noncomputable def s301 : FS := sx
noncomputable def s302 : FS := sx
noncomputable def s303 : FS := sx
noncomputable def s305 : FS := sx
noncomputable def s306 : FS := sx
set_option maxRecDepth 100000 in
noncomputable def S295 (s298 s299 s300 s301 s302 s303 s304 s305 s306 s295 : FS) : FS := fun args h k => capp 4 (fun x0 x1 x2 x3 h0 =>
 capp 6 (lp 6 fun (x4 : CT 6) x5 x6 x7 x8 x9 x10 h1 =>
 ikK .sub x7 x6 fun x11 =>
 ikK .leq x11 (.i .i64 9223372036854775820) fun x12 =>
 cdK x12 (
 s298 [x5, x6, x7] h1 fun x13 h2 =>
 k (.t []) h2) (
 ikK .eql x8 (.i .i64 9223372036854775808) fun x14 =>
 cdK x14 (
 s299 [x5, x6, x7] h1 fun x15 h3 =>
 k (.t []) h3) (
 notK x9 fun x16 =>
 jn 7 (fun x17 : CT 7 =>
 cdK x16 (
 s300 [x5, x6, x7] h1 fun x18 h4 =>
 ikK .sub x8 (.i .i64 9223372036854775809) fun x19 =>
 x17 x5 x6 x7 x19 x9 x10 x11 h4) (
 x17 x5 x6 x7 x8 x9 x10 x11 h1)) fun x20 x21 x22 x23 x24 x25 x26 h5 =>
 s301 [x20, x21, x22] h5 fun x27 h6 =>
 exK x27 0 fun x28 =>
 exK x27 1 fun x29 =>
 ikK .eql x29 (.i .i64 9223372036854775810) fun x30 =>
 jn 9 (fun x31 : CT 9 =>
 cdK x30 (
 s302 [x20, x21, x22] h6 fun x32 h7 =>
 ikK .sub x22 (.i .i64 9223372036854775809) fun x33 =>
 ikK .sub x28 x21 fun x34 =>
 ikK .sub x33 x34 fun x35 =>
 x31 x20 x21 x22 x23 x24 x25 x26 x35 (.i .i64 9223372036854775809) h7) (
 x31 x20 x21 x22 x23 x24 x25 x26 x28 x29 h6)) fun x36 x37 x38 x39 x40 x41 x42 x43 x44 h8 =>
 gdK x40 true (fun k => k x41 h8) (fun x45 h9 =>
 pkK x40 x45 (.b false) fun x46 =>
 gdK x46 true (fun k => k x44 h9) (fun x47 h10 =>
 gdK x46 true (fun k => ikK .eql x47 (.i .i64 9223372036854775809) fun y => k y h10) (fun x48 h11 =>
 pkK x46 x48 (.b false) fun x49 =>
 jn 8 (fun x50 : CT 8 =>
 cdK x49 (
 s303 [x36, x37, x38] h11 fun x51 h12 =>
 cdK x51 (
 k (.t []) h12) (
 x50 x36 x37 x38 x39 x40 x41 x42 x43 h12)) (
 x50 x36 x37 x38 x39 x40 x41 x42 x43 h11)) fun x52 x53 x54 x55 x56 x57 x58 x59 h13 =>
 ikK .gtr x53 (.i .i64 9223372036854775808) fun x60 =>
 gdK x60 true (fun k => k x52 h13) (fun x61 h14 =>
 gdK x60 true (fun k => k x53 h14) (fun x62 h15 =>
 gdK x60 true (fun k => ikK .sub x62 (.i .i64 9223372036854775809) fun y => k y h15) (fun x63 h16 =>
 gdK x60 true (fun k => iaK 1 x61 x63 fun y => k y h16) (fun x64 h17 =>
 gdK x60 true (fun k => ld1 x64 h17 fun y => k y h17) (fun x65 h18 =>
 gdK x60 true (fun k => k x52 h18) (fun x66 h19 =>
 gdK x60 true (fun k => k x59 h19) (fun x67 h20 =>
 gdK x60 true (fun k => iaK 1 x66 x67 fun y => k y h20) (fun x68 h21 =>
 gdK x60 true (fun k => ld1 x68 h21 fun y => k y h21) (fun x69 h22 =>
 gdK x60 true (fun k => s304 [x65, x69] h22 k) (fun x70 h23 =>
 gdK x60 true (fun k => notK x70 fun y => k y h23) (fun x71 h24 =>
 pkK x60 x71 (.b false) fun x72 =>
 cdK x72 (
 s305 [x52, x53, x54, x59] h24 fun x73 h25 =>
 x4 x52 x73 x54 x55 x56 x57 h25) (
 s306 [x52, x53, x54, x59] h24 fun x74 h26 =>
 exK x74 0 fun x75 =>
 exK x74 1 fun x76 =>
 ikK .sub x75 x53 fun x77 =>
 ikK .sub x54 x75 fun x78 =>
 ikK .quo x58 (.i .i64 9223372036854775816) fun x79 =>
 ikK .lss x77 x78 fun x80 =>
 cdK x80 (
 ikK .geq x77 x79 fun x81 =>
 s295 [x52, x53, x75, x55] h26 fun x82 h27 =>
 ikK .add x75 (.i .i64 9223372036854775809) fun x83 =>
 x4 x52 x83 x54 x55 x81 x76 h27) (
 ikK .geq x78 x79 fun x84 =>
 ikK .add x75 (.i .i64 9223372036854775809) fun x85 =>
 s295 [x52, x85, x54, x55] h26 fun x86 h28 =>
 x4 x52 x53 x75 x55 x84 x76 h28))) h23) h22) h21) h20) h19) h18) h17) h16) h15) h14) h13) h10) h9) h8))) [x0, x1, x2, x3, (.b true), (.b true)] h0) args h
noncomputable def s295 : FS := S295 s298 s299 s300 s301 s302 s303 s304 s305 s306 sx
noncomputable def a295 : Ann := (.s .o (.s .o (.b (.l [0, 1, 2, 3, 8, 9] (.b (.s .o (.s (.s .o (.i (.s .o .o) .o)) (.s (.s .o (.i (.s .o .o) .o)) (.s (.s .o (.j [0, 1, 2, 3, 8, 9, 10] (.s .o .o) .o)) (.s .o (.s (.s .o (.j [0, 1, 2, 3, 8, 9, 10, 11, 12] (.s .o (.s .o .o)) .o)) (.s (.s .o (.j [0, 1, 2, 3, 8, 9, 10, 11] (.s .o (.i .o .o)) .o)) (.s (.s (.g [0, 1, 2, 3, 4, 5, 6, 7, 8, 9, 10, 11, 12, 13, 14]) (.i (.s .o (.s .o .o)) .o)) (.s .o (.s .o (.s .o (.s .o (.s .o (.i (.s .o (.s .o .o)) (.s .o (.s .o .o)))))))))))))))))))))
set_option maxRecDepth 100000 in
noncomputable def S278 (s233 s295 : FS) : FS := fun args h k => capp 1 (fun x0 h0 =>
 lnL x0 fun x1 =>
 ciK .u64 x1 fun x2 =>
 s233 [x2] h0 fun x3 h1 =>
 s295 [x0, (.i .i64 9223372036854775808), x1, x3] h1 fun x4 h2 =>
 k (.t []) h2) args h
noncomputable def s278 : FS := S278 s233 s295
noncomputable def a278 : Ann := (.s .o .o)
set_option maxRecDepth 100000 in
noncomputable def S244 (s54 s278 : FS) : FS := fun args h k => capp 2 (fun x0 x1 h0 =>
 s54 [x0] h0 fun x2 h1 =>
 notK x2 fun x3 =>
 cdK x3 (
 k (.i .i64 9223372036854775808) h1) (
 lnL x0 fun x4 =>
 capp 5 (lp 5 fun (x5 : CT 5) x6 x7 x8 x9 x10 h2 =>
 ikK .lss x10 x9 fun x11 =>
 cdK x11 (
 iaK 1 x8 x10 fun x12 =>
 ld1 x12 h2 fun x13 =>
 lnL x6 fun x14 =>
 ikK .lss x13 x14 fun x15 =>
 jn 6 (fun x16 : CT 6 =>
 cdK x15 (
 iaK 1 x6 x13 fun x17 =>
 ld1 x17 h2 fun x18 =>
 x16 x6 x7 x18 x8 x9 x10 h2) (
 x16 x6 x7 (.i .i64 9223372036854775808) x8 x9 x10 h2)) fun x19 x20 x21 x22 x23 x24 h3 =>
 bsK 2 1 1 1 [x21] h3 fun x25 h4 =>
 apK 2 1 x20 x25 h4 fun x26 h5 =>
 ikK .add x24 (.i .i64 9223372036854775809) fun x27 =>
 x5 x19 x26 x22 x23 x27 h5) (
 s278 [x7] h2 fun x28 h6 =>
 lnL x7 fun x29 =>
 ikK .sub x29 (.i .i64 9223372036854775809) fun x30 =>
 ikK .quo x30 (.i .i64 9223372036854775810) fun x31 =>
 iaK 1 x7 x31 fun x32 =>
 ld1 x32 h6 fun x33 =>
 k x33 h6)) [x1, .ns, x0, x4, (.i .i64 9223372036854775808)] h1)) args h
noncomputable def s244 : FS := S244 s54 s278
noncomputable def a244 : Ann := (.s .o (.s (.s .o (.i (.s .o .o) .o)) (.s .o (.s (.s .o (.b (.l [1, 5, 12, 13, 14] (.s .o (.s (.i .o .o) (.s (.b (.s .o (.s .o (.s (.s .o (.j [1, 5, 8, 12, 13, 14] .o .o)) .o)))) .o)))))) (.s .o (.s .o .o))))))
def Z316 : List AV := [(.i .i64 9223372036854775808), (.i .i64 9223372036854775808), (.i .i64 9223372036854775808), (.i .i64 9223372036854775808), (.i .i64 9223372036854775808), (.i .i64 9223372036854775808), (.i .i64 9223372036854775808), (.i .i64 9223372036854775808)]
def z316 : AV := .a Z316
set_option maxRecDepth 100000 in
noncomputable def S213 (s243 s244 : FS) : FS := fun args h k => capp 4 (fun x0 x1 x2 x3 h0 =>
 npK .eql x0 .np fun x4 =>
 cdK x4 (
 k (.i .i64 9223372036854775808) h0) (
 ncK x0 fun x5 =>
 faK 8 x5 fun x6 =>
 ldN 8 x6 h0 fun x7 =>
 boxK 316 8 z316 h0 fun x8 h1 =>
 stL 8 x8 x7 h1 fun h2 =>
 s243 [x0, x2] h2 fun x9 h3 =>
 jn 2 (fun x10 : CT 2 =>
 cdK x9 (
 iapK 8 1 x8 x2 fun x11 =>
 stL 1 x11 x3 h3 fun h4 =>
 x10 x1 x8 h4) (
 x10 x1 x8 h3)) fun x12 x13 h5 =>
 sapK 8 1 none none x13 fun x14 =>
 s244 [x12, x14] h5 fun x15 h6 =>
 k x15 h6)) args h
noncomputable def s213 : FS := S213 s243 s244
noncomputable def a213 : Ann := (.s .o (.s (.s .o (.i (.s .o .o) .o)) (.s .o (.s (.s .o (.j [1, 9] .o .o)) (.s .o .o)))))
set_option maxRecDepth 100000 in
noncomputable def S160 (s79 s88 s213 s214 s81 : FS) : FS := fun args h k => capp 1 (fun x0 h0 =>
 ncK x0 fun x1 =>
 faK 3 x1 fun x2 =>
 ld1 x2 h0 fun x3 =>
 s79 [x3] h0 fun x4 h1 =>
 exK x4 0 fun x5 =>
 exK x4 1 fun x6 =>
 ncK x0 fun x7 =>
 faK 9 x7 fun x8 =>
 ld1 x8 h1 fun x9 =>
 ncK x0 fun x10 =>
 faK 0 x10 fun x11 =>
 ld1 x11 h1 fun x12 =>
 ncK x0 fun x13 =>
 faK 3 x13 fun x14 =>
 ld1 x14 h1 fun x15 =>
 s88 [x15] h1 fun x16 h2 =>
 s213 [x9, x5, x12, x16] h2 fun x17 h3 =>
 ld1 x8 h2 fun x18 => ifT (avEq x18 x9) <|
 ld1 x11 h2 fun x19 => ifT (avEq x19 x12) <|
 ncK x0 fun x20 =>
 faK 4 x20 fun x21 =>
 ld1 x21 h3 fun x22 =>
 ikK .leq x17 x22 fun x23 =>
 gdK x23 false (fun k => k x0 h3) (fun x24 h4 =>
 gdK x23 false (fun k => ncK x24 fun y => k y h4) (fun x25 h5 =>
 gdK x23 false (fun k => faK 3 x25 fun y => k y h5) (fun x26 h6 =>
 gdK x23 false (fun k => ld1 x26 h6 fun y => k y h6) (fun x27 h7 =>
 gdK x23 false (fun k => k x17 h7) (fun x28 h8 =>
 gdK x23 false (fun k => k x0 h8) (fun x29 h9 =>
 gdK x23 false (fun k => ncK x29 fun y => k y h9) (fun x30 h10 =>
 gdK x23 false (fun k => faK 1 x30 fun y => k y h10) (fun x31 h11 =>
 gdK x23 false (fun k => faK 0 x31 fun y => k y h11) (fun x32 h12 =>
 gdK x23 false (fun k => ld1 x32 h12 fun y => k y h12) (fun x33 h13 =>
 gdK x23 false (fun k => s214 [x27, x28, x33] h13 k) (fun x34 h14 =>
 gdK x23 false (fun k => notK x34 fun y => k y h14) (fun x35 h15 =>
 pkK x23 (.b true) x35 fun x36 =>
 cdK x36 (
 k (.t []) h15) (
 ncK x0 fun x37 =>
 faK 4 x37 fun x38 =>
 stL 1 x38 x17 h15 fun h16 =>
 ncK x0 fun x39 =>
 faK 0 x39 fun x40 =>
 ld1 x40 h16 fun x41 =>
 s81 [x5, x41] h16 fun x42 h17 =>
 notK x42 fun x43 =>
 gdK x43 true (fun k => k x6 h17) (fun x44 h18 =>
 gdK x43 true (fun k => k x17 h18) (fun x45 h19 =>
 gdK x43 true (fun k => ikK .leq x44 x45 fun y => k y h19) (fun x46 h20 =>
 pkK x43 x46 (.b false) fun x47 =>
 cdK x47 (
 ncK x0 fun x48 =>
 faK 5 x48 fun x49 =>
 stL 1 x49 (.i .i64 9223372036854775808) h20 fun h21 =>
 ncK x0 fun x50 =>
 faK 6 x50 fun x51 =>
 stL 1 x51 (.i .i64 9223372036854775808) h21 fun h22 =>
 k (.t []) h22) (
 k (.t []) h20)) h19) h18) h17)) h14) h13) h12) h11) h10) h9) h8) h7) h6) h5) h4) h3) args h
noncomputable def s160 : FS := S160 s79 s88 s213 s214 s81
noncomputable def a160 : Ann := (.s .o (.s (.g [0, 1, 2, 3, 4, 5, 6, 7, 8, 9, 10, 11, 12, 13, 14, 15]) (.s (.s (.g [0, 1, 2, 3, 4, 5, 6, 7, 8, 9, 10, 11, 12, 13, 14, 15, 16, 17, 18, 19]) (.i .o .o)) (.s .o (.s .o (.i .o .o))))))
set_option maxRecDepth 100000 in
noncomputable def S86 (s88 s158 s150 s77 s159 s160 s80 : FS) : FS := fun args h k => capp 1 (fun x0 h0 =>
 ncK x0 fun x1 =>
 faK 0 x1 fun x2 =>
 ld1 x2 h0 fun x3 =>
 ncK x0 fun x4 =>
 faK 5 x4 fun x5 =>
 stL 1 x5 (.i .i64 9223372036854775810) h0 fun h1 =>
 ncK x0 fun x6 =>
 faK 6 x6 fun x7 =>
 stL 1 x7 x3 h1 fun h2 =>
 ncK x0 fun x8 =>
 faK 3 x8 fun x9 =>
 ld1 x9 h2 fun x10 =>
 s88 [x10] h2 fun x11 h3 =>
 s158 [x11] h3 fun x12 h4 =>
 ncK x0 fun x13 =>
 faK 9 x13 fun x14 =>
 stL 1 x14 x12 h4 fun h5 =>
 ncK x0 fun x15 =>
 faK 3 x15 fun x16 =>
 ld1 x16 h5 fun x17 =>
 ncK x0 fun x18 =>
 faK 3 x18 fun x19 =>
 ld1 x19 h5 fun x20 =>
 s150 [x20] h5 fun x21 h6 =>
 s77 [x17, x21, (.i .i64 9223372036854776008)] h6 fun x22 h7 =>
 lnL x22 fun x23 =>
 ikK .lss x23 (.i .i64 9223372036854776008) fun x24 =>
 ld1 x16 h6 fun x25 => ifT (avEq x25 x17) <|
 jn 1 (fun x26 : CT 1 =>
 cdK x24 (
 s159 [x0, (.i .i64 9223372036854775809), (.s 0 [])] h7 fun x27 h8 =>
 x26 x0 h8) (
 x26 x0 h7)) fun x28 h9 =>
 s160 [x28] h9 fun x29 h10 =>
 s80 [x28] h10 fun x30 h11 =>
 k (.t []) h11) args h
noncomputable def s86 : FS := S86 s88 s158 s150 s77 s159 s160 s80
noncomputable def a86 : Ann := (.s .o (.s .o (.s (.s (.g [0, 1, 2, 3, 4, 5, 6, 7, 8, 9, 10, 11]) (.j [0] .o .o)) (.s .o .o))))
def Z107 : List AV := [.ns, (.b false), (.i .i64 9223372036854775808), (.b false)]
def z107 : AV := .a Z107
set_option maxRecDepth 100000 in
noncomputable def S91 : FS := fun args h k => capp 1 (fun x0 h0 =>
 boxK 107 4 z107 h0 fun x1 h1 =>
 ncK x0 fun x2 =>
 faK 10 x2 fun x3 =>
 ldN 4 x3 h1 fun x4 =>
 boxK 107 4 z107 h1 fun x5 h2 =>
 stL 4 x5 x4 h2 fun h3 =>
 blK [] Z107 fun x6 =>
 ncK x0 fun x7 =>
 faK 10 x7 fun x8 =>
 stL 4 x8 x6 h3 fun h4 =>
 ldN 4 x5 h4 fun x9 =>
 stL 4 x1 x9 h4 fun h5 =>
 ldN 4 x1 h5 fun x10 => k x10 h5) args h
noncomputable def s91 : FS := S91
noncomputable def a91 : Ann := (.s .o (.s .o (.s .o (.s .o .o))))
set_option maxRecDepth 100000 in
noncomputable def S41 (s79 s80 s81 s82 s83 s84 s85 s86 s88 s87 s89 s90 s91 : FS) : FS := fun args h k => capp 1 (fun x0 h0 =>
 boxK 107 4 z107 h0 fun x1 h1 =>
 npK .eql x0 .np fun x2 =>
 cdK x2 (
 blK [] Z107 fun x3 =>
 stL 4 x1 x3 h1 fun h2 =>
 ldN 4 x1 h2 fun x4 => k x4 h2) (
 ncK x0 fun x5 =>
 faK 3 x5 fun x6 =>
 ld1 x6 h1 fun x7 =>
 s79 [x7] h1 fun x8 h3 =>
 exK x8 0 fun x9 =>
 exK x8 1 fun x10 =>
 jn 2 (fun x11 : CT 2 =>
 ncK x0 fun x12 =>
 faK 5 x12 fun x13 =>
 ld1 x13 h3 fun x14 =>
 ikK .eql x14 (.i .i64 9223372036854775810) fun x15 =>
 cdK x15 (
 s80 [x0] h3 fun x16 h4 =>
 x11 x0 x1 h4) (
 ncK x0 fun x17 =>
 faK 7 x17 fun x18 =>
 ld1 x18 h3 fun x19 =>
 cdK x19 (
 ncK x0 fun x20 =>
 faK 7 x20 fun x21 =>
 stL 1 x21 (.b false) h3 fun h5 =>
 x11 x0 x1 h5) (
 ncK x0 fun x22 =>
 faK 0 x22 fun x23 =>
 ld1 x23 h3 fun x24 =>
 s81 [x9, x24] h3 fun x25 h6 =>
 gdK x25 true (fun k => k x0 h6) (fun x26 h7 =>
 gdK x25 true (fun k => ncK x26 fun y => k y h7) (fun x27 h8 =>
 gdK x25 true (fun k => faK 1 x27 fun y => k y h8) (fun x28 h9 =>
 gdK x25 true (fun k => faK 0 x28 fun y => k y h9) (fun x29 h10 =>
 gdK x25 true (fun k => ld1 x29 h10 fun y => k y h10) (fun x30 h11 =>
 gdK x25 true (fun k => ikK .lss x30 (.i .i64 9223373136366403584) fun y => k y h11) (fun x31 h12 =>
 pkK x25 x31 (.b false) fun x32 =>
 cdK x32 (
 ncK x0 fun x33 =>
 faK 1 x33 fun x34 =>
 faK 0 x34 fun x35 =>
 ld1 x35 h12 fun x36 =>
 ikK .add x36 (.i .i64 9223372036854775809) fun x37 =>
 ncK x0 fun x38 =>
 faK 0 x38 fun x39 =>
 ld1 x39 h12 fun x40 =>
 blK [(0, 1, x37), (1, 1, x40)] Z141 fun x41 =>
 s82 [x0, x41] h12 fun x42 h13 =>
 ncK x0 fun x43 =>
 faK 5 x43 fun x44 =>
 stL 1 x44 (.i .i64 9223372036854775809) h13 fun h14 =>
 ncK x0 fun x45 =>
 faK 6 x45 fun x46 =>
 stL 1 x46 (.i .i64 9223372036854775808) h14 fun h15 =>
 s83 [x9] h15 fun x47 h16 =>
 ncK x0 fun x48 =>
 faK 8 x48 fun x49 =>
 stL 1 x49 x47 h16 fun h17 =>
 ncK x0 fun x50 =>
 faK 8 x50 fun x51 =>
 ld1 x51 h17 fun x52 =>
 ncK x0 fun x53 =>
 faK 0 x53 fun x54 =>
 ld1 x54 h17 fun x55 =>
 s84 [x52, x55] h17 fun x56 h18 =>
 ncK x0 fun x57 =>
 faK 8 x57 fun x58 =>
 ld1 x58 h18 fun x59 =>
 s85 [x59] h18 fun x60 h19 =>
 cdK x60 (
 s86 [x0] h19 fun x61 h20 =>
 x11 x0 x1 h20) (
 ncK x0 fun x62 =>
 faK 3 x62 fun x63 =>
 ld1 x63 h19 fun x64 =>
 ncK x0 fun x65 =>
 faK 3 x65 fun x66 =>
 ld1 x66 h19 fun x67 =>
 s88 [x67] h19 fun x68 h21 =>
 s87 [x64, x68] h21 fun x69 h22 =>
 exK x69 0 fun x70 =>
 exK x69 1 fun x71 =>
 ld1 x63 h21 fun x72 => ifT (avEq x72 x64) <|
 s89 [x0] h22 fun x73 h23 =>
 lnL x73 fun x74 =>
 capp 6 (lp 6 fun (x75 : CT 6) x76 x77 x78 x79 x80 x81 h24 =>
 ikK .lss x81 x80 fun x82 =>
 cdK x82 (
 iaK 1 x79 x81 fun x83 =>
 ld1 x83 h24 fun x84 =>
 ncK x76 fun x85 =>
 faK 3 x85 fun x86 =>
 ld1 x86 h24 fun x87 =>
 s88 [x87] h24 fun x88 h25 =>
 blK [(0, 1, (.i .i64 9223372036854775809)), (2, 1, x84), (4, 1, x88), (5, 1, x78)] Z69 fun x89 =>
 s90 [x76, x89] h25 fun x90 h26 =>
 ikK .add x81 (.i .i64 9223372036854775809) fun x91 =>
 x75 x76 x77 x78 x79 x80 x91 h26) (
 x11 x76 x77 h24)) [x0, x1, x70, x73, x74, (.i .i64 9223372036854775808)] h23)) (
 x11 x0 x1 h12)) h11) h10) h9) h8) h7) h6))) fun x92 x93 h27 =>
 s91 [x92] h27 fun x94 h28 =>
 stL 4 x93 x94 h28 fun h29 =>
 ldN 4 x93 h29 fun x95 => k x95 h29)) args h
noncomputable def s41 : FS := S41 s79 s80 s81 s82 s83 s84 s85 s86 s88 s87 s89 s90 s91
noncomputable def a41 : Ann := (.s .o (.s (.s .o (.i (.s .o .o) .o)) (.s .o (.s (.k [0, 2] (.s .o (.i .o (.s .o (.i .o (.s .o (.i (.s (.g [0, 1, 2, 3, 4, 5, 6, 7, 8, 9, 10, 11, 12]) (.s .o (.s .o (.s (.g [0, 1, 2, 3, 4, 5, 6, 7, 8]) (.s (.s .o (.i (.s .o .o) .o)) (.s (.g [0, 1, 2, 3, 4, 5, 6, 7, 8, 9, 10, 11, 12, 13, 14]) (.s .o (.b (.l [0, 2, 5, 105, 106, 107] (.s .o (.s (.i .o .o) (.s (.b (.s .o .o)) .o)))))))))))) .o))))))) (.s .o .o)))))
set_option maxRecDepth 100000 in
noncomputable def S147 : FS := fun args h k => capp 1 (fun x0 h0 =>
 boxK 141 2 z141 h0 fun x1 h1 =>
 npK .eql x0 .np fun x2 =>
 cdK x2 (
 blK [] Z141 fun x3 =>
 stL 2 x1 x3 h1 fun h2 =>
 ldN 2 x1 h2 fun x4 => k x4 h2) (
 ncK x0 fun x5 =>
 faK 1 x5 fun x6 =>
 ldN 2 x6 h1 fun x7 =>
 stL 2 x1 x7 h1 fun h3 =>
 ldN 2 x1 h3 fun x8 => k x8 h3)) args h
noncomputable def s147 : FS := S147
noncomputable def a147 : Ann := (.s .o (.s (.s .o (.i (.s .o .o) .o)) (.s .o .o)))
set_option maxRecDepth 100000 in
noncomputable def S205 (s115 s137 : FS) : FS := fun args h k => capp 3 (fun x0 x1 x2 h0 =>
 boxK 143 7 x2 h0 fun x3 h1 =>
 ncK x0 fun x4 =>
 faK 8 x4 fun x5 =>
 ld1 x5 h1 fun x6 =>
 ikK .eql x6 (.i .i64 9223372036854775808) fun x7 =>
 gdK x7 false (fun k => k x0 h1) (fun x8 h2 =>
 gdK x7 false (fun k => ncK x8 fun y => k y h2) (fun x9 h3 =>
 gdK x7 false (fun k => faK 8 x9 fun y => k y h3) (fun x10 h4 =>
 gdK x7 false (fun k => ld1 x10 h4 fun y => k y h4) (fun x11 h5 =>
 gdK x7 false (fun k => k x1 h5) (fun x12 h6 =>
 gdK x7 false (fun k => lnL x12 fun y => k y h6) (fun x13 h7 =>
 gdK x7 false (fun k => ikK .add x11 x13 fun y => k y h7) (fun x14 h8 =>
 gdK x7 false (fun k => ikK .gtr x14 (.i .i64 9223372036855824384) fun y => k y h8) (fun x15 h9 =>
 pkK x7 (.b true) x15 fun x16 =>
 jn 3 (fun x17 : CT 3 =>
 cdK x16 (
 ncK x0 fun x18 =>
 faK 1 x18 fun x19 =>
 ldN 7 x19 h9 fun x20 =>
 s115 [x0, x20] h9 fun x21 h10 =>
 ikK .neq x21 (.i .i64 9223372036854775808) fun x22 =>
 cdK x22 (
 k x21 h10) (
 x17 x0 x1 x3 h10)) (
 x17 x0 x1 x3 h9)) fun x23 x24 x25 h11 =>
 ncK x23 fun x26 =>
 faK 0 x26 fun x27 =>
 ld1 x27 h11 fun x28 =>
 s137 [x28, (.s 5 [115, 116, 97, 116, 101]), x24] h11 fun x29 h12 =>
 ikK .neq x29 (.i .i64 9223372036854775808) fun x30 =>
 cdK x30 (
 k x29 h12) (
 ncK x23 fun x31 =>
 faK 8 x31 fun x32 =>
 ld1 x32 h12 fun x33 =>
 lnL x24 fun x34 =>
 ikK .add x33 x34 fun x35 =>
 ncK x23 fun x36 =>
 faK 8 x36 fun x37 =>
 stL 1 x37 x35 h12 fun h13 =>
 ldN 7 x25 h13 fun x38 =>
 ncK x23 fun x39 =>
 faK 1 x39 fun x40 =>
 stL 7 x40 x38 h13 fun h14 =>
 k (.i .i64 9223372036854775808) h14)) h8) h7) h6) h5) h4) h3) h2) h1) args h
noncomputable def s205 : FS := S205 s115 s137
noncomputable def a205 : Ann := (.s .o (.s (.s .o (.j [0, 1, 5] (.s .o (.s .o (.i (.s .o .o) .o))) .o)) (.s (.s .o (.s .o (.i (.s .o .o) .o))) (.s .o (.s .o (.s .o .o))))))
set_option maxRecDepth 100000 in
noncomputable def S146 (s125 s61 s206 s205 : FS) : FS := fun args h k => capp 2 (fun x0 x1 h0 =>
 boxK 141 2 x1 h0 fun x2 h1 =>
 npK .eql x0 .np fun x3 =>
 cdK x3 (
 k (.i .i64 9223372036854775820) h1) (
 ldN 2 x2 h1 fun x4 =>
 blK [(0, 1, (.b true)), (1, 2, x4)] Z210 fun x5 =>
 boxK 210 7 z210 h1 fun x6 h2 =>
 stL 7 x6 x5 h2 fun h3 =>
 ldN 7 x6 h3 fun x7 =>
 s125 [x7] h3 fun x8 h4 =>
 notK x8 fun x9 =>
 cdK x9 (
 k (.i .i64 9223372036854775809) h4) (
 s61 [x0] h4 fun x10 h5 =>
 boxK 143 7 z143 h5 fun x11 h6 =>
 stL 7 x11 x10 h6 fun h7 =>
 ldN 2 x2 h7 fun x12 =>
 faK 0 x11 fun x13 =>
 stL 2 x13 x12 h7 fun h8 =>
 ldN 7 x6 h8 fun x14 =>
 ldN 7 x11 h8 fun x15 =>
 s206 [x14] h8 fun x16 h9 =>
 s205 [x0, x16, x15] h9 fun x17 h10 =>
 ldN 7 x11 h9 fun x18 => ifT (avEq x18 x15) <|
 k x17 h10))) args h
noncomputable def s146 : FS := S146 s125 s61 s206 s205
noncomputable def a146 : Ann := (.s .o (.s (.s .o (.i (.s .o .o) .o)) (.s .o (.s (.s .o (.i (.s .o .o) .o)) (.s .o (.s .o (.s (.g [0, 1, 3, 2, 4, 5]) .o)))))))
set_option maxRecDepth 100000 in
noncomputable def S76 : FS := fun args h k => capp 1 (fun x0 h0 =>
 npK .eql x0 .np fun x1 =>
 cdK x1 (
 k .np h0) (
 ncK x0 fun x2 =>
 faK 3 x2 fun x3 =>
 ld1 x3 h0 fun x4 =>
 k x4 h0)) args h
noncomputable def s76 : FS := S76
noncomputable def a76 : Ann := (.s .o (.s (.s .o (.i (.s .o .o) .o)) (.s .o .o)))
set_option maxRecDepth 100000 in
noncomputable def S148 (s61 s125 s206 s205 : FS) : FS := fun args h k => capp 2 (fun x0 x1 h0 =>
 npK .eql x0 .np fun x2 =>
 cdK x2 (
 k (.i .i64 9223372036854775820) h0) (
 lnL x1 fun x3 =>
 ikK .eql x3 (.i .i64 9223372036854775808) fun x4 =>
 cdK x4 (
 k (.i .i64 9223372036854775808) h0) (
 s61 [x0] h0 fun x5 h1 =>
 boxK 143 7 z143 h1 fun x6 h2 =>
 stL 7 x6 x5 h2 fun h3 =>
 iaK 4 x1 (.i .i64 9223372036854775808) fun x7 =>
 faK 0 x7 fun x8 =>
 ld1 x8 h3 fun x9 =>
 faK 2 x6 fun x10 =>
 faK 0 x10 fun x11 =>
 ld1 x11 h3 fun x12 =>
 ikK .sub x9 x12 fun x13 =>
 ikK .sub x13 (.i .i64 9223372036854775809) fun x14 =>
 ikK .lss x14 (.i .i64 9223372036854775808) fun x15 =>
 gdK x15 false (fun k => k x14 h3) (fun x16 h4 =>
 gdK x15 false (fun k => faK 6 x6 fun y => k y h4) (fun x17 h5 =>
 gdK x15 false (fun k => ld1 x17 h5 fun y => k y h5) (fun x18 h6 =>
 gdK x15 false (fun k => lnL x18 fun y => k y h6) (fun x19 h7 =>
 gdK x15 false (fun k => ikK .gtr x16 x19 fun y => k y h7) (fun x20 h8 =>
 pkK x15 (.b true) x20 fun x21 =>
 cdK x21 (
 k (.i .i64 9223372036854775809) h8) (
 lnL x1 fun x22 =>
 capp 8 (lp 8 fun (x23 : CT 8) x24 x25 x26 x27 x28 x29 x30 x31 h9 =>
 ikK .lss x31 x30 fun x32 =>
 cdK x32 (
 iaK 4 x29 x31 fun x33 =>
 ldN 4 x33 h9 fun x34 =>
 boxK 168 4 z168 h9 fun x35 h10 =>
 stL 4 x35 x34 h10 fun h11 =>
 ldN 4 x35 h11 fun x36 =>
 blK [(3, 4, x36)] Z210 fun x37 =>
 s125 [x37] h11 fun x38 h12 =>
 notK x38 fun x39 =>
 gdK x39 false (fun k => faK 0 x35 fun y => k y h12) (fun x40 h13 =>
 gdK x39 false (fun k => ld1 x40 h13 fun y => k y h13) (fun x41 h14 =>
 gdK x39 false (fun k => k x25 h14) (fun x42 h15 =>
 gdK x39 false (fun k => iaK 4 x42 (.i .i64 9223372036854775808) fun y => k y h15) (fun x43 h16 =>
 gdK x39 false (fun k => faK 0 x43 fun y => k y h16) (fun x44 h17 =>
 gdK x39 false (fun k => ld1 x44 h17 fun y => k y h17) (fun x45 h18 =>
 gdK x39 false (fun k => k x31 h18) (fun x46 h19 =>
 gdK x39 false (fun k => ikK .add x45 x46 fun y => k y h19) (fun x47 h20 =>
 gdK x39 false (fun k => ikK .neq x41 x47 fun y => k y h20) (fun x48 h21 =>
 pkK x39 (.b true) x48 fun x49 =>
 cdK x49 (
 k (.i .i64 9223372036854775809) h21) (
 ldN 4 x35 h21 fun x50 =>
 blK [(3, 4, x50)] Z210 fun x51 =>
 s206 [x51] h21 fun x52 h22 =>
 apK 5 1 x28 x52 h22 fun x53 h23 =>
 ikK .add x31 (.i .i64 9223372036854775809) fun x54 =>
 x23 x24 x25 x26 x27 x53 x29 x30 x54 h23)) h20) h19) h18) h17) h16) h15) h14) h13) h12) (
 lnL x25 fun x55 =>
 ikK .add x27 x55 fun x56 =>
 ikK .gtr x56 (.i .i64 9223372036854776008) fun x57 =>
 cdK x57 (
 k (.i .i64 9223372036854775813) h9) (
 faK 6 x26 fun x58 =>
 ld1 x58 h9 fun x59 =>
 sllK 4 none (some x27) none x59 fun x60 =>
 apK 168 4 x60 x25 h9 fun x61 h24 =>
 faK 6 x26 fun x62 =>
 stL 1 x62 x61 h24 fun h25 =>
 ldN 7 x26 h25 fun x63 =>
 s205 [x24, x28, x63] h25 fun x64 h26 =>
 k x64 h26))) [x0, x1, x6, x14, .ns, x1, x22, (.i .i64 9223372036854775808)] h8)) h7) h6) h5) h4) h3))) args h
noncomputable def s148 : FS := S148 s61 s125 s206 s205
noncomputable def a148 : Ann := (.s .o (.s (.s .o (.i (.s .o .o) .o)) (.s (.s .o (.i (.s .o .o) .o)) (.s .o (.s (.g [0, 1, 2, 3, 4, 5, 6, 7, 8, 9]) (.s (.s .o (.i (.s .o .o) .o)) (.s .o (.s (.s .o (.b (.l [0, 1, 5, 6, 7, 35, 36, 37] (.s .o (.s (.i .o .o) (.s (.b (.s .o (.s (.s (.g [0, 1, 2, 3, 4, 5, 6, 7, 8, 9, 10, 11, 12, 13, 14]) (.i (.s .o .o) .o)) .o))) .o)))))) (.s (.s .o (.i (.s .o .o) .o)) (.s .o (.s .o .o)))))))))))
set_option maxRecDepth 100000 in
noncomputable def S149 (s138 : FS) : FS := fun args h k => capp 1 (fun x0 h0 =>
 npK .eql x0 .np fun x1 =>
 cdK x1 (
 k (.i .i64 9223372036854775820) h0) (
 ncK x0 fun x2 =>
 faK 8 x2 fun x3 =>
 ld1 x3 h0 fun x4 =>
 ikK .eql x4 (.i .i64 9223372036854775808) fun x5 =>
 cdK x5 (
 k (.i .i64 9223372036854775808) h0) (
 ncK x0 fun x6 =>
 faK 0 x6 fun x7 =>
 ld1 x7 h0 fun x8 =>
 s138 [x8, (.s 5 [115, 116, 97, 116, 101])] h0 fun x9 h1 =>
 k x9 h1))) args h
noncomputable def s149 : FS := S149 s138
noncomputable def a149 : Ann := (.s .o (.s (.b (.s .o (.i (.s .o .o) (.s .o (.i (.s .o .o) .o))))) (.s .o .o)))
set_option maxRecDepth 100000 in
noncomputable def S74 (s147 s146 s76 s126 s57 s65 s62 s77 s148 s149 : FS) : FS := fun args h k => capp 2 (fun x0 x1 h0 =>
 boxK 107 4 x1 h0 fun x2 h1 =>
 faK 1 x2 fun x3 =>
 ld1 x3 h1 fun x4 =>
 jn 2 (fun x5 : CT 2 =>
 cdK x4 (
 ncK x0 fun x6 =>
 faK 0 x6 fun x7 =>
 ld1 x7 h1 fun x8 =>
 ncK x0 fun x9 =>
 faK 1 x9 fun x10 =>
 ld1 x10 h1 fun x11 =>
 s147 [x11] h1 fun x12 h2 =>
 s146 [x8, x12] h2 fun x13 h3 =>
 ld1 x7 h2 fun x14 => ifT (avEq x14 x8) <|
 ikK .neq x13 (.i .i64 9223372036854775808) fun x15 =>
 cdK x15 (
 k x13 h3) (
 x5 x0 x2 h3)) (
 x5 x0 x2 h1)) fun x16 x17 h4 =>
 faK 3 x17 fun x18 =>
 ld1 x18 h4 fun x19 =>
 jn 2 (fun x20 : CT 2 =>
 cdK x19 (
 ncK x16 fun x21 =>
 faK 1 x21 fun x22 =>
 ld1 x22 h4 fun x23 =>
 s76 [x23] h4 fun x24 h5 =>
 s126 [x24] h5 fun x25 h6 =>
 boxK 67 4 z67 h6 fun x26 h7 =>
 stL 4 x26 x25 h7 fun h8 =>
 ncK x16 fun x27 =>
 faK 0 x27 fun x28 =>
 ld1 x28 h8 fun x29 =>
 ldN 4 x26 h8 fun x30 =>
 s57 [x29, x30] h8 fun x31 h9 =>
 ikK .neq x31 (.i .i64 9223372036854775808) fun x32 =>
 cdK x32 (
 k x31 h9) (
 faK 0 x26 fun x33 =>
 ld1 x33 h9 fun x34 =>
 ncK x16 fun x35 =>
 faK 2 x35 fun x36 =>
 ld1 x36 h9 fun x37 =>
 s65 [x37] h9 fun x38 h10 =>
 ikK .gtr x34 x38 fun x39 =>
 ld1 x33 h10 fun x40 => ifT (avEq x40 x34) <|
 cdK x39 (
 faK 3 x26 fun x41 =>
 ld1 x41 h10 fun x42 =>
 s62 [x42] h10 fun x43 h11 =>
 exK x43 0 fun x44 =>
 exK x43 1 fun x45 =>
 ikK .neq x45 (.i .i64 9223372036854775808) fun x46 =>
 gdK x46 false (fun k => k x44 h11) (fun x47 h12 =>
 gdK x46 false (fun k => faK 0 x26 fun y => k y h12) (fun x48 h13 =>
 gdK x46 false (fun k => ld1 x48 h13 fun y => k y h13) (fun x49 h14 =>
 gdK x46 false (fun k => s65 [x47] h14 k) (fun x50 h15 =>
 gdK x46 false (fun k => ikK .neq x50 x49 fun y => k y h15) (fun x51 h16 =>
 pkK x46 (.b true) x51 fun x52 =>
 gdK x46 false (fun k => ld1 x48 h15 fun y => k y h15) (fun x53 _ => ifT (avEq x53 x49) <|
 cdK x52 (
 k (.i .i64 9223372036854775811) h16) (
 ncK x16 fun x54 =>
 faK 2 x54 fun x55 =>
 stL 1 x55 x44 h16 fun h17 =>
 x20 x16 x17 h17)) h15) h15) h14) h13) h12) h11) (
 x20 x16 x17 h10))) (
 x20 x16 x17 h4)) fun x56 x57 h18 =>
 faK 2 x57 fun x58 =>
 ld1 x58 h18 fun x59 =>
 ikK .gtr x59 (.i .i64 9223372036854775808) fun x60 =>
 jn 2 (fun x61 : CT 2 =>
 cdK x60 (
 ncK x56 fun x62 =>
 faK 0 x62 fun x63 =>
 ld1 x63 h18 fun x64 =>
 ncK x56 fun x65 =>
 faK 1 x65 fun x66 =>
 ld1 x66 h18 fun x67 =>
 faK 2 x57 fun x68 =>
 ld1 x68 h18 fun x69 =>
 s76 [x67] h18 fun x70 h19 =>
 s77 [x70, x69, (.i .i64 9223372036854776008)] h19 fun x71 h20 =>
 s148 [x64, x71] h20 fun x72 h21 =>
 ld1 x63 h19 fun x73 => ifT (avEq x73 x64) <|
 ld1 x63 h20 fun x74 => ifT (avEq x74 x64) <|
 ld1 x68 h19 fun x75 => ifT (avEq x75 x69) <|
 ikK .neq x72 (.i .i64 9223372036854775808) fun x76 =>
 cdK x76 (
 k x72 h21) (
 x61 x56 x57 h21)) (
 x61 x56 x57 h18)) fun x77 x78 h22 =>
 faK 1 x78 fun x79 =>
 ld1 x79 h22 fun x80 =>
 gdK x80 false (fun k => faK 2 x78 fun y => k y h22) (fun x81 h23 =>
 gdK x80 false (fun k => ld1 x81 h23 fun y => k y h23) (fun x82 h24 =>
 gdK x80 false (fun k => ikK .gtr x82 (.i .i64 9223372036854775808) fun y => k y h24) (fun x83 h25 =>
 pkK x80 (.b true) x83 fun x84 =>
 cdK x84 (
 ncK x77 fun x85 =>
 faK 0 x85 fun x86 =>
 ld1 x86 h25 fun x87 =>
 s149 [x87] h25 fun x88 h26 =>
 k x88 h26) (
 k (.i .i64 9223372036854775808) h25)) h24) h23) h22) args h
noncomputable def s74 : FS := S74 s147 s146 s76 s126 s57 s65 s62 s77 s148 s149
noncomputable def a74 : Ann := (.s .o (.s (.s .o (.j [0, 3] (.s (.g [0, 1, 2, 3, 4, 5, 6, 7, 8, 9, 10]) (.s .o (.i (.s .o .o) .o))) .o)) (.s (.s .o (.j [0, 3] (.s .o (.s (.s (.g [0, 1, 2, 3, 4, 5, 6]) (.s .o (.i (.s .o .o) .o))) (.s (.g [0, 1, 2, 3, 4, 5, 6, 7]) (.i (.s .o (.s (.s (.g [0, 1, 2, 3, 5, 6, 4, 7, 8]) (.i (.s .o .o) .o)) .o)) .o)))) .o)) (.s (.s .o (.j [0, 3] (.s (.g [0, 1, 2, 3, 4, 5, 6, 7, 9, 10, 8, 11, 12, 13]) (.s .o (.i (.s .o .o) .o))) .o)) (.s (.s .o (.i (.s .o .o) .o)) (.s .o .o))))))
set_option maxRecDepth 100000 in
noncomputable def S75 : FS := fun args h k => capp 1 (fun x0 h0 =>
 npK .eql x0 .np fun x1 =>
 cdK x1 (
 k (.i .i64 9223372036854775808) h0) (
 ncK x0 fun x2 =>
 faK 4 x2 fun x3 =>
 ld1 x3 h0 fun x4 =>
 k x4 h0)) args h
noncomputable def s75 : FS := S75
noncomputable def a75 : Ann := (.s .o (.s (.s .o (.i (.s .o .o) .o)) (.s .o .o)))
set_option maxRecDepth 100000 in
noncomputable def S151 (s133 : FS) : FS := fun args h k => capp 1 (fun x0 h0 =>
 boxK 83 5 x0 h0 fun x1 h1 =>
 boxK 83 5 z83 h1 fun x2 h2 =>
 faK 1 x1 fun x3 =>
 faK 2 x3 fun x4 =>
 ld1 x4 h2 fun x5 =>
 s133 [x5] h2 fun x6 h3 =>
 faK 1 x1 fun x7 =>
 faK 2 x7 fun x8 =>
 stL 1 x8 x6 h3 fun h4 =>
 ldN 5 x1 h4 fun x9 =>
 stL 5 x2 x9 h4 fun h5 =>
 ldN 5 x2 h5 fun x10 => k x10 h5) args h
noncomputable def s151 : FS := S151 s133
noncomputable def a151 : Ann := (.s .o (.s .o (.s .o .o)))
set_option maxRecDepth 100000 in
noncomputable def S78 (s122 s123 s151 : FS) : FS := fun args h k => capp 2 (fun x0 x1 h0 =>
 boxK 168 4 x1 h0 fun x2 h1 =>
 boxK 83 5 z83 h1 fun x3 h2 =>
 npK .eql x0 .np fun x4 =>
 gdK x4 false (fun k => faK 0 x2 fun y => k y h2) (fun x5 h3 =>
 gdK x4 false (fun k => ld1 x5 h3 fun y => k y h3) (fun x6 h4 =>
 gdK x4 false (fun k => k x0 h4) (fun x7 h5 =>
 gdK x4 false (fun k => ncK x7 fun y => k y h5) (fun x8 h6 =>
 gdK x4 false (fun k => faK 0 x8 fun y => k y h6) (fun x9 h7 =>
 gdK x4 false (fun k => ld1 x9 h7 fun y => k y h7) (fun x10 h8 =>
 gdK x4 false (fun k => ikK .add x10 (.i .i64 9223372036854775809) fun y => k y h8) (fun x11 h9 =>
 gdK x4 false (fun k => ikK .neq x6 x11 fun y => k y h9) (fun x12 h10 =>
 pkK x4 (.b true) x12 fun x13 =>
 cdK x13 (
 blK [] Z83 fun x14 =>
 stL 5 x3 x14 h10 fun h11 =>
 ldN 5 x3 h11 fun x15 => k (.t [x15, (.b false)]) h11) (
 ncK x0 fun x16 =>
 faK 0 x16 fun x17 =>
 ld1 x17 h10 fun x18 =>
 ikK .add x18 (.i .i64 9223372036854775809) fun x19 =>
 ncK x0 fun x20 =>
 faK 0 x20 fun x21 =>
 stL 1 x21 x19 h10 fun h12 =>
 faK 3 x2 fun x22 =>
 ld1 x22 h12 fun x23 =>
 sb2K 5 x23 h12 fun x24 h13 =>
 s122 [x24] h13 fun x25 h14 =>
 exK x25 0 fun x26 =>
 exK x25 1 fun x27 =>
 boxK 49 3 z49 h14 fun x28 h15 =>
 stL 3 x28 x26 h15 fun h16 =>
 faK 2 x2 fun x29 =>
 ld1 x29 h16 fun x30 =>
 ikK .neq x30 (.i .i64 9223372036854775810) fun x31 =>
 gdK x31 false (fun k => k x27 h16) (fun x32 h17 =>
 gdK x31 false (fun k => ikK .neq x32 (.i .i64 9223372036854775808) fun y => k y h17) (fun x33 h18 =>
 pkK x31 (.b true) x33 fun x34 =>
 cdK x34 (
 blK [] Z83 fun x35 =>
 stL 5 x3 x35 h18 fun h19 =>
 ldN 5 x3 h19 fun x36 => k (.t [x36, (.b false)]) h19) (
 ncK x0 fun x37 =>
 faK 1 x37 fun x38 =>
 ld1 x38 h18 fun x39 =>
 ldN 3 x28 h18 fun x40 =>
 s123 [x39, x40] h18 fun x41 h20 =>
 exK x41 0 fun x42 =>
 exK x41 1 fun x43 =>
 boxK 83 5 z83 h20 fun x44 h21 =>
 stL 5 x44 x42 h21 fun h22 =>
 jn 3 (fun x45 : CT 3 =>
 cdK x43 (
 ncK x0 fun x46 =>
 faK 2 x46 fun x47 =>
 ld1 x47 h22 fun x48 =>
 ldN 5 x44 h22 fun x49 =>
 s151 [x49] h22 fun x50 h23 =>
 bsK 83 5 1 5 [x50] h23 fun x51 h24 =>
 apK 83 5 x48 x51 h24 fun x52 h25 =>
 ncK x0 fun x53 =>
 faK 2 x53 fun x54 =>
 stL 1 x54 x52 h25 fun h26 =>
 ld1 x47 h23 fun x55 => ifT (avEq x55 x48) <|
 ld1 x47 h24 fun x56 => ifT (avEq x56 x48) <|
 x45 x3 x44 x43 h26) (
 x45 x3 x44 x43 h22)) fun x57 x58 x59 h27 =>
 ldN 5 x58 h27 fun x60 =>
 stL 5 x57 x60 h27 fun h28 =>
 ldN 5 x57 h28 fun x61 => k (.t [x61, x59]) h28)) h17) h16)) h9) h8) h7) h6) h5) h4) h3) h2) args h
noncomputable def s78 : FS := S78 s122 s123 s151
noncomputable def a78 : Ann := (.s .o (.s (.s (.g [0, 1, 2, 3, 4, 5, 6, 7, 8, 9, 10, 11]) (.i (.s .o .o) .o)) (.s .o (.s .o (.s (.s .o (.i (.s .o .o) .o)) (.s (.g [0, 1, 2, 3, 4, 5, 6, 7, 8, 9, 10, 11]) (.s (.s .o (.j [4, 8, 9] (.g [0, 1, 2, 3, 4, 5, 6, 7, 8, 9, 10, 11]) .o)) (.s .o .o))))))))
set_option maxRecDepth 100000 in
noncomputable def S40 (s74 s65 s75 s76 s77 s78 : FS) : FS := fun args h k => capp 2 (fun x0 x1 h0 =>
 boxK 107 4 x1 h0 fun x2 h1 =>
 ldN 4 x2 h1 fun x3 =>
 s74 [x0, x3] h1 fun x4 h2 =>
 ikK .neq x4 (.i .i64 9223372036854775808) fun x5 =>
 cdK x5 (
 ncK x0 fun x6 =>
 faK 3 x6 fun x7 =>
 stL 1 x7 (.b true) h2 fun h3 =>
 k .ns h3) (
 jn 1 (fun x8 : CT 1 =>
 capp 2 (lp 2 fun (x9 : CT 2) x10 x11 h4 =>
 ncK x10 fun x12 =>
 faK 2 x12 fun x13 =>
 ld1 x13 h4 fun x14 =>
 ncK x10 fun x15 =>
 faK 1 x15 fun x16 =>
 ld1 x16 h4 fun x17 =>
 s65 [x14] h4 fun x18 h5 =>
 s75 [x17] h5 fun x19 h6 =>
 ikK .lss x18 x19 fun x20 =>
 ld1 x16 h5 fun x21 => ifT (avEq x21 x17) <|
 cdK x20 (
 ncK x10 fun x22 =>
 faK 1 x22 fun x23 =>
 ld1 x23 h6 fun x24 =>
 ncK x10 fun x25 =>
 faK 2 x25 fun x26 =>
 ld1 x26 h6 fun x27 =>
 s76 [x24] h6 fun x28 h7 =>
 s65 [x27] h7 fun x29 h8 =>
 ikK .add x29 (.i .i64 9223372036854775809) fun x30 =>
 s77 [x28, x30, (.i .i64 9223372036854775809)] h8 fun x31 h9 =>
 ld1 x26 h7 fun x32 => ifT (avEq x32 x27) <|
 lnL x31 fun x33 =>
 ikK .eql x33 (.i .i64 9223372036854775808) fun x34 =>
 cdK x34 (
 x8 x11 h9) (
 ncK x10 fun x35 =>
 faK 2 x35 fun x36 =>
 ld1 x36 h9 fun x37 =>
 iaK 4 x31 (.i .i64 9223372036854775808) fun x38 =>
 ldN 4 x38 h9 fun x39 =>
 s78 [x37, x39] h9 fun x40 h10 =>
 x9 x10 x11 h10)) (
 x8 x11 h6)) [x0, x2] h2) fun x41 h11 =>
 faK 0 x41 fun x42 =>
 ld1 x42 h11 fun x43 =>
 k x43 h11)) args h
noncomputable def s40 : FS := S40 s74 s65 s75 s76 s77 s78
noncomputable def a40 : Ann := (.s .o (.s (.s .o (.i (.s .o (.s .o .o)) .o)) (.s (.k [3] (.l [0, 3] (.s (.s (.g [0, 1, 2, 3, 5, 6, 7, 8, 4, 9, 10]) (.i .o .o)) (.b (.s (.g [0, 1, 2, 3, 5, 6, 7, 8, 4, 9, 10, 11, 12]) (.s (.s .o (.i .o .o)) (.g [0, 1, 2, 3, 4, 5, 6, 7]))))))) (.s .o .o))))
set_option maxRecDepth 100000 in
noncomputable def S24 (s39 s41 s40 : FS) : FS := fun args h k => capp 1 (fun x0 h0 =>
 s39 [x0] h0 fun x1 h1 =>
 cdK x1 (
 k .ns h1) (
 ncK x0 fun x2 =>
 faK 1 x2 fun x3 =>
 ld1 x3 h1 fun x4 =>
 s41 [x4] h1 fun x5 h2 =>
 s40 [x0, x5] h2 fun x6 h3 =>
 k x6 h3)) args h
noncomputable def s24 : FS := S24 s39 s41 s40
noncomputable def a24 : Ann := (.s .o (.s (.s .o (.i (.s .o .o) .o)) (.s .o .o)))
set_option maxRecDepth 100000 in
noncomputable def S142 : FS := fun args h k => capp 1 (fun x0 h0 =>
 ikK .geq x0 (.i .i64 9223372036854775809) fun x1 =>
 gdK x1 true (fun k => k x0 h0) (fun x2 h1 =>
 gdK x1 true (fun k => ikK .leq x2 (.i .i64 9223372036854775815) fun y => k y h1) (fun x3 h2 =>
 pkK x1 x3 (.b false) fun x4 =>
 k x4 h2) h1) h0) args h
noncomputable def s142 : FS := S142
noncomputable def a142 : Ann := (.s .o (.s .o .o))
set_option maxRecDepth 100000 in
noncomputable def S143 : FS := fun args h k => capp 2 (fun x0 x1 h0 =>
 lnL x1 fun x2 =>
 capp 4 (lp 4 fun (x3 : CT 4) x4 x5 x6 x7 h1 =>
 ikK .lss x7 x6 fun x8 =>
 cdK x8 (
 iaK 1 x5 x7 fun x9 =>
 ld1 x9 h1 fun x10 =>
 ikK .lss x10 x4 fun x11 =>
 gdK x11 false (fun k => k x10 h1) (fun x12 h2 =>
 gdK x11 false (fun k => ikK .gtr x12 (.i .i64 9223373136366403584) fun y => k y h2) (fun x13 h3 =>
 pkK x11 (.b true) x13 fun x14 =>
 cdK x14 (
 k (.b false) h3) (
 ikK .add x7 (.i .i64 9223372036854775809) fun x15 =>
 x3 x4 x5 x6 x15 h3)) h2) h1) (
 k (.b true) h1)) [x0, x1, x2, (.i .i64 9223372036854775808)] h0) args h
noncomputable def s143 : FS := S143
noncomputable def a143 : Ann := (.s .o (.s (.s .o (.b (.l [0, 7, 8, 9] (.s .o (.s (.i .o .o) (.s (.b (.s .o (.s .o (.i (.s .o .o) .o)))) .o)))))) (.s .o .o)))
set_option maxRecDepth 100000 in
noncomputable def S144 (s125 : FS) : FS := fun args h k => capp 1 (fun x0 h0 =>
 boxK 69 13 x0 h0 fun x1 h1 =>
 faK 4 x1 fun x2 =>
 ld1 x2 h1 fun x3 =>
 faK 5 x1 fun x4 =>
 ld1 x4 h1 fun x5 =>
 faK 8 x1 fun x6 =>
 ld1 x6 h1 fun x7 =>
 lnL x7 fun x8 =>
 capp 6 (lp 6 fun (x9 : CT 6) x10 x11 x12 x13 x14 x15 h2 =>
 ikK .lss x15 x14 fun x16 =>
 cdK x16 (
 iaK 4 x13 x15 fun x17 =>
 ldN 4 x17 h2 fun x18 =>
 boxK 168 4 z168 h2 fun x19 h3 =>
 stL 4 x19 x18 h3 fun h4 =>
 faK 0 x19 fun x20 =>
 ld1 x20 h4 fun x21 =>
 ikK .add x11 (.i .i64 9223372036854775809) fun x22 =>
 ikK .neq x21 x22 fun x23 =>
 gdK x23 false (fun k => faK 1 x19 fun y => k y h4) (fun x24 h5 =>
 gdK x23 false (fun k => ld1 x24 h5 fun y => k y h5) (fun x25 h6 =>
 gdK x23 false (fun k => k x12 h6) (fun x26 h7 =>
 gdK x23 false (fun k => ikK .lss x25 x26 fun y => k y h7) (fun x27 h8 =>
 pkK x23 (.b true) x27 fun x28 =>
 gdK x28 false (fun k => faK 1 x19 fun y => k y h8) (fun x29 h9 =>
 gdK x28 false (fun k => ld1 x29 h9 fun y => k y h9) (fun x30 h10 =>
 gdK x28 false (fun k => faK 3 x10 fun y => k y h10) (fun x31 h11 =>
 gdK x28 false (fun k => ld1 x31 h11 fun y => k y h11) (fun x32 h12 =>
 gdK x28 false (fun k => ikK .gtr x30 x32 fun y => k y h12) (fun x33 h13 =>
 pkK x28 (.b true) x33 fun x34 =>
 gdK x34 false (fun k => ldN 4 x19 h13 fun y => k y h13) (fun x35 h14 =>
 gdK x34 false (fun k => blK [(3, 4, x35)] Z210 fun y => k y h14) (fun x36 h15 =>
 gdK x34 false (fun k => s125 [x36] h15 k) (fun x37 h16 =>
 gdK x34 false (fun k => notK x37 fun y => k y h16) (fun x38 h17 =>
 pkK x34 (.b true) x38 fun x39 =>
 cdK x39 (
 k (.b false) h17) (
 faK 0 x19 fun x40 =>
 ld1 x40 h17 fun x41 =>
 faK 1 x19 fun x42 =>
 ld1 x42 h17 fun x43 =>
 ikK .add x15 (.i .i64 9223372036854775809) fun x44 =>
 x9 x10 x41 x43 x13 x14 x44 h17)) h16) h15) h14) h13) h12) h11) h10) h9) h8) h7) h6) h5) h4) (
 faK 8 x10 fun x45 =>
 ld1 x45 h2 fun x46 =>
 lnL x46 fun x47 =>
 ikK .leq x47 (.i .i64 9223372036854775816) fun x48 =>
 gdK x48 true (fun k => faK 8 x10 fun y => k y h2) (fun x49 h18 =>
 gdK x48 true (fun k => ld1 x49 h18 fun y => k y h18) (fun x50 h19 =>
 gdK x48 true (fun k => lnL x50 fun y => k y h19) (fun x51 h20 =>
 gdK x48 true (fun k => ikK .eql x51 (.i .i64 9223372036854775808) fun y => k y h20) (fun x52 h21 =>
 gdK x48 true (fun k => k x52 h21) (fun x53 h22 =>
 gdK x53 false (fun k => faK 0 x10 fun y => k y h22) (fun x54 h23 =>
 gdK x53 false (fun k => ld1 x54 h23 fun y => k y h23) (fun x55 h24 =>
 gdK x53 false (fun k => ikK .eql x55 (.i .i64 9223372036854775811) fun y => k y h24) (fun x56 h25 =>
 gdK x48 true (fun k => pkK x53 (.b true) x56 fun y => k y h25) (fun x57 h26 =>
 pkK x48 x57 (.b false) fun x58 =>
 k x58 h26) h25) h24) h23) h22) h21) h20) h19) h18) h2)) [x1, x3, x5, x7, x8, (.i .i64 9223372036854775808)] h1) args h
noncomputable def s144 : FS := S144 s125
noncomputable def a144 : Ann := (.s .o (.s (.g [0, 1, 2, 3, 4, 5]) (.s (.s .o (.b (.l [1, 3, 4, 12, 13, 14] (.s .o (.s (.i .o .o) (.s (.b (.s .o (.s (.s .o (.i (.s .o .o) .o)) (.g [0, 1, 2, 3, 4, 5])))) .o)))))) (.s .o .o))))
set_option maxRecDepth 100000 in
noncomputable def S72 (s142 s143 s144 s145 s114 : FS) : FS := fun args h k => capp 1 (fun x0 h0 =>
 boxK 69 13 x0 h0 fun x1 h1 =>
 faK 0 x1 fun x2 =>
 ld1 x2 h1 fun x3 =>
 ikK .lss x3 (.i .i64 9223372036854775809) fun x4 =>
 gdK x4 false (fun k => faK 0 x1 fun y => k y h1) (fun x5 h2 =>
 gdK x4 false (fun k => ld1 x5 h2 fun y => k y h2) (fun x6 h3 =>
 gdK x4 false (fun k => ikK .gtr x6 (.i .i64 9223372036854775813) fun y => k y h3) (fun x7 h4 =>
 pkK x4 (.b true) x7 fun x8 =>
 gdK x8 false (fun k => faK 1 x1 fun y => k y h4) (fun x9 h5 =>
 gdK x8 false (fun k => ld1 x9 h5 fun y => k y h5) (fun x10 h6 =>
 gdK x8 false (fun k => s142 [x10] h6 k) (fun x11 h7 =>
 gdK x8 false (fun k => notK x11 fun y => k y h7) (fun x12 h8 =>
 pkK x8 (.b true) x12 fun x13 =>
 gdK x13 false (fun k => faK 2 x1 fun y => k y h8) (fun x14 h9 =>
 gdK x13 false (fun k => ld1 x14 h9 fun y => k y h9) (fun x15 h10 =>
 gdK x13 false (fun k => s142 [x15] h10 k) (fun x16 h11 =>
 gdK x13 false (fun k => notK x16 fun y => k y h11) (fun x17 h12 =>
 pkK x13 (.b true) x17 fun x18 =>
 gdK x18 false (fun k => faK 3 x1 fun y => k y h12) (fun x19 h13 =>
 gdK x18 false (fun k => ld1 x19 h13 fun y => k y h13) (fun x20 h14 =>
 gdK x18 false (fun k => bsK 2 1 1 1 [x20] h14 k) (fun x21 h15 =>
 gdK x18 false (fun k => s143 [(.i .i64 9223372036854775809), x21] h15 k) (fun x22 h16 =>
 gdK x18 false (fun k => notK x22 fun y => k y h16) (fun x23 h17 =>
 pkK x18 (.b true) x23 fun x24 =>
 gdK x24 false (fun k => faK 4 x1 fun y => k y h17) (fun x25 h18 =>
 gdK x24 false (fun k => ld1 x25 h18 fun y => k y h18) (fun x26 h19 =>
 gdK x24 false (fun k => faK 5 x1 fun y => k y h19) (fun x27 h20 =>
 gdK x24 false (fun k => ld1 x27 h20 fun y => k y h20) (fun x28 h21 =>
 gdK x24 false (fun k => faK 6 x1 fun y => k y h21) (fun x29 h22 =>
 gdK x24 false (fun k => ld1 x29 h22 fun y => k y h22) (fun x30 h23 =>
 gdK x24 false (fun k => bsK 2 1 3 3 [x26, x28, x30] h23 k) (fun x31 h24 =>
 gdK x24 false (fun k => s143 [(.i .i64 9223372036854775808), x31] h24 k) (fun x32 h25 =>
 gdK x24 false (fun k => notK x32 fun y => k y h25) (fun x33 h26 =>
 pkK x24 (.b true) x33 fun x34 =>
 gdK x34 false (fun k => ldN 13 x1 h26 fun y => k y h26) (fun x35 h27 =>
 gdK x34 false (fun k => s144 [x35] h27 k) (fun x36 h28 =>
 gdK x34 false (fun k => notK x36 fun y => k y h28) (fun x37 h29 =>
 pkK x34 (.b true) x37 fun x38 =>
 cdK x38 (
 k (.b false) h29) (
 faK 7 x1 fun x39 =>
 ld1 x39 h29 fun x40 =>
 gdK x40 true (fun k => faK 0 x1 fun y => k y h29) (fun x41 h30 =>
 gdK x40 true (fun k => ld1 x41 h30 fun y => k y h30) (fun x42 h31 =>
 gdK x40 true (fun k => ikK .neq x42 (.i .i64 9223372036854775810) fun y => k y h31) (fun x43 h32 =>
 pkK x40 x43 (.b false) fun x44 =>
 gdK x44 true (fun k => faK 0 x1 fun y => k y h32) (fun x45 h33 =>
 gdK x44 true (fun k => ld1 x45 h33 fun y => k y h33) (fun x46 h34 =>
 gdK x44 true (fun k => ikK .neq x46 (.i .i64 9223372036854775812) fun y => k y h34) (fun x47 h35 =>
 pkK x44 x47 (.b false) fun x48 =>
 cdK x48 (
 k (.b false) h35) (
 faK 0 x1 fun x49 =>
 ld1 x49 h35 fun x50 =>
 ikK .neq x50 (.i .i64 9223372036854775813) fun x51 =>
 cdK x51 (
 faK 9 x1 fun x52 =>
 ldN 4 x52 h35 fun x53 =>
 blK [] Z67 fun x54 =>
 sqA .eql 67 x53 x54 fun x55 =>
 k x55 h35) (
 faK 9 x1 fun x56 =>
 faK 2 x56 fun x57 =>
 ld1 x57 h35 fun x58 =>
 s145 [x58] h35 fun x59 h36 =>
 exK x59 0 fun x60 =>
 exK x59 1 fun x61 =>
 gdK x61 true (fun k => faK 9 x1 fun y => k y h36) (fun x62 h37 =>
 gdK x61 true (fun k => ldN 4 x62 h37 fun y => k y h37) (fun x63 h38 =>
 gdK x61 true (fun k => s114 [x63] h38 k) (fun x64 h39 =>
 gdK x61 true (fun k => nsK .neq x64 .ns fun y => k y h39) (fun x65 h40 =>
 pkK x61 x65 (.b false) fun x66 =>
 k x66 h40) h39) h38) h37) h36))) h34) h33) h32) h31) h30) h29)) h28) h27) h26) h25) h24) h23) h22) h21) h20) h19) h18) h17) h16) h15) h14) h13) h12) h11) h10) h9) h8) h7) h6) h5) h4) h3) h2) h1) args h
noncomputable def s72 : FS := S72 s142 s143 s144 s145 s114
noncomputable def a72 : Ann := (.s .o (.s (.s .o (.i (.s .o .o) .o)) (.s (.s .o (.i (.s .o .o) .o)) (.s (.s .o (.i (.s .o .o) .o)) (.s .o (.s .o .o))))))
set_option maxRecDepth 100000 in
noncomputable def S73 (s119 : FS) : FS := fun args h k => capp 1 (fun x0 h0 =>
 boxK 69 13 x0 h0 fun x1 h1 =>
 boxK 69 13 z69 h1 fun x2 h2 =>
 faK 8 x1 fun x3 =>
 ld1 x3 h2 fun x4 =>
 s119 [x4] h2 fun x5 h3 =>
 faK 8 x1 fun x6 =>
 stL 1 x6 x5 h3 fun h4 =>
 ldN 13 x1 h4 fun x7 =>
 stL 13 x2 x7 h4 fun h5 =>
 ldN 13 x2 h5 fun x8 => k x8 h5) args h
noncomputable def s73 : FS := S73 s119
noncomputable def a73 : Ann := (.s .o (.s .o (.s .o .o)))
set_option maxRecDepth 100000 in
noncomputable def S38 (s72 s73 : FS) : FS := fun args h k => capp 2 (fun x0 x1 h0 =>
 boxK 69 13 x1 h0 fun x2 h1 =>
 npK .eql x0 .np fun x3 =>
 gdK x3 false (fun k => ldN 13 x2 h1 fun y => k y h1) (fun x4 h2 =>
 gdK x3 false (fun k => s72 [x4] h2 k) (fun x5 h3 =>
 gdK x3 false (fun k => notK x5 fun y => k y h3) (fun x6 h4 =>
 pkK x3 (.b true) x6 fun x7 =>
 gdK x7 false (fun k => k x0 h4) (fun x8 h5 =>
 gdK x7 false (fun k => ncK x8 fun y => k y h5) (fun x9 h6 =>
 gdK x7 false (fun k => faK 0 x9 fun y => k y h6) (fun x10 h7 =>
 gdK x7 false (fun k => ld1 x10 h7 fun y => k y h7) (fun x11 h8 =>
 gdK x7 false (fun k => lnL x11 fun y => k y h8) (fun x12 h9 =>
 gdK x7 false (fun k => ikK .geq x12 (.i .i64 9223372036854776208) fun y => k y h9) (fun x13 h10 =>
 pkK x7 (.b true) x13 fun x14 =>
 cdK x14 (
 k (.b false) h10) (
 ncK x0 fun x15 =>
 faK 0 x15 fun x16 =>
 ld1 x16 h10 fun x17 =>
 ldN 13 x2 h10 fun x18 =>
 s73 [x18] h10 fun x19 h11 =>
 bsK 69 13 1 13 [x19] h11 fun x20 h12 =>
 apK 69 13 x17 x20 h12 fun x21 h13 =>
 ncK x0 fun x22 =>
 faK 0 x22 fun x23 =>
 stL 1 x23 x21 h13 fun h14 =>
 ld1 x16 h11 fun x24 => ifT (avEq x24 x17) <|
 ld1 x16 h12 fun x25 => ifT (avEq x25 x17) <|
 k (.b true) h14)) h9) h8) h7) h6) h5) h4) h3) h2) h1) args h
noncomputable def s38 : FS := S38 s72 s73
noncomputable def a38 : Ann := (.s .o (.s (.s .o (.i (.s .o .o) .o)) (.s (.g [0, 1, 2, 3, 4, 5, 6, 7, 8, 9, 10, 11]) (.s .o .o))))
set_option maxRecDepth 100000 in
noncomputable def S23 (s38 : FS) : FS := fun args h k => capp 2 (fun x0 x1 h0 =>
 lnL x1 fun x2 =>
 capp 4 (lp 4 fun (x3 : CT 4) x4 x5 x6 x7 h1 =>
 ikK .lss x7 x6 fun x8 =>
 cdK x8 (
 iaK 13 x5 x7 fun x9 =>
 ldN 13 x9 h1 fun x10 =>
 boxK 69 13 z69 h1 fun x11 h2 =>
 stL 13 x11 x10 h2 fun h3 =>
 ncK x4 fun x12 =>
 faK 4 x12 fun x13 =>
 ld1 x13 h3 fun x14 =>
 ldN 13 x11 h3 fun x15 =>
 s38 [x14, x15] h3 fun x16 h4 =>
 ikK .add x7 (.i .i64 9223372036854775809) fun x17 =>
 x3 x4 x5 x6 x17 h4) (
 k (.t []) h1)) [x0, x1, x2, (.i .i64 9223372036854775808)] h0) args h
noncomputable def s23 : FS := S23 s38
noncomputable def a23 : Ann := (.s .o (.b (.l [0, 6, 7, 8] (.s .o (.s (.i .o .o) (.s (.b (.s .o (.g [0, 1, 2, 3, 4, 5]))) .o))))))
set_option maxRecDepth 100000 in
noncomputable def S10 (s21 s22 s24 s23 : FS) : FS := fun args h k => capp 2 (fun x0 x1 h0 =>
 s21 [x0, x1] h0 fun x2 h1 =>
 npK .eql x2 .np fun x3 =>
 gdK x3 false (fun k => k x2 h1) (fun x4 h2 =>
 gdK x3 false (fun k => s22 [x4] h2 k) (fun x5 h3 =>
 pkK x3 (.b true) x5 fun x6 =>
 cdK x6 (
 k (.i .i64 9223372036854775820) h3) (
 s24 [x2] h3 fun x7 h4 =>
 s23 [x0, x7] h4 fun x8 h5 =>
 k (.i .i64 9223372036854775808) h5)) h2) h1) args h
noncomputable def s10 : FS := S10 s21 s22 s24 s23
noncomputable def a10 : Ann := (.s .o (.s .o (.s (.s .o (.i (.s .o .o) .o)) (.s .o (.s .o .o)))))
set_option maxRecDepth 100000 in
noncomputable def S11 : FS := fun args h k => capp 1 (fun x0 h0 =>
 npK .eql x0 .np fun x1 =>
 cdK x1 (
 k .np h0) (
 ncK x0 fun x2 =>
 faK 4 x2 fun x3 =>
 ld1 x3 h0 fun x4 =>
 k x4 h0)) args h
noncomputable def s11 : FS := S11
noncomputable def a11 : Ann := (.s .o (.s (.s .o (.i (.s .o .o) .o)) (.s .o .o)))
set_option maxRecDepth 100000 in
noncomputable def S12 : FS := fun args h k => capp 1 (fun x0 h0 =>
 npK .eql x0 .np fun x1 =>
 cdK x1 (
 k (.i .i64 9223372036854775808) h0) (
 ncK x0 fun x2 =>
 faK 0 x2 fun x3 =>
 ld1 x3 h0 fun x4 =>
 lnL x4 fun x5 =>
 k x5 h0)) args h
noncomputable def s12 : FS := S12
noncomputable def a12 : Ann := (.s .o (.s (.s .o (.i (.s .o .o) .o)) (.s .o .o)))
set_option maxRecDepth 100000 in
noncomputable def S25 : FS := fun args h k => capp 3 (fun x0 x1 x2 h0 =>
 lnL x0 fun x3 =>
 sllK 13 (some x1) (some x2) (some x3) x0 fun x4 =>
 ikK .eql x1 x2 fun x5 =>
 cdK x5 (
 k x0 h0) (
 lnL x0 fun x6 =>
 sllK 13 none (some x1) none x0 fun x7 =>
 sllK 13 (some x2) none none x0 fun x8 =>
 apK 69 13 x7 x8 h0 fun x9 h1 =>
 lnL x9 fun x10 =>
 sllK 13 (some x10) (some x6) none x9 fun x11 =>
 clD 13 Z69 x11 h1 fun h2 =>
 k x9 h2)) args h
noncomputable def s25 : FS := S25
noncomputable def a25 : Ann := (.s .o (.s .o (.s (.s .o (.i (.s .o .o) .o)) (.s .o (.s (.g [0, 1, 2, 3, 4, 5, 6, 7]) (.s .o (.s .o .o)))))))
set_option maxRecDepth 100000 in
noncomputable def S13 (s12 s25 : FS) : FS := fun args h k => capp 2 (fun x0 x1 h0 =>
 ikK .lss x1 (.i .i64 9223372036854775808) fun x2 =>
 gdK x2 false (fun k => k x1 h0) (fun x3 h1 =>
 gdK x2 false (fun k => k x0 h1) (fun x4 h2 =>
 gdK x2 false (fun k => s12 [x4] h2 k) (fun x5 h3 =>
 gdK x2 false (fun k => ikK .geq x3 x5 fun y => k y h3) (fun x6 h4 =>
 pkK x2 (.b true) x6 fun x7 =>
 cdK x7 (
 k (.b false) h4) (
 ncK x0 fun x8 =>
 faK 0 x8 fun x9 =>
 ld1 x9 h4 fun x10 =>
 ikK .add x1 (.i .i64 9223372036854775809) fun x11 =>
 s25 [x10, x1, x11] h4 fun x12 h5 =>
 ncK x0 fun x13 =>
 faK 0 x13 fun x14 =>
 stL 1 x14 x12 h5 fun h6 =>
 k (.b true) h6)) h3) h2) h1) h0) args h
noncomputable def s13 : FS := S13 s12 s25
noncomputable def a13 : Ann := (.s .o (.s (.s .o (.i (.s .o .o) .o)) (.s .o (.s .o .o))))
set_option maxRecDepth 100000 in
noncomputable def S161 : FS := fun args h k => capp 1 (fun x0 h0 =>
 npK .eql x0 .np fun x1 =>
 cdK x1 (
 k .np h0) (
 ncK x0 fun x2 =>
 faK 1 x2 fun x3 =>
 ld1 x3 h0 fun x4 =>
 k x4 h0)) args h
noncomputable def s161 : FS := S161
noncomputable def a161 : Ann := (.s .o (.s (.s .o (.i (.s .o .o) .o)) (.s .o .o)))
noncomputable def s162 : FS := sx
set_option maxRecDepth 100000 in
noncomputable def S92 (s21 s161 s76 s150 s77 s162 : FS) : FS := fun args h k => capp 1 (fun x0 h0 =>
 capp 2 (lp 2 fun (x1 : CT 2) x2 x3 h1 =>
 ikK .leq x3 (.i .i64 9223372036854775815) fun x4 =>
 cdK x4 (
 s21 [x2, x3] h1 fun x5 h2 =>
 npK .neq x5 .np fun x6 =>
 gdK x6 true (fun k => k x5 h2) (fun x7 h3 =>
 gdK x6 true (fun k => s161 [x7] h3 k) (fun x8 h4 =>
 gdK x6 true (fun k => s76 [x8] h4 k) (fun x9 h5 =>
 gdK x6 true (fun k => k x5 h5) (fun x10 h6 =>
 gdK x6 true (fun k => s161 [x10] h6 k) (fun x11 h7 =>
 gdK x6 true (fun k => s76 [x11] h7 k) (fun x12 h8 =>
 gdK x6 true (fun k => s150 [x12] h8 k) (fun x13 h9 =>
 gdK x6 true (fun k => s77 [x9, x13, (.i .i64 9223372036854776008)] h9 k) (fun x14 h10 =>
 gdK x6 true (fun k => lnL x14 fun y => k y h10) (fun x15 h11 =>
 gdK x6 true (fun k => ikK .gtr x15 (.i .i64 9223372036854775908) fun y => k y h11) (fun x16 h12 =>
 pkK x6 x16 (.b false) fun x17 =>
 jn 2 (fun x18 : CT 2 =>
 cdK x17 (
 s162 [x5] h12 fun x19 h13 =>
 x18 x2 x3 h13) (
 x18 x2 x3 h12)) fun x20 x21 h14 =>
 ikK .add x21 (.i .i64 9223372036854775809) fun x22 =>
 x1 x20 x22 h14) h11) h10) h9) h8) h7) h6) h5) h4) h3) h2) (
 k (.t []) h1)) [x0, (.i .i64 9223372036854775809)] h0) args h
noncomputable def s92 : FS := S92 s21 s161 s76 s150 s77 s162
noncomputable def a92 : Ann := (.s .o (.b (.l [0, 2] (.s (.s .o (.i .o .o)) (.s (.b (.s .o (.s .o (.j [0, 2] .o .o)))) .o)))))
set_option maxRecDepth 100000 in
noncomputable def S179 (s12 s73 : FS) : FS := fun args h k => capp 2 (fun x0 x1 h0 =>
 boxK 69 13 z69 h0 fun x2 h1 =>
 ikK .lss x1 (.i .i64 9223372036854775808) fun x3 =>
 gdK x3 false (fun k => k x1 h1) (fun x4 h2 =>
 gdK x3 false (fun k => k x0 h2) (fun x5 h3 =>
 gdK x3 false (fun k => s12 [x5] h3 k) (fun x6 h4 =>
 gdK x3 false (fun k => ikK .geq x4 x6 fun y => k y h4) (fun x7 h5 =>
 pkK x3 (.b true) x7 fun x8 =>
 cdK x8 (
 blK [] Z69 fun x9 =>
 stL 13 x2 x9 h5 fun h6 =>
 ldN 13 x2 h6 fun x10 => k (.t [x10, (.b false)]) h6) (
 ncK x0 fun x11 =>
 faK 0 x11 fun x12 =>
 ld1 x12 h5 fun x13 =>
 iaK 13 x13 x1 fun x14 =>
 ldN 13 x14 h5 fun x15 =>
 s73 [x15] h5 fun x16 h7 =>
 stL 13 x2 x16 h7 fun h8 =>
 ldN 13 x2 h8 fun x17 => k (.t [x17, (.b true)]) h8)) h4) h3) h2) h1) args h
noncomputable def s179 : FS := S179 s12 s73
noncomputable def a179 : Ann := (.s .o (.s (.s .o (.i (.s .o .o) .o)) (.s .o .o)))
set_option maxRecDepth 100000 in
noncomputable def S253 (s82 : FS) : FS := fun args h k => capp 2 (fun x0 x1 h0 =>
 blK [(0, 1, x1)] Z141 fun x2 =>
 s82 [x0, x2] h0 fun x3 h1 =>
 ncK x0 fun x4 =>
 faK 5 x4 fun x5 =>
 stL 1 x5 (.i .i64 9223372036854775808) h1 fun h2 =>
 ncK x0 fun x6 =>
 faK 6 x6 fun x7 =>
 stL 1 x7 (.i .i64 9223372036854775808) h2 fun h3 =>
 k (.t []) h3) args h
noncomputable def s253 : FS := S253 s82
noncomputable def a253 : Ann := (.s .o .o)
set_option maxRecDepth 100000 in
noncomputable def S281 (s88 s87 : FS) : FS := fun args h k => capp 3 (fun x0 x1 x2 h0 =>
 npK .eql x0 .np fun x3 =>
 cdK x3 (
 k (.b false) h0) (
 s88 [x0] h0 fun x4 h1 =>
 s87 [x0, x4] h1 fun x5 h2 =>
 exK x5 0 fun x6 =>
 exK x5 1 fun x7 =>
 ikK .gtr x2 x6 fun x8 =>
 gdK x8 false (fun k => k x2 h2) (fun x9 h3 =>
 gdK x8 false (fun k => k x6 h3) (fun x10 h4 =>
 gdK x8 false (fun k => ikK .eql x9 x10 fun y => k y h4) (fun x11 h5 =>
 gdK x8 false (fun k => k x11 h5) (fun x12 h6 =>
 gdK x12 true (fun k => k x1 h6) (fun x13 h7 =>
 gdK x12 true (fun k => k x0 h7) (fun x14 h8 =>
 gdK x12 true (fun k => s88 [x14] h8 k) (fun x15 h9 =>
 gdK x12 true (fun k => ikK .geq x13 x15 fun y => k y h9) (fun x16 h10 =>
 gdK x8 false (fun k => pkK x12 x16 (.b false) fun y => k y h10) (fun x17 h11 =>
 pkK x8 (.b true) x17 fun x18 =>
 k x18 h11) h10) h9) h8) h7) h6) h5) h4) h3) h2)) args h
noncomputable def s281 : FS := S281 s88 s87
noncomputable def a281 : Ann := (.s .o (.s (.s .o (.i (.s .o .o) .o)) (.s .o (.s .o .o))))
set_option maxRecDepth 100000 in
noncomputable def S254 (s281 s82 s90 : FS) : FS := fun args h k => capp 2 (fun x0 x1 h0 =>
 boxK 69 13 x1 h0 fun x2 h1 =>
 ncK x0 fun x3 =>
 faK 1 x3 fun x4 =>
 faK 1 x4 fun x5 =>
 ld1 x5 h1 fun x6 =>
 ikK .eql x6 (.i .i64 9223372036854775808) fun x7 =>
 gdK x7 false (fun k => k x0 h1) (fun x8 h2 =>
 gdK x7 false (fun k => ncK x8 fun y => k y h2) (fun x9 h3 =>
 gdK x7 false (fun k => faK 1 x9 fun y => k y h3) (fun x10 h4 =>
 gdK x7 false (fun k => faK 1 x10 fun y => k y h4) (fun x11 h5 =>
 gdK x7 false (fun k => ld1 x11 h5 fun y => k y h5) (fun x12 h6 =>
 gdK x7 false (fun k => faK 1 x2 fun y => k y h6) (fun x13 h7 =>
 gdK x7 false (fun k => ld1 x13 h7 fun y => k y h7) (fun x14 h8 =>
 gdK x7 false (fun k => ikK .eql x12 x14 fun y => k y h8) (fun x15 h9 =>
 pkK x7 (.b true) x15 fun x16 =>
 gdK x16 true (fun k => k x0 h9) (fun x17 h10 =>
 gdK x16 true (fun k => ncK x17 fun y => k y h10) (fun x18 h11 =>
 gdK x16 true (fun k => faK 3 x18 fun y => k y h11) (fun x19 h12 =>
 gdK x16 true (fun k => ld1 x19 h12 fun y => k y h12) (fun x20 h13 =>
 gdK x16 true (fun k => faK 4 x2 fun y => k y h13) (fun x21 h14 =>
 gdK x16 true (fun k => ld1 x21 h14 fun y => k y h14) (fun x22 h15 =>
 gdK x16 true (fun k => faK 5 x2 fun y => k y h15) (fun x23 h16 =>
 gdK x16 true (fun k => ld1 x23 h16 fun y => k y h16) (fun x24 h17 =>
 gdK x16 true (fun k => s281 [x20, x22, x24] h17 k) (fun x25 h18 =>
 pkK x16 x25 (.b false) fun x26 =>
 jn 3 (fun x27 : CT 3 =>
 cdK x26 (
 ncK x0 fun x28 =>
 faK 1 x28 fun x29 =>
 faK 0 x29 fun x30 =>
 ld1 x30 h18 fun x31 =>
 faK 1 x2 fun x32 =>
 ld1 x32 h18 fun x33 =>
 blK [(0, 1, x31), (1, 1, x33)] Z141 fun x34 =>
 s82 [x0, x34] h18 fun x35 h19 =>
 ncK x0 fun x36 =>
 faK 7 x36 fun x37 =>
 stL 1 x37 (.b true) h19 fun h20 =>
 x27 x0 x2 x26 h20) (
 x27 x0 x2 x26 h18)) fun x38 x39 x40 h21 =>
 faK 1 x39 fun x41 =>
 ld1 x41 h21 fun x42 =>
 blK [(0, 1, (.i .i64 9223372036854775810)), (2, 1, x42), (7, 1, x40)] Z69 fun x43 =>
 s90 [x38, x43] h21 fun x44 h22 =>
 k (.t []) h22) h17) h16) h15) h14) h13) h12) h11) h10) h9) h8) h7) h6) h5) h4) h3) h2) h1) args h
noncomputable def s254 : FS := S254 s281 s82 s90
noncomputable def a254 : Ann := (.s .o (.s (.g [0, 1, 2, 3, 4, 5, 6, 7, 8, 9, 10, 11, 12, 13, 14, 15, 16, 17, 18, 19, 20, 21, 22, 23, 24, 25, 26, 27]) (.s (.s .o (.j [0, 3, 4] (.s (.g [0, 1, 2, 3, 4, 5, 6, 7, 8, 9]) .o) .o)) .o)))
set_option maxRecDepth 100000 in
noncomputable def S282 (s156 : FS) : FS := fun args h k => capp 2 (fun x0 x1 h0 =>
 s156 [x0, x1] h0 fun x2 h1 =>
 notK x2 fun x3 =>
 cdK x3 (
 k (.b false) h1) (
 ncK x0 fun x4 =>
 faK 2 x4 fun x5 =>
 ld1 x5 h1 fun x6 =>
 bsK 3 1 1 1 [x1] h1 fun x7 h2 =>
 apK 3 1 x6 x7 h2 fun x8 h3 =>
 ncK x0 fun x9 =>
 faK 2 x9 fun x10 =>
 stL 1 x10 x8 h3 fun h4 =>
 k (.b true) h4)) args h
noncomputable def s282 : FS := S282 s156
noncomputable def a282 : Ann := (.s .o (.s (.s .o (.i (.s .o .o) .o)) (.s .o (.s .o .o))))
set_option maxRecDepth 100000 in
noncomputable def S283 : FS := fun args h k => capp 1 (fun x0 h0 =>
 npK .neq x0 .np fun x1 =>
 gdK x1 true (fun k => k x0 h0) (fun x2 h1 =>
 gdK x1 true (fun k => ncK x2 fun y => k y h1) (fun x3 h2 =>
 gdK x1 true (fun k => faK 0 x3 fun y => k y h2) (fun x4 h3 =>
 gdK x1 true (fun k => ld1 x4 h3 fun y => k y h3) (fun x5 h4 =>
 gdK x1 true (fun k => lnL x5 fun y => k y h4) (fun x6 h5 =>
 gdK x1 true (fun k => ikK .gtr x6 (.i .i64 9223372036854775808) fun y => k y h5) (fun x7 h6 =>
 pkK x1 x7 (.b false) fun x8 =>
 gdK x8 true (fun k => k x0 h6) (fun x9 h7 =>
 gdK x8 true (fun k => ncK x9 fun y => k y h7) (fun x10 h8 =>
 gdK x8 true (fun k => faK 0 x10 fun y => k y h8) (fun x11 h9 =>
 gdK x8 true (fun k => ld1 x11 h9 fun y => k y h9) (fun x12 h10 =>
 gdK x8 true (fun k => lnL x12 fun y => k y h10) (fun x13 h11 =>
 gdK x8 true (fun k => k x0 h11) (fun x14 h12 =>
 gdK x8 true (fun k => ncK x14 fun y => k y h12) (fun x15 h13 =>
 gdK x8 true (fun k => faK 2 x15 fun y => k y h13) (fun x16 h14 =>
 gdK x8 true (fun k => ld1 x16 h14 fun y => k y h14) (fun x17 h15 =>
 gdK x8 true (fun k => lnL x17 fun y => k y h15) (fun x18 h16 =>
 gdK x8 true (fun k => ikK .sub x13 x18 fun y => k y h16) (fun x19 h17 =>
 gdK x8 true (fun k => ikK .mul (.i .i64 9223372036854775810) x19 fun y => k y h17) (fun x20 h18 =>
 gdK x8 true (fun k => k x0 h18) (fun x21 h19 =>
 gdK x8 true (fun k => ncK x21 fun y => k y h19) (fun x22 h20 =>
 gdK x8 true (fun k => faK 0 x22 fun y => k y h20) (fun x23 h21 =>
 gdK x8 true (fun k => ld1 x23 h21 fun y => k y h21) (fun x24 h22 =>
 gdK x8 true (fun k => lnL x24 fun y => k y h22) (fun x25 h23 =>
 gdK x8 true (fun k => ikK .leq x20 x25 fun y => k y h23) (fun x26 h24 =>
 pkK x8 x26 (.b false) fun x27 =>
 k x27 h24) h23) h22) h21) h20) h19) h18) h17) h16) h15) h14) h13) h12) h11) h10) h9) h8) h7) h6) h5) h4) h3) h2) h1) h0) args h
noncomputable def s283 : FS := S283
noncomputable def a283 : Ann := (.s .o (.s (.g [0, 1, 2, 3, 4, 5, 6, 7, 8, 9, 10, 11, 12, 13, 14, 15, 16, 17, 18, 19, 20, 21, 22, 23, 24, 25, 26, 27, 28, 29, 30]) .o))
end Go.Proofs.YtlannobincnnhaaGreatDoor
