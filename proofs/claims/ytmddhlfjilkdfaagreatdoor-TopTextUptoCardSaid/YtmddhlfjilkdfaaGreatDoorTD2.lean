/-
  No claim by itself: what the functions' texts mean. No condition.
-/
import Derived.Test.YtmddhlfjilkdfaaGreatDoorTD1
namespace Go.Proofs.YtmddhlfjilkdfaaGreatDoor
set_option linter.unusedVariables false
noncomputable def s97 : FS := sx
def Z204 : List AV := [(.i .i64 9223372036854775808), .ns]
def z204 : AV := .a Z204
set_option maxRecDepth 100000 in
noncomputable def S95 (s97 : FS) : FS := fun args h k => capp 1 (fun x0 h0 =>
 jn 2 (fun x1 : CT 2 =>
 capp 3 (lp 3 fun (x2 : CT 3) x3 x4 x5 h1 =>
 lnLY x3 fun x6 =>
 ikY .lss x5 x6 fun x7 =>
 cdK x7 (
 sllK 1 (some x5) none none x3 fun x8 =>
 s97 [x8] h1 fun x9 h2 =>
 exK x9 0 fun x10 =>
 exK x9 1 fun x11 =>
 exK x9 2 fun x12 =>
 exK x9 3 fun x13 =>
 ikY .neq x13 (.i .i64 9223372036854775808) fun x14 =>
 cdK x14 (
 x1 x4 x5 h2) (
 blK [(0, 1, x10), (1, 1, x11)] Z204 fun x15 =>
 bsK 204 2 1 2 [x15] h2 fun x16 h3 =>
 apY 204 2 x4 x16 h3 fun x17 h4 =>
 ikY .add x5 x12 fun x18 =>
 x2 x3 x17 x18 h4)) (
 x1 x4 x5 h1)) [x0, .ns, (.i .i64 9223372036854775808)] h0) fun x19 x20 h5 =>
 k (.t [x19, x20]) h5) args h
noncomputable def s95 : FS := S95 s97
noncomputable def a95 : Ann := (.s .o (.s .o (.s .o (.s (.k [4, 5] (.l [0, 4, 5] (.s (.s .o (.i .o .o)) (.b (.s .o (.s (.s .o (.i .o .o)) (.s .o .o))))))) (.s .o .o)))))
noncomputable def s96 : FS := sx
def Z91 : List AV := [.np, (.i .i64 9223372036854775808), .ns, .np]
def z91 : AV := .a Z91
set_option maxRecDepth 100000 in
noncomputable def S54 (s94 s71 s95 s96 s97 s75 : FS) : FS := fun args h k => capp 2 (fun x0 x1 h0 =>
 ikY .lss x1 (.i .i64 9223372036854775809) fun x2 =>
 gdK x2 false (fun k => k x1 h0) (fun x3 h1 =>
 gdK x2 false (fun k => ikY .gtr x3 (.i .i64 9223372036854775813) fun y => k y h1) (fun x4 h2 =>
 pkK x2 (.b true) x4 fun x5 =>
 cdK x5 (
 k (.t [.np, (.i .i64 9223372036854775809)]) h2) (
 s94 [] h2 fun x6 h3 =>
 blK [(0, 1, x0), (1, 1, x1), (3, 1, x6)] Z91 fun x7 =>
 boxK 91 4 x7 h3 fun x8 h4 =>
 s71 [x0, (.s 5 [113, 117, 101, 117, 101])] h4 fun x9 h5 =>
 exK x9 0 fun x10 =>
 exK x9 1 fun x11 =>
 s95 [x10] h5 fun x12 h6 =>
 exK x12 0 fun x13 =>
 exK x12 1 fun x14 =>
 lnLY x13 fun x15 =>
 capp 7 (lp 7 fun (x16 : CT 7) x17 x18 x19 x20 x21 x22 x23 h7 =>
 ikY .lss x23 x22 fun x24 =>
 cdK x24 (
 iaK 2 x21 x23 fun x25 =>
 ldN 2 x25 h7 fun x26 =>
 boxK 204 2 z204 h7 fun x27 h8 =>
 stL 2 x27 x26 h8 fun h9 =>
 ldN 2 x27 h9 fun x28 =>
 s96 [x18, x28] h9 fun x29 h10 =>
 notK x29 fun x30 =>
 cdK x30 (
 k (.t [.np, (.i .i64 9223372036854775811)]) h10) (
 ikY .add x23 (.i .i64 9223372036854775809) fun x31 =>
 x16 x17 x18 x19 x20 x21 x22 x31 h10)) (
 lnLY x19 fun x32 =>
 ikY .lss x20 x32 fun x33 =>
 jn 1 (fun x34 : CT 1 =>
 cdK x33 (
 sllK 1 (some x20) none none x19 fun x35 =>
 s97 [x35] h7 fun x36 h11 =>
 exK x36 0 fun x37 =>
 exK x36 1 fun x38 =>
 exK x36 2 fun x39 =>
 exK x36 3 fun x40 =>
 ikY .neq x40 (.i .i64 9223372036854775810) fun x41 =>
 cdK x41 (
 k (.t [.np, (.i .i64 9223372036854775811)]) h11) (
 sllK 1 none (some x20) none x19 fun x42 =>
 s75 [x17, (.s 5 [113, 117, 101, 117, 101]), x42] h11 fun x43 h12 =>
 ikY .neq x43 (.i .i64 9223372036854775808) fun x44 =>
 cdK x44 (
 k (.t [.np, x43]) h12) (
 x34 x18 h12))) (
 x34 x18 h7)) fun x45 h13 =>
 k (.t [x45, (.i .i64 9223372036854775808)]) h13)) [x0, x8, x10, x14, x13, x15, (.i .i64 9223372036854775808)] h6)) h1) h0) args h
noncomputable def s54 : FS := S54 s94 s71 s95 s96 s97 s75
noncomputable def a54 : Ann := (.s .o (.s (.s .o (.i (.s .o .o) .o)) (.s .o (.s .o (.s .o (.s (.s .o (.b (.l [0, 6, 7, 10, 39, 40, 41] (.s .o (.s (.i .o .o) (.s (.b (.s .o (.s .o (.i (.s .o .o) .o)))) .o)))))) (.s (.s .o (.j [6] (.s (.s .o (.s .o (.i (.s .o .o) .o))) (.s .o (.s .o (.i (.s .o .o) .o)))) .o)) (.s .o .o))))))))
def Z67 : List AV := [.np]
def z67 : AV := .a Z67
set_option maxRecDepth 100000 in
noncomputable def S32 (s54 : FS) : FS := fun args h k => capp 2 (fun x0 x1 h0 =>
 s54 [x1, x0] h0 fun x2 h1 =>
 exK x2 0 fun x3 =>
 exK x2 1 fun x4 =>
 ikY .neq x4 (.i .i64 9223372036854775808) fun x5 =>
 cdK x5 (
 k (.t [.np, x4]) h1) (
 blK [(0, 1, x3)] Z67 fun x6 =>
 boxK 67 1 x6 h1 fun x7 h2 =>
 k (.t [x7, (.i .i64 9223372036854775808)]) h2)) args h
noncomputable def s32 : FS := S32 s54
noncomputable def a32 : Ann := (.s .o (.s .o (.s (.s .o (.i (.s .o .o) .o)) (.s .o .o))))
def Z62 : List AV := [.nm, .nm, .nm, .nm, .np]
def z62 : AV := .a Z62
set_option maxRecDepth 100000 in
noncomputable def S18 (s29 s30 s31 s32 : FS) : FS := fun args h k => capp 2 (fun x0 x1 h0 =>
 mmD h0 fun x2 h1 =>
 mmD h1 fun x3 h2 =>
 mmD h2 fun x4 h3 =>
 mmD h3 fun x5 h4 =>
 s29 [] h4 fun x6 h5 =>
 blK [(0, 1, x2), (1, 1, x3), (2, 1, x4), (3, 1, x5), (4, 1, x6)] Z62 fun x7 =>
 boxK 62 5 x7 h5 fun x8 h6 =>
 capp 5 (lp 5 fun (x9 : CT 5) x10 x11 x12 x13 x14 h7 =>
 mmL mxK [(.i .i64 9223372036854775809)] x10 fun x15 =>
 mmL mnK [(.i .i64 9223372036854775815)] x15 fun x16 =>
 ikY .leq x14 x16 fun x17 =>
 cdK x17 (
 bsK 3 1 1 1 [x14] h7 fun x18 h8 =>
 apY 3 1 x13 x18 h8 fun x19 h9 =>
 ikY .add x14 (.i .i64 9223372036854775809) fun x20 =>
 x9 x10 x11 x12 x19 x20 h9) (
 capp 4 (lp 4 fun (x21 : CT 4) x22 x23 x24 x25 h10 =>
 ikY .leq x25 (.i .i64 9223372036854775815) fun x26 =>
 cdK x26 (
 ncK x23 fun x27 =>
 faK 2 x27 fun x28 =>
 ld1 x28 h10 fun x29 =>
 s30 [] h10 fun x30 h11 =>
 muD false x29 x25 x30 h11 fun h12 =>
 ld1 x28 h11 fun x31 => ifT (avEq x31 x29) <|
 ikY .add x25 (.i .i64 9223372036854775809) fun x32 =>
 x21 x22 x23 x24 x32 h12) (
 lnLY x24 fun x33 =>
 capp 6 (lp 6 fun (x34 : CT 6) x35 x36 x37 x38 x39 x40 h13 =>
 ikY .lss x40 x39 fun x41 =>
 cdK x41 (
 iaK 1 x38 x40 fun x42 =>
 ld1 x42 h13 fun x43 =>
 ncK x36 fun x44 =>
 faK 2 x44 fun x45 =>
 ld1 x45 h13 fun x46 =>
 lkK false false .np x46 x43 h13 fun x47 =>
 s31 [x43, x47, x37] h13 fun x48 h14 =>
 exK x48 0 fun x49 =>
 exK x48 1 fun x50 =>
 ikY .eql x50 (.i .i64 9223372036854775808) fun x51 =>
 jn 6 (fun x52 : CT 6 =>
 cdK x51 (
 ncK x36 fun x53 =>
 faK 0 x53 fun x54 =>
 ld1 x54 h14 fun x55 =>
 muD false x55 x43 x49 h14 fun h15 =>
 x52 x35 x36 x37 x38 x39 x40 h15) (
 x52 x35 x36 x37 x38 x39 x40 h14)) fun x56 x57 x58 x59 x60 x61 h16 =>
 ikY .add x61 (.i .i64 9223372036854775809) fun x62 =>
 x34 x56 x57 x58 x59 x60 x62 h16) (
 capp 3 (lp 3 fun (x63 : CT 3) x64 x65 x66 h17 =>
 mmL mxK [(.i .i64 9223372036854775809)] x64 fun x67 =>
 mmL mnK [(.i .i64 9223372036854775813)] x67 fun x68 =>
 ikY .leq x66 x68 fun x69 =>
 cdK x69 (
 ncK x65 fun x70 =>
 faK 3 x70 fun x71 =>
 ld1 x71 h17 fun x72 =>
 s30 [] h17 fun x73 h18 =>
 muD false x72 x66 x73 h18 fun h19 =>
 ld1 x71 h18 fun x74 => ifT (avEq x74 x72) <|
 ncK x65 fun x75 =>
 faK 3 x75 fun x76 =>
 ld1 x76 h19 fun x77 =>
 lkK false false .np x77 x66 h19 fun x78 =>
 s32 [x66, x78] h19 fun x79 h20 =>
 exK x79 0 fun x80 =>
 exK x79 1 fun x81 =>
 ikY .eql x81 (.i .i64 9223372036854775808) fun x82 =>
 jn 3 (fun x83 : CT 3 =>
 cdK x82 (
 ncK x65 fun x84 =>
 faK 1 x84 fun x85 =>
 ld1 x85 h20 fun x86 =>
 muD false x86 x66 x80 h20 fun h21 =>
 x83 x64 x65 x66 h21) (
 x83 x64 x65 x66 h20)) fun x87 x88 x89 h22 =>
 ikY .add x89 (.i .i64 9223372036854775809) fun x90 =>
 x63 x87 x88 x90 h22) (
 k x65 h17)) [x35, x36, (.i .i64 9223372036854775809)] h13)) [x22, x23, x24, x24, x33, (.i .i64 9223372036854775808)] h10)) [x11, x12, x13, (.i .i64 9223372036854775809)] h7)) [x0, x1, x8, .ns, (.i .i64 9223372036854775809)] h6) args h
noncomputable def s18 : FS := S18 s29 s30 s31 s32
noncomputable def a18 : Ann := (.s .o (.s .o (.s .o (.s (.s .o (.b (.l [0, 1, 5, 6, 7] (.s (.s .o (.i .o .o)) (.s (.b .o) .o))))) (.s (.s .o (.b (.l [1, 5, 6, 8] (.s (.s .o (.i .o .o)) (.s (.b (.g [0, 1, 2, 3, 4, 5, 6])) .o))))) (.s (.s .o (.b (.l [1, 5, 6, 44, 45, 46] (.s .o (.s (.i .o .o) (.s (.b (.s .o (.s .o (.s .o (.j [1, 5, 6, 44, 45, 46] .o .o))))) .o)))))) (.s (.s .o (.b (.l [1, 5, 13] (.s (.s .o (.i .o .o)) (.s (.b (.s (.g [0, 1, 2, 3, 4, 5, 6]) (.s .o (.s .o (.j [1, 5, 13] .o .o))))) .o))))) (.s .o .o))))))))
set_option maxRecDepth 100000 in
noncomputable def S11 : FS := fun args h k => capp 2 (fun x0 x1 h0 =>
 npK .eql x0 .np fun x2 =>
 cdK x2 (
 k .np h0) (
 ncK x0 fun x3 =>
 faK 1 x3 fun x4 =>
 ld1 x4 h0 fun x5 =>
 lkK false false .np x5 x1 h0 fun x6 =>
 k x6 h0)) args h
noncomputable def s11 : FS := S11
noncomputable def a11 : Ann := (.s .o (.s (.s .o (.i (.s .o .o) .o)) (.s .o .o)))
set_option maxRecDepth 100000 in
noncomputable def S55 (s98 : FS) : FS := fun args h k => capp 1 (fun x0 h0 =>
 boxK 51 3 x0 h0 fun x1 h1 =>
 boxK 51 3 z51 h1 fun x2 h2 =>
 faK 2 x1 fun x3 =>
 ld1 x3 h2 fun x4 =>
 s98 [x4] h2 fun x5 h3 =>
 faK 2 x1 fun x6 =>
 stL 1 x6 x5 h3 fun h4 =>
 ldN 3 x1 h4 fun x7 =>
 stL 3 x2 x7 h4 fun h5 =>
 ldN 3 x2 h5 fun x8 => k x8 h5) args h
noncomputable def s55 : FS := S55 s98
noncomputable def a55 : Ann := (.s .o (.s .o (.s .o .o)))
set_option maxRecDepth 100000 in
noncomputable def S101 (s139 : FS) : FS := fun args h k => capp 2 (fun x0 x1 h0 =>
 ncK x0 fun x2 =>
 faK 0 x2 fun x3 =>
 ld1 x3 h0 fun x4 =>
 s139 [x4, x1] h0 fun x5 h1 =>
 k x5 h1) args h
noncomputable def s101 : FS := S101 s139
noncomputable def a101 : Ann := (.s .o (.s .o .o))
set_option maxRecDepth 100000 in
noncomputable def S57 (s101 : FS) : FS := fun args h k => capp 1 (fun x0 h0 =>
 ncK x0 fun x1 =>
 faK 2 x1 fun x2 =>
 ld1 x2 h0 fun x3 =>
 lnLY x3 fun x4 =>
 ncK x0 fun x5 =>
 faK 3 x5 fun x6 =>
 ld1 x6 h0 fun x7 =>
 ncK x0 fun x8 =>
 faK 1 x8 fun x9 =>
 ld1 x9 h0 fun x10 =>
 s101 [x7, x10] h0 fun x11 h1 =>
 ikY .sub x4 x11 fun x12 =>
 ld1 x2 h1 fun x13 => ifT (avEq x13 x3) <|
 k x12 h1) args h
noncomputable def s57 : FS := S57 s101
noncomputable def a57 : Ann := (.s .o (.s (.g [0, 1, 2, 3, 4, 5, 6, 7, 8, 9, 10, 11, 12, 13, 14, 15]) .o))
set_option maxRecDepth 100000 in
noncomputable def S102 (s132 : FS) : FS := fun args h k => capp 3 (fun x0 x1 x2 h0 =>
 npK .eql x0 .np fun x3 =>
 cdK x3 (
 k (.i .i64 9223372036854775821) h0) (
 ncK x0 fun x4 =>
 faK 1 x4 fun x5 =>
 ld1 x5 h0 fun x6 =>
 ikY .add x6 (.i .i64 9223372036854775809) fun x7 =>
 ncK x0 fun x8 =>
 faK 1 x8 fun x9 =>
 stL 1 x9 x7 h0 fun h1 =>
 s132 [x1] h1 fun x10 h2 =>
 notK x10 fun x11 =>
 cdK x11 (
 k (.i .i64 9223372036854775809) h2) (
 ncK x0 fun x12 =>
 faK 0 x12 fun x13 =>
 ld1 x13 h2 fun x14 =>
 lkK true false .np x14 x1 h2 fun x15 =>
 npK .eql x15 .np fun x16 =>
 jn 4 (fun x17 : CT 4 =>
 cdK x16 (
 blK [] Z240 fun x18 =>
 boxK 240 3 x18 h2 fun x19 h3 =>
 x17 x0 x1 x2 x19 h3) (
 x17 x0 x1 x2 x15 h2)) fun x20 x21 x22 x23 h4 =>
 ncK x23 fun x24 =>
 faK 0 x24 fun x25 =>
 ld1 x25 h4 fun x26 =>
 lnLY x26 fun x27 =>
 lnLY x22 fun x28 =>
 ikY .sub (.i .i64 9223372036855824384) x28 fun x29 =>
 ikY .gtr x27 x29 fun x30 =>
 cdK x30 (
 k (.i .i64 9223372036854775813) h4) (
 ncK x23 fun x31 =>
 faK 0 x31 fun x32 =>
 ld1 x32 h4 fun x33 =>
 apY 5 1 x33 x22 h4 fun x34 h5 =>
 ncK x23 fun x35 =>
 faK 0 x35 fun x36 =>
 stL 1 x36 x34 h5 fun h6 =>
 ncK x20 fun x37 =>
 faK 0 x37 fun x38 =>
 ld1 x38 h6 fun x39 =>
 muD true x39 x21 x23 h6 fun h7 =>
 k (.i .i64 9223372036854775808) h7)))) args h
noncomputable def s102 : FS := S102 s132
noncomputable def a102 : Ann := (.s .o (.s (.s .o (.i (.s .o .o) .o)) (.s .o (.s (.s .o (.i (.s .o .o) .o)) (.s .o (.s (.s .o (.j [0, 1, 2, 7] .o .o)) (.s (.s .o (.i (.s .o .o) .o)) (.s .o (.s .o (.s .o .o))))))))))
set_option maxRecDepth 100000 in
noncomputable def S103 : FS := fun args h k => capp 2 (fun x0 x1 h0 =>
 npK .eql x0 .np fun x2 =>
 cdK x2 (
 k (.i .i64 9223372036854775821) h0) (
 ncK x0 fun x3 =>
 faK 1 x3 fun x4 =>
 ld1 x4 h0 fun x5 =>
 ikY .add x5 (.i .i64 9223372036854775809) fun x6 =>
 ncK x0 fun x7 =>
 faK 1 x7 fun x8 =>
 stL 1 x8 x6 h0 fun h1 =>
 ncK x0 fun x9 =>
 faK 0 x9 fun x10 =>
 ld1 x10 h1 fun x11 =>
 lkK true false .np x11 x1 h1 fun x12 =>
 npK .eql x12 .np fun x13 =>
 cdK x13 (
 k (.i .i64 9223372036854775821) h1) (
 ncK x12 fun x14 =>
 faK 0 x14 fun x15 =>
 ld1 x15 h1 fun x16 =>
 lnLY x16 fun x17 =>
 ncK x12 fun x18 =>
 faK 1 x18 fun x19 =>
 stL 1 x19 x17 h1 fun h2 =>
 ncK x12 fun x20 =>
 faK 2 x20 fun x21 =>
 stL 1 x21 (.b true) h2 fun h3 =>
 k (.i .i64 9223372036854775808) h3))) args h
noncomputable def s103 : FS := S103
noncomputable def a103 : Ann := (.s .o (.s (.s .o (.i (.s .o .o) .o)) (.s .o (.s .o (.s (.s .o (.i (.s .o .o) .o)) (.s .o (.s .o .o)))))))
set_option maxRecDepth 100000 in
noncomputable def S58 (s102 s103 : FS) : FS := fun args h k => capp 2 (fun x0 x1 h0 =>
 ncK x0 fun x2 =>
 faK 0 x2 fun x3 =>
 ld1 x3 h0 fun x4 =>
 s102 [x4, (.s 5 [113, 117, 101, 117, 101]), x1] h0 fun x5 h1 =>
 ikY .neq x5 (.i .i64 9223372036854775808) fun x6 =>
 cdK x6 (
 k x5 h1) (
 ncK x0 fun x7 =>
 faK 0 x7 fun x8 =>
 ld1 x8 h1 fun x9 =>
 s103 [x9, (.s 5 [113, 117, 101, 117, 101])] h1 fun x10 h2 =>
 k x10 h2)) args h
noncomputable def s58 : FS := S58 s102 s103
noncomputable def a58 : Ann := (.s .o (.s (.s .o (.s .o (.i (.s .o .o) .o))) (.s .o .o)))
set_option maxRecDepth 100000 in
noncomputable def S33 (s55 s56 s57 s59 s58 : FS) : FS := fun args h k => capp 2 (fun x0 x1 h0 =>
 boxK 51 3 z51 h0 fun x2 h1 =>
 npK .eql x0 .np fun x3 =>
 cdK x3 (
 blK [] Z51 fun x4 =>
 stL 3 x2 x4 h1 fun h2 =>
 ldN 3 x2 h2 fun x5 => k (.t [x5, (.i .i64 9223372036854775820)]) h2) (
 ncK x0 fun x6 =>
 faK 1 x6 fun x7 =>
 ld1 x7 h1 fun x8 =>
 ncK x0 fun x9 =>
 faK 2 x9 fun x10 =>
 ld1 x10 h1 fun x11 =>
 lnLY x11 fun x12 =>
 ikY .add x12 (.i .i64 9223372036854775809) fun x13 =>
 blK [(0, 1, x8), (1, 1, x13), (2, 1, x1)] Z51 fun x14 =>
 s55 [x14] h1 fun x15 h3 =>
 boxK 51 3 z51 h3 fun x16 h4 =>
 stL 3 x16 x15 h4 fun h5 =>
 ldN 3 x16 h5 fun x17 =>
 s56 [x17] h5 fun x18 h6 =>
 nsK .eql x18 .ns fun x19 =>
 cdK x19 (
 blK [] Z51 fun x20 =>
 stL 3 x2 x20 h6 fun h7 =>
 ldN 3 x2 h7 fun x21 => k (.t [x21, (.i .i64 9223372036854775809)]) h7) (
 s57 [x0] h6 fun x22 h8 =>
 ikY .geq x22 (.i .i64 9223372036854775838) fun x23 =>
 cdK x23 (
 blK [] Z51 fun x24 =>
 stL 3 x2 x24 h8 fun h9 =>
 ldN 3 x2 h9 fun x25 => k (.t [x25, (.i .i64 9223372036854775813)]) h9) (
 s59 [(.i .i64 9223372036854775809), x18] h8 fun x26 h10 =>
 s58 [x0, x26] h10 fun x27 h11 =>
 ikY .neq x27 (.i .i64 9223372036854775808) fun x28 =>
 cdK x28 (
 blK [] Z51 fun x29 =>
 stL 3 x2 x29 h11 fun h12 =>
 ldN 3 x2 h12 fun x30 => k (.t [x30, x27]) h12) (
 ncK x0 fun x31 =>
 faK 2 x31 fun x32 =>
 ld1 x32 h11 fun x33 =>
 ldN 3 x16 h11 fun x34 =>
 bsK 51 3 1 3 [x34] h11 fun x35 h13 =>
 apY 51 3 x33 x35 h13 fun x36 h14 =>
 ncK x0 fun x37 =>
 faK 2 x37 fun x38 =>
 stL 1 x38 x36 h14 fun h15 =>
 ld1 x32 h13 fun x39 => ifT (avEq x39 x33) <|
 ldN 3 x16 h15 fun x40 =>
 s55 [x40] h15 fun x41 h16 =>
 stL 3 x2 x41 h16 fun h17 =>
 ldN 3 x2 h17 fun x42 => k (.t [x42, (.i .i64 9223372036854775808)]) h17))))) args h
noncomputable def s33 : FS := S33 s55 s56 s57 s59 s58
noncomputable def a33 : Ann := (.s .o (.s (.s .o (.i (.s .o .o) .o)) (.s (.g [0, 1, 2, 3, 4, 5, 6, 7, 8, 9, 10, 11, 12, 13, 14]) (.s .o (.s (.b (.s .o (.i (.s .o .o) (.s .o (.i (.s .o .o) .o))))) (.s (.s .o (.s .o (.i (.s .o .o) .o))) (.s (.g [0, 1, 2, 3, 4, 5, 6, 7, 8, 9, 10]) (.s .o .o))))))))
set_option maxRecDepth 100000 in
noncomputable def S19 (s33 : FS) : FS := fun args h k => capp 2 (fun x0 x1 h0 =>
 boxK 51 3 z51 h0 fun x2 h1 =>
 npK .eql x0 .np fun x3 =>
 cdK x3 (
 blK [] Z51 fun x4 =>
 stL 3 x2 x4 h1 fun h2 =>
 ldN 3 x2 h2 fun x5 => k (.t [x5, (.i .i64 9223372036854775820)]) h2) (
 ncK x0 fun x6 =>
 faK 0 x6 fun x7 =>
 ld1 x7 h1 fun x8 =>
 s33 [x8, x1] h1 fun x9 h3 =>
 exK x9 0 fun x10 =>
 exK x9 1 fun x11 =>
 stL 3 x2 x10 h3 fun h4 =>
 ldN 3 x2 h4 fun x12 => k (.t [x12, x11]) h4)) args h
noncomputable def s19 : FS := S19 s33
noncomputable def a19 : Ann := (.s .o (.s (.s .o (.i (.s .o .o) .o)) (.s .o .o)))
set_option maxRecDepth 100000 in
noncomputable def S61 : FS := fun args h k => capp 2 (fun x0 x1 h0 =>
 npK .eql x0 .np fun x2 =>
 cdK x2 (
 k .np h0) (
 ncK x0 fun x3 =>
 faK 0 x3 fun x4 =>
 ld1 x4 h0 fun x5 =>
 lkK false false .np x5 x1 h0 fun x6 =>
 k x6 h0)) args h
noncomputable def s61 : FS := S61
noncomputable def a61 : Ann := (.s .o (.s (.s .o (.i (.s .o .o) .o)) (.s .o .o)))
set_option maxRecDepth 100000 in
noncomputable def S107 : FS := fun args h k => capp 1 (fun x0 h0 =>
 npK .eql x0 .np fun x1 =>
 cdK x1 (
 k .np h0) (
 ncK x0 fun x2 =>
 faK 1 x2 fun x3 =>
 ld1 x3 h0 fun x4 =>
 k x4 h0)) args h
noncomputable def s107 : FS := S107
noncomputable def a107 : Ann := (.s .o (.s (.s .o (.i (.s .o .o) .o)) (.s .o .o)))
set_option maxRecDepth 100000 in
noncomputable def S108 : FS := fun args h k => capp 1 (fun x0 h0 =>
 npK .eql x0 .np fun x1 =>
 cdK x1 (
 k .np h0) (
 ncK x0 fun x2 =>
 faK 3 x2 fun x3 =>
 ld1 x3 h0 fun x4 =>
 k x4 h0)) args h
noncomputable def s108 : FS := S108
noncomputable def a108 : Ann := (.s .o (.s (.s .o (.i (.s .o .o) .o)) (.s .o .o)))
set_option maxRecDepth 100000 in
noncomputable def S110 : FS := fun args h k => capp 1 (fun x0 h0 =>
 npK .eql x0 .np fun x1 =>
 cdK x1 (
 k (.i .i64 9223372036854775808) h0) (
 ncK x0 fun x2 =>
 faK 0 x2 fun x3 =>
 faK 0 x3 fun x4 =>
 ld1 x4 h0 fun x5 =>
 ikY .add x5 (.i .i64 9223372036854775809) fun x6 =>
 k x6 h0)) args h
noncomputable def s110 : FS := S110
noncomputable def a110 : Ann := (.s .o (.s (.s .o (.i (.s .o .o) .o)) (.s .o .o)))
set_option maxRecDepth 100000 in
noncomputable def S109 (s110 s91 s83 : FS) : FS := fun args h k => capp 3 (fun x0 x1 x2 h0 =>
 npK .eql x0 .np fun x3 =>
 gdK x3 false (fun k => k x1 h0) (fun x4 h1 =>
 gdK x3 false (fun k => k x0 h1) (fun x5 h2 =>
 gdK x3 false (fun k => s110 [x5] h2 k) (fun x6 h3 =>
 gdK x3 false (fun k => ikY .lss x4 x6 fun y => k y h3) (fun x7 h4 =>
 pkK x3 (.b true) x7 fun x8 =>
 gdK x8 false (fun k => k x1 h4) (fun x9 h5 =>
 gdK x8 false (fun k => k x0 h5) (fun x10 h6 =>
 gdK x8 false (fun k => s91 [x10] h6 k) (fun x11 h7 =>
 gdK x8 false (fun k => ikY .gtr x9 x11 fun y => k y h7) (fun x12 h8 =>
 pkK x8 (.b true) x12 fun x13 =>
 gdK x13 false (fun k => k x2 h8) (fun x14 h9 =>
 gdK x13 false (fun k => ikY .lss x14 (.i .i64 9223372036854775809) fun y => k y h9) (fun x15 h10 =>
 pkK x13 (.b true) x15 fun x16 =>
 cdK x16 (
 k .ns h10) (
 ncK x0 fun x17 =>
 faK 4 x17 fun x18 =>
 ld1 x18 h10 fun x19 =>
 s110 [x0] h10 fun x20 h11 =>
 ikY .sub x1 x20 fun x21 =>
 sllK 4 (some x21) none none x19 fun x22 =>
 ld1 x18 h11 fun x23 => ifT (avEq x23 x19) <|
 lnLY x22 fun x24 =>
 mmL mnK [x24] x2 fun x25 =>
 sllK 4 none (some x25) none x22 fun x26 =>
 s83 [x26] h11 fun x27 h12 =>
 k x27 h12)) h9) h8) h7) h6) h5) h4) h3) h2) h1) h0) args h
noncomputable def s109 : FS := S109 s110 s91 s83
noncomputable def a109 : Ann := (.s .o (.s (.s .o (.i (.s .o .o) .o)) (.s (.g [0, 1, 2, 3, 4, 5, 6, 7, 8, 9]) (.s .o .o))))
noncomputable def s111 : FS := sx
set_option maxRecDepth 100000 in
noncomputable def S60 (s61 s107 s108 s110 s109 s111 : FS) : FS := fun args h k => capp 1 (fun x0 h0 =>
 capp 2 (lp 2 fun (x1 : CT 2) x2 x3 h1 =>
 ikY .leq x3 (.i .i64 9223372036854775815) fun x4 =>
 cdK x4 (
 s61 [x2, x3] h1 fun x5 h2 =>
 npK .neq x5 .np fun x6 =>
 gdK x6 true (fun k => k x5 h2) (fun x7 h3 =>
 gdK x6 true (fun k => s107 [x7] h3 k) (fun x8 h4 =>
 gdK x6 true (fun k => s108 [x8] h4 k) (fun x9 h5 =>
 gdK x6 true (fun k => k x5 h5) (fun x10 h6 =>
 gdK x6 true (fun k => s107 [x10] h6 k) (fun x11 h7 =>
 gdK x6 true (fun k => s108 [x11] h7 k) (fun x12 h8 =>
 gdK x6 true (fun k => s110 [x12] h8 k) (fun x13 h9 =>
 gdK x6 true (fun k => s109 [x9, x13, (.i .i64 9223372036854776008)] h9 k) (fun x14 h10 =>
 gdK x6 true (fun k => lnLY x14 fun y => k y h10) (fun x15 h11 =>
 gdK x6 true (fun k => ikY .gtr x15 (.i .i64 9223372036854775908) fun y => k y h11) (fun x16 h12 =>
 pkK x6 x16 (.b false) fun x17 =>
 jn 2 (fun x18 : CT 2 =>
 cdK x17 (
 s111 [x5] h12 fun x19 h13 =>
 x18 x2 x3 h13) (
 x18 x2 x3 h12)) fun x20 x21 h14 =>
 ikY .add x21 (.i .i64 9223372036854775809) fun x22 =>
 x1 x20 x22 h14) h11) h10) h9) h8) h7) h6) h5) h4) h3) h2) (
 k (.t []) h1)) [x0, (.i .i64 9223372036854775809)] h0) args h
noncomputable def s60 : FS := S60 s61 s107 s108 s110 s109 s111
noncomputable def a60 : Ann := (.s .o (.b (.l [0, 2] (.s (.s .o (.i .o .o)) (.s (.b (.s .o (.s .o (.j [0, 2] .o .o)))) .o)))))
set_option maxRecDepth 100000 in
noncomputable def S112 : FS := fun args h k => capp 1 (fun x0 h0 =>
 npK .neq x0 .np fun x1 =>
 gdK x1 true (fun k => k x0 h0) (fun x2 h1 =>
 gdK x1 true (fun k => ncK x2 fun y => k y h1) (fun x3 h2 =>
 gdK x1 true (fun k => faK 3 x3 fun y => k y h2) (fun x4 h3 =>
 gdK x1 true (fun k => ld1 x4 h3 fun y => k y h3) (fun x5 h4 =>
 pkK x1 x5 (.b false) fun x6 =>
 k x6 h4) h3) h2) h1) h0) args h
noncomputable def s112 : FS := S112
noncomputable def a112 : Ann := (.s .o (.s .o .o))
set_option maxRecDepth 100000 in
noncomputable def S149 : FS := fun args h k => capp 1 (fun x0 h0 =>
 npK .eql x0 .np fun x1 =>
 gdK x1 false (fun k => k x0 h0) (fun x2 h1 =>
 gdK x1 false (fun k => ncK x2 fun y => k y h1) (fun x3 h2 =>
 gdK x1 false (fun k => faK 3 x3 fun y => k y h2) (fun x4 h3 =>
 gdK x1 false (fun k => ld1 x4 h3 fun y => k y h3) (fun x5 h4 =>
 pkK x1 (.b true) x5 fun x6 =>
 k x6 h4) h3) h2) h1) h0) args h
noncomputable def s149 : FS := S149
noncomputable def a149 : Ann := (.s .o (.s .o .o))
set_option maxRecDepth 100000 in
noncomputable def S198 (s42 : FS) : FS := fun args h k => capp 1 (fun x0 h0 =>
 lnSY x0 fun x1 =>
 capp 4 (lp 4 fun (x2 : CT 4) x3 x4 x5 x6 h1 =>
 ikY .lss x6 x5 fun x7 =>
 cdK x7 (
 ixK x3 x6 fun x8 =>
 ciY .i64 x8 fun x9 =>
 ikY .sub x9 (.i .i64 9223372036854775856) fun x10 =>
 bsK 3 1 1 1 [x10] h1 fun x11 h2 =>
 apY 3 1 x4 x11 h2 fun x12 h3 =>
 ikY .add x6 (.i .i64 9223372036854775809) fun x13 =>
 x2 x3 x12 x5 x13 h3) (
 s42 [x4] h1 fun x14 h4 =>
 notK x14 fun x15 =>
 cdK x15 (
 k (.t [.ns, (.b false)]) h4) (
 k (.t [x4, (.b true)]) h4))) [x0, .ns, x1, (.i .i64 9223372036854775808)] h0) args h
noncomputable def o198 : FS := S198 s42
noncomputable def s198 : FS := confF o198
noncomputable def a198 : Ann := (.s .o (.s .o (.s (.s .o (.b (.l [0, 4, 7, 8] (.s .o (.s (.i .o .o) (.s (.b (.s .o .o)) .o)))))) (.s (.s .o (.i (.s .o .o) .o)) (.s .o .o)))))
set_option maxRecDepth 100000 in
noncomputable def S179 (s91 s110 s198 : FS) : FS := fun args h k => capp 2 (fun x0 x1 h0 =>
 npK .eql x0 .np fun x2 =>
 cdK x2 (
 k (.t [.ns, (.i .i64 9223372036854775808)]) h0) (
 s91 [x0] h0 fun x3 h1 =>
 mmL mnK [x3] x1 fun x4 =>
 capp 2 (lp 2 fun (x5 : CT 2) x6 x7 h2 =>
 s110 [x6] h2 fun x8 h3 =>
 ikY .geq x7 x8 fun x9 =>
 cdK x9 (
 ncK x6 fun x10 =>
 faK 4 x10 fun x11 =>
 ld1 x11 h3 fun x12 =>
 s110 [x6] h3 fun x13 h4 =>
 ikY .sub x7 x13 fun x14 =>
 iaK 4 x12 x14 fun x15 =>
 ldN 4 x15 h4 fun x16 =>
 boxK 164 4 z164 h4 fun x17 h5 =>
 stL 4 x17 x16 h5 fun h6 =>
 ld1 x11 h4 fun x18 => ifT (avEq x18 x12) <|
 ld1 x11 h5 fun x19 => ifT (avEq x19 x12) <|
 ldN 4 x15 h5 fun x20 => ifT (avEq x20 x16) <|
 faK 3 x17 fun x21 =>
 ld1 x21 h6 fun x22 =>
 s198 [x22] h6 fun x23 h7 =>
 exK x23 0 fun x24 =>
 exK x23 1 fun x25 =>
 gdK x25 true (fun k => faK 2 x17 fun y => k y h7) (fun x26 h8 =>
 gdK x25 true (fun k => ld1 x26 h8 fun y => k y h8) (fun x27 h9 =>
 gdK x25 true (fun k => ikY .eql x27 (.i .i64 9223372036854775811) fun y => k y h9) (fun x28 h10 =>
 pkK x25 x28 (.b false) fun x29 =>
 cdK x29 (
 k (.t [x24, x7]) h10) (
 ikY .sub x7 (.i .i64 9223372036854775809) fun x30 =>
 x5 x6 x30 h10)) h9) h8) h7) (
 ncK x6 fun x31 =>
 faK 0 x31 fun x32 =>
 faK 2 x32 fun x33 =>
 ld1 x33 h3 fun x34 =>
 s198 [x34] h3 fun x35 h11 =>
 exK x35 0 fun x36 =>
 exK x35 1 fun x37 =>
 cdK x37 (
 ncK x6 fun x38 =>
 faK 0 x38 fun x39 =>
 faK 0 x39 fun x40 =>
 ld1 x40 h11 fun x41 =>
 k (.t [x36, x41]) h11) (
 k (.t [.ns, (.i .i64 9223372036854775808)]) h11))) [x0, x4] h1)) args h
noncomputable def s179 : FS := S179 s91 s110 s198
noncomputable def a179 : Ann := (.s .o (.s (.s .o (.i (.s .o .o) .o)) (.s (.s .o (.b (.l [0, 6] (.s (.s .o (.i .o .o)) (.s (.b (.s (.g [0, 1, 2, 3, 4, 5, 6, 7, 8, 9, 10, 11]) (.s .o (.s .o (.i (.s .o .o) .o))))) .o))))) (.s (.s .o (.s .o (.i (.s (.g [0, 1, 2, 3, 4, 5, 6, 7]) .o) .o))) (.s .o .o)))))
set_option maxRecDepth 100000 in
noncomputable def S187 (s91 s179 : FS) : FS := fun args h k => capp 1 (fun x0 h0 =>
 s91 [x0] h0 fun x1 h1 =>
 s179 [x0, x1] h1 fun x2 h2 =>
 exK x2 0 fun x3 =>
 exK x2 1 fun x4 =>
 k (.t [x3, x4]) h2) args h
noncomputable def s187 : FS := S187 s91 s179
noncomputable def a187 : Ann := (.s .o (.s .o .o))
set_option maxRecDepth 100000 in
noncomputable def S195 (s187 : FS) : FS := fun args h k => capp 1 (fun x0 h0 =>
 ncK x0 fun x1 =>
 faK 3 x1 fun x2 =>
 ld1 x2 h0 fun x3 =>
 s187 [x3] h0 fun x4 h1 =>
 exK x4 0 fun x5 =>
 exK x4 1 fun x6 =>
 lnLY x5 fun x7 =>
 capp 5 (lp 5 fun (x8 : CT 5) x9 x10 x11 x12 x13 h2 =>
 ikY .lss x13 x12 fun x14 =>
 cdK x14 (
 iaK 1 x11 x13 fun x15 =>
 ld1 x15 h2 fun x16 =>
 ncK x9 fun x17 =>
 faK 0 x17 fun x18 =>
 ld1 x18 h2 fun x19 =>
 ikY .neq x16 x19 fun x20 =>
 jn 5 (fun x21 : CT 5 =>
 cdK x20 (
 bsK 3 1 1 1 [x16] h2 fun x22 h3 =>
 apY 3 1 x10 x22 h3 fun x23 h4 =>
 x21 x9 x23 x11 x12 x13 h4) (
 x21 x9 x10 x11 x12 x13 h2)) fun x24 x25 x26 x27 x28 h5 =>
 ikY .add x28 (.i .i64 9223372036854775809) fun x29 =>
 x8 x24 x25 x26 x27 x29 h5) (
 k x10 h2)) [x0, .ns, x5, x7, (.i .i64 9223372036854775808)] h1) args h
noncomputable def s195 : FS := S195 s187
noncomputable def a195 : Ann := (.s .o (.s .o (.s .o (.s (.s .o (.b (.l [0, 5, 16, 17, 18] (.s .o (.s (.i .o .o) (.s (.b (.s .o (.s .o (.j [0, 5, 16, 17, 18] .o .o)))) .o)))))) (.s .o .o)))))
set_option maxRecDepth 100000 in
noncomputable def S269 : FS := fun args h k => capp 2 (fun x0 x1 h0 =>
 npK .neq x0 .np fun x2 =>
 gdK x2 true (fun k => k x1 h0) (fun x3 h1 =>
 gdK x2 true (fun k => ikY .geq x3 (.i .i64 9223372036854775809) fun y => k y h1) (fun x4 h2 =>
 pkK x2 x4 (.b false) fun x5 =>
 gdK x5 true (fun k => k x1 h2) (fun x6 h3 =>
 gdK x5 true (fun k => ikY .leq x6 (.i .i64 9223372036854775815) fun y => k y h3) (fun x7 h4 =>
 pkK x5 x7 (.b false) fun x8 =>
 k x8 h4) h3) h2) h1) h0) args h
noncomputable def s269 : FS := S269
noncomputable def a269 : Ann := (.s .o (.s .o .o))
set_option maxRecDepth 100000 in
noncomputable def S256 (s269 : FS) : FS := fun args h k => capp 2 (fun x0 x1 h0 =>
 s269 [x0, x1] h0 fun x2 h1 =>
 notK x2 fun x3 =>
 cdK x3 (
 k (.i .i64 9223372036854775808) h1) (
 ncK x0 fun x4 =>
 faK 0 x4 fun x5 =>
 iapK 8 1 x5 x1 fun x6 =>
 ld1 x6 h1 fun x7 =>
 k x7 h1)) args h
noncomputable def s256 : FS := S256 s269
noncomputable def a256 : Ann := (.s .o (.s (.s .o (.i (.s .o .o) .o)) (.s .o .o)))
set_option maxRecDepth 100000 in
noncomputable def S196 : FS := fun args h k => capp 2 (fun x0 x1 h0 =>
 boxK 233 13 x1 h0 fun x2 h1 =>
 ncK x0 fun x3 =>
 faK 0 x3 fun x4 =>
 ld1 x4 h1 fun x5 =>
 ncK x0 fun x6 =>
 faK 1 x6 fun x7 =>
 faK 0 x7 fun x8 =>
 ld1 x8 h1 fun x9 =>
 faK 1 x2 fun x10 =>
 stL 1 x10 x5 h1 fun h2 =>
 faK 3 x2 fun x11 =>
 stL 1 x11 x9 h2 fun h3 =>
 ld1 x8 h2 fun x12 => ifT (avEq x12 x9) <|
 ncK x0 fun x13 =>
 faK 10 x13 fun x14 =>
 faK 0 x14 fun x15 =>
 ld1 x15 h3 fun x16 =>
 ldN 13 x2 h3 fun x17 =>
 bsK 233 13 1 13 [x17] h3 fun x18 h4 =>
 apY 233 13 x16 x18 h4 fun x19 h5 =>
 ncK x0 fun x20 =>
 faK 10 x20 fun x21 =>
 faK 0 x21 fun x22 =>
 stL 1 x22 x19 h5 fun h6 =>
 ld1 x15 h4 fun x23 => ifT (avEq x23 x16) <|
 k (.t []) h6) args h
noncomputable def s196 : FS := S196
noncomputable def a196 : Ann := (.s .o (.s (.g [0, 1, 2, 3, 4, 5, 6, 7, 8, 9, 10, 11, 12]) (.g [0, 1, 2, 3, 4, 5, 6, 7, 8, 9, 10, 11, 12])))
set_option maxRecDepth 100000 in
noncomputable def S180 (s91 s110 : FS) : FS := fun args h k => capp 2 (fun x0 x1 h0 =>
 npK .eql x0 .np fun x2 =>
 gdK x2 false (fun k => k x1 h0) (fun x3 h1 =>
 gdK x2 false (fun k => k x0 h1) (fun x4 h2 =>
 gdK x2 false (fun k => ncK x4 fun y => k y h2) (fun x5 h3 =>
 gdK x2 false (fun k => faK 0 x5 fun y => k y h3) (fun x6 h4 =>
 gdK x2 false (fun k => faK 0 x6 fun y => k y h4) (fun x7 h5 =>
 gdK x2 false (fun k => ld1 x7 h5 fun y => k y h5) (fun x8 h6 =>
 gdK x2 false (fun k => ikY .lss x3 x8 fun y => k y h6) (fun x9 h7 =>
 pkK x2 (.b true) x9 fun x10 =>
 gdK x10 false (fun k => k x1 h7) (fun x11 h8 =>
 gdK x10 false (fun k => k x0 h8) (fun x12 h9 =>
 gdK x10 false (fun k => s91 [x12] h9 k) (fun x13 h10 =>
 gdK x10 false (fun k => ikY .gtr x11 x13 fun y => k y h10) (fun x14 h11 =>
 pkK x10 (.b true) x14 fun x15 =>
 cdK x15 (
 k (.t [(.i .i64 9223372036854775808), (.b false)]) h11) (
 ncK x0 fun x16 =>
 faK 0 x16 fun x17 =>
 faK 0 x17 fun x18 =>
 ld1 x18 h11 fun x19 =>
 ikY .eql x1 x19 fun x20 =>
 cdK x20 (
 ncK x0 fun x21 =>
 faK 0 x21 fun x22 =>
 faK 1 x22 fun x23 =>
 ld1 x23 h11 fun x24 =>
 k (.t [x24, (.b true)]) h11) (
 ncK x0 fun x25 =>
 faK 4 x25 fun x26 =>
 ld1 x26 h11 fun x27 =>
 s110 [x0] h11 fun x28 h12 =>
 ikY .sub x1 x28 fun x29 =>
 iaK 4 x27 x29 fun x30 =>
 faK 1 x30 fun x31 =>
 ld1 x31 h12 fun x32 =>
 ld1 x26 h12 fun x33 => ifT (avEq x33 x27) <|
 k (.t [x32, (.b true)]) h12))) h10) h9) h8) h7) h6) h5) h4) h3) h2) h1) h0) args h
noncomputable def s180 : FS := S180 s91 s110
noncomputable def a180 : Ann := (.s .o (.s (.b (.s .o (.i (.s .o .o) (.s .o (.i (.s .o .o) .o))))) (.s (.g [0, 1, 2, 3, 4, 5, 6, 7, 8, 9, 10, 11, 12]) .o)))
set_option maxRecDepth 100000 in
noncomputable def S268 : FS := fun args h k => capp 1 (fun x0 h0 =>
 ikY .geq x0 (.i .i64 9223372036854775808) fun x1 =>
 gdK x1 true (fun k => k x0 h0) (fun x2 h1 =>
 gdK x1 true (fun k => ikY .leq x2 (.i .i64 9223373136366403584) fun y => k y h1) (fun x3 h2 =>
 pkK x1 x3 (.b false) fun x4 =>
 k x4 h2) h1) h0) args h
noncomputable def s268 : FS := S268
noncomputable def a268 : Ann := (.s .o (.s .o .o))
set_option maxRecDepth 100000 in
noncomputable def S266 (s269 s268 : FS) : FS := fun args h k => capp 3 (fun x0 x1 x2 h0 =>
 s269 [x0, x1] h0 fun x3 h1 =>
 gdK x3 true (fun k => k x2 h1) (fun x4 h2 =>
 gdK x3 true (fun k => s268 [x4] h2 k) (fun x5 h3 =>
 pkK x3 x5 (.b false) fun x6 =>
 cdK x6 (
 ncK x0 fun x7 =>
 faK 0 x7 fun x8 =>
 iapK 8 1 x8 x1 fun x9 =>
 ld1 x9 h3 fun x10 =>
 ikY .add x2 (.i .i64 9223372036854775809) fun x11 =>
 mmL mxK [x11] x10 fun x12 =>
 ncK x0 fun x13 =>
 faK 0 x13 fun x14 =>
 iapK 8 1 x14 x1 fun x15 =>
 stL 1 x15 x12 h3 fun h4 =>
 k (.t []) h4) (
 k (.t []) h3)) h2) h1) args h
noncomputable def s266 : FS := S266 s269 s268
noncomputable def a266 : Ann := (.s .o (.i (.g [0, 1, 2, 3, 4, 5, 6, 7, 8, 9, 10, 11, 12, 13, 14]) .o))
def Z233 : List AV := [(.i .i64 9223372036854775808), (.i .i64 9223372036854775808), (.i .i64 9223372036854775808), (.i .i64 9223372036854775808), (.i .i64 9223372036854775808), (.i .i64 9223372036854775808), (.i .i64 9223372036854775808), (.b false), .ns, (.i .i64 9223372036854775808), (.i .i64 9223372036854775808), (.s 0 []), (.s 0 [])]
def z233 : AV := .a Z233
set_option maxRecDepth 100000 in
noncomputable def S240 (s256 s110 s90 s196 s180 s109 s266 : FS) : FS := fun args h k => capp 2 (fun x0 x1 h0 =>
 ncK x0 fun x2 =>
 faK 9 x2 fun x3 =>
 ld1 x3 h0 fun x4 =>
 s256 [x4, x1] h0 fun x5 h1 =>
 ncK x0 fun x6 =>
 faK 3 x6 fun x7 =>
 ld1 x7 h1 fun x8 =>
 s110 [x8] h1 fun x9 h2 =>
 ikY .lss x5 x9 fun x10 =>
 cdK x10 (
 ncK x0 fun x11 =>
 faK 3 x11 fun x12 =>
 ld1 x12 h2 fun x13 =>
 s90 [x13] h2 fun x14 h3 =>
 blK [(0, 1, (.i .i64 9223372036854775813)), (2, 1, x1), (9, 4, x14)] Z233 fun x15 =>
 s196 [x0, x15] h3 fun x16 h4 =>
 k (.t []) h4) (
 ncK x0 fun x17 =>
 faK 3 x17 fun x18 =>
 ld1 x18 h2 fun x19 =>
 ikY .sub x5 (.i .i64 9223372036854775809) fun x20 =>
 s180 [x19, x20] h2 fun x21 h5 =>
 exK x21 0 fun x22 =>
 exK x21 1 fun x23 =>
 ikY .sub x5 (.i .i64 9223372036854775809) fun x24 =>
 ncK x0 fun x25 =>
 faK 3 x25 fun x26 =>
 ld1 x26 h5 fun x27 =>
 ncK x0 fun x28 =>
 faK 4 x28 fun x29 =>
 ld1 x29 h5 fun x30 =>
 s109 [x27, x5, (.i .i64 9223372036854775816)] h5 fun x31 h6 =>
 blK [(0, 1, (.i .i64 9223372036854775811)), (2, 1, x1), (4, 1, x24), (5, 1, x22), (8, 1, x31), (6, 1, x30)] Z233 fun x32 =>
 boxK 233 13 z233 h6 fun x33 h7 =>
 stL 13 x33 x32 h7 fun h8 =>
 ld1 x29 h6 fun x34 => ifT (avEq x34 x30) <|
 ld1 x29 h7 fun x35 => ifT (avEq x35 x30) <|
 ncK x0 fun x36 =>
 faK 9 x36 fun x37 =>
 ld1 x37 h8 fun x38 =>
 ikY .sub x5 (.i .i64 9223372036854775809) fun x39 =>
 faK 8 x33 fun x40 =>
 ld1 x40 h8 fun x41 =>
 lnLY x41 fun x42 =>
 ikY .add x39 x42 fun x43 =>
 s266 [x38, x1, x43] h8 fun x44 h9 =>
 ldN 13 x33 h9 fun x45 =>
 s196 [x0, x45] h9 fun x46 h10 =>
 k (.t []) h10)) args h
noncomputable def s240 : FS := S240 s256 s110 s90 s196 s180 s109 s266
noncomputable def a240 : Ann := (.s .o (.s (.s .o (.i (.s .o .o) .o)) (.s .o (.s (.g [0, 1, 2, 3, 4, 5, 6, 7, 8, 10, 11, 12, 13, 9, 14, 15, 16]) (.s (.g [0, 1, 2, 3, 4, 5, 6, 7, 8, 9, 10, 11]) .o)))))
set_option maxRecDepth 100000 in
noncomputable def S188 (s195 s240 : FS) : FS := fun args h k => capp 1 (fun x0 h0 =>
 ncK x0 fun x1 =>
 faK 5 x1 fun x2 =>
 ld1 x2 h0 fun x3 =>
 ikY .neq x3 (.i .i64 9223372036854775810) fun x4 =>
 cdK x4 (
 k (.t []) h0) (
 s195 [x0] h0 fun x5 h1 =>
 lnLY x5 fun x6 =>
 capp 4 (lp 4 fun (x7 : CT 4) x8 x9 x10 x11 h2 =>
 ikY .lss x11 x10 fun x12 =>
 cdK x12 (
 iaK 1 x9 x11 fun x13 =>
 ld1 x13 h2 fun x14 =>
 s240 [x8, x14] h2 fun x15 h3 =>
 ikY .add x11 (.i .i64 9223372036854775809) fun x16 =>
 x7 x8 x9 x10 x16 h3) (
 k (.t []) h2)) [x0, x5, x6, (.i .i64 9223372036854775808)] h1)) args h
noncomputable def s188 : FS := S188 s195 s240
noncomputable def a188 : Ann := (.s (.s .o (.i .o .o)) (.s .o (.b (.l [0, 10, 11, 12] (.s .o (.s (.i .o .o) (.s (.b (.s .o .o)) .o)))))))
set_option maxRecDepth 100000 in
noncomputable def S267 : FS := fun args h k => capp 2 (fun x0 x1 h0 =>
 lnLY x0 fun x2 =>
 capp 4 (lp 4 fun (x3 : CT 4) x4 x5 x6 x7 h1 =>
 ikY .lss x7 x6 fun x8 =>
 cdK x8 (
 iaK 1 x4 x7 fun x9 =>
 ld1 x9 h1 fun x10 =>
 ikY .eql x5 x10 fun x11 =>
 cdK x11 (
 k x7 h1) (
 ikY .add x7 (.i .i64 9223372036854775809) fun x12 =>
 x3 x4 x5 x6 x12 h1)) (
 k (.i .i64 9223372036854775807) h1)) [x0, x1, x2, (.i .i64 9223372036854775808)] h0) args h
noncomputable def s267 : FS := S267
noncomputable def a267 : Ann := (.s .o (.s (.s .o (.b (.l [0, 1, 7, 8] (.s .o (.s (.i .o .o) (.s (.b (.s .o (.s .o (.i (.s .o .o) .o)))) .o)))))) (.s .o .o)))
set_option maxRecDepth 100000 in
noncomputable def S241 (s267 : FS) : FS := fun args h k => capp 2 (fun x0 x1 h0 =>
 s267 [x0, x1] h0 fun x2 h1 =>
 ikY .geq x2 (.i .i64 9223372036854775808) fun x3 =>
 k x3 h1) args h
noncomputable def s241 : FS := S241 s267
noncomputable def a241 : Ann := (.s .o (.s .o .o))
set_option maxRecDepth 100000 in
noncomputable def S189 (s241 : FS) : FS := fun args h k => capp 2 (fun x0 x1 h0 =>
 s241 [x0, x1] h0 fun x2 h1 =>
 k x2 h1) args h
noncomputable def s189 : FS := S189 s241
noncomputable def a189 : Ann := (.s .o (.s .o .o))
set_option maxRecDepth 100000 in
noncomputable def S190 : FS := fun args h k => capp 2 (fun x0 x1 h0 =>
 boxK 126 2 x1 h0 fun x2 h1 =>
 ncK x0 fun x3 =>
 faK 10 x3 fun x4 =>
 faK 1 x4 fun x5 =>
 ld1 x5 h1 fun x6 =>
 gdK x6 false (fun k => ldN 2 x2 h1 fun y => k y h1) (fun x7 h2 =>
 gdK x6 false (fun k => k x0 h2) (fun x8 h3 =>
 gdK x6 false (fun k => ncK x8 fun y => k y h3) (fun x9 h4 =>
 gdK x6 false (fun k => faK 1 x9 fun y => k y h4) (fun x10 h5 =>
 gdK x6 false (fun k => ldN 2 x10 h5 fun y => k y h5) (fun x11 h6 =>
 gdK x6 false (fun k => sqA .neq 126 x7 x11 fun y => k y h6) (fun x12 h7 =>
 pkK x6 (.b true) x12 fun x13 =>
 ncK x0 fun x14 =>
 faK 10 x14 fun x15 =>
 faK 1 x15 fun x16 =>
 stL 1 x16 x13 h7 fun h8 =>
 ldN 2 x2 h8 fun x17 =>
 ncK x0 fun x18 =>
 faK 1 x18 fun x19 =>
 stL 2 x19 x17 h8 fun h9 =>
 k (.t []) h9) h6) h5) h4) h3) h2) h1) args h
noncomputable def s190 : FS := S190
noncomputable def a190 : Ann := (.s .o (.s (.g [0, 1, 2, 3, 4, 5, 6, 7, 8, 9, 10, 11, 12, 13, 14, 15, 16, 17]) .o))
set_option maxRecDepth 100000 in
noncomputable def S242 : FS := fun args h k => capp 1 (fun x0 h0 =>
 nsK .eql x0 .ns fun x1 =>
 cdK x1 (
 k .ns h0) (
 bsK 3 1 0 0 [] h0 fun x2 h1 =>
 apY 3 1 x2 x0 h1 fun x3 h2 =>
 k x3 h2)) args h
noncomputable def s242 : FS := S242
noncomputable def a242 : Ann := (.s .o (.s (.s .o (.i (.s .o .o) .o)) (.s .o .o)))
def Z333 : List AV := [.ns, .ns, .ns]
def z333 : AV := .a Z333
set_option maxRecDepth 100000 in
noncomputable def S191 (s42 s242 : FS) : FS := fun args h k => capp 1 (fun x0 h0 =>
 s42 [x0] h0 fun x1 h1 =>
 notK x1 fun x2 =>
 jn 1 (fun x3 : CT 1 =>
 cdK x2 (
 x3 .ns h1) (
 x3 x0 h1)) fun x4 h2 =>
 s242 [x4] h2 fun x5 h3 =>
 blK [(0, 1, x5)] Z333 fun x6 =>
 boxK 333 3 x6 h3 fun x7 h4 =>
 k x7 h4) args h
noncomputable def s191 : FS := S191 s42 s242
noncomputable def a191 : Ann := (.s .o (.s (.s .o (.j [0] .o .o)) (.s .o .o)))
set_option maxRecDepth 100000 in
noncomputable def S243 (s189 : FS) : FS := fun args h k => capp 2 (fun x0 x1 h0 =>
 npK .neq x0 .np fun x2 =>
 gdK x2 true (fun k => k x0 h0) (fun x3 h1 =>
 gdK x2 true (fun k => ncK x3 fun y => k y h1) (fun x4 h2 =>
 gdK x2 true (fun k => faK 0 x4 fun y => k y h2) (fun x5 h3 =>
 gdK x2 true (fun k => ld1 x5 h3 fun y => k y h3) (fun x6 h4 =>
 gdK x2 true (fun k => k x1 h4) (fun x7 h5 =>
 gdK x2 true (fun k => s189 [x6, x7] h5 k) (fun x8 h6 =>
 pkK x2 x8 (.b false) fun x9 =>
 gdK x9 true (fun k => k x0 h6) (fun x10 h7 =>
 gdK x9 true (fun k => ncK x10 fun y => k y h7) (fun x11 h8 =>
 gdK x9 true (fun k => faK 1 x11 fun y => k y h8) (fun x12 h9 =>
 gdK x9 true (fun k => ld1 x12 h9 fun y => k y h9) (fun x13 h10 =>
 gdK x9 true (fun k => k x1 h10) (fun x14 h11 =>
 gdK x9 true (fun k => s189 [x13, x14] h11 k) (fun x15 h12 =>
 gdK x9 true (fun k => notK x15 fun y => k y h12) (fun x16 h13 =>
 pkK x9 x16 (.b false) fun x17 =>
 gdK x17 true (fun k => k x0 h13) (fun x18 h14 =>
 gdK x17 true (fun k => ncK x18 fun y => k y h14) (fun x19 h15 =>
 gdK x17 true (fun k => faK 2 x19 fun y => k y h15) (fun x20 h16 =>
 gdK x17 true (fun k => ld1 x20 h16 fun y => k y h16) (fun x21 h17 =>
 gdK x17 true (fun k => k x1 h17) (fun x22 h18 =>
 gdK x17 true (fun k => s189 [x21, x22] h18 k) (fun x23 h19 =>
 gdK x17 true (fun k => notK x23 fun y => k y h19) (fun x24 h20 =>
 pkK x17 x24 (.b false) fun x25 =>
 k x25 h20) h19) h18) h17) h16) h15) h14) h13) h12) h11) h10) h9) h8) h7) h6) h5) h4) h3) h2) h1) h0) args h
noncomputable def s243 : FS := S243 s189
noncomputable def a243 : Ann := (.s .o (.s .o .o))
set_option maxRecDepth 100000 in
noncomputable def S192 (s243 : FS) : FS := fun args h k => capp 2 (fun x0 x1 h0 =>
 s243 [x0, x1] h0 fun x2 h1 =>
 notK x2 fun x3 =>
 cdK x3 (
 k (.b false) h1) (
 ncK x0 fun x4 =>
 faK 1 x4 fun x5 =>
 ld1 x5 h1 fun x6 =>
 bsK 3 1 1 1 [x1] h1 fun x7 h2 =>
 apY 3 1 x6 x7 h2 fun x8 h3 =>
 ncK x0 fun x9 =>
 faK 1 x9 fun x10 =>
 stL 1 x10 x8 h3 fun h4 =>
 k (.b true) h4)) args h
noncomputable def s192 : FS := S192 s243
noncomputable def a192 : Ann := (.s .o (.s (.s .o (.i (.s .o .o) .o)) (.s .o (.s .o .o))))
set_option maxRecDepth 100000 in
noncomputable def S244 (s189 s42 : FS) : FS := fun args h k => capp 2 (fun x0 x1 h0 =>
 lnLY x0 fun x2 =>
 capp 6 (lp 6 fun (x3 : CT 6) x4 x5 x6 x7 x8 x9 h1 =>
 ikY .lss x9 x8 fun x10 =>
 cdK x10 (
 iaK 1 x7 x9 fun x11 =>
 ld1 x11 h1 fun x12 =>
 s189 [x5, x12] h1 fun x13 h2 =>
 jn 6 (fun x14 : CT 6 =>
 cdK x13 (
 ikY .add x6 (.i .i64 9223372036854775809) fun x15 =>
 x14 x4 x5 x15 x7 x8 x9 h2) (
 x14 x4 x5 x6 x7 x8 x9 h2)) fun x16 x17 x18 x19 x20 x21 h3 =>
 ikY .add x21 (.i .i64 9223372036854775809) fun x22 =>
 x3 x16 x17 x18 x19 x20 x22 h3) (
 s42 [x4] h1 fun x23 h4 =>
 gdK x23 true (fun k => k x6 h4) (fun x24 h5 =>
 gdK x23 true (fun k => ikY .mul (.i .i64 9223372036854775810) x24 fun y => k y h5) (fun x25 h6 =>
 gdK x23 true (fun k => k x4 h6) (fun x26 h7 =>
 gdK x23 true (fun k => lnLY x26 fun y => k y h7) (fun x27 h8 =>
 gdK x23 true (fun k => ikY .gtr x25 x27 fun y => k y h8) (fun x28 h9 =>
 pkK x23 x28 (.b false) fun x29 =>
 k x29 h9) h8) h7) h6) h5) h4)) [x0, x1, (.i .i64 9223372036854775808), x0, x2, (.i .i64 9223372036854775808)] h0) args h
noncomputable def s244 : FS := S244 s189 s42
noncomputable def a244 : Ann := (.s .o (.s .o (.s (.s .o (.b (.l [0, 1, 5, 8, 9, 10] (.s .o (.s (.i .o .o) (.s (.b (.s .o (.s .o (.j [0, 1, 5, 8, 9, 10] .o .o)))) .o)))))) (.s .o .o))))
set_option maxRecDepth 100000 in
noncomputable def S193 (s244 : FS) : FS := fun args h k => capp 1 (fun x0 h0 =>
 npK .neq x0 .np fun x1 =>
 gdK x1 true (fun k => k x0 h0) (fun x2 h1 =>
 gdK x1 true (fun k => ncK x2 fun y => k y h1) (fun x3 h2 =>
 gdK x1 true (fun k => faK 0 x3 fun y => k y h2) (fun x4 h3 =>
 gdK x1 true (fun k => ld1 x4 h3 fun y => k y h3) (fun x5 h4 =>
 gdK x1 true (fun k => k x0 h4) (fun x6 h5 =>
 gdK x1 true (fun k => ncK x6 fun y => k y h5) (fun x7 h6 =>
 gdK x1 true (fun k => faK 1 x7 fun y => k y h6) (fun x8 h7 =>
 gdK x1 true (fun k => ld1 x8 h7 fun y => k y h7) (fun x9 h8 =>
 gdK x1 true (fun k => s244 [x5, x9] h8 k) (fun x10 h9 =>
 pkK x1 x10 (.b false) fun x11 =>
 k x11 h9) h8) h7) h6) h5) h4) h3) h2) h1) h0) args h
noncomputable def s193 : FS := S193 s244
noncomputable def a193 : Ann := (.s .o (.s (.g [0, 1, 2, 3, 4, 5, 6, 7, 8, 9, 10, 11, 12, 13]) .o))
def Z353 : List AV := [(.i .i64 9223372036854775808), (.i .i64 9223372036854775808), (.i .i64 9223372036854775808), (.i .i64 9223372036854775808), (.i .i64 9223372036854775808), (.i .i64 9223372036854775808), (.i .i64 9223372036854775808), (.i .i64 9223372036854775808), (.i .i64 9223372036854775808), (.i .i64 9223372036854775808), (.i .i64 9223372036854775808), (.i .i64 9223372036854775808), (.i .i64 9223372036854775808), (.i .i64 9223372036854775808), (.i .i64 9223372036854775808), (.i .i64 9223372036854775808)]
def z353 : AV := .a Z353
set_option maxRecDepth 100000 in
noncomputable def S245 (s268 : FS) : FS := fun args h k => capp 1 (fun x0 h0 =>
 s268 [x0] h0 fun x1 h1 =>
 notK x1 fun x2 =>
 jn 1 (fun x3 : CT 1 =>
 cdK x2 (
 x3 (.i .i64 9223372036854775808) h1) (
 x3 x0 h1)) fun x4 h2 =>
 blK [] Z353 fun x5 =>
 boxK 353 16 x5 h2 fun x6 h3 =>
 capp 3 (lp 3 fun (x7 : CT 3) x8 x9 x10 h4 =>
 ikY .lss x10 (.i .i64 9223372036854775816) fun x11 =>
 cdK x11 (
 ikY .add x8 (.i .i64 9223372036854775809) fun x12 =>
 ncK x9 fun x13 =>
 faK 0 x13 fun x14 =>
 iapK 8 1 x14 x10 fun x15 =>
 stL 1 x15 x12 h4 fun h5 =>
 ikY .add x10 (.i .i64 9223372036854775809) fun x16 =>
 x7 x8 x9 x16 h5) (
 k x9 h4)) [x4, x6, (.i .i64 9223372036854775808)] h3) args h
noncomputable def s245 : FS := S245 s268
noncomputable def a245 : Ann := (.s .o (.s (.s .o (.j [0] .o .o)) (.s .o (.s (.s .o (.b (.l [0, 3, 10] (.s .o (.s (.i .o .o) (.s (.b (.s .o .o)) .o)))))) (.s .o .o)))))
set_option maxRecDepth 100000 in
noncomputable def S200 (s180 : FS) : FS := fun args h k => capp 3 (fun x0 x1 x2 h0 =>
 s180 [x0, x1] h0 fun x3 h1 =>
 exK x3 0 fun x4 =>
 exK x3 1 fun x5 =>
 gdK x5 true (fun k => k x4 h1) (fun x6 h2 =>
 gdK x5 true (fun k => k x2 h2) (fun x7 h3 =>
 gdK x5 true (fun k => ikY .eql x6 x7 fun y => k y h3) (fun x8 h4 =>
 pkK x5 x8 (.b false) fun x9 =>
 k x9 h4) h3) h2) h1) args h
noncomputable def s200 : FS := S200 s180
noncomputable def a200 : Ann := (.s .o (.s .o (.s .o .o)))
set_option maxRecDepth 100000 in
noncomputable def S247 (s91 s93 s200 s110 s180 : FS) : FS := fun args h k => capp 2 (fun x0 x1 h0 =>
 npK .eql x0 .np fun x2 =>
 cdK x2 (
 k (.t [(.i .i64 9223372036854775808), (.b false)]) h0) (
 lnLY x1 fun x3 =>
 ikY .eql x3 (.i .i64 9223372036854775808) fun x4 =>
 cdK x4 (
 k (.t [(.i .i64 9223372036854775808), (.b true)]) h0) (
 iaK 4 x1 (.i .i64 9223372036854775808) fun x5 =>
 faK 0 x5 fun x6 =>
 ld1 x6 h0 fun x7 =>
 s91 [x0] h0 fun x8 h1 =>
 ikY .add x8 (.i .i64 9223372036854775809) fun x9 =>
 ikY .gtr x7 x9 fun x10 =>
 gdK x10 false (fun k => k x1 h1) (fun x11 h2 =>
 gdK x10 false (fun k => iaK 4 x11 (.i .i64 9223372036854775808) fun y => k y h2) (fun x12 h3 =>
 gdK x10 false (fun k => faK 0 x12 fun y => k y h3) (fun x13 h4 =>
 gdK x10 false (fun k => ld1 x13 h4 fun y => k y h4) (fun x14 h5 =>
 gdK x10 false (fun k => ikY .sub x14 (.i .i64 9223372036854775809) fun y => k y h5) (fun x15 h6 =>
 gdK x10 false (fun k => k x1 h6) (fun x16 h7 =>
 gdK x10 false (fun k => iaK 4 x16 (.i .i64 9223372036854775808) fun y => k y h7) (fun x17 h8 =>
 gdK x10 false (fun k => faK 1 x17 fun y => k y h8) (fun x18 h9 =>
 gdK x10 false (fun k => ld1 x18 h9 fun y => k y h9) (fun x19 h10 =>
 gdK x10 false (fun k => k x1 h10) (fun x20 h11 =>
 gdK x10 false (fun k => s93 [x15, x19, x20] h11 k) (fun x21 h12 =>
 gdK x10 false (fun k => notK x21 fun y => k y h12) (fun x22 h13 =>
 pkK x10 (.b true) x22 fun x23 =>
 ld1 x6 h1 fun x24 => ifT (avEq x24 x7) <|
 cdK x23 (
 k (.t [(.i .i64 9223372036854775808), (.b false)]) h13) (
 capp 2 (lp 2 fun (x25 : CT 2) x26 x27 h14 =>
 lnLY x27 fun x28 =>
 ikY .gtr x28 (.i .i64 9223372036854775808) fun x29 =>
 gdK x29 true (fun k => k x27 h14) (fun x30 h15 =>
 gdK x29 true (fun k => iaK 4 x30 (.i .i64 9223372036854775808) fun y => k y h15) (fun x31 h16 =>
 gdK x29 true (fun k => faK 0 x31 fun y => k y h16) (fun x32 h17 =>
 gdK x29 true (fun k => ld1 x32 h17 fun y => k y h17) (fun x33 h18 =>
 gdK x29 true (fun k => k x26 h18) (fun x34 h19 =>
 gdK x29 true (fun k => ncK x34 fun y => k y h19) (fun x35 h20 =>
 gdK x29 true (fun k => faK 0 x35 fun y => k y h20) (fun x36 h21 =>
 gdK x29 true (fun k => faK 0 x36 fun y => k y h21) (fun x37 h22 =>
 gdK x29 true (fun k => ld1 x37 h22 fun y => k y h22) (fun x38 h23 =>
 gdK x29 true (fun k => ikY .leq x33 x38 fun y => k y h23) (fun x39 h24 =>
 gdK x29 true (fun k => k x39 h24) (fun x40 h25 =>
 gdK x40 false (fun k => k x26 h25) (fun x41 h26 =>
 gdK x40 false (fun k => k x27 h26) (fun x42 h27 =>
 gdK x40 false (fun k => iaK 4 x42 (.i .i64 9223372036854775808) fun y => k y h27) (fun x43 h28 =>
 gdK x40 false (fun k => faK 0 x43 fun y => k y h28) (fun x44 h29 =>
 gdK x40 false (fun k => ld1 x44 h29 fun y => k y h29) (fun x45 h30 =>
 gdK x40 false (fun k => k x27 h30) (fun x46 h31 =>
 gdK x40 false (fun k => iaK 4 x46 (.i .i64 9223372036854775808) fun y => k y h31) (fun x47 h32 =>
 gdK x40 false (fun k => faK 1 x47 fun y => k y h32) (fun x48 h33 =>
 gdK x40 false (fun k => ld1 x48 h33 fun y => k y h33) (fun x49 h34 =>
 gdK x40 false (fun k => s200 [x41, x45, x49] h34 k) (fun x50 h35 =>
 gdK x29 true (fun k => pkK x40 (.b true) x50 fun y => k y h35) (fun x51 h36 =>
 pkK x29 x51 (.b false) fun x52 =>
 cdK x52 (
 sllK 4 (some (.i .i64 9223372036854775809)) none none x27 fun x53 =>
 x25 x26 x53 h36) (
 lnLY x27 fun x54 =>
 ikY .eql x54 (.i .i64 9223372036854775808) fun x55 =>
 cdK x55 (
 k (.t [(.i .i64 9223372036854775808), (.b true)]) h36) (
 iaK 4 x27 (.i .i64 9223372036854775808) fun x56 =>
 faK 0 x56 fun x57 =>
 ld1 x57 h36 fun x58 =>
 s110 [x26] h36 fun x59 h37 =>
 ikY .sub x58 x59 fun x60 =>
 ikY .sub x58 (.i .i64 9223372036854775809) fun x61 =>
 s180 [x26, x61] h37 fun x62 h38 =>
 exK x62 0 fun x63 =>
 exK x62 1 fun x64 =>
 iaK 4 x27 (.i .i64 9223372036854775808) fun x65 =>
 faK 1 x65 fun x66 =>
 ld1 x66 h38 fun x67 =>
 ikY .lss x67 x63 fun x68 =>
 gdK x68 false (fun k => k x60 h38) (fun x69 h39 =>
 gdK x68 false (fun k => k x27 h39) (fun x70 h40 =>
 gdK x68 false (fun k => lnLY x70 fun y => k y h40) (fun x71 h41 =>
 gdK x68 false (fun k => ikY .add x69 x71 fun y => k y h41) (fun x72 h42 =>
 gdK x68 false (fun k => ikY .gtr x72 (.i .i64 9223372036854776008) fun y => k y h42) (fun x73 h43 =>
 pkK x68 (.b true) x73 fun x74 =>
 cdK x74 (
 k (.t [(.i .i64 9223372036854775808), (.b false)]) h43) (
 ncK x26 fun x75 =>
 faK 4 x75 fun x76 =>
 ld1 x76 h43 fun x77 =>
 sllK 4 none (some x60) (some x60) x77 fun x78 =>
 apY 164 4 x78 x27 h43 fun x79 h44 =>
 ncK x26 fun x80 =>
 faK 4 x80 fun x81 =>
 stL 1 x81 x79 h44 fun h45 =>
 k (.t [x58, (.b true)]) h45)) h42) h41) h40) h39) h38))) h35) h34) h33) h32) h31) h30) h29) h28) h27) h26) h25) h24) h23) h22) h21) h20) h19) h18) h17) h16) h15) h14) [x0, x1] h13)) h12) h11) h10) h9) h8) h7) h6) h5) h4) h3) h2) h1))) args h
noncomputable def s247 : FS := S247 s91 s93 s200 s110 s180
noncomputable def a247 : Ann := (.s .o (.s (.s .o (.i (.s .o .o) .o)) (.s (.s .o (.i (.s .o .o) .o)) (.s (.s (.g [0, 1, 2, 3, 4, 5, 6, 7, 8, 9, 10, 11, 12, 13, 14, 15, 16, 17, 18, 19, 20, 21]) (.i (.s .o .o) .o)) (.s (.b (.l [0, 1] (.s (.s (.g [0, 1, 2, 3, 4, 5, 6, 7, 8, 9, 10, 11, 12, 13, 14, 15, 16, 17, 18, 19, 20, 21, 22, 23, 24, 25, 26]) (.i .o .o)) (.b .o)))) (.s (.s .o (.i (.s .o .o) .o)) (.s .o (.s .o (.s (.s .o (.s .o (.i (.s .o .o) .o))) (.s .o (.s .o .o)))))))))))
set_option maxRecDepth 100000 in
noncomputable def S246 : FS := fun args h k => capp 3 (fun x0 x1 x2 h0 =>
 ikY .gtr x1 (.i .i64 9223372036854775808) fun x3 =>
 gdK x3 true (fun k => k x0 h0) (fun x4 h1 =>
 gdK x3 true (fun k => ncK x4 fun y => k y h1) (fun x5 h2 =>
 gdK x3 true (fun k => faK 10 x5 fun y => k y h2) (fun x6 h3 =>
 gdK x3 true (fun k => faK 2 x6 fun y => k y h3) (fun x7 h4 =>
 gdK x3 true (fun k => ld1 x7 h4 fun y => k y h4) (fun x8 h5 =>
 gdK x3 true (fun k => ikY .eql x8 (.i .i64 9223372036854775808) fun y => k y h5) (fun x9 h6 =>
 gdK x3 true (fun k => k x9 h6) (fun x10 h7 =>
 gdK x10 false (fun k => k x1 h7) (fun x11 h8 =>
 gdK x10 false (fun k => k x0 h8) (fun x12 h9 =>
 gdK x10 false (fun k => ncK x12 fun y => k y h9) (fun x13 h10 =>
 gdK x10 false (fun k => faK 10 x13 fun y => k y h10) (fun x14 h11 =>
 gdK x10 false (fun k => faK 2 x14 fun y => k y h11) (fun x15 h12 =>
 gdK x10 false (fun k => ld1 x15 h12 fun y => k y h12) (fun x16 h13 =>
 gdK x10 false (fun k => ikY .lss x11 x16 fun y => k y h13) (fun x17 h14 =>
 gdK x3 true (fun k => pkK x10 (.b true) x17 fun y => k y h14) (fun x18 h15 =>
 pkK x3 x18 (.b false) fun x19 =>
 jn 1 (fun x20 : CT 1 =>
 cdK x19 (
 ncK x0 fun x21 =>
 faK 10 x21 fun x22 =>
 faK 2 x22 fun x23 =>
 stL 1 x23 x1 h15 fun h16 =>
 x20 x2 h16) (
 x20 x2 h15)) fun x24 h17 =>
 k x24 h17) h14) h13) h12) h11) h10) h9) h8) h7) h6) h5) h4) h3) h2) h1) h0) args h
noncomputable def s246 : FS := S246
noncomputable def a246 : Ann := (.s .o (.s (.s .o (.j [2] .o .o)) (.s .o .o)))
set_option maxRecDepth 100000 in
noncomputable def S201 (s91 s247 s246 : FS) : FS := fun args h k => capp 3 (fun x0 x1 x2 h0 =>
 ncK x0 fun x3 =>
 faK 3 x3 fun x4 =>
 ld1 x4 h0 fun x5 =>
 s91 [x5] h0 fun x6 h1 =>
 ikY .add x6 (.i .i64 9223372036854775809) fun x7 =>
 ncK x0 fun x8 =>
 faK 3 x8 fun x9 =>
 ld1 x9 h1 fun x10 =>
 ncK x0 fun x11 =>
 faK 1 x11 fun x12 =>
 faK 0 x12 fun x13 =>
 ld1 x13 h1 fun x14 =>
 blK [(0, 1, x7), (1, 1, x14), (2, 1, x1), (3, 1, x2)] Z164 fun x15 =>
 bsK 164 4 1 4 [x15] h1 fun x16 h2 =>
 s247 [x10, x16] h2 fun x17 h3 =>
 exK x17 0 fun x18 =>
 exK x17 1 fun x19 =>
 s246 [x0, x18, x19] h3 fun x20 h4 =>
 ld1 x9 h2 fun x21 => ifT (avEq x21 x10) <|
 k x7 h4) args h
noncomputable def s201 : FS := S201 s91 s247 s246
noncomputable def a201 : Ann := (.s .o (.s .o (.s (.g [0, 1, 2, 3, 4, 5, 6, 7, 8, 9, 10, 11, 12, 13, 14, 15, 16, 17, 18]) (.s .o .o))))
set_option maxRecDepth 100000 in
noncomputable def S287 : FS := fun args h k => capp 1 (fun x0 h0 =>
 ikY .neq x0 x0 fun x1 =>
 k x1 h0) args h
noncomputable def s287 : FS := S287
noncomputable def a287 : Ann := (.s .o (.s .o .o))
set_option maxRecDepth 100000 in
noncomputable def S281 (s287 : FS) : FS := fun args h k => capp 2 (fun x0 x1 h0 =>
 s287 [x0] h0 fun x2 h1 =>
 gdK x2 true (fun k => k x1 h1) (fun x3 h2 =>
 gdK x2 true (fun k => s287 [x3] h2 k) (fun x4 h3 =>
 gdK x2 true (fun k => notK x4 fun y => k y h3) (fun x5 h4 =>
 pkK x2 x5 (.b false) fun x6 =>
 gdK x6 false (fun k => k x0 h4) (fun x7 h5 =>
 gdK x6 false (fun k => k x1 h5) (fun x8 h6 =>
 gdK x6 false (fun k => ikY .lss x7 x8 fun y => k y h6) (fun x9 h7 =>
 pkK x6 (.b true) x9 fun x10 =>
 k x10 h7) h6) h5) h4) h3) h2) h1) args h
noncomputable def s281 : FS := S281 s287
noncomputable def a281 : Ann := (.s .o (.s .o .o))
set_option maxRecDepth 100000 in
noncomputable def S275 (s281 : FS) : FS := fun args h k => capp 3 (fun x0 x1 x2 h0 =>
 ikY .add x1 (.i .i64 9223372036854775809) fun x3 =>
 capp 4 (lp 4 fun (x4 : CT 4) x5 x6 x7 x8 h1 =>
 ikY .lss x8 x7 fun x9 =>
 cdK x9 (
 capp 5 (lp 5 fun (x10 : CT 5) x11 x12 x13 x14 x15 h2 =>
 ikY .gtr x15 x12 fun x16 =>
 gdK x16 true (fun k => k x11 h2) (fun x17 h3 =>
 gdK x16 true (fun k => k x15 h3) (fun x18 h4 =>
 gdK x16 true (fun k => iaK 1 x17 x18 fun y => k y h4) (fun x19 h5 =>
 gdK x16 true (fun k => ld1 x19 h5 fun y => k y h5) (fun x20 h6 =>
 gdK x16 true (fun k => k x11 h6) (fun x21 h7 =>
 gdK x16 true (fun k => k x15 h7) (fun x22 h8 =>
 gdK x16 true (fun k => ikY .sub x22 (.i .i64 9223372036854775809) fun y => k y h8) (fun x23 h9 =>
 gdK x16 true (fun k => iaK 1 x21 x23 fun y => k y h9) (fun x24 h10 =>
 gdK x16 true (fun k => ld1 x24 h10 fun y => k y h10) (fun x25 h11 =>
 gdK x16 true (fun k => s281 [x20, x25] h11 k) (fun x26 h12 =>
 pkK x16 x26 (.b false) fun x27 =>
 cdK x27 (
 ikY .sub x15 (.i .i64 9223372036854775809) fun x28 =>
 ikY .sub x15 (.i .i64 9223372036854775809) fun x29 =>
 iaK 1 x11 x29 fun x30 =>
 ld1 x30 h12 fun x31 =>
 iaK 1 x11 x15 fun x32 =>
 ld1 x32 h12 fun x33 =>
 iaK 1 x11 x15 fun x34 =>
 stL 1 x34 x31 h12 fun h13 =>
 iaK 1 x11 x28 fun x35 =>
 stL 1 x35 x33 h13 fun h14 =>
 ikY .sub x15 (.i .i64 9223372036854775809) fun x36 =>
 x10 x11 x12 x13 x14 x36 h14) (
 ikY .add x14 (.i .i64 9223372036854775809) fun x37 =>
 x4 x11 x12 x13 x37 h12)) h11) h10) h9) h8) h7) h6) h5) h4) h3) h2) [x5, x6, x7, x8, x8] h1) (
 k (.t []) h1)) [x0, x1, x2, x3] h0) args h
noncomputable def s275 : FS := S275 s281
noncomputable def a275 : Ann := (.s .o (.b (.l [0, 1, 2, 6] (.s (.s .o (.i .o .o)) (.s (.b (.s .o (.b (.l [0, 1, 2, 6, 7] (.s (.s (.g [0, 1, 2, 3, 4, 5, 6, 7, 8, 9, 10, 11, 12, 13, 14]) (.i .o .o)) (.s (.b (.g [0, 1, 2, 3, 4, 5, 6, 7, 8, 9, 10, 11, 12, 13, 14, 15, 16, 17])) .o)))))) .o)))))
noncomputable def s276 : FS := sx
noncomputable def s277 : FS := sx
noncomputable def s278 : FS := sx
noncomputable def s279 : FS := sx
noncomputable def s280 : FS := sx
noncomputable def s282 : FS := sx
noncomputable def s283 : FS := sx
set_option maxRecDepth 100000 in
noncomputable def S274 (s275 s276 s277 s278 s279 s280 s281 s282 s283 s274 : FS) : FS := fun args h k => capp 4 (fun x0 x1 x2 x3 h0 =>
 capp 6 (lp 6 fun (x4 : CT 6) x5 x6 x7 x8 x9 x10 h1 =>
 ikY .sub x7 x6 fun x11 =>
 ikY .leq x11 (.i .i64 9223372036854775820) fun x12 =>
 cdK x12 (
 s275 [x5, x6, x7] h1 fun x13 h2 =>
 k (.t []) h2) (
 ikY .eql x8 (.i .i64 9223372036854775808) fun x14 =>
 cdK x14 (
 s276 [x5, x6, x7] h1 fun x15 h3 =>
 k (.t []) h3) (
 notK x9 fun x16 =>
 jn 7 (fun x17 : CT 7 =>
 cdK x16 (
 s277 [x5, x6, x7] h1 fun x18 h4 =>
 ikY .sub x8 (.i .i64 9223372036854775809) fun x19 =>
 x17 x5 x6 x7 x19 x9 x10 x11 h4) (
 x17 x5 x6 x7 x8 x9 x10 x11 h1)) fun x20 x21 x22 x23 x24 x25 x26 h5 =>
 s278 [x20, x21, x22] h5 fun x27 h6 =>
 exK x27 0 fun x28 =>
 exK x27 1 fun x29 =>
 ikY .eql x29 (.i .i64 9223372036854775810) fun x30 =>
 jn 9 (fun x31 : CT 9 =>
 cdK x30 (
 s279 [x20, x21, x22] h6 fun x32 h7 =>
 ikY .sub x22 (.i .i64 9223372036854775809) fun x33 =>
 ikY .sub x28 x21 fun x34 =>
 ikY .sub x33 x34 fun x35 =>
 x31 x20 x21 x22 x23 x24 x25 x26 x35 (.i .i64 9223372036854775809) h7) (
 x31 x20 x21 x22 x23 x24 x25 x26 x28 x29 h6)) fun x36 x37 x38 x39 x40 x41 x42 x43 x44 h8 =>
 gdK x40 true (fun k => k x41 h8) (fun x45 h9 =>
 pkK x40 x45 (.b false) fun x46 =>
 gdK x46 true (fun k => k x44 h9) (fun x47 h10 =>
 gdK x46 true (fun k => ikY .eql x47 (.i .i64 9223372036854775809) fun y => k y h10) (fun x48 h11 =>
 pkK x46 x48 (.b false) fun x49 =>
 jn 8 (fun x50 : CT 8 =>
 cdK x49 (
 s280 [x36, x37, x38] h11 fun x51 h12 =>
 cdK x51 (
 k (.t []) h12) (
 x50 x36 x37 x38 x39 x40 x41 x42 x43 h12)) (
 x50 x36 x37 x38 x39 x40 x41 x42 x43 h11)) fun x52 x53 x54 x55 x56 x57 x58 x59 h13 =>
 ikY .gtr x53 (.i .i64 9223372036854775808) fun x60 =>
 gdK x60 true (fun k => k x52 h13) (fun x61 h14 =>
 gdK x60 true (fun k => k x53 h14) (fun x62 h15 =>
 gdK x60 true (fun k => ikY .sub x62 (.i .i64 9223372036854775809) fun y => k y h15) (fun x63 h16 =>
 gdK x60 true (fun k => iaK 1 x61 x63 fun y => k y h16) (fun x64 h17 =>
 gdK x60 true (fun k => ld1 x64 h17 fun y => k y h17) (fun x65 h18 =>
 gdK x60 true (fun k => k x52 h18) (fun x66 h19 =>
 gdK x60 true (fun k => k x59 h19) (fun x67 h20 =>
 gdK x60 true (fun k => iaK 1 x66 x67 fun y => k y h20) (fun x68 h21 =>
 gdK x60 true (fun k => ld1 x68 h21 fun y => k y h21) (fun x69 h22 =>
 gdK x60 true (fun k => s281 [x65, x69] h22 k) (fun x70 h23 =>
 gdK x60 true (fun k => notK x70 fun y => k y h23) (fun x71 h24 =>
 pkK x60 x71 (.b false) fun x72 =>
 cdK x72 (
 s282 [x52, x53, x54, x59] h24 fun x73 h25 =>
 x4 x52 x73 x54 x55 x56 x57 h25) (
 s283 [x52, x53, x54, x59] h24 fun x74 h26 =>
 exK x74 0 fun x75 =>
 exK x74 1 fun x76 =>
 ikY .sub x75 x53 fun x77 =>
 ikY .sub x54 x75 fun x78 =>
 ikY .quo x58 (.i .i64 9223372036854775816) fun x79 =>
 ikY .lss x77 x78 fun x80 =>
 cdK x80 (
 ikY .geq x77 x79 fun x81 =>
 s274 [x52, x53, x75, x55] h26 fun x82 h27 =>
 ikY .add x75 (.i .i64 9223372036854775809) fun x83 =>
 x4 x52 x83 x54 x55 x81 x76 h27) (
 ikY .geq x78 x79 fun x84 =>
 ikY .add x75 (.i .i64 9223372036854775809) fun x85 =>
 s274 [x52, x85, x54, x55] h26 fun x86 h28 =>
 x4 x52 x53 x75 x55 x84 x76 h28))) h23) h22) h21) h20) h19) h18) h17) h16) h15) h14) h13) h10) h9) h8))) [x0, x1, x2, x3, (.b true), (.b true)] h0) args h
noncomputable def s274 : FS := S274 s275 s276 s277 s278 s279 s280 s281 s282 s283 sx
noncomputable def a274 : Ann := (.s .o (.s .o (.b (.l [0, 1, 2, 3, 8, 9] (.b (.s .o (.s (.s .o (.i (.s .o .o) .o)) (.s (.s .o (.i (.s .o .o) .o)) (.s (.s .o (.j [0, 1, 2, 3, 8, 9, 10] (.s .o .o) .o)) (.s .o (.s (.s .o (.j [0, 1, 2, 3, 8, 9, 10, 11, 12] (.s .o (.s .o .o)) .o)) (.s (.s .o (.j [0, 1, 2, 3, 8, 9, 10, 11] (.s .o (.i .o .o)) .o)) (.s (.s (.g [0, 1, 2, 3, 4, 5, 6, 7, 8, 9, 10, 11, 12, 13, 14]) (.i (.s .o (.s .o .o)) .o)) (.s .o (.s .o (.s .o (.s .o (.s .o (.i (.s .o (.s .o .o)) (.s .o (.s .o .o)))))))))))))))))))))
set_option maxRecDepth 100000 in
noncomputable def S273 (s168 s274 : FS) : FS := fun args h k => capp 1 (fun x0 h0 =>
 lnLY x0 fun x1 =>
 ciY .u64 x1 fun x2 =>
 s168 [x2] h0 fun x3 h1 =>
 s274 [x0, (.i .i64 9223372036854775808), x1, x3] h1 fun x4 h2 =>
 k (.t []) h2) args h
noncomputable def s273 : FS := S273 s168 s274
noncomputable def a273 : Ann := (.s .o .o)
set_option maxRecDepth 100000 in
noncomputable def S270 (s42 s273 : FS) : FS := fun args h k => capp 2 (fun x0 x1 h0 =>
 s42 [x0] h0 fun x2 h1 =>
 notK x2 fun x3 =>
 cdK x3 (
 k (.i .i64 9223372036854775808) h1) (
 lnLY x0 fun x4 =>
 capp 5 (lp 5 fun (x5 : CT 5) x6 x7 x8 x9 x10 h2 =>
 ikY .lss x10 x9 fun x11 =>
 cdK x11 (
 iaK 1 x8 x10 fun x12 =>
 ld1 x12 h2 fun x13 =>
 lnLY x6 fun x14 =>
 ikY .lss x13 x14 fun x15 =>
 jn 6 (fun x16 : CT 6 =>
 cdK x15 (
 iaK 1 x6 x13 fun x17 =>
 ld1 x17 h2 fun x18 =>
 x16 x6 x7 x18 x8 x9 x10 h2) (
 x16 x6 x7 (.i .i64 9223372036854775808) x8 x9 x10 h2)) fun x19 x20 x21 x22 x23 x24 h3 =>
 bsK 2 1 1 1 [x21] h3 fun x25 h4 =>
 apY 2 1 x20 x25 h4 fun x26 h5 =>
 ikY .add x24 (.i .i64 9223372036854775809) fun x27 =>
 x5 x19 x26 x22 x23 x27 h5) (
 s273 [x7] h2 fun x28 h6 =>
 lnLY x7 fun x29 =>
 ikY .sub x29 (.i .i64 9223372036854775809) fun x30 =>
 ikY .quo x30 (.i .i64 9223372036854775810) fun x31 =>
 iaK 1 x7 x31 fun x32 =>
 ld1 x32 h6 fun x33 =>
 k x33 h6)) [x1, .ns, x0, x4, (.i .i64 9223372036854775808)] h1)) args h
noncomputable def s270 : FS := S270 s42 s273
noncomputable def a270 : Ann := (.s .o (.s (.s .o (.i (.s .o .o) .o)) (.s .o (.s (.s .o (.b (.l [1, 5, 12, 13, 14] (.s .o (.s (.i .o .o) (.s (.b (.s .o (.s .o (.s (.s .o (.j [1, 5, 8, 12, 13, 14] .o .o)) .o)))) .o)))))) (.s .o (.s .o .o))))))
def Z351 : List AV := [(.i .i64 9223372036854775808), (.i .i64 9223372036854775808), (.i .i64 9223372036854775808), (.i .i64 9223372036854775808), (.i .i64 9223372036854775808), (.i .i64 9223372036854775808), (.i .i64 9223372036854775808), (.i .i64 9223372036854775808)]
def z351 : AV := .a Z351
set_option maxRecDepth 100000 in
noncomputable def S248 (s269 s270 : FS) : FS := fun args h k => capp 4 (fun x0 x1 x2 x3 h0 =>
 npK .eql x0 .np fun x4 =>
 cdK x4 (
 k (.i .i64 9223372036854775808) h0) (
 ncK x0 fun x5 =>
 faK 8 x5 fun x6 =>
 ldN 8 x6 h0 fun x7 =>
 boxK 351 8 z351 h0 fun x8 h1 =>
 stL 8 x8 x7 h1 fun h2 =>
 s269 [x0, x2] h2 fun x9 h3 =>
 jn 2 (fun x10 : CT 2 =>
 cdK x9 (
 iapK 8 1 x8 x2 fun x11 =>
 stL 1 x11 x3 h3 fun h4 =>
 x10 x1 x8 h4) (
 x10 x1 x8 h3)) fun x12 x13 h5 =>
 sapK 8 1 none none x13 fun x14 =>
 s270 [x12, x14] h5 fun x15 h6 =>
 k x15 h6)) args h
noncomputable def s248 : FS := S248 s269 s270
noncomputable def a248 : Ann := (.s .o (.s (.s .o (.i (.s .o .o) .o)) (.s .o (.s (.s .o (.j [1, 9] .o .o)) (.s .o .o)))))
set_option maxRecDepth 100000 in
noncomputable def S202 (s187 s91 s248 s200 s189 : FS) : FS := fun args h k => capp 1 (fun x0 h0 =>
 ncK x0 fun x1 =>
 faK 3 x1 fun x2 =>
 ld1 x2 h0 fun x3 =>
 s187 [x3] h0 fun x4 h1 =>
 exK x4 0 fun x5 =>
 exK x4 1 fun x6 =>
 ncK x0 fun x7 =>
 faK 9 x7 fun x8 =>
 ld1 x8 h1 fun x9 =>
 ncK x0 fun x10 =>
 faK 0 x10 fun x11 =>
 ld1 x11 h1 fun x12 =>
 ncK x0 fun x13 =>
 faK 3 x13 fun x14 =>
 ld1 x14 h1 fun x15 =>
 s91 [x15] h1 fun x16 h2 =>
 s248 [x9, x5, x12, x16] h2 fun x17 h3 =>
 ld1 x8 h2 fun x18 => ifT (avEq x18 x9) <|
 ld1 x11 h2 fun x19 => ifT (avEq x19 x12) <|
 ncK x0 fun x20 =>
 faK 4 x20 fun x21 =>
 ld1 x21 h3 fun x22 =>
 ikY .leq x17 x22 fun x23 =>
 gdK x23 false (fun k => k x0 h3) (fun x24 h4 =>
 gdK x23 false (fun k => ncK x24 fun y => k y h4) (fun x25 h5 =>
 gdK x23 false (fun k => faK 3 x25 fun y => k y h5) (fun x26 h6 =>
 gdK x23 false (fun k => ld1 x26 h6 fun y => k y h6) (fun x27 h7 =>
 gdK x23 false (fun k => k x17 h7) (fun x28 h8 =>
 gdK x23 false (fun k => k x0 h8) (fun x29 h9 =>
 gdK x23 false (fun k => ncK x29 fun y => k y h9) (fun x30 h10 =>
 gdK x23 false (fun k => faK 1 x30 fun y => k y h10) (fun x31 h11 =>
 gdK x23 false (fun k => faK 0 x31 fun y => k y h11) (fun x32 h12 =>
 gdK x23 false (fun k => ld1 x32 h12 fun y => k y h12) (fun x33 h13 =>
 gdK x23 false (fun k => s200 [x27, x28, x33] h13 k) (fun x34 h14 =>
 gdK x23 false (fun k => notK x34 fun y => k y h14) (fun x35 h15 =>
 pkK x23 (.b true) x35 fun x36 =>
 cdK x36 (
 k (.t []) h15) (
 ncK x0 fun x37 =>
 faK 4 x37 fun x38 =>
 stL 1 x38 x17 h15 fun h16 =>
 ncK x0 fun x39 =>
 faK 0 x39 fun x40 =>
 ld1 x40 h16 fun x41 =>
 s189 [x5, x41] h16 fun x42 h17 =>
 notK x42 fun x43 =>
 gdK x43 true (fun k => k x6 h17) (fun x44 h18 =>
 gdK x43 true (fun k => k x17 h18) (fun x45 h19 =>
 gdK x43 true (fun k => ikY .leq x44 x45 fun y => k y h19) (fun x46 h20 =>
 pkK x43 x46 (.b false) fun x47 =>
 cdK x47 (
 ncK x0 fun x48 =>
 faK 5 x48 fun x49 =>
 stL 1 x49 (.i .i64 9223372036854775808) h20 fun h21 =>
 ncK x0 fun x50 =>
 faK 6 x50 fun x51 =>
 stL 1 x51 (.i .i64 9223372036854775808) h21 fun h22 =>
 k (.t []) h22) (
 k (.t []) h20)) h19) h18) h17)) h14) h13) h12) h11) h10) h9) h8) h7) h6) h5) h4) h3) args h
noncomputable def s202 : FS := S202 s187 s91 s248 s200 s189
noncomputable def a202 : Ann := (.s .o (.s (.g [0, 1, 2, 3, 4, 5, 6, 7, 8, 9, 10, 11, 12, 13, 14, 15]) (.s (.s (.g [0, 1, 2, 3, 4, 5, 6, 7, 8, 9, 10, 11, 12, 13, 14, 15, 16, 17, 18, 19]) (.i .o .o)) (.s .o (.s .o (.i .o .o))))))
set_option maxRecDepth 100000 in
noncomputable def S194 (s91 s245 s110 s109 s201 s202 s188 : FS) : FS := fun args h k => capp 1 (fun x0 h0 =>
 ncK x0 fun x1 =>
 faK 0 x1 fun x2 =>
 ld1 x2 h0 fun x3 =>
 ncK x0 fun x4 =>
 faK 5 x4 fun x5 =>
 stL 1 x5 (.i .i64 9223372036854775810) h0 fun h1 =>
 ncK x0 fun x6 =>
 faK 6 x6 fun x7 =>
 stL 1 x7 x3 h1 fun h2 =>
 ncK x0 fun x8 =>
 faK 3 x8 fun x9 =>
 ld1 x9 h2 fun x10 =>
 s91 [x10] h2 fun x11 h3 =>
 s245 [x11] h3 fun x12 h4 =>
 ncK x0 fun x13 =>
 faK 9 x13 fun x14 =>
 stL 1 x14 x12 h4 fun h5 =>
 ncK x0 fun x15 =>
 faK 3 x15 fun x16 =>
 ld1 x16 h5 fun x17 =>
 ncK x0 fun x18 =>
 faK 3 x18 fun x19 =>
 ld1 x19 h5 fun x20 =>
 s110 [x20] h5 fun x21 h6 =>
 s109 [x17, x21, (.i .i64 9223372036854776008)] h6 fun x22 h7 =>
 lnLY x22 fun x23 =>
 ikY .lss x23 (.i .i64 9223372036854776008) fun x24 =>
 ld1 x16 h6 fun x25 => ifT (avEq x25 x17) <|
 jn 1 (fun x26 : CT 1 =>
 cdK x24 (
 s201 [x0, (.i .i64 9223372036854775809), (.s 0 [])] h7 fun x27 h8 =>
 x26 x0 h8) (
 x26 x0 h7)) fun x28 h9 =>
 s202 [x28] h9 fun x29 h10 =>
 s188 [x28] h10 fun x30 h11 =>
 k (.t []) h11) args h
noncomputable def s194 : FS := S194 s91 s245 s110 s109 s201 s202 s188
noncomputable def a194 : Ann := (.s .o (.s .o (.s (.s (.g [0, 1, 2, 3, 4, 5, 6, 7, 8, 9, 10, 11]) (.j [0] .o .o)) (.s .o .o))))
def Z193 : List AV := [.ns, (.b false), (.i .i64 9223372036854775808), (.b false)]
def z193 : AV := .a Z193
set_option maxRecDepth 100000 in
noncomputable def S182 : FS := fun args h k => capp 1 (fun x0 h0 =>
 boxK 193 4 z193 h0 fun x1 h1 =>
 ncK x0 fun x2 =>
 faK 10 x2 fun x3 =>
 ldN 4 x3 h1 fun x4 =>
 boxK 193 4 z193 h1 fun x5 h2 =>
 stL 4 x5 x4 h2 fun h3 =>
 blK [] Z193 fun x6 =>
 ncK x0 fun x7 =>
 faK 10 x7 fun x8 =>
 stL 4 x8 x6 h3 fun h4 =>
 ldN 4 x5 h4 fun x9 =>
 stL 4 x1 x9 h4 fun h5 =>
 ldN 4 x1 h5 fun x10 => k x10 h5) args h
noncomputable def s182 : FS := S182
noncomputable def a182 : Ann := (.s .o (.s .o (.s .o (.s .o .o))))
set_option maxRecDepth 100000 in
noncomputable def S153 (s187 s188 s189 s190 s191 s192 s193 s194 s91 s180 s195 s196 s182 : FS) : FS := fun args h k => capp 1 (fun x0 h0 =>
 boxK 193 4 z193 h0 fun x1 h1 =>
 npK .eql x0 .np fun x2 =>
 cdK x2 (
 blK [] Z193 fun x3 =>
 stL 4 x1 x3 h1 fun h2 =>
 ldN 4 x1 h2 fun x4 => k x4 h2) (
 ncK x0 fun x5 =>
 faK 3 x5 fun x6 =>
 ld1 x6 h1 fun x7 =>
 s187 [x7] h1 fun x8 h3 =>
 exK x8 0 fun x9 =>
 exK x8 1 fun x10 =>
 jn 2 (fun x11 : CT 2 =>
 ncK x0 fun x12 =>
 faK 5 x12 fun x13 =>
 ld1 x13 h3 fun x14 =>
 ikY .eql x14 (.i .i64 9223372036854775810) fun x15 =>
 cdK x15 (
 s188 [x0] h3 fun x16 h4 =>
 x11 x0 x1 h4) (
 ncK x0 fun x17 =>
 faK 7 x17 fun x18 =>
 ld1 x18 h3 fun x19 =>
 cdK x19 (
 ncK x0 fun x20 =>
 faK 7 x20 fun x21 =>
 stL 1 x21 (.b false) h3 fun h5 =>
 x11 x0 x1 h5) (
 ncK x0 fun x22 =>
 faK 0 x22 fun x23 =>
 ld1 x23 h3 fun x24 =>
 s189 [x9, x24] h3 fun x25 h6 =>
 gdK x25 true (fun k => k x0 h6) (fun x26 h7 =>
 gdK x25 true (fun k => ncK x26 fun y => k y h7) (fun x27 h8 =>
 gdK x25 true (fun k => faK 1 x27 fun y => k y h8) (fun x28 h9 =>
 gdK x25 true (fun k => faK 0 x28 fun y => k y h9) (fun x29 h10 =>
 gdK x25 true (fun k => ld1 x29 h10 fun y => k y h10) (fun x30 h11 =>
 gdK x25 true (fun k => ikY .lss x30 (.i .i64 9223373136366403584) fun y => k y h11) (fun x31 h12 =>
 pkK x25 x31 (.b false) fun x32 =>
 cdK x32 (
 ncK x0 fun x33 =>
 faK 1 x33 fun x34 =>
 faK 0 x34 fun x35 =>
 ld1 x35 h12 fun x36 =>
 ikY .add x36 (.i .i64 9223372036854775809) fun x37 =>
 ncK x0 fun x38 =>
 faK 0 x38 fun x39 =>
 ld1 x39 h12 fun x40 =>
 blK [(0, 1, x37), (1, 1, x40)] Z126 fun x41 =>
 s190 [x0, x41] h12 fun x42 h13 =>
 ncK x0 fun x43 =>
 faK 5 x43 fun x44 =>
 stL 1 x44 (.i .i64 9223372036854775809) h13 fun h14 =>
 ncK x0 fun x45 =>
 faK 6 x45 fun x46 =>
 stL 1 x46 (.i .i64 9223372036854775808) h14 fun h15 =>
 s191 [x9] h15 fun x47 h16 =>
 ncK x0 fun x48 =>
 faK 8 x48 fun x49 =>
 stL 1 x49 x47 h16 fun h17 =>
 ncK x0 fun x50 =>
 faK 8 x50 fun x51 =>
 ld1 x51 h17 fun x52 =>
 ncK x0 fun x53 =>
 faK 0 x53 fun x54 =>
 ld1 x54 h17 fun x55 =>
 s192 [x52, x55] h17 fun x56 h18 =>
 ncK x0 fun x57 =>
 faK 8 x57 fun x58 =>
 ld1 x58 h18 fun x59 =>
 s193 [x59] h18 fun x60 h19 =>
 cdK x60 (
 s194 [x0] h19 fun x61 h20 =>
 x11 x0 x1 h20) (
 ncK x0 fun x62 =>
 faK 3 x62 fun x63 =>
 ld1 x63 h19 fun x64 =>
 ncK x0 fun x65 =>
 faK 3 x65 fun x66 =>
 ld1 x66 h19 fun x67 =>
 s91 [x67] h19 fun x68 h21 =>
 s180 [x64, x68] h21 fun x69 h22 =>
 exK x69 0 fun x70 =>
 exK x69 1 fun x71 =>
 ld1 x63 h21 fun x72 => ifT (avEq x72 x64) <|
 s195 [x0] h22 fun x73 h23 =>
 lnLY x73 fun x74 =>
 capp 6 (lp 6 fun (x75 : CT 6) x76 x77 x78 x79 x80 x81 h24 =>
 ikY .lss x81 x80 fun x82 =>
 cdK x82 (
 iaK 1 x79 x81 fun x83 =>
 ld1 x83 h24 fun x84 =>
 ncK x76 fun x85 =>
 faK 3 x85 fun x86 =>
 ld1 x86 h24 fun x87 =>
 s91 [x87] h24 fun x88 h25 =>
 blK [(0, 1, (.i .i64 9223372036854775809)), (2, 1, x84), (4, 1, x88), (5, 1, x78)] Z233 fun x89 =>
 s196 [x76, x89] h25 fun x90 h26 =>
 ikY .add x81 (.i .i64 9223372036854775809) fun x91 =>
 x75 x76 x77 x78 x79 x80 x91 h26) (
 x11 x76 x77 h24)) [x0, x1, x70, x73, x74, (.i .i64 9223372036854775808)] h23)) (
 x11 x0 x1 h12)) h11) h10) h9) h8) h7) h6))) fun x92 x93 h27 =>
 s182 [x92] h27 fun x94 h28 =>
 stL 4 x93 x94 h28 fun h29 =>
 ldN 4 x93 h29 fun x95 => k x95 h29)) args h
noncomputable def s153 : FS := S153 s187 s188 s189 s190 s191 s192 s193 s194 s91 s180 s195 s196 s182
noncomputable def a153 : Ann := (.s .o (.s (.s .o (.i (.s .o .o) .o)) (.s .o (.s (.k [0, 2] (.s .o (.i .o (.s .o (.i .o (.s .o (.i (.s (.g [0, 1, 2, 3, 4, 5, 6, 7, 8, 9, 10, 11, 12]) (.s .o (.s .o (.s (.g [0, 1, 2, 3, 4, 5, 6, 7, 8]) (.s (.s .o (.i (.s .o .o) .o)) (.s (.g [0, 1, 2, 3, 4, 5, 6, 7, 8, 9, 10, 11, 12, 13, 14]) (.s .o (.b (.l [0, 2, 5, 105, 106, 107] (.s .o (.s (.i .o .o) (.s (.b (.s .o .o)) .o)))))))))))) .o))))))) (.s .o .o)))))
set_option maxRecDepth 100000 in
noncomputable def S234 : FS := fun args h k => capp 1 (fun x0 h0 =>
 boxK 126 2 z126 h0 fun x1 h1 =>
 npK .eql x0 .np fun x2 =>
 cdK x2 (
 blK [] Z126 fun x3 =>
 stL 2 x1 x3 h1 fun h2 =>
 ldN 2 x1 h2 fun x4 => k x4 h2) (
 ncK x0 fun x5 =>
 faK 1 x5 fun x6 =>
 ldN 2 x6 h1 fun x7 =>
 stL 2 x1 x7 h1 fun h3 =>
 ldN 2 x1 h3 fun x8 => k x8 h3)) args h
noncomputable def s234 : FS := S234
noncomputable def a234 : Ann := (.s .o (.s (.s .o (.i (.s .o .o) .o)) (.s .o .o)))
set_option maxRecDepth 100000 in
noncomputable def S265 (s79 s102 : FS) : FS := fun args h k => capp 3 (fun x0 x1 x2 h0 =>
 boxK 129 7 x2 h0 fun x3 h1 =>
 ncK x0 fun x4 =>
 faK 8 x4 fun x5 =>
 ld1 x5 h1 fun x6 =>
 ikY .eql x6 (.i .i64 9223372036854775808) fun x7 =>
 gdK x7 false (fun k => k x0 h1) (fun x8 h2 =>
 gdK x7 false (fun k => ncK x8 fun y => k y h2) (fun x9 h3 =>
 gdK x7 false (fun k => faK 8 x9 fun y => k y h3) (fun x10 h4 =>
 gdK x7 false (fun k => ld1 x10 h4 fun y => k y h4) (fun x11 h5 =>
 gdK x7 false (fun k => k x1 h5) (fun x12 h6 =>
 gdK x7 false (fun k => lnLY x12 fun y => k y h6) (fun x13 h7 =>
 gdK x7 false (fun k => ikY .add x11 x13 fun y => k y h7) (fun x14 h8 =>
 gdK x7 false (fun k => ikY .gtr x14 (.i .i64 9223372036855824384) fun y => k y h8) (fun x15 h9 =>
 pkK x7 (.b true) x15 fun x16 =>
 jn 3 (fun x17 : CT 3 =>
 cdK x16 (
 ncK x0 fun x18 =>
 faK 1 x18 fun x19 =>
 ldN 7 x19 h9 fun x20 =>
 s79 [x0, x20] h9 fun x21 h10 =>
 ikY .neq x21 (.i .i64 9223372036854775808) fun x22 =>
 cdK x22 (
 k x21 h10) (
 x17 x0 x1 x3 h10)) (
 x17 x0 x1 x3 h9)) fun x23 x24 x25 h11 =>
 ncK x23 fun x26 =>
 faK 0 x26 fun x27 =>
 ld1 x27 h11 fun x28 =>
 s102 [x28, (.s 5 [115, 116, 97, 116, 101]), x24] h11 fun x29 h12 =>
 ikY .neq x29 (.i .i64 9223372036854775808) fun x30 =>
 cdK x30 (
 k x29 h12) (
 ncK x23 fun x31 =>
 faK 8 x31 fun x32 =>
 ld1 x32 h12 fun x33 =>
 lnLY x24 fun x34 =>
 ikY .add x33 x34 fun x35 =>
 ncK x23 fun x36 =>
 faK 8 x36 fun x37 =>
 stL 1 x37 x35 h12 fun h13 =>
 ldN 7 x25 h13 fun x38 =>
 ncK x23 fun x39 =>
 faK 1 x39 fun x40 =>
 stL 7 x40 x38 h13 fun h14 =>
 k (.i .i64 9223372036854775808) h14)) h8) h7) h6) h5) h4) h3) h2) h1) args h
noncomputable def s265 : FS := S265 s79 s102
noncomputable def a265 : Ann := (.s .o (.s (.s .o (.j [0, 1, 5] (.s .o (.s .o (.i (.s .o .o) .o))) .o)) (.s (.s .o (.s .o (.i (.s .o .o) .o))) (.s .o (.s .o (.s .o .o))))))
set_option maxRecDepth 100000 in
noncomputable def S233 (s89 s49 s169 s265 : FS) : FS := fun args h k => capp 2 (fun x0 x1 h0 =>
 boxK 126 2 x1 h0 fun x2 h1 =>
 npK .eql x0 .np fun x3 =>
 cdK x3 (
 k (.i .i64 9223372036854775820) h1) (
 ldN 2 x2 h1 fun x4 =>
 blK [(0, 1, (.b true)), (1, 2, x4)] Z166 fun x5 =>
 boxK 166 7 z166 h1 fun x6 h2 =>
 stL 7 x6 x5 h2 fun h3 =>
 ldN 7 x6 h3 fun x7 =>
 s89 [x7] h3 fun x8 h4 =>
 notK x8 fun x9 =>
 cdK x9 (
 k (.i .i64 9223372036854775809) h4) (
 s49 [x0] h4 fun x10 h5 =>
 boxK 129 7 z129 h5 fun x11 h6 =>
 stL 7 x11 x10 h6 fun h7 =>
 ldN 2 x2 h7 fun x12 =>
 faK 0 x11 fun x13 =>
 stL 2 x13 x12 h7 fun h8 =>
 ldN 7 x6 h8 fun x14 =>
 ldN 7 x11 h8 fun x15 =>
 s169 [x14] h8 fun x16 h9 =>
 s265 [x0, x16, x15] h9 fun x17 h10 =>
 ldN 7 x11 h9 fun x18 => ifT (avEq x18 x15) <|
 k x17 h10))) args h
noncomputable def s233 : FS := S233 s89 s49 s169 s265
noncomputable def a233 : Ann := (.s .o (.s (.s .o (.i (.s .o .o) .o)) (.s .o (.s (.s .o (.i (.s .o .o) .o)) (.s .o (.s .o (.s (.g [0, 1, 3, 2, 4, 5]) .o)))))))
set_option maxRecDepth 100000 in
noncomputable def S235 (s49 s89 s169 s265 : FS) : FS := fun args h k => capp 2 (fun x0 x1 h0 =>
 npK .eql x0 .np fun x2 =>
 cdK x2 (
 k (.i .i64 9223372036854775820) h0) (
 lnLY x1 fun x3 =>
 ikY .eql x3 (.i .i64 9223372036854775808) fun x4 =>
 cdK x4 (
 k (.i .i64 9223372036854775808) h0) (
 s49 [x0] h0 fun x5 h1 =>
 boxK 129 7 z129 h1 fun x6 h2 =>
 stL 7 x6 x5 h2 fun h3 =>
 iaK 4 x1 (.i .i64 9223372036854775808) fun x7 =>
 faK 0 x7 fun x8 =>
 ld1 x8 h3 fun x9 =>
 faK 2 x6 fun x10 =>
 faK 0 x10 fun x11 =>
 ld1 x11 h3 fun x12 =>
 ikY .sub x9 x12 fun x13 =>
 ikY .sub x13 (.i .i64 9223372036854775809) fun x14 =>
 ikY .lss x14 (.i .i64 9223372036854775808) fun x15 =>
 gdK x15 false (fun k => k x14 h3) (fun x16 h4 =>
 gdK x15 false (fun k => faK 6 x6 fun y => k y h4) (fun x17 h5 =>
 gdK x15 false (fun k => ld1 x17 h5 fun y => k y h5) (fun x18 h6 =>
 gdK x15 false (fun k => lnLY x18 fun y => k y h6) (fun x19 h7 =>
 gdK x15 false (fun k => ikY .gtr x16 x19 fun y => k y h7) (fun x20 h8 =>
 pkK x15 (.b true) x20 fun x21 =>
 cdK x21 (
 k (.i .i64 9223372036854775809) h8) (
 lnLY x1 fun x22 =>
 capp 8 (lp 8 fun (x23 : CT 8) x24 x25 x26 x27 x28 x29 x30 x31 h9 =>
 ikY .lss x31 x30 fun x32 =>
 cdK x32 (
 iaK 4 x29 x31 fun x33 =>
 ldN 4 x33 h9 fun x34 =>
 boxK 164 4 z164 h9 fun x35 h10 =>
 stL 4 x35 x34 h10 fun h11 =>
 ldN 4 x35 h11 fun x36 =>
 blK [(3, 4, x36)] Z166 fun x37 =>
 s89 [x37] h11 fun x38 h12 =>
 notK x38 fun x39 =>
 gdK x39 false (fun k => faK 0 x35 fun y => k y h12) (fun x40 h13 =>
 gdK x39 false (fun k => ld1 x40 h13 fun y => k y h13) (fun x41 h14 =>
 gdK x39 false (fun k => k x25 h14) (fun x42 h15 =>
 gdK x39 false (fun k => iaK 4 x42 (.i .i64 9223372036854775808) fun y => k y h15) (fun x43 h16 =>
 gdK x39 false (fun k => faK 0 x43 fun y => k y h16) (fun x44 h17 =>
 gdK x39 false (fun k => ld1 x44 h17 fun y => k y h17) (fun x45 h18 =>
 gdK x39 false (fun k => k x31 h18) (fun x46 h19 =>
 gdK x39 false (fun k => ikY .add x45 x46 fun y => k y h19) (fun x47 h20 =>
 gdK x39 false (fun k => ikY .neq x41 x47 fun y => k y h20) (fun x48 h21 =>
 pkK x39 (.b true) x48 fun x49 =>
 cdK x49 (
 k (.i .i64 9223372036854775809) h21) (
 ldN 4 x35 h21 fun x50 =>
 blK [(3, 4, x50)] Z166 fun x51 =>
 s169 [x51] h21 fun x52 h22 =>
 apY 5 1 x28 x52 h22 fun x53 h23 =>
 ikY .add x31 (.i .i64 9223372036854775809) fun x54 =>
 x23 x24 x25 x26 x27 x53 x29 x30 x54 h23)) h20) h19) h18) h17) h16) h15) h14) h13) h12) (
 lnLY x25 fun x55 =>
 ikY .add x27 x55 fun x56 =>
 ikY .gtr x56 (.i .i64 9223372036854776008) fun x57 =>
 cdK x57 (
 k (.i .i64 9223372036854775813) h9) (
 faK 6 x26 fun x58 =>
 ld1 x58 h9 fun x59 =>
 sllK 4 none (some x27) none x59 fun x60 =>
 apY 164 4 x60 x25 h9 fun x61 h24 =>
 faK 6 x26 fun x62 =>
 stL 1 x62 x61 h24 fun h25 =>
 ldN 7 x26 h25 fun x63 =>
 s265 [x24, x28, x63] h25 fun x64 h26 =>
 k x64 h26))) [x0, x1, x6, x14, .ns, x1, x22, (.i .i64 9223372036854775808)] h8)) h7) h6) h5) h4) h3))) args h
noncomputable def s235 : FS := S235 s49 s89 s169 s265
noncomputable def a235 : Ann := (.s .o (.s (.s .o (.i (.s .o .o) .o)) (.s (.s .o (.i (.s .o .o) .o)) (.s .o (.s (.g [0, 1, 2, 3, 4, 5, 6, 7, 8, 9]) (.s (.s .o (.i (.s .o .o) .o)) (.s .o (.s (.s .o (.b (.l [0, 1, 5, 6, 7, 35, 36, 37] (.s .o (.s (.i .o .o) (.s (.b (.s .o (.s (.s (.g [0, 1, 2, 3, 4, 5, 6, 7, 8, 9, 10, 11, 12, 13, 14]) (.i (.s .o .o) .o)) .o))) .o)))))) (.s (.s .o (.i (.s .o .o) .o)) (.s .o (.s .o .o)))))))))))
set_option maxRecDepth 100000 in
noncomputable def S236 (s103 : FS) : FS := fun args h k => capp 1 (fun x0 h0 =>
 npK .eql x0 .np fun x1 =>
 cdK x1 (
 k (.i .i64 9223372036854775820) h0) (
 ncK x0 fun x2 =>
 faK 8 x2 fun x3 =>
 ld1 x3 h0 fun x4 =>
 ikY .eql x4 (.i .i64 9223372036854775808) fun x5 =>
 cdK x5 (
 k (.i .i64 9223372036854775808) h0) (
 ncK x0 fun x6 =>
 faK 0 x6 fun x7 =>
 ld1 x7 h0 fun x8 =>
 s103 [x8, (.s 5 [115, 116, 97, 116, 101])] h0 fun x9 h1 =>
 k x9 h1))) args h
noncomputable def s236 : FS := S236 s103
noncomputable def a236 : Ann := (.s .o (.s (.b (.s .o (.i (.s .o .o) (.s .o (.i (.s .o .o) .o))))) (.s .o .o)))
set_option maxRecDepth 100000 in
noncomputable def S183 (s234 s233 s108 s90 s45 s53 s50 s109 s235 s236 : FS) : FS := fun args h k => capp 2 (fun x0 x1 h0 =>
 boxK 193 4 x1 h0 fun x2 h1 =>
 faK 1 x2 fun x3 =>
 ld1 x3 h1 fun x4 =>
 jn 2 (fun x5 : CT 2 =>
 cdK x4 (
 ncK x0 fun x6 =>
 faK 0 x6 fun x7 =>
 ld1 x7 h1 fun x8 =>
 ncK x0 fun x9 =>
 faK 1 x9 fun x10 =>
 ld1 x10 h1 fun x11 =>
 s234 [x11] h1 fun x12 h2 =>
 s233 [x8, x12] h2 fun x13 h3 =>
 ld1 x7 h2 fun x14 => ifT (avEq x14 x8) <|
 ikY .neq x13 (.i .i64 9223372036854775808) fun x15 =>
 cdK x15 (
 k x13 h3) (
 x5 x0 x2 h3)) (
 x5 x0 x2 h1)) fun x16 x17 h4 =>
 faK 3 x17 fun x18 =>
 ld1 x18 h4 fun x19 =>
 jn 2 (fun x20 : CT 2 =>
 cdK x19 (
 ncK x16 fun x21 =>
 faK 1 x21 fun x22 =>
 ld1 x22 h4 fun x23 =>
 s108 [x23] h4 fun x24 h5 =>
 s90 [x24] h5 fun x25 h6 =>
 boxK 124 4 z124 h6 fun x26 h7 =>
 stL 4 x26 x25 h7 fun h8 =>
 ncK x16 fun x27 =>
 faK 0 x27 fun x28 =>
 ld1 x28 h8 fun x29 =>
 ldN 4 x26 h8 fun x30 =>
 s45 [x29, x30] h8 fun x31 h9 =>
 ikY .neq x31 (.i .i64 9223372036854775808) fun x32 =>
 cdK x32 (
 k x31 h9) (
 faK 0 x26 fun x33 =>
 ld1 x33 h9 fun x34 =>
 ncK x16 fun x35 =>
 faK 2 x35 fun x36 =>
 ld1 x36 h9 fun x37 =>
 s53 [x37] h9 fun x38 h10 =>
 ikY .gtr x34 x38 fun x39 =>
 ld1 x33 h10 fun x40 => ifT (avEq x40 x34) <|
 cdK x39 (
 faK 3 x26 fun x41 =>
 ld1 x41 h10 fun x42 =>
 s50 [x42] h10 fun x43 h11 =>
 exK x43 0 fun x44 =>
 exK x43 1 fun x45 =>
 ikY .neq x45 (.i .i64 9223372036854775808) fun x46 =>
 gdK x46 false (fun k => k x44 h11) (fun x47 h12 =>
 gdK x46 false (fun k => faK 0 x26 fun y => k y h12) (fun x48 h13 =>
 gdK x46 false (fun k => ld1 x48 h13 fun y => k y h13) (fun x49 h14 =>
 gdK x46 false (fun k => s53 [x47] h14 k) (fun x50 h15 =>
 gdK x46 false (fun k => ikY .neq x50 x49 fun y => k y h15) (fun x51 h16 =>
 pkK x46 (.b true) x51 fun x52 =>
 gdK x46 false (fun k => ld1 x48 h15 fun y => k y h15) (fun x53 _ => ifT (avEq x53 x49) <|
 cdK x52 (
 k (.i .i64 9223372036854775811) h16) (
 ncK x16 fun x54 =>
 faK 2 x54 fun x55 =>
 stL 1 x55 x44 h16 fun h17 =>
 x20 x16 x17 h17)) h15) h15) h14) h13) h12) h11) (
 x20 x16 x17 h10))) (
 x20 x16 x17 h4)) fun x56 x57 h18 =>
 faK 2 x57 fun x58 =>
 ld1 x58 h18 fun x59 =>
 ikY .gtr x59 (.i .i64 9223372036854775808) fun x60 =>
 jn 2 (fun x61 : CT 2 =>
 cdK x60 (
 ncK x56 fun x62 =>
 faK 0 x62 fun x63 =>
 ld1 x63 h18 fun x64 =>
 ncK x56 fun x65 =>
 faK 1 x65 fun x66 =>
 ld1 x66 h18 fun x67 =>
 faK 2 x57 fun x68 =>
 ld1 x68 h18 fun x69 =>
 s108 [x67] h18 fun x70 h19 =>
 s109 [x70, x69, (.i .i64 9223372036854776008)] h19 fun x71 h20 =>
 s235 [x64, x71] h20 fun x72 h21 =>
 ld1 x63 h19 fun x73 => ifT (avEq x73 x64) <|
 ld1 x63 h20 fun x74 => ifT (avEq x74 x64) <|
 ld1 x68 h19 fun x75 => ifT (avEq x75 x69) <|
 ikY .neq x72 (.i .i64 9223372036854775808) fun x76 =>
 cdK x76 (
 k x72 h21) (
 x61 x56 x57 h21)) (
 x61 x56 x57 h18)) fun x77 x78 h22 =>
 faK 1 x78 fun x79 =>
 ld1 x79 h22 fun x80 =>
 gdK x80 false (fun k => faK 2 x78 fun y => k y h22) (fun x81 h23 =>
 gdK x80 false (fun k => ld1 x81 h23 fun y => k y h23) (fun x82 h24 =>
 gdK x80 false (fun k => ikY .gtr x82 (.i .i64 9223372036854775808) fun y => k y h24) (fun x83 h25 =>
 pkK x80 (.b true) x83 fun x84 =>
 cdK x84 (
 ncK x77 fun x85 =>
 faK 0 x85 fun x86 =>
 ld1 x86 h25 fun x87 =>
 s236 [x87] h25 fun x88 h26 =>
 k x88 h26) (
 k (.i .i64 9223372036854775808) h25)) h24) h23) h22) args h
noncomputable def s183 : FS := S183 s234 s233 s108 s90 s45 s53 s50 s109 s235 s236
noncomputable def a183 : Ann := (.s .o (.s (.s .o (.j [0, 3] (.s (.g [0, 1, 2, 3, 4, 5, 6, 7, 8, 9, 10]) (.s .o (.i (.s .o .o) .o))) .o)) (.s (.s .o (.j [0, 3] (.s .o (.s (.s (.g [0, 1, 2, 3, 4, 5, 6]) (.s .o (.i (.s .o .o) .o))) (.s (.g [0, 1, 2, 3, 4, 5, 6, 7]) (.i (.s .o (.s (.s (.g [0, 1, 2, 3, 5, 6, 4, 7, 8]) (.i (.s .o .o) .o)) .o)) .o)))) .o)) (.s (.s .o (.j [0, 3] (.s (.g [0, 1, 2, 3, 4, 5, 6, 7, 9, 10, 8, 11, 12, 13]) (.s .o (.i (.s .o .o) .o))) .o)) (.s (.s .o (.i (.s .o .o) .o)) (.s .o .o))))))
set_option maxRecDepth 100000 in
noncomputable def S184 : FS := fun args h k => capp 1 (fun x0 h0 =>
 npK .eql x0 .np fun x1 =>
 cdK x1 (
 k (.i .i64 9223372036854775808) h0) (
 ncK x0 fun x2 =>
 faK 4 x2 fun x3 =>
 ld1 x3 h0 fun x4 =>
 k x4 h0)) args h
noncomputable def s184 : FS := S184
noncomputable def a184 : Ann := (.s .o (.s (.s .o (.i (.s .o .o) .o)) (.s .o .o)))
set_option maxRecDepth 100000 in
noncomputable def S203 (s98 : FS) : FS := fun args h k => capp 1 (fun x0 h0 =>
 boxK 96 5 x0 h0 fun x1 h1 =>
 boxK 96 5 z96 h1 fun x2 h2 =>
 faK 1 x1 fun x3 =>
 faK 2 x3 fun x4 =>
 ld1 x4 h2 fun x5 =>
 s98 [x5] h2 fun x6 h3 =>
 faK 1 x1 fun x7 =>
 faK 2 x7 fun x8 =>
 stL 1 x8 x6 h3 fun h4 =>
 ldN 5 x1 h4 fun x9 =>
 stL 5 x2 x9 h4 fun h5 =>
 ldN 5 x2 h5 fun x10 => k x10 h5) args h
noncomputable def s203 : FS := S203 s98
noncomputable def a203 : Ann := (.s .o (.s .o (.s .o .o)))
set_option maxRecDepth 100000 in
noncomputable def S185 (s86 s87 s203 : FS) : FS := fun args h k => capp 2 (fun x0 x1 h0 =>
 boxK 164 4 x1 h0 fun x2 h1 =>
 boxK 96 5 z96 h1 fun x3 h2 =>
 npK .eql x0 .np fun x4 =>
 gdK x4 false (fun k => faK 0 x2 fun y => k y h2) (fun x5 h3 =>
 gdK x4 false (fun k => ld1 x5 h3 fun y => k y h3) (fun x6 h4 =>
 gdK x4 false (fun k => k x0 h4) (fun x7 h5 =>
 gdK x4 false (fun k => ncK x7 fun y => k y h5) (fun x8 h6 =>
 gdK x4 false (fun k => faK 0 x8 fun y => k y h6) (fun x9 h7 =>
 gdK x4 false (fun k => ld1 x9 h7 fun y => k y h7) (fun x10 h8 =>
 gdK x4 false (fun k => ikY .add x10 (.i .i64 9223372036854775809) fun y => k y h8) (fun x11 h9 =>
 gdK x4 false (fun k => ikY .neq x6 x11 fun y => k y h9) (fun x12 h10 =>
 pkK x4 (.b true) x12 fun x13 =>
 cdK x13 (
 blK [] Z96 fun x14 =>
 stL 5 x3 x14 h10 fun h11 =>
 ldN 5 x3 h11 fun x15 => k (.t [x15, (.b false)]) h11) (
 ncK x0 fun x16 =>
 faK 0 x16 fun x17 =>
 ld1 x17 h10 fun x18 =>
 ikY .add x18 (.i .i64 9223372036854775809) fun x19 =>
 ncK x0 fun x20 =>
 faK 0 x20 fun x21 =>
 stL 1 x21 x19 h10 fun h12 =>
 faK 3 x2 fun x22 =>
 ld1 x22 h12 fun x23 =>
 sb2Y 5 x23 h12 fun x24 h13 =>
 s86 [x24] h13 fun x25 h14 =>
 exK x25 0 fun x26 =>
 exK x25 1 fun x27 =>
 boxK 51 3 z51 h14 fun x28 h15 =>
 stL 3 x28 x26 h15 fun h16 =>
 faK 2 x2 fun x29 =>
 ld1 x29 h16 fun x30 =>
 ikY .neq x30 (.i .i64 9223372036854775810) fun x31 =>
 gdK x31 false (fun k => k x27 h16) (fun x32 h17 =>
 gdK x31 false (fun k => ikY .neq x32 (.i .i64 9223372036854775808) fun y => k y h17) (fun x33 h18 =>
 pkK x31 (.b true) x33 fun x34 =>
 cdK x34 (
 blK [] Z96 fun x35 =>
 stL 5 x3 x35 h18 fun h19 =>
 ldN 5 x3 h19 fun x36 => k (.t [x36, (.b false)]) h19) (
 ncK x0 fun x37 =>
 faK 1 x37 fun x38 =>
 ld1 x38 h18 fun x39 =>
 ldN 3 x28 h18 fun x40 =>
 s87 [x39, x40] h18 fun x41 h20 =>
 exK x41 0 fun x42 =>
 exK x41 1 fun x43 =>
 boxK 96 5 z96 h20 fun x44 h21 =>
 stL 5 x44 x42 h21 fun h22 =>
 jn 3 (fun x45 : CT 3 =>
 cdK x43 (
 ncK x0 fun x46 =>
 faK 2 x46 fun x47 =>
 ld1 x47 h22 fun x48 =>
 ldN 5 x44 h22 fun x49 =>
 s203 [x49] h22 fun x50 h23 =>
 bsK 96 5 1 5 [x50] h23 fun x51 h24 =>
 apY 96 5 x48 x51 h24 fun x52 h25 =>
 ncK x0 fun x53 =>
 faK 2 x53 fun x54 =>
 stL 1 x54 x52 h25 fun h26 =>
 ld1 x47 h23 fun x55 => ifT (avEq x55 x48) <|
 ld1 x47 h24 fun x56 => ifT (avEq x56 x48) <|
 x45 x3 x44 x43 h26) (
 x45 x3 x44 x43 h22)) fun x57 x58 x59 h27 =>
 ldN 5 x58 h27 fun x60 =>
 stL 5 x57 x60 h27 fun h28 =>
 ldN 5 x57 h28 fun x61 => k (.t [x61, x59]) h28)) h17) h16)) h9) h8) h7) h6) h5) h4) h3) h2) args h
noncomputable def s185 : FS := S185 s86 s87 s203
noncomputable def a185 : Ann := (.s .o (.s (.s (.g [0, 1, 2, 3, 4, 5, 6, 7, 8, 9, 10, 11]) (.i (.s .o .o) .o)) (.s .o (.s .o (.s (.s .o (.i (.s .o .o) .o)) (.s (.g [0, 1, 2, 3, 4, 5, 6, 7, 8, 9, 10, 11]) (.s (.s .o (.j [4, 8, 9] (.g [0, 1, 2, 3, 4, 5, 6, 7, 8, 9, 10, 11]) .o)) (.s .o .o))))))))
set_option maxRecDepth 100000 in
noncomputable def S151 (s183 s53 s184 s108 s109 s185 : FS) : FS := fun args h k => capp 2 (fun x0 x1 h0 =>
 boxK 193 4 x1 h0 fun x2 h1 =>
 ldN 4 x2 h1 fun x3 =>
 s183 [x0, x3] h1 fun x4 h2 =>
 ikY .neq x4 (.i .i64 9223372036854775808) fun x5 =>
 cdK x5 (
 ncK x0 fun x6 =>
 faK 3 x6 fun x7 =>
 stL 1 x7 (.b true) h2 fun h3 =>
 k .ns h3) (
 jn 1 (fun x8 : CT 1 =>
 capp 2 (lp 2 fun (x9 : CT 2) x10 x11 h4 =>
 ncK x10 fun x12 =>
 faK 2 x12 fun x13 =>
 ld1 x13 h4 fun x14 =>
 ncK x10 fun x15 =>
 faK 1 x15 fun x16 =>
 ld1 x16 h4 fun x17 =>
 s53 [x14] h4 fun x18 h5 =>
 s184 [x17] h5 fun x19 h6 =>
 ikY .lss x18 x19 fun x20 =>
 ld1 x16 h5 fun x21 => ifT (avEq x21 x17) <|
 cdK x20 (
 ncK x10 fun x22 =>
 faK 1 x22 fun x23 =>
 ld1 x23 h6 fun x24 =>
 ncK x10 fun x25 =>
 faK 2 x25 fun x26 =>
 ld1 x26 h6 fun x27 =>
 s108 [x24] h6 fun x28 h7 =>
 s53 [x27] h7 fun x29 h8 =>
 ikY .add x29 (.i .i64 9223372036854775809) fun x30 =>
 s109 [x28, x30, (.i .i64 9223372036854775809)] h8 fun x31 h9 =>
 ld1 x26 h7 fun x32 => ifT (avEq x32 x27) <|
 lnLY x31 fun x33 =>
 ikY .eql x33 (.i .i64 9223372036854775808) fun x34 =>
 cdK x34 (
 x8 x11 h9) (
 ncK x10 fun x35 =>
 faK 2 x35 fun x36 =>
 ld1 x36 h9 fun x37 =>
 iaK 4 x31 (.i .i64 9223372036854775808) fun x38 =>
 ldN 4 x38 h9 fun x39 =>
 s185 [x37, x39] h9 fun x40 h10 =>
 x9 x10 x11 h10)) (
 x8 x11 h6)) [x0, x2] h2) fun x41 h11 =>
 faK 0 x41 fun x42 =>
 ld1 x42 h11 fun x43 =>
 k x43 h11)) args h
noncomputable def s151 : FS := S151 s183 s53 s184 s108 s109 s185
noncomputable def a151 : Ann := (.s .o (.s (.s .o (.i (.s .o (.s .o .o)) .o)) (.s (.k [3] (.l [0, 3] (.s (.s (.g [0, 1, 2, 3, 5, 6, 7, 8, 4, 9, 10]) (.i .o .o)) (.b (.s (.g [0, 1, 2, 3, 5, 6, 7, 8, 4, 9, 10, 11, 12]) (.s (.s .o (.i .o .o)) (.g [0, 1, 2, 3, 4, 5, 6, 7]))))))) (.s .o .o))))
set_option maxRecDepth 100000 in
noncomputable def S114 (s149 s153 s151 : FS) : FS := fun args h k => capp 1 (fun x0 h0 =>
 s149 [x0] h0 fun x1 h1 =>
 cdK x1 (
 k .ns h1) (
 ncK x0 fun x2 =>
 faK 1 x2 fun x3 =>
 ld1 x3 h1 fun x4 =>
 s153 [x4] h1 fun x5 h2 =>
 s151 [x0, x5] h2 fun x6 h3 =>
 k x6 h3)) args h
noncomputable def s114 : FS := S114 s149 s153 s151
noncomputable def a114 : Ann := (.s .o (.s (.s .o (.i (.s .o .o) .o)) (.s .o .o)))
set_option maxRecDepth 100000 in
noncomputable def S237 : FS := fun args h k => capp 1 (fun x0 h0 =>
 ikY .geq x0 (.i .i64 9223372036854775809) fun x1 =>
 gdK x1 true (fun k => k x0 h0) (fun x2 h1 =>
 gdK x1 true (fun k => ikY .leq x2 (.i .i64 9223372036854775815) fun y => k y h1) (fun x3 h2 =>
 pkK x1 x3 (.b false) fun x4 =>
 k x4 h2) h1) h0) args h
noncomputable def s237 : FS := S237
noncomputable def a237 : Ann := (.s .o (.s .o .o))
set_option maxRecDepth 100000 in
noncomputable def S238 : FS := fun args h k => capp 2 (fun x0 x1 h0 =>
 lnLY x1 fun x2 =>
 capp 4 (lp 4 fun (x3 : CT 4) x4 x5 x6 x7 h1 =>
 ikY .lss x7 x6 fun x8 =>
 cdK x8 (
 iaK 1 x5 x7 fun x9 =>
 ld1 x9 h1 fun x10 =>
 ikY .lss x10 x4 fun x11 =>
 gdK x11 false (fun k => k x10 h1) (fun x12 h2 =>
 gdK x11 false (fun k => ikY .gtr x12 (.i .i64 9223373136366403584) fun y => k y h2) (fun x13 h3 =>
 pkK x11 (.b true) x13 fun x14 =>
 cdK x14 (
 k (.b false) h3) (
 ikY .add x7 (.i .i64 9223372036854775809) fun x15 =>
 x3 x4 x5 x6 x15 h3)) h2) h1) (
 k (.b true) h1)) [x0, x1, x2, (.i .i64 9223372036854775808)] h0) args h
noncomputable def s238 : FS := S238
noncomputable def a238 : Ann := (.s .o (.s (.s .o (.b (.l [0, 7, 8, 9] (.s .o (.s (.i .o .o) (.s (.b (.s .o (.s .o (.i (.s .o .o) .o)))) .o)))))) (.s .o .o)))
set_option maxRecDepth 100000 in
noncomputable def S239 (s89 : FS) : FS := fun args h k => capp 1 (fun x0 h0 =>
 boxK 233 13 x0 h0 fun x1 h1 =>
 faK 4 x1 fun x2 =>
 ld1 x2 h1 fun x3 =>
 faK 5 x1 fun x4 =>
 ld1 x4 h1 fun x5 =>
 faK 8 x1 fun x6 =>
 ld1 x6 h1 fun x7 =>
 lnLY x7 fun x8 =>
 capp 6 (lp 6 fun (x9 : CT 6) x10 x11 x12 x13 x14 x15 h2 =>
 ikY .lss x15 x14 fun x16 =>
 cdK x16 (
 iaK 4 x13 x15 fun x17 =>
 ldN 4 x17 h2 fun x18 =>
 boxK 164 4 z164 h2 fun x19 h3 =>
 stL 4 x19 x18 h3 fun h4 =>
 faK 0 x19 fun x20 =>
 ld1 x20 h4 fun x21 =>
 ikY .add x11 (.i .i64 9223372036854775809) fun x22 =>
 ikY .neq x21 x22 fun x23 =>
 gdK x23 false (fun k => faK 1 x19 fun y => k y h4) (fun x24 h5 =>
 gdK x23 false (fun k => ld1 x24 h5 fun y => k y h5) (fun x25 h6 =>
 gdK x23 false (fun k => k x12 h6) (fun x26 h7 =>
 gdK x23 false (fun k => ikY .lss x25 x26 fun y => k y h7) (fun x27 h8 =>
 pkK x23 (.b true) x27 fun x28 =>
 gdK x28 false (fun k => faK 1 x19 fun y => k y h8) (fun x29 h9 =>
 gdK x28 false (fun k => ld1 x29 h9 fun y => k y h9) (fun x30 h10 =>
 gdK x28 false (fun k => faK 3 x10 fun y => k y h10) (fun x31 h11 =>
 gdK x28 false (fun k => ld1 x31 h11 fun y => k y h11) (fun x32 h12 =>
 gdK x28 false (fun k => ikY .gtr x30 x32 fun y => k y h12) (fun x33 h13 =>
 pkK x28 (.b true) x33 fun x34 =>
 gdK x34 false (fun k => ldN 4 x19 h13 fun y => k y h13) (fun x35 h14 =>
 gdK x34 false (fun k => blK [(3, 4, x35)] Z166 fun y => k y h14) (fun x36 h15 =>
 gdK x34 false (fun k => s89 [x36] h15 k) (fun x37 h16 =>
 gdK x34 false (fun k => notK x37 fun y => k y h16) (fun x38 h17 =>
 pkK x34 (.b true) x38 fun x39 =>
 cdK x39 (
 k (.b false) h17) (
 faK 0 x19 fun x40 =>
 ld1 x40 h17 fun x41 =>
 faK 1 x19 fun x42 =>
 ld1 x42 h17 fun x43 =>
 ikY .add x15 (.i .i64 9223372036854775809) fun x44 =>
 x9 x10 x41 x43 x13 x14 x44 h17)) h16) h15) h14) h13) h12) h11) h10) h9) h8) h7) h6) h5) h4) (
 faK 8 x10 fun x45 =>
 ld1 x45 h2 fun x46 =>
 lnLY x46 fun x47 =>
 ikY .leq x47 (.i .i64 9223372036854775816) fun x48 =>
 gdK x48 true (fun k => faK 8 x10 fun y => k y h2) (fun x49 h18 =>
 gdK x48 true (fun k => ld1 x49 h18 fun y => k y h18) (fun x50 h19 =>
 gdK x48 true (fun k => lnLY x50 fun y => k y h19) (fun x51 h20 =>
 gdK x48 true (fun k => ikY .eql x51 (.i .i64 9223372036854775808) fun y => k y h20) (fun x52 h21 =>
 gdK x48 true (fun k => k x52 h21) (fun x53 h22 =>
 gdK x53 false (fun k => faK 0 x10 fun y => k y h22) (fun x54 h23 =>
 gdK x53 false (fun k => ld1 x54 h23 fun y => k y h23) (fun x55 h24 =>
 gdK x53 false (fun k => ikY .eql x55 (.i .i64 9223372036854775811) fun y => k y h24) (fun x56 h25 =>
 gdK x48 true (fun k => pkK x53 (.b true) x56 fun y => k y h25) (fun x57 h26 =>
 pkK x48 x57 (.b false) fun x58 =>
 k x58 h26) h25) h24) h23) h22) h21) h20) h19) h18) h2)) [x1, x3, x5, x7, x8, (.i .i64 9223372036854775808)] h1) args h
noncomputable def s239 : FS := S239 s89
noncomputable def a239 : Ann := (.s .o (.s (.g [0, 1, 2, 3, 4, 5]) (.s (.s .o (.b (.l [1, 3, 4, 12, 13, 14] (.s .o (.s (.i .o .o) (.s (.b (.s .o (.s (.s .o (.i (.s .o .o) .o)) (.g [0, 1, 2, 3, 4, 5])))) .o)))))) (.s .o .o))))
set_option maxRecDepth 100000 in
noncomputable def S186 (s237 s238 s239 s198 s78 : FS) : FS := fun args h k => capp 1 (fun x0 h0 =>
 boxK 233 13 x0 h0 fun x1 h1 =>
 faK 0 x1 fun x2 =>
 ld1 x2 h1 fun x3 =>
 ikY .lss x3 (.i .i64 9223372036854775809) fun x4 =>
 gdK x4 false (fun k => faK 0 x1 fun y => k y h1) (fun x5 h2 =>
 gdK x4 false (fun k => ld1 x5 h2 fun y => k y h2) (fun x6 h3 =>
 gdK x4 false (fun k => ikY .gtr x6 (.i .i64 9223372036854775813) fun y => k y h3) (fun x7 h4 =>
 pkK x4 (.b true) x7 fun x8 =>
 gdK x8 false (fun k => faK 1 x1 fun y => k y h4) (fun x9 h5 =>
 gdK x8 false (fun k => ld1 x9 h5 fun y => k y h5) (fun x10 h6 =>
 gdK x8 false (fun k => s237 [x10] h6 k) (fun x11 h7 =>
 gdK x8 false (fun k => notK x11 fun y => k y h7) (fun x12 h8 =>
 pkK x8 (.b true) x12 fun x13 =>
 gdK x13 false (fun k => faK 2 x1 fun y => k y h8) (fun x14 h9 =>
 gdK x13 false (fun k => ld1 x14 h9 fun y => k y h9) (fun x15 h10 =>
 gdK x13 false (fun k => s237 [x15] h10 k) (fun x16 h11 =>
 gdK x13 false (fun k => notK x16 fun y => k y h11) (fun x17 h12 =>
 pkK x13 (.b true) x17 fun x18 =>
 gdK x18 false (fun k => faK 3 x1 fun y => k y h12) (fun x19 h13 =>
 gdK x18 false (fun k => ld1 x19 h13 fun y => k y h13) (fun x20 h14 =>
 gdK x18 false (fun k => bsK 2 1 1 1 [x20] h14 k) (fun x21 h15 =>
 gdK x18 false (fun k => s238 [(.i .i64 9223372036854775809), x21] h15 k) (fun x22 h16 =>
 gdK x18 false (fun k => notK x22 fun y => k y h16) (fun x23 h17 =>
 pkK x18 (.b true) x23 fun x24 =>
 gdK x24 false (fun k => faK 4 x1 fun y => k y h17) (fun x25 h18 =>
 gdK x24 false (fun k => ld1 x25 h18 fun y => k y h18) (fun x26 h19 =>
 gdK x24 false (fun k => faK 5 x1 fun y => k y h19) (fun x27 h20 =>
 gdK x24 false (fun k => ld1 x27 h20 fun y => k y h20) (fun x28 h21 =>
 gdK x24 false (fun k => faK 6 x1 fun y => k y h21) (fun x29 h22 =>
 gdK x24 false (fun k => ld1 x29 h22 fun y => k y h22) (fun x30 h23 =>
 gdK x24 false (fun k => bsK 2 1 3 3 [x26, x28, x30] h23 k) (fun x31 h24 =>
 gdK x24 false (fun k => s238 [(.i .i64 9223372036854775808), x31] h24 k) (fun x32 h25 =>
 gdK x24 false (fun k => notK x32 fun y => k y h25) (fun x33 h26 =>
 pkK x24 (.b true) x33 fun x34 =>
 gdK x34 false (fun k => ldN 13 x1 h26 fun y => k y h26) (fun x35 h27 =>
 gdK x34 false (fun k => s239 [x35] h27 k) (fun x36 h28 =>
 gdK x34 false (fun k => notK x36 fun y => k y h28) (fun x37 h29 =>
 pkK x34 (.b true) x37 fun x38 =>
 cdK x38 (
 k (.b false) h29) (
 faK 7 x1 fun x39 =>
 ld1 x39 h29 fun x40 =>
 gdK x40 true (fun k => faK 0 x1 fun y => k y h29) (fun x41 h30 =>
 gdK x40 true (fun k => ld1 x41 h30 fun y => k y h30) (fun x42 h31 =>
 gdK x40 true (fun k => ikY .neq x42 (.i .i64 9223372036854775810) fun y => k y h31) (fun x43 h32 =>
 pkK x40 x43 (.b false) fun x44 =>
 gdK x44 true (fun k => faK 0 x1 fun y => k y h32) (fun x45 h33 =>
 gdK x44 true (fun k => ld1 x45 h33 fun y => k y h33) (fun x46 h34 =>
 gdK x44 true (fun k => ikY .neq x46 (.i .i64 9223372036854775812) fun y => k y h34) (fun x47 h35 =>
 pkK x44 x47 (.b false) fun x48 =>
 cdK x48 (
 k (.b false) h35) (
 faK 0 x1 fun x49 =>
 ld1 x49 h35 fun x50 =>
 ikY .neq x50 (.i .i64 9223372036854775813) fun x51 =>
 cdK x51 (
 faK 9 x1 fun x52 =>
 ldN 4 x52 h35 fun x53 =>
 blK [] Z124 fun x54 =>
 sqA .eql 124 x53 x54 fun x55 =>
 k x55 h35) (
 faK 9 x1 fun x56 =>
 faK 2 x56 fun x57 =>
 ld1 x57 h35 fun x58 =>
 s198 [x58] h35 fun x59 h36 =>
 exK x59 0 fun x60 =>
 exK x59 1 fun x61 =>
 gdK x61 true (fun k => faK 9 x1 fun y => k y h36) (fun x62 h37 =>
 gdK x61 true (fun k => ldN 4 x62 h37 fun y => k y h37) (fun x63 h38 =>
 gdK x61 true (fun k => s78 [x63] h38 k) (fun x64 h39 =>
 gdK x61 true (fun k => nsK .neq x64 .ns fun y => k y h39) (fun x65 h40 =>
 pkK x61 x65 (.b false) fun x66 =>
 k x66 h40) h39) h38) h37) h36))) h34) h33) h32) h31) h30) h29)) h28) h27) h26) h25) h24) h23) h22) h21) h20) h19) h18) h17) h16) h15) h14) h13) h12) h11) h10) h9) h8) h7) h6) h5) h4) h3) h2) h1) args h
noncomputable def s186 : FS := S186 s237 s238 s239 s198 s78
noncomputable def a186 : Ann := (.s .o (.s (.s .o (.i (.s .o .o) .o)) (.s (.s .o (.i (.s .o .o) .o)) (.s (.s .o (.i (.s .o .o) .o)) (.s .o (.s .o .o))))))
set_option maxRecDepth 100000 in
noncomputable def S163 (s83 : FS) : FS := fun args h k => capp 1 (fun x0 h0 =>
 boxK 233 13 x0 h0 fun x1 h1 =>
 boxK 233 13 z233 h1 fun x2 h2 =>
 faK 8 x1 fun x3 =>
 ld1 x3 h2 fun x4 =>
 s83 [x4] h2 fun x5 h3 =>
 faK 8 x1 fun x6 =>
 stL 1 x6 x5 h3 fun h4 =>
 ldN 13 x1 h4 fun x7 =>
 stL 13 x2 x7 h4 fun h5 =>
 ldN 13 x2 h5 fun x8 => k x8 h5) args h
noncomputable def s163 : FS := S163 s83
noncomputable def a163 : Ann := (.s .o (.s .o (.s .o .o)))
set_option maxRecDepth 100000 in
noncomputable def S152 (s186 s163 : FS) : FS := fun args h k => capp 2 (fun x0 x1 h0 =>
 boxK 233 13 x1 h0 fun x2 h1 =>
 npK .eql x0 .np fun x3 =>
 gdK x3 false (fun k => ldN 13 x2 h1 fun y => k y h1) (fun x4 h2 =>
 gdK x3 false (fun k => s186 [x4] h2 k) (fun x5 h3 =>
 gdK x3 false (fun k => notK x5 fun y => k y h3) (fun x6 h4 =>
 pkK x3 (.b true) x6 fun x7 =>
 gdK x7 false (fun k => k x0 h4) (fun x8 h5 =>
 gdK x7 false (fun k => ncK x8 fun y => k y h5) (fun x9 h6 =>
 gdK x7 false (fun k => faK 0 x9 fun y => k y h6) (fun x10 h7 =>
 gdK x7 false (fun k => ld1 x10 h7 fun y => k y h7) (fun x11 h8 =>
 gdK x7 false (fun k => lnLY x11 fun y => k y h8) (fun x12 h9 =>
 gdK x7 false (fun k => ikY .geq x12 (.i .i64 9223372036854776208) fun y => k y h9) (fun x13 h10 =>
 pkK x7 (.b true) x13 fun x14 =>
 cdK x14 (
 k (.b false) h10) (
 ncK x0 fun x15 =>
 faK 0 x15 fun x16 =>
 ld1 x16 h10 fun x17 =>
 ldN 13 x2 h10 fun x18 =>
 s163 [x18] h10 fun x19 h11 =>
 bsK 233 13 1 13 [x19] h11 fun x20 h12 =>
 apY 233 13 x17 x20 h12 fun x21 h13 =>
 ncK x0 fun x22 =>
 faK 0 x22 fun x23 =>
 stL 1 x23 x21 h13 fun h14 =>
 ld1 x16 h11 fun x24 => ifT (avEq x24 x17) <|
 ld1 x16 h12 fun x25 => ifT (avEq x25 x17) <|
 k (.b true) h14)) h9) h8) h7) h6) h5) h4) h3) h2) h1) args h
noncomputable def s152 : FS := S152 s186 s163
noncomputable def a152 : Ann := (.s .o (.s (.s .o (.i (.s .o .o) .o)) (.s (.g [0, 1, 2, 3, 4, 5, 6, 7, 8, 9, 10, 11]) (.s .o .o))))
set_option maxRecDepth 100000 in
noncomputable def S113 (s152 : FS) : FS := fun args h k => capp 2 (fun x0 x1 h0 =>
 lnLY x1 fun x2 =>
 capp 4 (lp 4 fun (x3 : CT 4) x4 x5 x6 x7 h1 =>
 ikY .lss x7 x6 fun x8 =>
 cdK x8 (
 iaK 13 x5 x7 fun x9 =>
 ldN 13 x9 h1 fun x10 =>
 boxK 233 13 z233 h1 fun x11 h2 =>
 stL 13 x11 x10 h2 fun h3 =>
 ncK x4 fun x12 =>
 faK 4 x12 fun x13 =>
 ld1 x13 h3 fun x14 =>
 ldN 13 x11 h3 fun x15 =>
 s152 [x14, x15] h3 fun x16 h4 =>
 ikY .add x7 (.i .i64 9223372036854775809) fun x17 =>
 x3 x4 x5 x6 x17 h4) (
 k (.t []) h1)) [x0, x1, x2, (.i .i64 9223372036854775808)] h0) args h
noncomputable def s113 : FS := S113 s152
noncomputable def a113 : Ann := (.s .o (.b (.l [0, 6, 7, 8] (.s .o (.s (.i .o .o) (.s (.b (.s .o (.g [0, 1, 2, 3, 4, 5]))) .o))))))
set_option maxRecDepth 100000 in
noncomputable def S62 (s61 s112 s114 s113 : FS) : FS := fun args h k => capp 2 (fun x0 x1 h0 =>
 s61 [x0, x1] h0 fun x2 h1 =>
 npK .eql x2 .np fun x3 =>
 gdK x3 false (fun k => k x2 h1) (fun x4 h2 =>
 gdK x3 false (fun k => s112 [x4] h2 k) (fun x5 h3 =>
 pkK x3 (.b true) x5 fun x6 =>
 cdK x6 (
 k (.i .i64 9223372036854775820) h3) (
 s114 [x2] h3 fun x7 h4 =>
 s113 [x0, x7] h4 fun x8 h5 =>
 k (.i .i64 9223372036854775808) h5)) h2) h1) args h
noncomputable def s62 : FS := S62 s61 s112 s114 s113
noncomputable def a62 : Ann := (.s .o (.s .o (.s (.s .o (.i (.s .o .o) .o)) (.s .o (.s .o .o)))))
set_option maxRecDepth 100000 in
noncomputable def S40 : FS := fun args h k => capp 1 (fun x0 h0 =>
 npK .eql x0 .np fun x1 =>
 cdK x1 (
 k .np h0) (
 ncK x0 fun x2 =>
 faK 4 x2 fun x3 =>
 ld1 x3 h0 fun x4 =>
 k x4 h0)) args h
noncomputable def s40 : FS := S40
noncomputable def a40 : Ann := (.s .o (.s (.s .o (.i (.s .o .o) .o)) (.s .o .o)))
set_option maxRecDepth 100000 in
noncomputable def S41 : FS := fun args h k => capp 1 (fun x0 h0 =>
 npK .eql x0 .np fun x1 =>
 cdK x1 (
 k (.i .i64 9223372036854775808) h0) (
 ncK x0 fun x2 =>
 faK 0 x2 fun x3 =>
 ld1 x3 h0 fun x4 =>
 lnLY x4 fun x5 =>
 k x5 h0)) args h
noncomputable def s41 : FS := S41
noncomputable def a41 : Ann := (.s .o (.s (.s .o (.i (.s .o .o) .o)) (.s .o .o)))
set_option maxRecDepth 100000 in
noncomputable def S122 (s41 s163 : FS) : FS := fun args h k => capp 2 (fun x0 x1 h0 =>
 boxK 233 13 z233 h0 fun x2 h1 =>
 ikY .lss x1 (.i .i64 9223372036854775808) fun x3 =>
 gdK x3 false (fun k => k x1 h1) (fun x4 h2 =>
 gdK x3 false (fun k => k x0 h2) (fun x5 h3 =>
 gdK x3 false (fun k => s41 [x5] h3 k) (fun x6 h4 =>
 gdK x3 false (fun k => ikY .geq x4 x6 fun y => k y h4) (fun x7 h5 =>
 pkK x3 (.b true) x7 fun x8 =>
 cdK x8 (
 blK [] Z233 fun x9 =>
 stL 13 x2 x9 h5 fun h6 =>
 ldN 13 x2 h6 fun x10 => k (.t [x10, (.b false)]) h6) (
 ncK x0 fun x11 =>
 faK 0 x11 fun x12 =>
 ld1 x12 h5 fun x13 =>
 iaK 13 x13 x1 fun x14 =>
 ldN 13 x14 h5 fun x15 =>
 s163 [x15] h5 fun x16 h7 =>
 stL 13 x2 x16 h7 fun h8 =>
 ldN 13 x2 h8 fun x17 => k (.t [x17, (.b true)]) h8)) h4) h3) h2) h1) args h
noncomputable def s122 : FS := S122 s41 s163
noncomputable def a122 : Ann := (.s .o (.s (.s .o (.i (.s .o .o) .o)) (.s .o .o)))
set_option maxRecDepth 100000 in
noncomputable def S164 : FS := fun args h k => capp 3 (fun x0 x1 x2 h0 =>
 lnLY x0 fun x3 =>
 sllK 13 (some x1) (some x2) (some x3) x0 fun x4 =>
 ikY .eql x1 x2 fun x5 =>
 cdK x5 (
 k x0 h0) (
 lnLY x0 fun x6 =>
 sllK 13 none (some x1) none x0 fun x7 =>
 sllK 13 (some x2) none none x0 fun x8 =>
 apY 233 13 x7 x8 h0 fun x9 h1 =>
 lnLY x9 fun x10 =>
 sllK 13 (some x10) (some x6) none x9 fun x11 =>
 clD 13 Z233 x11 h1 fun h2 =>
 k x9 h2)) args h
noncomputable def s164 : FS := S164
noncomputable def a164 : Ann := (.s .o (.s .o (.s (.s .o (.i (.s .o .o) .o)) (.s .o (.s (.g [0, 1, 2, 3, 4, 5, 6, 7]) (.s .o (.s .o .o)))))))
set_option maxRecDepth 100000 in
noncomputable def S123 (s41 s164 : FS) : FS := fun args h k => capp 2 (fun x0 x1 h0 =>
 ikY .lss x1 (.i .i64 9223372036854775808) fun x2 =>
 gdK x2 false (fun k => k x1 h0) (fun x3 h1 =>
 gdK x2 false (fun k => k x0 h1) (fun x4 h2 =>
 gdK x2 false (fun k => s41 [x4] h2 k) (fun x5 h3 =>
 gdK x2 false (fun k => ikY .geq x3 x5 fun y => k y h3) (fun x6 h4 =>
 pkK x2 (.b true) x6 fun x7 =>
 cdK x7 (
 k (.b false) h4) (
 ncK x0 fun x8 =>
 faK 0 x8 fun x9 =>
 ld1 x9 h4 fun x10 =>
 ikY .add x1 (.i .i64 9223372036854775809) fun x11 =>
 s164 [x10, x1, x11] h4 fun x12 h5 =>
 ncK x0 fun x13 =>
 faK 0 x13 fun x14 =>
 stL 1 x14 x12 h5 fun h6 =>
 k (.b true) h6)) h3) h2) h1) h0) args h
noncomputable def s123 : FS := S123 s41 s164
noncomputable def a123 : Ann := (.s .o (.s (.s .o (.i (.s .o .o) .o)) (.s .o (.s .o .o))))
set_option maxRecDepth 100000 in
noncomputable def S208 (s190 : FS) : FS := fun args h k => capp 2 (fun x0 x1 h0 =>
 blK [(0, 1, x1)] Z126 fun x2 =>
 s190 [x0, x2] h0 fun x3 h1 =>
 ncK x0 fun x4 =>
 faK 5 x4 fun x5 =>
 stL 1 x5 (.i .i64 9223372036854775808) h1 fun h2 =>
 ncK x0 fun x6 =>
 faK 6 x6 fun x7 =>
 stL 1 x7 (.i .i64 9223372036854775808) h2 fun h3 =>
 k (.t []) h3) args h
noncomputable def s208 : FS := S208 s190
noncomputable def a208 : Ann := (.s .o .o)
set_option maxRecDepth 100000 in
noncomputable def S250 (s91 s180 : FS) : FS := fun args h k => capp 3 (fun x0 x1 x2 h0 =>
 npK .eql x0 .np fun x3 =>
 cdK x3 (
 k (.b false) h0) (
 s91 [x0] h0 fun x4 h1 =>
 s180 [x0, x4] h1 fun x5 h2 =>
 exK x5 0 fun x6 =>
 exK x5 1 fun x7 =>
 ikY .gtr x2 x6 fun x8 =>
 gdK x8 false (fun k => k x2 h2) (fun x9 h3 =>
 gdK x8 false (fun k => k x6 h3) (fun x10 h4 =>
 gdK x8 false (fun k => ikY .eql x9 x10 fun y => k y h4) (fun x11 h5 =>
 gdK x8 false (fun k => k x11 h5) (fun x12 h6 =>
 gdK x12 true (fun k => k x1 h6) (fun x13 h7 =>
 gdK x12 true (fun k => k x0 h7) (fun x14 h8 =>
 gdK x12 true (fun k => s91 [x14] h8 k) (fun x15 h9 =>
 gdK x12 true (fun k => ikY .geq x13 x15 fun y => k y h9) (fun x16 h10 =>
 gdK x8 false (fun k => pkK x12 x16 (.b false) fun y => k y h10) (fun x17 h11 =>
 pkK x8 (.b true) x17 fun x18 =>
 k x18 h11) h10) h9) h8) h7) h6) h5) h4) h3) h2)) args h
noncomputable def s250 : FS := S250 s91 s180
noncomputable def a250 : Ann := (.s .o (.s (.s .o (.i (.s .o .o) .o)) (.s .o (.s .o .o))))
set_option maxRecDepth 100000 in
noncomputable def S209 (s250 s190 s196 : FS) : FS := fun args h k => capp 2 (fun x0 x1 h0 =>
 boxK 233 13 x1 h0 fun x2 h1 =>
 ncK x0 fun x3 =>
 faK 1 x3 fun x4 =>
 faK 1 x4 fun x5 =>
 ld1 x5 h1 fun x6 =>
 ikY .eql x6 (.i .i64 9223372036854775808) fun x7 =>
 gdK x7 false (fun k => k x0 h1) (fun x8 h2 =>
 gdK x7 false (fun k => ncK x8 fun y => k y h2) (fun x9 h3 =>
 gdK x7 false (fun k => faK 1 x9 fun y => k y h3) (fun x10 h4 =>
 gdK x7 false (fun k => faK 1 x10 fun y => k y h4) (fun x11 h5 =>
 gdK x7 false (fun k => ld1 x11 h5 fun y => k y h5) (fun x12 h6 =>
 gdK x7 false (fun k => faK 1 x2 fun y => k y h6) (fun x13 h7 =>
 gdK x7 false (fun k => ld1 x13 h7 fun y => k y h7) (fun x14 h8 =>
 gdK x7 false (fun k => ikY .eql x12 x14 fun y => k y h8) (fun x15 h9 =>
 pkK x7 (.b true) x15 fun x16 =>
 gdK x16 true (fun k => k x0 h9) (fun x17 h10 =>
 gdK x16 true (fun k => ncK x17 fun y => k y h10) (fun x18 h11 =>
 gdK x16 true (fun k => faK 3 x18 fun y => k y h11) (fun x19 h12 =>
 gdK x16 true (fun k => ld1 x19 h12 fun y => k y h12) (fun x20 h13 =>
 gdK x16 true (fun k => faK 4 x2 fun y => k y h13) (fun x21 h14 =>
 gdK x16 true (fun k => ld1 x21 h14 fun y => k y h14) (fun x22 h15 =>
 gdK x16 true (fun k => faK 5 x2 fun y => k y h15) (fun x23 h16 =>
 gdK x16 true (fun k => ld1 x23 h16 fun y => k y h16) (fun x24 h17 =>
 gdK x16 true (fun k => s250 [x20, x22, x24] h17 k) (fun x25 h18 =>
 pkK x16 x25 (.b false) fun x26 =>
 jn 3 (fun x27 : CT 3 =>
 cdK x26 (
 ncK x0 fun x28 =>
 faK 1 x28 fun x29 =>
 faK 0 x29 fun x30 =>
 ld1 x30 h18 fun x31 =>
 faK 1 x2 fun x32 =>
 ld1 x32 h18 fun x33 =>
 blK [(0, 1, x31), (1, 1, x33)] Z126 fun x34 =>
 s190 [x0, x34] h18 fun x35 h19 =>
 ncK x0 fun x36 =>
 faK 7 x36 fun x37 =>
 stL 1 x37 (.b true) h19 fun h20 =>
 x27 x0 x2 x26 h20) (
 x27 x0 x2 x26 h18)) fun x38 x39 x40 h21 =>
 faK 1 x39 fun x41 =>
 ld1 x41 h21 fun x42 =>
 blK [(0, 1, (.i .i64 9223372036854775810)), (2, 1, x42), (7, 1, x40)] Z233 fun x43 =>
 s196 [x38, x43] h21 fun x44 h22 =>
 k (.t []) h22) h17) h16) h15) h14) h13) h12) h11) h10) h9) h8) h7) h6) h5) h4) h3) h2) h1) args h
noncomputable def s209 : FS := S209 s250 s190 s196
noncomputable def a209 : Ann := (.s .o (.s (.g [0, 1, 2, 3, 4, 5, 6, 7, 8, 9, 10, 11, 12, 13, 14, 15, 16, 17, 18, 19, 20, 21, 22, 23, 24, 25, 26, 27]) (.s (.s .o (.j [0, 3, 4] (.s (.g [0, 1, 2, 3, 4, 5, 6, 7, 8, 9]) .o) .o)) .o)))
noncomputable def s251 : FS := sx
noncomputable def s252 : FS := sx
set_option maxRecDepth 100000 in
noncomputable def S210 (s192 s251 s193 s194 s252 : FS) : FS := fun args h k => capp 2 (fun x0 x1 h0 =>
 boxK 233 13 x1 h0 fun x2 h1 =>
 ncK x0 fun x3 =>
 faK 5 x3 fun x4 =>
 ld1 x4 h1 fun x5 =>
 ikY .neq x5 (.i .i64 9223372036854775809) fun x6 =>
 cdK x6 (
 k (.t []) h1) (
 faK 7 x2 fun x7 =>
 ld1 x7 h1 fun x8 =>
 jn 1 (fun x9 : CT 1 =>
 cdK x8 (
 ncK x0 fun x10 =>
 faK 8 x10 fun x11 =>
 ld1 x11 h1 fun x12 =>
 faK 1 x2 fun x13 =>
 ld1 x13 h1 fun x14 =>
 s192 [x12, x14] h1 fun x15 h2 =>
 x9 x0 h2) (
 ncK x0 fun x16 =>
 faK 8 x16 fun x17 =>
 ld1 x17 h1 fun x18 =>
 faK 1 x2 fun x19 =>
 ld1 x19 h1 fun x20 =>
 s251 [x18, x20] h1 fun x21 h3 =>
 x9 x0 h3)) fun x22 h4 =>
 ncK x22 fun x23 =>
 faK 8 x23 fun x24 =>
 ld1 x24 h4 fun x25 =>
 s193 [x25] h4 fun x26 h5 =>
 cdK x26 (
 s194 [x22] h5 fun x27 h6 =>
 k (.t []) h6) (
 ncK x22 fun x28 =>
 faK 8 x28 fun x29 =>
 ld1 x29 h5 fun x30 =>
 s252 [x30] h5 fun x31 h7 =>
 cdK x31 (
 ncK x22 fun x32 =>
 faK 5 x32 fun x33 =>
 stL 1 x33 (.i .i64 9223372036854775808) h7 fun h8 =>
 k (.t []) h8) (
 k (.t []) h7)))) args h
noncomputable def s210 : FS := S210 s192 s251 s193 s194 s252
noncomputable def a210 : Ann := (.s .o (.s (.s .o (.i .o .o)) (.s (.s .o (.j [0] (.g [0, 1, 2, 3, 4, 5, 6]) (.g [0, 1, 2, 3, 4, 5, 6]))) (.b (.s .o (.i .o (.s .o (.i .o .o))))))))
set_option maxRecDepth 100000 in
noncomputable def S253 : FS := fun args h k => capp 2 (fun x0 x1 h0 =>
 boxK 233 13 x1 h0 fun x2 h1 =>
 ncK x0 fun x3 =>
 faK 5 x3 fun x4 =>
 ld1 x4 h1 fun x5 =>
 ikY .eql x5 (.i .i64 9223372036854775810) fun x6 =>
 cdK x6 (
 k (.b false) h1) (
 faK 1 x2 fun x7 =>
 ld1 x7 h1 fun x8 =>
 ncK x0 fun x9 =>
 faK 5 x9 fun x10 =>
 stL 1 x10 (.i .i64 9223372036854775808) h1 fun h2 =>
 ncK x0 fun x11 =>
 faK 6 x11 fun x12 =>
 stL 1 x12 x8 h2 fun h3 =>
 ncK x0 fun x13 =>
 faK 7 x13 fun x14 =>
 stL 1 x14 (.b true) h3 fun h4 =>
 ld1 x7 h2 fun x15 => ifT (avEq x15 x8) <|
 k (.b true) h4)) args h
noncomputable def s253 : FS := S253
noncomputable def a253 : Ann := (.s .o (.s (.s .o (.i (.s .o .o) .o)) (.s (.g [0, 1, 2, 3, 4, 5, 6, 7, 8, 9, 10, 11, 12, 13]) (.s .o .o))))
end Go.Proofs.YtmddhlfjilkdfaaGreatDoor
