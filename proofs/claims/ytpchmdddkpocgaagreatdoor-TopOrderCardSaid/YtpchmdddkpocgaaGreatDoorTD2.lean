/-
  No claim by itself: what the functions' texts mean. No condition.
-/
import Derived.Test.YtpchmdddkpocgaaGreatDoorTD1
namespace Go.Proofs.YtpchmdddkpocgaaGreatDoor
set_option linter.unusedVariables false
set_option maxRecDepth 100000
noncomputable def S110 (s79 s152 s185 s184 : FS) : FS := fun args h k => capp 2 (fun x0 x1 h0 =>
 boxK 48 3 x1 h0 fun x2 h1 =>
 boxK 50 5 z50 h1 fun x3 h2 =>
 npK .eql x0 .np fun x4 =>
 gdK x4 false (fun k => ldN 3 x2 h2 fun y => k y h2) (fun x5 h3 =>
 gdK x4 false (fun k => s79 [x5] h3 k) (fun x6 h4 =>
 gdK x4 false (fun k => notK x6 fun y => k y h4) (fun x7 h5 =>
 pkK x4 (.b true) x7 fun x8 =>
 gdK x8 false (fun k => faK 1 x2 fun y => k y h5) (fun x9 h6 =>
 gdK x8 false (fun k => ld1 x9 h6 fun y => k y h6) (fun x10 h7 =>
 gdK x8 false (fun k => k x0 h7) (fun x11 h8 =>
 gdK x8 false (fun k => faK 0 x2 fun y => k y h8) (fun x12 h9 =>
 gdK x8 false (fun k => ld1 x12 h9 fun y => k y h9) (fun x13 h10 =>
 gdK x8 false (fun k => s152 [x11, x13] h10 k) (fun x14 h11 =>
 gdK x8 false (fun k => ikY .add x14 (.i .i64 9223372036854775809) fun y => k y h11) (fun x15 h12 =>
 gdK x8 false (fun k => ikY .neq x10 x15 fun y => k y h12) (fun x16 h13 =>
 pkK x8 (.b true) x16 fun x17 =>
 gdK x8 false (fun k => ld1 x9 h11 fun y => k y h11) (fun x18 _ => ifT (avEq x18 x10) <|
 cdK x17 (
 blK [] Z50 fun x19 =>
 stL 5 x3 x19 h13 fun h14 =>
 ldN 5 x3 h14 fun x20 => k (.t [x20, (.b false)]) h14) (
 ncK x0 fun x21 =>
 faK 0 x21 fun x22 =>
 ld1 x22 h13 fun x23 =>
 ikY .add x23 (.i .i64 9223372036854775809) fun x24 =>
 ncK x0 fun x25 =>
 faK 0 x25 fun x26 =>
 stL 1 x26 x24 h13 fun h15 =>
 ncK x0 fun x27 =>
 faK 0 x27 fun x28 =>
 ld1 x28 h15 fun x29 =>
 ldN 3 x2 h15 fun x30 =>
 ncK x0 fun x31 =>
 faK 1 x31 fun x32 =>
 ld1 x32 h15 fun x33 =>
 faK 2 x2 fun x34 =>
 ld1 x34 h15 fun x35 =>
 s185 [x33, x35] h15 fun x36 h16 =>
 blK [(0, 1, x29), (1, 3, x30), (4, 1, x36)] Z50 fun x37 =>
 s184 [x37] h16 fun x38 h17 =>
 boxK 50 5 z50 h17 fun x39 h18 =>
 stL 5 x39 x38 h18 fun h19 =>
 ld1 x28 h16 fun x40 => ifT (avEq x40 x29) <|
 ldN 3 x2 h16 fun x41 => ifT (avEq x41 x30) <|
 faK 0 x2 fun x42 =>
 ld1 x42 h19 fun x43 =>
 faK 1 x2 fun x44 =>
 ld1 x44 h19 fun x45 =>
 ldN 5 x39 h19 fun x46 =>
 blK [(0, 1, x45), (1, 5, x46)] Z177 fun x47 =>
 ncK x0 fun x48 =>
 faK 2 x48 fun x49 =>
 iapK 6 6 x49 x43 fun x50 =>
 stL 6 x50 x47 h19 fun h20 =>
 ldN 5 x39 h20 fun x51 =>
 s184 [x51] h20 fun x52 h21 =>
 stL 5 x3 x52 h21 fun h22 =>
 ldN 5 x3 h22 fun x53 => k (.t [x53, (.b true)]) h22)) h11) h12) h11) h10) h9) h8) h7) h6) h5) h4) h3) h2) args h
noncomputable def s110 : FS := S110 s79 s152 s185 s184
noncomputable def a110 : Ann := (.s .o (.s (.s (.g [0, 1, 2, 3, 4, 5, 6, 7, 8, 9, 10, 11, 12, 13, 14, 15, 16]) (.i (.s .o .o) .o)) (.s .o (.s (.g [0, 1, 2, 3, 4, 5, 6, 7, 8, 9, 10, 11, 12, 13, 14, 15]) (.s (.g [0, 1, 2, 3, 4, 5, 6, 7, 8, 9, 10]) (.s .o .o))))))
noncomputable def a63 : Ann := (.s .o (.s .o (.s .o (.s (.s .o (.i (.s .o .o) .o)) (.s .o (.s (.s .o (.i (.s .o .o) .o)) (.s .o (.s .o (.s (.s .o (.b (.l [4, 5, 10, 11, 65, 66] (.s .o (.s (.i .o .o) (.s (.b (.s .o (.s (.s .o (.i (.s .o .o) .o)) (.s .o (.s .o (.s (.s .o (.i (.s .o .o) .o)) (.s (.g [0, 1, 2, 3, 4, 5, 6, 7, 8, 9, 10, 11]) (.s (.s .o (.i (.s .o .o) .o)) (.g [0, 1, 2, 3, 4, 5, 6, 7, 8, 9, 10]))))))))) .o)))))) (.s .o (.s (.s .o (.i (.s .o .o) .o)) (.s .o .o))))))))))))
noncomputable def s63 : FS := fnF Tryz.prog [(107, s107), (60, s60), (108, s108), (109, s109), (110, s110), (61, s61), (111, s111)] MM Tryz.f63 a63
noncomputable def a187 : Ann := (.s .o (.s .o .o))
noncomputable def s187 : FS := fnF Tryz.prog [] MM Tryz.f187 a187
noncomputable def a223 : Ann := (.s .o (.s (.s .o (.b (.l [0, 1, 7, 8] (.s .o (.s (.i .o .o) (.s (.b (.s .o (.s .o (.i (.s .o .o) .o)))) .o)))))) (.s .o .o)))
noncomputable def s223 : FS := fnF Tryz.prog [(187, s187)] MM Tryz.f223 a223
noncomputable def a186 : Ann := (.s .o (.s .o .o))
noncomputable def s186 : FS := fnF Tryz.prog [(223, s223)] MM Tryz.f186 a186
noncomputable def a115 : Ann := (.s .o (.s .o .o))
noncomputable def s115 : FS := fnF Tryz.prog [(186, s186)] MM Tryz.f115 a115
noncomputable def S116 : FS := fun args h k => capp 3 (fun x0 x1 x2 h0 =>
 lnLY x2 fun x3 =>
 capp 5 (lp 5 fun (x4 : CT 5) x5 x6 x7 x8 x9 h1 =>
 ikY .lss x9 x8 fun x10 =>
 cdK x10 (
 iaK 4 x7 x9 fun x11 =>
 ldN 4 x11 h1 fun x12 =>
 boxK 193 4 z193 h1 fun x13 h2 =>
 stL 4 x13 x12 h2 fun h3 =>
 faK 0 x13 fun x14 =>
 ld1 x14 h3 fun x15 =>
 ikY .add x5 (.i .i64 9223372036854775809) fun x16 =>
 ikY .neq x15 x16 fun x17 =>
 gdK x17 false (fun k => faK 1 x13 fun y => k y h3) (fun x18 h4 =>
 gdK x17 false (fun k => ld1 x18 h4 fun y => k y h4) (fun x19 h5 =>
 gdK x17 false (fun k => k x6 h5) (fun x20 h6 =>
 gdK x17 false (fun k => ikY .lss x19 x20 fun y => k y h6) (fun x21 h7 =>
 pkK x17 (.b true) x21 fun x22 =>
 cdK x22 (
 k (.b false) h7) (
 faK 0 x13 fun x23 =>
 ld1 x23 h7 fun x24 =>
 faK 1 x13 fun x25 =>
 ld1 x25 h7 fun x26 =>
 ikY .add x9 (.i .i64 9223372036854775809) fun x27 =>
 x4 x24 x26 x7 x8 x27 h7)) h6) h5) h4) h3) (
 k (.b true) h1)) [x0, x1, x2, x3, (.i .i64 9223372036854775808)] h0) args h
noncomputable def s116 : FS := S116
noncomputable def a116 : Ann := (.s .o (.s (.s .o (.b (.l [0, 1, 9, 10, 11] (.s .o (.s (.i .o .o) (.s (.b (.s .o (.s (.s .o (.i (.s .o .o) .o)) (.g [0, 1, 2, 3, 4, 5])))) .o)))))) (.s .o .o)))
def Z221 : List AV := [(.i .i64 9223372036854775808), (.i .i64 9223372036854775808), (.s 0 []), (.s 0 []), .ns]
def z221 : AV := .a Z221
noncomputable def a65 : Ann := (.s .o (.s (.s .o (.i (.s .o .o) .o)) (.s (.g [0, 1, 2, 3, 4, 5]) .o)))
noncomputable def s65 : FS := fnF Tryz.prog [(115, s115), (116, s116), (106, s106)] MM Tryz.f65 a65
noncomputable def a113 : Ann := (.s .o (.s (.s .o (.i (.s .o .o) .o)) (.s .o .o)))
noncomputable def s113 : FS := fnF Tryz.prog [] MM Tryz.f113 a113
noncomputable def S114 : FS := fun args h k => capp 1 (fun x0 h0 =>
 npK .eql x0 .np fun x1 =>
 cdK x1 (
 k (.i .i64 9223372036854775808) h0) (
 ncK x0 fun x2 =>
 faK 0 x2 fun x3 =>
 faK 0 x3 fun x4 =>
 ld1 x4 h0 fun x5 =>
 ncK x0 fun x6 =>
 faK 4 x6 fun x7 =>
 ld1 x7 h0 fun x8 =>
 lnLY x8 fun x9 =>
 ikY .add x5 x9 fun x10 =>
 k x10 h0)) args h
noncomputable def s114 : FS := S114
noncomputable def a114 : Ann := (.s .o (.s (.s .o (.i (.s .o .o) .o)) (.s (.g [0, 1, 2, 3, 4, 5, 6, 7, 8, 9, 10, 11]) .o)))
def Z99 : List AV := [(.i .i64 9223372036854775808), (.i .i64 9223372036854775808), (.i .i64 9223372036854775808), .np, (.i .i64 9223372036854775808), (.i .i64 9223372036854775808), (.i .i64 9223372036854775808), (.b false), .np, .np, .ns, (.b false), (.i .i64 9223372036854775808), (.b false)]
def z99 : AV := .a Z99
noncomputable def a64 : Ann := (.s .o (.s (.s .o (.i (.s .o .o) .o)) (.s .o .o)))
noncomputable def s64 : FS := fnF Tryz.prog [(112, s112), (113, s113), (114, s114)] MM Tryz.f64 a64
noncomputable def S66 : FS := fun args h k => capp 1 (fun x0 h0 =>
 npK .eql x0 .np fun x1 =>
 cdK x1 (
 k (.i .i64 9223372036854775808) h0) (
 ncK x0 fun x2 =>
 faK 0 x2 fun x3 =>
 ld1 x3 h0 fun x4 =>
 k x4 h0)) args h
noncomputable def s66 : FS := S66
noncomputable def a66 : Ann := (.s .o (.s (.s .o (.i (.s .o .o) .o)) (.s .o .o)))
def Z89 : List AV := [.np, .np, .np, (.b false)]
def z89 : AV := .a Z89
noncomputable def a35 : Ann := (.s .o (.s (.s .o (.i (.s .o .o) .o)) (.s .o (.s (.s .o (.i (.s .o .o) .o)) (.s (.s .o (.j [0, 8] (.s .o (.s .o (.i (.s .o .o) .o))) .o)) (.s .o (.s .o (.s (.g [0, 1, 2, 3, 4, 5, 6, 8, 9, 10, 7, 11, 12]) (.s (.s (.g [0, 1, 2, 3, 4, 5, 6, 7, 9, 10, 11, 8, 12, 13]) (.i (.s .o .o) .o)) (.s .o .o))))))))))
noncomputable def s35 : FS := fnF Tryz.prog [(55, s55), (56, s56), (57, s57), (59, s59), (60, s60), (61, s61), (58, s58), (62, s62), (63, s63), (65, s65), (64, s64), (66, s66)] MM Tryz.f35 a35
def Z117 : List AV := [.np, .ns]
def z117 : AV := .a Z117
noncomputable def a117 : Ann := (.s .o (.s .o .o))
noncomputable def s117 : FS := fnF Tryz.prog [(103, s103)] MM Tryz.f117 a117
noncomputable def s120 : FS := sx
def Z226 : List AV := [(.i .i64 9223372036854775808), .ns]
def z226 : AV := .a Z226
noncomputable def a118 : Ann := (.s .o (.s .o (.s .o (.s (.k [4, 5] (.l [0, 4, 5] (.s (.s .o (.i .o .o)) (.b (.s .o (.s (.s .o (.i .o .o)) (.s .o .o))))))) (.s .o .o)))))
noncomputable def s118 : FS := fnF Tryz.prog [(120, s120)] MM Tryz.f118 a118
noncomputable def s119 : FS := sx
def Z114 : List AV := [.np, (.i .i64 9223372036854775808), .ns, .np]
def z114 : AV := .a Z114
noncomputable def a67 : Ann := (.s .o (.s (.s .o (.i (.s .o .o) .o)) (.s .o (.s .o (.s .o (.s (.s .o (.b (.l [0, 6, 7, 10, 39, 40, 41] (.s .o (.s (.i .o .o) (.s (.b (.s .o (.s .o (.i (.s .o .o) .o)))) .o)))))) (.s (.s .o (.j [6] (.s (.s .o (.s .o (.i (.s .o .o) .o))) (.s .o (.s .o (.i (.s .o .o) .o)))) .o)) (.s .o .o))))))))
noncomputable def s67 : FS := fnF Tryz.prog [(117, s117), (94, s94), (118, s118), (119, s119), (120, s120), (98, s98)] MM Tryz.f67 a67
def Z73 : List AV := [.np]
def z73 : AV := .a Z73
noncomputable def a36 : Ann := (.s .o (.s .o (.s (.s .o (.i (.s .o .o) .o)) (.s .o .o))))
noncomputable def s36 : FS := fnF Tryz.prog [(67, s67)] MM Tryz.f36 a36
def Z69 : List AV := [.nm, .nm, .nm, .nm, .np]
def z69 : AV := .a Z69
noncomputable def a17 : Ann := (.s .o (.s .o (.s .o (.s (.s .o (.b (.l [0, 1, 5, 6, 7] (.s (.s .o (.i .o .o)) (.s (.b .o) .o))))) (.s (.s .o (.b (.l [1, 5, 6, 8] (.s (.s .o (.i .o .o)) (.s (.b (.g [0, 1, 2, 3, 4, 5, 6])) .o))))) (.s (.s .o (.b (.l [1, 5, 6, 44, 45, 46] (.s .o (.s (.i .o .o) (.s (.b (.s .o (.s .o (.s .o (.j [1, 5, 6, 44, 45, 46] .o .o))))) .o)))))) (.s (.s .o (.b (.l [1, 5, 13] (.s (.s .o (.i .o .o)) (.s (.b (.s (.g [0, 1, 2, 3, 4, 5, 6]) (.s .o (.s .o (.j [1, 5, 13] .o .o))))) .o))))) (.s .o .o))))))))
noncomputable def s17 : FS := fnF Tryz.prog [(33, s33), (34, s34), (35, s35), (36, s36)] MM Tryz.f17 a17
noncomputable def S13 : FS := fun args h k => capp 2 (fun x0 x1 h0 =>
 npK .eql x0 .np fun x2 =>
 cdK x2 (
 k .np h0) (
 ncK x0 fun x3 =>
 faK 1 x3 fun x4 =>
 ld1 x4 h0 fun x5 =>
 lkK false false .np x5 x1 h0 fun x6 =>
 k x6 h0)) args h
noncomputable def s13 : FS := S13
noncomputable def a13 : Ann := (.s .o (.s (.s .o (.i (.s .o .o) .o)) (.s .o .o)))
noncomputable def S73 (s90 : FS) : FS := fun args h k => capp 1 (fun x0 h0 =>
 boxK 48 3 x0 h0 fun x1 h1 =>
 boxK 48 3 z48 h1 fun x2 h2 =>
 faK 2 x1 fun x3 =>
 ld1 x3 h2 fun x4 =>
 s90 [x4] h2 fun x5 h3 =>
 faK 2 x1 fun x6 =>
 stL 1 x6 x5 h3 fun h4 =>
 ldN 3 x1 h4 fun x7 =>
 stL 3 x2 x7 h4 fun h5 =>
 ldN 3 x2 h5 fun x8 => k x8 h5) args h
noncomputable def s73 : FS := S73 s90
noncomputable def a73 : Ann := (.s .o (.s .o (.s .o .o)))
noncomputable def S144 (s152 : FS) : FS := fun args h k => capp 2 (fun x0 x1 h0 =>
 ncK x0 fun x2 =>
 faK 0 x2 fun x3 =>
 ld1 x3 h0 fun x4 =>
 s152 [x4, x1] h0 fun x5 h1 =>
 k x5 h1) args h
noncomputable def s144 : FS := S144 s152
noncomputable def a144 : Ann := (.s .o (.s .o .o))
noncomputable def S75 (s144 : FS) : FS := fun args h k => capp 1 (fun x0 h0 =>
 ncK x0 fun x1 =>
 faK 2 x1 fun x2 =>
 ld1 x2 h0 fun x3 =>
 lnLY x3 fun x4 =>
 ncK x0 fun x5 =>
 faK 3 x5 fun x6 =>
 ld1 x6 h0 fun x7 =>
 ncK x0 fun x8 =>
 faK 1 x8 fun x9 =>
 ld1 x9 h0 fun x10 =>
 s144 [x7, x10] h0 fun x11 h1 =>
 ikY .sub x4 x11 fun x12 =>
 ld1 x2 h1 fun x13 => ifT (avEq x13 x3) <|
 k x12 h1) args h
noncomputable def s75 : FS := S75 s144
noncomputable def a75 : Ann := (.s .o (.s (.g [0, 1, 2, 3, 4, 5, 6, 7, 8, 9, 10, 11, 12, 13, 14, 15]) .o))
noncomputable def S145 (s177 : FS) : FS := fun args h k => capp 3 (fun x0 x1 x2 h0 =>
 npK .eql x0 .np fun x3 =>
 cdK x3 (
 k (.i .i64 9223372036854775821) h0) (
 ncK x0 fun x4 =>
 faK 1 x4 fun x5 =>
 ld1 x5 h0 fun x6 =>
 ikY .add x6 (.i .i64 9223372036854775809) fun x7 =>
 ncK x0 fun x8 =>
 faK 1 x8 fun x9 =>
 stL 1 x9 x7 h0 fun h1 =>
 s177 [x1] h1 fun x10 h2 =>
 notK x10 fun x11 =>
 cdK x11 (
 k (.i .i64 9223372036854775809) h2) (
 ncK x0 fun x12 =>
 faK 0 x12 fun x13 =>
 ld1 x13 h2 fun x14 =>
 lkK true false .np x14 x1 h2 fun x15 =>
 npK .eql x15 .np fun x16 =>
 jn 4 (fun x17 : CT 4 =>
 cdK x16 (
 blK [] Z265 fun x18 =>
 boxK 265 3 x18 h2 fun x19 h3 =>
 x17 x0 x1 x2 x19 h3) (
 x17 x0 x1 x2 x15 h2)) fun x20 x21 x22 x23 h4 =>
 ncK x23 fun x24 =>
 faK 0 x24 fun x25 =>
 ld1 x25 h4 fun x26 =>
 lnLY x26 fun x27 =>
 lnLY x22 fun x28 =>
 ikY .sub (.i .i64 9223372036855824384) x28 fun x29 =>
 ikY .gtr x27 x29 fun x30 =>
 cdK x30 (
 k (.i .i64 9223372036854775813) h4) (
 ncK x23 fun x31 =>
 faK 0 x31 fun x32 =>
 ld1 x32 h4 fun x33 =>
 apY 5 1 x33 x22 h4 fun x34 h5 =>
 ncK x23 fun x35 =>
 faK 0 x35 fun x36 =>
 stL 1 x36 x34 h5 fun h6 =>
 ncK x20 fun x37 =>
 faK 0 x37 fun x38 =>
 ld1 x38 h6 fun x39 =>
 muD true x39 x21 x23 h6 fun h7 =>
 k (.i .i64 9223372036854775808) h7)))) args h
noncomputable def s145 : FS := S145 s177
noncomputable def a145 : Ann := (.s .o (.s (.s .o (.i (.s .o .o) .o)) (.s .o (.s (.s .o (.i (.s .o .o) .o)) (.s .o (.s (.s .o (.j [0, 1, 2, 7] .o .o)) (.s (.s .o (.i (.s .o .o) .o)) (.s .o (.s .o (.s .o .o))))))))))
noncomputable def S146 : FS := fun args h k => capp 2 (fun x0 x1 h0 =>
 npK .eql x0 .np fun x2 =>
 cdK x2 (
 k (.i .i64 9223372036854775821) h0) (
 ncK x0 fun x3 =>
 faK 1 x3 fun x4 =>
 ld1 x4 h0 fun x5 =>
 ikY .add x5 (.i .i64 9223372036854775809) fun x6 =>
 ncK x0 fun x7 =>
 faK 1 x7 fun x8 =>
 stL 1 x8 x6 h0 fun h1 =>
 ncK x0 fun x9 =>
 faK 0 x9 fun x10 =>
 ld1 x10 h1 fun x11 =>
 lkK true false .np x11 x1 h1 fun x12 =>
 npK .eql x12 .np fun x13 =>
 cdK x13 (
 k (.i .i64 9223372036854775821) h1) (
 ncK x12 fun x14 =>
 faK 0 x14 fun x15 =>
 ld1 x15 h1 fun x16 =>
 lnLY x16 fun x17 =>
 ncK x12 fun x18 =>
 faK 1 x18 fun x19 =>
 stL 1 x19 x17 h1 fun h2 =>
 ncK x12 fun x20 =>
 faK 2 x20 fun x21 =>
 stL 1 x21 (.b true) h2 fun h3 =>
 k (.i .i64 9223372036854775808) h3))) args h
noncomputable def s146 : FS := S146
noncomputable def a146 : Ann := (.s .o (.s (.s .o (.i (.s .o .o) .o)) (.s .o (.s .o (.s (.s .o (.i (.s .o .o) .o)) (.s .o (.s .o .o)))))))
noncomputable def S76 (s145 s146 : FS) : FS := fun args h k => capp 2 (fun x0 x1 h0 =>
 ncK x0 fun x2 =>
 faK 0 x2 fun x3 =>
 ld1 x3 h0 fun x4 =>
 s145 [x4, (.s 5 [113, 117, 101, 117, 101]), x1] h0 fun x5 h1 =>
 ikY .neq x5 (.i .i64 9223372036854775808) fun x6 =>
 cdK x6 (
 k x5 h1) (
 ncK x0 fun x7 =>
 faK 0 x7 fun x8 =>
 ld1 x8 h1 fun x9 =>
 s146 [x9, (.s 5 [113, 117, 101, 117, 101])] h1 fun x10 h2 =>
 k x10 h2)) args h
noncomputable def s76 : FS := S76 s145 s146
noncomputable def a76 : Ann := (.s .o (.s (.s .o (.s .o (.i (.s .o .o) .o))) (.s .o .o)))
noncomputable def S41 (s73 s74 s75 s77 s76 : FS) : FS := fun args h k => capp 2 (fun x0 x1 h0 =>
 boxK 48 3 z48 h0 fun x2 h1 =>
 npK .eql x0 .np fun x3 =>
 cdK x3 (
 blK [] Z48 fun x4 =>
 stL 3 x2 x4 h1 fun h2 =>
 ldN 3 x2 h2 fun x5 => k (.t [x5, (.i .i64 9223372036854775820)]) h2) (
 ncK x0 fun x6 =>
 faK 1 x6 fun x7 =>
 ld1 x7 h1 fun x8 =>
 ncK x0 fun x9 =>
 faK 2 x9 fun x10 =>
 ld1 x10 h1 fun x11 =>
 lnLY x11 fun x12 =>
 ikY .add x12 (.i .i64 9223372036854775809) fun x13 =>
 blK [(0, 1, x8), (1, 1, x13), (2, 1, x1)] Z48 fun x14 =>
 s73 [x14] h1 fun x15 h3 =>
 boxK 48 3 z48 h3 fun x16 h4 =>
 stL 3 x16 x15 h4 fun h5 =>
 ldN 3 x16 h5 fun x17 =>
 s74 [x17] h5 fun x18 h6 =>
 nsK .eql x18 .ns fun x19 =>
 cdK x19 (
 blK [] Z48 fun x20 =>
 stL 3 x2 x20 h6 fun h7 =>
 ldN 3 x2 h7 fun x21 => k (.t [x21, (.i .i64 9223372036854775809)]) h7) (
 s75 [x0] h6 fun x22 h8 =>
 ikY .geq x22 (.i .i64 9223372036854775838) fun x23 =>
 cdK x23 (
 blK [] Z48 fun x24 =>
 stL 3 x2 x24 h8 fun h9 =>
 ldN 3 x2 h9 fun x25 => k (.t [x25, (.i .i64 9223372036854775813)]) h9) (
 s77 [(.i .i64 9223372036854775809), x18] h8 fun x26 h10 =>
 s76 [x0, x26] h10 fun x27 h11 =>
 ikY .neq x27 (.i .i64 9223372036854775808) fun x28 =>
 cdK x28 (
 blK [] Z48 fun x29 =>
 stL 3 x2 x29 h11 fun h12 =>
 ldN 3 x2 h12 fun x30 => k (.t [x30, x27]) h12) (
 ncK x0 fun x31 =>
 faK 2 x31 fun x32 =>
 ld1 x32 h11 fun x33 =>
 ldN 3 x16 h11 fun x34 =>
 bsK 48 3 1 3 [x34] h11 fun x35 h13 =>
 apY 48 3 x33 x35 h13 fun x36 h14 =>
 ncK x0 fun x37 =>
 faK 2 x37 fun x38 =>
 stL 1 x38 x36 h14 fun h15 =>
 ld1 x32 h13 fun x39 => ifT (avEq x39 x33) <|
 ldN 3 x16 h15 fun x40 =>
 s73 [x40] h15 fun x41 h16 =>
 stL 3 x2 x41 h16 fun h17 =>
 ldN 3 x2 h17 fun x42 => k (.t [x42, (.i .i64 9223372036854775808)]) h17))))) args h
noncomputable def s41 : FS := S41 s73 s74 s75 s77 s76
noncomputable def a41 : Ann := (.s .o (.s (.s .o (.i (.s .o .o) .o)) (.s (.g [0, 1, 2, 3, 4, 5, 6, 7, 8, 9, 10, 11, 12, 13, 14]) (.s .o (.s (.b (.s .o (.i (.s .o .o) (.s .o (.i (.s .o .o) .o))))) (.s (.s .o (.s .o (.i (.s .o .o) .o))) (.s (.g [0, 1, 2, 3, 4, 5, 6, 7, 8, 9, 10]) (.s .o .o))))))))
noncomputable def S24 (s41 : FS) : FS := fun args h k => capp 2 (fun x0 x1 h0 =>
 boxK 48 3 z48 h0 fun x2 h1 =>
 npK .eql x0 .np fun x3 =>
 cdK x3 (
 blK [] Z48 fun x4 =>
 stL 3 x2 x4 h1 fun h2 =>
 ldN 3 x2 h2 fun x5 => k (.t [x5, (.i .i64 9223372036854775820)]) h2) (
 ncK x0 fun x6 =>
 faK 0 x6 fun x7 =>
 ld1 x7 h1 fun x8 =>
 s41 [x8, x1] h1 fun x9 h3 =>
 exK x9 0 fun x10 =>
 exK x9 1 fun x11 =>
 stL 3 x2 x10 h3 fun h4 =>
 ldN 3 x2 h4 fun x12 => k (.t [x12, x11]) h4)) args h
noncomputable def s24 : FS := S24 s41
noncomputable def a24 : Ann := (.s .o (.s (.s .o (.i (.s .o .o) .o)) (.s .o .o)))
noncomputable def S18 : FS := fun args h k => capp 2 (fun x0 x1 h0 =>
 npK .eql x0 .np fun x2 =>
 cdK x2 (
 k .np h0) (
 ncK x0 fun x3 =>
 faK 0 x3 fun x4 =>
 ld1 x4 h0 fun x5 =>
 lkK false false .np x5 x1 h0 fun x6 =>
 k x6 h0)) args h
noncomputable def s18 : FS := S18
noncomputable def a18 : Ann := (.s .o (.s (.s .o (.i (.s .o .o) .o)) (.s .o .o)))
noncomputable def S19 : FS := fun args h k => capp 1 (fun x0 h0 =>
 npK .eql x0 .np fun x1 =>
 cdK x1 (
 k .np h0) (
 ncK x0 fun x2 =>
 faK 1 x2 fun x3 =>
 ld1 x3 h0 fun x4 =>
 k x4 h0)) args h
noncomputable def s19 : FS := S19
noncomputable def a19 : Ann := (.s .o (.s (.s .o (.i (.s .o .o) .o)) (.s .o .o)))
noncomputable def S125 : FS := fun args h k => capp 1 (fun x0 h0 =>
 npK .eql x0 .np fun x1 =>
 cdK x1 (
 k .np h0) (
 ncK x0 fun x2 =>
 faK 3 x2 fun x3 =>
 ld1 x3 h0 fun x4 =>
 k x4 h0)) args h
noncomputable def s125 : FS := S125
noncomputable def a125 : Ann := (.s .o (.s (.s .o (.i (.s .o .o) .o)) (.s .o .o)))
noncomputable def S157 : FS := fun args h k => capp 1 (fun x0 h0 =>
 npK .eql x0 .np fun x1 =>
 cdK x1 (
 k (.i .i64 9223372036854775808) h0) (
 ncK x0 fun x2 =>
 faK 0 x2 fun x3 =>
 faK 0 x3 fun x4 =>
 ld1 x4 h0 fun x5 =>
 ikY .add x5 (.i .i64 9223372036854775809) fun x6 =>
 k x6 h0)) args h
noncomputable def s157 : FS := S157
noncomputable def a157 : Ann := (.s .o (.s (.s .o (.i (.s .o .o) .o)) (.s .o .o)))
noncomputable def S126 (s157 s114 s106 : FS) : FS := fun args h k => capp 3 (fun x0 x1 x2 h0 =>
 npK .eql x0 .np fun x3 =>
 gdK x3 false (fun k => k x1 h0) (fun x4 h1 =>
 gdK x3 false (fun k => k x0 h1) (fun x5 h2 =>
 gdK x3 false (fun k => s157 [x5] h2 k) (fun x6 h3 =>
 gdK x3 false (fun k => ikY .lss x4 x6 fun y => k y h3) (fun x7 h4 =>
 pkK x3 (.b true) x7 fun x8 =>
 gdK x8 false (fun k => k x1 h4) (fun x9 h5 =>
 gdK x8 false (fun k => k x0 h5) (fun x10 h6 =>
 gdK x8 false (fun k => s114 [x10] h6 k) (fun x11 h7 =>
 gdK x8 false (fun k => ikY .gtr x9 x11 fun y => k y h7) (fun x12 h8 =>
 pkK x8 (.b true) x12 fun x13 =>
 gdK x13 false (fun k => k x2 h8) (fun x14 h9 =>
 gdK x13 false (fun k => ikY .lss x14 (.i .i64 9223372036854775809) fun y => k y h9) (fun x15 h10 =>
 pkK x13 (.b true) x15 fun x16 =>
 cdK x16 (
 k .ns h10) (
 ncK x0 fun x17 =>
 faK 4 x17 fun x18 =>
 ld1 x18 h10 fun x19 =>
 s157 [x0] h10 fun x20 h11 =>
 ikY .sub x1 x20 fun x21 =>
 sllK 4 (some x21) none none x19 fun x22 =>
 ld1 x18 h11 fun x23 => ifT (avEq x23 x19) <|
 lnLY x22 fun x24 =>
 mmL mnK [x24] x2 fun x25 =>
 sllK 4 none (some x25) none x22 fun x26 =>
 s106 [x26] h11 fun x27 h12 =>
 k x27 h12)) h9) h8) h7) h6) h5) h4) h3) h2) h1) h0) args h
noncomputable def s126 : FS := S126 s157 s114 s106
noncomputable def a126 : Ann := (.s .o (.s (.s .o (.i (.s .o .o) .o)) (.s (.g [0, 1, 2, 3, 4, 5, 6, 7, 8, 9]) (.s .o .o))))
noncomputable def s167 : FS := sx
noncomputable def S87 (s18 s19 s125 s157 s126 s167 : FS) : FS := fun args h k => capp 1 (fun x0 h0 =>
 capp 2 (lp 2 fun (x1 : CT 2) x2 x3 h1 =>
 ikY .leq x3 (.i .i64 9223372036854775815) fun x4 =>
 cdK x4 (
 s18 [x2, x3] h1 fun x5 h2 =>
 npK .neq x5 .np fun x6 =>
 gdK x6 true (fun k => k x5 h2) (fun x7 h3 =>
 gdK x6 true (fun k => s19 [x7] h3 k) (fun x8 h4 =>
 gdK x6 true (fun k => s125 [x8] h4 k) (fun x9 h5 =>
 gdK x6 true (fun k => k x5 h5) (fun x10 h6 =>
 gdK x6 true (fun k => s19 [x10] h6 k) (fun x11 h7 =>
 gdK x6 true (fun k => s125 [x11] h7 k) (fun x12 h8 =>
 gdK x6 true (fun k => s157 [x12] h8 k) (fun x13 h9 =>
 gdK x6 true (fun k => s126 [x9, x13, (.i .i64 9223372036854776008)] h9 k) (fun x14 h10 =>
 gdK x6 true (fun k => lnLY x14 fun y => k y h10) (fun x15 h11 =>
 gdK x6 true (fun k => ikY .gtr x15 (.i .i64 9223372036854775908) fun y => k y h11) (fun x16 h12 =>
 pkK x6 x16 (.b false) fun x17 =>
 jn 2 (fun x18 : CT 2 =>
 cdK x17 (
 s167 [x5] h12 fun x19 h13 =>
 x18 x2 x3 h13) (
 x18 x2 x3 h12)) fun x20 x21 h14 =>
 ikY .add x21 (.i .i64 9223372036854775809) fun x22 =>
 x1 x20 x22 h14) h11) h10) h9) h8) h7) h6) h5) h4) h3) h2) (
 k (.t []) h1)) [x0, (.i .i64 9223372036854775809)] h0) args h
noncomputable def s87 : FS := S87 s18 s19 s125 s157 s126 s167
noncomputable def a87 : Ann := (.s .o (.b (.l [0, 2] (.s (.s .o (.i .o .o)) (.s (.b (.s .o (.s .o (.j [0, 2] .o .o)))) .o)))))
noncomputable def a37 : Ann := (.s .o (.s .o .o))
noncomputable def s37 : FS := fnF Tryz.prog [] MM Tryz.f37 a37
noncomputable def S69 : FS := fun args h k => capp 1 (fun x0 h0 =>
 npK .eql x0 .np fun x1 =>
 gdK x1 false (fun k => k x0 h0) (fun x2 h1 =>
 gdK x1 false (fun k => ncK x2 fun y => k y h1) (fun x3 h2 =>
 gdK x1 false (fun k => faK 3 x3 fun y => k y h2) (fun x4 h3 =>
 gdK x1 false (fun k => ld1 x4 h3 fun y => k y h3) (fun x5 h4 =>
 pkK x1 (.b true) x5 fun x6 =>
 k x6 h4) h3) h2) h1) h0) args h
noncomputable def s69 : FS := S69
noncomputable def a69 : Ann := (.s .o (.s .o .o))
noncomputable def S154 (s55 : FS) : FS := fun args h k => capp 1 (fun x0 h0 =>
 lnSY x0 fun x1 =>
 capp 4 (lp 4 fun (x2 : CT 4) x3 x4 x5 x6 h1 =>
 ikY .lss x6 x5 fun x7 =>
 cdK x7 (
 ixK x3 x6 fun x8 =>
 ciY .i64 x8 fun x9 =>
 ikY .sub x9 (.i .i64 9223372036854775856) fun x10 =>
 bsK 3 1 1 1 [x10] h1 fun x11 h2 =>
 apY 3 1 x4 x11 h2 fun x12 h3 =>
 ikY .add x6 (.i .i64 9223372036854775809) fun x13 =>
 x2 x3 x12 x5 x13 h3) (
 s55 [x4] h1 fun x14 h4 =>
 notK x14 fun x15 =>
 cdK x15 (
 k (.t [.ns, (.b false)]) h4) (
 k (.t [x4, (.b true)]) h4))) [x0, .ns, x1, (.i .i64 9223372036854775808)] h0) args h
noncomputable def o154 : FS := S154 s55
noncomputable def s154 : FS := confF o154
noncomputable def a154 : Ann := (.s .o (.s .o (.s (.s .o (.b (.l [0, 4, 7, 8] (.s .o (.s (.i .o .o) (.s (.b (.s .o .o)) .o)))))) (.s (.s .o (.i (.s .o .o) .o)) (.s .o .o)))))
noncomputable def S196 (s114 s157 s154 : FS) : FS := fun args h k => capp 2 (fun x0 x1 h0 =>
 npK .eql x0 .np fun x2 =>
 cdK x2 (
 k (.t [.ns, (.i .i64 9223372036854775808)]) h0) (
 s114 [x0] h0 fun x3 h1 =>
 mmL mnK [x3] x1 fun x4 =>
 capp 2 (lp 2 fun (x5 : CT 2) x6 x7 h2 =>
 s157 [x6] h2 fun x8 h3 =>
 ikY .geq x7 x8 fun x9 =>
 cdK x9 (
 ncK x6 fun x10 =>
 faK 4 x10 fun x11 =>
 ld1 x11 h3 fun x12 =>
 s157 [x6] h3 fun x13 h4 =>
 ikY .sub x7 x13 fun x14 =>
 iaK 4 x12 x14 fun x15 =>
 ldN 4 x15 h4 fun x16 =>
 boxK 193 4 z193 h4 fun x17 h5 =>
 stL 4 x17 x16 h5 fun h6 =>
 ld1 x11 h4 fun x18 => ifT (avEq x18 x12) <|
 ld1 x11 h5 fun x19 => ifT (avEq x19 x12) <|
 ldN 4 x15 h5 fun x20 => ifT (avEq x20 x16) <|
 faK 3 x17 fun x21 =>
 ld1 x21 h6 fun x22 =>
 s154 [x22] h6 fun x23 h7 =>
 exK x23 0 fun x24 =>
 exK x23 1 fun x25 =>
 gdK x25 true (fun k => faK 2 x17 fun y => k y h7) (fun x26 h8 =>
 gdK x25 true (fun k => ld1 x26 h8 fun y => k y h8) (fun x27 h9 =>
 gdK x25 true (fun k => ikY .eql x27 (.i .i64 9223372036854775811) fun y => k y h9) (fun x28 h10 =>
 pkK x25 x28 (.b false) fun x29 =>
 cdK x29 (
 k (.t [x24, x7]) h10) (
 ikY .sub x7 (.i .i64 9223372036854775809) fun x30 =>
 x5 x6 x30 h10)) h9) h8) h7) (
 ncK x6 fun x31 =>
 faK 0 x31 fun x32 =>
 faK 2 x32 fun x33 =>
 ld1 x33 h3 fun x34 =>
 s154 [x34] h3 fun x35 h11 =>
 exK x35 0 fun x36 =>
 exK x35 1 fun x37 =>
 cdK x37 (
 ncK x6 fun x38 =>
 faK 0 x38 fun x39 =>
 faK 0 x39 fun x40 =>
 ld1 x40 h11 fun x41 =>
 k (.t [x36, x41]) h11) (
 k (.t [.ns, (.i .i64 9223372036854775808)]) h11))) [x0, x4] h1)) args h
noncomputable def s196 : FS := S196 s114 s157 s154
noncomputable def a196 : Ann := (.s .o (.s (.s .o (.i (.s .o .o) .o)) (.s (.s .o (.b (.l [0, 6] (.s (.s .o (.i .o .o)) (.s (.b (.s (.g [0, 1, 2, 3, 4, 5, 6, 7, 8, 9, 10, 11]) (.s .o (.s .o (.i (.s .o .o) .o))))) .o))))) (.s (.s .o (.s .o (.i (.s (.g [0, 1, 2, 3, 4, 5, 6, 7]) .o) .o))) (.s .o .o)))))
noncomputable def S128 (s114 s196 : FS) : FS := fun args h k => capp 1 (fun x0 h0 =>
 s114 [x0] h0 fun x1 h1 =>
 s196 [x0, x1] h1 fun x2 h2 =>
 exK x2 0 fun x3 =>
 exK x2 1 fun x4 =>
 k (.t [x3, x4]) h2) args h
noncomputable def s128 : FS := S128 s114 s196
noncomputable def a128 : Ann := (.s .o (.s .o .o))
noncomputable def S137 (s128 : FS) : FS := fun args h k => capp 1 (fun x0 h0 =>
 ncK x0 fun x1 =>
 faK 3 x1 fun x2 =>
 ld1 x2 h0 fun x3 =>
 s128 [x3] h0 fun x4 h1 =>
 exK x4 0 fun x5 =>
 exK x4 1 fun x6 =>
 lnLY x5 fun x7 =>
 capp 5 (lp 5 fun (x8 : CT 5) x9 x10 x11 x12 x13 h2 =>
 ikY .lss x13 x12 fun x14 =>
 cdK x14 (
 iaK 1 x11 x13 fun x15 =>
 ld1 x15 h2 fun x16 =>
 ncK x9 fun x17 =>
 faK 0 x17 fun x18 =>
 ld1 x18 h2 fun x19 =>
 ikY .neq x16 x19 fun x20 =>
 jn 5 (fun x21 : CT 5 =>
 cdK x20 (
 bsK 3 1 1 1 [x16] h2 fun x22 h3 =>
 apY 3 1 x10 x22 h3 fun x23 h4 =>
 x21 x9 x23 x11 x12 x13 h4) (
 x21 x9 x10 x11 x12 x13 h2)) fun x24 x25 x26 x27 x28 h5 =>
 ikY .add x28 (.i .i64 9223372036854775809) fun x29 =>
 x8 x24 x25 x26 x27 x29 h5) (
 k x10 h2)) [x0, .ns, x5, x7, (.i .i64 9223372036854775808)] h1) args h
noncomputable def s137 : FS := S137 s128
noncomputable def a137 : Ann := (.s .o (.s .o (.s .o (.s (.s .o (.b (.l [0, 5, 16, 17, 18] (.s .o (.s (.i .o .o) (.s (.b (.s .o (.s .o (.j [0, 5, 16, 17, 18] .o .o)))) .o)))))) (.s .o .o)))))
noncomputable def S237 : FS := fun args h k => capp 2 (fun x0 x1 h0 =>
 npK .neq x0 .np fun x2 =>
 gdK x2 true (fun k => k x1 h0) (fun x3 h1 =>
 gdK x2 true (fun k => ikY .geq x3 (.i .i64 9223372036854775809) fun y => k y h1) (fun x4 h2 =>
 pkK x2 x4 (.b false) fun x5 =>
 gdK x5 true (fun k => k x1 h2) (fun x6 h3 =>
 gdK x5 true (fun k => ikY .leq x6 (.i .i64 9223372036854775815) fun y => k y h3) (fun x7 h4 =>
 pkK x5 x7 (.b false) fun x8 =>
 k x8 h4) h3) h2) h1) h0) args h
noncomputable def s237 : FS := S237
noncomputable def a237 : Ann := (.s .o (.s .o .o))
noncomputable def a225 : Ann := (.s .o (.s (.s .o (.i (.s .o .o) .o)) (.s .o .o)))
noncomputable def s225 : FS := fnF Tryz.prog [(237, s237)] MM Tryz.f225 a225
noncomputable def a138 : Ann := (.s .o (.s (.g [0, 1, 2, 3, 4, 5, 6, 7, 8, 9, 10, 11, 12]) (.g [0, 1, 2, 3, 4, 5, 6, 7, 8, 9, 10, 11, 12])))
noncomputable def s138 : FS := fnF Tryz.prog [] MM Tryz.f138 a138
noncomputable def S136 (s114 s157 : FS) : FS := fun args h k => capp 2 (fun x0 x1 h0 =>
 npK .eql x0 .np fun x2 =>
 gdK x2 false (fun k => k x1 h0) (fun x3 h1 =>
 gdK x2 false (fun k => k x0 h1) (fun x4 h2 =>
 gdK x2 false (fun k => ncK x4 fun y => k y h2) (fun x5 h3 =>
 gdK x2 false (fun k => faK 0 x5 fun y => k y h3) (fun x6 h4 =>
 gdK x2 false (fun k => faK 0 x6 fun y => k y h4) (fun x7 h5 =>
 gdK x2 false (fun k => ld1 x7 h5 fun y => k y h5) (fun x8 h6 =>
 gdK x2 false (fun k => ikY .lss x3 x8 fun y => k y h6) (fun x9 h7 =>
 pkK x2 (.b true) x9 fun x10 =>
 gdK x10 false (fun k => k x1 h7) (fun x11 h8 =>
 gdK x10 false (fun k => k x0 h8) (fun x12 h9 =>
 gdK x10 false (fun k => s114 [x12] h9 k) (fun x13 h10 =>
 gdK x10 false (fun k => ikY .gtr x11 x13 fun y => k y h10) (fun x14 h11 =>
 pkK x10 (.b true) x14 fun x15 =>
 cdK x15 (
 k (.t [(.i .i64 9223372036854775808), (.b false)]) h11) (
 ncK x0 fun x16 =>
 faK 0 x16 fun x17 =>
 faK 0 x17 fun x18 =>
 ld1 x18 h11 fun x19 =>
 ikY .eql x1 x19 fun x20 =>
 cdK x20 (
 ncK x0 fun x21 =>
 faK 0 x21 fun x22 =>
 faK 1 x22 fun x23 =>
 ld1 x23 h11 fun x24 =>
 k (.t [x24, (.b true)]) h11) (
 ncK x0 fun x25 =>
 faK 4 x25 fun x26 =>
 ld1 x26 h11 fun x27 =>
 s157 [x0] h11 fun x28 h12 =>
 ikY .sub x1 x28 fun x29 =>
 iaK 4 x27 x29 fun x30 =>
 faK 1 x30 fun x31 =>
 ld1 x31 h12 fun x32 =>
 ld1 x26 h12 fun x33 => ifT (avEq x33 x27) <|
 k (.t [x32, (.b true)]) h12))) h10) h9) h8) h7) h6) h5) h4) h3) h2) h1) h0) args h
noncomputable def s136 : FS := S136 s114 s157
noncomputable def a136 : Ann := (.s .o (.s (.b (.s .o (.i (.s .o .o) (.s .o (.i (.s .o .o) .o))))) (.s (.g [0, 1, 2, 3, 4, 5, 6, 7, 8, 9, 10, 11, 12]) .o)))
noncomputable def a228 : Ann := (.s .o (.s .o .o))
noncomputable def s228 : FS := fnF Tryz.prog [] MM Tryz.f228 a228
noncomputable def a226 : Ann := (.s .o (.i (.g [0, 1, 2, 3, 4, 5, 6, 7, 8, 9, 10, 11, 12, 13, 14]) .o))
noncomputable def s226 : FS := fnF Tryz.prog [(237, s237), (228, s228)] MM Tryz.f226 a226
def Z156 : List AV := [(.i .i64 9223372036854775808), (.i .i64 9223372036854775808), (.i .i64 9223372036854775808), (.i .i64 9223372036854775808), (.i .i64 9223372036854775808), (.i .i64 9223372036854775808), (.i .i64 9223372036854775808), (.b false), .ns, (.i .i64 9223372036854775808), (.i .i64 9223372036854775808), (.s 0 []), (.s 0 [])]
def z156 : AV := .a Z156
noncomputable def a197 : Ann := (.s .o (.s (.s .o (.i (.s .o .o) .o)) (.s .o (.s (.g [0, 1, 2, 3, 4, 5, 6, 7, 8, 10, 11, 12, 13, 9, 14, 15, 16]) (.s (.g [0, 1, 2, 3, 4, 5, 6, 7, 8, 9, 10, 11]) .o)))))
noncomputable def s197 : FS := fnF Tryz.prog [(225, s225), (157, s157), (113, s113), (138, s138), (136, s136), (126, s126), (226, s226)] MM Tryz.f197 a197
noncomputable def S129 (s137 s197 : FS) : FS := fun args h k => capp 1 (fun x0 h0 =>
 ncK x0 fun x1 =>
 faK 5 x1 fun x2 =>
 ld1 x2 h0 fun x3 =>
 ikY .neq x3 (.i .i64 9223372036854775810) fun x4 =>
 cdK x4 (
 k (.t []) h0) (
 s137 [x0] h0 fun x5 h1 =>
 lnLY x5 fun x6 =>
 capp 4 (lp 4 fun (x7 : CT 4) x8 x9 x10 x11 h2 =>
 ikY .lss x11 x10 fun x12 =>
 cdK x12 (
 iaK 1 x9 x11 fun x13 =>
 ld1 x13 h2 fun x14 =>
 s197 [x8, x14] h2 fun x15 h3 =>
 ikY .add x11 (.i .i64 9223372036854775809) fun x16 =>
 x7 x8 x9 x10 x16 h3) (
 k (.t []) h2)) [x0, x5, x6, (.i .i64 9223372036854775808)] h1)) args h
noncomputable def s129 : FS := S129 s137 s197
noncomputable def a129 : Ann := (.s (.s .o (.i .o .o)) (.s .o (.b (.l [0, 10, 11, 12] (.s .o (.s (.i .o .o) (.s (.b (.s .o .o)) .o)))))))
noncomputable def S227 : FS := fun args h k => capp 2 (fun x0 x1 h0 =>
 lnLY x0 fun x2 =>
 capp 4 (lp 4 fun (x3 : CT 4) x4 x5 x6 x7 h1 =>
 ikY .lss x7 x6 fun x8 =>
 cdK x8 (
 iaK 1 x4 x7 fun x9 =>
 ld1 x9 h1 fun x10 =>
 ikY .eql x5 x10 fun x11 =>
 cdK x11 (
 k x7 h1) (
 ikY .add x7 (.i .i64 9223372036854775809) fun x12 =>
 x3 x4 x5 x6 x12 h1)) (
 k (.i .i64 9223372036854775807) h1)) [x0, x1, x2, (.i .i64 9223372036854775808)] h0) args h
noncomputable def s227 : FS := S227
noncomputable def a227 : Ann := (.s .o (.s (.s .o (.b (.l [0, 1, 7, 8] (.s .o (.s (.i .o .o) (.s (.b (.s .o (.s .o (.i (.s .o .o) .o)))) .o)))))) (.s .o .o)))
noncomputable def S198 (s227 : FS) : FS := fun args h k => capp 2 (fun x0 x1 h0 =>
 s227 [x0, x1] h0 fun x2 h1 =>
 ikY .geq x2 (.i .i64 9223372036854775808) fun x3 =>
 k x3 h1) args h
noncomputable def s198 : FS := S198 s227
noncomputable def a198 : Ann := (.s .o (.s .o .o))
noncomputable def S130 (s198 : FS) : FS := fun args h k => capp 2 (fun x0 x1 h0 =>
 s198 [x0, x1] h0 fun x2 h1 =>
 k x2 h1) args h
noncomputable def s130 : FS := S130 s198
noncomputable def a130 : Ann := (.s .o (.s .o .o))
noncomputable def a131 : Ann := (.s .o (.s (.g [0, 1, 2, 3, 4, 5, 6, 7, 8, 9, 10, 11, 12, 13, 14, 15, 16, 17]) .o))
noncomputable def s131 : FS := fnF Tryz.prog [] MM Tryz.f131 a131
noncomputable def a199 : Ann := (.s .o (.s (.s .o (.i (.s .o .o) .o)) (.s .o .o)))
noncomputable def s199 : FS := fnF Tryz.prog [] MM Tryz.f199 a199
def Z295 : List AV := [.ns, .ns, .ns]
def z295 : AV := .a Z295
noncomputable def a132 : Ann := (.s .o (.s (.s .o (.j [0] .o .o)) (.s .o .o)))
noncomputable def s132 : FS := fnF Tryz.prog [(55, s55), (199, s199)] MM Tryz.f132 a132
noncomputable def a200 : Ann := (.s .o (.s .o .o))
noncomputable def s200 : FS := fnF Tryz.prog [(130, s130)] MM Tryz.f200 a200
noncomputable def a133 : Ann := (.s .o (.s (.s .o (.i (.s .o .o) .o)) (.s .o (.s .o .o))))
noncomputable def s133 : FS := fnF Tryz.prog [(200, s200)] MM Tryz.f133 a133
noncomputable def a201 : Ann := (.s .o (.s .o (.s (.s .o (.b (.l [0, 1, 5, 8, 9, 10] (.s .o (.s (.i .o .o) (.s (.b (.s .o (.s .o (.j [0, 1, 5, 8, 9, 10] .o .o)))) .o)))))) (.s .o .o))))
noncomputable def s201 : FS := fnF Tryz.prog [(130, s130), (55, s55)] MM Tryz.f201 a201
noncomputable def a134 : Ann := (.s .o (.s (.g [0, 1, 2, 3, 4, 5, 6, 7, 8, 9, 10, 11, 12, 13]) .o))
noncomputable def s134 : FS := fnF Tryz.prog [(201, s201)] MM Tryz.f134 a134
def Z323 : List AV := [(.i .i64 9223372036854775808), (.i .i64 9223372036854775808), (.i .i64 9223372036854775808), (.i .i64 9223372036854775808), (.i .i64 9223372036854775808), (.i .i64 9223372036854775808), (.i .i64 9223372036854775808), (.i .i64 9223372036854775808), (.i .i64 9223372036854775808), (.i .i64 9223372036854775808), (.i .i64 9223372036854775808), (.i .i64 9223372036854775808), (.i .i64 9223372036854775808), (.i .i64 9223372036854775808), (.i .i64 9223372036854775808), (.i .i64 9223372036854775808)]
def z323 : AV := .a Z323
noncomputable def a202 : Ann := (.s .o (.s (.s .o (.j [0] .o .o)) (.s .o (.s (.s .o (.b (.l [0, 3, 10] (.s .o (.s (.i .o .o) (.s (.b (.s .o .o)) .o)))))) (.s .o .o)))))
noncomputable def s202 : FS := fnF Tryz.prog [(228, s228)] MM Tryz.f202 a202
noncomputable def S156 (s136 : FS) : FS := fun args h k => capp 3 (fun x0 x1 x2 h0 =>
 s136 [x0, x1] h0 fun x3 h1 =>
 exK x3 0 fun x4 =>
 exK x3 1 fun x5 =>
 gdK x5 true (fun k => k x4 h1) (fun x6 h2 =>
 gdK x5 true (fun k => k x2 h2) (fun x7 h3 =>
 gdK x5 true (fun k => ikY .eql x6 x7 fun y => k y h3) (fun x8 h4 =>
 pkK x5 x8 (.b false) fun x9 =>
 k x9 h4) h3) h2) h1) args h
noncomputable def s156 : FS := S156 s136
noncomputable def a156 : Ann := (.s .o (.s .o (.s .o .o)))
noncomputable def S210 (s114 s116 s156 s157 s136 : FS) : FS := fun args h k => capp 2 (fun x0 x1 h0 =>
 npK .eql x0 .np fun x2 =>
 cdK x2 (
 k (.t [(.i .i64 9223372036854775808), (.b false)]) h0) (
 lnLY x1 fun x3 =>
 ikY .eql x3 (.i .i64 9223372036854775808) fun x4 =>
 cdK x4 (
 k (.t [(.i .i64 9223372036854775808), (.b true)]) h0) (
 iaK 4 x1 (.i .i64 9223372036854775808) fun x5 =>
 faK 0 x5 fun x6 =>
 ld1 x6 h0 fun x7 =>
 s114 [x0] h0 fun x8 h1 =>
 ikY .add x8 (.i .i64 9223372036854775809) fun x9 =>
 ikY .gtr x7 x9 fun x10 =>
 gdK x10 false (fun k => k x1 h1) (fun x11 h2 =>
 gdK x10 false (fun k => iaK 4 x11 (.i .i64 9223372036854775808) fun y => k y h2) (fun x12 h3 =>
 gdK x10 false (fun k => faK 0 x12 fun y => k y h3) (fun x13 h4 =>
 gdK x10 false (fun k => ld1 x13 h4 fun y => k y h4) (fun x14 h5 =>
 gdK x10 false (fun k => ikY .sub x14 (.i .i64 9223372036854775809) fun y => k y h5) (fun x15 h6 =>
 gdK x10 false (fun k => k x1 h6) (fun x16 h7 =>
 gdK x10 false (fun k => iaK 4 x16 (.i .i64 9223372036854775808) fun y => k y h7) (fun x17 h8 =>
 gdK x10 false (fun k => faK 1 x17 fun y => k y h8) (fun x18 h9 =>
 gdK x10 false (fun k => ld1 x18 h9 fun y => k y h9) (fun x19 h10 =>
 gdK x10 false (fun k => k x1 h10) (fun x20 h11 =>
 gdK x10 false (fun k => s116 [x15, x19, x20] h11 k) (fun x21 h12 =>
 gdK x10 false (fun k => notK x21 fun y => k y h12) (fun x22 h13 =>
 pkK x10 (.b true) x22 fun x23 =>
 ld1 x6 h1 fun x24 => ifT (avEq x24 x7) <|
 cdK x23 (
 k (.t [(.i .i64 9223372036854775808), (.b false)]) h13) (
 capp 2 (lp 2 fun (x25 : CT 2) x26 x27 h14 =>
 lnLY x27 fun x28 =>
 ikY .gtr x28 (.i .i64 9223372036854775808) fun x29 =>
 gdK x29 true (fun k => k x27 h14) (fun x30 h15 =>
 gdK x29 true (fun k => iaK 4 x30 (.i .i64 9223372036854775808) fun y => k y h15) (fun x31 h16 =>
 gdK x29 true (fun k => faK 0 x31 fun y => k y h16) (fun x32 h17 =>
 gdK x29 true (fun k => ld1 x32 h17 fun y => k y h17) (fun x33 h18 =>
 gdK x29 true (fun k => k x26 h18) (fun x34 h19 =>
 gdK x29 true (fun k => ncK x34 fun y => k y h19) (fun x35 h20 =>
 gdK x29 true (fun k => faK 0 x35 fun y => k y h20) (fun x36 h21 =>
 gdK x29 true (fun k => faK 0 x36 fun y => k y h21) (fun x37 h22 =>
 gdK x29 true (fun k => ld1 x37 h22 fun y => k y h22) (fun x38 h23 =>
 gdK x29 true (fun k => ikY .leq x33 x38 fun y => k y h23) (fun x39 h24 =>
 gdK x29 true (fun k => k x39 h24) (fun x40 h25 =>
 gdK x40 false (fun k => k x26 h25) (fun x41 h26 =>
 gdK x40 false (fun k => k x27 h26) (fun x42 h27 =>
 gdK x40 false (fun k => iaK 4 x42 (.i .i64 9223372036854775808) fun y => k y h27) (fun x43 h28 =>
 gdK x40 false (fun k => faK 0 x43 fun y => k y h28) (fun x44 h29 =>
 gdK x40 false (fun k => ld1 x44 h29 fun y => k y h29) (fun x45 h30 =>
 gdK x40 false (fun k => k x27 h30) (fun x46 h31 =>
 gdK x40 false (fun k => iaK 4 x46 (.i .i64 9223372036854775808) fun y => k y h31) (fun x47 h32 =>
 gdK x40 false (fun k => faK 1 x47 fun y => k y h32) (fun x48 h33 =>
 gdK x40 false (fun k => ld1 x48 h33 fun y => k y h33) (fun x49 h34 =>
 gdK x40 false (fun k => s156 [x41, x45, x49] h34 k) (fun x50 h35 =>
 gdK x29 true (fun k => pkK x40 (.b true) x50 fun y => k y h35) (fun x51 h36 =>
 pkK x29 x51 (.b false) fun x52 =>
 cdK x52 (
 sllK 4 (some (.i .i64 9223372036854775809)) none none x27 fun x53 =>
 x25 x26 x53 h36) (
 lnLY x27 fun x54 =>
 ikY .eql x54 (.i .i64 9223372036854775808) fun x55 =>
 cdK x55 (
 k (.t [(.i .i64 9223372036854775808), (.b true)]) h36) (
 iaK 4 x27 (.i .i64 9223372036854775808) fun x56 =>
 faK 0 x56 fun x57 =>
 ld1 x57 h36 fun x58 =>
 s157 [x26] h36 fun x59 h37 =>
 ikY .sub x58 x59 fun x60 =>
 ikY .sub x58 (.i .i64 9223372036854775809) fun x61 =>
 s136 [x26, x61] h37 fun x62 h38 =>
 exK x62 0 fun x63 =>
 exK x62 1 fun x64 =>
 iaK 4 x27 (.i .i64 9223372036854775808) fun x65 =>
 faK 1 x65 fun x66 =>
 ld1 x66 h38 fun x67 =>
 ikY .lss x67 x63 fun x68 =>
 gdK x68 false (fun k => k x60 h38) (fun x69 h39 =>
 gdK x68 false (fun k => k x27 h39) (fun x70 h40 =>
 gdK x68 false (fun k => lnLY x70 fun y => k y h40) (fun x71 h41 =>
 gdK x68 false (fun k => ikY .add x69 x71 fun y => k y h41) (fun x72 h42 =>
 gdK x68 false (fun k => ikY .gtr x72 (.i .i64 9223372036854776008) fun y => k y h42) (fun x73 h43 =>
 pkK x68 (.b true) x73 fun x74 =>
 cdK x74 (
 k (.t [(.i .i64 9223372036854775808), (.b false)]) h43) (
 ncK x26 fun x75 =>
 faK 4 x75 fun x76 =>
 ld1 x76 h43 fun x77 =>
 sllK 4 none (some x60) (some x60) x77 fun x78 =>
 apY 193 4 x78 x27 h43 fun x79 h44 =>
 ncK x26 fun x80 =>
 faK 4 x80 fun x81 =>
 stL 1 x81 x79 h44 fun h45 =>
 k (.t [x58, (.b true)]) h45)) h42) h41) h40) h39) h38))) h35) h34) h33) h32) h31) h30) h29) h28) h27) h26) h25) h24) h23) h22) h21) h20) h19) h18) h17) h16) h15) h14) [x0, x1] h13)) h12) h11) h10) h9) h8) h7) h6) h5) h4) h3) h2) h1))) args h
noncomputable def s210 : FS := S210 s114 s116 s156 s157 s136
noncomputable def a210 : Ann := (.s .o (.s (.s .o (.i (.s .o .o) .o)) (.s (.s .o (.i (.s .o .o) .o)) (.s (.s (.g [0, 1, 2, 3, 4, 5, 6, 7, 8, 9, 10, 11, 12, 13, 14, 15, 16, 17, 18, 19, 20, 21]) (.i (.s .o .o) .o)) (.s (.b (.l [0, 1] (.s (.s (.g [0, 1, 2, 3, 4, 5, 6, 7, 8, 9, 10, 11, 12, 13, 14, 15, 16, 17, 18, 19, 20, 21, 22, 23, 24, 25, 26]) (.i .o .o)) (.b .o)))) (.s (.s .o (.i (.s .o .o) .o)) (.s .o (.s .o (.s (.s .o (.s .o (.i (.s .o .o) .o))) (.s .o (.s .o .o)))))))))))
noncomputable def S209 : FS := fun args h k => capp 3 (fun x0 x1 x2 h0 =>
 ikY .gtr x1 (.i .i64 9223372036854775808) fun x3 =>
 gdK x3 true (fun k => k x0 h0) (fun x4 h1 =>
 gdK x3 true (fun k => ncK x4 fun y => k y h1) (fun x5 h2 =>
 gdK x3 true (fun k => faK 10 x5 fun y => k y h2) (fun x6 h3 =>
 gdK x3 true (fun k => faK 2 x6 fun y => k y h3) (fun x7 h4 =>
 gdK x3 true (fun k => ld1 x7 h4 fun y => k y h4) (fun x8 h5 =>
 gdK x3 true (fun k => ikY .eql x8 (.i .i64 9223372036854775808) fun y => k y h5) (fun x9 h6 =>
 gdK x3 true (fun k => k x9 h6) (fun x10 h7 =>
 gdK x10 false (fun k => k x1 h7) (fun x11 h8 =>
 gdK x10 false (fun k => k x0 h8) (fun x12 h9 =>
 gdK x10 false (fun k => ncK x12 fun y => k y h9) (fun x13 h10 =>
 gdK x10 false (fun k => faK 10 x13 fun y => k y h10) (fun x14 h11 =>
 gdK x10 false (fun k => faK 2 x14 fun y => k y h11) (fun x15 h12 =>
 gdK x10 false (fun k => ld1 x15 h12 fun y => k y h12) (fun x16 h13 =>
 gdK x10 false (fun k => ikY .lss x11 x16 fun y => k y h13) (fun x17 h14 =>
 gdK x3 true (fun k => pkK x10 (.b true) x17 fun y => k y h14) (fun x18 h15 =>
 pkK x3 x18 (.b false) fun x19 =>
 jn 1 (fun x20 : CT 1 =>
 cdK x19 (
 ncK x0 fun x21 =>
 faK 10 x21 fun x22 =>
 faK 2 x22 fun x23 =>
 stL 1 x23 x1 h15 fun h16 =>
 x20 x2 h16) (
 x20 x2 h15)) fun x24 h17 =>
 k x24 h17) h14) h13) h12) h11) h10) h9) h8) h7) h6) h5) h4) h3) h2) h1) h0) args h
noncomputable def s209 : FS := S209
noncomputable def a209 : Ann := (.s .o (.s (.s .o (.j [2] .o .o)) (.s .o .o)))
noncomputable def S158 (s114 s210 s209 : FS) : FS := fun args h k => capp 3 (fun x0 x1 x2 h0 =>
 ncK x0 fun x3 =>
 faK 3 x3 fun x4 =>
 ld1 x4 h0 fun x5 =>
 s114 [x5] h0 fun x6 h1 =>
 ikY .add x6 (.i .i64 9223372036854775809) fun x7 =>
 ncK x0 fun x8 =>
 faK 3 x8 fun x9 =>
 ld1 x9 h1 fun x10 =>
 ncK x0 fun x11 =>
 faK 1 x11 fun x12 =>
 faK 0 x12 fun x13 =>
 ld1 x13 h1 fun x14 =>
 blK [(0, 1, x7), (1, 1, x14), (2, 1, x1), (3, 1, x2)] Z193 fun x15 =>
 bsK 193 4 1 4 [x15] h1 fun x16 h2 =>
 s210 [x10, x16] h2 fun x17 h3 =>
 exK x17 0 fun x18 =>
 exK x17 1 fun x19 =>
 s209 [x0, x18, x19] h3 fun x20 h4 =>
 ld1 x9 h2 fun x21 => ifT (avEq x21 x10) <|
 k x7 h4) args h
noncomputable def s158 : FS := S158 s114 s210 s209
noncomputable def a158 : Ann := (.s .o (.s .o (.s (.g [0, 1, 2, 3, 4, 5, 6, 7, 8, 9, 10, 11, 12, 13, 14, 15, 16, 17, 18]) (.s .o .o))))
noncomputable def S287 : FS := fun args h k => capp 1 (fun x0 h0 =>
 ikY .neq x0 x0 fun x1 =>
 k x1 h0) args h
noncomputable def s287 : FS := S287
noncomputable def a287 : Ann := (.s .o (.s .o .o))
noncomputable def S281 (s287 : FS) : FS := fun args h k => capp 2 (fun x0 x1 h0 =>
 s287 [x0] h0 fun x2 h1 =>
 gdK x2 true (fun k => k x1 h1) (fun x3 h2 =>
 gdK x2 true (fun k => s287 [x3] h2 k) (fun x4 h3 =>
 gdK x2 true (fun k => notK x4 fun y => k y h3) (fun x5 h4 =>
 pkK x2 x5 (.b false) fun x6 =>
 gdK x6 false (fun k => k x0 h4) (fun x7 h5 =>
 gdK x6 false (fun k => k x1 h5) (fun x8 h6 =>
 gdK x6 false (fun k => ikY .lss x7 x8 fun y => k y h6) (fun x9 h7 =>
 pkK x6 (.b true) x9 fun x10 =>
 k x10 h7) h6) h5) h4) h3) h2) h1) args h
noncomputable def s281 : FS := S281 s287
noncomputable def a281 : Ann := (.s .o (.s .o .o))
noncomputable def S275 (s281 : FS) : FS := fun args h k => capp 3 (fun x0 x1 x2 h0 =>
 ikY .add x1 (.i .i64 9223372036854775809) fun x3 =>
 capp 4 (lp 4 fun (x4 : CT 4) x5 x6 x7 x8 h1 =>
 ikY .lss x8 x7 fun x9 =>
 cdK x9 (
 capp 5 (lp 5 fun (x10 : CT 5) x11 x12 x13 x14 x15 h2 =>
 ikY .gtr x15 x12 fun x16 =>
 gdK x16 true (fun k => k x11 h2) (fun x17 h3 =>
 gdK x16 true (fun k => k x15 h3) (fun x18 h4 =>
 gdK x16 true (fun k => iaK 1 x17 x18 fun y => k y h4) (fun x19 h5 =>
 gdK x16 true (fun k => ld1 x19 h5 fun y => k y h5) (fun x20 h6 =>
 gdK x16 true (fun k => k x11 h6) (fun x21 h7 =>
 gdK x16 true (fun k => k x15 h7) (fun x22 h8 =>
 gdK x16 true (fun k => ikY .sub x22 (.i .i64 9223372036854775809) fun y => k y h8) (fun x23 h9 =>
 gdK x16 true (fun k => iaK 1 x21 x23 fun y => k y h9) (fun x24 h10 =>
 gdK x16 true (fun k => ld1 x24 h10 fun y => k y h10) (fun x25 h11 =>
 gdK x16 true (fun k => s281 [x20, x25] h11 k) (fun x26 h12 =>
 pkK x16 x26 (.b false) fun x27 =>
 cdK x27 (
 ikY .sub x15 (.i .i64 9223372036854775809) fun x28 =>
 ikY .sub x15 (.i .i64 9223372036854775809) fun x29 =>
 iaK 1 x11 x29 fun x30 =>
 ld1 x30 h12 fun x31 =>
 iaK 1 x11 x15 fun x32 =>
 ld1 x32 h12 fun x33 =>
 iaK 1 x11 x15 fun x34 =>
 stL 1 x34 x31 h12 fun h13 =>
 iaK 1 x11 x28 fun x35 =>
 stL 1 x35 x33 h13 fun h14 =>
 ikY .sub x15 (.i .i64 9223372036854775809) fun x36 =>
 x10 x11 x12 x13 x14 x36 h14) (
 ikY .add x14 (.i .i64 9223372036854775809) fun x37 =>
 x4 x11 x12 x13 x37 h12)) h11) h10) h9) h8) h7) h6) h5) h4) h3) h2) [x5, x6, x7, x8, x8] h1) (
 k (.t []) h1)) [x0, x1, x2, x3] h0) args h
noncomputable def s275 : FS := S275 s281
noncomputable def a275 : Ann := (.s .o (.b (.l [0, 1, 2, 6] (.s (.s .o (.i .o .o)) (.s (.b (.s .o (.b (.l [0, 1, 2, 6, 7] (.s (.s (.g [0, 1, 2, 3, 4, 5, 6, 7, 8, 9, 10, 11, 12, 13, 14]) (.i .o .o)) (.s (.b (.g [0, 1, 2, 3, 4, 5, 6, 7, 8, 9, 10, 11, 12, 13, 14, 15, 16, 17])) .o)))))) .o)))))
noncomputable def s276 : FS := sx
noncomputable def s277 : FS := sx
noncomputable def s278 : FS := sx
noncomputable def s279 : FS := sx
noncomputable def s280 : FS := sx
noncomputable def s282 : FS := sx
noncomputable def s283 : FS := sx
noncomputable def S273 (s275 s276 s277 s278 s279 s280 s281 s282 s283 s273 : FS) : FS := fun args h k => capp 4 (fun x0 x1 x2 x3 h0 =>
 capp 6 (lp 6 fun (x4 : CT 6) x5 x6 x7 x8 x9 x10 h1 =>
 ikY .sub x7 x6 fun x11 =>
 ikY .leq x11 (.i .i64 9223372036854775820) fun x12 =>
 cdK x12 (
 s275 [x5, x6, x7] h1 fun x13 h2 =>
 k (.t []) h2) (
 ikY .eql x8 (.i .i64 9223372036854775808) fun x14 =>
 cdK x14 (
 s276 [x5, x6, x7] h1 fun x15 h3 =>
 k (.t []) h3) (
 notK x9 fun x16 =>
 jn 7 (fun x17 : CT 7 =>
 cdK x16 (
 s277 [x5, x6, x7] h1 fun x18 h4 =>
 ikY .sub x8 (.i .i64 9223372036854775809) fun x19 =>
 x17 x5 x6 x7 x19 x9 x10 x11 h4) (
 x17 x5 x6 x7 x8 x9 x10 x11 h1)) fun x20 x21 x22 x23 x24 x25 x26 h5 =>
 s278 [x20, x21, x22] h5 fun x27 h6 =>
 exK x27 0 fun x28 =>
 exK x27 1 fun x29 =>
 ikY .eql x29 (.i .i64 9223372036854775810) fun x30 =>
 jn 9 (fun x31 : CT 9 =>
 cdK x30 (
 s279 [x20, x21, x22] h6 fun x32 h7 =>
 ikY .sub x22 (.i .i64 9223372036854775809) fun x33 =>
 ikY .sub x28 x21 fun x34 =>
 ikY .sub x33 x34 fun x35 =>
 x31 x20 x21 x22 x23 x24 x25 x26 x35 (.i .i64 9223372036854775809) h7) (
 x31 x20 x21 x22 x23 x24 x25 x26 x28 x29 h6)) fun x36 x37 x38 x39 x40 x41 x42 x43 x44 h8 =>
 gdK x40 true (fun k => k x41 h8) (fun x45 h9 =>
 pkK x40 x45 (.b false) fun x46 =>
 gdK x46 true (fun k => k x44 h9) (fun x47 h10 =>
 gdK x46 true (fun k => ikY .eql x47 (.i .i64 9223372036854775809) fun y => k y h10) (fun x48 h11 =>
 pkK x46 x48 (.b false) fun x49 =>
 jn 8 (fun x50 : CT 8 =>
 cdK x49 (
 s280 [x36, x37, x38] h11 fun x51 h12 =>
 cdK x51 (
 k (.t []) h12) (
 x50 x36 x37 x38 x39 x40 x41 x42 x43 h12)) (
 x50 x36 x37 x38 x39 x40 x41 x42 x43 h11)) fun x52 x53 x54 x55 x56 x57 x58 x59 h13 =>
 ikY .gtr x53 (.i .i64 9223372036854775808) fun x60 =>
 gdK x60 true (fun k => k x52 h13) (fun x61 h14 =>
 gdK x60 true (fun k => k x53 h14) (fun x62 h15 =>
 gdK x60 true (fun k => ikY .sub x62 (.i .i64 9223372036854775809) fun y => k y h15) (fun x63 h16 =>
 gdK x60 true (fun k => iaK 1 x61 x63 fun y => k y h16) (fun x64 h17 =>
 gdK x60 true (fun k => ld1 x64 h17 fun y => k y h17) (fun x65 h18 =>
 gdK x60 true (fun k => k x52 h18) (fun x66 h19 =>
 gdK x60 true (fun k => k x59 h19) (fun x67 h20 =>
 gdK x60 true (fun k => iaK 1 x66 x67 fun y => k y h20) (fun x68 h21 =>
 gdK x60 true (fun k => ld1 x68 h21 fun y => k y h21) (fun x69 h22 =>
 gdK x60 true (fun k => s281 [x65, x69] h22 k) (fun x70 h23 =>
 gdK x60 true (fun k => notK x70 fun y => k y h23) (fun x71 h24 =>
 pkK x60 x71 (.b false) fun x72 =>
 cdK x72 (
 s282 [x52, x53, x54, x59] h24 fun x73 h25 =>
 x4 x52 x73 x54 x55 x56 x57 h25) (
 s283 [x52, x53, x54, x59] h24 fun x74 h26 =>
 exK x74 0 fun x75 =>
 exK x74 1 fun x76 =>
 ikY .sub x75 x53 fun x77 =>
 ikY .sub x54 x75 fun x78 =>
 ikY .quo x58 (.i .i64 9223372036854775816) fun x79 =>
 ikY .lss x77 x78 fun x80 =>
 cdK x80 (
 ikY .geq x77 x79 fun x81 =>
 s273 [x52, x53, x75, x55] h26 fun x82 h27 =>
 ikY .add x75 (.i .i64 9223372036854775809) fun x83 =>
 x4 x52 x83 x54 x55 x81 x76 h27) (
 ikY .geq x78 x79 fun x84 =>
 ikY .add x75 (.i .i64 9223372036854775809) fun x85 =>
 s273 [x52, x85, x54, x55] h26 fun x86 h28 =>
 x4 x52 x53 x75 x55 x84 x76 h28))) h23) h22) h21) h20) h19) h18) h17) h16) h15) h14) h13) h10) h9) h8))) [x0, x1, x2, x3, (.b true), (.b true)] h0) args h
noncomputable def s273 : FS := S273 s275 s276 s277 s278 s279 s280 s281 s282 s283 sx
noncomputable def a273 : Ann := (.s .o (.s .o (.b (.l [0, 1, 2, 3, 8, 9] (.b (.s .o (.s (.s .o (.i (.s .o .o) .o)) (.s (.s .o (.i (.s .o .o) .o)) (.s (.s .o (.j [0, 1, 2, 3, 8, 9, 10] (.s .o .o) .o)) (.s .o (.s (.s .o (.j [0, 1, 2, 3, 8, 9, 10, 11, 12] (.s .o (.s .o .o)) .o)) (.s (.s .o (.j [0, 1, 2, 3, 8, 9, 10, 11] (.s .o (.i .o .o)) .o)) (.s (.s (.g [0, 1, 2, 3, 4, 5, 6, 7, 8, 9, 10, 11, 12, 13, 14]) (.i (.s .o (.s .o .o)) .o)) (.s .o (.s .o (.s .o (.s .o (.s .o (.i (.s .o (.s .o .o)) (.s .o (.s .o .o)))))))))))))))))))))
noncomputable def S265 (s218 s273 : FS) : FS := fun args h k => capp 1 (fun x0 h0 =>
 lnLY x0 fun x1 =>
 ciY .u64 x1 fun x2 =>
 s218 [x2] h0 fun x3 h1 =>
 s273 [x0, (.i .i64 9223372036854775808), x1, x3] h1 fun x4 h2 =>
 k (.t []) h2) args h
noncomputable def s265 : FS := S265 s218 s273
noncomputable def a265 : Ann := (.s .o .o)
noncomputable def S238 (s55 s265 : FS) : FS := fun args h k => capp 2 (fun x0 x1 h0 =>
 s55 [x0] h0 fun x2 h1 =>
 notK x2 fun x3 =>
 cdK x3 (
 k (.i .i64 9223372036854775808) h1) (
 lnLY x0 fun x4 =>
 capp 5 (lp 5 fun (x5 : CT 5) x6 x7 x8 x9 x10 h2 =>
 ikY .lss x10 x9 fun x11 =>
 cdK x11 (
 iaK 1 x8 x10 fun x12 =>
 ld1 x12 h2 fun x13 =>
 lnLY x6 fun x14 =>
 ikY .lss x13 x14 fun x15 =>
 jn 6 (fun x16 : CT 6 =>
 cdK x15 (
 iaK 1 x6 x13 fun x17 =>
 ld1 x17 h2 fun x18 =>
 x16 x6 x7 x18 x8 x9 x10 h2) (
 x16 x6 x7 (.i .i64 9223372036854775808) x8 x9 x10 h2)) fun x19 x20 x21 x22 x23 x24 h3 =>
 bsK 2 1 1 1 [x21] h3 fun x25 h4 =>
 apY 2 1 x20 x25 h4 fun x26 h5 =>
 ikY .add x24 (.i .i64 9223372036854775809) fun x27 =>
 x5 x19 x26 x22 x23 x27 h5) (
 s265 [x7] h2 fun x28 h6 =>
 lnLY x7 fun x29 =>
 ikY .sub x29 (.i .i64 9223372036854775809) fun x30 =>
 ikY .quo x30 (.i .i64 9223372036854775810) fun x31 =>
 iaK 1 x7 x31 fun x32 =>
 ld1 x32 h6 fun x33 =>
 k x33 h6)) [x1, .ns, x0, x4, (.i .i64 9223372036854775808)] h1)) args h
noncomputable def s238 : FS := S238 s55 s265
noncomputable def a238 : Ann := (.s .o (.s (.s .o (.i (.s .o .o) .o)) (.s .o (.s (.s .o (.b (.l [1, 5, 12, 13, 14] (.s .o (.s (.i .o .o) (.s (.b (.s .o (.s .o (.s (.s .o (.j [1, 5, 8, 12, 13, 14] .o .o)) .o)))) .o)))))) (.s .o (.s .o .o))))))
def Z321 : List AV := [(.i .i64 9223372036854775808), (.i .i64 9223372036854775808), (.i .i64 9223372036854775808), (.i .i64 9223372036854775808), (.i .i64 9223372036854775808), (.i .i64 9223372036854775808), (.i .i64 9223372036854775808), (.i .i64 9223372036854775808)]
def z321 : AV := .a Z321
noncomputable def S211 (s237 s238 : FS) : FS := fun args h k => capp 4 (fun x0 x1 x2 x3 h0 =>
 npK .eql x0 .np fun x4 =>
 cdK x4 (
 k (.i .i64 9223372036854775808) h0) (
 ncK x0 fun x5 =>
 faK 8 x5 fun x6 =>
 ldN 8 x6 h0 fun x7 =>
 boxK 321 8 z321 h0 fun x8 h1 =>
 stL 8 x8 x7 h1 fun h2 =>
 s237 [x0, x2] h2 fun x9 h3 =>
 jn 2 (fun x10 : CT 2 =>
 cdK x9 (
 iapK 8 1 x8 x2 fun x11 =>
 stL 1 x11 x3 h3 fun h4 =>
 x10 x1 x8 h4) (
 x10 x1 x8 h3)) fun x12 x13 h5 =>
 sapK 8 1 none none x13 fun x14 =>
 s238 [x12, x14] h5 fun x15 h6 =>
 k x15 h6)) args h
noncomputable def s211 : FS := S211 s237 s238
noncomputable def a211 : Ann := (.s .o (.s (.s .o (.i (.s .o .o) .o)) (.s .o (.s (.s .o (.j [1, 9] .o .o)) (.s .o .o)))))
noncomputable def S159 (s128 s114 s211 s156 s130 : FS) : FS := fun args h k => capp 1 (fun x0 h0 =>
 ncK x0 fun x1 =>
 faK 3 x1 fun x2 =>
 ld1 x2 h0 fun x3 =>
 s128 [x3] h0 fun x4 h1 =>
 exK x4 0 fun x5 =>
 exK x4 1 fun x6 =>
 ncK x0 fun x7 =>
 faK 9 x7 fun x8 =>
 ld1 x8 h1 fun x9 =>
 ncK x0 fun x10 =>
 faK 0 x10 fun x11 =>
 ld1 x11 h1 fun x12 =>
 ncK x0 fun x13 =>
 faK 3 x13 fun x14 =>
 ld1 x14 h1 fun x15 =>
 s114 [x15] h1 fun x16 h2 =>
 s211 [x9, x5, x12, x16] h2 fun x17 h3 =>
 ld1 x8 h2 fun x18 => ifT (avEq x18 x9) <|
 ld1 x11 h2 fun x19 => ifT (avEq x19 x12) <|
 ncK x0 fun x20 =>
 faK 4 x20 fun x21 =>
 ld1 x21 h3 fun x22 =>
 ikY .leq x17 x22 fun x23 =>
 gdK x23 false (fun k => k x0 h3) (fun x24 h4 =>
 gdK x23 false (fun k => ncK x24 fun y => k y h4) (fun x25 h5 =>
 gdK x23 false (fun k => faK 3 x25 fun y => k y h5) (fun x26 h6 =>
 gdK x23 false (fun k => ld1 x26 h6 fun y => k y h6) (fun x27 h7 =>
 gdK x23 false (fun k => k x17 h7) (fun x28 h8 =>
 gdK x23 false (fun k => k x0 h8) (fun x29 h9 =>
 gdK x23 false (fun k => ncK x29 fun y => k y h9) (fun x30 h10 =>
 gdK x23 false (fun k => faK 1 x30 fun y => k y h10) (fun x31 h11 =>
 gdK x23 false (fun k => faK 0 x31 fun y => k y h11) (fun x32 h12 =>
 gdK x23 false (fun k => ld1 x32 h12 fun y => k y h12) (fun x33 h13 =>
 gdK x23 false (fun k => s156 [x27, x28, x33] h13 k) (fun x34 h14 =>
 gdK x23 false (fun k => notK x34 fun y => k y h14) (fun x35 h15 =>
 pkK x23 (.b true) x35 fun x36 =>
 cdK x36 (
 k (.t []) h15) (
 ncK x0 fun x37 =>
 faK 4 x37 fun x38 =>
 stL 1 x38 x17 h15 fun h16 =>
 ncK x0 fun x39 =>
 faK 0 x39 fun x40 =>
 ld1 x40 h16 fun x41 =>
 s130 [x5, x41] h16 fun x42 h17 =>
 notK x42 fun x43 =>
 gdK x43 true (fun k => k x6 h17) (fun x44 h18 =>
 gdK x43 true (fun k => k x17 h18) (fun x45 h19 =>
 gdK x43 true (fun k => ikY .leq x44 x45 fun y => k y h19) (fun x46 h20 =>
 pkK x43 x46 (.b false) fun x47 =>
 cdK x47 (
 ncK x0 fun x48 =>
 faK 5 x48 fun x49 =>
 stL 1 x49 (.i .i64 9223372036854775808) h20 fun h21 =>
 ncK x0 fun x50 =>
 faK 6 x50 fun x51 =>
 stL 1 x51 (.i .i64 9223372036854775808) h21 fun h22 =>
 k (.t []) h22) (
 k (.t []) h20)) h19) h18) h17)) h14) h13) h12) h11) h10) h9) h8) h7) h6) h5) h4) h3) args h
noncomputable def s159 : FS := S159 s128 s114 s211 s156 s130
noncomputable def a159 : Ann := (.s .o (.s (.g [0, 1, 2, 3, 4, 5, 6, 7, 8, 9, 10, 11, 12, 13, 14, 15]) (.s (.s (.g [0, 1, 2, 3, 4, 5, 6, 7, 8, 9, 10, 11, 12, 13, 14, 15, 16, 17, 18, 19]) (.i .o .o)) (.s .o (.s .o (.i .o .o))))))
noncomputable def a135 : Ann := (.s .o (.s .o (.s (.s (.g [0, 1, 2, 3, 4, 5, 6, 7, 8, 9, 10, 11]) (.j [0] .o .o)) (.s .o .o))))
noncomputable def s135 : FS := fnF Tryz.prog [(114, s114), (202, s202), (157, s157), (126, s126), (158, s158), (159, s159), (129, s129)] MM Tryz.f135 a135
def Z97 : List AV := [.ns, (.b false), (.i .i64 9223372036854775808), (.b false)]
def z97 : AV := .a Z97
noncomputable def S139 : FS := fun args h k => capp 1 (fun x0 h0 =>
 boxK 97 4 z97 h0 fun x1 h1 =>
 ncK x0 fun x2 =>
 faK 10 x2 fun x3 =>
 ldN 4 x3 h1 fun x4 =>
 boxK 97 4 z97 h1 fun x5 h2 =>
 stL 4 x5 x4 h2 fun h3 =>
 blK [] Z97 fun x6 =>
 ncK x0 fun x7 =>
 faK 10 x7 fun x8 =>
 stL 4 x8 x6 h3 fun h4 =>
 ldN 4 x5 h4 fun x9 =>
 stL 4 x1 x9 h4 fun h5 =>
 ldN 4 x1 h5 fun x10 => k x10 h5) args h
noncomputable def s139 : FS := S139
noncomputable def a139 : Ann := (.s .o (.s .o (.s .o (.s .o .o))))
noncomputable def a71 : Ann := (.s .o (.s (.s .o (.i (.s .o .o) .o)) (.s .o (.s (.k [0, 2] (.s .o (.i .o (.s .o (.i .o (.s .o (.i (.s (.g [0, 1, 2, 3, 4, 5, 6, 7, 8, 9, 10, 11, 12]) (.s .o (.s .o (.s (.g [0, 1, 2, 3, 4, 5, 6, 7, 8]) (.s (.s .o (.i (.s .o .o) .o)) (.s (.g [0, 1, 2, 3, 4, 5, 6, 7, 8, 9, 10, 11, 12, 13, 14]) (.s .o (.b (.l [0, 2, 5, 105, 106, 107] (.s .o (.s (.i .o .o) (.s (.b (.s .o .o)) .o)))))))))))) .o))))))) (.s .o .o)))))
noncomputable def s71 : FS := fnF Tryz.prog [(128, s128), (129, s129), (130, s130), (131, s131), (132, s132), (133, s133), (134, s134), (135, s135), (114, s114), (136, s136), (137, s137), (138, s138), (139, s139)] MM Tryz.f71 a71
noncomputable def a193 : Ann := (.s .o (.s (.s .o (.i (.s .o .o) .o)) (.s .o .o)))
noncomputable def s193 : FS := fnF Tryz.prog [] MM Tryz.f193 a193
noncomputable def S224 (s102 s145 : FS) : FS := fun args h k => capp 3 (fun x0 x1 x2 h0 =>
 boxK 147 7 x2 h0 fun x3 h1 =>
 ncK x0 fun x4 =>
 faK 8 x4 fun x5 =>
 ld1 x5 h1 fun x6 =>
 ikY .eql x6 (.i .i64 9223372036854775808) fun x7 =>
 gdK x7 false (fun k => k x0 h1) (fun x8 h2 =>
 gdK x7 false (fun k => ncK x8 fun y => k y h2) (fun x9 h3 =>
 gdK x7 false (fun k => faK 8 x9 fun y => k y h3) (fun x10 h4 =>
 gdK x7 false (fun k => ld1 x10 h4 fun y => k y h4) (fun x11 h5 =>
 gdK x7 false (fun k => k x1 h5) (fun x12 h6 =>
 gdK x7 false (fun k => lnLY x12 fun y => k y h6) (fun x13 h7 =>
 gdK x7 false (fun k => ikY .add x11 x13 fun y => k y h7) (fun x14 h8 =>
 gdK x7 false (fun k => ikY .gtr x14 (.i .i64 9223372036855824384) fun y => k y h8) (fun x15 h9 =>
 pkK x7 (.b true) x15 fun x16 =>
 jn 3 (fun x17 : CT 3 =>
 cdK x16 (
 ncK x0 fun x18 =>
 faK 1 x18 fun x19 =>
 ldN 7 x19 h9 fun x20 =>
 s102 [x0, x20] h9 fun x21 h10 =>
 ikY .neq x21 (.i .i64 9223372036854775808) fun x22 =>
 cdK x22 (
 k x21 h10) (
 x17 x0 x1 x3 h10)) (
 x17 x0 x1 x3 h9)) fun x23 x24 x25 h11 =>
 ncK x23 fun x26 =>
 faK 0 x26 fun x27 =>
 ld1 x27 h11 fun x28 =>
 s145 [x28, (.s 5 [115, 116, 97, 116, 101]), x24] h11 fun x29 h12 =>
 ikY .neq x29 (.i .i64 9223372036854775808) fun x30 =>
 cdK x30 (
 k x29 h12) (
 ncK x23 fun x31 =>
 faK 8 x31 fun x32 =>
 ld1 x32 h12 fun x33 =>
 lnLY x24 fun x34 =>
 ikY .add x33 x34 fun x35 =>
 ncK x23 fun x36 =>
 faK 8 x36 fun x37 =>
 stL 1 x37 x35 h12 fun h13 =>
 ldN 7 x25 h13 fun x38 =>
 ncK x23 fun x39 =>
 faK 1 x39 fun x40 =>
 stL 7 x40 x38 h13 fun h14 =>
 k (.i .i64 9223372036854775808) h14)) h8) h7) h6) h5) h4) h3) h2) h1) args h
noncomputable def s224 : FS := S224 s102 s145
noncomputable def a224 : Ann := (.s .o (.s (.s .o (.j [0, 1, 5] (.s .o (.s .o (.i (.s .o .o) .o))) .o)) (.s (.s .o (.s .o (.i (.s .o .o) .o))) (.s .o (.s .o (.s .o .o))))))
noncomputable def a192 : Ann := (.s .o (.s (.s .o (.i (.s .o .o) .o)) (.s .o (.s (.s .o (.i (.s .o .o) .o)) (.s .o (.s .o (.s (.g [0, 1, 3, 2, 4, 5]) .o)))))))
noncomputable def s192 : FS := fnF Tryz.prog [(112, s112), (62, s62), (219, s219), (224, s224)] MM Tryz.f192 a192
noncomputable def S194 (s62 s112 s219 s224 : FS) : FS := fun args h k => capp 2 (fun x0 x1 h0 =>
 npK .eql x0 .np fun x2 =>
 cdK x2 (
 k (.i .i64 9223372036854775820) h0) (
 lnLY x1 fun x3 =>
 ikY .eql x3 (.i .i64 9223372036854775808) fun x4 =>
 cdK x4 (
 k (.i .i64 9223372036854775808) h0) (
 s62 [x0] h0 fun x5 h1 =>
 boxK 147 7 z147 h1 fun x6 h2 =>
 stL 7 x6 x5 h2 fun h3 =>
 iaK 4 x1 (.i .i64 9223372036854775808) fun x7 =>
 faK 0 x7 fun x8 =>
 ld1 x8 h3 fun x9 =>
 faK 2 x6 fun x10 =>
 faK 0 x10 fun x11 =>
 ld1 x11 h3 fun x12 =>
 ikY .sub x9 x12 fun x13 =>
 ikY .sub x13 (.i .i64 9223372036854775809) fun x14 =>
 ikY .lss x14 (.i .i64 9223372036854775808) fun x15 =>
 gdK x15 false (fun k => k x14 h3) (fun x16 h4 =>
 gdK x15 false (fun k => faK 6 x6 fun y => k y h4) (fun x17 h5 =>
 gdK x15 false (fun k => ld1 x17 h5 fun y => k y h5) (fun x18 h6 =>
 gdK x15 false (fun k => lnLY x18 fun y => k y h6) (fun x19 h7 =>
 gdK x15 false (fun k => ikY .gtr x16 x19 fun y => k y h7) (fun x20 h8 =>
 pkK x15 (.b true) x20 fun x21 =>
 cdK x21 (
 k (.i .i64 9223372036854775809) h8) (
 lnLY x1 fun x22 =>
 capp 8 (lp 8 fun (x23 : CT 8) x24 x25 x26 x27 x28 x29 x30 x31 h9 =>
 ikY .lss x31 x30 fun x32 =>
 cdK x32 (
 iaK 4 x29 x31 fun x33 =>
 ldN 4 x33 h9 fun x34 =>
 boxK 193 4 z193 h9 fun x35 h10 =>
 stL 4 x35 x34 h10 fun h11 =>
 ldN 4 x35 h11 fun x36 =>
 blK [(3, 4, x36)] Z195 fun x37 =>
 s112 [x37] h11 fun x38 h12 =>
 notK x38 fun x39 =>
 gdK x39 false (fun k => faK 0 x35 fun y => k y h12) (fun x40 h13 =>
 gdK x39 false (fun k => ld1 x40 h13 fun y => k y h13) (fun x41 h14 =>
 gdK x39 false (fun k => k x25 h14) (fun x42 h15 =>
 gdK x39 false (fun k => iaK 4 x42 (.i .i64 9223372036854775808) fun y => k y h15) (fun x43 h16 =>
 gdK x39 false (fun k => faK 0 x43 fun y => k y h16) (fun x44 h17 =>
 gdK x39 false (fun k => ld1 x44 h17 fun y => k y h17) (fun x45 h18 =>
 gdK x39 false (fun k => k x31 h18) (fun x46 h19 =>
 gdK x39 false (fun k => ikY .add x45 x46 fun y => k y h19) (fun x47 h20 =>
 gdK x39 false (fun k => ikY .neq x41 x47 fun y => k y h20) (fun x48 h21 =>
 pkK x39 (.b true) x48 fun x49 =>
 cdK x49 (
 k (.i .i64 9223372036854775809) h21) (
 ldN 4 x35 h21 fun x50 =>
 blK [(3, 4, x50)] Z195 fun x51 =>
 s219 [x51] h21 fun x52 h22 =>
 apY 5 1 x28 x52 h22 fun x53 h23 =>
 ikY .add x31 (.i .i64 9223372036854775809) fun x54 =>
 x23 x24 x25 x26 x27 x53 x29 x30 x54 h23)) h20) h19) h18) h17) h16) h15) h14) h13) h12) (
 lnLY x25 fun x55 =>
 ikY .add x27 x55 fun x56 =>
 ikY .gtr x56 (.i .i64 9223372036854776008) fun x57 =>
 cdK x57 (
 k (.i .i64 9223372036854775813) h9) (
 faK 6 x26 fun x58 =>
 ld1 x58 h9 fun x59 =>
 sllK 4 none (some x27) none x59 fun x60 =>
 apY 193 4 x60 x25 h9 fun x61 h24 =>
 faK 6 x26 fun x62 =>
 stL 1 x62 x61 h24 fun h25 =>
 ldN 7 x26 h25 fun x63 =>
 s224 [x24, x28, x63] h25 fun x64 h26 =>
 k x64 h26))) [x0, x1, x6, x14, .ns, x1, x22, (.i .i64 9223372036854775808)] h8)) h7) h6) h5) h4) h3))) args h
noncomputable def s194 : FS := S194 s62 s112 s219 s224
noncomputable def a194 : Ann := (.s .o (.s (.s .o (.i (.s .o .o) .o)) (.s (.s .o (.i (.s .o .o) .o)) (.s .o (.s (.g [0, 1, 2, 3, 4, 5, 6, 7, 8, 9]) (.s (.s .o (.i (.s .o .o) .o)) (.s .o (.s (.s .o (.b (.l [0, 1, 5, 6, 7, 35, 36, 37] (.s .o (.s (.i .o .o) (.s (.b (.s .o (.s (.s (.g [0, 1, 2, 3, 4, 5, 6, 7, 8, 9, 10, 11, 12, 13, 14]) (.i (.s .o .o) .o)) .o))) .o)))))) (.s (.s .o (.i (.s .o .o) .o)) (.s .o (.s .o .o)))))))))))
noncomputable def S195 (s146 : FS) : FS := fun args h k => capp 1 (fun x0 h0 =>
 npK .eql x0 .np fun x1 =>
 cdK x1 (
 k (.i .i64 9223372036854775820) h0) (
 ncK x0 fun x2 =>
 faK 8 x2 fun x3 =>
 ld1 x3 h0 fun x4 =>
 ikY .eql x4 (.i .i64 9223372036854775808) fun x5 =>
 cdK x5 (
 k (.i .i64 9223372036854775808) h0) (
 ncK x0 fun x6 =>
 faK 0 x6 fun x7 =>
 ld1 x7 h0 fun x8 =>
 s146 [x8, (.s 5 [115, 116, 97, 116, 101])] h0 fun x9 h1 =>
 k x9 h1))) args h
noncomputable def s195 : FS := S195 s146
noncomputable def a195 : Ann := (.s .o (.s (.b (.s .o (.i (.s .o .o) (.s .o (.i (.s .o .o) .o))))) (.s .o .o)))
noncomputable def S123 (s193 s192 s125 s113 s58 s66 s63 s126 s194 s195 : FS) : FS := fun args h k => capp 2 (fun x0 x1 h0 =>
 boxK 97 4 x1 h0 fun x2 h1 =>
 faK 1 x2 fun x3 =>
 ld1 x3 h1 fun x4 =>
 jn 2 (fun x5 : CT 2 =>
 cdK x4 (
 ncK x0 fun x6 =>
 faK 0 x6 fun x7 =>
 ld1 x7 h1 fun x8 =>
 ncK x0 fun x9 =>
 faK 1 x9 fun x10 =>
 ld1 x10 h1 fun x11 =>
 s193 [x11] h1 fun x12 h2 =>
 s192 [x8, x12] h2 fun x13 h3 =>
 ld1 x7 h2 fun x14 => ifT (avEq x14 x8) <|
 ikY .neq x13 (.i .i64 9223372036854775808) fun x15 =>
 cdK x15 (
 k x13 h3) (
 x5 x0 x2 h3)) (
 x5 x0 x2 h1)) fun x16 x17 h4 =>
 faK 3 x17 fun x18 =>
 ld1 x18 h4 fun x19 =>
 jn 2 (fun x20 : CT 2 =>
 cdK x19 (
 ncK x16 fun x21 =>
 faK 1 x21 fun x22 =>
 ld1 x22 h4 fun x23 =>
 s125 [x23] h4 fun x24 h5 =>
 s113 [x24] h5 fun x25 h6 =>
 boxK 144 4 z144 h6 fun x26 h7 =>
 stL 4 x26 x25 h7 fun h8 =>
 ncK x16 fun x27 =>
 faK 0 x27 fun x28 =>
 ld1 x28 h8 fun x29 =>
 ldN 4 x26 h8 fun x30 =>
 s58 [x29, x30] h8 fun x31 h9 =>
 ikY .neq x31 (.i .i64 9223372036854775808) fun x32 =>
 cdK x32 (
 k x31 h9) (
 faK 0 x26 fun x33 =>
 ld1 x33 h9 fun x34 =>
 ncK x16 fun x35 =>
 faK 2 x35 fun x36 =>
 ld1 x36 h9 fun x37 =>
 s66 [x37] h9 fun x38 h10 =>
 ikY .gtr x34 x38 fun x39 =>
 ld1 x33 h10 fun x40 => ifT (avEq x40 x34) <|
 cdK x39 (
 faK 3 x26 fun x41 =>
 ld1 x41 h10 fun x42 =>
 s63 [x42] h10 fun x43 h11 =>
 exK x43 0 fun x44 =>
 exK x43 1 fun x45 =>
 ikY .neq x45 (.i .i64 9223372036854775808) fun x46 =>
 gdK x46 false (fun k => k x44 h11) (fun x47 h12 =>
 gdK x46 false (fun k => faK 0 x26 fun y => k y h12) (fun x48 h13 =>
 gdK x46 false (fun k => ld1 x48 h13 fun y => k y h13) (fun x49 h14 =>
 gdK x46 false (fun k => s66 [x47] h14 k) (fun x50 h15 =>
 gdK x46 false (fun k => ikY .neq x50 x49 fun y => k y h15) (fun x51 h16 =>
 pkK x46 (.b true) x51 fun x52 =>
 gdK x46 false (fun k => ld1 x48 h15 fun y => k y h15) (fun x53 _ => ifT (avEq x53 x49) <|
 cdK x52 (
 k (.i .i64 9223372036854775811) h16) (
 ncK x16 fun x54 =>
 faK 2 x54 fun x55 =>
 stL 1 x55 x44 h16 fun h17 =>
 x20 x16 x17 h17)) h15) h15) h14) h13) h12) h11) (
 x20 x16 x17 h10))) (
 x20 x16 x17 h4)) fun x56 x57 h18 =>
 faK 2 x57 fun x58 =>
 ld1 x58 h18 fun x59 =>
 ikY .gtr x59 (.i .i64 9223372036854775808) fun x60 =>
 jn 2 (fun x61 : CT 2 =>
 cdK x60 (
 ncK x56 fun x62 =>
 faK 0 x62 fun x63 =>
 ld1 x63 h18 fun x64 =>
 ncK x56 fun x65 =>
 faK 1 x65 fun x66 =>
 ld1 x66 h18 fun x67 =>
 faK 2 x57 fun x68 =>
 ld1 x68 h18 fun x69 =>
 s125 [x67] h18 fun x70 h19 =>
 s126 [x70, x69, (.i .i64 9223372036854776008)] h19 fun x71 h20 =>
 s194 [x64, x71] h20 fun x72 h21 =>
 ld1 x63 h19 fun x73 => ifT (avEq x73 x64) <|
 ld1 x63 h20 fun x74 => ifT (avEq x74 x64) <|
 ld1 x68 h19 fun x75 => ifT (avEq x75 x69) <|
 ikY .neq x72 (.i .i64 9223372036854775808) fun x76 =>
 cdK x76 (
 k x72 h21) (
 x61 x56 x57 h21)) (
 x61 x56 x57 h18)) fun x77 x78 h22 =>
 faK 1 x78 fun x79 =>
 ld1 x79 h22 fun x80 =>
 gdK x80 false (fun k => faK 2 x78 fun y => k y h22) (fun x81 h23 =>
 gdK x80 false (fun k => ld1 x81 h23 fun y => k y h23) (fun x82 h24 =>
 gdK x80 false (fun k => ikY .gtr x82 (.i .i64 9223372036854775808) fun y => k y h24) (fun x83 h25 =>
 pkK x80 (.b true) x83 fun x84 =>
 cdK x84 (
 ncK x77 fun x85 =>
 faK 0 x85 fun x86 =>
 ld1 x86 h25 fun x87 =>
 s195 [x87] h25 fun x88 h26 =>
 k x88 h26) (
 k (.i .i64 9223372036854775808) h25)) h24) h23) h22) args h
noncomputable def s123 : FS := S123 s193 s192 s125 s113 s58 s66 s63 s126 s194 s195
noncomputable def a123 : Ann := (.s .o (.s (.s .o (.j [0, 3] (.s (.g [0, 1, 2, 3, 4, 5, 6, 7, 8, 9, 10]) (.s .o (.i (.s .o .o) .o))) .o)) (.s (.s .o (.j [0, 3] (.s .o (.s (.s (.g [0, 1, 2, 3, 4, 5, 6]) (.s .o (.i (.s .o .o) .o))) (.s (.g [0, 1, 2, 3, 4, 5, 6, 7]) (.i (.s .o (.s (.s (.g [0, 1, 2, 3, 5, 6, 4, 7, 8]) (.i (.s .o .o) .o)) .o)) .o)))) .o)) (.s (.s .o (.j [0, 3] (.s (.g [0, 1, 2, 3, 4, 5, 6, 7, 9, 10, 8, 11, 12, 13]) (.s .o (.i (.s .o .o) .o))) .o)) (.s (.s .o (.i (.s .o .o) .o)) (.s .o .o))))))
noncomputable def S124 : FS := fun args h k => capp 1 (fun x0 h0 =>
 npK .eql x0 .np fun x1 =>
 cdK x1 (
 k (.i .i64 9223372036854775808) h0) (
 ncK x0 fun x2 =>
 faK 4 x2 fun x3 =>
 ld1 x3 h0 fun x4 =>
 k x4 h0)) args h
noncomputable def s124 : FS := S124
noncomputable def a124 : Ann := (.s .o (.s (.s .o (.i (.s .o .o) .o)) (.s .o .o)))
noncomputable def S160 (s90 : FS) : FS := fun args h k => capp 1 (fun x0 h0 =>
 boxK 50 5 x0 h0 fun x1 h1 =>
 boxK 50 5 z50 h1 fun x2 h2 =>
 faK 1 x1 fun x3 =>
 faK 2 x3 fun x4 =>
 ld1 x4 h2 fun x5 =>
 s90 [x5] h2 fun x6 h3 =>
 faK 1 x1 fun x7 =>
 faK 2 x7 fun x8 =>
 stL 1 x8 x6 h3 fun h4 =>
 ldN 5 x1 h4 fun x9 =>
 stL 5 x2 x9 h4 fun h5 =>
 ldN 5 x2 h5 fun x10 => k x10 h5) args h
noncomputable def s160 : FS := S160 s90
noncomputable def a160 : Ann := (.s .o (.s .o (.s .o .o)))
noncomputable def S127 (s109 s110 s160 : FS) : FS := fun args h k => capp 2 (fun x0 x1 h0 =>
 boxK 193 4 x1 h0 fun x2 h1 =>
 boxK 50 5 z50 h1 fun x3 h2 =>
 npK .eql x0 .np fun x4 =>
 gdK x4 false (fun k => faK 0 x2 fun y => k y h2) (fun x5 h3 =>
 gdK x4 false (fun k => ld1 x5 h3 fun y => k y h3) (fun x6 h4 =>
 gdK x4 false (fun k => k x0 h4) (fun x7 h5 =>
 gdK x4 false (fun k => ncK x7 fun y => k y h5) (fun x8 h6 =>
 gdK x4 false (fun k => faK 0 x8 fun y => k y h6) (fun x9 h7 =>
 gdK x4 false (fun k => ld1 x9 h7 fun y => k y h7) (fun x10 h8 =>
 gdK x4 false (fun k => ikY .add x10 (.i .i64 9223372036854775809) fun y => k y h8) (fun x11 h9 =>
 gdK x4 false (fun k => ikY .neq x6 x11 fun y => k y h9) (fun x12 h10 =>
 pkK x4 (.b true) x12 fun x13 =>
 cdK x13 (
 blK [] Z50 fun x14 =>
 stL 5 x3 x14 h10 fun h11 =>
 ldN 5 x3 h11 fun x15 => k (.t [x15, (.b false)]) h11) (
 ncK x0 fun x16 =>
 faK 0 x16 fun x17 =>
 ld1 x17 h10 fun x18 =>
 ikY .add x18 (.i .i64 9223372036854775809) fun x19 =>
 ncK x0 fun x20 =>
 faK 0 x20 fun x21 =>
 stL 1 x21 x19 h10 fun h12 =>
 faK 3 x2 fun x22 =>
 ld1 x22 h12 fun x23 =>
 sb2Y 5 x23 h12 fun x24 h13 =>
 s109 [x24] h13 fun x25 h14 =>
 exK x25 0 fun x26 =>
 exK x25 1 fun x27 =>
 boxK 48 3 z48 h14 fun x28 h15 =>
 stL 3 x28 x26 h15 fun h16 =>
 faK 2 x2 fun x29 =>
 ld1 x29 h16 fun x30 =>
 ikY .neq x30 (.i .i64 9223372036854775810) fun x31 =>
 gdK x31 false (fun k => k x27 h16) (fun x32 h17 =>
 gdK x31 false (fun k => ikY .neq x32 (.i .i64 9223372036854775808) fun y => k y h17) (fun x33 h18 =>
 pkK x31 (.b true) x33 fun x34 =>
 cdK x34 (
 blK [] Z50 fun x35 =>
 stL 5 x3 x35 h18 fun h19 =>
 ldN 5 x3 h19 fun x36 => k (.t [x36, (.b false)]) h19) (
 ncK x0 fun x37 =>
 faK 1 x37 fun x38 =>
 ld1 x38 h18 fun x39 =>
 ldN 3 x28 h18 fun x40 =>
 s110 [x39, x40] h18 fun x41 h20 =>
 exK x41 0 fun x42 =>
 exK x41 1 fun x43 =>
 boxK 50 5 z50 h20 fun x44 h21 =>
 stL 5 x44 x42 h21 fun h22 =>
 jn 3 (fun x45 : CT 3 =>
 cdK x43 (
 ncK x0 fun x46 =>
 faK 2 x46 fun x47 =>
 ld1 x47 h22 fun x48 =>
 ldN 5 x44 h22 fun x49 =>
 s160 [x49] h22 fun x50 h23 =>
 bsK 50 5 1 5 [x50] h23 fun x51 h24 =>
 apY 50 5 x48 x51 h24 fun x52 h25 =>
 ncK x0 fun x53 =>
 faK 2 x53 fun x54 =>
 stL 1 x54 x52 h25 fun h26 =>
 ld1 x47 h23 fun x55 => ifT (avEq x55 x48) <|
 ld1 x47 h24 fun x56 => ifT (avEq x56 x48) <|
 x45 x3 x44 x43 h26) (
 x45 x3 x44 x43 h22)) fun x57 x58 x59 h27 =>
 ldN 5 x58 h27 fun x60 =>
 stL 5 x57 x60 h27 fun h28 =>
 ldN 5 x57 h28 fun x61 => k (.t [x61, x59]) h28)) h17) h16)) h9) h8) h7) h6) h5) h4) h3) h2) args h
noncomputable def s127 : FS := S127 s109 s110 s160
noncomputable def a127 : Ann := (.s .o (.s (.s (.g [0, 1, 2, 3, 4, 5, 6, 7, 8, 9, 10, 11]) (.i (.s .o .o) .o)) (.s .o (.s .o (.s (.s .o (.i (.s .o .o) .o)) (.s (.g [0, 1, 2, 3, 4, 5, 6, 7, 8, 9, 10, 11]) (.s (.s .o (.j [4, 8, 9] (.g [0, 1, 2, 3, 4, 5, 6, 7, 8, 9, 10, 11]) .o)) (.s .o .o))))))))
noncomputable def S70 (s123 s66 s124 s125 s126 s127 : FS) : FS := fun args h k => capp 2 (fun x0 x1 h0 =>
 boxK 97 4 x1 h0 fun x2 h1 =>
 ldN 4 x2 h1 fun x3 =>
 s123 [x0, x3] h1 fun x4 h2 =>
 ikY .neq x4 (.i .i64 9223372036854775808) fun x5 =>
 cdK x5 (
 ncK x0 fun x6 =>
 faK 3 x6 fun x7 =>
 stL 1 x7 (.b true) h2 fun h3 =>
 k .ns h3) (
 jn 1 (fun x8 : CT 1 =>
 capp 2 (lp 2 fun (x9 : CT 2) x10 x11 h4 =>
 ncK x10 fun x12 =>
 faK 2 x12 fun x13 =>
 ld1 x13 h4 fun x14 =>
 ncK x10 fun x15 =>
 faK 1 x15 fun x16 =>
 ld1 x16 h4 fun x17 =>
 s66 [x14] h4 fun x18 h5 =>
 s124 [x17] h5 fun x19 h6 =>
 ikY .lss x18 x19 fun x20 =>
 ld1 x16 h5 fun x21 => ifT (avEq x21 x17) <|
 cdK x20 (
 ncK x10 fun x22 =>
 faK 1 x22 fun x23 =>
 ld1 x23 h6 fun x24 =>
 ncK x10 fun x25 =>
 faK 2 x25 fun x26 =>
 ld1 x26 h6 fun x27 =>
 s125 [x24] h6 fun x28 h7 =>
 s66 [x27] h7 fun x29 h8 =>
 ikY .add x29 (.i .i64 9223372036854775809) fun x30 =>
 s126 [x28, x30, (.i .i64 9223372036854775809)] h8 fun x31 h9 =>
 ld1 x26 h7 fun x32 => ifT (avEq x32 x27) <|
 lnLY x31 fun x33 =>
 ikY .eql x33 (.i .i64 9223372036854775808) fun x34 =>
 cdK x34 (
 x8 x11 h9) (
 ncK x10 fun x35 =>
 faK 2 x35 fun x36 =>
 ld1 x36 h9 fun x37 =>
 iaK 4 x31 (.i .i64 9223372036854775808) fun x38 =>
 ldN 4 x38 h9 fun x39 =>
 s127 [x37, x39] h9 fun x40 h10 =>
 x9 x10 x11 h10)) (
 x8 x11 h6)) [x0, x2] h2) fun x41 h11 =>
 faK 0 x41 fun x42 =>
 ld1 x42 h11 fun x43 =>
 k x43 h11)) args h
noncomputable def s70 : FS := S70 s123 s66 s124 s125 s126 s127
noncomputable def a70 : Ann := (.s .o (.s (.s .o (.i (.s .o (.s .o .o)) .o)) (.s (.k [3] (.l [0, 3] (.s (.s (.g [0, 1, 2, 3, 5, 6, 7, 8, 4, 9, 10]) (.i .o .o)) (.b (.s (.g [0, 1, 2, 3, 5, 6, 7, 8, 4, 9, 10, 11, 12]) (.s (.s .o (.i .o .o)) (.g [0, 1, 2, 3, 4, 5, 6, 7]))))))) (.s .o .o))))
noncomputable def a39 : Ann := (.s .o (.s (.s .o (.i (.s .o .o) .o)) (.s .o .o)))
noncomputable def s39 : FS := fnF Tryz.prog [(69, s69), (71, s71), (70, s70)] MM Tryz.f39 a39
noncomputable def S189 : FS := fun args h k => capp 1 (fun x0 h0 =>
 ikY .geq x0 (.i .i64 9223372036854775809) fun x1 =>
 gdK x1 true (fun k => k x0 h0) (fun x2 h1 =>
 gdK x1 true (fun k => ikY .leq x2 (.i .i64 9223372036854775815) fun y => k y h1) (fun x3 h2 =>
 pkK x1 x3 (.b false) fun x4 =>
 k x4 h2) h1) h0) args h
noncomputable def s189 : FS := S189
noncomputable def a189 : Ann := (.s .o (.s .o .o))
noncomputable def S190 : FS := fun args h k => capp 2 (fun x0 x1 h0 =>
 lnLY x1 fun x2 =>
 capp 4 (lp 4 fun (x3 : CT 4) x4 x5 x6 x7 h1 =>
 ikY .lss x7 x6 fun x8 =>
 cdK x8 (
 iaK 1 x5 x7 fun x9 =>
 ld1 x9 h1 fun x10 =>
 ikY .lss x10 x4 fun x11 =>
 gdK x11 false (fun k => k x10 h1) (fun x12 h2 =>
 gdK x11 false (fun k => ikY .gtr x12 (.i .i64 9223373136366403584) fun y => k y h2) (fun x13 h3 =>
 pkK x11 (.b true) x13 fun x14 =>
 cdK x14 (
 k (.b false) h3) (
 ikY .add x7 (.i .i64 9223372036854775809) fun x15 =>
 x3 x4 x5 x6 x15 h3)) h2) h1) (
 k (.b true) h1)) [x0, x1, x2, (.i .i64 9223372036854775808)] h0) args h
noncomputable def s190 : FS := S190
noncomputable def a190 : Ann := (.s .o (.s (.s .o (.b (.l [0, 7, 8, 9] (.s .o (.s (.i .o .o) (.s (.b (.s .o (.s .o (.i (.s .o .o) .o)))) .o)))))) (.s .o .o)))
end Go.Proofs.YtpchmdddkpocgaaGreatDoor
