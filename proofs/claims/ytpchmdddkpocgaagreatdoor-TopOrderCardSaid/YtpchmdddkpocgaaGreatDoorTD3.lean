/-
  No claim by itself: what the functions' texts mean. No condition.
-/
import Derived.Test.YtpchmdddkpocgaaGreatDoorTD2
namespace Go.Proofs.YtpchmdddkpocgaaGreatDoor
set_option linter.unusedVariables false
set_option maxRecDepth 100000
noncomputable def S191 (s112 : FS) : FS := fun args h k => capp 1 (fun x0 h0 =>
 boxK 156 13 x0 h0 fun x1 h1 =>
 faK 4 x1 fun x2 =>
 ld1 x2 h1 fun x3 =>
 faK 5 x1 fun x4 =>
 ld1 x4 h1 fun x5 =>
 faK 8 x1 fun x6 =>
 ld1 x6 h1 fun x7 =>
 lnLY x7 fun x8 =>
 capp 6 (lp 6 fun (x9 : CT 6) x10 x11 x12 x13 x14 x15 h2 =>
 ikY .lss x15 x14 fun x16 =>
 cdK x16 (
 iaK 4 x13 x15 fun x17 =>
 ldN 4 x17 h2 fun x18 =>
 boxK 193 4 z193 h2 fun x19 h3 =>
 stL 4 x19 x18 h3 fun h4 =>
 faK 0 x19 fun x20 =>
 ld1 x20 h4 fun x21 =>
 ikY .add x11 (.i .i64 9223372036854775809) fun x22 =>
 ikY .neq x21 x22 fun x23 =>
 gdK x23 false (fun k => faK 1 x19 fun y => k y h4) (fun x24 h5 =>
 gdK x23 false (fun k => ld1 x24 h5 fun y => k y h5) (fun x25 h6 =>
 gdK x23 false (fun k => k x12 h6) (fun x26 h7 =>
 gdK x23 false (fun k => ikY .lss x25 x26 fun y => k y h7) (fun x27 h8 =>
 pkK x23 (.b true) x27 fun x28 =>
 gdK x28 false (fun k => faK 1 x19 fun y => k y h8) (fun x29 h9 =>
 gdK x28 false (fun k => ld1 x29 h9 fun y => k y h9) (fun x30 h10 =>
 gdK x28 false (fun k => faK 3 x10 fun y => k y h10) (fun x31 h11 =>
 gdK x28 false (fun k => ld1 x31 h11 fun y => k y h11) (fun x32 h12 =>
 gdK x28 false (fun k => ikY .gtr x30 x32 fun y => k y h12) (fun x33 h13 =>
 pkK x28 (.b true) x33 fun x34 =>
 gdK x34 false (fun k => ldN 4 x19 h13 fun y => k y h13) (fun x35 h14 =>
 gdK x34 false (fun k => blK [(3, 4, x35)] Z195 fun y => k y h14) (fun x36 h15 =>
 gdK x34 false (fun k => s112 [x36] h15 k) (fun x37 h16 =>
 gdK x34 false (fun k => notK x37 fun y => k y h16) (fun x38 h17 =>
 pkK x34 (.b true) x38 fun x39 =>
 cdK x39 (
 k (.b false) h17) (
 faK 0 x19 fun x40 =>
 ld1 x40 h17 fun x41 =>
 faK 1 x19 fun x42 =>
 ld1 x42 h17 fun x43 =>
 ikY .add x15 (.i .i64 9223372036854775809) fun x44 =>
 x9 x10 x41 x43 x13 x14 x44 h17)) h16) h15) h14) h13) h12) h11) h10) h9) h8) h7) h6) h5) h4) (
 faK 8 x10 fun x45 =>
 ld1 x45 h2 fun x46 =>
 lnLY x46 fun x47 =>
 ikY .leq x47 (.i .i64 9223372036854775816) fun x48 =>
 gdK x48 true (fun k => faK 8 x10 fun y => k y h2) (fun x49 h18 =>
 gdK x48 true (fun k => ld1 x49 h18 fun y => k y h18) (fun x50 h19 =>
 gdK x48 true (fun k => lnLY x50 fun y => k y h19) (fun x51 h20 =>
 gdK x48 true (fun k => ikY .eql x51 (.i .i64 9223372036854775808) fun y => k y h20) (fun x52 h21 =>
 gdK x48 true (fun k => k x52 h21) (fun x53 h22 =>
 gdK x53 false (fun k => faK 0 x10 fun y => k y h22) (fun x54 h23 =>
 gdK x53 false (fun k => ld1 x54 h23 fun y => k y h23) (fun x55 h24 =>
 gdK x53 false (fun k => ikY .eql x55 (.i .i64 9223372036854775811) fun y => k y h24) (fun x56 h25 =>
 gdK x48 true (fun k => pkK x53 (.b true) x56 fun y => k y h25) (fun x57 h26 =>
 pkK x48 x57 (.b false) fun x58 =>
 k x58 h26) h25) h24) h23) h22) h21) h20) h19) h18) h2)) [x1, x3, x5, x7, x8, (.i .i64 9223372036854775808)] h1) args h
noncomputable def s191 : FS := S191 s112
noncomputable def a191 : Ann := (.s .o (.s (.g [0, 1, 2, 3, 4, 5]) (.s (.s .o (.b (.l [1, 3, 4, 12, 13, 14] (.s .o (.s (.i .o .o) (.s (.b (.s .o (.s (.s .o (.i (.s .o .o) .o)) (.g [0, 1, 2, 3, 4, 5])))) .o)))))) (.s .o .o))))
noncomputable def S121 (s189 s190 s191 s154 s101 : FS) : FS := fun args h k => capp 1 (fun x0 h0 =>
 boxK 156 13 x0 h0 fun x1 h1 =>
 faK 0 x1 fun x2 =>
 ld1 x2 h1 fun x3 =>
 ikY .lss x3 (.i .i64 9223372036854775809) fun x4 =>
 gdK x4 false (fun k => faK 0 x1 fun y => k y h1) (fun x5 h2 =>
 gdK x4 false (fun k => ld1 x5 h2 fun y => k y h2) (fun x6 h3 =>
 gdK x4 false (fun k => ikY .gtr x6 (.i .i64 9223372036854775813) fun y => k y h3) (fun x7 h4 =>
 pkK x4 (.b true) x7 fun x8 =>
 gdK x8 false (fun k => faK 1 x1 fun y => k y h4) (fun x9 h5 =>
 gdK x8 false (fun k => ld1 x9 h5 fun y => k y h5) (fun x10 h6 =>
 gdK x8 false (fun k => s189 [x10] h6 k) (fun x11 h7 =>
 gdK x8 false (fun k => notK x11 fun y => k y h7) (fun x12 h8 =>
 pkK x8 (.b true) x12 fun x13 =>
 gdK x13 false (fun k => faK 2 x1 fun y => k y h8) (fun x14 h9 =>
 gdK x13 false (fun k => ld1 x14 h9 fun y => k y h9) (fun x15 h10 =>
 gdK x13 false (fun k => s189 [x15] h10 k) (fun x16 h11 =>
 gdK x13 false (fun k => notK x16 fun y => k y h11) (fun x17 h12 =>
 pkK x13 (.b true) x17 fun x18 =>
 gdK x18 false (fun k => faK 3 x1 fun y => k y h12) (fun x19 h13 =>
 gdK x18 false (fun k => ld1 x19 h13 fun y => k y h13) (fun x20 h14 =>
 gdK x18 false (fun k => bsK 2 1 1 1 [x20] h14 k) (fun x21 h15 =>
 gdK x18 false (fun k => s190 [(.i .i64 9223372036854775809), x21] h15 k) (fun x22 h16 =>
 gdK x18 false (fun k => notK x22 fun y => k y h16) (fun x23 h17 =>
 pkK x18 (.b true) x23 fun x24 =>
 gdK x24 false (fun k => faK 4 x1 fun y => k y h17) (fun x25 h18 =>
 gdK x24 false (fun k => ld1 x25 h18 fun y => k y h18) (fun x26 h19 =>
 gdK x24 false (fun k => faK 5 x1 fun y => k y h19) (fun x27 h20 =>
 gdK x24 false (fun k => ld1 x27 h20 fun y => k y h20) (fun x28 h21 =>
 gdK x24 false (fun k => faK 6 x1 fun y => k y h21) (fun x29 h22 =>
 gdK x24 false (fun k => ld1 x29 h22 fun y => k y h22) (fun x30 h23 =>
 gdK x24 false (fun k => bsK 2 1 3 3 [x26, x28, x30] h23 k) (fun x31 h24 =>
 gdK x24 false (fun k => s190 [(.i .i64 9223372036854775808), x31] h24 k) (fun x32 h25 =>
 gdK x24 false (fun k => notK x32 fun y => k y h25) (fun x33 h26 =>
 pkK x24 (.b true) x33 fun x34 =>
 gdK x34 false (fun k => ldN 13 x1 h26 fun y => k y h26) (fun x35 h27 =>
 gdK x34 false (fun k => s191 [x35] h27 k) (fun x36 h28 =>
 gdK x34 false (fun k => notK x36 fun y => k y h28) (fun x37 h29 =>
 pkK x34 (.b true) x37 fun x38 =>
 cdK x38 (
 k (.b false) h29) (
 faK 7 x1 fun x39 =>
 ld1 x39 h29 fun x40 =>
 gdK x40 true (fun k => faK 0 x1 fun y => k y h29) (fun x41 h30 =>
 gdK x40 true (fun k => ld1 x41 h30 fun y => k y h30) (fun x42 h31 =>
 gdK x40 true (fun k => ikY .neq x42 (.i .i64 9223372036854775810) fun y => k y h31) (fun x43 h32 =>
 pkK x40 x43 (.b false) fun x44 =>
 gdK x44 true (fun k => faK 0 x1 fun y => k y h32) (fun x45 h33 =>
 gdK x44 true (fun k => ld1 x45 h33 fun y => k y h33) (fun x46 h34 =>
 gdK x44 true (fun k => ikY .neq x46 (.i .i64 9223372036854775812) fun y => k y h34) (fun x47 h35 =>
 pkK x44 x47 (.b false) fun x48 =>
 cdK x48 (
 k (.b false) h35) (
 faK 0 x1 fun x49 =>
 ld1 x49 h35 fun x50 =>
 ikY .neq x50 (.i .i64 9223372036854775813) fun x51 =>
 cdK x51 (
 faK 9 x1 fun x52 =>
 ldN 4 x52 h35 fun x53 =>
 blK [] Z144 fun x54 =>
 sqA .eql 144 x53 x54 fun x55 =>
 k x55 h35) (
 faK 9 x1 fun x56 =>
 faK 2 x56 fun x57 =>
 ld1 x57 h35 fun x58 =>
 s154 [x58] h35 fun x59 h36 =>
 exK x59 0 fun x60 =>
 exK x59 1 fun x61 =>
 gdK x61 true (fun k => faK 9 x1 fun y => k y h36) (fun x62 h37 =>
 gdK x61 true (fun k => ldN 4 x62 h37 fun y => k y h37) (fun x63 h38 =>
 gdK x61 true (fun k => s101 [x63] h38 k) (fun x64 h39 =>
 gdK x61 true (fun k => nsK .neq x64 .ns fun y => k y h39) (fun x65 h40 =>
 pkK x61 x65 (.b false) fun x66 =>
 k x66 h40) h39) h38) h37) h36))) h34) h33) h32) h31) h30) h29)) h28) h27) h26) h25) h24) h23) h22) h21) h20) h19) h18) h17) h16) h15) h14) h13) h12) h11) h10) h9) h8) h7) h6) h5) h4) h3) h2) h1) args h
noncomputable def s121 : FS := S121 s189 s190 s191 s154 s101
noncomputable def a121 : Ann := (.s .o (.s (.s .o (.i (.s .o .o) .o)) (.s (.s .o (.i (.s .o .o) .o)) (.s (.s .o (.i (.s .o .o) .o)) (.s .o (.s .o .o))))))
noncomputable def S122 (s106 : FS) : FS := fun args h k => capp 1 (fun x0 h0 =>
 boxK 156 13 x0 h0 fun x1 h1 =>
 boxK 156 13 z156 h1 fun x2 h2 =>
 faK 8 x1 fun x3 =>
 ld1 x3 h2 fun x4 =>
 s106 [x4] h2 fun x5 h3 =>
 faK 8 x1 fun x6 =>
 stL 1 x6 x5 h3 fun h4 =>
 ldN 13 x1 h4 fun x7 =>
 stL 13 x2 x7 h4 fun h5 =>
 ldN 13 x2 h5 fun x8 => k x8 h5) args h
noncomputable def s122 : FS := S122 s106
noncomputable def a122 : Ann := (.s .o (.s .o (.s .o .o)))
noncomputable def a68 : Ann := (.s .o (.s (.s .o (.i (.s .o .o) .o)) (.s (.g [0, 1, 2, 3, 4, 5, 6, 7, 8, 9, 10, 11]) (.s .o .o))))
noncomputable def s68 : FS := fnF Tryz.prog [(121, s121), (122, s122)] MM Tryz.f68 a68
noncomputable def S38 (s68 : FS) : FS := fun args h k => capp 2 (fun x0 x1 h0 =>
 lnLY x1 fun x2 =>
 capp 4 (lp 4 fun (x3 : CT 4) x4 x5 x6 x7 h1 =>
 ikY .lss x7 x6 fun x8 =>
 cdK x8 (
 iaK 13 x5 x7 fun x9 =>
 ldN 13 x9 h1 fun x10 =>
 boxK 156 13 z156 h1 fun x11 h2 =>
 stL 13 x11 x10 h2 fun h3 =>
 ncK x4 fun x12 =>
 faK 4 x12 fun x13 =>
 ld1 x13 h3 fun x14 =>
 ldN 13 x11 h3 fun x15 =>
 s68 [x14, x15] h3 fun x16 h4 =>
 ikY .add x7 (.i .i64 9223372036854775809) fun x17 =>
 x3 x4 x5 x6 x17 h4) (
 k (.t []) h1)) [x0, x1, x2, (.i .i64 9223372036854775808)] h0) args h
noncomputable def s38 : FS := S38 s68
noncomputable def a38 : Ann := (.s .o (.b (.l [0, 6, 7, 8] (.s .o (.s (.i .o .o) (.s (.b (.s .o (.g [0, 1, 2, 3, 4, 5]))) .o))))))
noncomputable def a22 : Ann := (.s .o (.s .o (.s (.s .o (.i (.s .o .o) .o)) (.s .o (.s .o .o)))))
noncomputable def s22 : FS := fnF Tryz.prog [(18, s18), (37, s37), (39, s39), (38, s38)] MM Tryz.f22 a22
noncomputable def S53 : FS := fun args h k => capp 1 (fun x0 h0 =>
 npK .eql x0 .np fun x1 =>
 cdK x1 (
 k .np h0) (
 ncK x0 fun x2 =>
 faK 4 x2 fun x3 =>
 ld1 x3 h0 fun x4 =>
 k x4 h0)) args h
noncomputable def s53 : FS := S53
noncomputable def a53 : Ann := (.s .o (.s (.s .o (.i (.s .o .o) .o)) (.s .o .o)))
noncomputable def S54 : FS := fun args h k => capp 1 (fun x0 h0 =>
 npK .eql x0 .np fun x1 =>
 cdK x1 (
 k (.i .i64 9223372036854775808) h0) (
 ncK x0 fun x2 =>
 faK 0 x2 fun x3 =>
 ld1 x3 h0 fun x4 =>
 lnLY x4 fun x5 =>
 k x5 h0)) args h
noncomputable def s54 : FS := S54
noncomputable def a54 : Ann := (.s .o (.s (.s .o (.i (.s .o .o) .o)) (.s .o .o)))
noncomputable def a140 : Ann := (.s .o (.s (.s .o (.i (.s .o .o) .o)) (.s .o .o)))
noncomputable def s140 : FS := fnF Tryz.prog [(54, s54), (122, s122)] MM Tryz.f140 a140
noncomputable def a203 : Ann := (.s .o (.s .o (.s (.s .o (.i (.s .o .o) .o)) (.s .o (.s (.g [0, 1, 2, 3, 4, 5, 6, 7]) (.s .o (.s .o .o)))))))
noncomputable def s203 : FS := fnF Tryz.prog [] MM Tryz.f203 a203
noncomputable def a141 : Ann := (.s .o (.s (.s .o (.i (.s .o .o) .o)) (.s .o (.s .o .o))))
noncomputable def s141 : FS := fnF Tryz.prog [(54, s54), (203, s203)] MM Tryz.f141 a141
noncomputable def a229 : Ann := (.s .o .o)
noncomputable def s229 : FS := fnF Tryz.prog [(131, s131)] MM Tryz.f229 a229
noncomputable def a257 : Ann := (.s .o (.s (.s .o (.i (.s .o .o) .o)) (.s .o (.s .o .o))))
noncomputable def s257 : FS := fnF Tryz.prog [(114, s114), (136, s136)] MM Tryz.f257 a257
noncomputable def a230 : Ann := (.s .o (.s (.g [0, 1, 2, 3, 4, 5, 6, 7, 8, 9, 10, 11, 12, 13, 14, 15, 16, 17, 18, 19, 20, 21, 22, 23, 24, 25, 26, 27]) (.s (.s .o (.j [0, 3, 4] (.s (.g [0, 1, 2, 3, 4, 5, 6, 7, 8, 9]) .o) .o)) .o)))
noncomputable def s230 : FS := fnF Tryz.prog [(257, s257), (131, s131), (138, s138)] MM Tryz.f230 a230
noncomputable def s258 : FS := sx
noncomputable def s259 : FS := sx
noncomputable def a231 : Ann := (.s .o (.s (.s .o (.i .o .o)) (.s (.s .o (.j [0] (.g [0, 1, 2, 3, 4, 5, 6]) (.g [0, 1, 2, 3, 4, 5, 6]))) (.b (.s .o (.i .o (.s .o (.i .o .o))))))))
noncomputable def s231 : FS := fnF Tryz.prog [(133, s133), (258, s258), (134, s134), (135, s135), (259, s259)] MM Tryz.f231 a231
noncomputable def a260 : Ann := (.s .o (.s (.s .o (.i (.s .o .o) .o)) (.s (.g [0, 1, 2, 3, 4, 5, 6, 7, 8, 9, 10, 11, 12, 13]) (.s .o .o))))
noncomputable def s260 : FS := fnF Tryz.prog [] MM Tryz.f260 a260
noncomputable def a232 : Ann := (.s .o (.s (.s .o (.i .o .o)) (.s (.s (.g [0, 1, 2, 3, 4, 5, 6, 7, 8, 9, 10, 11, 12, 13, 14, 15, 16, 17, 18]) (.i (.s (.g [0, 1, 2, 3, 4, 5, 6, 8, 9, 10, 7, 11, 12, 13, 14]) .o) .o)) (.s .o (.s .o (.s (.b (.l [0, 3, 4, 5] (.s (.s (.g [0, 1, 2, 3, 4, 5, 6, 7, 8, 9, 10, 11, 12, 13]) (.i .o .o)) (.b .o)))) (.s (.s .o (.i (.s (.g [0, 1, 2, 3, 4, 5, 6, 7, 8, 9]) .o) .o)) (.s (.g [0, 1, 2, 3, 4, 5, 6, 7, 8, 9, 10, 11, 12]) .o))))))))
noncomputable def s232 : FS := fnF Tryz.prog [(260, s260), (156, s156), (114, s114), (138, s138), (210, s210), (209, s209)] MM Tryz.f232 a232
noncomputable def s261 : FS := sx
noncomputable def a262 : Ann := (.s .o (.s (.s .o (.i (.s .o .o) .o)) (.s .o (.s (.g [0, 1, 2, 3, 4, 5, 6, 7, 8, 9, 10, 11, 12, 13]) (.s (.g [0, 1, 2, 3, 4, 5, 6, 7, 8, 9, 10, 11, 12, 13, 14, 15, 16, 17, 18, 19]) (.s .o .o))))))
noncomputable def s262 : FS := fnF Tryz.prog [(237, s237), (228, s228)] MM Tryz.f262 a262
noncomputable def a233 : Ann := (.s .o (.s (.s (.g [0, 1, 2, 3, 4, 5, 6, 7, 8, 9, 10, 11, 12, 13, 14]) (.i .o .o)) (.s (.s .o (.i (.s (.s (.g [0, 1, 2, 3, 4, 5, 6, 7, 8]) (.i .o .o)) .o) .o)) (.s (.s (.g [0, 1, 2, 3, 4, 5, 6, 7, 8]) (.j [0, 3] .o .o)) (.s (.g [0, 1, 2, 3, 4, 5, 6, 7, 8, 9, 10, 11, 13, 14, 15, 16, 12, 17, 18, 19]) (.i .o .o))))))
noncomputable def s233 : FS := fnF Tryz.prog [(114, s114), (261, s261), (197, s197), (262, s262), (159, s159), (225, s225)] MM Tryz.f233 a233
noncomputable def s234 : FS := sx
noncomputable def a204 : Ann := (.s .o (.s (.s (.g [0, 1, 2, 3, 4, 5, 6, 7, 8, 9, 10, 11, 12, 13, 14, 15, 16, 17, 18, 19, 20, 21, 22, 23, 24]) (.i (.s .o .o) .o)) (.s (.b (.s (.g [0, 1, 2, 3, 4, 5, 6, 7, 8]) (.j [0, 3, 4] .o (.s (.g [0, 1, 2, 3, 4, 5, 6, 7, 8]) (.i (.s (.s .o (.b (.s .o (.j [0, 4] .o (.s (.s .o (.j [0, 3, 4, 62] .o .o)) (.i .o .o)))))) (.s .o .o)) .o))))) (.s (.s .o (.b (.s .o (.j [0, 4] .o (.s .o (.i .o (.s .o (.i .o (.s .o (.i .o (.s .o (.i .o .o)))))))))))) (.s .o .o)))))
noncomputable def s204 : FS := fnF Tryz.prog [(121, s121), (229, s229), (138, s138), (139, s139), (230, s230), (231, s231), (232, s232), (233, s233), (234, s234)] MM Tryz.f204 a204
noncomputable def a142 : Ann := (.s .o (.s (.s .o (.i (.s .o .o) .o)) (.s (.g [0, 1, 2, 3, 4, 5, 6, 7, 8]) .o)))
noncomputable def s142 : FS := fnF Tryz.prog [(69, s69), (204, s204), (70, s70)] MM Tryz.f142 a142
noncomputable def a72 : Ann := (.s .o (.s (.s .o (.i (.s .o .o) .o)) (.s .o (.s (.s .o (.i (.s .o .o) .o)) (.s (.s .o (.j [0, 7] .o .o)) (.s (.s (.g [0, 1, 2, 3, 4, 5, 6, 7]) (.s .o (.j [] .o .o))) (.s .o .o)))))))
noncomputable def s72 : FS := fnF Tryz.prog [(140, s140), (141, s141), (142, s142), (38, s38)] MM Tryz.f72 a72
noncomputable def S40 (s53 s54 s72 : FS) : FS := fun args h k => capp 2 (fun x0 x1 h0 =>
 mmL mxK [(.i .i64 9223372036854775808)] x1 fun x2 =>
 mmL mnK [(.i .i64 9223372036854795808)] x2 fun x3 =>
 jn 1 (fun x4 : CT 1 =>
 capp 3 (lp 3 fun (x5 : CT 3) x6 x7 x8 h1 =>
 ikY .lss x8 x7 fun x9 =>
 cdK x9 (
 s53 [x6] h1 fun x10 h2 =>
 s54 [x10] h2 fun x11 h3 =>
 ikY .eql x11 (.i .i64 9223372036854775808) fun x12 =>
 cdK x12 (
 x4 x6 h3) (
 s72 [x6, (.i .i64 9223372036854775808), (.b false)] h3 fun x13 h4 =>
 ikY .add x8 (.i .i64 9223372036854775809) fun x14 =>
 x5 x6 x7 x14 h4)) (
 x4 x6 h1)) [x0, x3, (.i .i64 9223372036854775808)] h0) fun x15 h5 =>
 s53 [x15] h5 fun x16 h6 =>
 s54 [x16] h6 fun x17 h7 =>
 ikY .eql x17 (.i .i64 9223372036854775808) fun x18 =>
 k x18 h7) args h
noncomputable def s40 : FS := S40 s53 s54 s72
noncomputable def a40 : Ann := (.s .o (.s (.s .o (.k [0] (.l [0, 7, 8] (.s .o (.s (.i .o .o) (.s (.b (.s (.s .o (.i .o .o)) .o)) .o)))))) (.s .o .o)))
noncomputable def S150 (s144 s73 : FS) : FS := fun args h k => capp 1 (fun x0 h0 =>
 npK .eql x0 .np fun x1 =>
 cdK x1 (
 k .ns h0) (
 ncK x0 fun x2 =>
 faK 2 x2 fun x3 =>
 ld1 x3 h0 fun x4 =>
 ncK x0 fun x5 =>
 faK 3 x5 fun x6 =>
 ld1 x6 h0 fun x7 =>
 ncK x0 fun x8 =>
 faK 1 x8 fun x9 =>
 ld1 x9 h0 fun x10 =>
 s144 [x7, x10] h0 fun x11 h1 =>
 sllK 3 (some x11) none none x4 fun x12 =>
 lnLY x12 fun x13 =>
 ld1 x3 h1 fun x14 => ifT (avEq x14 x4) <|
 capp 4 (lp 4 fun (x15 : CT 4) x16 x17 x18 x19 h2 =>
 ikY .lss x19 x18 fun x20 =>
 cdK x20 (
 iaK 3 x17 x19 fun x21 =>
 ldN 3 x21 h2 fun x22 =>
 boxK 48 3 z48 h2 fun x23 h3 =>
 stL 3 x23 x22 h3 fun h4 =>
 ldN 3 x23 h4 fun x24 =>
 s73 [x24] h4 fun x25 h5 =>
 bsK 48 3 1 3 [x25] h5 fun x26 h6 =>
 apY 48 3 x16 x26 h6 fun x27 h7 =>
 ikY .add x19 (.i .i64 9223372036854775809) fun x28 =>
 x15 x27 x17 x18 x28 h7) (
 k x16 h2)) [.ns, x12, x13, (.i .i64 9223372036854775808)] h1)) args h
noncomputable def s150 : FS := S150 s144 s73
noncomputable def a150 : Ann := (.s .o (.s (.s .o (.i (.s .o .o) .o)) (.s .o (.s (.s (.g [0, 1, 2, 3, 4, 5, 6, 7, 8, 9, 10, 11, 15, 12, 13, 14]) (.b (.l [3, 21, 22, 23] (.s .o (.s (.i .o .o) (.s (.b (.s .o .o)) .o)))))) (.s .o .o)))))
noncomputable def S78 (s150 : FS) : FS := fun args h k => capp 1 (fun x0 h0 =>
 npK .eql x0 .np fun x1 =>
 cdK x1 (
 k .ns h0) (
 ncK x0 fun x2 =>
 faK 0 x2 fun x3 =>
 ld1 x3 h0 fun x4 =>
 s150 [x4] h0 fun x5 h1 =>
 k x5 h1)) args h
noncomputable def s78 : FS := S78 s150
noncomputable def a78 : Ann := (.s .o (.s (.s .o (.i (.s .o .o) .o)) (.s .o .o)))
noncomputable def S42 (s78 : FS) : FS := fun args h k => capp 1 (fun x0 h0 =>
 boxK 48 3 z48 h0 fun x1 h1 =>
 s78 [x0] h1 fun x2 h2 =>
 lnLY x2 fun x3 =>
 ikY .eql x3 (.i .i64 9223372036854775808) fun x4 =>
 cdK x4 (
 blK [] Z48 fun x5 =>
 stL 3 x1 x5 h2 fun h3 =>
 ldN 3 x1 h3 fun x6 => k (.t [x6, (.b false)]) h3) (
 iaK 3 x2 (.i .i64 9223372036854775808) fun x7 =>
 ldN 3 x7 h2 fun x8 =>
 stL 3 x1 x8 h2 fun h4 =>
 ldN 3 x1 h4 fun x9 => k (.t [x9, (.b true)]) h4)) args h
noncomputable def s42 : FS := S42 s78
noncomputable def a42 : Ann := (.s .o (.s .o (.s (.s .o (.i (.s .o .o) .o)) (.s .o .o))))
noncomputable def S20 : FS := fun args h k => capp 1 (fun x0 h0 =>
 npK .eql x0 .np fun x1 =>
 cdK x1 (
 k (.i .i64 9223372036854775808) h0) (
 ncK x0 fun x2 =>
 faK 5 x2 fun x3 =>
 ld1 x3 h0 fun x4 =>
 k x4 h0)) args h
noncomputable def s20 : FS := S20
noncomputable def a20 : Ann := (.s .o (.s (.s .o (.i (.s .o .o) .o)) (.s .o .o)))
noncomputable def S80 (s152 : FS) : FS := fun args h k => capp 2 (fun x0 x1 h0 =>
 ncK x0 fun x2 =>
 faK 1 x2 fun x3 =>
 ld1 x3 h0 fun x4 =>
 s152 [x4, x1] h0 fun x5 h1 =>
 k x5 h1) args h
noncomputable def s80 : FS := S80 s152
noncomputable def a80 : Ann := (.s .o (.s .o .o))
noncomputable def S153 (s152 s184 : FS) : FS := fun args h k => capp 2 (fun x0 x1 h0 =>
 boxK 50 5 z50 h0 fun x2 h1 =>
 s152 [x0, x1] h1 fun x3 h2 =>
 ikY .eql x3 (.i .i64 9223372036854775808) fun x4 =>
 cdK x4 (
 blK [] Z50 fun x5 =>
 stL 5 x2 x5 h2 fun h3 =>
 ldN 5 x2 h3 fun x6 => k (.t [x6, (.b false)]) h3) (
 ncK x0 fun x7 =>
 faK 2 x7 fun x8 =>
 iapK 6 6 x8 x1 fun x9 =>
 faK 1 x9 fun x10 =>
 ldN 5 x10 h2 fun x11 =>
 s184 [x11] h2 fun x12 h4 =>
 stL 5 x2 x12 h4 fun h5 =>
 ldN 5 x2 h5 fun x13 => k (.t [x13, (.b true)]) h5)) args h
noncomputable def s153 : FS := S153 s152 s184
noncomputable def a153 : Ann := (.s .o (.s (.s .o (.i (.s .o .o) .o)) (.s .o .o)))
noncomputable def S81 (s153 : FS) : FS := fun args h k => capp 2 (fun x0 x1 h0 =>
 boxK 50 5 z50 h0 fun x2 h1 =>
 ncK x0 fun x3 =>
 faK 1 x3 fun x4 =>
 ld1 x4 h1 fun x5 =>
 s153 [x5, x1] h1 fun x6 h2 =>
 exK x6 0 fun x7 =>
 exK x6 1 fun x8 =>
 stL 5 x2 x7 h2 fun h3 =>
 ldN 5 x2 h3 fun x9 => k (.t [x9, x8]) h3) args h
noncomputable def s81 : FS := S81 s153
noncomputable def a81 : Ann := (.s .o (.s .o .o))
noncomputable def S82 (s125 s66 s126 s109 : FS) : FS := fun args h k => capp 2 (fun x0 x1 h0 =>
 boxK 48 3 x1 h0 fun x2 h1 =>
 ncK x0 fun x3 =>
 faK 1 x3 fun x4 =>
 ld1 x4 h1 fun x5 =>
 ncK x0 fun x6 =>
 faK 2 x6 fun x7 =>
 ld1 x7 h1 fun x8 =>
 s125 [x5] h1 fun x9 h2 =>
 s66 [x8] h2 fun x10 h3 =>
 ikY .add x10 (.i .i64 9223372036854775809) fun x11 =>
 s126 [x9, x11, (.i .i64 9223372036854776008)] h3 fun x12 h4 =>
 lnLY x12 fun x13 =>
 ld1 x7 h2 fun x14 => ifT (avEq x14 x8) <|
 capp 4 (lp 4 fun (x15 : CT 4) x16 x17 x18 x19 h5 =>
 ikY .lss x19 x18 fun x20 =>
 cdK x20 (
 iaK 4 x17 x19 fun x21 =>
 ldN 4 x21 h5 fun x22 =>
 boxK 193 4 z193 h5 fun x23 h6 =>
 stL 4 x23 x22 h6 fun h7 =>
 faK 3 x23 fun x24 =>
 ld1 x24 h7 fun x25 =>
 sb2Y 5 x25 h7 fun x26 h8 =>
 s109 [x26] h8 fun x27 h9 =>
 exK x27 0 fun x28 =>
 exK x27 1 fun x29 =>
 boxK 48 3 z48 h9 fun x30 h10 =>
 stL 3 x30 x28 h10 fun h11 =>
 faK 2 x23 fun x31 =>
 ld1 x31 h11 fun x32 =>
 ikY .eql x32 (.i .i64 9223372036854775810) fun x33 =>
 gdK x33 true (fun k => k x29 h11) (fun x34 h12 =>
 gdK x33 true (fun k => ikY .eql x34 (.i .i64 9223372036854775808) fun y => k y h12) (fun x35 h13 =>
 pkK x33 x35 (.b false) fun x36 =>
 gdK x36 true (fun k => faK 0 x30 fun y => k y h13) (fun x37 h14 =>
 gdK x36 true (fun k => ld1 x37 h14 fun y => k y h14) (fun x38 h15 =>
 gdK x36 true (fun k => faK 0 x16 fun y => k y h15) (fun x39 h16 =>
 gdK x36 true (fun k => ld1 x39 h16 fun y => k y h16) (fun x40 h17 =>
 gdK x36 true (fun k => ikY .eql x38 x40 fun y => k y h17) (fun x41 h18 =>
 pkK x36 x41 (.b false) fun x42 =>
 gdK x42 true (fun k => faK 1 x30 fun y => k y h18) (fun x43 h19 =>
 gdK x42 true (fun k => ld1 x43 h19 fun y => k y h19) (fun x44 h20 =>
 gdK x42 true (fun k => faK 1 x16 fun y => k y h20) (fun x45 h21 =>
 gdK x42 true (fun k => ld1 x45 h21 fun y => k y h21) (fun x46 h22 =>
 gdK x42 true (fun k => ikY .eql x44 x46 fun y => k y h22) (fun x47 h23 =>
 pkK x42 x47 (.b false) fun x48 =>
 cdK x48 (
 k (.b true) h23) (
 ikY .add x19 (.i .i64 9223372036854775809) fun x49 =>
 x15 x16 x17 x18 x49 h23)) h22) h21) h20) h19) h18) h17) h16) h15) h14) h13) h12) h11) (
 k (.b false) h5)) [x2, x12, x13, (.i .i64 9223372036854775808)] h4) args h
noncomputable def s82 : FS := S82 s125 s66 s126 s109
noncomputable def a82 : Ann := (.s .o (.s (.s (.g [0, 1, 2, 3, 5, 6, 7, 8, 13, 4, 9, 10, 11, 12]) (.b (.l [3, 20, 21, 22] (.s .o (.s (.i .o .o) (.s (.b (.s .o (.s .o (.s .o (.i (.s .o .o) .o))))) .o)))))) (.s .o .o)))
noncomputable def s155 : FS := sx
noncomputable def S83 (s128 s154 s155 s156 s157 s126 s158 s159 s129 s139 : FS) : FS := fun args h k => capp 3 (fun x0 x1 x2 h0 =>
 boxK 97 4 z97 h0 fun x3 h1 =>
 npK .eql x0 .np fun x4 =>
 cdK x4 (
 blK [] Z97 fun x5 =>
 stL 4 x3 x5 h1 fun h2 =>
 ldN 4 x3 h2 fun x6 => k (.t [(.i .i64 9223372036854775808), x6, (.i .i64 9223372036854775820)]) h2) (
 ncK x0 fun x7 =>
 faK 3 x7 fun x8 =>
 ld1 x8 h1 fun x9 =>
 s128 [x9] h1 fun x10 h3 =>
 exK x10 0 fun x11 =>
 exK x10 1 fun x12 =>
 s154 [x2] h3 fun x13 h4 =>
 exK x13 0 fun x14 =>
 exK x13 1 fun x15 =>
 ncK x0 fun x16 =>
 faK 5 x16 fun x17 =>
 ld1 x17 h4 fun x18 =>
 ikY .neq x18 (.i .i64 9223372036854775810) fun x19 =>
 cdK x19 (
 blK [] Z97 fun x20 =>
 stL 4 x3 x20 h4 fun h5 =>
 ldN 4 x3 h5 fun x21 => k (.t [(.i .i64 9223372036854775808), x21, (.i .i64 9223372036854775817)]) h5) (
 ikY .neq x1 (.i .i64 9223372036854775810) fun x22 =>
 gdK x22 true (fun k => k x1 h4) (fun x23 h6 =>
 gdK x22 true (fun k => ikY .neq x23 (.i .i64 9223372036854775811) fun y => k y h6) (fun x24 h7 =>
 pkK x22 x24 (.b false) fun x25 =>
 gdK x25 false (fun k => k x2 h7) (fun x26 h8 =>
 gdK x25 false (fun k => lnSY x26 fun y => k y h8) (fun x27 h9 =>
 gdK x25 false (fun k => ikY .gtr x27 (.i .i64 9223372036854778308) fun y => k y h9) (fun x28 h10 =>
 pkK x25 (.b true) x28 fun x29 =>
 gdK x29 false (fun k => k x1 h10) (fun x30 h11 =>
 gdK x29 false (fun k => ikY .eql x30 (.i .i64 9223372036854775811) fun y => k y h11) (fun x31 h12 =>
 gdK x29 false (fun k => k x31 h12) (fun x32 h13 =>
 gdK x32 true (fun k => k x15 h13) (fun x33 h14 =>
 gdK x32 true (fun k => notK x33 fun y => k y h14) (fun x34 h15 =>
 gdK x32 true (fun k => k x34 h15) (fun x35 h16 =>
 gdK x35 false (fun k => k x14 h16) (fun x36 h17 =>
 gdK x35 false (fun k => k x11 h17) (fun x37 h18 =>
 gdK x35 false (fun k => s155 [x36, x37] h18 k) (fun x38 h19 =>
 gdK x35 false (fun k => notK x38 fun y => k y h19) (fun x39 h20 =>
 gdK x32 true (fun k => pkK x35 (.b true) x39 fun y => k y h20) (fun x40 h21 =>
 gdK x29 false (fun k => pkK x32 x40 (.b false) fun y => k y h21) (fun x41 h22 =>
 pkK x29 (.b true) x41 fun x42 =>
 cdK x42 (
 blK [] Z97 fun x43 =>
 stL 4 x3 x43 h22 fun h23 =>
 ldN 4 x3 h23 fun x44 => k (.t [(.i .i64 9223372036854775808), x44, (.i .i64 9223372036854775809)]) h23) (
 ikY .eql x1 (.i .i64 9223372036854775811) fun x45 =>
 gdK x45 true (fun k => k x12 h22) (fun x46 h24 =>
 gdK x45 true (fun k => k x0 h24) (fun x47 h25 =>
 gdK x45 true (fun k => ncK x47 fun y => k y h25) (fun x48 h26 =>
 gdK x45 true (fun k => faK 4 x48 fun y => k y h26) (fun x49 h27 =>
 gdK x45 true (fun k => ld1 x49 h27 fun y => k y h27) (fun x50 h28 =>
 gdK x45 true (fun k => ikY .gtr x46 x50 fun y => k y h28) (fun x51 h29 =>
 gdK x45 true (fun k => k x51 h29) (fun x52 h30 =>
 gdK x52 false (fun k => k x0 h30) (fun x53 h31 =>
 gdK x52 false (fun k => ncK x53 fun y => k y h31) (fun x54 h32 =>
 gdK x52 false (fun k => faK 3 x54 fun y => k y h32) (fun x55 h33 =>
 gdK x52 false (fun k => ld1 x55 h33 fun y => k y h33) (fun x56 h34 =>
 gdK x52 false (fun k => k x0 h34) (fun x57 h35 =>
 gdK x52 false (fun k => ncK x57 fun y => k y h35) (fun x58 h36 =>
 gdK x52 false (fun k => faK 4 x58 fun y => k y h36) (fun x59 h37 =>
 gdK x52 false (fun k => ld1 x59 h37 fun y => k y h37) (fun x60 h38 =>
 gdK x52 false (fun k => k x0 h38) (fun x61 h39 =>
 gdK x52 false (fun k => ncK x61 fun y => k y h39) (fun x62 h40 =>
 gdK x52 false (fun k => faK 1 x62 fun y => k y h40) (fun x63 h41 =>
 gdK x52 false (fun k => faK 0 x63 fun y => k y h41) (fun x64 h42 =>
 gdK x52 false (fun k => ld1 x64 h42 fun y => k y h42) (fun x65 h43 =>
 gdK x52 false (fun k => s156 [x56, x60, x65] h43 k) (fun x66 h44 =>
 gdK x52 false (fun k => notK x66 fun y => k y h44) (fun x67 h45 =>
 gdK x45 true (fun k => pkK x52 (.b true) x67 fun y => k y h45) (fun x68 h46 =>
 pkK x45 x68 (.b false) fun x69 =>
 cdK x69 (
 blK [] Z97 fun x70 =>
 stL 4 x3 x70 h46 fun h47 =>
 ldN 4 x3 h47 fun x71 => k (.t [(.i .i64 9223372036854775808), x71, (.i .i64 9223372036854775818)]) h47) (
 ncK x0 fun x72 =>
 faK 3 x72 fun x73 =>
 ld1 x73 h46 fun x74 =>
 ncK x0 fun x75 =>
 faK 3 x75 fun x76 =>
 ld1 x76 h46 fun x77 =>
 s157 [x77] h46 fun x78 h48 =>
 s126 [x74, x78, (.i .i64 9223372036854776008)] h48 fun x79 h49 =>
 lnLY x79 fun x80 =>
 ikY .geq x80 (.i .i64 9223372036854776008) fun x81 =>
 ld1 x73 h48 fun x82 => ifT (avEq x82 x74) <|
 cdK x81 (
 blK [] Z97 fun x83 =>
 stL 4 x3 x83 h49 fun h50 =>
 ldN 4 x3 h50 fun x84 => k (.t [(.i .i64 9223372036854775808), x84, (.i .i64 9223372036854775813)]) h50) (
 s158 [x0, x1, x2] h49 fun x85 h51 =>
 s159 [x0] h51 fun x86 h52 =>
 s129 [x0] h52 fun x87 h53 =>
 s139 [x0] h53 fun x88 h54 =>
 stL 4 x3 x88 h54 fun h55 =>
 ldN 4 x3 h55 fun x89 => k (.t [x85, x89, (.i .i64 9223372036854775808)]) h55))) h45) h44) h43) h42) h41) h40) h39) h38) h37) h36) h35) h34) h33) h32) h31) h30) h29) h28) h27) h26) h25) h24) h22)) h21) h20) h19) h18) h17) h16) h15) h14) h13) h12) h11) h10) h9) h8) h7) h6) h4))) args h
noncomputable def s83 : FS := S83 s128 s154 s155 s156 s157 s126 s158 s159 s129 s139
noncomputable def a83 : Ann := (.s .o (.s (.s .o (.i (.s .o .o) .o)) (.s .o (.s .o (.s (.b (.s .o (.i (.s .o .o) (.s .o (.i (.s .o .o) (.s (.g [0, 1, 2, 3, 4, 5, 6, 7, 8, 9, 10, 11, 12, 13, 14, 15, 16, 17, 18, 19, 20, 21, 22, 23, 24, 25, 26, 27]) (.i (.s .o .o) (.s (.g [0, 1, 2, 3, 4, 5, 6, 7, 8, 9, 10, 11, 12]) (.i (.s .o .o) .o))))))))) (.s .o (.s .o (.s .o (.s .o .o)))))))))
noncomputable def S43 (s69 s79 s20 s80 s81 s82 s74 s83 s70 : FS) : FS := fun args h k => capp 2 (fun x0 x1 h0 =>
 boxK 48 3 x1 h0 fun x2 h1 =>
 boxK 50 5 z50 h1 fun x3 h2 =>
 s69 [x0] h2 fun x4 h3 =>
 cdK x4 (
 blK [] Z50 fun x5 =>
 stL 5 x3 x5 h3 fun h4 =>
 ldN 5 x3 h4 fun x6 => k (.t [x6, .ns, (.i .i64 9223372036854775820)]) h4) (
 ldN 3 x2 h3 fun x7 =>
 s79 [x7] h3 fun x8 h5 =>
 notK x8 fun x9 =>
 cdK x9 (
 blK [] Z50 fun x10 =>
 stL 5 x3 x10 h5 fun h6 =>
 ldN 5 x3 h6 fun x11 => k (.t [x11, .ns, (.i .i64 9223372036854775809)]) h6) (
 ncK x0 fun x12 =>
 faK 1 x12 fun x13 =>
 ld1 x13 h5 fun x14 =>
 s20 [x14] h5 fun x15 h7 =>
 ikY .neq x15 (.i .i64 9223372036854775810) fun x16 =>
 cdK x16 (
 blK [] Z50 fun x17 =>
 stL 5 x3 x17 h7 fun h8 =>
 ldN 5 x3 h8 fun x18 => k (.t [x18, .ns, (.i .i64 9223372036854775817)]) h8) (
 ncK x0 fun x19 =>
 faK 2 x19 fun x20 =>
 ld1 x20 h7 fun x21 =>
 faK 0 x2 fun x22 =>
 ld1 x22 h7 fun x23 =>
 s80 [x21, x23] h7 fun x24 h9 =>
 faK 1 x2 fun x25 =>
 ld1 x25 h9 fun x26 =>
 ikY .eql x26 x24 fun x27 =>
 cdK x27 (
 ncK x0 fun x28 =>
 faK 2 x28 fun x29 =>
 ld1 x29 h9 fun x30 =>
 faK 0 x2 fun x31 =>
 ld1 x31 h9 fun x32 =>
 s81 [x30, x32] h9 fun x33 h10 =>
 exK x33 0 fun x34 =>
 exK x33 1 fun x35 =>
 boxK 50 5 z50 h10 fun x36 h11 =>
 stL 5 x36 x34 h11 fun h12 =>
 ldN 5 x36 h12 fun x37 =>
 stL 5 x3 x37 h12 fun h13 =>
 ldN 5 x3 h13 fun x38 => k (.t [x38, .ns, (.i .i64 9223372036854775808)]) h13) (
 faK 1 x2 fun x39 =>
 ld1 x39 h9 fun x40 =>
 ikY .add x24 (.i .i64 9223372036854775809) fun x41 =>
 ikY .neq x40 x41 fun x42 =>
 cdK x42 (
 blK [] Z50 fun x43 =>
 stL 5 x3 x43 h9 fun h14 =>
 ldN 5 x3 h14 fun x44 => k (.t [x44, .ns, (.i .i64 9223372036854775819)]) h14) (
 ldN 3 x2 h9 fun x45 =>
 s82 [x0, x45] h9 fun x46 h15 =>
 cdK x46 (
 blK [] Z50 fun x47 =>
 stL 5 x3 x47 h15 fun h16 =>
 ldN 5 x3 h16 fun x48 => k (.t [x48, .ns, (.i .i64 9223372036854775818)]) h16) (
 ncK x0 fun x49 =>
 faK 1 x49 fun x50 =>
 ld1 x50 h15 fun x51 =>
 ldN 3 x2 h15 fun x52 =>
 s74 [x52] h15 fun x53 h17 =>
 cbY x53 h17 fun x54 =>
 s83 [x51, (.i .i64 9223372036854775810), x54] h17 fun x55 h18 =>
 exK x55 0 fun x56 =>
 exK x55 1 fun x57 =>
 exK x55 2 fun x58 =>
 boxK 97 4 z97 h18 fun x59 h19 =>
 stL 4 x59 x57 h19 fun h20 =>
 ld1 x50 h17 fun x60 => ifT (avEq x60 x51) <|
 ikY .neq x58 (.i .i64 9223372036854775808) fun x61 =>
 cdK x61 (
 blK [] Z50 fun x62 =>
 stL 5 x3 x62 h20 fun h21 =>
 ldN 5 x3 h21 fun x63 => k (.t [x63, .ns, x58]) h21) (
 ldN 4 x59 h20 fun x64 =>
 s70 [x0, x64] h20 fun x65 h22 =>
 ncK x0 fun x66 =>
 faK 2 x66 fun x67 =>
 ld1 x67 h22 fun x68 =>
 faK 0 x2 fun x69 =>
 ld1 x69 h22 fun x70 =>
 s81 [x68, x70] h22 fun x71 h23 =>
 exK x71 0 fun x72 =>
 exK x71 1 fun x73 =>
 boxK 50 5 z50 h23 fun x74 h24 =>
 stL 5 x74 x72 h24 fun h25 =>
 ncK x0 fun x75 =>
 faK 3 x75 fun x76 =>
 ld1 x76 h25 fun x77 =>
 cdK x77 (
 blK [] Z50 fun x78 =>
 stL 5 x3 x78 h25 fun h26 =>
 ldN 5 x3 h26 fun x79 => k (.t [x79, .ns, (.i .i64 9223372036854775820)]) h26) (
 ncK x0 fun x80 =>
 faK 2 x80 fun x81 =>
 ld1 x81 h25 fun x82 =>
 faK 0 x2 fun x83 =>
 ld1 x83 h25 fun x84 =>
 faK 1 x2 fun x85 =>
 ld1 x85 h25 fun x86 =>
 s80 [x82, x84] h25 fun x87 h27 =>
 ikY .eql x87 x86 fun x88 =>
 ld1 x85 h27 fun x89 => ifT (avEq x89 x86) <|
 cdK x88 (
 ldN 5 x74 h27 fun x90 =>
 stL 5 x3 x90 h27 fun h28 =>
 ldN 5 x3 h28 fun x91 => k (.t [x91, x65, (.i .i64 9223372036854775808)]) h28) (
 blK [] Z50 fun x92 =>
 stL 5 x3 x92 h27 fun h29 =>
 ldN 5 x3 h29 fun x93 => k (.t [x93, x65, (.i .i64 9223372036854775818)]) h29)))))))))) args h
noncomputable def s43 : FS := S43 s69 s79 s20 s80 s81 s82 s74 s83 s70
noncomputable def a43 : Ann := (.s .o (.s (.b (.s .o (.i (.s .o .o) (.s .o (.i (.s .o .o) (.s .o (.i (.s .o .o) .o))))))) (.s (.s (.g [0, 1, 2, 3, 4, 5, 6, 7]) (.b (.s .o (.i (.s (.g [0, 1, 2, 3, 4, 5, 6, 7, 8, 9, 10, 11, 12]) (.s .o .o)) (.s .o (.i (.s .o .o) (.s .o (.i (.s .o .o) .o)))))))) (.s (.g [0, 1, 2, 3, 4, 5, 6, 7, 8, 9, 10, 11, 12, 13, 14, 15]) (.s (.s .o (.i (.s .o .o) .o)) (.s .o (.s (.s (.g [0, 1, 2, 3, 4, 5, 6, 7, 8, 9, 10, 11, 12]) (.b (.s .o (.i (.s .o .o) (.s (.g [0, 1, 2, 3, 4, 5, 7, 8, 6, 9, 10]) (.i (.s .o .o) .o)))))) (.s .o .o))))))))
noncomputable def S25 (s13 s18 s42 s43 s38 : FS) : FS := fun args h k => capp 3 (fun x0 x1 x2 h0 =>
 s13 [x0, x1] h0 fun x3 h1 =>
 s18 [x0, x2] h1 fun x4 h2 =>
 npK .eql x3 .np fun x5 =>
 gdK x5 false (fun k => k x4 h2) (fun x6 h3 =>
 gdK x5 false (fun k => npK .eql x6 .np fun y => k y h3) (fun x7 h4 =>
 pkK x5 (.b true) x7 fun x8 =>
 cdK x8 (
 k (.i .i64 9223372036854775820) h4) (
 s42 [x3] h4 fun x9 h5 =>
 exK x9 0 fun x10 =>
 exK x9 1 fun x11 =>
 boxK 48 3 z48 h5 fun x12 h6 =>
 stL 3 x12 x10 h6 fun h7 =>
 notK x11 fun x13 =>
 cdK x13 (
 k (.i .i64 9223372036854775821) h7) (
 ldN 3 x12 h7 fun x14 =>
 s43 [x4, x14] h7 fun x15 h8 =>
 exK x15 0 fun x16 =>
 exK x15 1 fun x17 =>
 exK x15 2 fun x18 =>
 boxK 50 5 z50 h8 fun x19 h9 =>
 stL 5 x19 x16 h9 fun h10 =>
 s38 [x0, x17] h10 fun x20 h11 =>
 k x18 h11))) h3) h2) args h
noncomputable def s25 : FS := S25 s13 s18 s42 s43 s38
noncomputable def a25 : Ann := (.s .o (.s .o (.s (.s .o (.i (.s .o .o) .o)) (.s .o (.s (.s .o (.i (.s .o .o) .o)) (.s .o (.s .o (.s .o .o))))))))
noncomputable def S28 : FS := fun args h k => capp 1 (fun x0 h0 =>
 npK .eql x0 .np fun x1 =>
 cdK x1 (
 k .np h0) (
 ncK x0 fun x2 =>
 faK 3 x2 fun x3 =>
 ld1 x3 h0 fun x4 =>
 k x4 h0)) args h
noncomputable def s28 : FS := S28
noncomputable def a28 : Ann := (.s .o (.s (.s .o (.i (.s .o .o) .o)) (.s .o .o)))
noncomputable def S85 : FS := fun args h k => capp 1 (fun x0 h0 =>
 npK .eql x0 .np fun x1 =>
 cdK x1 (
 k (.i .i64 9223372036854775808) h0) (
 ncK x0 fun x2 =>
 faK 1 x2 fun x3 =>
 ld1 x3 h0 fun x4 =>
 lnLY x4 fun x5 =>
 ikY .add x5 (.i .i64 9223372036854775809) fun x6 =>
 k x6 h0)) args h
noncomputable def s85 : FS := S85
noncomputable def a85 : Ann := (.s .o (.s (.s .o (.i (.s .o .o) .o)) (.s .o .o)))
noncomputable def S45 (s28 s85 : FS) : FS := fun args h k => capp 1 (fun x0 h0 =>
 npK .eql x0 .np fun x1 =>
 cdK x1 (
 k (.i .i64 9223372036854775808) h0) (
 ncK x0 fun x2 =>
 faK 0 x2 fun x3 =>
 ld1 x3 h0 fun x4 =>
 s28 [x4] h0 fun x5 h1 =>
 s85 [x5] h1 fun x6 h2 =>
 k x6 h2)) args h
noncomputable def s45 : FS := S45 s28 s85
noncomputable def a45 : Ann := (.s .o (.s (.s .o (.i (.s .o .o) .o)) (.s .o .o)))
noncomputable def S84 (s160 : FS) : FS := fun args h k => capp 3 (fun x0 x1 x2 h0 =>
 npK .eql x0 .np fun x3 =>
 gdK x3 false (fun k => k x1 h0) (fun x4 h1 =>
 gdK x3 false (fun k => ikY .lss x4 (.i .i64 9223372036854775809) fun y => k y h1) (fun x5 h2 =>
 pkK x3 (.b true) x5 fun x6 =>
 gdK x6 false (fun k => k x1 h2) (fun x7 h3 =>
 gdK x6 false (fun k => k x0 h3) (fun x8 h4 =>
 gdK x6 false (fun k => ncK x8 fun y => k y h4) (fun x9 h5 =>
 gdK x6 false (fun k => faK 2 x9 fun y => k y h5) (fun x10 h6 =>
 gdK x6 false (fun k => ld1 x10 h6 fun y => k y h6) (fun x11 h7 =>
 gdK x6 false (fun k => lnLY x11 fun y => k y h7) (fun x12 h8 =>
 gdK x6 false (fun k => ikY .gtr x7 x12 fun y => k y h8) (fun x13 h9 =>
 pkK x6 (.b true) x13 fun x14 =>
 gdK x14 false (fun k => k x2 h9) (fun x15 h10 =>
 gdK x14 false (fun k => ikY .lss x15 (.i .i64 9223372036854775809) fun y => k y h10) (fun x16 h11 =>
 pkK x14 (.b true) x16 fun x17 =>
 cdK x17 (
 k .ns h11) (
 ncK x0 fun x18 =>
 faK 2 x18 fun x19 =>
 ld1 x19 h11 fun x20 =>
 ikY .sub x1 (.i .i64 9223372036854775809) fun x21 =>
 sllK 5 (some x21) none none x20 fun x22 =>
 lnLY x22 fun x23 =>
 mmL mnK [x2, (.i .i64 9223372036854775818)] x23 fun x24 =>
 sllK 5 none (some x24) none x22 fun x25 =>
 lnLY x25 fun x26 =>
 capp 4 (lp 4 fun (x27 : CT 4) x28 x29 x30 x31 h12 =>
 ikY .lss x31 x30 fun x32 =>
 cdK x32 (
 iaK 5 x29 x31 fun x33 =>
 ldN 5 x33 h12 fun x34 =>
 boxK 50 5 z50 h12 fun x35 h13 =>
 stL 5 x35 x34 h13 fun h14 =>
 ldN 5 x35 h14 fun x36 =>
 s160 [x36] h14 fun x37 h15 =>
 bsK 50 5 1 5 [x37] h15 fun x38 h16 =>
 apY 50 5 x28 x38 h16 fun x39 h17 =>
 ikY .add x31 (.i .i64 9223372036854775809) fun x40 =>
 x27 x39 x29 x30 x40 h17) (
 k x28 h12)) [.ns, x25, x26, (.i .i64 9223372036854775808)] h11)) h10) h9) h8) h7) h6) h5) h4) h3) h2) h1) h0) args h
noncomputable def s84 : FS := S84 s160
noncomputable def a84 : Ann := (.s .o (.s (.s .o (.i (.s .o .o) .o)) (.s .o (.s .o (.s (.s .o (.b (.l [8, 42, 43, 44] (.s .o (.s (.i .o .o) (.s (.b (.s .o .o)) .o)))))) (.s .o .o))))))
noncomputable def S44 (s84 : FS) : FS := fun args h k => capp 2 (fun x0 x1 h0 =>
 npK .eql x0 .np fun x2 =>
 cdK x2 (
 k (.t [.ns, (.i .i64 9223372036854775820)]) h0) (
 ncK x0 fun x3 =>
 faK 2 x3 fun x4 =>
 ld1 x4 h0 fun x5 =>
 s84 [x5, x1, (.i .i64 9223372036854775818)] h0 fun x6 h1 =>
 k (.t [x6, (.i .i64 9223372036854775808)]) h1)) args h
noncomputable def s44 : FS := S44 s84
noncomputable def a44 : Ann := (.s .o (.s (.s .o (.i (.s .o .o) .o)) (.s .o .o)))
noncomputable def S91 (s92 : FS) : FS := fun args h k => capp 1 (fun x0 h0 =>
 npK .eql x0 .np fun x1 =>
 cdK x1 (
 k .np h0) (
 ncK x0 fun x2 =>
 ldN 38 x2 h0 fun x3 =>
 boxK 180 38 z180 h0 fun x4 h1 =>
 stL 38 x4 x3 h1 fun h2 =>
 ncK x0 fun x5 =>
 faK 1 x5 fun x6 =>
 ld1 x6 h2 fun x7 =>
 s92 [x7] h2 fun x8 h3 =>
 faK 1 x4 fun x9 =>
 stL 1 x9 x8 h3 fun h4 =>
 k x4 h4)) args h
noncomputable def s91 : FS := S91 s92
noncomputable def a91 : Ann := (.s .o (.s (.s .o (.i (.s .o .o) .o)) (.s .o (.s .o (.s .o .o)))))
noncomputable def S212 : FS := fun args h k => capp 1 (fun x0 h0 =>
 nsK .eql x0 .ns fun x1 =>
 cdK x1 (
 k .ns h0) (
 bsK 50 5 0 0 [] h0 fun x2 h1 =>
 apY 50 5 x2 x0 h1 fun x3 h2 =>
 k x3 h2)) args h
noncomputable def s212 : FS := S212
noncomputable def a212 : Ann := (.s .o (.s (.s .o (.i (.s .o .o) .o)) (.s .o .o)))
noncomputable def S161 (s91 s212 : FS) : FS := fun args h k => capp 1 (fun x0 h0 =>
 ncK x0 fun x1 =>
 faK 0 x1 fun x2 =>
 ld1 x2 h0 fun x3 =>
 ncK x0 fun x4 =>
 faK 1 x4 fun x5 =>
 ld1 x5 h0 fun x6 =>
 s91 [x3] h0 fun x7 h1 =>
 s212 [x6] h1 fun x8 h2 =>
 blK [(0, 1, x7), (1, 1, x8)] Z117 fun x9 =>
 boxK 117 2 x9 h2 fun x10 h3 =>
 ld1 x5 h1 fun x11 => ifT (avEq x11 x6) <|
 k x10 h3) args h
noncomputable def s161 : FS := S161 s91 s212
noncomputable def a161 : Ann := (.s .o (.s (.g [0, 1, 2, 3, 5, 6, 7, 8, 4, 9, 10, 11, 12]) .o))
noncomputable def a213 : Ann := (.s .o (.s (.s .o (.i (.s .o .o) .o)) (.s (.s .o (.b (.l [0, 1, 12, 13] (.s .o (.s (.i .o .o) (.s (.b (.s .o (.s (.g [0, 1, 2, 3, 4, 5, 6, 7, 8]) (.i (.s .o .o) .o)))) .o)))))) (.s .o .o))))
noncomputable def s213 : FS := fnF Tryz.prog [] MM Tryz.f213 a213
noncomputable def a164 : Ann := (.s .o (.s (.s (.g [0, 1, 2, 3, 4, 5, 6, 7]) (.i (.s .o .o) .o)) (.s (.g [0, 1, 2, 3, 4, 5, 6, 7, 8, 9, 10, 11, 12, 13, 14, 15, 16, 17, 18, 19, 20, 21, 22, 23, 24, 25, 26, 27, 28, 29, 30, 31, 32]) .o)))
noncomputable def s164 : FS := fnF Tryz.prog [(213, s213)] MM Tryz.f164 a164
noncomputable def a163 : Ann := (.s .o (.s .o .o))
noncomputable def s163 : FS := fnF Tryz.prog [(164, s164)] MM Tryz.f163 a163
noncomputable def S162 (s163 : FS) : FS := fun args h k => capp 2 (fun x0 x1 h0 =>
 lnLY x0 fun x2 =>
 capp 4 (lp 4 fun (x3 : CT 4) x4 x5 x6 x7 h1 =>
 ikY .lss x7 x6 fun x8 =>
 cdK x8 (
 iaK 5 x4 x7 fun x9 =>
 ldN 5 x9 h1 fun x10 =>
 clK [(163, s163)] x5 [x10] h1 fun x11 h2 =>
 cdK x11 (
 k x7 h2) (
 ikY .add x7 (.i .i64 9223372036854775809) fun x12 =>
 x3 x4 x5 x6 x12 h2)) (
 k (.i .i64 9223372036854775807) h1)) [x0, x1, x2, (.i .i64 9223372036854775808)] h0) args h
noncomputable def s162 : FS := S162 s163
noncomputable def a162 : Ann := (.s .o (.s (.s .o (.b (.l [0, 1, 7, 8] (.s .o (.s (.i .o .o) (.s (.b (.s .o (.s .o (.i (.s .o .o) .o)))) .o)))))) (.s .o .o)))
noncomputable def s239 : FS := sx
noncomputable def S48 (s90 : FS) : FS := fun args h k => capp 1 (fun x0 h0 =>
 boxK 50 5 x0 h0 fun x1 h1 =>
 boxK 50 5 z50 h1 fun x2 h2 =>
 faK 1 x1 fun x3 =>
 faK 2 x3 fun x4 =>
 ld1 x4 h2 fun x5 =>
 s90 [x5] h2 fun x6 h3 =>
 faK 1 x1 fun x7 =>
 faK 2 x7 fun x8 =>
 stL 1 x8 x6 h3 fun h4 =>
 ldN 5 x1 h4 fun x9 =>
 stL 5 x2 x9 h4 fun h5 =>
 ldN 5 x2 h5 fun x10 => k x10 h5) args h
noncomputable def s48 : FS := S48 s90
noncomputable def a48 : Ann := (.s .o (.s .o (.s .o .o)))
noncomputable def S214 (s85 s239 s91 s110 s48 : FS) : FS := fun args h k => capp 2 (fun x0 x1 h0 =>
 boxK 50 5 x1 h0 fun x2 h1 =>
 faK 0 x2 fun x3 =>
 ld1 x3 h1 fun x4 =>
 s85 [x0] h1 fun x5 h2 =>
 ikY .gtr x4 x5 fun x6 =>
 ld1 x3 h2 fun x7 => ifT (avEq x7 x4) <|
 cdK x6 (
 k (.t [(.b false), (.i .i64 9223372036854775810)]) h2) (
 faK 0 x2 fun x8 =>
 ld1 x8 h2 fun x9 =>
 s85 [x0] h2 fun x10 h3 =>
 ikY .lss x9 x10 fun x11 =>
 ld1 x8 h3 fun x12 => ifT (avEq x12 x9) <|
 cdK x11 (
 faK 0 x2 fun x13 =>
 ld1 x13 h3 fun x14 =>
 ikY .lss x14 (.i .i64 9223372036854775809) fun x15 =>
 gdK x15 false (fun k => ldN 5 x2 h3 fun y => k y h3) (fun x16 h4 =>
 gdK x15 false (fun k => k x0 h4) (fun x17 h5 =>
 gdK x15 false (fun k => ncK x17 fun y => k y h5) (fun x18 h6 =>
 gdK x15 false (fun k => faK 1 x18 fun y => k y h6) (fun x19 h7 =>
 gdK x15 false (fun k => ld1 x19 h7 fun y => k y h7) (fun x20 h8 =>
 gdK x15 false (fun k => faK 0 x2 fun y => k y h8) (fun x21 h9 =>
 gdK x15 false (fun k => ld1 x21 h9 fun y => k y h9) (fun x22 h10 =>
 gdK x15 false (fun k => ikY .sub x22 (.i .i64 9223372036854775809) fun y => k y h10) (fun x23 h11 =>
 gdK x15 false (fun k => iaK 5 x20 x23 fun y => k y h11) (fun x24 h12 =>
 gdK x15 false (fun k => ldN 5 x24 h12 fun y => k y h12) (fun x25 h13 =>
 gdK x15 false (fun k => s239 [x16, x25] h13 k) (fun x26 h14 =>
 gdK x15 false (fun k => notK x26 fun y => k y h14) (fun x27 h15 =>
 pkK x15 (.b true) x27 fun x28 =>
 cdK x28 (
 k (.t [(.b false), (.i .i64 9223372036854775809)]) h15) (
 k (.t [(.b false), (.i .i64 9223372036854775808)]) h15)) h14) h13) h12) h11) h10) h9) h8) h7) h6) h5) h4) h3) (
 ncK x0 fun x29 =>
 faK 0 x29 fun x30 =>
 ld1 x30 h3 fun x31 =>
 s91 [x31] h3 fun x32 h16 =>
 faK 1 x2 fun x33 =>
 ldN 3 x33 h16 fun x34 =>
 s110 [x32, x34] h16 fun x35 h17 =>
 exK x35 0 fun x36 =>
 exK x35 1 fun x37 =>
 boxK 50 5 z50 h17 fun x38 h18 =>
 stL 5 x38 x36 h18 fun h19 =>
 notK x37 fun x39 =>
 gdK x39 false (fun k => faK 4 x38 fun y => k y h19) (fun x40 h20 =>
 gdK x39 false (fun k => ld1 x40 h20 fun y => k y h20) (fun x41 h21 =>
 gdK x39 false (fun k => faK 4 x2 fun y => k y h21) (fun x42 h22 =>
 gdK x39 false (fun k => ld1 x42 h22 fun y => k y h22) (fun x43 h23 =>
 gdK x39 false (fun k => ikY .neq x41 x43 fun y => k y h23) (fun x44 h24 =>
 pkK x39 (.b true) x44 fun x45 =>
 cdK x45 (
 k (.t [(.b false), (.i .i64 9223372036854775809)]) h24) (
 ncK x0 fun x46 =>
 faK 0 x46 fun x47 =>
 stL 1 x47 x32 h24 fun h25 =>
 ncK x0 fun x48 =>
 faK 1 x48 fun x49 =>
 ld1 x49 h25 fun x50 =>
 ldN 5 x2 h25 fun x51 =>
 s48 [x51] h25 fun x52 h26 =>
 bsK 50 5 1 5 [x52] h26 fun x53 h27 =>
 apY 50 5 x50 x53 h27 fun x54 h28 =>
 ncK x0 fun x55 =>
 faK 1 x55 fun x56 =>
 stL 1 x56 x54 h28 fun h29 =>
 ld1 x49 h26 fun x57 => ifT (avEq x57 x50) <|
 ld1 x49 h27 fun x58 => ifT (avEq x58 x50) <|
 k (.t [(.b true), (.i .i64 9223372036854775808)]) h29)) h23) h22) h21) h20) h19))) args h
noncomputable def s214 : FS := S214 s85 s239 s91 s110 s48
noncomputable def a214 : Ann := (.s .o (.s (.b (.s (.g [0, 1, 2, 3, 4, 5]) (.i (.s .o .o) (.s (.g [0, 1, 2, 3, 4, 5]) (.i (.s (.s (.g [0, 1, 2, 3, 4, 5, 6, 7, 8, 9, 10, 11, 12, 13, 14, 15, 16]) (.i (.s .o .o) .o)) (.s .o .o)) .o))))) (.s .o (.s .o (.s (.s .o (.i (.s .o .o) .o)) (.s .o (.s (.g [0, 1, 2, 3, 4, 5, 6, 7, 8, 9, 10, 11]) (.s .o .o))))))))
noncomputable def S165 (s214 : FS) : FS := fun args h k => capp 2 (fun x0 x1 h0 =>
 npK .eql x0 .np fun x2 =>
 cdK x2 (
 k (.t [(.i .i64 9223372036854775808), (.i .i64 9223372036854775820)]) h0) (
 lnLY x1 fun x3 =>
 capp 5 (lp 5 fun (x4 : CT 5) x5 x6 x7 x8 x9 h1 =>
 ikY .lss x9 x8 fun x10 =>
 cdK x10 (
 iaK 5 x7 x9 fun x11 =>
 ldN 5 x11 h1 fun x12 =>
 boxK 50 5 z50 h1 fun x13 h2 =>
 stL 5 x13 x12 h2 fun h3 =>
 ldN 5 x13 h3 fun x14 =>
 s214 [x5, x14] h3 fun x15 h4 =>
 exK x15 0 fun x16 =>
 exK x15 1 fun x17 =>
 ikY .neq x17 (.i .i64 9223372036854775808) fun x18 =>
 cdK x18 (
 k (.t [x6, x17]) h4) (
 jn 5 (fun x19 : CT 5 =>
 cdK x16 (
 ikY .add x6 (.i .i64 9223372036854775809) fun x20 =>
 x19 x5 x20 x7 x8 x9 h4) (
 x19 x5 x6 x7 x8 x9 h4)) fun x21 x22 x23 x24 x25 h5 =>
 ikY .add x25 (.i .i64 9223372036854775809) fun x26 =>
 x4 x21 x22 x23 x24 x26 h5)) (
 k (.t [x6, (.i .i64 9223372036854775808)]) h1)) [x0, (.i .i64 9223372036854775808), x1, x3, (.i .i64 9223372036854775808)] h0)) args h
noncomputable def s165 : FS := S165 s214
noncomputable def a165 : Ann := (.s .o (.s (.s .o (.i (.s .o .o) .o)) (.s .o (.s (.s .o (.b (.l [0, 6, 13, 14, 15] (.s .o (.s (.i .o .o) (.s (.b (.s .o (.s .o (.s (.s .o (.i (.s .o .o) .o)) (.s .o (.j [0, 6, 13, 14, 15] .o .o)))))) .o)))))) (.s .o .o)))))
noncomputable def a29 : Ann := (.s .o (.s (.s .o (.i (.s .o .o) .o)) (.s .o (.s (.s .o (.b (.l [3, 11, 12, 13] (.s .o (.s (.i .o .o) (.s (.b (.s .o .o)) .o)))))) (.s .o .o)))))
noncomputable def s29 : FS := fnF Tryz.prog [(48, s48)] MM Tryz.f29 a29
noncomputable def S166 (s104 s74 s77 : FS) : FS := fun args h k => capp 1 (fun x0 h0 =>
 boxK 50 5 x0 h0 fun x1 h1 =>
 faK 0 x1 fun x2 =>
 ld1 x2 h1 fun x3 =>
 faK 4 x1 fun x4 =>
 ld1 x4 h1 fun x5 =>
 s104 [.ns, x3] h1 fun x6 h2 =>
 s104 [x6, x5] h2 fun x7 h3 =>
 ld1 x4 h2 fun x8 => ifT (avEq x8 x5) <|
 faK 1 x1 fun x9 =>
 ldN 3 x9 h3 fun x10 =>
 s74 [x10] h3 fun x11 h4 =>
 apY 5 1 x7 x11 h4 fun x12 h5 =>
 s77 [(.i .i64 9223372036854775810), x12] h5 fun x13 h6 =>
 k x13 h6) args h
noncomputable def s166 : FS := S166 s104 s74 s77
noncomputable def a166 : Ann := (.s .o (.s (.g [0, 1, 3, 4, 2, 5, 6]) (.s .o .o)))
noncomputable def S86 (s161 s162 s165 s29 s85 s166 s76 : FS) : FS := fun args h k => capp 2 (fun x0 x1 h0 =>
 boxK 71 1 x0 h0 fun x2 h1 =>
 ld1 x2 h1 fun x3 =>
 npK .eql x3 .np fun x4 =>
 cdK x4 (
 k (.t [(.i .i64 9223372036854775808), (.i .i64 9223372036854775820)]) h1) (
 ld1 x2 h1 fun x5 =>
 ncK x5 fun x6 =>
 faK 3 x6 fun x7 =>
 ld1 x7 h1 fun x8 =>
 s161 [x8] h1 fun x9 h2 =>
 s162 [x1, (.f 163 [] [x2])] h2 fun x10 h3 =>
 ikY .lss x10 (.i .i64 9223372036854775808) fun x11 =>
 jn 4 (fun x12 : CT 4 =>
 cdK x11 (
 lnLY x1 fun x13 =>
 x12 x1 x2 x9 x13 h3) (
 x12 x1 x2 x9 x10 h3)) fun x14 x15 x16 x17 h4 =>
 sllK 5 none (some x17) none x14 fun x18 =>
 s165 [x16, x18] h4 fun x19 h5 =>
 exK x19 0 fun x20 =>
 exK x19 1 fun x21 =>
 ikY .eql x21 (.i .i64 9223372036854775808) fun x22 =>
 gdK x22 true (fun k => k x17 h5) (fun x23 h6 =>
 gdK x22 true (fun k => k x14 h6) (fun x24 h7 =>
 gdK x22 true (fun k => lnLY x24 fun y => k y h7) (fun x25 h8 =>
 gdK x22 true (fun k => ikY .lss x23 x25 fun y => k y h8) (fun x26 h9 =>
 pkK x22 x26 (.b false) fun x27 =>
 jn 4 (fun x28 : CT 4 =>
 cdK x27 (
 x28 x15 x16 x20 (.i .i64 9223372036854775809) h9) (
 x28 x15 x16 x20 x21 h9)) fun x29 x30 x31 x32 h10 =>
 ikY .eql x31 (.i .i64 9223372036854775808) fun x33 =>
 cdK x33 (
 k (.t [(.i .i64 9223372036854775808), x32]) h10) (
 ld1 x29 h10 fun x34 =>
 ncK x34 fun x35 =>
 faK 3 x35 fun x36 =>
 ld1 x36 h10 fun x37 =>
 s29 [x30] h10 fun x38 h11 =>
 s85 [x37] h11 fun x39 h12 =>
 ikY .sub x39 (.i .i64 9223372036854775809) fun x40 =>
 sllK 5 (some x40) none none x38 fun x41 =>
 lnLY x41 fun x42 =>
 ld1 x29 h11 fun x43 => ifT (avEq x43 x34) <|
 ld1 x36 h11 fun x44 => ifT (avEq x44 x37) <|
 capp 8 (lp 8 fun (x45 : CT 8) x46 x47 x48 x49 x50 x51 x52 x53 h13 =>
 ikY .lss x53 x52 fun x54 =>
 cdK x54 (
 iaK 5 x51 x53 fun x55 =>
 ldN 5 x55 h13 fun x56 =>
 boxK 50 5 z50 h13 fun x57 h14 =>
 stL 5 x57 x56 h14 fun h15 =>
 ldN 5 x57 h15 fun x58 =>
 s166 [x58] h15 fun x59 h16 =>
 apY 5 1 x50 x59 h16 fun x60 h17 =>
 ikY .add x53 (.i .i64 9223372036854775809) fun x61 =>
 x45 x46 x47 x48 x49 x60 x51 x52 x61 h17) (
 ld1 x46 h13 fun x62 =>
 s76 [x62, x50] h13 fun x63 h18 =>
 ikY .neq x63 (.i .i64 9223372036854775808) fun x64 =>
 cdK x64 (
 k (.t [(.i .i64 9223372036854775808), x63]) h18) (
 ld1 x46 h18 fun x65 =>
 ncK x65 fun x66 =>
 faK 3 x66 fun x67 =>
 stL 1 x67 x47 h18 fun h19 =>
 k (.t [x48, x49]) h19))) [x29, x30, x31, x32, .ns, x41, x42, (.i .i64 9223372036854775808)] h12)) h8) h7) h6) h5)) args h
noncomputable def s86 : FS := S86 s161 s162 s165 s29 s85 s166 s76
noncomputable def a86 : Ann := (.s .o (.s (.s .o (.i (.s .o .o) .o)) (.s .o (.s .o (.s (.s .o (.j [1, 2, 6, 7] .o .o)) (.s .o (.s (.s .o (.j [2, 6, 8, 9] .o .o)) (.s (.s .o (.i (.s .o .o) .o)) (.s .o (.s (.s (.g [0, 2, 3, 4, 5, 10, 1, 6, 7, 8, 9]) (.b (.l [2, 6, 8, 9, 10, 55, 56, 57] (.s .o (.s (.i .o .o) (.s (.b (.s .o .o)) .o)))))) (.s (.s .o (.s .o (.i (.s .o .o) .o))) (.s .o (.s .o .o)))))))))))))
noncomputable def S46 (s86 : FS) : FS := fun args h k => capp 2 (fun x0 x1 h0 =>
 npK .eql x0 .np fun x2 =>
 cdK x2 (
 k (.t [(.i .i64 9223372036854775808), (.i .i64 9223372036854775820)]) h0) (
 ncK x0 fun x3 =>
 faK 0 x3 fun x4 =>
 ld1 x4 h0 fun x5 =>
 s86 [x5, x1] h0 fun x6 h1 =>
 exK x6 0 fun x7 =>
 exK x6 1 fun x8 =>
 k (.t [x7, x8]) h1)) args h
noncomputable def s46 : FS := S46 s86
noncomputable def a46 : Ann := (.s .o (.s (.s .o (.i (.s .o .o) .o)) (.s .o .o)))
noncomputable def S26 (s13 s18 s45 s44 s46 : FS) : FS := fun args h k => capp 3 (fun x0 x1 x2 h0 =>
 s13 [x0, x1] h0 fun x3 h1 =>
 s18 [x0, x2] h1 fun x4 h2 =>
 npK .eql x3 .np fun x5 =>
 gdK x5 false (fun k => k x4 h2) (fun x6 h3 =>
 gdK x5 false (fun k => npK .eql x6 .np fun y => k y h3) (fun x7 h4 =>
 pkK x5 (.b true) x7 fun x8 =>
 cdK x8 (
 k (.i .i64 9223372036854775820) h4) (
 s45 [x3] h4 fun x9 h5 =>
 s44 [x4, x9] h5 fun x10 h6 =>
 exK x10 0 fun x11 =>
 exK x10 1 fun x12 =>
 ikY .neq x12 (.i .i64 9223372036854775808) fun x13 =>
 cdK x13 (
 k x12 h6) (
 s46 [x3, x11] h6 fun x14 h7 =>
 exK x14 0 fun x15 =>
 exK x14 1 fun x16 =>
 k x16 h7))) h3) h2) args h
noncomputable def s26 : FS := S26 s13 s18 s45 s44 s46
noncomputable def a26 : Ann := (.s .o (.s .o (.s (.s .o (.i (.s .o .o) .o)) (.s .o (.s (.s .o (.i (.s .o .o) .o)) (.s .o (.s .o .o)))))))
noncomputable def S88 (s13 s18 s25 s26 : FS) : FS := fun args h k => capp 2 (fun x0 x1 h0 =>
 capp 3 (lp 3 fun (x2 : CT 3) x3 x4 x5 h1 =>
 ikY .leq x5 (.i .i64 9223372036854775813) fun x6 =>
 cdK x6 (
 capp 4 (lp 4 fun (x7 : CT 4) x8 x9 x10 x11 h2 =>
 ikY .leq x11 (.i .i64 9223372036854775815) fun x12 =>
 cdK x12 (
 s13 [x8, x10] h2 fun x13 h3 =>
 npK .neq x13 .np fun x14 =>
 gdK x14 true (fun k => k x8 h3) (fun x15 h4 =>
 gdK x14 true (fun k => k x11 h4) (fun x16 h5 =>
 gdK x14 true (fun k => s18 [x15, x16] h5 k) (fun x17 h6 =>
 gdK x14 true (fun k => npK .neq x17 .np fun y => k y h6) (fun x18 h7 =>
 pkK x14 x18 (.b false) fun x19 =>
 jn 4 (fun x20 : CT 4 =>
 cdK x19 (
 clK [(13, s13), (18, s18), (25, s25), (26, s26)] x9 [x10, x11] h7 fun x21 h8 =>
 x20 x8 x9 x10 x11 h8) (
 x20 x8 x9 x10 x11 h7)) fun x22 x23 x24 x25 h9 =>
 ikY .add x25 (.i .i64 9223372036854775809) fun x26 =>
 x7 x22 x23 x24 x26 h9) h6) h5) h4) h3) (
 ikY .add x10 (.i .i64 9223372036854775809) fun x27 =>
 x2 x8 x9 x27 h2)) [x3, x4, x5, (.i .i64 9223372036854775809)] h1) (
 k (.t []) h1)) [x0, x1, (.i .i64 9223372036854775809)] h0) args h
noncomputable def s88 : FS := S88 s13 s18 s25 s26
noncomputable def a88 : Ann := (.s .o (.b (.l [0, 1, 4] (.s (.s .o (.i .o .o)) (.s (.b (.s .o (.b (.l [0, 1, 4, 5] (.s (.s .o (.i .o .o)) (.s (.b (.s .o (.j [0, 1, 4, 5] .o .o))) .o)))))) .o)))))
noncomputable def a89 : Ann := (.s .o (.s .o (.s (.s .o (.b (.l [0, 3, 4] (.s (.s .o (.i .o .o)) (.s (.k [0, 3, 4] (.s .o (.s (.s .o (.i .o .o)) (.s (.s .o (.i (.s .o .o) .o)) .o)))) .o))))) (.s .o .o))))
noncomputable def s89 : FS := fnF Tryz.prog [(13, s13), (78, s78), (45, s45)] MM Tryz.f89 a89
noncomputable def a47 : Ann := (.s .o (.s (.s .o (.i (.s .o .o) .o)) (.s .o (.s (.s .o (.b (.l [0, 3] (.s (.s .o (.i .o .o)) (.s (.b (.s .o (.j [0, 3] (.s .o .o) .o))) .o))))) (.s (.s .o (.b (.l [0, 21] (.s .o (.s (.i .o .o) (.s (.b (.s .o (.s .o (.s .o .o)))) .o)))))) (.s .o .o))))))
noncomputable def s47 : FS := fnF Tryz.prog [(87, s87), (18, s18), (22, s22), (40, s40), (88, s88), (89, s89)] MM Tryz.f47 a47
noncomputable def a27 : Ann := (.s .o (.s (.s .o (.b (.l [0, 7, 8] (.s .o (.s (.i .o .o) (.s (.b (.s .o (.i (.s .o .o) .o))) .o)))))) (.s .o .o)))
noncomputable def s27 : FS := fnF Tryz.prog [(47, s47)] MM Tryz.f27 a27
noncomputable def a14 : Ann := (.s .o (.s (.s .o (.i (.s .o .o) .o)) (.s .o .o)))
noncomputable def s14 : FS := fnF Tryz.prog [(28, s28), (29, s29)] MM Tryz.f14 a14
noncomputable def a32 : Ann := (.s .o (.s .o (.s (.s .o (.i (.s .o .o) .o)) (.s .o (.s .o .o)))))
noncomputable def s32 : FS := fnF Tryz.prog [(17, s17), (13, s13), (24, s24), (27, s27), (14, s14), (40, s40), (53, s53), (54, s54)] MM Tryz.f32 a32
noncomputable def a16 : Ann := (.s .o (.s .o .o))
noncomputable def s16 : FS := fnF Tryz.prog [(32, s32)] MM Tryz.f16 a16
noncomputable def a4 : Ann := (.s .o (.s .o .o))
noncomputable def s4 : FS := fnF Tryz.prog [(16, s16)] MM Tryz.f4 a4
def Z42 : List AV := [.np, (.i .i64 9223372036854775808), (.i .i64 9223372036854775808), (.b false)]
def z42 : AV := .a Z42
noncomputable def a6 : Ann := (.s .o (.s .o (.s .o .o)))
noncomputable def s6 : FS := fnF Tryz.prog [(17, s17)] MM Tryz.f6 a6
noncomputable def S21 : FS := fun args h k => capp 2 (fun x0 x1 h0 =>
 ncK x0 fun x2 =>
 faK 3 x2 fun x3 =>
 ld1 x3 h0 fun x4 =>
 gdK x4 true (fun k => k x1 h0) (fun x5 h1 =>
 gdK x4 true (fun k => ikY .eql x5 (.i .i64 9223372036854775808) fun y => k y h1) (fun x6 h2 =>
 pkK x4 x6 (.b false) fun x7 =>
 ncK x0 fun x8 =>
 faK 3 x8 fun x9 =>
 stL 1 x9 x7 h2 fun h3 =>
 k (.t []) h3) h1) h0) args h
noncomputable def s21 : FS := S21
noncomputable def a21 : Ann := .o
noncomputable def a23 : Ann := .o
noncomputable def s23 : FS := fnF Tryz.prog [(40, s40)] MM Tryz.f23 a23
noncomputable def a7 : Ann := (.s .o (.s (.s .o (.b (.l [0, 1, 5] (.s (.s .o (.i .o .o)) (.s (.b (.s .o (.s (.s .o (.i (.s .o .o) .o)) (.s .o .o)))) .o))))) (.s .o (.s .o .o))))
noncomputable def s7 : FS := fnF Tryz.prog [(18, s18), (19, s19), (20, s20), (22, s22), (21, s21), (23, s23)] MM Tryz.f7 a7
noncomputable def S8 (s13 s24 s21 : FS) : FS := fun args h k => capp 3 (fun x0 x1 x2 h0 =>
 ncK x0 fun x3 =>
 faK 0 x3 fun x4 =>
 ld1 x4 h0 fun x5 =>
 s13 [x5, x1] h0 fun x6 h1 =>
 npK .eql x6 .np fun x7 =>
 cdK x7 (
 ncK x0 fun x8 =>
 faK 3 x8 fun x9 =>
 stL 1 x9 (.b false) h1 fun h2 =>
 k (.t []) h2) (
 s24 [x6, x2] h1 fun x10 h3 =>
 exK x10 0 fun x11 =>
 exK x10 1 fun x12 =>
 boxK 48 3 z48 h3 fun x13 h4 =>
 stL 3 x13 x11 h4 fun h5 =>
 s21 [x0, x12] h5 fun x14 h6 =>
 k (.t []) h6)) args h
noncomputable def s8 : FS := S8 s13 s24 s21
noncomputable def a8 : Ann := (.s .o (.s (.s .o (.i (.s .o .o) .o)) (.s .o .o)))
noncomputable def a9 : Ann := (.s .o (.s .o .o))
noncomputable def s9 : FS := fnF Tryz.prog [] MM Tryz.f9 a9
noncomputable def a49 : Ann := (.s .o (.s (.s .o (.i (.s .o .o) .o)) (.s .o .o)))
noncomputable def s49 : FS := fnF Tryz.prog [(91, s91)] MM Tryz.f49 a49
noncomputable def a50 : Ann := (.s .o (.s (.s .o (.i (.s .o .o) .o)) (.s .o .o)))
noncomputable def s50 : FS := fnF Tryz.prog [(92, s92)] MM Tryz.f50 a50
end Go.Proofs.YtpchmdddkpocgaaGreatDoor
