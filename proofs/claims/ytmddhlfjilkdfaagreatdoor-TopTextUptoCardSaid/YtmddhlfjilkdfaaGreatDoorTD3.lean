/-
  No claim by itself: what the functions' texts mean. No condition.
-/
import Derived.Test.YtmddhlfjilkdfaaGreatDoorTD2
namespace Go.Proofs.YtmddhlfjilkdfaaGreatDoor
set_option linter.unusedVariables false
set_option maxRecDepth 100000 in
noncomputable def S211 (s253 s200 s91 s196 s247 s246 : FS) : FS := fun args h k => capp 2 (fun x0 x1 h0 =>
 boxK 233 13 x1 h0 fun x2 h1 =>
 ldN 13 x2 h1 fun x3 =>
 s253 [x0, x3] h1 fun x4 h2 =>
 notK x4 fun x5 =>
 cdK x5 (
 k (.t []) h2) (
 ncK x0 fun x6 =>
 faK 3 x6 fun x7 =>
 ld1 x7 h2 fun x8 =>
 faK 4 x2 fun x9 =>
 ld1 x9 h2 fun x10 =>
 faK 5 x2 fun x11 =>
 ld1 x11 h2 fun x12 =>
 s200 [x8, x10, x12] h2 fun x13 h3 =>
 notK x13 fun x14 =>
 gdK x14 true (fun k => faK 4 x2 fun y => k y h3) (fun x15 h4 =>
 gdK x14 true (fun k => ld1 x15 h4 fun y => k y h4) (fun x16 h5 =>
 gdK x14 true (fun k => k x0 h5) (fun x17 h6 =>
 gdK x14 true (fun k => ncK x17 fun y => k y h6) (fun x18 h7 =>
 gdK x14 true (fun k => faK 4 x18 fun y => k y h7) (fun x19 h8 =>
 gdK x14 true (fun k => ld1 x19 h8 fun y => k y h8) (fun x20 h9 =>
 gdK x14 true (fun k => ikY .geq x16 x20 fun y => k y h9) (fun x21 h10 =>
 pkK x14 x21 (.b false) fun x22 =>
 cdK x22 (
 faK 1 x2 fun x23 =>
 ld1 x23 h10 fun x24 =>
 ncK x0 fun x25 =>
 faK 3 x25 fun x26 =>
 ld1 x26 h10 fun x27 =>
 faK 4 x2 fun x28 =>
 ld1 x28 h10 fun x29 =>
 ikY .sub x29 (.i .i64 9223372036854775809) fun x30 =>
 s91 [x27] h10 fun x31 h11 =>
 mmL mnK [x30] x31 fun x32 =>
 mmL mxK [(.i .i64 9223372036854775808)] x32 fun x33 =>
 blK [(0, 1, (.i .i64 9223372036854775812)), (2, 1, x24), (4, 1, x33)] Z233 fun x34 =>
 s196 [x0, x34] h11 fun x35 h12 =>
 ld1 x23 h11 fun x36 => ifT (avEq x36 x24) <|
 ld1 x28 h11 fun x37 => ifT (avEq x37 x29) <|
 k (.t []) h12) (
 faK 4 x2 fun x38 =>
 ld1 x38 h10 fun x39 =>
 faK 8 x2 fun x40 =>
 ld1 x40 h10 fun x41 =>
 lnLY x41 fun x42 =>
 ikY .add x39 x42 fun x43 =>
 faK 8 x2 fun x44 =>
 ld1 x44 h10 fun x45 =>
 capp 4 (lp 4 fun (x46 : CT 4) x47 x48 x49 x50 h13 =>
 lnLY x50 fun x51 =>
 ikY .gtr x51 (.i .i64 9223372036854775808) fun x52 =>
 gdK x52 true (fun k => k x50 h13) (fun x53 h14 =>
 gdK x52 true (fun k => iaK 4 x53 (.i .i64 9223372036854775808) fun y => k y h14) (fun x54 h15 =>
 gdK x52 true (fun k => faK 0 x54 fun y => k y h15) (fun x55 h16 =>
 gdK x52 true (fun k => ld1 x55 h16 fun y => k y h16) (fun x56 h17 =>
 gdK x52 true (fun k => k x47 h17) (fun x57 h18 =>
 gdK x52 true (fun k => ncK x57 fun y => k y h18) (fun x58 h19 =>
 gdK x52 true (fun k => faK 4 x58 fun y => k y h19) (fun x59 h20 =>
 gdK x52 true (fun k => ld1 x59 h20 fun y => k y h20) (fun x60 h21 =>
 gdK x52 true (fun k => ikY .leq x56 x60 fun y => k y h21) (fun x61 h22 =>
 pkK x52 x61 (.b false) fun x62 =>
 cdK x62 (
 sllK 4 (some (.i .i64 9223372036854775809)) none none x50 fun x63 =>
 x46 x47 x48 x49 x63 h22) (
 ncK x47 fun x64 =>
 faK 3 x64 fun x65 =>
 ld1 x65 h22 fun x66 =>
 s247 [x66, x50] h22 fun x67 h23 =>
 exK x67 0 fun x68 =>
 exK x67 1 fun x69 =>
 s246 [x47, x68, x69] h23 fun x70 h24 =>
 notK x70 fun x71 =>
 cdK x71 (
 faK 1 x48 fun x72 =>
 ld1 x72 h24 fun x73 =>
 ncK x47 fun x74 =>
 faK 3 x74 fun x75 =>
 ld1 x75 h24 fun x76 =>
 s91 [x76] h24 fun x77 h25 =>
 blK [(0, 1, (.i .i64 9223372036854775812)), (2, 1, x73), (4, 1, x77)] Z233 fun x78 =>
 s196 [x47, x78] h25 fun x79 h26 =>
 ld1 x72 h25 fun x80 => ifT (avEq x80 x73) <|
 k (.t []) h26) (
 ncK x47 fun x81 =>
 faK 4 x81 fun x82 =>
 ld1 x82 h24 fun x83 =>
 faK 6 x48 fun x84 =>
 ld1 x84 h24 fun x85 =>
 mmL mnK [x49] x85 fun x86 =>
 mmL mxK [x86] x83 fun x87 =>
 ncK x47 fun x88 =>
 faK 4 x88 fun x89 =>
 stL 1 x89 x87 h24 fun h27 =>
 faK 1 x48 fun x90 =>
 ld1 x90 h27 fun x91 =>
 blK [(0, 1, (.i .i64 9223372036854775812)), (2, 1, x91), (7, 1, (.b true)), (4, 1, x49)] Z233 fun x92 =>
 s196 [x47, x92] h27 fun x93 h28 =>
 k (.t []) h28))) h21) h20) h19) h18) h17) h16) h15) h14) h13) [x0, x2, x43, x45] h10)) h9) h8) h7) h6) h5) h4) h3)) args h
noncomputable def s211 : FS := S211 s253 s200 s91 s196 s247 s246
noncomputable def a211 : Ann := (.s .o (.s (.s .o (.i .o .o)) (.s (.s (.g [0, 1, 2, 3, 4, 5, 6, 7, 8, 9, 10, 11, 12, 13, 14, 15, 16, 17, 18]) (.i (.s (.g [0, 1, 2, 3, 4, 5, 6, 8, 9, 10, 7, 11, 12, 13, 14]) .o) .o)) (.s .o (.s .o (.s (.b (.l [0, 3, 4, 5] (.s (.s (.g [0, 1, 2, 3, 4, 5, 6, 7, 8, 9, 10, 11, 12, 13]) (.i .o .o)) (.b .o)))) (.s (.s .o (.i (.s (.g [0, 1, 2, 3, 4, 5, 6, 7, 8, 9]) .o) .o)) (.s (.g [0, 1, 2, 3, 4, 5, 6, 7, 8, 9, 10, 11, 12]) .o))))))))
noncomputable def s254 : FS := sx
set_option maxRecDepth 100000 in
noncomputable def S255 (s269 s268 : FS) : FS := fun args h k => capp 3 (fun x0 x1 x2 h0 =>
 s269 [x0, x1] h0 fun x3 h1 =>
 notK x3 fun x4 =>
 gdK x4 false (fun k => k x2 h1) (fun x5 h2 =>
 gdK x4 false (fun k => s268 [x5] h2 k) (fun x6 h3 =>
 gdK x4 false (fun k => notK x6 fun y => k y h3) (fun x7 h4 =>
 pkK x4 (.b true) x7 fun x8 =>
 cdK x8 (
 k (.b false) h4) (
 ncK x0 fun x9 =>
 faK 8 x9 fun x10 =>
 iapK 8 1 x10 x1 fun x11 =>
 ld1 x11 h4 fun x12 =>
 ikY .gtr x2 x12 fun x13 =>
 ncK x0 fun x14 =>
 faK 8 x14 fun x15 =>
 iapK 8 1 x15 x1 fun x16 =>
 ld1 x16 h4 fun x17 =>
 mmL mxK [x2] x17 fun x18 =>
 ncK x0 fun x19 =>
 faK 8 x19 fun x20 =>
 iapK 8 1 x20 x1 fun x21 =>
 stL 1 x21 x18 h4 fun h5 =>
 ncK x0 fun x22 =>
 faK 0 x22 fun x23 =>
 iapK 8 1 x23 x1 fun x24 =>
 ld1 x24 h5 fun x25 =>
 ncK x0 fun x26 =>
 faK 8 x26 fun x27 =>
 iapK 8 1 x27 x1 fun x28 =>
 ld1 x28 h5 fun x29 =>
 ikY .add x29 (.i .i64 9223372036854775809) fun x30 =>
 mmL mxK [x30] x25 fun x31 =>
 ncK x0 fun x32 =>
 faK 0 x32 fun x33 =>
 iapK 8 1 x33 x1 fun x34 =>
 stL 1 x34 x31 h5 fun h6 =>
 k x13 h6)) h3) h2) h1) args h
noncomputable def s255 : FS := S255 s269 s268
noncomputable def a255 : Ann := (.s .o (.s (.s .o (.i (.s .o .o) .o)) (.s .o (.s (.g [0, 1, 2, 3, 4, 5, 6, 7, 8, 9, 10, 11, 12, 13]) (.s (.g [0, 1, 2, 3, 4, 5, 6, 7, 8, 9, 10, 11, 12, 13, 14, 15, 16, 17, 18, 19]) (.s .o .o))))))
set_option maxRecDepth 100000 in
noncomputable def S212 (s91 s254 s240 s255 s202 s256 : FS) : FS := fun args h k => capp 2 (fun x0 x1 h0 =>
 boxK 233 13 x1 h0 fun x2 h1 =>
 ncK x0 fun x3 =>
 faK 5 x3 fun x4 =>
 ld1 x4 h1 fun x5 =>
 ikY .neq x5 (.i .i64 9223372036854775810) fun x6 =>
 gdK x6 false (fun k => faK 4 x2 fun y => k y h1) (fun x7 h2 =>
 gdK x6 false (fun k => ld1 x7 h2 fun y => k y h2) (fun x8 h3 =>
 gdK x6 false (fun k => k x0 h3) (fun x9 h4 =>
 gdK x6 false (fun k => ncK x9 fun y => k y h4) (fun x10 h5 =>
 gdK x6 false (fun k => faK 3 x10 fun y => k y h5) (fun x11 h6 =>
 gdK x6 false (fun k => ld1 x11 h6 fun y => k y h6) (fun x12 h7 =>
 gdK x6 false (fun k => s91 [x12] h7 k) (fun x13 h8 =>
 gdK x6 false (fun k => ikY .gtr x8 x13 fun y => k y h8) (fun x14 h9 =>
 pkK x6 (.b true) x14 fun x15 =>
 gdK x6 false (fun k => ld1 x7 h8 fun y => k y h8) (fun x16 _ => ifT (avEq x16 x8) <|
 cdK x15 (
 k (.t []) h9) (
 faK 7 x2 fun x17 =>
 ld1 x17 h9 fun x18 =>
 notK x18 fun x19 =>
 cdK x19 (
 ncK x0 fun x20 =>
 faK 9 x20 fun x21 =>
 ld1 x21 h9 fun x22 =>
 faK 1 x2 fun x23 =>
 ld1 x23 h9 fun x24 =>
 faK 4 x2 fun x25 =>
 ld1 x25 h9 fun x26 =>
 s254 [x22, x24, x26] h9 fun x27 h10 =>
 cdK x27 (
 faK 1 x2 fun x28 =>
 ld1 x28 h10 fun x29 =>
 s240 [x0, x29] h10 fun x30 h11 =>
 k (.t []) h11) (
 k (.t []) h10)) (
 ncK x0 fun x31 =>
 faK 9 x31 fun x32 =>
 ld1 x32 h9 fun x33 =>
 faK 1 x2 fun x34 =>
 ld1 x34 h9 fun x35 =>
 faK 4 x2 fun x36 =>
 ld1 x36 h9 fun x37 =>
 s255 [x33, x35, x37] h9 fun x38 h12 =>
 jn 2 (fun x39 : CT 2 =>
 cdK x38 (
 s202 [x0] h12 fun x40 h13 =>
 x39 x0 x2 h13) (
 x39 x0 x2 h12)) fun x41 x42 h14 =>
 ncK x41 fun x43 =>
 faK 5 x43 fun x44 =>
 ld1 x44 h14 fun x45 =>
 ikY .eql x45 (.i .i64 9223372036854775810) fun x46 =>
 gdK x46 true (fun k => k x41 h14) (fun x47 h15 =>
 gdK x46 true (fun k => ncK x47 fun y => k y h15) (fun x48 h16 =>
 gdK x46 true (fun k => faK 9 x48 fun y => k y h16) (fun x49 h17 =>
 gdK x46 true (fun k => ld1 x49 h17 fun y => k y h17) (fun x50 h18 =>
 gdK x46 true (fun k => faK 1 x42 fun y => k y h18) (fun x51 h19 =>
 gdK x46 true (fun k => ld1 x51 h19 fun y => k y h19) (fun x52 h20 =>
 gdK x46 true (fun k => k x41 h20) (fun x53 h21 =>
 gdK x46 true (fun k => ncK x53 fun y => k y h21) (fun x54 h22 =>
 gdK x46 true (fun k => faK 3 x54 fun y => k y h22) (fun x55 h23 =>
 gdK x46 true (fun k => ld1 x55 h23 fun y => k y h23) (fun x56 h24 =>
 gdK x46 true (fun k => s256 [x50, x52] h24 k) (fun x57 h25 =>
 gdK x46 true (fun k => s91 [x56] h25 k) (fun x58 h26 =>
 gdK x46 true (fun k => ikY .leq x57 x58 fun y => k y h26) (fun x59 h27 =>
 pkK x46 x59 (.b false) fun x60 =>
 gdK x46 true (fun k => ld1 x55 h25 fun y => k y h25) (fun x61 _ => ifT (avEq x61 x56) <|
 cdK x60 (
 faK 1 x42 fun x62 =>
 ld1 x62 h27 fun x63 =>
 s240 [x41, x63] h27 fun x64 h28 =>
 k (.t []) h28) (
 k (.t []) h27)) h25) h26) h25) h24) h23) h22) h21) h20) h19) h18) h17) h16) h15) h14))) h8) h8) h7) h6) h5) h4) h3) h2) h1) args h
noncomputable def s212 : FS := S212 s91 s254 s240 s255 s202 s256
noncomputable def a212 : Ann := (.s .o (.s (.s (.g [0, 1, 2, 3, 4, 5, 6, 7, 8, 9, 10, 11, 12, 13, 14]) (.i .o .o)) (.s (.s .o (.i (.s (.s (.g [0, 1, 2, 3, 4, 5, 6, 7, 8]) (.i .o .o)) .o) .o)) (.s (.s (.g [0, 1, 2, 3, 4, 5, 6, 7, 8]) (.j [0, 3] .o .o)) (.s (.g [0, 1, 2, 3, 4, 5, 6, 7, 8, 9, 10, 11, 13, 14, 15, 16, 12, 17, 18, 19]) (.i .o .o))))))
noncomputable def s213 : FS := sx
set_option maxRecDepth 100000 in
noncomputable def S165 (s186 s208 s196 s182 s209 s210 s211 s212 s213 : FS) : FS := fun args h k => capp 2 (fun x0 x1 h0 =>
 boxK 233 13 x1 h0 fun x2 h1 =>
 boxK 193 4 z193 h1 fun x3 h2 =>
 npK .eql x0 .np fun x4 =>
 gdK x4 false (fun k => ldN 13 x2 h2 fun y => k y h2) (fun x5 h3 =>
 gdK x4 false (fun k => s186 [x5] h3 k) (fun x6 h4 =>
 gdK x4 false (fun k => notK x6 fun y => k y h4) (fun x7 h5 =>
 pkK x4 (.b true) x7 fun x8 =>
 gdK x8 false (fun k => faK 2 x2 fun y => k y h5) (fun x9 h6 =>
 gdK x8 false (fun k => ld1 x9 h6 fun y => k y h6) (fun x10 h7 =>
 gdK x8 false (fun k => k x0 h7) (fun x11 h8 =>
 gdK x8 false (fun k => ncK x11 fun y => k y h8) (fun x12 h9 =>
 gdK x8 false (fun k => faK 0 x12 fun y => k y h9) (fun x13 h10 =>
 gdK x8 false (fun k => ld1 x13 h10 fun y => k y h10) (fun x14 h11 =>
 gdK x8 false (fun k => ikY .neq x10 x14 fun y => k y h11) (fun x15 h12 =>
 pkK x8 (.b true) x15 fun x16 =>
 gdK x16 false (fun k => faK 1 x2 fun y => k y h12) (fun x17 h13 =>
 gdK x16 false (fun k => ld1 x17 h13 fun y => k y h13) (fun x18 h14 =>
 gdK x16 false (fun k => k x0 h14) (fun x19 h15 =>
 gdK x16 false (fun k => ncK x19 fun y => k y h15) (fun x20 h16 =>
 gdK x16 false (fun k => faK 0 x20 fun y => k y h16) (fun x21 h17 =>
 gdK x16 false (fun k => ld1 x21 h17 fun y => k y h17) (fun x22 h18 =>
 gdK x16 false (fun k => ikY .eql x18 x22 fun y => k y h18) (fun x23 h19 =>
 pkK x16 (.b true) x23 fun x24 =>
 cdK x24 (
 blK [] Z193 fun x25 =>
 stL 4 x3 x25 h19 fun h20 =>
 ldN 4 x3 h20 fun x26 => k x26 h20) (
 faK 3 x2 fun x27 =>
 ld1 x27 h19 fun x28 =>
 ncK x0 fun x29 =>
 faK 1 x29 fun x30 =>
 faK 0 x30 fun x31 =>
 ld1 x31 h19 fun x32 =>
 ikY .gtr x28 x32 fun x33 =>
 jn 3 (fun x34 : CT 3 =>
 cdK x33 (
 faK 3 x2 fun x35 =>
 ld1 x35 h19 fun x36 =>
 s208 [x0, x36] h19 fun x37 h21 =>
 x34 x0 x2 x3 h21) (
 faK 3 x2 fun x38 =>
 ld1 x38 h19 fun x39 =>
 ncK x0 fun x40 =>
 faK 1 x40 fun x41 =>
 faK 0 x41 fun x42 =>
 ld1 x42 h19 fun x43 =>
 ikY .lss x39 x43 fun x44 =>
 cdK x44 (
 faK 0 x2 fun x45 =>
 ld1 x45 h19 fun x46 =>
 ikY .eql x46 (.i .i64 9223372036854775809) fun x47 =>
 jn 2 (fun x48 : CT 2 =>
 cdK x47 (
 faK 1 x2 fun x49 =>
 ld1 x49 h19 fun x50 =>
 blK [(0, 1, (.i .i64 9223372036854775810)), (2, 1, x50)] Z233 fun x51 =>
 s196 [x0, x51] h19 fun x52 h22 =>
 x48 x0 x3 h22) (
 ikY .eql x46 (.i .i64 9223372036854775811) fun x53 =>
 jn 4 (fun x54 : CT 4 =>
 cdK x53 (
 x54 x0 x2 x3 x53 h19) (
 ikY .eql x46 (.i .i64 9223372036854775813) fun x55 =>
 x54 x0 x2 x3 x55 h19)) fun x56 x57 x58 x59 h23 =>
 cdK x59 (
 faK 1 x57 fun x60 =>
 ld1 x60 h23 fun x61 =>
 blK [(0, 1, (.i .i64 9223372036854775812)), (2, 1, x61)] Z233 fun x62 =>
 s196 [x56, x62] h23 fun x63 h24 =>
 x48 x56 x58 h24) (
 x48 x56 x58 h23))) fun x64 x65 h25 =>
 s182 [x64] h25 fun x66 h26 =>
 stL 4 x65 x66 h26 fun h27 =>
 ldN 4 x65 h27 fun x67 => k x67 h27) (
 x34 x0 x2 x3 h19))) fun x68 x69 x70 h28 =>
 faK 0 x69 fun x71 =>
 ld1 x71 h28 fun x72 =>
 ikY .eql x72 (.i .i64 9223372036854775809) fun x73 =>
 jn 2 (fun x74 : CT 2 =>
 cdK x73 (
 ldN 13 x69 h28 fun x75 =>
 s209 [x68, x75] h28 fun x76 h29 =>
 x74 x68 x70 h29) (
 ikY .eql x72 (.i .i64 9223372036854775810) fun x77 =>
 cdK x77 (
 ldN 13 x69 h28 fun x78 =>
 s210 [x68, x78] h28 fun x79 h30 =>
 x74 x68 x70 h30) (
 ikY .eql x72 (.i .i64 9223372036854775811) fun x80 =>
 cdK x80 (
 ldN 13 x69 h28 fun x81 =>
 s211 [x68, x81] h28 fun x82 h31 =>
 x74 x68 x70 h31) (
 ikY .eql x72 (.i .i64 9223372036854775812) fun x83 =>
 cdK x83 (
 ldN 13 x69 h28 fun x84 =>
 s212 [x68, x84] h28 fun x85 h32 =>
 x74 x68 x70 h32) (
 ikY .eql x72 (.i .i64 9223372036854775813) fun x86 =>
 cdK x86 (
 ldN 13 x69 h28 fun x87 =>
 s213 [x68, x87] h28 fun x88 h33 =>
 x74 x68 x70 h33) (
 x74 x68 x70 h28)))))) fun x89 x90 h34 =>
 s182 [x89] h34 fun x91 h35 =>
 stL 4 x90 x91 h35 fun h36 =>
 ldN 4 x90 h36 fun x92 => k x92 h36)) h18) h17) h16) h15) h14) h13) h12) h11) h10) h9) h8) h7) h6) h5) h4) h3) h2) args h
noncomputable def s165 : FS := S165 s186 s208 s196 s182 s209 s210 s211 s212 s213
noncomputable def a165 : Ann := (.s .o (.s (.s (.g [0, 1, 2, 3, 4, 5, 6, 7, 8, 9, 10, 11, 12, 13, 14, 15, 16, 17, 18, 19, 20, 21, 22, 23, 24]) (.i (.s .o .o) .o)) (.s (.b (.s (.g [0, 1, 2, 3, 4, 5, 6, 7, 8]) (.j [0, 3, 4] .o (.s (.g [0, 1, 2, 3, 4, 5, 6, 7, 8]) (.i (.s (.s .o (.b (.s .o (.j [0, 4] .o (.s (.s .o (.j [0, 3, 4, 62] .o .o)) (.i .o .o)))))) (.s .o .o)) .o))))) (.s (.s .o (.b (.s .o (.j [0, 4] .o (.s .o (.i .o (.s .o (.i .o (.s .o (.i .o (.s .o (.i .o .o)))))))))))) (.s .o .o)))))
set_option maxRecDepth 100000 in
noncomputable def S124 (s149 s165 s151 : FS) : FS := fun args h k => capp 2 (fun x0 x1 h0 =>
 boxK 233 13 x1 h0 fun x2 h1 =>
 s149 [x0] h1 fun x3 h2 =>
 cdK x3 (
 k .ns h2) (
 ncK x0 fun x4 =>
 faK 1 x4 fun x5 =>
 ld1 x5 h2 fun x6 =>
 ldN 13 x2 h2 fun x7 =>
 s165 [x6, x7] h2 fun x8 h3 =>
 s151 [x0, x8] h3 fun x9 h4 =>
 k x9 h4)) args h
noncomputable def s124 : FS := S124 s149 s165 s151
noncomputable def a124 : Ann := (.s .o (.s (.s .o (.i (.s .o .o) .o)) (.s (.g [0, 1, 2, 3, 4, 5, 6, 7, 8]) .o)))
set_option maxRecDepth 100000 in
noncomputable def S70 (s122 s123 s124 s113 : FS) : FS := fun args h k => capp 3 (fun x0 x1 x2 h0 =>
 npK .eql x0 .np fun x3 =>
 cdK x3 (
 k (.i .i64 9223372036854775820) h0) (
 ncK x0 fun x4 =>
 faK 4 x4 fun x5 =>
 ld1 x5 h0 fun x6 =>
 s122 [x6, x1] h0 fun x7 h1 =>
 exK x7 0 fun x8 =>
 exK x7 1 fun x9 =>
 boxK 233 13 z233 h1 fun x10 h2 =>
 stL 13 x10 x8 h2 fun h3 =>
 notK x9 fun x11 =>
 cdK x11 (
 k (.i .i64 9223372036854775812) h3) (
 notK x2 fun x12 =>
 jn 2 (fun x13 : CT 2 =>
 cdK x12 (
 ncK x0 fun x14 =>
 faK 4 x14 fun x15 =>
 ld1 x15 h3 fun x16 =>
 s123 [x16, x1] h3 fun x17 h4 =>
 x13 x0 x10 h4) (
 x13 x0 x10 h3)) fun x18 x19 h5 =>
 ncK x18 fun x20 =>
 faK 0 x20 fun x21 =>
 ld1 x21 h5 fun x22 =>
 faK 2 x19 fun x23 =>
 ld1 x23 h5 fun x24 =>
 lkK false false .np x22 x24 h5 fun x25 =>
 npK .neq x25 .np fun x26 =>
 jn 0 (fun x27 : CT 0 =>
 cdK x26 (
 ldN 13 x19 h5 fun x28 =>
 s124 [x25, x28] h5 fun x29 h6 =>
 s113 [x18, x29] h6 fun x30 h7 =>
 x27 h7) (
 x27 h5)) fun h8 =>
 k (.i .i64 9223372036854775808) h8))) args h
noncomputable def s70 : FS := S70 s122 s123 s124 s113
noncomputable def a70 : Ann := (.s .o (.s (.s .o (.i (.s .o .o) .o)) (.s .o (.s (.s .o (.i (.s .o .o) .o)) (.s (.s .o (.j [0, 7] .o .o)) (.s (.s (.g [0, 1, 2, 3, 4, 5, 6, 7]) (.s .o (.j [] .o .o))) (.s .o .o)))))))
set_option maxRecDepth 100000 in
noncomputable def S39 (s40 s41 s70 : FS) : FS := fun args h k => capp 2 (fun x0 x1 h0 =>
 mmL mxK [(.i .i64 9223372036854775808)] x1 fun x2 =>
 mmL mnK [(.i .i64 9223372036854795808)] x2 fun x3 =>
 jn 1 (fun x4 : CT 1 =>
 capp 3 (lp 3 fun (x5 : CT 3) x6 x7 x8 h1 =>
 ikY .lss x8 x7 fun x9 =>
 cdK x9 (
 s40 [x6] h1 fun x10 h2 =>
 s41 [x10] h2 fun x11 h3 =>
 ikY .eql x11 (.i .i64 9223372036854775808) fun x12 =>
 cdK x12 (
 x4 x6 h3) (
 s70 [x6, (.i .i64 9223372036854775808), (.b false)] h3 fun x13 h4 =>
 ikY .add x8 (.i .i64 9223372036854775809) fun x14 =>
 x5 x6 x7 x14 h4)) (
 x4 x6 h1)) [x0, x3, (.i .i64 9223372036854775808)] h0) fun x15 h5 =>
 s40 [x15] h5 fun x16 h6 =>
 s41 [x16] h6 fun x17 h7 =>
 ikY .eql x17 (.i .i64 9223372036854775808) fun x18 =>
 k x18 h7) args h
noncomputable def s39 : FS := S39 s40 s41 s70
noncomputable def a39 : Ann := (.s .o (.s (.s .o (.k [0] (.l [0, 7, 8] (.s .o (.s (.i .o .o) (.s (.b (.s (.s .o (.i .o .o)) .o)) .o)))))) (.s .o .o)))
set_option maxRecDepth 100000 in
noncomputable def S162 (s101 s55 : FS) : FS := fun args h k => capp 1 (fun x0 h0 =>
 npK .eql x0 .np fun x1 =>
 cdK x1 (
 k .ns h0) (
 ncK x0 fun x2 =>
 faK 2 x2 fun x3 =>
 ld1 x3 h0 fun x4 =>
 ncK x0 fun x5 =>
 faK 3 x5 fun x6 =>
 ld1 x6 h0 fun x7 =>
 ncK x0 fun x8 =>
 faK 1 x8 fun x9 =>
 ld1 x9 h0 fun x10 =>
 s101 [x7, x10] h0 fun x11 h1 =>
 sllK 3 (some x11) none none x4 fun x12 =>
 lnLY x12 fun x13 =>
 ld1 x3 h1 fun x14 => ifT (avEq x14 x4) <|
 capp 4 (lp 4 fun (x15 : CT 4) x16 x17 x18 x19 h2 =>
 ikY .lss x19 x18 fun x20 =>
 cdK x20 (
 iaK 3 x17 x19 fun x21 =>
 ldN 3 x21 h2 fun x22 =>
 boxK 51 3 z51 h2 fun x23 h3 =>
 stL 3 x23 x22 h3 fun h4 =>
 ldN 3 x23 h4 fun x24 =>
 s55 [x24] h4 fun x25 h5 =>
 bsK 51 3 1 3 [x25] h5 fun x26 h6 =>
 apY 51 3 x16 x26 h6 fun x27 h7 =>
 ikY .add x19 (.i .i64 9223372036854775809) fun x28 =>
 x15 x27 x17 x18 x28 h7) (
 k x16 h2)) [.ns, x12, x13, (.i .i64 9223372036854775808)] h1)) args h
noncomputable def s162 : FS := S162 s101 s55
noncomputable def a162 : Ann := (.s .o (.s (.s .o (.i (.s .o .o) .o)) (.s .o (.s (.s (.g [0, 1, 2, 3, 4, 5, 6, 7, 8, 9, 10, 11, 15, 12, 13, 14]) (.b (.l [3, 21, 22, 23] (.s .o (.s (.i .o .o) (.s (.b (.s .o .o)) .o)))))) (.s .o .o)))))
set_option maxRecDepth 100000 in
noncomputable def S120 (s162 : FS) : FS := fun args h k => capp 1 (fun x0 h0 =>
 npK .eql x0 .np fun x1 =>
 cdK x1 (
 k .ns h0) (
 ncK x0 fun x2 =>
 faK 0 x2 fun x3 =>
 ld1 x3 h0 fun x4 =>
 s162 [x4] h0 fun x5 h1 =>
 k x5 h1)) args h
noncomputable def s120 : FS := S120 s162
noncomputable def a120 : Ann := (.s .o (.s (.s .o (.i (.s .o .o) .o)) (.s .o .o)))
set_option maxRecDepth 100000 in
noncomputable def S115 (s120 : FS) : FS := fun args h k => capp 1 (fun x0 h0 =>
 boxK 51 3 z51 h0 fun x1 h1 =>
 s120 [x0] h1 fun x2 h2 =>
 lnLY x2 fun x3 =>
 ikY .eql x3 (.i .i64 9223372036854775808) fun x4 =>
 cdK x4 (
 blK [] Z51 fun x5 =>
 stL 3 x1 x5 h2 fun h3 =>
 ldN 3 x1 h3 fun x6 => k (.t [x6, (.b false)]) h3) (
 iaK 3 x2 (.i .i64 9223372036854775808) fun x7 =>
 ldN 3 x7 h2 fun x8 =>
 stL 3 x1 x8 h2 fun h4 =>
 ldN 3 x1 h4 fun x9 => k (.t [x9, (.b true)]) h4)) args h
noncomputable def s115 : FS := S115 s120
noncomputable def a115 : Ann := (.s .o (.s .o (.s (.s .o (.i (.s .o .o) .o)) (.s .o .o))))
set_option maxRecDepth 100000 in
noncomputable def S154 : FS := fun args h k => capp 1 (fun x0 h0 =>
 npK .eql x0 .np fun x1 =>
 cdK x1 (
 k (.i .i64 9223372036854775808) h0) (
 ncK x0 fun x2 =>
 faK 5 x2 fun x3 =>
 ld1 x3 h0 fun x4 =>
 k x4 h0)) args h
noncomputable def s154 : FS := S154
noncomputable def a154 : Ann := (.s .o (.s (.s .o (.i (.s .o .o) .o)) (.s .o .o)))
set_option maxRecDepth 100000 in
noncomputable def S155 (s139 : FS) : FS := fun args h k => capp 2 (fun x0 x1 h0 =>
 ncK x0 fun x2 =>
 faK 1 x2 fun x3 =>
 ld1 x3 h0 fun x4 =>
 s139 [x4, x1] h0 fun x5 h1 =>
 k x5 h1) args h
noncomputable def s155 : FS := S155 s139
noncomputable def a155 : Ann := (.s .o (.s .o .o))
set_option maxRecDepth 100000 in
noncomputable def S197 (s139 s140 : FS) : FS := fun args h k => capp 2 (fun x0 x1 h0 =>
 boxK 96 5 z96 h0 fun x2 h1 =>
 s139 [x0, x1] h1 fun x3 h2 =>
 ikY .eql x3 (.i .i64 9223372036854775808) fun x4 =>
 cdK x4 (
 blK [] Z96 fun x5 =>
 stL 5 x2 x5 h2 fun h3 =>
 ldN 5 x2 h3 fun x6 => k (.t [x6, (.b false)]) h3) (
 ncK x0 fun x7 =>
 faK 2 x7 fun x8 =>
 iapK 6 6 x8 x1 fun x9 =>
 faK 1 x9 fun x10 =>
 ldN 5 x10 h2 fun x11 =>
 s140 [x11] h2 fun x12 h4 =>
 stL 5 x2 x12 h4 fun h5 =>
 ldN 5 x2 h5 fun x13 => k (.t [x13, (.b true)]) h5)) args h
noncomputable def s197 : FS := S197 s139 s140
noncomputable def a197 : Ann := (.s .o (.s (.s .o (.i (.s .o .o) .o)) (.s .o .o)))
set_option maxRecDepth 100000 in
noncomputable def S156 (s197 : FS) : FS := fun args h k => capp 2 (fun x0 x1 h0 =>
 boxK 96 5 z96 h0 fun x2 h1 =>
 ncK x0 fun x3 =>
 faK 1 x3 fun x4 =>
 ld1 x4 h1 fun x5 =>
 s197 [x5, x1] h1 fun x6 h2 =>
 exK x6 0 fun x7 =>
 exK x6 1 fun x8 =>
 stL 5 x2 x7 h2 fun h3 =>
 ldN 5 x2 h3 fun x9 => k (.t [x9, x8]) h3) args h
noncomputable def s156 : FS := S156 s197
noncomputable def a156 : Ann := (.s .o (.s .o .o))
set_option maxRecDepth 100000 in
noncomputable def S157 (s108 s53 s109 s86 : FS) : FS := fun args h k => capp 2 (fun x0 x1 h0 =>
 boxK 51 3 x1 h0 fun x2 h1 =>
 ncK x0 fun x3 =>
 faK 1 x3 fun x4 =>
 ld1 x4 h1 fun x5 =>
 ncK x0 fun x6 =>
 faK 2 x6 fun x7 =>
 ld1 x7 h1 fun x8 =>
 s108 [x5] h1 fun x9 h2 =>
 s53 [x8] h2 fun x10 h3 =>
 ikY .add x10 (.i .i64 9223372036854775809) fun x11 =>
 s109 [x9, x11, (.i .i64 9223372036854776008)] h3 fun x12 h4 =>
 lnLY x12 fun x13 =>
 ld1 x7 h2 fun x14 => ifT (avEq x14 x8) <|
 capp 4 (lp 4 fun (x15 : CT 4) x16 x17 x18 x19 h5 =>
 ikY .lss x19 x18 fun x20 =>
 cdK x20 (
 iaK 4 x17 x19 fun x21 =>
 ldN 4 x21 h5 fun x22 =>
 boxK 164 4 z164 h5 fun x23 h6 =>
 stL 4 x23 x22 h6 fun h7 =>
 faK 3 x23 fun x24 =>
 ld1 x24 h7 fun x25 =>
 sb2Y 5 x25 h7 fun x26 h8 =>
 s86 [x26] h8 fun x27 h9 =>
 exK x27 0 fun x28 =>
 exK x27 1 fun x29 =>
 boxK 51 3 z51 h9 fun x30 h10 =>
 stL 3 x30 x28 h10 fun h11 =>
 faK 2 x23 fun x31 =>
 ld1 x31 h11 fun x32 =>
 ikY .eql x32 (.i .i64 9223372036854775810) fun x33 =>
 gdK x33 true (fun k => k x29 h11) (fun x34 h12 =>
 gdK x33 true (fun k => ikY .eql x34 (.i .i64 9223372036854775808) fun y => k y h12) (fun x35 h13 =>
 pkK x33 x35 (.b false) fun x36 =>
 gdK x36 true (fun k => faK 0 x30 fun y => k y h13) (fun x37 h14 =>
 gdK x36 true (fun k => ld1 x37 h14 fun y => k y h14) (fun x38 h15 =>
 gdK x36 true (fun k => faK 0 x16 fun y => k y h15) (fun x39 h16 =>
 gdK x36 true (fun k => ld1 x39 h16 fun y => k y h16) (fun x40 h17 =>
 gdK x36 true (fun k => ikY .eql x38 x40 fun y => k y h17) (fun x41 h18 =>
 pkK x36 x41 (.b false) fun x42 =>
 gdK x42 true (fun k => faK 1 x30 fun y => k y h18) (fun x43 h19 =>
 gdK x42 true (fun k => ld1 x43 h19 fun y => k y h19) (fun x44 h20 =>
 gdK x42 true (fun k => faK 1 x16 fun y => k y h20) (fun x45 h21 =>
 gdK x42 true (fun k => ld1 x45 h21 fun y => k y h21) (fun x46 h22 =>
 gdK x42 true (fun k => ikY .eql x44 x46 fun y => k y h22) (fun x47 h23 =>
 pkK x42 x47 (.b false) fun x48 =>
 cdK x48 (
 k (.b true) h23) (
 ikY .add x19 (.i .i64 9223372036854775809) fun x49 =>
 x15 x16 x17 x18 x49 h23)) h22) h21) h20) h19) h18) h17) h16) h15) h14) h13) h12) h11) (
 k (.b false) h5)) [x2, x12, x13, (.i .i64 9223372036854775808)] h4) args h
noncomputable def s157 : FS := S157 s108 s53 s109 s86
noncomputable def a157 : Ann := (.s .o (.s (.s (.g [0, 1, 2, 3, 5, 6, 7, 8, 13, 4, 9, 10, 11, 12]) (.b (.l [3, 20, 21, 22] (.s .o (.s (.i .o .o) (.s (.b (.s .o (.s .o (.s .o (.i (.s .o .o) .o))))) .o)))))) (.s .o .o)))
noncomputable def s199 : FS := sx
set_option maxRecDepth 100000 in
noncomputable def S158 (s187 s198 s199 s200 s110 s109 s201 s202 s188 s182 : FS) : FS := fun args h k => capp 3 (fun x0 x1 x2 h0 =>
 boxK 193 4 z193 h0 fun x3 h1 =>
 npK .eql x0 .np fun x4 =>
 cdK x4 (
 blK [] Z193 fun x5 =>
 stL 4 x3 x5 h1 fun h2 =>
 ldN 4 x3 h2 fun x6 => k (.t [(.i .i64 9223372036854775808), x6, (.i .i64 9223372036854775820)]) h2) (
 ncK x0 fun x7 =>
 faK 3 x7 fun x8 =>
 ld1 x8 h1 fun x9 =>
 s187 [x9] h1 fun x10 h3 =>
 exK x10 0 fun x11 =>
 exK x10 1 fun x12 =>
 s198 [x2] h3 fun x13 h4 =>
 exK x13 0 fun x14 =>
 exK x13 1 fun x15 =>
 ncK x0 fun x16 =>
 faK 5 x16 fun x17 =>
 ld1 x17 h4 fun x18 =>
 ikY .neq x18 (.i .i64 9223372036854775810) fun x19 =>
 cdK x19 (
 blK [] Z193 fun x20 =>
 stL 4 x3 x20 h4 fun h5 =>
 ldN 4 x3 h5 fun x21 => k (.t [(.i .i64 9223372036854775808), x21, (.i .i64 9223372036854775817)]) h5) (
 ikY .neq x1 (.i .i64 9223372036854775810) fun x22 =>
 gdK x22 true (fun k => k x1 h4) (fun x23 h6 =>
 gdK x22 true (fun k => ikY .neq x23 (.i .i64 9223372036854775811) fun y => k y h6) (fun x24 h7 =>
 pkK x22 x24 (.b false) fun x25 =>
 gdK x25 false (fun k => k x2 h7) (fun x26 h8 =>
 gdK x25 false (fun k => lnSY x26 fun y => k y h8) (fun x27 h9 =>
 gdK x25 false (fun k => ikY .gtr x27 (.i .i64 9223372036854778308) fun y => k y h9) (fun x28 h10 =>
 pkK x25 (.b true) x28 fun x29 =>
 gdK x29 false (fun k => k x1 h10) (fun x30 h11 =>
 gdK x29 false (fun k => ikY .eql x30 (.i .i64 9223372036854775811) fun y => k y h11) (fun x31 h12 =>
 gdK x29 false (fun k => k x31 h12) (fun x32 h13 =>
 gdK x32 true (fun k => k x15 h13) (fun x33 h14 =>
 gdK x32 true (fun k => notK x33 fun y => k y h14) (fun x34 h15 =>
 gdK x32 true (fun k => k x34 h15) (fun x35 h16 =>
 gdK x35 false (fun k => k x14 h16) (fun x36 h17 =>
 gdK x35 false (fun k => k x11 h17) (fun x37 h18 =>
 gdK x35 false (fun k => s199 [x36, x37] h18 k) (fun x38 h19 =>
 gdK x35 false (fun k => notK x38 fun y => k y h19) (fun x39 h20 =>
 gdK x32 true (fun k => pkK x35 (.b true) x39 fun y => k y h20) (fun x40 h21 =>
 gdK x29 false (fun k => pkK x32 x40 (.b false) fun y => k y h21) (fun x41 h22 =>
 pkK x29 (.b true) x41 fun x42 =>
 cdK x42 (
 blK [] Z193 fun x43 =>
 stL 4 x3 x43 h22 fun h23 =>
 ldN 4 x3 h23 fun x44 => k (.t [(.i .i64 9223372036854775808), x44, (.i .i64 9223372036854775809)]) h23) (
 ikY .eql x1 (.i .i64 9223372036854775811) fun x45 =>
 gdK x45 true (fun k => k x12 h22) (fun x46 h24 =>
 gdK x45 true (fun k => k x0 h24) (fun x47 h25 =>
 gdK x45 true (fun k => ncK x47 fun y => k y h25) (fun x48 h26 =>
 gdK x45 true (fun k => faK 4 x48 fun y => k y h26) (fun x49 h27 =>
 gdK x45 true (fun k => ld1 x49 h27 fun y => k y h27) (fun x50 h28 =>
 gdK x45 true (fun k => ikY .gtr x46 x50 fun y => k y h28) (fun x51 h29 =>
 gdK x45 true (fun k => k x51 h29) (fun x52 h30 =>
 gdK x52 false (fun k => k x0 h30) (fun x53 h31 =>
 gdK x52 false (fun k => ncK x53 fun y => k y h31) (fun x54 h32 =>
 gdK x52 false (fun k => faK 3 x54 fun y => k y h32) (fun x55 h33 =>
 gdK x52 false (fun k => ld1 x55 h33 fun y => k y h33) (fun x56 h34 =>
 gdK x52 false (fun k => k x0 h34) (fun x57 h35 =>
 gdK x52 false (fun k => ncK x57 fun y => k y h35) (fun x58 h36 =>
 gdK x52 false (fun k => faK 4 x58 fun y => k y h36) (fun x59 h37 =>
 gdK x52 false (fun k => ld1 x59 h37 fun y => k y h37) (fun x60 h38 =>
 gdK x52 false (fun k => k x0 h38) (fun x61 h39 =>
 gdK x52 false (fun k => ncK x61 fun y => k y h39) (fun x62 h40 =>
 gdK x52 false (fun k => faK 1 x62 fun y => k y h40) (fun x63 h41 =>
 gdK x52 false (fun k => faK 0 x63 fun y => k y h41) (fun x64 h42 =>
 gdK x52 false (fun k => ld1 x64 h42 fun y => k y h42) (fun x65 h43 =>
 gdK x52 false (fun k => s200 [x56, x60, x65] h43 k) (fun x66 h44 =>
 gdK x52 false (fun k => notK x66 fun y => k y h44) (fun x67 h45 =>
 gdK x45 true (fun k => pkK x52 (.b true) x67 fun y => k y h45) (fun x68 h46 =>
 pkK x45 x68 (.b false) fun x69 =>
 cdK x69 (
 blK [] Z193 fun x70 =>
 stL 4 x3 x70 h46 fun h47 =>
 ldN 4 x3 h47 fun x71 => k (.t [(.i .i64 9223372036854775808), x71, (.i .i64 9223372036854775818)]) h47) (
 ncK x0 fun x72 =>
 faK 3 x72 fun x73 =>
 ld1 x73 h46 fun x74 =>
 ncK x0 fun x75 =>
 faK 3 x75 fun x76 =>
 ld1 x76 h46 fun x77 =>
 s110 [x77] h46 fun x78 h48 =>
 s109 [x74, x78, (.i .i64 9223372036854776008)] h48 fun x79 h49 =>
 lnLY x79 fun x80 =>
 ikY .geq x80 (.i .i64 9223372036854776008) fun x81 =>
 ld1 x73 h48 fun x82 => ifT (avEq x82 x74) <|
 cdK x81 (
 blK [] Z193 fun x83 =>
 stL 4 x3 x83 h49 fun h50 =>
 ldN 4 x3 h50 fun x84 => k (.t [(.i .i64 9223372036854775808), x84, (.i .i64 9223372036854775813)]) h50) (
 s201 [x0, x1, x2] h49 fun x85 h51 =>
 s202 [x0] h51 fun x86 h52 =>
 s188 [x0] h52 fun x87 h53 =>
 s182 [x0] h53 fun x88 h54 =>
 stL 4 x3 x88 h54 fun h55 =>
 ldN 4 x3 h55 fun x89 => k (.t [x85, x89, (.i .i64 9223372036854775808)]) h55))) h45) h44) h43) h42) h41) h40) h39) h38) h37) h36) h35) h34) h33) h32) h31) h30) h29) h28) h27) h26) h25) h24) h22)) h21) h20) h19) h18) h17) h16) h15) h14) h13) h12) h11) h10) h9) h8) h7) h6) h4))) args h
noncomputable def s158 : FS := S158 s187 s198 s199 s200 s110 s109 s201 s202 s188 s182
noncomputable def a158 : Ann := (.s .o (.s (.s .o (.i (.s .o .o) .o)) (.s .o (.s .o (.s (.b (.s .o (.i (.s .o .o) (.s .o (.i (.s .o .o) (.s (.g [0, 1, 2, 3, 4, 5, 6, 7, 8, 9, 10, 11, 12, 13, 14, 15, 16, 17, 18, 19, 20, 21, 22, 23, 24, 25, 26, 27]) (.i (.s .o .o) (.s (.g [0, 1, 2, 3, 4, 5, 6, 7, 8, 9, 10, 11, 12]) (.i (.s .o .o) .o))))))))) (.s .o (.s .o (.s .o (.s .o .o)))))))))
set_option maxRecDepth 100000 in
noncomputable def S116 (s149 s99 s154 s155 s156 s157 s56 s158 s151 : FS) : FS := fun args h k => capp 2 (fun x0 x1 h0 =>
 boxK 51 3 x1 h0 fun x2 h1 =>
 boxK 96 5 z96 h1 fun x3 h2 =>
 s149 [x0] h2 fun x4 h3 =>
 cdK x4 (
 blK [] Z96 fun x5 =>
 stL 5 x3 x5 h3 fun h4 =>
 ldN 5 x3 h4 fun x6 => k (.t [x6, .ns, (.i .i64 9223372036854775820)]) h4) (
 ldN 3 x2 h3 fun x7 =>
 s99 [x7] h3 fun x8 h5 =>
 notK x8 fun x9 =>
 cdK x9 (
 blK [] Z96 fun x10 =>
 stL 5 x3 x10 h5 fun h6 =>
 ldN 5 x3 h6 fun x11 => k (.t [x11, .ns, (.i .i64 9223372036854775809)]) h6) (
 ncK x0 fun x12 =>
 faK 1 x12 fun x13 =>
 ld1 x13 h5 fun x14 =>
 s154 [x14] h5 fun x15 h7 =>
 ikY .neq x15 (.i .i64 9223372036854775810) fun x16 =>
 cdK x16 (
 blK [] Z96 fun x17 =>
 stL 5 x3 x17 h7 fun h8 =>
 ldN 5 x3 h8 fun x18 => k (.t [x18, .ns, (.i .i64 9223372036854775817)]) h8) (
 ncK x0 fun x19 =>
 faK 2 x19 fun x20 =>
 ld1 x20 h7 fun x21 =>
 faK 0 x2 fun x22 =>
 ld1 x22 h7 fun x23 =>
 s155 [x21, x23] h7 fun x24 h9 =>
 faK 1 x2 fun x25 =>
 ld1 x25 h9 fun x26 =>
 ikY .eql x26 x24 fun x27 =>
 cdK x27 (
 ncK x0 fun x28 =>
 faK 2 x28 fun x29 =>
 ld1 x29 h9 fun x30 =>
 faK 0 x2 fun x31 =>
 ld1 x31 h9 fun x32 =>
 s156 [x30, x32] h9 fun x33 h10 =>
 exK x33 0 fun x34 =>
 exK x33 1 fun x35 =>
 boxK 96 5 z96 h10 fun x36 h11 =>
 stL 5 x36 x34 h11 fun h12 =>
 ldN 5 x36 h12 fun x37 =>
 stL 5 x3 x37 h12 fun h13 =>
 ldN 5 x3 h13 fun x38 => k (.t [x38, .ns, (.i .i64 9223372036854775808)]) h13) (
 faK 1 x2 fun x39 =>
 ld1 x39 h9 fun x40 =>
 ikY .add x24 (.i .i64 9223372036854775809) fun x41 =>
 ikY .neq x40 x41 fun x42 =>
 cdK x42 (
 blK [] Z96 fun x43 =>
 stL 5 x3 x43 h9 fun h14 =>
 ldN 5 x3 h14 fun x44 => k (.t [x44, .ns, (.i .i64 9223372036854775819)]) h14) (
 ldN 3 x2 h9 fun x45 =>
 s157 [x0, x45] h9 fun x46 h15 =>
 cdK x46 (
 blK [] Z96 fun x47 =>
 stL 5 x3 x47 h15 fun h16 =>
 ldN 5 x3 h16 fun x48 => k (.t [x48, .ns, (.i .i64 9223372036854775818)]) h16) (
 ncK x0 fun x49 =>
 faK 1 x49 fun x50 =>
 ld1 x50 h15 fun x51 =>
 ldN 3 x2 h15 fun x52 =>
 s56 [x52] h15 fun x53 h17 =>
 cbY x53 h17 fun x54 =>
 s158 [x51, (.i .i64 9223372036854775810), x54] h17 fun x55 h18 =>
 exK x55 0 fun x56 =>
 exK x55 1 fun x57 =>
 exK x55 2 fun x58 =>
 boxK 193 4 z193 h18 fun x59 h19 =>
 stL 4 x59 x57 h19 fun h20 =>
 ld1 x50 h17 fun x60 => ifT (avEq x60 x51) <|
 ikY .neq x58 (.i .i64 9223372036854775808) fun x61 =>
 cdK x61 (
 blK [] Z96 fun x62 =>
 stL 5 x3 x62 h20 fun h21 =>
 ldN 5 x3 h21 fun x63 => k (.t [x63, .ns, x58]) h21) (
 ldN 4 x59 h20 fun x64 =>
 s151 [x0, x64] h20 fun x65 h22 =>
 ncK x0 fun x66 =>
 faK 2 x66 fun x67 =>
 ld1 x67 h22 fun x68 =>
 faK 0 x2 fun x69 =>
 ld1 x69 h22 fun x70 =>
 s156 [x68, x70] h22 fun x71 h23 =>
 exK x71 0 fun x72 =>
 exK x71 1 fun x73 =>
 boxK 96 5 z96 h23 fun x74 h24 =>
 stL 5 x74 x72 h24 fun h25 =>
 ncK x0 fun x75 =>
 faK 3 x75 fun x76 =>
 ld1 x76 h25 fun x77 =>
 cdK x77 (
 blK [] Z96 fun x78 =>
 stL 5 x3 x78 h25 fun h26 =>
 ldN 5 x3 h26 fun x79 => k (.t [x79, .ns, (.i .i64 9223372036854775820)]) h26) (
 ncK x0 fun x80 =>
 faK 2 x80 fun x81 =>
 ld1 x81 h25 fun x82 =>
 faK 0 x2 fun x83 =>
 ld1 x83 h25 fun x84 =>
 faK 1 x2 fun x85 =>
 ld1 x85 h25 fun x86 =>
 s155 [x82, x84] h25 fun x87 h27 =>
 ikY .eql x87 x86 fun x88 =>
 ld1 x85 h27 fun x89 => ifT (avEq x89 x86) <|
 cdK x88 (
 ldN 5 x74 h27 fun x90 =>
 stL 5 x3 x90 h27 fun h28 =>
 ldN 5 x3 h28 fun x91 => k (.t [x91, x65, (.i .i64 9223372036854775808)]) h28) (
 blK [] Z96 fun x92 =>
 stL 5 x3 x92 h27 fun h29 =>
 ldN 5 x3 h29 fun x93 => k (.t [x93, x65, (.i .i64 9223372036854775818)]) h29)))))))))) args h
noncomputable def s116 : FS := S116 s149 s99 s154 s155 s156 s157 s56 s158 s151
noncomputable def a116 : Ann := (.s .o (.s (.b (.s .o (.i (.s .o .o) (.s .o (.i (.s .o .o) (.s .o (.i (.s .o .o) .o))))))) (.s (.s (.g [0, 1, 2, 3, 4, 5, 6, 7]) (.b (.s .o (.i (.s (.g [0, 1, 2, 3, 4, 5, 6, 7, 8, 9, 10, 11, 12]) (.s .o .o)) (.s .o (.i (.s .o .o) (.s .o (.i (.s .o .o) .o)))))))) (.s (.g [0, 1, 2, 3, 4, 5, 6, 7, 8, 9, 10, 11, 12, 13, 14, 15]) (.s (.s .o (.i (.s .o .o) .o)) (.s .o (.s (.s (.g [0, 1, 2, 3, 4, 5, 6, 7, 8, 9, 10, 11, 12]) (.b (.s .o (.i (.s .o .o) (.s (.g [0, 1, 2, 3, 4, 5, 7, 8, 6, 9, 10]) (.i (.s .o .o) .o)))))) (.s .o .o))))))))
set_option maxRecDepth 100000 in
noncomputable def S64 (s11 s61 s115 s116 s113 : FS) : FS := fun args h k => capp 3 (fun x0 x1 x2 h0 =>
 s11 [x0, x1] h0 fun x3 h1 =>
 s61 [x0, x2] h1 fun x4 h2 =>
 npK .eql x3 .np fun x5 =>
 gdK x5 false (fun k => k x4 h2) (fun x6 h3 =>
 gdK x5 false (fun k => npK .eql x6 .np fun y => k y h3) (fun x7 h4 =>
 pkK x5 (.b true) x7 fun x8 =>
 cdK x8 (
 k (.i .i64 9223372036854775820) h4) (
 s115 [x3] h4 fun x9 h5 =>
 exK x9 0 fun x10 =>
 exK x9 1 fun x11 =>
 boxK 51 3 z51 h5 fun x12 h6 =>
 stL 3 x12 x10 h6 fun h7 =>
 notK x11 fun x13 =>
 cdK x13 (
 k (.i .i64 9223372036854775821) h7) (
 ldN 3 x12 h7 fun x14 =>
 s116 [x4, x14] h7 fun x15 h8 =>
 exK x15 0 fun x16 =>
 exK x15 1 fun x17 =>
 exK x15 2 fun x18 =>
 boxK 96 5 z96 h8 fun x19 h9 =>
 stL 5 x19 x16 h9 fun h10 =>
 s113 [x0, x17] h10 fun x20 h11 =>
 k x18 h11))) h3) h2) args h
noncomputable def s64 : FS := S64 s11 s61 s115 s116 s113
noncomputable def a64 : Ann := (.s .o (.s .o (.s (.s .o (.i (.s .o .o) .o)) (.s .o (.s (.s .o (.i (.s .o .o) .o)) (.s .o (.s .o (.s .o .o))))))))
set_option maxRecDepth 100000 in
noncomputable def S22 : FS := fun args h k => capp 1 (fun x0 h0 =>
 npK .eql x0 .np fun x1 =>
 cdK x1 (
 k .np h0) (
 ncK x0 fun x2 =>
 faK 3 x2 fun x3 =>
 ld1 x3 h0 fun x4 =>
 k x4 h0)) args h
noncomputable def s22 : FS := S22
noncomputable def a22 : Ann := (.s .o (.s (.s .o (.i (.s .o .o) .o)) (.s .o .o)))
set_option maxRecDepth 100000 in
noncomputable def S160 : FS := fun args h k => capp 1 (fun x0 h0 =>
 npK .eql x0 .np fun x1 =>
 cdK x1 (
 k (.i .i64 9223372036854775808) h0) (
 ncK x0 fun x2 =>
 faK 1 x2 fun x3 =>
 ld1 x3 h0 fun x4 =>
 lnLY x4 fun x5 =>
 ikY .add x5 (.i .i64 9223372036854775809) fun x6 =>
 k x6 h0)) args h
noncomputable def s160 : FS := S160
noncomputable def a160 : Ann := (.s .o (.s (.s .o (.i (.s .o .o) .o)) (.s .o .o)))
set_option maxRecDepth 100000 in
noncomputable def S118 (s22 s160 : FS) : FS := fun args h k => capp 1 (fun x0 h0 =>
 npK .eql x0 .np fun x1 =>
 cdK x1 (
 k (.i .i64 9223372036854775808) h0) (
 ncK x0 fun x2 =>
 faK 0 x2 fun x3 =>
 ld1 x3 h0 fun x4 =>
 s22 [x4] h0 fun x5 h1 =>
 s160 [x5] h1 fun x6 h2 =>
 k x6 h2)) args h
noncomputable def s118 : FS := S118 s22 s160
noncomputable def a118 : Ann := (.s .o (.s (.s .o (.i (.s .o .o) .o)) (.s .o .o)))
set_option maxRecDepth 100000 in
noncomputable def S159 (s203 : FS) : FS := fun args h k => capp 3 (fun x0 x1 x2 h0 =>
 npK .eql x0 .np fun x3 =>
 gdK x3 false (fun k => k x1 h0) (fun x4 h1 =>
 gdK x3 false (fun k => ikY .lss x4 (.i .i64 9223372036854775809) fun y => k y h1) (fun x5 h2 =>
 pkK x3 (.b true) x5 fun x6 =>
 gdK x6 false (fun k => k x1 h2) (fun x7 h3 =>
 gdK x6 false (fun k => k x0 h3) (fun x8 h4 =>
 gdK x6 false (fun k => ncK x8 fun y => k y h4) (fun x9 h5 =>
 gdK x6 false (fun k => faK 2 x9 fun y => k y h5) (fun x10 h6 =>
 gdK x6 false (fun k => ld1 x10 h6 fun y => k y h6) (fun x11 h7 =>
 gdK x6 false (fun k => lnLY x11 fun y => k y h7) (fun x12 h8 =>
 gdK x6 false (fun k => ikY .gtr x7 x12 fun y => k y h8) (fun x13 h9 =>
 pkK x6 (.b true) x13 fun x14 =>
 gdK x14 false (fun k => k x2 h9) (fun x15 h10 =>
 gdK x14 false (fun k => ikY .lss x15 (.i .i64 9223372036854775809) fun y => k y h10) (fun x16 h11 =>
 pkK x14 (.b true) x16 fun x17 =>
 cdK x17 (
 k .ns h11) (
 ncK x0 fun x18 =>
 faK 2 x18 fun x19 =>
 ld1 x19 h11 fun x20 =>
 ikY .sub x1 (.i .i64 9223372036854775809) fun x21 =>
 sllK 5 (some x21) none none x20 fun x22 =>
 lnLY x22 fun x23 =>
 mmL mnK [x2, (.i .i64 9223372036854775818)] x23 fun x24 =>
 sllK 5 none (some x24) none x22 fun x25 =>
 lnLY x25 fun x26 =>
 capp 4 (lp 4 fun (x27 : CT 4) x28 x29 x30 x31 h12 =>
 ikY .lss x31 x30 fun x32 =>
 cdK x32 (
 iaK 5 x29 x31 fun x33 =>
 ldN 5 x33 h12 fun x34 =>
 boxK 96 5 z96 h12 fun x35 h13 =>
 stL 5 x35 x34 h13 fun h14 =>
 ldN 5 x35 h14 fun x36 =>
 s203 [x36] h14 fun x37 h15 =>
 bsK 96 5 1 5 [x37] h15 fun x38 h16 =>
 apY 96 5 x28 x38 h16 fun x39 h17 =>
 ikY .add x31 (.i .i64 9223372036854775809) fun x40 =>
 x27 x39 x29 x30 x40 h17) (
 k x28 h12)) [.ns, x25, x26, (.i .i64 9223372036854775808)] h11)) h10) h9) h8) h7) h6) h5) h4) h3) h2) h1) h0) args h
noncomputable def s159 : FS := S159 s203
noncomputable def a159 : Ann := (.s .o (.s (.s .o (.i (.s .o .o) .o)) (.s .o (.s .o (.s (.s .o (.b (.l [8, 42, 43, 44] (.s .o (.s (.i .o .o) (.s (.b (.s .o .o)) .o)))))) (.s .o .o))))))
set_option maxRecDepth 100000 in
noncomputable def S117 (s159 : FS) : FS := fun args h k => capp 2 (fun x0 x1 h0 =>
 npK .eql x0 .np fun x2 =>
 cdK x2 (
 k (.t [.ns, (.i .i64 9223372036854775820)]) h0) (
 ncK x0 fun x3 =>
 faK 2 x3 fun x4 =>
 ld1 x4 h0 fun x5 =>
 s159 [x5, x1, (.i .i64 9223372036854775818)] h0 fun x6 h1 =>
 k (.t [x6, (.i .i64 9223372036854775808)]) h1)) args h
noncomputable def s117 : FS := S117 s159
noncomputable def a117 : Ann := (.s .o (.s (.s .o (.i (.s .o .o) .o)) (.s .o .o)))
set_option maxRecDepth 100000 in
noncomputable def S35 (s36 : FS) : FS := fun args h k => capp 1 (fun x0 h0 =>
 npK .eql x0 .np fun x1 =>
 cdK x1 (
 k .np h0) (
 ncK x0 fun x2 =>
 ldN 38 x2 h0 fun x3 =>
 boxK 101 38 z101 h0 fun x4 h1 =>
 stL 38 x4 x3 h1 fun h2 =>
 ncK x0 fun x5 =>
 faK 1 x5 fun x6 =>
 ld1 x6 h2 fun x7 =>
 s36 [x7] h2 fun x8 h3 =>
 faK 1 x4 fun x9 =>
 stL 1 x9 x8 h3 fun h4 =>
 k x4 h4)) args h
noncomputable def s35 : FS := S35 s36
noncomputable def a35 : Ann := (.s .o (.s (.s .o (.i (.s .o .o) .o)) (.s .o (.s .o (.s .o .o)))))
set_option maxRecDepth 100000 in
noncomputable def S249 : FS := fun args h k => capp 1 (fun x0 h0 =>
 nsK .eql x0 .ns fun x1 =>
 cdK x1 (
 k .ns h0) (
 bsK 96 5 0 0 [] h0 fun x2 h1 =>
 apY 96 5 x2 x0 h1 fun x3 h2 =>
 k x3 h2)) args h
noncomputable def s249 : FS := S249
noncomputable def a249 : Ann := (.s .o (.s (.s .o (.i (.s .o .o) .o)) (.s .o .o)))
set_option maxRecDepth 100000 in
noncomputable def S204 (s35 s249 : FS) : FS := fun args h k => capp 1 (fun x0 h0 =>
 ncK x0 fun x1 =>
 faK 0 x1 fun x2 =>
 ld1 x2 h0 fun x3 =>
 ncK x0 fun x4 =>
 faK 1 x4 fun x5 =>
 ld1 x5 h0 fun x6 =>
 s35 [x3] h0 fun x7 h1 =>
 s249 [x6] h1 fun x8 h2 =>
 blK [(0, 1, x7), (1, 1, x8)] Z94 fun x9 =>
 boxK 94 2 x9 h2 fun x10 h3 =>
 ld1 x5 h1 fun x11 => ifT (avEq x11 x6) <|
 k x10 h3) args h
noncomputable def s204 : FS := S204 s35 s249
noncomputable def a204 : Ann := (.s .o (.s (.g [0, 1, 2, 3, 5, 6, 7, 8, 4, 9, 10, 11, 12]) .o))
set_option maxRecDepth 100000 in
noncomputable def S175 : FS := fun args h k => capp 2 (fun x0 x1 h0 =>
 lnLY x0 fun x2 =>
 lnLY x1 fun x3 =>
 ikY .neq x2 x3 fun x4 =>
 cdK x4 (
 k (.b false) h0) (
 lnLY x0 fun x5 =>
 capp 4 (lp 4 fun (x6 : CT 4) x7 x8 x9 x10 h1 =>
 ikY .lss x10 x9 fun x11 =>
 cdK x11 (
 iaK 9 x7 x10 fun x12 =>
 ldN 9 x12 h1 fun x13 =>
 iaK 9 x8 x10 fun x14 =>
 ldN 9 x14 h1 fun x15 =>
 sqA .neq 31 x13 x15 fun x16 =>
 cdK x16 (
 k (.b false) h1) (
 ikY .add x10 (.i .i64 9223372036854775809) fun x17 =>
 x6 x7 x8 x9 x17 h1)) (
 k (.b true) h1)) [x0, x1, x5, (.i .i64 9223372036854775808)] h0)) args h
noncomputable def s175 : FS := S175
noncomputable def a175 : Ann := (.s .o (.s (.s .o (.i (.s .o .o) .o)) (.s (.s .o (.b (.l [0, 1, 12, 13] (.s .o (.s (.i .o .o) (.s (.b (.s .o (.s (.g [0, 1, 2, 3, 4, 5, 6, 7, 8]) (.i (.s .o .o) .o)))) .o)))))) (.s .o .o))))
set_option maxRecDepth 100000 in
noncomputable def S145 (s175 : FS) : FS := fun args h k => capp 2 (fun x0 x1 h0 =>
 boxK 96 5 x1 h0 fun x2 h1 =>
 faK 1 x2 fun x3 =>
 faK 0 x3 fun x4 =>
 ld1 x4 h1 fun x5 =>
 ncK x0 fun x6 =>
 faK 1 x6 fun x7 =>
 ld1 x7 h1 fun x8 =>
 ikY .neq x5 x8 fun x9 =>
 cdK x9 (
 k (.b true) h1) (
 faK 1 x2 fun x10 =>
 faK 1 x10 fun x11 =>
 ld1 x11 h1 fun x12 =>
 ikY .geq x12 (.i .i64 9223372036854775809) fun x13 =>
 gdK x13 true (fun k => faK 1 x2 fun y => k y h1) (fun x14 h2 =>
 gdK x13 true (fun k => faK 1 x14 fun y => k y h2) (fun x15 h3 =>
 gdK x13 true (fun k => ld1 x15 h3 fun y => k y h3) (fun x16 h4 =>
 gdK x13 true (fun k => k x0 h4) (fun x17 h5 =>
 gdK x13 true (fun k => ncK x17 fun y => k y h5) (fun x18 h6 =>
 gdK x13 true (fun k => faK 2 x18 fun y => k y h6) (fun x19 h7 =>
 gdK x13 true (fun k => ld1 x19 h7 fun y => k y h7) (fun x20 h8 =>
 gdK x13 true (fun k => lnLY x20 fun y => k y h8) (fun x21 h9 =>
 gdK x13 true (fun k => ikY .leq x16 x21 fun y => k y h9) (fun x22 h10 =>
 pkK x13 x22 (.b false) fun x23 =>
 gdK x23 true (fun k => faK 1 x2 fun y => k y h10) (fun x24 h11 =>
 gdK x23 true (fun k => faK 2 x24 fun y => k y h11) (fun x25 h12 =>
 gdK x23 true (fun k => ld1 x25 h12 fun y => k y h12) (fun x26 h13 =>
 gdK x23 true (fun k => k x0 h13) (fun x27 h14 =>
 gdK x23 true (fun k => ncK x27 fun y => k y h14) (fun x28 h15 =>
 gdK x23 true (fun k => faK 2 x28 fun y => k y h15) (fun x29 h16 =>
 gdK x23 true (fun k => ld1 x29 h16 fun y => k y h16) (fun x30 h17 =>
 gdK x23 true (fun k => faK 1 x2 fun y => k y h17) (fun x31 h18 =>
 gdK x23 true (fun k => faK 1 x31 fun y => k y h18) (fun x32 h19 =>
 gdK x23 true (fun k => ld1 x32 h19 fun y => k y h19) (fun x33 h20 =>
 gdK x23 true (fun k => ikY .sub x33 (.i .i64 9223372036854775809) fun y => k y h20) (fun x34 h21 =>
 gdK x23 true (fun k => iaK 3 x30 x34 fun y => k y h21) (fun x35 h22 =>
 gdK x23 true (fun k => faK 2 x35 fun y => k y h22) (fun x36 h23 =>
 gdK x23 true (fun k => ld1 x36 h23 fun y => k y h23) (fun x37 h24 =>
 gdK x23 true (fun k => s175 [x26, x37] h24 k) (fun x38 h25 =>
 pkK x23 x38 (.b false) fun x39 =>
 k x39 h25) h24) h23) h22) h21) h20) h19) h18) h17) h16) h15) h14) h13) h12) h11) h10) h9) h8) h7) h6) h5) h4) h3) h2) h1)) args h
noncomputable def s145 : FS := S145 s175
noncomputable def a145 : Ann := (.s .o (.s (.s (.g [0, 1, 2, 3, 4, 5, 6, 7]) (.i (.s .o .o) .o)) (.s (.g [0, 1, 2, 3, 4, 5, 6, 7, 8, 9, 10, 11, 12, 13, 14, 15, 16, 17, 18, 19, 20, 21, 22, 23, 24, 25, 26, 27, 28, 29, 30, 31, 32]) .o)))
set_option maxRecDepth 100000 in
noncomputable def S206 (s145 : FS) : FS := fun args h k => capp 2 (fun x0 x1 h0 =>
 boxK 96 5 x0 h0 fun x2 h1 =>
 ld1 x1 h1 fun x3 =>
 ldN 5 x2 h1 fun x4 =>
 s145 [x3, x4] h1 fun x5 h2 =>
 notK x5 fun x6 =>
 k x6 h2) args h
noncomputable def s206 : FS := S206 s145
noncomputable def a206 : Ann := (.s .o (.s .o .o))
set_option maxRecDepth 100000 in
noncomputable def S205 (s206 : FS) : FS := fun args h k => capp 2 (fun x0 x1 h0 =>
 lnLY x0 fun x2 =>
 capp 4 (lp 4 fun (x3 : CT 4) x4 x5 x6 x7 h1 =>
 ikY .lss x7 x6 fun x8 =>
 cdK x8 (
 iaK 5 x4 x7 fun x9 =>
 ldN 5 x9 h1 fun x10 =>
 clK [(206, s206)] x5 [x10] h1 fun x11 h2 =>
 cdK x11 (
 k x7 h2) (
 ikY .add x7 (.i .i64 9223372036854775809) fun x12 =>
 x3 x4 x5 x6 x12 h2)) (
 k (.i .i64 9223372036854775807) h1)) [x0, x1, x2, (.i .i64 9223372036854775808)] h0) args h
noncomputable def s205 : FS := S205 s206
noncomputable def a205 : Ann := (.s .o (.s (.s .o (.b (.l [0, 1, 7, 8] (.s .o (.s (.i .o .o) (.s (.b (.s .o (.s .o (.i (.s .o .o) .o)))) .o)))))) (.s .o .o)))
noncomputable def s231 : FS := sx
set_option maxRecDepth 100000 in
noncomputable def S121 (s98 : FS) : FS := fun args h k => capp 1 (fun x0 h0 =>
 boxK 96 5 x0 h0 fun x1 h1 =>
 boxK 96 5 z96 h1 fun x2 h2 =>
 faK 1 x1 fun x3 =>
 faK 2 x3 fun x4 =>
 ld1 x4 h2 fun x5 =>
 s98 [x5] h2 fun x6 h3 =>
 faK 1 x1 fun x7 =>
 faK 2 x7 fun x8 =>
 stL 1 x8 x6 h3 fun h4 =>
 ldN 5 x1 h4 fun x9 =>
 stL 5 x2 x9 h4 fun h5 =>
 ldN 5 x2 h5 fun x10 => k x10 h5) args h
noncomputable def s121 : FS := S121 s98
noncomputable def a121 : Ann := (.s .o (.s .o (.s .o .o)))
set_option maxRecDepth 100000 in
noncomputable def S176 (s160 s231 s35 s87 s121 : FS) : FS := fun args h k => capp 2 (fun x0 x1 h0 =>
 boxK 96 5 x1 h0 fun x2 h1 =>
 faK 0 x2 fun x3 =>
 ld1 x3 h1 fun x4 =>
 s160 [x0] h1 fun x5 h2 =>
 ikY .gtr x4 x5 fun x6 =>
 ld1 x3 h2 fun x7 => ifT (avEq x7 x4) <|
 cdK x6 (
 k (.t [(.b false), (.i .i64 9223372036854775810)]) h2) (
 faK 0 x2 fun x8 =>
 ld1 x8 h2 fun x9 =>
 s160 [x0] h2 fun x10 h3 =>
 ikY .lss x9 x10 fun x11 =>
 ld1 x8 h3 fun x12 => ifT (avEq x12 x9) <|
 cdK x11 (
 faK 0 x2 fun x13 =>
 ld1 x13 h3 fun x14 =>
 ikY .lss x14 (.i .i64 9223372036854775809) fun x15 =>
 gdK x15 false (fun k => ldN 5 x2 h3 fun y => k y h3) (fun x16 h4 =>
 gdK x15 false (fun k => k x0 h4) (fun x17 h5 =>
 gdK x15 false (fun k => ncK x17 fun y => k y h5) (fun x18 h6 =>
 gdK x15 false (fun k => faK 1 x18 fun y => k y h6) (fun x19 h7 =>
 gdK x15 false (fun k => ld1 x19 h7 fun y => k y h7) (fun x20 h8 =>
 gdK x15 false (fun k => faK 0 x2 fun y => k y h8) (fun x21 h9 =>
 gdK x15 false (fun k => ld1 x21 h9 fun y => k y h9) (fun x22 h10 =>
 gdK x15 false (fun k => ikY .sub x22 (.i .i64 9223372036854775809) fun y => k y h10) (fun x23 h11 =>
 gdK x15 false (fun k => iaK 5 x20 x23 fun y => k y h11) (fun x24 h12 =>
 gdK x15 false (fun k => ldN 5 x24 h12 fun y => k y h12) (fun x25 h13 =>
 gdK x15 false (fun k => s231 [x16, x25] h13 k) (fun x26 h14 =>
 gdK x15 false (fun k => notK x26 fun y => k y h14) (fun x27 h15 =>
 pkK x15 (.b true) x27 fun x28 =>
 cdK x28 (
 k (.t [(.b false), (.i .i64 9223372036854775809)]) h15) (
 k (.t [(.b false), (.i .i64 9223372036854775808)]) h15)) h14) h13) h12) h11) h10) h9) h8) h7) h6) h5) h4) h3) (
 ncK x0 fun x29 =>
 faK 0 x29 fun x30 =>
 ld1 x30 h3 fun x31 =>
 s35 [x31] h3 fun x32 h16 =>
 faK 1 x2 fun x33 =>
 ldN 3 x33 h16 fun x34 =>
 s87 [x32, x34] h16 fun x35 h17 =>
 exK x35 0 fun x36 =>
 exK x35 1 fun x37 =>
 boxK 96 5 z96 h17 fun x38 h18 =>
 stL 5 x38 x36 h18 fun h19 =>
 notK x37 fun x39 =>
 gdK x39 false (fun k => faK 4 x38 fun y => k y h19) (fun x40 h20 =>
 gdK x39 false (fun k => ld1 x40 h20 fun y => k y h20) (fun x41 h21 =>
 gdK x39 false (fun k => faK 4 x2 fun y => k y h21) (fun x42 h22 =>
 gdK x39 false (fun k => ld1 x42 h22 fun y => k y h22) (fun x43 h23 =>
 gdK x39 false (fun k => ikY .neq x41 x43 fun y => k y h23) (fun x44 h24 =>
 pkK x39 (.b true) x44 fun x45 =>
 cdK x45 (
 k (.t [(.b false), (.i .i64 9223372036854775809)]) h24) (
 ncK x0 fun x46 =>
 faK 0 x46 fun x47 =>
 stL 1 x47 x32 h24 fun h25 =>
 ncK x0 fun x48 =>
 faK 1 x48 fun x49 =>
 ld1 x49 h25 fun x50 =>
 ldN 5 x2 h25 fun x51 =>
 s121 [x51] h25 fun x52 h26 =>
 bsK 96 5 1 5 [x52] h26 fun x53 h27 =>
 apY 96 5 x50 x53 h27 fun x54 h28 =>
 ncK x0 fun x55 =>
 faK 1 x55 fun x56 =>
 stL 1 x56 x54 h28 fun h29 =>
 ld1 x49 h26 fun x57 => ifT (avEq x57 x50) <|
 ld1 x49 h27 fun x58 => ifT (avEq x58 x50) <|
 k (.t [(.b true), (.i .i64 9223372036854775808)]) h29)) h23) h22) h21) h20) h19))) args h
noncomputable def s176 : FS := S176 s160 s231 s35 s87 s121
noncomputable def a176 : Ann := (.s .o (.s (.b (.s (.g [0, 1, 2, 3, 4, 5]) (.i (.s .o .o) (.s (.g [0, 1, 2, 3, 4, 5]) (.i (.s (.s (.g [0, 1, 2, 3, 4, 5, 6, 7, 8, 9, 10, 11, 12, 13, 14, 15, 16]) (.i (.s .o .o) .o)) (.s .o .o)) .o))))) (.s .o (.s .o (.s (.s .o (.i (.s .o .o) .o)) (.s .o (.s (.g [0, 1, 2, 3, 4, 5, 6, 7, 8, 9, 10, 11]) (.s .o .o))))))))
set_option maxRecDepth 100000 in
noncomputable def S146 (s176 : FS) : FS := fun args h k => capp 2 (fun x0 x1 h0 =>
 npK .eql x0 .np fun x2 =>
 cdK x2 (
 k (.t [(.i .i64 9223372036854775808), (.i .i64 9223372036854775820)]) h0) (
 lnLY x1 fun x3 =>
 capp 5 (lp 5 fun (x4 : CT 5) x5 x6 x7 x8 x9 h1 =>
 ikY .lss x9 x8 fun x10 =>
 cdK x10 (
 iaK 5 x7 x9 fun x11 =>
 ldN 5 x11 h1 fun x12 =>
 boxK 96 5 z96 h1 fun x13 h2 =>
 stL 5 x13 x12 h2 fun h3 =>
 ldN 5 x13 h3 fun x14 =>
 s176 [x5, x14] h3 fun x15 h4 =>
 exK x15 0 fun x16 =>
 exK x15 1 fun x17 =>
 ikY .neq x17 (.i .i64 9223372036854775808) fun x18 =>
 cdK x18 (
 k (.t [x6, x17]) h4) (
 jn 5 (fun x19 : CT 5 =>
 cdK x16 (
 ikY .add x6 (.i .i64 9223372036854775809) fun x20 =>
 x19 x5 x20 x7 x8 x9 h4) (
 x19 x5 x6 x7 x8 x9 h4)) fun x21 x22 x23 x24 x25 h5 =>
 ikY .add x25 (.i .i64 9223372036854775809) fun x26 =>
 x4 x21 x22 x23 x24 x26 h5)) (
 k (.t [x6, (.i .i64 9223372036854775808)]) h1)) [x0, (.i .i64 9223372036854775808), x1, x3, (.i .i64 9223372036854775808)] h0)) args h
noncomputable def s146 : FS := S146 s176
noncomputable def a146 : Ann := (.s .o (.s (.s .o (.i (.s .o .o) .o)) (.s .o (.s (.s .o (.b (.l [0, 6, 13, 14, 15] (.s .o (.s (.i .o .o) (.s (.b (.s .o (.s .o (.s (.s .o (.i (.s .o .o) .o)) (.s .o (.j [0, 6, 13, 14, 15] .o .o)))))) .o)))))) (.s .o .o)))))
set_option maxRecDepth 100000 in
noncomputable def S69 (s121 : FS) : FS := fun args h k => capp 1 (fun x0 h0 =>
 npK .eql x0 .np fun x1 =>
 cdK x1 (
 k .ns h0) (
 ncK x0 fun x2 =>
 faK 1 x2 fun x3 =>
 ld1 x3 h0 fun x4 =>
 lnLY x4 fun x5 =>
 capp 4 (lp 4 fun (x6 : CT 4) x7 x8 x9 x10 h1 =>
 ikY .lss x10 x9 fun x11 =>
 cdK x11 (
 iaK 5 x8 x10 fun x12 =>
 ldN 5 x12 h1 fun x13 =>
 boxK 96 5 z96 h1 fun x14 h2 =>
 stL 5 x14 x13 h2 fun h3 =>
 ldN 5 x14 h3 fun x15 =>
 s121 [x15] h3 fun x16 h4 =>
 bsK 96 5 1 5 [x16] h4 fun x17 h5 =>
 apY 96 5 x7 x17 h5 fun x18 h6 =>
 ikY .add x10 (.i .i64 9223372036854775809) fun x19 =>
 x6 x18 x8 x9 x19 h6) (
 k x7 h1)) [.ns, x4, x5, (.i .i64 9223372036854775808)] h0)) args h
noncomputable def s69 : FS := S69 s121
noncomputable def a69 : Ann := (.s .o (.s (.s .o (.i (.s .o .o) .o)) (.s .o (.s (.s .o (.b (.l [3, 11, 12, 13] (.s .o (.s (.i .o .o) (.s (.b (.s .o .o)) .o)))))) (.s .o .o)))))
set_option maxRecDepth 100000 in
noncomputable def S207 (s81 s56 s59 : FS) : FS := fun args h k => capp 1 (fun x0 h0 =>
 boxK 96 5 x0 h0 fun x1 h1 =>
 faK 0 x1 fun x2 =>
 ld1 x2 h1 fun x3 =>
 faK 4 x1 fun x4 =>
 ld1 x4 h1 fun x5 =>
 s81 [.ns, x3] h1 fun x6 h2 =>
 s81 [x6, x5] h2 fun x7 h3 =>
 ld1 x4 h2 fun x8 => ifT (avEq x8 x5) <|
 faK 1 x1 fun x9 =>
 ldN 3 x9 h3 fun x10 =>
 s56 [x10] h3 fun x11 h4 =>
 apY 5 1 x7 x11 h4 fun x12 h5 =>
 s59 [(.i .i64 9223372036854775810), x12] h5 fun x13 h6 =>
 k x13 h6) args h
noncomputable def s207 : FS := S207 s81 s56 s59
noncomputable def a207 : Ann := (.s .o (.s (.g [0, 1, 3, 4, 2, 5, 6]) (.s .o .o)))
set_option maxRecDepth 100000 in
noncomputable def S161 (s204 s205 s146 s69 s160 s207 s58 : FS) : FS := fun args h k => capp 2 (fun x0 x1 h0 =>
 boxK 65 1 x0 h0 fun x2 h1 =>
 ld1 x2 h1 fun x3 =>
 npK .eql x3 .np fun x4 =>
 cdK x4 (
 k (.t [(.i .i64 9223372036854775808), (.i .i64 9223372036854775820)]) h1) (
 ld1 x2 h1 fun x5 =>
 ncK x5 fun x6 =>
 faK 3 x6 fun x7 =>
 ld1 x7 h1 fun x8 =>
 s204 [x8] h1 fun x9 h2 =>
 s205 [x1, (.f 206 [] [x2])] h2 fun x10 h3 =>
 ikY .lss x10 (.i .i64 9223372036854775808) fun x11 =>
 jn 4 (fun x12 : CT 4 =>
 cdK x11 (
 lnLY x1 fun x13 =>
 x12 x1 x2 x9 x13 h3) (
 x12 x1 x2 x9 x10 h3)) fun x14 x15 x16 x17 h4 =>
 sllK 5 none (some x17) none x14 fun x18 =>
 s146 [x16, x18] h4 fun x19 h5 =>
 exK x19 0 fun x20 =>
 exK x19 1 fun x21 =>
 ikY .eql x21 (.i .i64 9223372036854775808) fun x22 =>
 gdK x22 true (fun k => k x17 h5) (fun x23 h6 =>
 gdK x22 true (fun k => k x14 h6) (fun x24 h7 =>
 gdK x22 true (fun k => lnLY x24 fun y => k y h7) (fun x25 h8 =>
 gdK x22 true (fun k => ikY .lss x23 x25 fun y => k y h8) (fun x26 h9 =>
 pkK x22 x26 (.b false) fun x27 =>
 jn 4 (fun x28 : CT 4 =>
 cdK x27 (
 x28 x15 x16 x20 (.i .i64 9223372036854775809) h9) (
 x28 x15 x16 x20 x21 h9)) fun x29 x30 x31 x32 h10 =>
 ikY .eql x31 (.i .i64 9223372036854775808) fun x33 =>
 cdK x33 (
 k (.t [(.i .i64 9223372036854775808), x32]) h10) (
 ld1 x29 h10 fun x34 =>
 ncK x34 fun x35 =>
 faK 3 x35 fun x36 =>
 ld1 x36 h10 fun x37 =>
 s69 [x30] h10 fun x38 h11 =>
 s160 [x37] h11 fun x39 h12 =>
 ikY .sub x39 (.i .i64 9223372036854775809) fun x40 =>
 sllK 5 (some x40) none none x38 fun x41 =>
 lnLY x41 fun x42 =>
 ld1 x29 h11 fun x43 => ifT (avEq x43 x34) <|
 ld1 x36 h11 fun x44 => ifT (avEq x44 x37) <|
 capp 8 (lp 8 fun (x45 : CT 8) x46 x47 x48 x49 x50 x51 x52 x53 h13 =>
 ikY .lss x53 x52 fun x54 =>
 cdK x54 (
 iaK 5 x51 x53 fun x55 =>
 ldN 5 x55 h13 fun x56 =>
 boxK 96 5 z96 h13 fun x57 h14 =>
 stL 5 x57 x56 h14 fun h15 =>
 ldN 5 x57 h15 fun x58 =>
 s207 [x58] h15 fun x59 h16 =>
 apY 5 1 x50 x59 h16 fun x60 h17 =>
 ikY .add x53 (.i .i64 9223372036854775809) fun x61 =>
 x45 x46 x47 x48 x49 x60 x51 x52 x61 h17) (
 ld1 x46 h13 fun x62 =>
 s58 [x62, x50] h13 fun x63 h18 =>
 ikY .neq x63 (.i .i64 9223372036854775808) fun x64 =>
 cdK x64 (
 k (.t [(.i .i64 9223372036854775808), x63]) h18) (
 ld1 x46 h18 fun x65 =>
 ncK x65 fun x66 =>
 faK 3 x66 fun x67 =>
 stL 1 x67 x47 h18 fun h19 =>
 k (.t [x48, x49]) h19))) [x29, x30, x31, x32, .ns, x41, x42, (.i .i64 9223372036854775808)] h12)) h8) h7) h6) h5)) args h
noncomputable def s161 : FS := S161 s204 s205 s146 s69 s160 s207 s58
noncomputable def a161 : Ann := (.s .o (.s (.s .o (.i (.s .o .o) .o)) (.s .o (.s .o (.s (.s .o (.j [1, 2, 6, 7] .o .o)) (.s .o (.s (.s .o (.j [2, 6, 8, 9] .o .o)) (.s (.s .o (.i (.s .o .o) .o)) (.s .o (.s (.s (.g [0, 2, 3, 4, 5, 10, 1, 6, 7, 8, 9]) (.b (.l [2, 6, 8, 9, 10, 55, 56, 57] (.s .o (.s (.i .o .o) (.s (.b (.s .o .o)) .o)))))) (.s (.s .o (.s .o (.i (.s .o .o) .o))) (.s .o (.s .o .o)))))))))))))
set_option maxRecDepth 100000 in
noncomputable def S119 (s161 : FS) : FS := fun args h k => capp 2 (fun x0 x1 h0 =>
 npK .eql x0 .np fun x2 =>
 cdK x2 (
 k (.t [(.i .i64 9223372036854775808), (.i .i64 9223372036854775820)]) h0) (
 ncK x0 fun x3 =>
 faK 0 x3 fun x4 =>
 ld1 x4 h0 fun x5 =>
 s161 [x5, x1] h0 fun x6 h1 =>
 exK x6 0 fun x7 =>
 exK x6 1 fun x8 =>
 k (.t [x7, x8]) h1)) args h
noncomputable def s119 : FS := S119 s161
noncomputable def a119 : Ann := (.s .o (.s (.s .o (.i (.s .o .o) .o)) (.s .o .o)))
set_option maxRecDepth 100000 in
noncomputable def S65 (s11 s61 s118 s117 s119 : FS) : FS := fun args h k => capp 3 (fun x0 x1 x2 h0 =>
 s11 [x0, x1] h0 fun x3 h1 =>
 s61 [x0, x2] h1 fun x4 h2 =>
 npK .eql x3 .np fun x5 =>
 gdK x5 false (fun k => k x4 h2) (fun x6 h3 =>
 gdK x5 false (fun k => npK .eql x6 .np fun y => k y h3) (fun x7 h4 =>
 pkK x5 (.b true) x7 fun x8 =>
 cdK x8 (
 k (.i .i64 9223372036854775820) h4) (
 s118 [x3] h4 fun x9 h5 =>
 s117 [x4, x9] h5 fun x10 h6 =>
 exK x10 0 fun x11 =>
 exK x10 1 fun x12 =>
 ikY .neq x12 (.i .i64 9223372036854775808) fun x13 =>
 cdK x13 (
 k x12 h6) (
 s119 [x3, x11] h6 fun x14 h7 =>
 exK x14 0 fun x15 =>
 exK x14 1 fun x16 =>
 k x16 h7))) h3) h2) args h
noncomputable def s65 : FS := S65 s11 s61 s118 s117 s119
noncomputable def a65 : Ann := (.s .o (.s .o (.s (.s .o (.i (.s .o .o) .o)) (.s .o (.s (.s .o (.i (.s .o .o) .o)) (.s .o (.s .o .o)))))))
set_option maxRecDepth 100000 in
noncomputable def S63 (s11 s61 s64 s65 : FS) : FS := fun args h k => capp 2 (fun x0 x1 h0 =>
 capp 3 (lp 3 fun (x2 : CT 3) x3 x4 x5 h1 =>
 ikY .leq x5 (.i .i64 9223372036854775813) fun x6 =>
 cdK x6 (
 capp 4 (lp 4 fun (x7 : CT 4) x8 x9 x10 x11 h2 =>
 ikY .leq x11 (.i .i64 9223372036854775815) fun x12 =>
 cdK x12 (
 s11 [x8, x10] h2 fun x13 h3 =>
 npK .neq x13 .np fun x14 =>
 gdK x14 true (fun k => k x8 h3) (fun x15 h4 =>
 gdK x14 true (fun k => k x11 h4) (fun x16 h5 =>
 gdK x14 true (fun k => s61 [x15, x16] h5 k) (fun x17 h6 =>
 gdK x14 true (fun k => npK .neq x17 .np fun y => k y h6) (fun x18 h7 =>
 pkK x14 x18 (.b false) fun x19 =>
 jn 4 (fun x20 : CT 4 =>
 cdK x19 (
 clK [(11, s11), (61, s61), (64, s64), (65, s65)] x9 [x10, x11] h7 fun x21 h8 =>
 x20 x8 x9 x10 x11 h8) (
 x20 x8 x9 x10 x11 h7)) fun x22 x23 x24 x25 h9 =>
 ikY .add x25 (.i .i64 9223372036854775809) fun x26 =>
 x7 x22 x23 x24 x26 h9) h6) h5) h4) h3) (
 ikY .add x10 (.i .i64 9223372036854775809) fun x27 =>
 x2 x8 x9 x27 h2)) [x3, x4, x5, (.i .i64 9223372036854775809)] h1) (
 k (.t []) h1)) [x0, x1, (.i .i64 9223372036854775809)] h0) args h
noncomputable def s63 : FS := S63 s11 s61 s64 s65
noncomputable def a63 : Ann := (.s .o (.b (.l [0, 1, 4] (.s (.s .o (.i .o .o)) (.s (.b (.s .o (.b (.l [0, 1, 4, 5] (.s (.s .o (.i .o .o)) (.s (.b (.s .o (.j [0, 1, 4, 5] .o .o))) .o)))))) .o)))))
set_option maxRecDepth 100000 in
noncomputable def S66 (s11 s120 s118 : FS) : FS := fun args h k => capp 1 (fun x0 h0 =>
 capp 3 (lp 3 fun (x1 : CT 3) x2 x3 x4 h1 =>
 ikY .leq x4 (.i .i64 9223372036854775813) fun x5 =>
 cdK x5 (
 jn 3 (fun x6 : CT 3 =>
 s11 [x2, x4] h1 fun x7 h2 =>
 npK .eql x7 .np fun x8 =>
 cdK x8 (
 x6 x2 x3 x4 h2) (
 s120 [x7] h2 fun x9 h3 =>
 lnLY x9 fun x10 =>
 ikY .gtr x10 (.i .i64 9223372036854775808) fun x11 =>
 gdK x11 false (fun k => k x3 h3) (fun x12 h4 =>
 gdK x11 false (fun k => ikY .gtr x12 (.i .i64 9223372036854775808) fun y => k y h4) (fun x13 h5 =>
 gdK x11 false (fun k => k x13 h5) (fun x14 h6 =>
 gdK x14 true (fun k => k x7 h6) (fun x15 h7 =>
 gdK x14 true (fun k => s118 [x15] h7 k) (fun x16 h8 =>
 gdK x14 true (fun k => k x3 h8) (fun x17 h9 =>
 gdK x14 true (fun k => ikY .neq x16 x17 fun y => k y h9) (fun x18 h10 =>
 gdK x11 false (fun k => pkK x14 x18 (.b false) fun y => k y h10) (fun x19 h11 =>
 pkK x11 (.b true) x19 fun x20 =>
 cdK x20 (
 k (.b false) h11) (
 s118 [x7] h11 fun x21 h12 =>
 x6 x2 x21 x4 h12)) h10) h9) h8) h7) h6) h5) h4) h3)) fun x22 x23 x24 h13 =>
 ikY .add x24 (.i .i64 9223372036854775809) fun x25 =>
 x1 x22 x23 x25 h13) (
 k (.b true) h1)) [x0, (.i .i64 9223372036854775808), (.i .i64 9223372036854775809)] h0) args h
noncomputable def s66 : FS := S66 s11 s120 s118
noncomputable def a66 : Ann := (.s .o (.s .o (.s (.s .o (.b (.l [0, 3, 4] (.s (.s .o (.i .o .o)) (.s (.k [0, 3, 4] (.s .o (.s (.s .o (.i .o .o)) (.s (.s .o (.i (.s .o .o) .o)) .o)))) .o))))) (.s .o .o))))
set_option maxRecDepth 100000 in
noncomputable def S34 (s60 s61 s62 s39 s63 s66 : FS) : FS := fun args h k => capp 1 (fun x0 h0 =>
 npK .eql x0 .np fun x1 =>
 cdK x1 (
 k (.b false) h0) (
 s60 [x0] h0 fun x2 h1 =>
 capp 2 (lp 2 fun (x3 : CT 2) x4 x5 h2 =>
 ikY .leq x5 (.i .i64 9223372036854775815) fun x6 =>
 cdK x6 (
 s61 [x4, x5] h2 fun x7 h3 =>
 npK .neq x7 .np fun x8 =>
 jn 2 (fun x9 : CT 2 =>
 cdK x8 (
 s62 [x4, x5] h3 fun x10 h4 =>
 s39 [x4, (.i .i64 9223372036854780808)] h4 fun x11 h5 =>
 x9 x4 x5 h5) (
 x9 x4 x5 h3)) fun x12 x13 h6 =>
 ikY .add x13 (.i .i64 9223372036854775809) fun x14 =>
 x3 x12 x14 h6) (
 capp 2 (lp 2 fun (x15 : CT 2) x16 x17 h7 =>
 ikY .lss x17 (.i .i64 9223372036854775848) fun x18 =>
 cdK x18 (
 s63 [x16, (.f 64 [x16] [])] h7 fun x19 h8 =>
 s39 [x16, (.i .i64 9223372036854780808)] h8 fun x20 h9 =>
 s63 [x16, (.f 65 [x16] [])] h9 fun x21 h10 =>
 s60 [x16] h10 fun x22 h11 =>
 ikY .add x17 (.i .i64 9223372036854775809) fun x23 =>
 x15 x16 x23 h11) (
 s66 [x16] h7 fun x24 h12 =>
 k x24 h12)) [x4, (.i .i64 9223372036854775808)] h2)) [x0, (.i .i64 9223372036854775809)] h1)) args h
noncomputable def s34 : FS := S34 s60 s61 s62 s39 s63 s66
noncomputable def a34 : Ann := (.s .o (.s (.s .o (.i (.s .o .o) .o)) (.s .o (.s (.s .o (.b (.l [0, 3] (.s (.s .o (.i .o .o)) (.s (.b (.s .o (.j [0, 3] (.s .o .o) .o))) .o))))) (.s (.s .o (.b (.l [0, 21] (.s .o (.s (.i .o .o) (.s (.b (.s .o (.s .o (.s .o .o)))) .o)))))) (.s .o .o))))))
set_option maxRecDepth 100000 in
noncomputable def S21 (s34 : FS) : FS := fun args h k => capp 2 (fun x0 x1 h0 =>
 mmL mxK [(.i .i64 9223372036854775808)] x1 fun x2 =>
 mmL mnK [(.i .i64 9223372036854775848)] x2 fun x3 =>
 capp 3 (lp 3 fun (x4 : CT 3) x5 x6 x7 h1 =>
 ikY .lss x7 x6 fun x8 =>
 cdK x8 (
 s34 [x5] h1 fun x9 h2 =>
 cdK x9 (
 k (.b true) h2) (
 ikY .add x7 (.i .i64 9223372036854775809) fun x10 =>
 x4 x5 x6 x10 h2)) (
 k (.b false) h1)) [x0, x3, (.i .i64 9223372036854775808)] h0) args h
noncomputable def s21 : FS := S21 s34
noncomputable def a21 : Ann := (.s .o (.s (.s .o (.b (.l [0, 7, 8] (.s .o (.s (.i .o .o) (.s (.b (.s .o (.i (.s .o .o) .o))) .o)))))) (.s .o .o)))
set_option maxRecDepth 100000 in
noncomputable def S38 (s22 s69 : FS) : FS := fun args h k => capp 1 (fun x0 h0 =>
 npK .eql x0 .np fun x1 =>
 cdK x1 (
 k .ns h0) (
 ncK x0 fun x2 =>
 faK 0 x2 fun x3 =>
 ld1 x3 h0 fun x4 =>
 s22 [x4] h0 fun x5 h1 =>
 s69 [x5] h1 fun x6 h2 =>
 k x6 h2)) args h
noncomputable def s38 : FS := S38 s22 s69
noncomputable def a38 : Ann := (.s .o (.s (.s .o (.i (.s .o .o) .o)) (.s .o .o)))
set_option maxRecDepth 100000 in
noncomputable def S27 (s18 s11 s19 s21 s38 s39 s40 s41 : FS) : FS := fun args h k => capp 0 (fun h0 =>
 s18 [(.i .i64 9223372036854775811), (.i .i64 9223372036854775809)] h0 fun x0 h1 =>
 npK .eql x0 .np fun x1 =>
 gdK x1 false (fun k => k x0 h1) (fun x2 h2 =>
 gdK x1 false (fun k => s11 [x2, (.i .i64 9223372036854775809)] h2 k) (fun x3 h3 =>
 gdK x1 false (fun k => npK .eql x3 .np fun y => k y h3) (fun x4 h4 =>
 pkK x1 (.b true) x4 fun x5 =>
 cdK x5 (
 k (.b false) h4) (
 s11 [x0, (.i .i64 9223372036854775809)] h4 fun x6 h5 =>
 blK [(0, 1, (.i .i64 9223372036854775812)), (1, 1, (.s 1 [110])), (8, 1, (.i .i64 9223372036854775809))] Z31 fun x7 =>
 bsK 31 9 1 9 [x7] h5 fun x8 h6 =>
 s19 [x6, x8] h6 fun x9 h7 =>
 s21 [x0, (.i .i64 9223372036854775820)] h7 fun x10 h8 =>
 gdK x10 true (fun k => k x0 h8) (fun x11 h9 =>
 gdK x10 true (fun k => s11 [x11, (.i .i64 9223372036854775809)] h9 k) (fun x12 h10 =>
 gdK x10 true (fun k => s38 [x12] h10 k) (fun x13 h11 =>
 gdK x10 true (fun k => lnLY x13 fun y => k y h11) (fun x14 h12 =>
 gdK x10 true (fun k => ikY .eql x14 (.i .i64 9223372036854775809) fun y => k y h12) (fun x15 h13 =>
 pkK x10 x15 (.b false) fun x16 =>
 gdK x16 true (fun k => k x0 h13) (fun x17 h14 =>
 gdK x16 true (fun k => s39 [x17, (.i .i64 9223372036854775818)] h14 k) (fun x18 h15 =>
 pkK x16 x18 (.b false) fun x19 =>
 gdK x19 true (fun k => k x0 h15) (fun x20 h16 =>
 gdK x19 true (fun k => s40 [x20] h16 k) (fun x21 h17 =>
 gdK x19 true (fun k => s41 [x21] h17 k) (fun x22 h18 =>
 gdK x19 true (fun k => ikY .eql x22 (.i .i64 9223372036854775808) fun y => k y h18) (fun x23 h19 =>
 pkK x19 x23 (.b false) fun x24 =>
 k x24 h19) h18) h17) h16) h15) h14) h13) h12) h11) h10) h9) h8)) h3) h2) h1) args h
noncomputable def s27 : FS := S27 s18 s11 s19 s21 s38 s39 s40 s41
noncomputable def a27 : Ann := (.s .o (.s .o (.s (.s .o (.i (.s .o .o) .o)) (.s .o (.s .o .o)))))
set_option maxRecDepth 100000 in
noncomputable def S15 (s27 : FS) : FS := fun args h k => capp 0 (fun h0 =>
 s27 [] h0 fun x0 h1 =>
 k x0 h1) args h
noncomputable def s15 : FS := S15 s27
noncomputable def a15 : Ann := (.s .o (.s .o .o))
set_option maxRecDepth 100000 in
noncomputable def S4 (s15 : FS) : FS := fun args h k => capp 0 (fun h0 =>
 s15 [] h0 fun x0 h1 =>
 k x0 h1) args h
noncomputable def s4 : FS := S4 s15
noncomputable def a4 : Ann := (.s .o (.s .o .o))
noncomputable def s28 : FS := sx
set_option maxRecDepth 100000 in
noncomputable def S17 (s28 : FS) : FS := fun args h k => capp 1 (fun x0 h0 =>
 capp 5 (lp 5 fun (x1 : CT 5) x2 x3 x4 x5 x6 h1 =>
 lnSY x2 fun x7 =>
 ikY .lss x6 x7 fun x8 =>
 cdK x8 (
 slsK (some x6) none none x2 fun x9 =>
 s28 [x9] h1 fun x10 h2 =>
 exK x10 0 fun x11 =>
 exK x10 1 fun x12 =>
 bsK 21 1 1 1 [x11] h2 fun x13 h3 =>
 apY 21 1 x3 x13 h3 fun x14 h4 =>
 bsK 3 1 1 1 [x6] h4 fun x15 h5 =>
 apY 3 1 x4 x15 h5 fun x16 h6 =>
 gdK x5 true (fun k => k x11 h6) (fun x17 h7 =>
 gdK x5 true (fun k => ikY .neq x17 (.i .i32 9223372036854841341) fun y => k y h7) (fun x18 h8 =>
 gdK x5 true (fun k => k x18 h8) (fun x19 h9 =>
 gdK x19 false (fun k => k x12 h9) (fun x20 h10 =>
 gdK x19 false (fun k => ikY .eql x20 (.i .i64 9223372036854775811) fun y => k y h10) (fun x21 h11 =>
 gdK x5 true (fun k => pkK x19 (.b true) x21 fun y => k y h11) (fun x22 h12 =>
 pkK x5 x22 (.b false) fun x23 =>
 ikY .add x6 x12 fun x24 =>
 x1 x2 x14 x16 x23 x24 h12) h11) h10) h9) h8) h7) h6) (
 k (.t [x3, x4, x5]) h1)) [x0, .ns, .ns, (.b true), (.i .i64 9223372036854775808)] h0) args h
noncomputable def o17 : FS := S17 s28
noncomputable def s17 : FS := runesF o17
noncomputable def a17 : Ann := (.s .o (.s .o (.s .o (.s .o (.s (.s .o (.b (.l [0, 5, 6, 7, 8] (.s (.s .o (.i .o .o)) (.b (.s .o (.s .o (.s .o (.s .o .o))))))))) (.s .o .o))))))
set_option maxRecDepth 100000 in
noncomputable def S16 (s17 : FS) : FS := fun args h k => capp 1 (fun x0 h0 =>
 s17 [x0] h0 fun x1 h1 =>
 exK x1 0 fun x2 =>
 exK x1 1 fun x3 =>
 exK x1 2 fun x4 =>
 lnLY x2 fun x5 =>
 ikY .lss x5 (.i .i64 9223372036854775809) fun x6 =>
 gdK x6 false (fun k => k x2 h1) (fun x7 h2 =>
 gdK x6 false (fun k => lnLY x7 fun y => k y h2) (fun x8 h3 =>
 gdK x6 false (fun k => ikY .gtr x8 (.i .i64 9223372036854775848) fun y => k y h3) (fun x9 h4 =>
 pkK x6 (.b true) x9 fun x10 =>
 gdK x10 false (fun k => k x4 h4) (fun x11 h5 =>
 gdK x10 false (fun k => notK x11 fun y => k y h5) (fun x12 h6 =>
 pkK x10 (.b true) x12 fun x13 =>
 cdK x13 (
 k (.b false) h6) (
 capp 2 (lp 2 fun (x14 : CT 2) x15 x16 h7 =>
 lnLY x15 fun x17 =>
 ikY .lss x16 x17 fun x18 =>
 cdK x18 (
 iaK 1 x15 x16 fun x19 =>
 ld1 x19 h7 fun x20 =>
 ikY .lss x20 (.i .i32 9223372036854775840) fun x21 =>
 gdK x21 false (fun k => k x15 h7) (fun x22 h8 =>
 gdK x21 false (fun k => k x16 h8) (fun x23 h9 =>
 gdK x21 false (fun k => iaK 1 x22 x23 fun y => k y h9) (fun x24 h10 =>
 gdK x21 false (fun k => ld1 x24 h10 fun y => k y h10) (fun x25 h11 =>
 gdK x21 false (fun k => ikY .eql x25 (.i .i32 9223372036854775935) fun y => k y h11) (fun x26 h12 =>
 pkK x21 (.b true) x26 fun x27 =>
 cdK x27 (
 k (.b false) h12) (
 ikY .add x16 (.i .i64 9223372036854775809) fun x28 =>
 x14 x15 x28 h12)) h11) h10) h9) h8) h7) (
 k (.b true) h7)) [x2, (.i .i64 9223372036854775808)] h6)) h5) h4) h3) h2) h1) args h
noncomputable def o16 : FS := S16 s17
noncomputable def s16 : FS := keyRF o16
noncomputable def a16 : Ann := (.s .o (.s .o (.s (.s .o (.i (.s .o .o) .o)) (.s (.s .o (.b (.l [3, 6] (.s (.s .o (.i .o .o)) (.s (.b (.s .o (.i (.s .o .o) .o))) .o))))) (.s .o .o)))))
set_option maxRecDepth 100000 in
noncomputable def S5 (s16 : FS) : FS := fun args h k => capp 1 (fun x0 h0 =>
 s16 [x0] h0 fun x1 h1 =>
 k x1 h1) args h
noncomputable def s5 : FS := S5 s16
noncomputable def a5 : Ann := (.s .o (.s .o .o))
set_option maxRecDepth 100000 in
noncomputable def S6 (s17 : FS) : FS := fun args h k => capp 1 (fun x0 h0 =>
 boxK 24 3 x0 h0 fun x1 h1 =>
 faK 0 x1 fun x2 =>
 ld1 x2 h1 fun x3 =>
 ikY .eql x3 (.i .i64 9223372036854775808) fun x4 =>
 cdK x4 (
 faK 1 x1 fun x5 =>
 ld1 x5 h1 fun x6 =>
 ikY .eql x6 (.i .i64 9223372036854775808) fun x7 =>
 gdK x7 true (fun k => faK 2 x1 fun y => k y h1) (fun x8 h2 =>
 gdK x7 true (fun k => ld1 x8 h2 fun y => k y h2) (fun x9 h3 =>
 gdK x7 true (fun k => stY .eql x9 (.s 0 []) fun y => k y h3) (fun x10 h4 =>
 pkK x7 x10 (.b false) fun x11 =>
 k x11 h4) h3) h2) h1) (
 ikY .eql x3 (.i .i64 9223372036854775809) fun x12 =>
 cdK x12 (
 faK 2 x1 fun x13 =>
 ld1 x13 h1 fun x14 =>
 stY .eql x14 (.s 0 []) fun x15 =>
 k x15 h1) (
 ikY .eql x3 (.i .i64 9223372036854775810) fun x16 =>
 cdK x16 (
 faK 2 x1 fun x17 =>
 ld1 x17 h1 fun x18 =>
 s17 [x18] h1 fun x19 h5 =>
 exK x19 0 fun x20 =>
 exK x19 1 fun x21 =>
 exK x19 2 fun x22 =>
 faK 1 x1 fun x23 =>
 ld1 x23 h5 fun x24 =>
 ikY .eql x24 (.i .i64 9223372036854775808) fun x25 =>
 gdK x25 true (fun k => k x22 h5) (fun x26 h6 =>
 pkK x25 x26 (.b false) fun x27 =>
 gdK x27 true (fun k => faK 2 x1 fun y => k y h6) (fun x28 h7 =>
 gdK x27 true (fun k => ld1 x28 h7 fun y => k y h7) (fun x29 h8 =>
 gdK x27 true (fun k => lnSY x29 fun y => k y h8) (fun x30 h9 =>
 gdK x27 true (fun k => ikY .leq x30 (.i .i64 9223372036854776008) fun y => k y h9) (fun x31 h10 =>
 pkK x27 x31 (.b false) fun x32 =>
 k x32 h10) h9) h8) h7) h6) h5) (
 k (.b false) h1)))) args h
noncomputable def s6 : FS := S6 s17
noncomputable def a6 : Ann := (.s .o (.s (.s .o (.b (.s .o (.i (.s .o .o) (.s .o (.i (.s .o .o) (.s .o (.i (.s .o (.s .o .o)) .o)))))))) (.s .o .o)))
def Z38 : List AV := [.np, (.i .i64 9223372036854775808), (.i .i64 9223372036854775808), (.b false)]
def z38 : AV := .a Z38
set_option maxRecDepth 100000 in
noncomputable def S7 (s18 : FS) : FS := fun args h k => capp 2 (fun x0 x1 h0 =>
 s18 [x0, x1] h0 fun x2 h1 =>
 npK .neq x2 .np fun x3 =>
 blK [(0, 1, x2), (1, 1, x0), (2, 1, x1), (3, 1, x3)] Z38 fun x4 =>
 boxK 38 4 x4 h1 fun x5 h2 =>
 k x5 h2) args h
noncomputable def s7 : FS := S7 s18
noncomputable def a7 : Ann := (.s .o (.s .o (.s .o .o)))
set_option maxRecDepth 100000 in
noncomputable def S9 : FS := fun args h k => capp 2 (fun x0 x1 h0 =>
 boxK 31 9 z31 h0 fun x2 h1 =>
 blK [(0, 1, (.i .i64 9223372036854775810)), (2, 1, x1)] Z24 fun x3 =>
 blK [(0, 1, (.i .i64 9223372036854775809)), (1, 1, x0), (2, 3, x3)] Z31 fun x4 =>
 stL 9 x2 x4 h1 fun h2 =>
 ldN 9 x2 h2 fun x5 => k x5 h2) args h
noncomputable def s9 : FS := S9
noncomputable def a9 : Ann := (.s .o (.s .o .o))
set_option maxRecDepth 100000 in
noncomputable def S20 : FS := fun args h k => capp 2 (fun x0 x1 h0 =>
 ncK x0 fun x2 =>
 faK 3 x2 fun x3 =>
 ld1 x3 h0 fun x4 =>
 gdK x4 true (fun k => k x1 h0) (fun x5 h1 =>
 gdK x4 true (fun k => ikY .eql x5 (.i .i64 9223372036854775808) fun y => k y h1) (fun x6 h2 =>
 pkK x4 x6 (.b false) fun x7 =>
 ncK x0 fun x8 =>
 faK 3 x8 fun x9 =>
 stL 1 x9 x7 h2 fun h3 =>
 k (.t []) h3) h1) h0) args h
noncomputable def s20 : FS := S20
noncomputable def a20 : Ann := .o
set_option maxRecDepth 100000 in
noncomputable def S8 (s11 s19 s20 : FS) : FS := fun args h k => capp 3 (fun x0 x1 x2 h0 =>
 ncK x0 fun x3 =>
 faK 0 x3 fun x4 =>
 ld1 x4 h0 fun x5 =>
 s11 [x5, x1] h0 fun x6 h1 =>
 npK .eql x6 .np fun x7 =>
 cdK x7 (
 ncK x0 fun x8 =>
 faK 3 x8 fun x9 =>
 stL 1 x9 (.b false) h1 fun h2 =>
 k (.t []) h2) (
 s19 [x6, x2] h1 fun x10 h3 =>
 exK x10 0 fun x11 =>
 exK x10 1 fun x12 =>
 boxK 51 3 z51 h3 fun x13 h4 =>
 stL 3 x13 x11 h4 fun h5 =>
 s20 [x0, x12] h5 fun x14 h6 =>
 k (.t []) h6)) args h
noncomputable def s8 : FS := S8 s11 s19 s20
noncomputable def a8 : Ann := (.s .o (.s (.s .o (.i (.s .o .o) .o)) (.s .o .o)))
set_option maxRecDepth 100000 in
noncomputable def S10 (s21 : FS) : FS := fun args h k => capp 1 (fun x0 h0 =>
 ncK x0 fun x1 =>
 faK 3 x1 fun x2 =>
 ld1 x2 h0 fun x3 =>
 gdK x3 true (fun k => k x0 h0) (fun x4 h1 =>
 gdK x3 true (fun k => ncK x4 fun y => k y h1) (fun x5 h2 =>
 gdK x3 true (fun k => faK 0 x5 fun y => k y h2) (fun x6 h3 =>
 gdK x3 true (fun k => ld1 x6 h3 fun y => k y h3) (fun x7 h4 =>
 gdK x3 true (fun k => s21 [x7, (.i .i64 9223372036854775820)] h4 k) (fun x8 h5 =>
 pkK x3 x8 (.b false) fun x9 =>
 ncK x0 fun x10 =>
 faK 3 x10 fun x11 =>
 stL 1 x11 x9 h5 fun h6 =>
 k (.t []) h6) h4) h3) h2) h1) h0) args h
noncomputable def s10 : FS := S10 s21
noncomputable def a10 : Ann := .o
set_option maxRecDepth 100000 in
noncomputable def S23 (s35 : FS) : FS := fun args h k => capp 1 (fun x0 h0 =>
 npK .eql x0 .np fun x1 =>
 cdK x1 (
 k .np h0) (
 ncK x0 fun x2 =>
 faK 0 x2 fun x3 =>
 ld1 x3 h0 fun x4 =>
 s35 [x4] h0 fun x5 h1 =>
 k x5 h1)) args h
noncomputable def s23 : FS := S23 s35
noncomputable def a23 : Ann := (.s .o (.s (.s .o (.i (.s .o .o) .o)) (.s .o .o)))
set_option maxRecDepth 100000 in
noncomputable def S24 (s36 : FS) : FS := fun args h k => capp 1 (fun x0 h0 =>
 npK .eql x0 .np fun x1 =>
 cdK x1 (
 k .np h0) (
 ncK x0 fun x2 =>
 faK 1 x2 fun x3 =>
 ld1 x3 h0 fun x4 =>
 s36 [x4] h0 fun x5 h1 =>
 k x5 h1)) args h
noncomputable def s24 : FS := S24 s36
noncomputable def a24 : Ann := (.s .o (.s (.s .o (.i (.s .o .o) .o)) (.s .o .o)))
set_option maxRecDepth 100000 in
noncomputable def S12 (s22 s23 s24 : FS) : FS := fun args h k => capp 1 (fun x0 h0 =>
 npK .eql x0 .np fun x1 =>
 cdK x1 (
 k .np h0) (
 ncK x0 fun x2 =>
 faK 0 x2 fun x3 =>
 ld1 x3 h0 fun x4 =>
 s22 [x4] h0 fun x5 h1 =>
 s23 [x5] h1 fun x6 h2 =>
 s24 [x6] h2 fun x7 h3 =>
 k x7 h3)) args h
noncomputable def s12 : FS := S12 s22 s23 s24
noncomputable def a12 : Ann := (.s .o (.s (.s .o (.i (.s .o .o) .o)) (.s .o .o)))
set_option maxRecDepth 100000 in
noncomputable def S26 : FS := fun args h k => capp 1 (fun x0 h0 =>
 boxK 74 1 x0 h0 fun x1 h1 =>
 boxK 24 3 z24 h1 fun x2 h2 =>
 faK 0 x1 fun x3 =>
 ld1 x3 h2 fun x4 =>
 taK 103 (.i .i64 9223372036854775808) x4 fun x5 =>
 exK x5 1 fun x6 =>
 exK x5 0 fun x7 =>
 cdK x6 (
 blK [(0, 1, (.i .i64 9223372036854775809)), (1, 1, x7)] Z24 fun x8 =>
 stL 3 x2 x8 h2 fun h3 =>
 ldN 3 x2 h3 fun x9 => k x9 h3) (
 taK 104 (.s 0 []) x4 fun x10 =>
 exK x10 1 fun x11 =>
 exK x10 0 fun x12 =>
 cdK x11 (
 blK [(0, 1, (.i .i64 9223372036854775810)), (2, 1, x12)] Z24 fun x13 =>
 stL 3 x2 x13 h2 fun h4 =>
 ldN 3 x2 h4 fun x14 => k x14 h4) (
 blK [] Z24 fun x15 =>
 stL 3 x2 x15 h2 fun h5 =>
 ldN 3 x2 h5 fun x16 => k x16 h5))) args h
noncomputable def s26 : FS := S26
noncomputable def a26 : Ann := (.s .o (.s (.s .o (.b (.s .o (.i (.s .o (.s .o .o)) (.s .o (.i (.s .o (.s .o .o)) .o)))))) (.s .o .o)))
set_option maxRecDepth 100000 in
noncomputable def S13 (s25 s26 : FS) : FS := fun args h k => capp 2 (fun x0 x1 h0 =>
 boxK 24 3 z24 h0 fun x2 h1 =>
 npK .eql x0 .np fun x3 =>
 gdK x3 false (fun k => k x0 h1) (fun x4 h2 =>
 gdK x3 false (fun k => k x1 h2) (fun x5 h3 =>
 gdK x3 false (fun k => s25 [x4, x5] h3 k) (fun x6 h4 =>
 gdK x3 false (fun k => notK x6 fun y => k y h4) (fun x7 h5 =>
 pkK x3 (.b true) x7 fun x8 =>
 cdK x8 (
 blK [] Z24 fun x9 =>
 stL 3 x2 x9 h5 fun h6 =>
 ldN 3 x2 h6 fun x10 => k (.t [x10, (.b false)]) h6) (
 ncK x0 fun x11 =>
 faK 0 x11 fun x12 =>
 ld1 x12 h5 fun x13 =>
 lkK true false (.a [.ni]) x13 x1 h5 fun x14 =>
 s26 [x14] h5 fun x15 h7 =>
 stL 3 x2 x15 h7 fun h8 =>
 ldN 3 x2 h8 fun x16 => k (.t [x16, (.b true)]) h8)) h4) h3) h2) h1) args h
noncomputable def s13 : FS := S13 s25 s26
noncomputable def a13 : Ann := (.s .o (.s (.s .o (.i (.s .o .o) .o)) (.s .o .o)))
set_option maxRecDepth 100000 in
noncomputable def S14 : FS := fun args h k => capp 2 (fun x0 x1 h0 =>
 boxK 24 3 x0 h0 fun x2 h1 =>
 boxK 24 3 x1 h1 fun x3 h2 =>
 faK 0 x2 fun x4 =>
 ld1 x4 h2 fun x5 =>
 faK 0 x3 fun x6 =>
 ld1 x6 h2 fun x7 =>
 ikY .eql x5 x7 fun x8 =>
 gdK x8 true (fun k => faK 1 x2 fun y => k y h2) (fun x9 h3 =>
 gdK x8 true (fun k => ld1 x9 h3 fun y => k y h3) (fun x10 h4 =>
 gdK x8 true (fun k => faK 1 x3 fun y => k y h4) (fun x11 h5 =>
 gdK x8 true (fun k => ld1 x11 h5 fun y => k y h5) (fun x12 h6 =>
 gdK x8 true (fun k => ikY .eql x10 x12 fun y => k y h6) (fun x13 h7 =>
 pkK x8 x13 (.b false) fun x14 =>
 gdK x14 true (fun k => faK 2 x2 fun y => k y h7) (fun x15 h8 =>
 gdK x14 true (fun k => ld1 x15 h8 fun y => k y h8) (fun x16 h9 =>
 gdK x14 true (fun k => faK 2 x3 fun y => k y h9) (fun x17 h10 =>
 gdK x14 true (fun k => ld1 x17 h10 fun y => k y h10) (fun x18 h11 =>
 gdK x14 true (fun k => stY .eql x16 x18 fun y => k y h11) (fun x19 h12 =>
 pkK x14 x19 (.b false) fun x20 =>
 k x20 h12) h11) h10) h9) h8) h7) h6) h5) h4) h3) h2) args h
noncomputable def s14 : FS := S14
noncomputable def a14 : Ann := (.s .o (.s .o .o))
set_option maxRecDepth 100000 in
noncomputable def S3 (s4 s5 s6 s7 s9 s8 s10 s11 s12 s13 s14 : FS) : FS := fun args h k => capp 2 (fun x0 x1 h0 =>
 s4 [] h0 fun x2 h1 =>
 notK x2 fun x3 =>
 cdK x3 (
 k (.b false) h1) (
 blK [(0, 1, (.i .i64 9223372036854775810)), (2, 1, x1)] Z24 fun x4 =>
 boxK 24 3 z24 h1 fun x5 h2 =>
 stL 3 x5 x4 h2 fun h3 =>
 s5 [x0] h3 fun x6 h4 =>
 notK x6 fun x7 =>
 gdK x7 false (fun k => ldN 3 x5 h4 fun y => k y h4) (fun x8 h5 =>
 gdK x7 false (fun k => s6 [x8] h5 k) (fun x9 h6 =>
 gdK x7 false (fun k => notK x9 fun y => k y h6) (fun x10 h7 =>
 pkK x7 (.b true) x10 fun x11 =>
 gdK x11 false (fun k => k x0 h7) (fun x12 h8 =>
 gdK x11 false (fun k => lnSY x12 fun y => k y h8) (fun x13 h9 =>
 gdK x11 false (fun k => ikY .gtr x13 (.i .i64 9223372036854775908) fun y => k y h9) (fun x14 h10 =>
 pkK x11 (.b true) x14 fun x15 =>
 cdK x15 (
 k (.b true) h10) (
 s7 [(.i .i64 9223372036854775811), (.i .i64 9223372036854775810)] h10 fun x16 h11 =>
 s9 [x0, x1] h11 fun x17 h12 =>
 bsK 31 9 1 9 [x17] h12 fun x18 h13 =>
 s8 [x16, (.i .i64 9223372036854775809), x18] h13 fun x19 h14 =>
 s10 [x16] h14 fun x20 h15 =>
 ncK x16 fun x21 =>
 faK 0 x21 fun x22 =>
 ld1 x22 h15 fun x23 =>
 s11 [x23, (.i .i64 9223372036854775810)] h15 fun x24 h16 =>
 s12 [x24] h16 fun x25 h17 =>
 s13 [x25, x0] h17 fun x26 h18 =>
 exK x26 0 fun x27 =>
 exK x26 1 fun x28 =>
 boxK 24 3 z24 h18 fun x29 h19 =>
 stL 3 x29 x27 h19 fun h20 =>
 ncK x16 fun x30 =>
 faK 3 x30 fun x31 =>
 ld1 x31 h20 fun x32 =>
 gdK x32 true (fun k => k x28 h20) (fun x33 h21 =>
 pkK x32 x33 (.b false) fun x34 =>
 gdK x34 true (fun k => ldN 3 x29 h21 fun y => k y h21) (fun x35 h22 =>
 gdK x34 true (fun k => ldN 3 x5 h22 fun y => k y h22) (fun x36 h23 =>
 gdK x34 true (fun k => s14 [x35, x36] h23 k) (fun x37 h24 =>
 pkK x34 x37 (.b false) fun x38 =>
 k x38 h24) h23) h22) h21) h20)) h9) h8) h7) h6) h5) h4)) args h
noncomputable def s3 : FS := S3 s4 s5 s6 s7 s9 s8 s10 s11 s12 s13 s14
noncomputable def a3 : Ann := (.s .o (.s .o (.s (.s .o (.i (.s .o .o) .o)) (.s .o (.s (.s .o (.i (.s .o .o) .o)) (.s .o (.s .o (.s .o (.s .o (.s .o .o))))))))))
end Go.Proofs.YtmddhlfjilkdfaaGreatDoor
