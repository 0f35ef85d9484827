/-
  No claim by itself: what the functions' texts mean. No condition.
-/
import Derived.Test.YtlannobincnnhaaGreatDoorTD2
namespace Go.Proofs.YtlannobincnnhaaGreatDoor
set_option linter.unusedVariables false
set_option maxRecDepth 100000 in
noncomputable def S255 (s84 s282 s85 s86 s283 : FS) : FS := fun args h k => capp 2 (fun x0 x1 h0 =>
 boxK 69 13 x1 h0 fun x2 h1 =>
 ncK x0 fun x3 =>
 faK 5 x3 fun x4 =>
 ld1 x4 h1 fun x5 =>
 ikK .neq x5 (.i .i64 9223372036854775809) fun x6 =>
 cdK x6 (
 k (.t []) h1) (
 faK 7 x2 fun x7 =>
 ld1 x7 h1 fun x8 =>
 jn 1 (fun x9 : CT 1 =>
 cdK x8 (
 ncK x0 fun x10 =>
 faK 8 x10 fun x11 =>
 ld1 x11 h1 fun x12 =>
 faK 1 x2 fun x13 =>
 ld1 x13 h1 fun x14 =>
 s84 [x12, x14] h1 fun x15 h2 =>
 x9 x0 h2) (
 ncK x0 fun x16 =>
 faK 8 x16 fun x17 =>
 ld1 x17 h1 fun x18 =>
 faK 1 x2 fun x19 =>
 ld1 x19 h1 fun x20 =>
 s282 [x18, x20] h1 fun x21 h3 =>
 x9 x0 h3)) fun x22 h4 =>
 ncK x22 fun x23 =>
 faK 8 x23 fun x24 =>
 ld1 x24 h4 fun x25 =>
 s85 [x25] h4 fun x26 h5 =>
 cdK x26 (
 s86 [x22] h5 fun x27 h6 =>
 k (.t []) h6) (
 ncK x22 fun x28 =>
 faK 8 x28 fun x29 =>
 ld1 x29 h5 fun x30 =>
 s283 [x30] h5 fun x31 h7 =>
 cdK x31 (
 ncK x22 fun x32 =>
 faK 5 x32 fun x33 =>
 stL 1 x33 (.i .i64 9223372036854775808) h7 fun h8 =>
 k (.t []) h8) (
 k (.t []) h7)))) args h
noncomputable def s255 : FS := S255 s84 s282 s85 s86 s283
noncomputable def a255 : Ann := (.s .o (.s (.s .o (.i .o .o)) (.s (.s .o (.j [0] (.g [0, 1, 2, 3, 4, 5, 6]) (.g [0, 1, 2, 3, 4, 5, 6]))) (.b (.s .o (.i .o (.s .o (.i .o .o))))))))
set_option maxRecDepth 100000 in
noncomputable def S284 : FS := fun args h k => capp 2 (fun x0 x1 h0 =>
 boxK 69 13 x1 h0 fun x2 h1 =>
 ncK x0 fun x3 =>
 faK 5 x3 fun x4 =>
 ld1 x4 h1 fun x5 =>
 ikK .eql x5 (.i .i64 9223372036854775810) fun x6 =>
 cdK x6 (
 k (.b false) h1) (
 faK 1 x2 fun x7 =>
 ld1 x7 h1 fun x8 =>
 ncK x0 fun x9 =>
 faK 5 x9 fun x10 =>
 stL 1 x10 (.i .i64 9223372036854775808) h1 fun h2 =>
 ncK x0 fun x11 =>
 faK 6 x11 fun x12 =>
 stL 1 x12 x8 h2 fun h3 =>
 ncK x0 fun x13 =>
 faK 7 x13 fun x14 =>
 stL 1 x14 (.b true) h3 fun h4 =>
 ld1 x7 h2 fun x15 => ifT (avEq x15 x8) <|
 k (.b true) h4)) args h
noncomputable def s284 : FS := S284
noncomputable def a284 : Ann := (.s .o (.s (.s .o (.i (.s .o .o) .o)) (.s (.g [0, 1, 2, 3, 4, 5, 6, 7, 8, 9, 10, 11, 12, 13]) (.s .o .o))))
set_option maxRecDepth 100000 in
noncomputable def S256 (s284 s214 s88 s90 s212 s211 : FS) : FS := fun args h k => capp 2 (fun x0 x1 h0 =>
 boxK 69 13 x1 h0 fun x2 h1 =>
 ldN 13 x2 h1 fun x3 =>
 s284 [x0, x3] h1 fun x4 h2 =>
 notK x4 fun x5 =>
 cdK x5 (
 k (.t []) h2) (
 ncK x0 fun x6 =>
 faK 3 x6 fun x7 =>
 ld1 x7 h2 fun x8 =>
 faK 4 x2 fun x9 =>
 ld1 x9 h2 fun x10 =>
 faK 5 x2 fun x11 =>
 ld1 x11 h2 fun x12 =>
 s214 [x8, x10, x12] h2 fun x13 h3 =>
 notK x13 fun x14 =>
 gdK x14 true (fun k => faK 4 x2 fun y => k y h3) (fun x15 h4 =>
 gdK x14 true (fun k => ld1 x15 h4 fun y => k y h4) (fun x16 h5 =>
 gdK x14 true (fun k => k x0 h5) (fun x17 h6 =>
 gdK x14 true (fun k => ncK x17 fun y => k y h6) (fun x18 h7 =>
 gdK x14 true (fun k => faK 4 x18 fun y => k y h7) (fun x19 h8 =>
 gdK x14 true (fun k => ld1 x19 h8 fun y => k y h8) (fun x20 h9 =>
 gdK x14 true (fun k => ikK .geq x16 x20 fun y => k y h9) (fun x21 h10 =>
 pkK x14 x21 (.b false) fun x22 =>
 cdK x22 (
 faK 1 x2 fun x23 =>
 ld1 x23 h10 fun x24 =>
 ncK x0 fun x25 =>
 faK 3 x25 fun x26 =>
 ld1 x26 h10 fun x27 =>
 faK 4 x2 fun x28 =>
 ld1 x28 h10 fun x29 =>
 ikK .sub x29 (.i .i64 9223372036854775809) fun x30 =>
 s88 [x27] h10 fun x31 h11 =>
 mmL mnK [x30] x31 fun x32 =>
 mmL mxK [(.i .i64 9223372036854775808)] x32 fun x33 =>
 blK [(0, 1, (.i .i64 9223372036854775812)), (2, 1, x24), (4, 1, x33)] Z69 fun x34 =>
 s90 [x0, x34] h11 fun x35 h12 =>
 ld1 x23 h11 fun x36 => ifT (avEq x36 x24) <|
 ld1 x28 h11 fun x37 => ifT (avEq x37 x29) <|
 k (.t []) h12) (
 faK 4 x2 fun x38 =>
 ld1 x38 h10 fun x39 =>
 faK 8 x2 fun x40 =>
 ld1 x40 h10 fun x41 =>
 lnL x41 fun x42 =>
 ikK .add x39 x42 fun x43 =>
 faK 8 x2 fun x44 =>
 ld1 x44 h10 fun x45 =>
 capp 4 (lp 4 fun (x46 : CT 4) x47 x48 x49 x50 h13 =>
 lnL x50 fun x51 =>
 ikK .gtr x51 (.i .i64 9223372036854775808) fun x52 =>
 gdK x52 true (fun k => k x50 h13) (fun x53 h14 =>
 gdK x52 true (fun k => iaK 4 x53 (.i .i64 9223372036854775808) fun y => k y h14) (fun x54 h15 =>
 gdK x52 true (fun k => faK 0 x54 fun y => k y h15) (fun x55 h16 =>
 gdK x52 true (fun k => ld1 x55 h16 fun y => k y h16) (fun x56 h17 =>
 gdK x52 true (fun k => k x47 h17) (fun x57 h18 =>
 gdK x52 true (fun k => ncK x57 fun y => k y h18) (fun x58 h19 =>
 gdK x52 true (fun k => faK 4 x58 fun y => k y h19) (fun x59 h20 =>
 gdK x52 true (fun k => ld1 x59 h20 fun y => k y h20) (fun x60 h21 =>
 gdK x52 true (fun k => ikK .leq x56 x60 fun y => k y h21) (fun x61 h22 =>
 pkK x52 x61 (.b false) fun x62 =>
 cdK x62 (
 sllK 4 (some (.i .i64 9223372036854775809)) none none x50 fun x63 =>
 x46 x47 x48 x49 x63 h22) (
 ncK x47 fun x64 =>
 faK 3 x64 fun x65 =>
 ld1 x65 h22 fun x66 =>
 s212 [x66, x50] h22 fun x67 h23 =>
 exK x67 0 fun x68 =>
 exK x67 1 fun x69 =>
 s211 [x47, x68, x69] h23 fun x70 h24 =>
 notK x70 fun x71 =>
 cdK x71 (
 faK 1 x48 fun x72 =>
 ld1 x72 h24 fun x73 =>
 ncK x47 fun x74 =>
 faK 3 x74 fun x75 =>
 ld1 x75 h24 fun x76 =>
 s88 [x76] h24 fun x77 h25 =>
 blK [(0, 1, (.i .i64 9223372036854775812)), (2, 1, x73), (4, 1, x77)] Z69 fun x78 =>
 s90 [x47, x78] h25 fun x79 h26 =>
 ld1 x72 h25 fun x80 => ifT (avEq x80 x73) <|
 k (.t []) h26) (
 ncK x47 fun x81 =>
 faK 4 x81 fun x82 =>
 ld1 x82 h24 fun x83 =>
 faK 6 x48 fun x84 =>
 ld1 x84 h24 fun x85 =>
 mmL mnK [x49] x85 fun x86 =>
 mmL mxK [x86] x83 fun x87 =>
 ncK x47 fun x88 =>
 faK 4 x88 fun x89 =>
 stL 1 x89 x87 h24 fun h27 =>
 faK 1 x48 fun x90 =>
 ld1 x90 h27 fun x91 =>
 blK [(0, 1, (.i .i64 9223372036854775812)), (2, 1, x91), (7, 1, (.b true)), (4, 1, x49)] Z69 fun x92 =>
 s90 [x47, x92] h27 fun x93 h28 =>
 k (.t []) h28))) h21) h20) h19) h18) h17) h16) h15) h14) h13) [x0, x2, x43, x45] h10)) h9) h8) h7) h6) h5) h4) h3)) args h
noncomputable def s256 : FS := S256 s284 s214 s88 s90 s212 s211
noncomputable def a256 : Ann := (.s .o (.s (.s .o (.i .o .o)) (.s (.s (.g [0, 1, 2, 3, 4, 5, 6, 7, 8, 9, 10, 11, 12, 13, 14, 15, 16, 17, 18]) (.i (.s (.g [0, 1, 2, 3, 4, 5, 6, 8, 9, 10, 7, 11, 12, 13, 14]) .o) .o)) (.s .o (.s .o (.s (.b (.l [0, 3, 4, 5] (.s (.s (.g [0, 1, 2, 3, 4, 5, 6, 7, 8, 9, 10, 11, 12, 13]) (.i .o .o)) (.b .o)))) (.s (.s .o (.i (.s (.g [0, 1, 2, 3, 4, 5, 6, 7, 8, 9]) .o) .o)) (.s (.g [0, 1, 2, 3, 4, 5, 6, 7, 8, 9, 10, 11, 12]) .o))))))))
set_option maxRecDepth 100000 in
noncomputable def S285 (s243 s210 : FS) : FS := fun args h k => capp 3 (fun x0 x1 x2 h0 =>
 s243 [x0, x1] h0 fun x3 h1 =>
 notK x3 fun x4 =>
 gdK x4 false (fun k => k x2 h1) (fun x5 h2 =>
 gdK x4 false (fun k => s210 [x5] h2 k) (fun x6 h3 =>
 gdK x4 false (fun k => notK x6 fun y => k y h3) (fun x7 h4 =>
 pkK x4 (.b true) x7 fun x8 =>
 cdK x8 (
 k (.b false) h4) (
 ncK x0 fun x9 =>
 faK 0 x9 fun x10 =>
 iapK 8 1 x10 x1 fun x11 =>
 ld1 x11 h4 fun x12 =>
 ikK .sub x12 (.i .i64 9223372036854775809) fun x13 =>
 ikK .add x2 (.i .i64 9223372036854775809) fun x14 =>
 mmL mnK [x14] x13 fun x15 =>
 ncK x0 fun x16 =>
 faK 8 x16 fun x17 =>
 iapK 8 1 x17 x1 fun x18 =>
 ld1 x18 h4 fun x19 =>
 ikK .add x19 (.i .i64 9223372036854775809) fun x20 =>
 mmL mxK [x20] x15 fun x21 =>
 ncK x0 fun x22 =>
 faK 0 x22 fun x23 =>
 iapK 8 1 x23 x1 fun x24 =>
 stL 1 x24 x21 h4 fun h5 =>
 ncK x0 fun x25 =>
 faK 0 x25 fun x26 =>
 iapK 8 1 x26 x1 fun x27 =>
 ld1 x27 h5 fun x28 =>
 ikK .neq x28 x12 fun x29 =>
 k x29 h5)) h3) h2) h1) args h
noncomputable def s285 : FS := S285 s243 s210
noncomputable def a285 : Ann := (.s .o (.s (.s .o (.i (.s .o .o) .o)) (.s .o (.s (.g [0, 1, 2, 3, 4, 5, 6, 7, 8, 9, 10, 11, 12, 13, 14, 15, 16, 17, 18]) (.s .o .o)))))
set_option maxRecDepth 100000 in
noncomputable def S286 (s243 s210 : FS) : FS := fun args h k => capp 3 (fun x0 x1 x2 h0 =>
 s243 [x0, x1] h0 fun x3 h1 =>
 notK x3 fun x4 =>
 gdK x4 false (fun k => k x2 h1) (fun x5 h2 =>
 gdK x4 false (fun k => s210 [x5] h2 k) (fun x6 h3 =>
 gdK x4 false (fun k => notK x6 fun y => k y h3) (fun x7 h4 =>
 pkK x4 (.b true) x7 fun x8 =>
 cdK x8 (
 k (.b false) h4) (
 ncK x0 fun x9 =>
 faK 8 x9 fun x10 =>
 iapK 8 1 x10 x1 fun x11 =>
 ld1 x11 h4 fun x12 =>
 ikK .gtr x2 x12 fun x13 =>
 ncK x0 fun x14 =>
 faK 8 x14 fun x15 =>
 iapK 8 1 x15 x1 fun x16 =>
 ld1 x16 h4 fun x17 =>
 mmL mxK [x2] x17 fun x18 =>
 ncK x0 fun x19 =>
 faK 8 x19 fun x20 =>
 iapK 8 1 x20 x1 fun x21 =>
 stL 1 x21 x18 h4 fun h5 =>
 ncK x0 fun x22 =>
 faK 0 x22 fun x23 =>
 iapK 8 1 x23 x1 fun x24 =>
 ld1 x24 h5 fun x25 =>
 ncK x0 fun x26 =>
 faK 8 x26 fun x27 =>
 iapK 8 1 x27 x1 fun x28 =>
 ld1 x28 h5 fun x29 =>
 ikK .add x29 (.i .i64 9223372036854775809) fun x30 =>
 mmL mxK [x30] x25 fun x31 =>
 ncK x0 fun x32 =>
 faK 0 x32 fun x33 =>
 iapK 8 1 x33 x1 fun x34 =>
 stL 1 x34 x31 h5 fun h6 =>
 k x13 h6)) h3) h2) h1) args h
noncomputable def s286 : FS := S286 s243 s210
noncomputable def a286 : Ann := (.s .o (.s (.s .o (.i (.s .o .o) .o)) (.s .o (.s (.g [0, 1, 2, 3, 4, 5, 6, 7, 8, 9, 10, 11, 12, 13]) (.s (.g [0, 1, 2, 3, 4, 5, 6, 7, 8, 9, 10, 11, 12, 13, 14, 15, 16, 17, 18, 19]) (.s .o .o))))))
set_option maxRecDepth 100000 in
noncomputable def S257 (s88 s285 s153 s286 s160 s207 : FS) : FS := fun args h k => capp 2 (fun x0 x1 h0 =>
 boxK 69 13 x1 h0 fun x2 h1 =>
 ncK x0 fun x3 =>
 faK 5 x3 fun x4 =>
 ld1 x4 h1 fun x5 =>
 ikK .neq x5 (.i .i64 9223372036854775810) fun x6 =>
 gdK x6 false (fun k => faK 4 x2 fun y => k y h1) (fun x7 h2 =>
 gdK x6 false (fun k => ld1 x7 h2 fun y => k y h2) (fun x8 h3 =>
 gdK x6 false (fun k => k x0 h3) (fun x9 h4 =>
 gdK x6 false (fun k => ncK x9 fun y => k y h4) (fun x10 h5 =>
 gdK x6 false (fun k => faK 3 x10 fun y => k y h5) (fun x11 h6 =>
 gdK x6 false (fun k => ld1 x11 h6 fun y => k y h6) (fun x12 h7 =>
 gdK x6 false (fun k => s88 [x12] h7 k) (fun x13 h8 =>
 gdK x6 false (fun k => ikK .gtr x8 x13 fun y => k y h8) (fun x14 h9 =>
 pkK x6 (.b true) x14 fun x15 =>
 gdK x6 false (fun k => ld1 x7 h8 fun y => k y h8) (fun x16 _ => ifT (avEq x16 x8) <|
 cdK x15 (
 k (.t []) h9) (
 faK 7 x2 fun x17 =>
 ld1 x17 h9 fun x18 =>
 notK x18 fun x19 =>
 cdK x19 (
 ncK x0 fun x20 =>
 faK 9 x20 fun x21 =>
 ld1 x21 h9 fun x22 =>
 faK 1 x2 fun x23 =>
 ld1 x23 h9 fun x24 =>
 faK 4 x2 fun x25 =>
 ld1 x25 h9 fun x26 =>
 s285 [x22, x24, x26] h9 fun x27 h10 =>
 cdK x27 (
 faK 1 x2 fun x28 =>
 ld1 x28 h10 fun x29 =>
 s153 [x0, x29] h10 fun x30 h11 =>
 k (.t []) h11) (
 k (.t []) h10)) (
 ncK x0 fun x31 =>
 faK 9 x31 fun x32 =>
 ld1 x32 h9 fun x33 =>
 faK 1 x2 fun x34 =>
 ld1 x34 h9 fun x35 =>
 faK 4 x2 fun x36 =>
 ld1 x36 h9 fun x37 =>
 s286 [x33, x35, x37] h9 fun x38 h12 =>
 jn 2 (fun x39 : CT 2 =>
 cdK x38 (
 s160 [x0] h12 fun x40 h13 =>
 x39 x0 x2 h13) (
 x39 x0 x2 h12)) fun x41 x42 h14 =>
 ncK x41 fun x43 =>
 faK 5 x43 fun x44 =>
 ld1 x44 h14 fun x45 =>
 ikK .eql x45 (.i .i64 9223372036854775810) fun x46 =>
 gdK x46 true (fun k => k x41 h14) (fun x47 h15 =>
 gdK x46 true (fun k => ncK x47 fun y => k y h15) (fun x48 h16 =>
 gdK x46 true (fun k => faK 9 x48 fun y => k y h16) (fun x49 h17 =>
 gdK x46 true (fun k => ld1 x49 h17 fun y => k y h17) (fun x50 h18 =>
 gdK x46 true (fun k => faK 1 x42 fun y => k y h18) (fun x51 h19 =>
 gdK x46 true (fun k => ld1 x51 h19 fun y => k y h19) (fun x52 h20 =>
 gdK x46 true (fun k => k x41 h20) (fun x53 h21 =>
 gdK x46 true (fun k => ncK x53 fun y => k y h21) (fun x54 h22 =>
 gdK x46 true (fun k => faK 3 x54 fun y => k y h22) (fun x55 h23 =>
 gdK x46 true (fun k => ld1 x55 h23 fun y => k y h23) (fun x56 h24 =>
 gdK x46 true (fun k => s207 [x50, x52] h24 k) (fun x57 h25 =>
 gdK x46 true (fun k => s88 [x56] h25 k) (fun x58 h26 =>
 gdK x46 true (fun k => ikK .leq x57 x58 fun y => k y h26) (fun x59 h27 =>
 pkK x46 x59 (.b false) fun x60 =>
 gdK x46 true (fun k => ld1 x55 h25 fun y => k y h25) (fun x61 _ => ifT (avEq x61 x56) <|
 cdK x60 (
 faK 1 x42 fun x62 =>
 ld1 x62 h27 fun x63 =>
 s153 [x41, x63] h27 fun x64 h28 =>
 k (.t []) h28) (
 k (.t []) h27)) h25) h26) h25) h24) h23) h22) h21) h20) h19) h18) h17) h16) h15) h14))) h8) h8) h7) h6) h5) h4) h3) h2) h1) args h
noncomputable def s257 : FS := S257 s88 s285 s153 s286 s160 s207
noncomputable def a257 : Ann := (.s .o (.s (.s (.g [0, 1, 2, 3, 4, 5, 6, 7, 8, 9, 10, 11, 12, 13, 14]) (.i .o .o)) (.s (.s .o (.i (.s (.s (.g [0, 1, 2, 3, 4, 5, 6, 7, 8]) (.i .o .o)) .o) .o)) (.s (.s (.g [0, 1, 2, 3, 4, 5, 6, 7, 8]) (.j [0, 3] .o .o)) (.s (.g [0, 1, 2, 3, 4, 5, 6, 7, 8, 9, 10, 11, 13, 14, 15, 16, 12, 17, 18, 19]) (.i .o .o))))))
noncomputable def s258 : FS := sx
set_option maxRecDepth 100000 in
noncomputable def S230 (s72 s253 s90 s91 s254 s255 s256 s257 s258 : FS) : FS := fun args h k => capp 2 (fun x0 x1 h0 =>
 boxK 69 13 x1 h0 fun x2 h1 =>
 boxK 107 4 z107 h1 fun x3 h2 =>
 npK .eql x0 .np fun x4 =>
 gdK x4 false (fun k => ldN 13 x2 h2 fun y => k y h2) (fun x5 h3 =>
 gdK x4 false (fun k => s72 [x5] h3 k) (fun x6 h4 =>
 gdK x4 false (fun k => notK x6 fun y => k y h4) (fun x7 h5 =>
 pkK x4 (.b true) x7 fun x8 =>
 gdK x8 false (fun k => faK 2 x2 fun y => k y h5) (fun x9 h6 =>
 gdK x8 false (fun k => ld1 x9 h6 fun y => k y h6) (fun x10 h7 =>
 gdK x8 false (fun k => k x0 h7) (fun x11 h8 =>
 gdK x8 false (fun k => ncK x11 fun y => k y h8) (fun x12 h9 =>
 gdK x8 false (fun k => faK 0 x12 fun y => k y h9) (fun x13 h10 =>
 gdK x8 false (fun k => ld1 x13 h10 fun y => k y h10) (fun x14 h11 =>
 gdK x8 false (fun k => ikK .neq x10 x14 fun y => k y h11) (fun x15 h12 =>
 pkK x8 (.b true) x15 fun x16 =>
 gdK x16 false (fun k => faK 1 x2 fun y => k y h12) (fun x17 h13 =>
 gdK x16 false (fun k => ld1 x17 h13 fun y => k y h13) (fun x18 h14 =>
 gdK x16 false (fun k => k x0 h14) (fun x19 h15 =>
 gdK x16 false (fun k => ncK x19 fun y => k y h15) (fun x20 h16 =>
 gdK x16 false (fun k => faK 0 x20 fun y => k y h16) (fun x21 h17 =>
 gdK x16 false (fun k => ld1 x21 h17 fun y => k y h17) (fun x22 h18 =>
 gdK x16 false (fun k => ikK .eql x18 x22 fun y => k y h18) (fun x23 h19 =>
 pkK x16 (.b true) x23 fun x24 =>
 cdK x24 (
 blK [] Z107 fun x25 =>
 stL 4 x3 x25 h19 fun h20 =>
 ldN 4 x3 h20 fun x26 => k x26 h20) (
 faK 3 x2 fun x27 =>
 ld1 x27 h19 fun x28 =>
 ncK x0 fun x29 =>
 faK 1 x29 fun x30 =>
 faK 0 x30 fun x31 =>
 ld1 x31 h19 fun x32 =>
 ikK .gtr x28 x32 fun x33 =>
 jn 3 (fun x34 : CT 3 =>
 cdK x33 (
 faK 3 x2 fun x35 =>
 ld1 x35 h19 fun x36 =>
 s253 [x0, x36] h19 fun x37 h21 =>
 x34 x0 x2 x3 h21) (
 faK 3 x2 fun x38 =>
 ld1 x38 h19 fun x39 =>
 ncK x0 fun x40 =>
 faK 1 x40 fun x41 =>
 faK 0 x41 fun x42 =>
 ld1 x42 h19 fun x43 =>
 ikK .lss x39 x43 fun x44 =>
 cdK x44 (
 faK 0 x2 fun x45 =>
 ld1 x45 h19 fun x46 =>
 ikK .eql x46 (.i .i64 9223372036854775809) fun x47 =>
 jn 2 (fun x48 : CT 2 =>
 cdK x47 (
 faK 1 x2 fun x49 =>
 ld1 x49 h19 fun x50 =>
 blK [(0, 1, (.i .i64 9223372036854775810)), (2, 1, x50)] Z69 fun x51 =>
 s90 [x0, x51] h19 fun x52 h22 =>
 x48 x0 x3 h22) (
 ikK .eql x46 (.i .i64 9223372036854775811) fun x53 =>
 jn 4 (fun x54 : CT 4 =>
 cdK x53 (
 x54 x0 x2 x3 x53 h19) (
 ikK .eql x46 (.i .i64 9223372036854775813) fun x55 =>
 x54 x0 x2 x3 x55 h19)) fun x56 x57 x58 x59 h23 =>
 cdK x59 (
 faK 1 x57 fun x60 =>
 ld1 x60 h23 fun x61 =>
 blK [(0, 1, (.i .i64 9223372036854775812)), (2, 1, x61)] Z69 fun x62 =>
 s90 [x56, x62] h23 fun x63 h24 =>
 x48 x56 x58 h24) (
 x48 x56 x58 h23))) fun x64 x65 h25 =>
 s91 [x64] h25 fun x66 h26 =>
 stL 4 x65 x66 h26 fun h27 =>
 ldN 4 x65 h27 fun x67 => k x67 h27) (
 x34 x0 x2 x3 h19))) fun x68 x69 x70 h28 =>
 faK 0 x69 fun x71 =>
 ld1 x71 h28 fun x72 =>
 ikK .eql x72 (.i .i64 9223372036854775809) fun x73 =>
 jn 2 (fun x74 : CT 2 =>
 cdK x73 (
 ldN 13 x69 h28 fun x75 =>
 s254 [x68, x75] h28 fun x76 h29 =>
 x74 x68 x70 h29) (
 ikK .eql x72 (.i .i64 9223372036854775810) fun x77 =>
 cdK x77 (
 ldN 13 x69 h28 fun x78 =>
 s255 [x68, x78] h28 fun x79 h30 =>
 x74 x68 x70 h30) (
 ikK .eql x72 (.i .i64 9223372036854775811) fun x80 =>
 cdK x80 (
 ldN 13 x69 h28 fun x81 =>
 s256 [x68, x81] h28 fun x82 h31 =>
 x74 x68 x70 h31) (
 ikK .eql x72 (.i .i64 9223372036854775812) fun x83 =>
 cdK x83 (
 ldN 13 x69 h28 fun x84 =>
 s257 [x68, x84] h28 fun x85 h32 =>
 x74 x68 x70 h32) (
 ikK .eql x72 (.i .i64 9223372036854775813) fun x86 =>
 cdK x86 (
 ldN 13 x69 h28 fun x87 =>
 s258 [x68, x87] h28 fun x88 h33 =>
 x74 x68 x70 h33) (
 x74 x68 x70 h28)))))) fun x89 x90 h34 =>
 s91 [x89] h34 fun x91 h35 =>
 stL 4 x90 x91 h35 fun h36 =>
 ldN 4 x90 h36 fun x92 => k x92 h36)) h18) h17) h16) h15) h14) h13) h12) h11) h10) h9) h8) h7) h6) h5) h4) h3) h2) args h
noncomputable def s230 : FS := S230 s72 s253 s90 s91 s254 s255 s256 s257 s258
noncomputable def a230 : Ann := (.s .o (.s (.s (.g [0, 1, 2, 3, 4, 5, 6, 7, 8, 9, 10, 11, 12, 13, 14, 15, 16, 17, 18, 19, 20, 21, 22, 23, 24]) (.i (.s .o .o) .o)) (.s (.b (.s (.g [0, 1, 2, 3, 4, 5, 6, 7, 8]) (.j [0, 3, 4] .o (.s (.g [0, 1, 2, 3, 4, 5, 6, 7, 8]) (.i (.s (.s .o (.b (.s .o (.j [0, 4] .o (.s (.s .o (.j [0, 3, 4, 62] .o .o)) (.i .o .o)))))) (.s .o .o)) .o))))) (.s (.s .o (.b (.s .o (.j [0, 4] .o (.s .o (.i .o (.s .o (.i .o (.s .o (.i .o (.s .o (.i .o .o)))))))))))) (.s .o .o)))))
set_option maxRecDepth 100000 in
noncomputable def S180 (s39 s230 s40 : FS) : FS := fun args h k => capp 2 (fun x0 x1 h0 =>
 boxK 69 13 x1 h0 fun x2 h1 =>
 s39 [x0] h1 fun x3 h2 =>
 cdK x3 (
 k .ns h2) (
 ncK x0 fun x4 =>
 faK 1 x4 fun x5 =>
 ld1 x5 h2 fun x6 =>
 ldN 13 x2 h2 fun x7 =>
 s230 [x6, x7] h2 fun x8 h3 =>
 s40 [x0, x8] h3 fun x9 h4 =>
 k x9 h4)) args h
noncomputable def s180 : FS := S180 s39 s230 s40
noncomputable def a180 : Ann := (.s .o (.s (.s .o (.i (.s .o .o) .o)) (.s (.g [0, 1, 2, 3, 4, 5, 6, 7, 8]) .o)))
set_option maxRecDepth 100000 in
noncomputable def S106 (s179 s13 s180 s23 : FS) : FS := fun args h k => capp 3 (fun x0 x1 x2 h0 =>
 npK .eql x0 .np fun x3 =>
 cdK x3 (
 k (.i .i64 9223372036854775820) h0) (
 ncK x0 fun x4 =>
 faK 4 x4 fun x5 =>
 ld1 x5 h0 fun x6 =>
 s179 [x6, x1] h0 fun x7 h1 =>
 exK x7 0 fun x8 =>
 exK x7 1 fun x9 =>
 boxK 69 13 z69 h1 fun x10 h2 =>
 stL 13 x10 x8 h2 fun h3 =>
 notK x9 fun x11 =>
 cdK x11 (
 k (.i .i64 9223372036854775812) h3) (
 notK x2 fun x12 =>
 jn 2 (fun x13 : CT 2 =>
 cdK x12 (
 ncK x0 fun x14 =>
 faK 4 x14 fun x15 =>
 ld1 x15 h3 fun x16 =>
 s13 [x16, x1] h3 fun x17 h4 =>
 x13 x0 x10 h4) (
 x13 x0 x10 h3)) fun x18 x19 h5 =>
 ncK x18 fun x20 =>
 faK 0 x20 fun x21 =>
 ld1 x21 h5 fun x22 =>
 faK 2 x19 fun x23 =>
 ld1 x23 h5 fun x24 =>
 lkK false false .np x22 x24 h5 fun x25 =>
 npK .neq x25 .np fun x26 =>
 jn 0 (fun x27 : CT 0 =>
 cdK x26 (
 ldN 13 x19 h5 fun x28 =>
 s180 [x25, x28] h5 fun x29 h6 =>
 s23 [x18, x29] h6 fun x30 h7 =>
 x27 h7) (
 x27 h5)) fun h8 =>
 k (.i .i64 9223372036854775808) h8))) args h
noncomputable def s106 : FS := S106 s179 s13 s180 s23
noncomputable def a106 : Ann := (.s .o (.s (.s .o (.i (.s .o .o) .o)) (.s .o (.s (.s .o (.i (.s .o .o) .o)) (.s (.s .o (.j [0, 7] .o .o)) (.s (.s (.g [0, 1, 2, 3, 4, 5, 6, 7]) (.s .o (.j [] .o .o))) (.s .o .o)))))))
set_option maxRecDepth 100000 in
noncomputable def S53 (s11 s12 s106 : FS) : FS := fun args h k => capp 2 (fun x0 x1 h0 =>
 mmL mxK [(.i .i64 9223372036854775808)] x1 fun x2 =>
 mmL mnK [(.i .i64 9223372036854795808)] x2 fun x3 =>
 jn 1 (fun x4 : CT 1 =>
 capp 3 (lp 3 fun (x5 : CT 3) x6 x7 x8 h1 =>
 ikK .lss x8 x7 fun x9 =>
 cdK x9 (
 s11 [x6] h1 fun x10 h2 =>
 s12 [x10] h2 fun x11 h3 =>
 ikK .eql x11 (.i .i64 9223372036854775808) fun x12 =>
 cdK x12 (
 x4 x6 h3) (
 s106 [x6, (.i .i64 9223372036854775808), (.b false)] h3 fun x13 h4 =>
 ikK .add x8 (.i .i64 9223372036854775809) fun x14 =>
 x5 x6 x7 x14 h4)) (
 x4 x6 h1)) [x0, x3, (.i .i64 9223372036854775808)] h0) fun x15 h5 =>
 s11 [x15] h5 fun x16 h6 =>
 s12 [x16] h6 fun x17 h7 =>
 ikK .eql x17 (.i .i64 9223372036854775808) fun x18 =>
 k x18 h7) args h
noncomputable def s53 : FS := S53 s11 s12 s106
noncomputable def a53 : Ann := (.s .o (.s (.s .o (.k [0] (.l [0, 7, 8] (.s .o (.s (.i .o .o) (.s (.b (.s (.s .o (.i .o .o)) .o)) .o)))))) (.s .o .o)))
set_option maxRecDepth 100000 in
noncomputable def S223 (s136 s67 : FS) : FS := fun args h k => capp 1 (fun x0 h0 =>
 npK .eql x0 .np fun x1 =>
 cdK x1 (
 k .ns h0) (
 ncK x0 fun x2 =>
 faK 2 x2 fun x3 =>
 ld1 x3 h0 fun x4 =>
 ncK x0 fun x5 =>
 faK 3 x5 fun x6 =>
 ld1 x6 h0 fun x7 =>
 ncK x0 fun x8 =>
 faK 1 x8 fun x9 =>
 ld1 x9 h0 fun x10 =>
 s136 [x7, x10] h0 fun x11 h1 =>
 sllK 3 (some x11) none none x4 fun x12 =>
 lnL x12 fun x13 =>
 ld1 x3 h1 fun x14 => ifT (avEq x14 x4) <|
 capp 4 (lp 4 fun (x15 : CT 4) x16 x17 x18 x19 h2 =>
 ikK .lss x19 x18 fun x20 =>
 cdK x20 (
 iaK 3 x17 x19 fun x21 =>
 ldN 3 x21 h2 fun x22 =>
 boxK 49 3 z49 h2 fun x23 h3 =>
 stL 3 x23 x22 h3 fun h4 =>
 ldN 3 x23 h4 fun x24 =>
 s67 [x24] h4 fun x25 h5 =>
 bsK 49 3 1 3 [x25] h5 fun x26 h6 =>
 apK 49 3 x16 x26 h6 fun x27 h7 =>
 ikK .add x19 (.i .i64 9223372036854775809) fun x28 =>
 x15 x27 x17 x18 x28 h7) (
 k x16 h2)) [.ns, x12, x13, (.i .i64 9223372036854775808)] h1)) args h
noncomputable def s223 : FS := S223 s136 s67
noncomputable def a223 : Ann := (.s .o (.s (.s .o (.i (.s .o .o) .o)) (.s .o (.s (.s (.g [0, 1, 2, 3, 4, 5, 6, 7, 8, 9, 10, 11, 15, 12, 13, 14]) (.b (.l [3, 21, 22, 23] (.s .o (.s (.i .o .o) (.s (.b (.s .o .o)) .o)))))) (.s .o .o)))))
set_option maxRecDepth 100000 in
noncomputable def S168 (s223 : FS) : FS := fun args h k => capp 1 (fun x0 h0 =>
 npK .eql x0 .np fun x1 =>
 cdK x1 (
 k .ns h0) (
 ncK x0 fun x2 =>
 faK 0 x2 fun x3 =>
 ld1 x3 h0 fun x4 =>
 s223 [x4] h0 fun x5 h1 =>
 k x5 h1)) args h
noncomputable def s168 : FS := S168 s223
noncomputable def a168 : Ann := (.s .o (.s (.s .o (.i (.s .o .o) .o)) (.s .o .o)))
set_option maxRecDepth 100000 in
noncomputable def S163 (s168 : FS) : FS := fun args h k => capp 1 (fun x0 h0 =>
 boxK 49 3 z49 h0 fun x1 h1 =>
 s168 [x0] h1 fun x2 h2 =>
 lnL x2 fun x3 =>
 ikK .eql x3 (.i .i64 9223372036854775808) fun x4 =>
 cdK x4 (
 blK [] Z49 fun x5 =>
 stL 3 x1 x5 h2 fun h3 =>
 ldN 3 x1 h3 fun x6 => k (.t [x6, (.b false)]) h3) (
 iaK 3 x2 (.i .i64 9223372036854775808) fun x7 =>
 ldN 3 x7 h2 fun x8 =>
 stL 3 x1 x8 h2 fun h4 =>
 ldN 3 x1 h4 fun x9 => k (.t [x9, (.b true)]) h4)) args h
noncomputable def s163 : FS := S163 s168
noncomputable def a163 : Ann := (.s .o (.s .o (.s (.s .o (.i (.s .o .o) .o)) (.s .o .o))))
set_option maxRecDepth 100000 in
noncomputable def S216 : FS := fun args h k => capp 1 (fun x0 h0 =>
 npK .eql x0 .np fun x1 =>
 cdK x1 (
 k (.i .i64 9223372036854775808) h0) (
 ncK x0 fun x2 =>
 faK 5 x2 fun x3 =>
 ld1 x3 h0 fun x4 =>
 k x4 h0)) args h
noncomputable def s216 : FS := S216
noncomputable def a216 : Ann := (.s .o (.s (.s .o (.i (.s .o .o) .o)) (.s .o .o)))
set_option maxRecDepth 100000 in
noncomputable def S217 (s195 : FS) : FS := fun args h k => capp 2 (fun x0 x1 h0 =>
 ncK x0 fun x2 =>
 faK 1 x2 fun x3 =>
 ld1 x3 h0 fun x4 =>
 s195 [x4, x1] h0 fun x5 h1 =>
 k x5 h1) args h
noncomputable def s217 : FS := S217 s195
noncomputable def a217 : Ann := (.s .o (.s .o .o))
set_option maxRecDepth 100000 in
noncomputable def S246 (s195 s196 : FS) : FS := fun args h k => capp 2 (fun x0 x1 h0 =>
 boxK 83 5 z83 h0 fun x2 h1 =>
 s195 [x0, x1] h1 fun x3 h2 =>
 ikK .eql x3 (.i .i64 9223372036854775808) fun x4 =>
 cdK x4 (
 blK [] Z83 fun x5 =>
 stL 5 x2 x5 h2 fun h3 =>
 ldN 5 x2 h3 fun x6 => k (.t [x6, (.b false)]) h3) (
 ncK x0 fun x7 =>
 faK 2 x7 fun x8 =>
 iapK 6 6 x8 x1 fun x9 =>
 faK 1 x9 fun x10 =>
 ldN 5 x10 h2 fun x11 =>
 s196 [x11] h2 fun x12 h4 =>
 stL 5 x2 x12 h4 fun h5 =>
 ldN 5 x2 h5 fun x13 => k (.t [x13, (.b true)]) h5)) args h
noncomputable def s246 : FS := S246 s195 s196
noncomputable def a246 : Ann := (.s .o (.s (.s .o (.i (.s .o .o) .o)) (.s .o .o)))
set_option maxRecDepth 100000 in
noncomputable def S218 (s246 : FS) : FS := fun args h k => capp 2 (fun x0 x1 h0 =>
 boxK 83 5 z83 h0 fun x2 h1 =>
 ncK x0 fun x3 =>
 faK 1 x3 fun x4 =>
 ld1 x4 h1 fun x5 =>
 s246 [x5, x1] h1 fun x6 h2 =>
 exK x6 0 fun x7 =>
 exK x6 1 fun x8 =>
 stL 5 x2 x7 h2 fun h3 =>
 ldN 5 x2 h3 fun x9 => k (.t [x9, x8]) h3) args h
noncomputable def s218 : FS := S218 s246
noncomputable def a218 : Ann := (.s .o (.s .o .o))
set_option maxRecDepth 100000 in
noncomputable def S219 (s76 s65 s77 s122 : FS) : FS := fun args h k => capp 2 (fun x0 x1 h0 =>
 boxK 49 3 x1 h0 fun x2 h1 =>
 ncK x0 fun x3 =>
 faK 1 x3 fun x4 =>
 ld1 x4 h1 fun x5 =>
 ncK x0 fun x6 =>
 faK 2 x6 fun x7 =>
 ld1 x7 h1 fun x8 =>
 s76 [x5] h1 fun x9 h2 =>
 s65 [x8] h2 fun x10 h3 =>
 ikK .add x10 (.i .i64 9223372036854775809) fun x11 =>
 s77 [x9, x11, (.i .i64 9223372036854776008)] h3 fun x12 h4 =>
 lnL x12 fun x13 =>
 ld1 x7 h2 fun x14 => ifT (avEq x14 x8) <|
 capp 4 (lp 4 fun (x15 : CT 4) x16 x17 x18 x19 h5 =>
 ikK .lss x19 x18 fun x20 =>
 cdK x20 (
 iaK 4 x17 x19 fun x21 =>
 ldN 4 x21 h5 fun x22 =>
 boxK 168 4 z168 h5 fun x23 h6 =>
 stL 4 x23 x22 h6 fun h7 =>
 faK 3 x23 fun x24 =>
 ld1 x24 h7 fun x25 =>
 sb2K 5 x25 h7 fun x26 h8 =>
 s122 [x26] h8 fun x27 h9 =>
 exK x27 0 fun x28 =>
 exK x27 1 fun x29 =>
 boxK 49 3 z49 h9 fun x30 h10 =>
 stL 3 x30 x28 h10 fun h11 =>
 faK 2 x23 fun x31 =>
 ld1 x31 h11 fun x32 =>
 ikK .eql x32 (.i .i64 9223372036854775810) fun x33 =>
 gdK x33 true (fun k => k x29 h11) (fun x34 h12 =>
 gdK x33 true (fun k => ikK .eql x34 (.i .i64 9223372036854775808) fun y => k y h12) (fun x35 h13 =>
 pkK x33 x35 (.b false) fun x36 =>
 gdK x36 true (fun k => faK 0 x30 fun y => k y h13) (fun x37 h14 =>
 gdK x36 true (fun k => ld1 x37 h14 fun y => k y h14) (fun x38 h15 =>
 gdK x36 true (fun k => faK 0 x16 fun y => k y h15) (fun x39 h16 =>
 gdK x36 true (fun k => ld1 x39 h16 fun y => k y h16) (fun x40 h17 =>
 gdK x36 true (fun k => ikK .eql x38 x40 fun y => k y h17) (fun x41 h18 =>
 pkK x36 x41 (.b false) fun x42 =>
 gdK x42 true (fun k => faK 1 x30 fun y => k y h18) (fun x43 h19 =>
 gdK x42 true (fun k => ld1 x43 h19 fun y => k y h19) (fun x44 h20 =>
 gdK x42 true (fun k => faK 1 x16 fun y => k y h20) (fun x45 h21 =>
 gdK x42 true (fun k => ld1 x45 h21 fun y => k y h21) (fun x46 h22 =>
 gdK x42 true (fun k => ikK .eql x44 x46 fun y => k y h22) (fun x47 h23 =>
 pkK x42 x47 (.b false) fun x48 =>
 cdK x48 (
 k (.b true) h23) (
 ikK .add x19 (.i .i64 9223372036854775809) fun x49 =>
 x15 x16 x17 x18 x49 h23)) h22) h21) h20) h19) h18) h17) h16) h15) h14) h13) h12) h11) (
 k (.b false) h5)) [x2, x12, x13, (.i .i64 9223372036854775808)] h4) args h
noncomputable def s219 : FS := S219 s76 s65 s77 s122
noncomputable def a219 : Ann := (.s .o (.s (.s (.g [0, 1, 2, 3, 5, 6, 7, 8, 13, 4, 9, 10, 11, 12]) (.b (.l [3, 20, 21, 22] (.s .o (.s (.i .o .o) (.s (.b (.s .o (.s .o (.s .o (.i (.s .o .o) .o))))) .o)))))) (.s .o .o)))
noncomputable def s247 : FS := sx
set_option maxRecDepth 100000 in
noncomputable def S220 (s79 s145 s247 s214 s150 s77 s159 s160 s80 s91 : FS) : FS := fun args h k => capp 3 (fun x0 x1 x2 h0 =>
 boxK 107 4 z107 h0 fun x3 h1 =>
 npK .eql x0 .np fun x4 =>
 cdK x4 (
 blK [] Z107 fun x5 =>
 stL 4 x3 x5 h1 fun h2 =>
 ldN 4 x3 h2 fun x6 => k (.t [(.i .i64 9223372036854775808), x6, (.i .i64 9223372036854775820)]) h2) (
 ncK x0 fun x7 =>
 faK 3 x7 fun x8 =>
 ld1 x8 h1 fun x9 =>
 s79 [x9] h1 fun x10 h3 =>
 exK x10 0 fun x11 =>
 exK x10 1 fun x12 =>
 s145 [x2] h3 fun x13 h4 =>
 exK x13 0 fun x14 =>
 exK x13 1 fun x15 =>
 ncK x0 fun x16 =>
 faK 5 x16 fun x17 =>
 ld1 x17 h4 fun x18 =>
 ikK .neq x18 (.i .i64 9223372036854775810) fun x19 =>
 cdK x19 (
 blK [] Z107 fun x20 =>
 stL 4 x3 x20 h4 fun h5 =>
 ldN 4 x3 h5 fun x21 => k (.t [(.i .i64 9223372036854775808), x21, (.i .i64 9223372036854775817)]) h5) (
 ikK .neq x1 (.i .i64 9223372036854775810) fun x22 =>
 gdK x22 true (fun k => k x1 h4) (fun x23 h6 =>
 gdK x22 true (fun k => ikK .neq x23 (.i .i64 9223372036854775811) fun y => k y h6) (fun x24 h7 =>
 pkK x22 x24 (.b false) fun x25 =>
 gdK x25 false (fun k => k x2 h7) (fun x26 h8 =>
 gdK x25 false (fun k => lnS x26 fun y => k y h8) (fun x27 h9 =>
 gdK x25 false (fun k => ikK .gtr x27 (.i .i64 9223372036854778308) fun y => k y h9) (fun x28 h10 =>
 pkK x25 (.b true) x28 fun x29 =>
 gdK x29 false (fun k => k x1 h10) (fun x30 h11 =>
 gdK x29 false (fun k => ikK .eql x30 (.i .i64 9223372036854775811) fun y => k y h11) (fun x31 h12 =>
 gdK x29 false (fun k => k x31 h12) (fun x32 h13 =>
 gdK x32 true (fun k => k x15 h13) (fun x33 h14 =>
 gdK x32 true (fun k => notK x33 fun y => k y h14) (fun x34 h15 =>
 gdK x32 true (fun k => k x34 h15) (fun x35 h16 =>
 gdK x35 false (fun k => k x14 h16) (fun x36 h17 =>
 gdK x35 false (fun k => k x11 h17) (fun x37 h18 =>
 gdK x35 false (fun k => s247 [x36, x37] h18 k) (fun x38 h19 =>
 gdK x35 false (fun k => notK x38 fun y => k y h19) (fun x39 h20 =>
 gdK x32 true (fun k => pkK x35 (.b true) x39 fun y => k y h20) (fun x40 h21 =>
 gdK x29 false (fun k => pkK x32 x40 (.b false) fun y => k y h21) (fun x41 h22 =>
 pkK x29 (.b true) x41 fun x42 =>
 cdK x42 (
 blK [] Z107 fun x43 =>
 stL 4 x3 x43 h22 fun h23 =>
 ldN 4 x3 h23 fun x44 => k (.t [(.i .i64 9223372036854775808), x44, (.i .i64 9223372036854775809)]) h23) (
 ikK .eql x1 (.i .i64 9223372036854775811) fun x45 =>
 gdK x45 true (fun k => k x12 h22) (fun x46 h24 =>
 gdK x45 true (fun k => k x0 h24) (fun x47 h25 =>
 gdK x45 true (fun k => ncK x47 fun y => k y h25) (fun x48 h26 =>
 gdK x45 true (fun k => faK 4 x48 fun y => k y h26) (fun x49 h27 =>
 gdK x45 true (fun k => ld1 x49 h27 fun y => k y h27) (fun x50 h28 =>
 gdK x45 true (fun k => ikK .gtr x46 x50 fun y => k y h28) (fun x51 h29 =>
 gdK x45 true (fun k => k x51 h29) (fun x52 h30 =>
 gdK x52 false (fun k => k x0 h30) (fun x53 h31 =>
 gdK x52 false (fun k => ncK x53 fun y => k y h31) (fun x54 h32 =>
 gdK x52 false (fun k => faK 3 x54 fun y => k y h32) (fun x55 h33 =>
 gdK x52 false (fun k => ld1 x55 h33 fun y => k y h33) (fun x56 h34 =>
 gdK x52 false (fun k => k x0 h34) (fun x57 h35 =>
 gdK x52 false (fun k => ncK x57 fun y => k y h35) (fun x58 h36 =>
 gdK x52 false (fun k => faK 4 x58 fun y => k y h36) (fun x59 h37 =>
 gdK x52 false (fun k => ld1 x59 h37 fun y => k y h37) (fun x60 h38 =>
 gdK x52 false (fun k => k x0 h38) (fun x61 h39 =>
 gdK x52 false (fun k => ncK x61 fun y => k y h39) (fun x62 h40 =>
 gdK x52 false (fun k => faK 1 x62 fun y => k y h40) (fun x63 h41 =>
 gdK x52 false (fun k => faK 0 x63 fun y => k y h41) (fun x64 h42 =>
 gdK x52 false (fun k => ld1 x64 h42 fun y => k y h42) (fun x65 h43 =>
 gdK x52 false (fun k => s214 [x56, x60, x65] h43 k) (fun x66 h44 =>
 gdK x52 false (fun k => notK x66 fun y => k y h44) (fun x67 h45 =>
 gdK x45 true (fun k => pkK x52 (.b true) x67 fun y => k y h45) (fun x68 h46 =>
 pkK x45 x68 (.b false) fun x69 =>
 cdK x69 (
 blK [] Z107 fun x70 =>
 stL 4 x3 x70 h46 fun h47 =>
 ldN 4 x3 h47 fun x71 => k (.t [(.i .i64 9223372036854775808), x71, (.i .i64 9223372036854775818)]) h47) (
 ncK x0 fun x72 =>
 faK 3 x72 fun x73 =>
 ld1 x73 h46 fun x74 =>
 ncK x0 fun x75 =>
 faK 3 x75 fun x76 =>
 ld1 x76 h46 fun x77 =>
 s150 [x77] h46 fun x78 h48 =>
 s77 [x74, x78, (.i .i64 9223372036854776008)] h48 fun x79 h49 =>
 lnL x79 fun x80 =>
 ikK .geq x80 (.i .i64 9223372036854776008) fun x81 =>
 ld1 x73 h48 fun x82 => ifT (avEq x82 x74) <|
 cdK x81 (
 blK [] Z107 fun x83 =>
 stL 4 x3 x83 h49 fun h50 =>
 ldN 4 x3 h50 fun x84 => k (.t [(.i .i64 9223372036854775808), x84, (.i .i64 9223372036854775813)]) h50) (
 s159 [x0, x1, x2] h49 fun x85 h51 =>
 s160 [x0] h51 fun x86 h52 =>
 s80 [x0] h52 fun x87 h53 =>
 s91 [x0] h53 fun x88 h54 =>
 stL 4 x3 x88 h54 fun h55 =>
 ldN 4 x3 h55 fun x89 => k (.t [x85, x89, (.i .i64 9223372036854775808)]) h55))) h45) h44) h43) h42) h41) h40) h39) h38) h37) h36) h35) h34) h33) h32) h31) h30) h29) h28) h27) h26) h25) h24) h22)) h21) h20) h19) h18) h17) h16) h15) h14) h13) h12) h11) h10) h9) h8) h7) h6) h4))) args h
noncomputable def s220 : FS := S220 s79 s145 s247 s214 s150 s77 s159 s160 s80 s91
noncomputable def a220 : Ann := (.s .o (.s (.s .o (.i (.s .o .o) .o)) (.s .o (.s .o (.s (.b (.s .o (.i (.s .o .o) (.s .o (.i (.s .o .o) (.s (.g [0, 1, 2, 3, 4, 5, 6, 7, 8, 9, 10, 11, 12, 13, 14, 15, 16, 17, 18, 19, 20, 21, 22, 23, 24, 25, 26, 27]) (.i (.s .o .o) (.s (.g [0, 1, 2, 3, 4, 5, 6, 7, 8, 9, 10, 11, 12]) (.i (.s .o .o) .o))))))))) (.s .o (.s .o (.s .o (.s .o .o)))))))))
set_option maxRecDepth 100000 in
noncomputable def S164 (s39 s134 s216 s217 s218 s219 s68 s220 s40 : FS) : FS := fun args h k => capp 2 (fun x0 x1 h0 =>
 boxK 49 3 x1 h0 fun x2 h1 =>
 boxK 83 5 z83 h1 fun x3 h2 =>
 s39 [x0] h2 fun x4 h3 =>
 cdK x4 (
 blK [] Z83 fun x5 =>
 stL 5 x3 x5 h3 fun h4 =>
 ldN 5 x3 h4 fun x6 => k (.t [x6, .ns, (.i .i64 9223372036854775820)]) h4) (
 ldN 3 x2 h3 fun x7 =>
 s134 [x7] h3 fun x8 h5 =>
 notK x8 fun x9 =>
 cdK x9 (
 blK [] Z83 fun x10 =>
 stL 5 x3 x10 h5 fun h6 =>
 ldN 5 x3 h6 fun x11 => k (.t [x11, .ns, (.i .i64 9223372036854775809)]) h6) (
 ncK x0 fun x12 =>
 faK 1 x12 fun x13 =>
 ld1 x13 h5 fun x14 =>
 s216 [x14] h5 fun x15 h7 =>
 ikK .neq x15 (.i .i64 9223372036854775810) fun x16 =>
 cdK x16 (
 blK [] Z83 fun x17 =>
 stL 5 x3 x17 h7 fun h8 =>
 ldN 5 x3 h8 fun x18 => k (.t [x18, .ns, (.i .i64 9223372036854775817)]) h8) (
 ncK x0 fun x19 =>
 faK 2 x19 fun x20 =>
 ld1 x20 h7 fun x21 =>
 faK 0 x2 fun x22 =>
 ld1 x22 h7 fun x23 =>
 s217 [x21, x23] h7 fun x24 h9 =>
 faK 1 x2 fun x25 =>
 ld1 x25 h9 fun x26 =>
 ikK .eql x26 x24 fun x27 =>
 cdK x27 (
 ncK x0 fun x28 =>
 faK 2 x28 fun x29 =>
 ld1 x29 h9 fun x30 =>
 faK 0 x2 fun x31 =>
 ld1 x31 h9 fun x32 =>
 s218 [x30, x32] h9 fun x33 h10 =>
 exK x33 0 fun x34 =>
 exK x33 1 fun x35 =>
 boxK 83 5 z83 h10 fun x36 h11 =>
 stL 5 x36 x34 h11 fun h12 =>
 ldN 5 x36 h12 fun x37 =>
 stL 5 x3 x37 h12 fun h13 =>
 ldN 5 x3 h13 fun x38 => k (.t [x38, .ns, (.i .i64 9223372036854775808)]) h13) (
 faK 1 x2 fun x39 =>
 ld1 x39 h9 fun x40 =>
 ikK .add x24 (.i .i64 9223372036854775809) fun x41 =>
 ikK .neq x40 x41 fun x42 =>
 cdK x42 (
 blK [] Z83 fun x43 =>
 stL 5 x3 x43 h9 fun h14 =>
 ldN 5 x3 h14 fun x44 => k (.t [x44, .ns, (.i .i64 9223372036854775819)]) h14) (
 ldN 3 x2 h9 fun x45 =>
 s219 [x0, x45] h9 fun x46 h15 =>
 cdK x46 (
 blK [] Z83 fun x47 =>
 stL 5 x3 x47 h15 fun h16 =>
 ldN 5 x3 h16 fun x48 => k (.t [x48, .ns, (.i .i64 9223372036854775818)]) h16) (
 ncK x0 fun x49 =>
 faK 1 x49 fun x50 =>
 ld1 x50 h15 fun x51 =>
 ldN 3 x2 h15 fun x52 =>
 s68 [x52] h15 fun x53 h17 =>
 cbK x53 h17 fun x54 =>
 s220 [x51, (.i .i64 9223372036854775810), x54] h17 fun x55 h18 =>
 exK x55 0 fun x56 =>
 exK x55 1 fun x57 =>
 exK x55 2 fun x58 =>
 boxK 107 4 z107 h18 fun x59 h19 =>
 stL 4 x59 x57 h19 fun h20 =>
 ld1 x50 h17 fun x60 => ifT (avEq x60 x51) <|
 ikK .neq x58 (.i .i64 9223372036854775808) fun x61 =>
 cdK x61 (
 blK [] Z83 fun x62 =>
 stL 5 x3 x62 h20 fun h21 =>
 ldN 5 x3 h21 fun x63 => k (.t [x63, .ns, x58]) h21) (
 ldN 4 x59 h20 fun x64 =>
 s40 [x0, x64] h20 fun x65 h22 =>
 ncK x0 fun x66 =>
 faK 2 x66 fun x67 =>
 ld1 x67 h22 fun x68 =>
 faK 0 x2 fun x69 =>
 ld1 x69 h22 fun x70 =>
 s218 [x68, x70] h22 fun x71 h23 =>
 exK x71 0 fun x72 =>
 exK x71 1 fun x73 =>
 boxK 83 5 z83 h23 fun x74 h24 =>
 stL 5 x74 x72 h24 fun h25 =>
 ncK x0 fun x75 =>
 faK 3 x75 fun x76 =>
 ld1 x76 h25 fun x77 =>
 cdK x77 (
 blK [] Z83 fun x78 =>
 stL 5 x3 x78 h25 fun h26 =>
 ldN 5 x3 h26 fun x79 => k (.t [x79, .ns, (.i .i64 9223372036854775820)]) h26) (
 ncK x0 fun x80 =>
 faK 2 x80 fun x81 =>
 ld1 x81 h25 fun x82 =>
 faK 0 x2 fun x83 =>
 ld1 x83 h25 fun x84 =>
 faK 1 x2 fun x85 =>
 ld1 x85 h25 fun x86 =>
 s217 [x82, x84] h25 fun x87 h27 =>
 ikK .eql x87 x86 fun x88 =>
 ld1 x85 h27 fun x89 => ifT (avEq x89 x86) <|
 cdK x88 (
 ldN 5 x74 h27 fun x90 =>
 stL 5 x3 x90 h27 fun h28 =>
 ldN 5 x3 h28 fun x91 => k (.t [x91, x65, (.i .i64 9223372036854775808)]) h28) (
 blK [] Z83 fun x92 =>
 stL 5 x3 x92 h27 fun h29 =>
 ldN 5 x3 h29 fun x93 => k (.t [x93, x65, (.i .i64 9223372036854775818)]) h29)))))))))) args h
noncomputable def s164 : FS := S164 s39 s134 s216 s217 s218 s219 s68 s220 s40
noncomputable def a164 : Ann := (.s .o (.s (.b (.s .o (.i (.s .o .o) (.s .o (.i (.s .o .o) (.s .o (.i (.s .o .o) .o))))))) (.s (.s (.g [0, 1, 2, 3, 4, 5, 6, 7]) (.b (.s .o (.i (.s (.g [0, 1, 2, 3, 4, 5, 6, 7, 8, 9, 10, 11, 12]) (.s .o .o)) (.s .o (.i (.s .o .o) (.s .o (.i (.s .o .o) .o)))))))) (.s (.g [0, 1, 2, 3, 4, 5, 6, 7, 8, 9, 10, 11, 12, 13, 14, 15]) (.s (.s .o (.i (.s .o .o) .o)) (.s .o (.s (.s (.g [0, 1, 2, 3, 4, 5, 6, 7, 8, 9, 10, 11, 12]) (.b (.s .o (.i (.s .o .o) (.s (.g [0, 1, 2, 3, 4, 5, 7, 8, 6, 9, 10]) (.i (.s .o .o) .o)))))) (.s .o .o))))))))
set_option maxRecDepth 100000 in
noncomputable def S94 (s19 s21 s163 s164 s23 : FS) : FS := fun args h k => capp 3 (fun x0 x1 x2 h0 =>
 s19 [x0, x1] h0 fun x3 h1 =>
 s21 [x0, x2] h1 fun x4 h2 =>
 npK .eql x3 .np fun x5 =>
 gdK x5 false (fun k => k x4 h2) (fun x6 h3 =>
 gdK x5 false (fun k => npK .eql x6 .np fun y => k y h3) (fun x7 h4 =>
 pkK x5 (.b true) x7 fun x8 =>
 cdK x8 (
 k (.i .i64 9223372036854775820) h4) (
 s163 [x3] h4 fun x9 h5 =>
 exK x9 0 fun x10 =>
 exK x9 1 fun x11 =>
 boxK 49 3 z49 h5 fun x12 h6 =>
 stL 3 x12 x10 h6 fun h7 =>
 notK x11 fun x13 =>
 cdK x13 (
 k (.i .i64 9223372036854775821) h7) (
 ldN 3 x12 h7 fun x14 =>
 s164 [x4, x14] h7 fun x15 h8 =>
 exK x15 0 fun x16 =>
 exK x15 1 fun x17 =>
 exK x15 2 fun x18 =>
 boxK 83 5 z83 h8 fun x19 h9 =>
 stL 5 x19 x16 h9 fun h10 =>
 s23 [x0, x17] h10 fun x20 h11 =>
 k x18 h11))) h3) h2) args h
noncomputable def s94 : FS := S94 s19 s21 s163 s164 s23
noncomputable def a94 : Ann := (.s .o (.s .o (.s (.s .o (.i (.s .o .o) .o)) (.s .o (.s (.s .o (.i (.s .o .o) .o)) (.s .o (.s .o (.s .o .o))))))))
set_option maxRecDepth 100000 in
noncomputable def S43 : FS := fun args h k => capp 1 (fun x0 h0 =>
 npK .eql x0 .np fun x1 =>
 cdK x1 (
 k .np h0) (
 ncK x0 fun x2 =>
 faK 3 x2 fun x3 =>
 ld1 x3 h0 fun x4 =>
 k x4 h0)) args h
noncomputable def s43 : FS := S43
noncomputable def a43 : Ann := (.s .o (.s (.s .o (.i (.s .o .o) .o)) (.s .o .o)))
set_option maxRecDepth 100000 in
noncomputable def S221 : FS := fun args h k => capp 1 (fun x0 h0 =>
 npK .eql x0 .np fun x1 =>
 cdK x1 (
 k (.i .i64 9223372036854775808) h0) (
 ncK x0 fun x2 =>
 faK 1 x2 fun x3 =>
 ld1 x3 h0 fun x4 =>
 lnL x4 fun x5 =>
 ikK .add x5 (.i .i64 9223372036854775809) fun x6 =>
 k x6 h0)) args h
noncomputable def s221 : FS := S221
noncomputable def a221 : Ann := (.s .o (.s (.s .o (.i (.s .o .o) .o)) (.s .o .o)))
set_option maxRecDepth 100000 in
noncomputable def S166 (s43 s221 : FS) : FS := fun args h k => capp 1 (fun x0 h0 =>
 npK .eql x0 .np fun x1 =>
 cdK x1 (
 k (.i .i64 9223372036854775808) h0) (
 ncK x0 fun x2 =>
 faK 0 x2 fun x3 =>
 ld1 x3 h0 fun x4 =>
 s43 [x4] h0 fun x5 h1 =>
 s221 [x5] h1 fun x6 h2 =>
 k x6 h2)) args h
noncomputable def s166 : FS := S166 s43 s221
noncomputable def a166 : Ann := (.s .o (.s (.s .o (.i (.s .o .o) .o)) (.s .o .o)))
set_option maxRecDepth 100000 in
noncomputable def S101 (s151 : FS) : FS := fun args h k => capp 3 (fun x0 x1 x2 h0 =>
 npK .eql x0 .np fun x3 =>
 gdK x3 false (fun k => k x1 h0) (fun x4 h1 =>
 gdK x3 false (fun k => ikK .lss x4 (.i .i64 9223372036854775809) fun y => k y h1) (fun x5 h2 =>
 pkK x3 (.b true) x5 fun x6 =>
 gdK x6 false (fun k => k x1 h2) (fun x7 h3 =>
 gdK x6 false (fun k => k x0 h3) (fun x8 h4 =>
 gdK x6 false (fun k => ncK x8 fun y => k y h4) (fun x9 h5 =>
 gdK x6 false (fun k => faK 2 x9 fun y => k y h5) (fun x10 h6 =>
 gdK x6 false (fun k => ld1 x10 h6 fun y => k y h6) (fun x11 h7 =>
 gdK x6 false (fun k => lnL x11 fun y => k y h7) (fun x12 h8 =>
 gdK x6 false (fun k => ikK .gtr x7 x12 fun y => k y h8) (fun x13 h9 =>
 pkK x6 (.b true) x13 fun x14 =>
 gdK x14 false (fun k => k x2 h9) (fun x15 h10 =>
 gdK x14 false (fun k => ikK .lss x15 (.i .i64 9223372036854775809) fun y => k y h10) (fun x16 h11 =>
 pkK x14 (.b true) x16 fun x17 =>
 cdK x17 (
 k .ns h11) (
 ncK x0 fun x18 =>
 faK 2 x18 fun x19 =>
 ld1 x19 h11 fun x20 =>
 ikK .sub x1 (.i .i64 9223372036854775809) fun x21 =>
 sllK 5 (some x21) none none x20 fun x22 =>
 lnL x22 fun x23 =>
 mmL mnK [x2, (.i .i64 9223372036854775818)] x23 fun x24 =>
 sllK 5 none (some x24) none x22 fun x25 =>
 lnL x25 fun x26 =>
 capp 4 (lp 4 fun (x27 : CT 4) x28 x29 x30 x31 h12 =>
 ikK .lss x31 x30 fun x32 =>
 cdK x32 (
 iaK 5 x29 x31 fun x33 =>
 ldN 5 x33 h12 fun x34 =>
 boxK 83 5 z83 h12 fun x35 h13 =>
 stL 5 x35 x34 h13 fun h14 =>
 ldN 5 x35 h14 fun x36 =>
 s151 [x36] h14 fun x37 h15 =>
 bsK 83 5 1 5 [x37] h15 fun x38 h16 =>
 apK 83 5 x28 x38 h16 fun x39 h17 =>
 ikK .add x31 (.i .i64 9223372036854775809) fun x40 =>
 x27 x39 x29 x30 x40 h17) (
 k x28 h12)) [.ns, x25, x26, (.i .i64 9223372036854775808)] h11)) h10) h9) h8) h7) h6) h5) h4) h3) h2) h1) h0) args h
noncomputable def s101 : FS := S101 s151
noncomputable def a101 : Ann := (.s .o (.s (.s .o (.i (.s .o .o) .o)) (.s .o (.s .o (.s (.s .o (.b (.l [8, 42, 43, 44] (.s .o (.s (.i .o .o) (.s (.b (.s .o .o)) .o)))))) (.s .o .o))))))
set_option maxRecDepth 100000 in
noncomputable def S165 (s101 : FS) : FS := fun args h k => capp 2 (fun x0 x1 h0 =>
 npK .eql x0 .np fun x2 =>
 cdK x2 (
 k (.t [.ns, (.i .i64 9223372036854775820)]) h0) (
 ncK x0 fun x3 =>
 faK 2 x3 fun x4 =>
 ld1 x4 h0 fun x5 =>
 s101 [x5, x1, (.i .i64 9223372036854775818)] h0 fun x6 h1 =>
 k (.t [x6, (.i .i64 9223372036854775808)]) h1)) args h
noncomputable def s165 : FS := S165 s101
noncomputable def a165 : Ann := (.s .o (.s (.s .o (.i (.s .o .o) .o)) (.s .o .o)))
set_option maxRecDepth 100000 in
noncomputable def S97 (s98 : FS) : FS := fun args h k => capp 1 (fun x0 h0 =>
 npK .eql x0 .np fun x1 =>
 cdK x1 (
 k .np h0) (
 ncK x0 fun x2 =>
 ldN 38 x2 h0 fun x3 =>
 boxK 191 38 z191 h0 fun x4 h1 =>
 stL 38 x4 x3 h1 fun h2 =>
 ncK x0 fun x5 =>
 faK 1 x5 fun x6 =>
 ld1 x6 h2 fun x7 =>
 s98 [x7] h2 fun x8 h3 =>
 faK 1 x4 fun x9 =>
 stL 1 x9 x8 h3 fun h4 =>
 k x4 h4)) args h
noncomputable def s97 : FS := S97 s98
noncomputable def a97 : Ann := (.s .o (.s (.s .o (.i (.s .o .o) .o)) (.s .o (.s .o (.s .o .o)))))
set_option maxRecDepth 100000 in
noncomputable def S279 : FS := fun args h k => capp 1 (fun x0 h0 =>
 nsK .eql x0 .ns fun x1 =>
 cdK x1 (
 k .ns h0) (
 bsK 83 5 0 0 [] h0 fun x2 h1 =>
 apK 83 5 x2 x0 h1 fun x3 h2 =>
 k x3 h2)) args h
noncomputable def s279 : FS := S279
noncomputable def a279 : Ann := (.s .o (.s (.s .o (.i (.s .o .o) .o)) (.s .o .o)))
set_option maxRecDepth 100000 in
noncomputable def S248 (s97 s279 : FS) : FS := fun args h k => capp 1 (fun x0 h0 =>
 ncK x0 fun x1 =>
 faK 0 x1 fun x2 =>
 ld1 x2 h0 fun x3 =>
 ncK x0 fun x4 =>
 faK 1 x4 fun x5 =>
 ld1 x5 h0 fun x6 =>
 s97 [x3] h0 fun x7 h1 =>
 s279 [x6] h1 fun x8 h2 =>
 blK [(0, 1, x7), (1, 1, x8)] Z186 fun x9 =>
 boxK 186 2 x9 h2 fun x10 h3 =>
 ld1 x5 h1 fun x11 => ifT (avEq x11 x6) <|
 k x10 h3) args h
noncomputable def s248 : FS := S248 s97 s279
noncomputable def a248 : Ann := (.s .o (.s (.g [0, 1, 2, 3, 5, 6, 7, 8, 4, 9, 10, 11, 12]) .o))
set_option maxRecDepth 100000 in
noncomputable def S239 : FS := fun args h k => capp 2 (fun x0 x1 h0 =>
 lnL x0 fun x2 =>
 lnL x1 fun x3 =>
 ikK .neq x2 x3 fun x4 =>
 cdK x4 (
 k (.b false) h0) (
 lnL x0 fun x5 =>
 capp 4 (lp 4 fun (x6 : CT 4) x7 x8 x9 x10 h1 =>
 ikK .lss x10 x9 fun x11 =>
 cdK x11 (
 iaK 9 x7 x10 fun x12 =>
 ldN 9 x12 h1 fun x13 =>
 iaK 9 x8 x10 fun x14 =>
 ldN 9 x14 h1 fun x15 =>
 sqA .neq 30 x13 x15 fun x16 =>
 cdK x16 (
 k (.b false) h1) (
 ikK .add x10 (.i .i64 9223372036854775809) fun x17 =>
 x6 x7 x8 x9 x17 h1)) (
 k (.b true) h1)) [x0, x1, x5, (.i .i64 9223372036854775808)] h0)) args h
noncomputable def s239 : FS := S239
noncomputable def a239 : Ann := (.s .o (.s (.s .o (.i (.s .o .o) .o)) (.s (.s .o (.b (.l [0, 1, 12, 13] (.s .o (.s (.i .o .o) (.s (.b (.s .o (.s (.g [0, 1, 2, 3, 4, 5, 6, 7, 8]) (.i (.s .o .o) .o)))) .o)))))) (.s .o .o))))
set_option maxRecDepth 100000 in
noncomputable def S201 (s239 : FS) : FS := fun args h k => capp 2 (fun x0 x1 h0 =>
 boxK 83 5 x1 h0 fun x2 h1 =>
 faK 1 x2 fun x3 =>
 faK 0 x3 fun x4 =>
 ld1 x4 h1 fun x5 =>
 ncK x0 fun x6 =>
 faK 1 x6 fun x7 =>
 ld1 x7 h1 fun x8 =>
 ikK .neq x5 x8 fun x9 =>
 cdK x9 (
 k (.b true) h1) (
 faK 1 x2 fun x10 =>
 faK 1 x10 fun x11 =>
 ld1 x11 h1 fun x12 =>
 ikK .geq x12 (.i .i64 9223372036854775809) fun x13 =>
 gdK x13 true (fun k => faK 1 x2 fun y => k y h1) (fun x14 h2 =>
 gdK x13 true (fun k => faK 1 x14 fun y => k y h2) (fun x15 h3 =>
 gdK x13 true (fun k => ld1 x15 h3 fun y => k y h3) (fun x16 h4 =>
 gdK x13 true (fun k => k x0 h4) (fun x17 h5 =>
 gdK x13 true (fun k => ncK x17 fun y => k y h5) (fun x18 h6 =>
 gdK x13 true (fun k => faK 2 x18 fun y => k y h6) (fun x19 h7 =>
 gdK x13 true (fun k => ld1 x19 h7 fun y => k y h7) (fun x20 h8 =>
 gdK x13 true (fun k => lnL x20 fun y => k y h8) (fun x21 h9 =>
 gdK x13 true (fun k => ikK .leq x16 x21 fun y => k y h9) (fun x22 h10 =>
 pkK x13 x22 (.b false) fun x23 =>
 gdK x23 true (fun k => faK 1 x2 fun y => k y h10) (fun x24 h11 =>
 gdK x23 true (fun k => faK 2 x24 fun y => k y h11) (fun x25 h12 =>
 gdK x23 true (fun k => ld1 x25 h12 fun y => k y h12) (fun x26 h13 =>
 gdK x23 true (fun k => k x0 h13) (fun x27 h14 =>
 gdK x23 true (fun k => ncK x27 fun y => k y h14) (fun x28 h15 =>
 gdK x23 true (fun k => faK 2 x28 fun y => k y h15) (fun x29 h16 =>
 gdK x23 true (fun k => ld1 x29 h16 fun y => k y h16) (fun x30 h17 =>
 gdK x23 true (fun k => faK 1 x2 fun y => k y h17) (fun x31 h18 =>
 gdK x23 true (fun k => faK 1 x31 fun y => k y h18) (fun x32 h19 =>
 gdK x23 true (fun k => ld1 x32 h19 fun y => k y h19) (fun x33 h20 =>
 gdK x23 true (fun k => ikK .sub x33 (.i .i64 9223372036854775809) fun y => k y h20) (fun x34 h21 =>
 gdK x23 true (fun k => iaK 3 x30 x34 fun y => k y h21) (fun x35 h22 =>
 gdK x23 true (fun k => faK 2 x35 fun y => k y h22) (fun x36 h23 =>
 gdK x23 true (fun k => ld1 x36 h23 fun y => k y h23) (fun x37 h24 =>
 gdK x23 true (fun k => s239 [x26, x37] h24 k) (fun x38 h25 =>
 pkK x23 x38 (.b false) fun x39 =>
 k x39 h25) h24) h23) h22) h21) h20) h19) h18) h17) h16) h15) h14) h13) h12) h11) h10) h9) h8) h7) h6) h5) h4) h3) h2) h1)) args h
noncomputable def s201 : FS := S201 s239
noncomputable def a201 : Ann := (.s .o (.s (.s (.g [0, 1, 2, 3, 4, 5, 6, 7]) (.i (.s .o .o) .o)) (.s (.g [0, 1, 2, 3, 4, 5, 6, 7, 8, 9, 10, 11, 12, 13, 14, 15, 16, 17, 18, 19, 20, 21, 22, 23, 24, 25, 26, 27, 28, 29, 30, 31, 32]) .o)))
set_option maxRecDepth 100000 in
noncomputable def S250 (s201 : FS) : FS := fun args h k => capp 2 (fun x0 x1 h0 =>
 boxK 83 5 x0 h0 fun x2 h1 =>
 ld1 x1 h1 fun x3 =>
 ldN 5 x2 h1 fun x4 =>
 s201 [x3, x4] h1 fun x5 h2 =>
 notK x5 fun x6 =>
 k x6 h2) args h
noncomputable def s250 : FS := S250 s201
noncomputable def a250 : Ann := (.s .o (.s .o .o))
set_option maxRecDepth 100000 in
noncomputable def S249 (s250 : FS) : FS := fun args h k => capp 2 (fun x0 x1 h0 =>
 lnL x0 fun x2 =>
 capp 4 (lp 4 fun (x3 : CT 4) x4 x5 x6 x7 h1 =>
 ikK .lss x7 x6 fun x8 =>
 cdK x8 (
 iaK 5 x4 x7 fun x9 =>
 ldN 5 x9 h1 fun x10 =>
 clK [(250, s250)] x5 [x10] h1 fun x11 h2 =>
 cdK x11 (
 k x7 h2) (
 ikK .add x7 (.i .i64 9223372036854775809) fun x12 =>
 x3 x4 x5 x6 x12 h2)) (
 k (.i .i64 9223372036854775807) h1)) [x0, x1, x2, (.i .i64 9223372036854775808)] h0) args h
noncomputable def s249 : FS := S249 s250
noncomputable def a249 : Ann := (.s .o (.s (.s .o (.b (.l [0, 1, 7, 8] (.s .o (.s (.i .o .o) (.s (.b (.s .o (.s .o (.i (.s .o .o) .o)))) .o)))))) (.s .o .o)))
noncomputable def s276 : FS := sx
set_option maxRecDepth 100000 in
noncomputable def S178 (s133 : FS) : FS := fun args h k => capp 1 (fun x0 h0 =>
 boxK 83 5 x0 h0 fun x1 h1 =>
 boxK 83 5 z83 h1 fun x2 h2 =>
 faK 1 x1 fun x3 =>
 faK 2 x3 fun x4 =>
 ld1 x4 h2 fun x5 =>
 s133 [x5] h2 fun x6 h3 =>
 faK 1 x1 fun x7 =>
 faK 2 x7 fun x8 =>
 stL 1 x8 x6 h3 fun h4 =>
 ldN 5 x1 h4 fun x9 =>
 stL 5 x2 x9 h4 fun h5 =>
 ldN 5 x2 h5 fun x10 => k x10 h5) args h
noncomputable def s178 : FS := S178 s133
noncomputable def a178 : Ann := (.s .o (.s .o (.s .o .o)))
set_option maxRecDepth 100000 in
noncomputable def S240 (s221 s276 s97 s123 s178 : FS) : FS := fun args h k => capp 2 (fun x0 x1 h0 =>
 boxK 83 5 x1 h0 fun x2 h1 =>
 faK 0 x2 fun x3 =>
 ld1 x3 h1 fun x4 =>
 s221 [x0] h1 fun x5 h2 =>
 ikK .gtr x4 x5 fun x6 =>
 ld1 x3 h2 fun x7 => ifT (avEq x7 x4) <|
 cdK x6 (
 k (.t [(.b false), (.i .i64 9223372036854775810)]) h2) (
 faK 0 x2 fun x8 =>
 ld1 x8 h2 fun x9 =>
 s221 [x0] h2 fun x10 h3 =>
 ikK .lss x9 x10 fun x11 =>
 ld1 x8 h3 fun x12 => ifT (avEq x12 x9) <|
 cdK x11 (
 faK 0 x2 fun x13 =>
 ld1 x13 h3 fun x14 =>
 ikK .lss x14 (.i .i64 9223372036854775809) fun x15 =>
 gdK x15 false (fun k => ldN 5 x2 h3 fun y => k y h3) (fun x16 h4 =>
 gdK x15 false (fun k => k x0 h4) (fun x17 h5 =>
 gdK x15 false (fun k => ncK x17 fun y => k y h5) (fun x18 h6 =>
 gdK x15 false (fun k => faK 1 x18 fun y => k y h6) (fun x19 h7 =>
 gdK x15 false (fun k => ld1 x19 h7 fun y => k y h7) (fun x20 h8 =>
 gdK x15 false (fun k => faK 0 x2 fun y => k y h8) (fun x21 h9 =>
 gdK x15 false (fun k => ld1 x21 h9 fun y => k y h9) (fun x22 h10 =>
 gdK x15 false (fun k => ikK .sub x22 (.i .i64 9223372036854775809) fun y => k y h10) (fun x23 h11 =>
 gdK x15 false (fun k => iaK 5 x20 x23 fun y => k y h11) (fun x24 h12 =>
 gdK x15 false (fun k => ldN 5 x24 h12 fun y => k y h12) (fun x25 h13 =>
 gdK x15 false (fun k => s276 [x16, x25] h13 k) (fun x26 h14 =>
 gdK x15 false (fun k => notK x26 fun y => k y h14) (fun x27 h15 =>
 pkK x15 (.b true) x27 fun x28 =>
 cdK x28 (
 k (.t [(.b false), (.i .i64 9223372036854775809)]) h15) (
 k (.t [(.b false), (.i .i64 9223372036854775808)]) h15)) h14) h13) h12) h11) h10) h9) h8) h7) h6) h5) h4) h3) (
 ncK x0 fun x29 =>
 faK 0 x29 fun x30 =>
 ld1 x30 h3 fun x31 =>
 s97 [x31] h3 fun x32 h16 =>
 faK 1 x2 fun x33 =>
 ldN 3 x33 h16 fun x34 =>
 s123 [x32, x34] h16 fun x35 h17 =>
 exK x35 0 fun x36 =>
 exK x35 1 fun x37 =>
 boxK 83 5 z83 h17 fun x38 h18 =>
 stL 5 x38 x36 h18 fun h19 =>
 notK x37 fun x39 =>
 gdK x39 false (fun k => faK 4 x38 fun y => k y h19) (fun x40 h20 =>
 gdK x39 false (fun k => ld1 x40 h20 fun y => k y h20) (fun x41 h21 =>
 gdK x39 false (fun k => faK 4 x2 fun y => k y h21) (fun x42 h22 =>
 gdK x39 false (fun k => ld1 x42 h22 fun y => k y h22) (fun x43 h23 =>
 gdK x39 false (fun k => ikK .neq x41 x43 fun y => k y h23) (fun x44 h24 =>
 pkK x39 (.b true) x44 fun x45 =>
 cdK x45 (
 k (.t [(.b false), (.i .i64 9223372036854775809)]) h24) (
 ncK x0 fun x46 =>
 faK 0 x46 fun x47 =>
 stL 1 x47 x32 h24 fun h25 =>
 ncK x0 fun x48 =>
 faK 1 x48 fun x49 =>
 ld1 x49 h25 fun x50 =>
 ldN 5 x2 h25 fun x51 =>
 s178 [x51] h25 fun x52 h26 =>
 bsK 83 5 1 5 [x52] h26 fun x53 h27 =>
 apK 83 5 x50 x53 h27 fun x54 h28 =>
 ncK x0 fun x55 =>
 faK 1 x55 fun x56 =>
 stL 1 x56 x54 h28 fun h29 =>
 ld1 x49 h26 fun x57 => ifT (avEq x57 x50) <|
 ld1 x49 h27 fun x58 => ifT (avEq x58 x50) <|
 k (.t [(.b true), (.i .i64 9223372036854775808)]) h29)) h23) h22) h21) h20) h19))) args h
noncomputable def s240 : FS := S240 s221 s276 s97 s123 s178
noncomputable def a240 : Ann := (.s .o (.s (.b (.s (.g [0, 1, 2, 3, 4, 5]) (.i (.s .o .o) (.s (.g [0, 1, 2, 3, 4, 5]) (.i (.s (.s (.g [0, 1, 2, 3, 4, 5, 6, 7, 8, 9, 10, 11, 12, 13, 14, 15, 16]) (.i (.s .o .o) .o)) (.s .o .o)) .o))))) (.s .o (.s .o (.s (.s .o (.i (.s .o .o) .o)) (.s .o (.s (.g [0, 1, 2, 3, 4, 5, 6, 7, 8, 9, 10, 11]) (.s .o .o))))))))
set_option maxRecDepth 100000 in
noncomputable def S202 (s240 : FS) : FS := fun args h k => capp 2 (fun x0 x1 h0 =>
 npK .eql x0 .np fun x2 =>
 cdK x2 (
 k (.t [(.i .i64 9223372036854775808), (.i .i64 9223372036854775820)]) h0) (
 lnL x1 fun x3 =>
 capp 5 (lp 5 fun (x4 : CT 5) x5 x6 x7 x8 x9 h1 =>
 ikK .lss x9 x8 fun x10 =>
 cdK x10 (
 iaK 5 x7 x9 fun x11 =>
 ldN 5 x11 h1 fun x12 =>
 boxK 83 5 z83 h1 fun x13 h2 =>
 stL 5 x13 x12 h2 fun h3 =>
 ldN 5 x13 h3 fun x14 =>
 s240 [x5, x14] h3 fun x15 h4 =>
 exK x15 0 fun x16 =>
 exK x15 1 fun x17 =>
 ikK .neq x17 (.i .i64 9223372036854775808) fun x18 =>
 cdK x18 (
 k (.t [x6, x17]) h4) (
 jn 5 (fun x19 : CT 5 =>
 cdK x16 (
 ikK .add x6 (.i .i64 9223372036854775809) fun x20 =>
 x19 x5 x20 x7 x8 x9 h4) (
 x19 x5 x6 x7 x8 x9 h4)) fun x21 x22 x23 x24 x25 h5 =>
 ikK .add x25 (.i .i64 9223372036854775809) fun x26 =>
 x4 x21 x22 x23 x24 x26 h5)) (
 k (.t [x6, (.i .i64 9223372036854775808)]) h1)) [x0, (.i .i64 9223372036854775808), x1, x3, (.i .i64 9223372036854775808)] h0)) args h
noncomputable def s202 : FS := S202 s240
noncomputable def a202 : Ann := (.s .o (.s (.s .o (.i (.s .o .o) .o)) (.s .o (.s (.s .o (.b (.l [0, 6, 13, 14, 15] (.s .o (.s (.i .o .o) (.s (.b (.s .o (.s .o (.s (.s .o (.i (.s .o .o) .o)) (.s .o (.j [0, 6, 13, 14, 15] .o .o)))))) .o)))))) (.s .o .o)))))
set_option maxRecDepth 100000 in
noncomputable def S105 (s178 : FS) : FS := fun args h k => capp 1 (fun x0 h0 =>
 npK .eql x0 .np fun x1 =>
 cdK x1 (
 k .ns h0) (
 ncK x0 fun x2 =>
 faK 1 x2 fun x3 =>
 ld1 x3 h0 fun x4 =>
 lnL x4 fun x5 =>
 capp 4 (lp 4 fun (x6 : CT 4) x7 x8 x9 x10 h1 =>
 ikK .lss x10 x9 fun x11 =>
 cdK x11 (
 iaK 5 x8 x10 fun x12 =>
 ldN 5 x12 h1 fun x13 =>
 boxK 83 5 z83 h1 fun x14 h2 =>
 stL 5 x14 x13 h2 fun h3 =>
 ldN 5 x14 h3 fun x15 =>
 s178 [x15] h3 fun x16 h4 =>
 bsK 83 5 1 5 [x16] h4 fun x17 h5 =>
 apK 83 5 x7 x17 h5 fun x18 h6 =>
 ikK .add x10 (.i .i64 9223372036854775809) fun x19 =>
 x6 x18 x8 x9 x19 h6) (
 k x7 h1)) [.ns, x4, x5, (.i .i64 9223372036854775808)] h0)) args h
noncomputable def s105 : FS := S105 s178
noncomputable def a105 : Ann := (.s .o (.s (.s .o (.i (.s .o .o) .o)) (.s .o (.s (.s .o (.b (.l [3, 11, 12, 13] (.s .o (.s (.i .o .o) (.s (.b (.s .o .o)) .o)))))) (.s .o .o)))))
set_option maxRecDepth 100000 in
noncomputable def S251 (s117 s68 s71 : FS) : FS := fun args h k => capp 1 (fun x0 h0 =>
 boxK 83 5 x0 h0 fun x1 h1 =>
 faK 0 x1 fun x2 =>
 ld1 x2 h1 fun x3 =>
 faK 4 x1 fun x4 =>
 ld1 x4 h1 fun x5 =>
 s117 [.ns, x3] h1 fun x6 h2 =>
 s117 [x6, x5] h2 fun x7 h3 =>
 ld1 x4 h2 fun x8 => ifT (avEq x8 x5) <|
 faK 1 x1 fun x9 =>
 ldN 3 x9 h3 fun x10 =>
 s68 [x10] h3 fun x11 h4 =>
 apK 5 1 x7 x11 h4 fun x12 h5 =>
 s71 [(.i .i64 9223372036854775810), x12] h5 fun x13 h6 =>
 k x13 h6) args h
noncomputable def s251 : FS := S251 s117 s68 s71
noncomputable def a251 : Ann := (.s .o (.s (.g [0, 1, 3, 4, 2, 5, 6]) (.s .o .o)))
set_option maxRecDepth 100000 in
noncomputable def S222 (s248 s249 s202 s105 s221 s251 s70 : FS) : FS := fun args h k => capp 2 (fun x0 x1 h0 =>
 boxK 96 1 x0 h0 fun x2 h1 =>
 ld1 x2 h1 fun x3 =>
 npK .eql x3 .np fun x4 =>
 cdK x4 (
 k (.t [(.i .i64 9223372036854775808), (.i .i64 9223372036854775820)]) h1) (
 ld1 x2 h1 fun x5 =>
 ncK x5 fun x6 =>
 faK 3 x6 fun x7 =>
 ld1 x7 h1 fun x8 =>
 s248 [x8] h1 fun x9 h2 =>
 s249 [x1, (.f 250 [] [x2])] h2 fun x10 h3 =>
 ikK .lss x10 (.i .i64 9223372036854775808) fun x11 =>
 jn 4 (fun x12 : CT 4 =>
 cdK x11 (
 lnL x1 fun x13 =>
 x12 x1 x2 x9 x13 h3) (
 x12 x1 x2 x9 x10 h3)) fun x14 x15 x16 x17 h4 =>
 sllK 5 none (some x17) none x14 fun x18 =>
 s202 [x16, x18] h4 fun x19 h5 =>
 exK x19 0 fun x20 =>
 exK x19 1 fun x21 =>
 ikK .eql x21 (.i .i64 9223372036854775808) fun x22 =>
 gdK x22 true (fun k => k x17 h5) (fun x23 h6 =>
 gdK x22 true (fun k => k x14 h6) (fun x24 h7 =>
 gdK x22 true (fun k => lnL x24 fun y => k y h7) (fun x25 h8 =>
 gdK x22 true (fun k => ikK .lss x23 x25 fun y => k y h8) (fun x26 h9 =>
 pkK x22 x26 (.b false) fun x27 =>
 jn 4 (fun x28 : CT 4 =>
 cdK x27 (
 x28 x15 x16 x20 (.i .i64 9223372036854775809) h9) (
 x28 x15 x16 x20 x21 h9)) fun x29 x30 x31 x32 h10 =>
 ikK .eql x31 (.i .i64 9223372036854775808) fun x33 =>
 cdK x33 (
 k (.t [(.i .i64 9223372036854775808), x32]) h10) (
 ld1 x29 h10 fun x34 =>
 ncK x34 fun x35 =>
 faK 3 x35 fun x36 =>
 ld1 x36 h10 fun x37 =>
 s105 [x30] h10 fun x38 h11 =>
 s221 [x37] h11 fun x39 h12 =>
 ikK .sub x39 (.i .i64 9223372036854775809) fun x40 =>
 sllK 5 (some x40) none none x38 fun x41 =>
 lnL x41 fun x42 =>
 ld1 x29 h11 fun x43 => ifT (avEq x43 x34) <|
 ld1 x36 h11 fun x44 => ifT (avEq x44 x37) <|
 capp 8 (lp 8 fun (x45 : CT 8) x46 x47 x48 x49 x50 x51 x52 x53 h13 =>
 ikK .lss x53 x52 fun x54 =>
 cdK x54 (
 iaK 5 x51 x53 fun x55 =>
 ldN 5 x55 h13 fun x56 =>
 boxK 83 5 z83 h13 fun x57 h14 =>
 stL 5 x57 x56 h14 fun h15 =>
 ldN 5 x57 h15 fun x58 =>
 s251 [x58] h15 fun x59 h16 =>
 apK 5 1 x50 x59 h16 fun x60 h17 =>
 ikK .add x53 (.i .i64 9223372036854775809) fun x61 =>
 x45 x46 x47 x48 x49 x60 x51 x52 x61 h17) (
 ld1 x46 h13 fun x62 =>
 s70 [x62, x50] h13 fun x63 h18 =>
 ikK .neq x63 (.i .i64 9223372036854775808) fun x64 =>
 cdK x64 (
 k (.t [(.i .i64 9223372036854775808), x63]) h18) (
 ld1 x46 h18 fun x65 =>
 ncK x65 fun x66 =>
 faK 3 x66 fun x67 =>
 stL 1 x67 x47 h18 fun h19 =>
 k (.t [x48, x49]) h19))) [x29, x30, x31, x32, .ns, x41, x42, (.i .i64 9223372036854775808)] h12)) h8) h7) h6) h5)) args h
noncomputable def s222 : FS := S222 s248 s249 s202 s105 s221 s251 s70
noncomputable def a222 : Ann := (.s .o (.s (.s .o (.i (.s .o .o) .o)) (.s .o (.s .o (.s (.s .o (.j [1, 2, 6, 7] .o .o)) (.s .o (.s (.s .o (.j [2, 6, 8, 9] .o .o)) (.s (.s .o (.i (.s .o .o) .o)) (.s .o (.s (.s (.g [0, 2, 3, 4, 5, 10, 1, 6, 7, 8, 9]) (.b (.l [2, 6, 8, 9, 10, 55, 56, 57] (.s .o (.s (.i .o .o) (.s (.b (.s .o .o)) .o)))))) (.s (.s .o (.s .o (.i (.s .o .o) .o))) (.s .o (.s .o .o)))))))))))))
set_option maxRecDepth 100000 in
noncomputable def S167 (s222 : FS) : FS := fun args h k => capp 2 (fun x0 x1 h0 =>
 npK .eql x0 .np fun x2 =>
 cdK x2 (
 k (.t [(.i .i64 9223372036854775808), (.i .i64 9223372036854775820)]) h0) (
 ncK x0 fun x3 =>
 faK 0 x3 fun x4 =>
 ld1 x4 h0 fun x5 =>
 s222 [x5, x1] h0 fun x6 h1 =>
 exK x6 0 fun x7 =>
 exK x6 1 fun x8 =>
 k (.t [x7, x8]) h1)) args h
noncomputable def s167 : FS := S167 s222
noncomputable def a167 : Ann := (.s .o (.s (.s .o (.i (.s .o .o) .o)) (.s .o .o)))
set_option maxRecDepth 100000 in
noncomputable def S95 (s19 s21 s166 s165 s167 : FS) : FS := fun args h k => capp 3 (fun x0 x1 x2 h0 =>
 s19 [x0, x1] h0 fun x3 h1 =>
 s21 [x0, x2] h1 fun x4 h2 =>
 npK .eql x3 .np fun x5 =>
 gdK x5 false (fun k => k x4 h2) (fun x6 h3 =>
 gdK x5 false (fun k => npK .eql x6 .np fun y => k y h3) (fun x7 h4 =>
 pkK x5 (.b true) x7 fun x8 =>
 cdK x8 (
 k (.i .i64 9223372036854775820) h4) (
 s166 [x3] h4 fun x9 h5 =>
 s165 [x4, x9] h5 fun x10 h6 =>
 exK x10 0 fun x11 =>
 exK x10 1 fun x12 =>
 ikK .neq x12 (.i .i64 9223372036854775808) fun x13 =>
 cdK x13 (
 k x12 h6) (
 s167 [x3, x11] h6 fun x14 h7 =>
 exK x14 0 fun x15 =>
 exK x14 1 fun x16 =>
 k x16 h7))) h3) h2) args h
noncomputable def s95 : FS := S95 s19 s21 s166 s165 s167
noncomputable def a95 : Ann := (.s .o (.s .o (.s (.s .o (.i (.s .o .o) .o)) (.s .o (.s (.s .o (.i (.s .o .o) .o)) (.s .o (.s .o .o)))))))
set_option maxRecDepth 100000 in
noncomputable def S93 (s19 s21 s94 s95 : FS) : FS := fun args h k => capp 2 (fun x0 x1 h0 =>
 capp 3 (lp 3 fun (x2 : CT 3) x3 x4 x5 h1 =>
 ikK .leq x5 (.i .i64 9223372036854775813) fun x6 =>
 cdK x6 (
 capp 4 (lp 4 fun (x7 : CT 4) x8 x9 x10 x11 h2 =>
 ikK .leq x11 (.i .i64 9223372036854775815) fun x12 =>
 cdK x12 (
 s19 [x8, x10] h2 fun x13 h3 =>
 npK .neq x13 .np fun x14 =>
 gdK x14 true (fun k => k x8 h3) (fun x15 h4 =>
 gdK x14 true (fun k => k x11 h4) (fun x16 h5 =>
 gdK x14 true (fun k => s21 [x15, x16] h5 k) (fun x17 h6 =>
 gdK x14 true (fun k => npK .neq x17 .np fun y => k y h6) (fun x18 h7 =>
 pkK x14 x18 (.b false) fun x19 =>
 jn 4 (fun x20 : CT 4 =>
 cdK x19 (
 clK [(19, s19), (21, s21), (94, s94), (95, s95)] x9 [x10, x11] h7 fun x21 h8 =>
 x20 x8 x9 x10 x11 h8) (
 x20 x8 x9 x10 x11 h7)) fun x22 x23 x24 x25 h9 =>
 ikK .add x25 (.i .i64 9223372036854775809) fun x26 =>
 x7 x22 x23 x24 x26 h9) h6) h5) h4) h3) (
 ikK .add x10 (.i .i64 9223372036854775809) fun x27 =>
 x2 x8 x9 x27 h2)) [x3, x4, x5, (.i .i64 9223372036854775809)] h1) (
 k (.t []) h1)) [x0, x1, (.i .i64 9223372036854775809)] h0) args h
noncomputable def s93 : FS := S93 s19 s21 s94 s95
noncomputable def a93 : Ann := (.s .o (.b (.l [0, 1, 4] (.s (.s .o (.i .o .o)) (.s (.b (.s .o (.b (.l [0, 1, 4, 5] (.s (.s .o (.i .o .o)) (.s (.b (.s .o (.j [0, 1, 4, 5] .o .o))) .o)))))) .o)))))
set_option maxRecDepth 100000 in
noncomputable def S96 (s19 s168 s166 : FS) : FS := fun args h k => capp 1 (fun x0 h0 =>
 capp 3 (lp 3 fun (x1 : CT 3) x2 x3 x4 h1 =>
 ikK .leq x4 (.i .i64 9223372036854775813) fun x5 =>
 cdK x5 (
 jn 3 (fun x6 : CT 3 =>
 s19 [x2, x4] h1 fun x7 h2 =>
 npK .eql x7 .np fun x8 =>
 cdK x8 (
 x6 x2 x3 x4 h2) (
 s168 [x7] h2 fun x9 h3 =>
 lnL x9 fun x10 =>
 ikK .gtr x10 (.i .i64 9223372036854775808) fun x11 =>
 gdK x11 false (fun k => k x3 h3) (fun x12 h4 =>
 gdK x11 false (fun k => ikK .gtr x12 (.i .i64 9223372036854775808) fun y => k y h4) (fun x13 h5 =>
 gdK x11 false (fun k => k x13 h5) (fun x14 h6 =>
 gdK x14 true (fun k => k x7 h6) (fun x15 h7 =>
 gdK x14 true (fun k => s166 [x15] h7 k) (fun x16 h8 =>
 gdK x14 true (fun k => k x3 h8) (fun x17 h9 =>
 gdK x14 true (fun k => ikK .neq x16 x17 fun y => k y h9) (fun x18 h10 =>
 gdK x11 false (fun k => pkK x14 x18 (.b false) fun y => k y h10) (fun x19 h11 =>
 pkK x11 (.b true) x19 fun x20 =>
 cdK x20 (
 k (.b false) h11) (
 s166 [x7] h11 fun x21 h12 =>
 x6 x2 x21 x4 h12)) h10) h9) h8) h7) h6) h5) h4) h3)) fun x22 x23 x24 h13 =>
 ikK .add x24 (.i .i64 9223372036854775809) fun x25 =>
 x1 x22 x23 x25 h13) (
 k (.b true) h1)) [x0, (.i .i64 9223372036854775808), (.i .i64 9223372036854775809)] h0) args h
noncomputable def s96 : FS := S96 s19 s168 s166
noncomputable def a96 : Ann := (.s .o (.s .o (.s (.s .o (.b (.l [0, 3, 4] (.s (.s .o (.i .o .o)) (.s (.k [0, 3, 4] (.s .o (.s (.s .o (.i .o .o)) (.s (.s .o (.i (.s .o .o) .o)) .o)))) .o))))) (.s .o .o))))
set_option maxRecDepth 100000 in
noncomputable def S42 (s92 s21 s10 s53 s93 s96 : FS) : FS := fun args h k => capp 1 (fun x0 h0 =>
 npK .eql x0 .np fun x1 =>
 cdK x1 (
 k (.b false) h0) (
 s92 [x0] h0 fun x2 h1 =>
 capp 2 (lp 2 fun (x3 : CT 2) x4 x5 h2 =>
 ikK .leq x5 (.i .i64 9223372036854775815) fun x6 =>
 cdK x6 (
 s21 [x4, x5] h2 fun x7 h3 =>
 npK .neq x7 .np fun x8 =>
 jn 2 (fun x9 : CT 2 =>
 cdK x8 (
 s10 [x4, x5] h3 fun x10 h4 =>
 s53 [x4, (.i .i64 9223372036854780808)] h4 fun x11 h5 =>
 x9 x4 x5 h5) (
 x9 x4 x5 h3)) fun x12 x13 h6 =>
 ikK .add x13 (.i .i64 9223372036854775809) fun x14 =>
 x3 x12 x14 h6) (
 capp 2 (lp 2 fun (x15 : CT 2) x16 x17 h7 =>
 ikK .lss x17 (.i .i64 9223372036854775848) fun x18 =>
 cdK x18 (
 s93 [x16, (.f 94 [x16] [])] h7 fun x19 h8 =>
 s53 [x16, (.i .i64 9223372036854780808)] h8 fun x20 h9 =>
 s93 [x16, (.f 95 [x16] [])] h9 fun x21 h10 =>
 s92 [x16] h10 fun x22 h11 =>
 ikK .add x17 (.i .i64 9223372036854775809) fun x23 =>
 x15 x16 x23 h11) (
 s96 [x16] h7 fun x24 h12 =>
 k x24 h12)) [x4, (.i .i64 9223372036854775808)] h2)) [x0, (.i .i64 9223372036854775809)] h1)) args h
noncomputable def s42 : FS := S42 s92 s21 s10 s53 s93 s96
noncomputable def a42 : Ann := (.s .o (.s (.s .o (.i (.s .o .o) .o)) (.s .o (.s (.s .o (.b (.l [0, 3] (.s (.s .o (.i .o .o)) (.s (.b (.s .o (.j [0, 3] (.s .o .o) .o))) .o))))) (.s (.s .o (.b (.l [0, 21] (.s .o (.s (.i .o .o) (.s (.b (.s .o (.s .o (.s .o .o)))) .o)))))) (.s .o .o))))))
set_option maxRecDepth 100000 in
noncomputable def S26 (s42 : FS) : FS := fun args h k => capp 2 (fun x0 x1 h0 =>
 mmL mxK [(.i .i64 9223372036854775808)] x1 fun x2 =>
 mmL mnK [(.i .i64 9223372036854775848)] x2 fun x3 =>
 capp 3 (lp 3 fun (x4 : CT 3) x5 x6 x7 h1 =>
 ikK .lss x7 x6 fun x8 =>
 cdK x8 (
 s42 [x5] h1 fun x9 h2 =>
 cdK x9 (
 k (.b true) h2) (
 ikK .add x7 (.i .i64 9223372036854775809) fun x10 =>
 x4 x5 x6 x10 h2)) (
 k (.b false) h1)) [x0, x3, (.i .i64 9223372036854775808)] h0) args h
noncomputable def s26 : FS := S26 s42
noncomputable def a26 : Ann := (.s .o (.s (.s .o (.b (.l [0, 7, 8] (.s .o (.s (.i .o .o) (.s (.b (.s .o (.i (.s .o .o) .o))) .o)))))) (.s .o .o)))
set_option maxRecDepth 100000 in
noncomputable def S14 (s26 : FS) : FS := fun args h k => capp 1 (fun x0 h0 =>
 ncK x0 fun x1 =>
 faK 3 x1 fun x2 =>
 ld1 x2 h0 fun x3 =>
 gdK x3 true (fun k => k x0 h0) (fun x4 h1 =>
 gdK x3 true (fun k => ncK x4 fun y => k y h1) (fun x5 h2 =>
 gdK x3 true (fun k => faK 0 x5 fun y => k y h2) (fun x6 h3 =>
 gdK x3 true (fun k => ld1 x6 h3 fun y => k y h3) (fun x7 h4 =>
 gdK x3 true (fun k => s26 [x7, (.i .i64 9223372036854775820)] h4 k) (fun x8 h5 =>
 pkK x3 x8 (.b false) fun x9 =>
 ncK x0 fun x10 =>
 faK 3 x10 fun x11 =>
 stL 1 x11 x9 h5 fun h6 =>
 k (.t []) h6) h4) h3) h2) h1) h0) args h
noncomputable def s14 : FS := S14 s26
noncomputable def a14 : Ann := .o
set_option maxRecDepth 100000 in
noncomputable def S44 (s97 : FS) : FS := fun args h k => capp 1 (fun x0 h0 =>
 npK .eql x0 .np fun x1 =>
 cdK x1 (
 k .np h0) (
 ncK x0 fun x2 =>
 faK 0 x2 fun x3 =>
 ld1 x3 h0 fun x4 =>
 s97 [x4] h0 fun x5 h1 =>
 k x5 h1)) args h
noncomputable def s44 : FS := S44 s97
noncomputable def a44 : Ann := (.s .o (.s (.s .o (.i (.s .o .o) .o)) (.s .o .o)))
set_option maxRecDepth 100000 in
noncomputable def S45 (s98 : FS) : FS := fun args h k => capp 1 (fun x0 h0 =>
 npK .eql x0 .np fun x1 =>
 cdK x1 (
 k .np h0) (
 ncK x0 fun x2 =>
 faK 1 x2 fun x3 =>
 ld1 x3 h0 fun x4 =>
 s98 [x4] h0 fun x5 h1 =>
 k x5 h1)) args h
noncomputable def s45 : FS := S45 s98
noncomputable def a45 : Ann := (.s .o (.s (.s .o (.i (.s .o .o) .o)) (.s .o .o)))
set_option maxRecDepth 100000 in
noncomputable def S27 (s43 s44 s45 : FS) : FS := fun args h k => capp 1 (fun x0 h0 =>
 npK .eql x0 .np fun x1 =>
 cdK x1 (
 k .np h0) (
 ncK x0 fun x2 =>
 faK 0 x2 fun x3 =>
 ld1 x3 h0 fun x4 =>
 s43 [x4] h0 fun x5 h1 =>
 s44 [x5] h1 fun x6 h2 =>
 s45 [x6] h2 fun x7 h3 =>
 k x7 h3)) args h
noncomputable def s27 : FS := S27 s43 s44 s45
noncomputable def a27 : Ann := (.s .o (.s (.s .o (.i (.s .o .o) .o)) (.s .o .o)))
set_option maxRecDepth 100000 in
noncomputable def S47 : FS := fun args h k => capp 1 (fun x0 h0 =>
 boxK 119 1 x0 h0 fun x1 h1 =>
 boxK 28 3 z28 h1 fun x2 h2 =>
 faK 0 x1 fun x3 =>
 ld1 x3 h2 fun x4 =>
 taK 192 (.i .i64 9223372036854775808) x4 fun x5 =>
 exK x5 1 fun x6 =>
 exK x5 0 fun x7 =>
 cdK x6 (
 blK [(0, 1, (.i .i64 9223372036854775809)), (1, 1, x7)] Z28 fun x8 =>
 stL 3 x2 x8 h2 fun h3 =>
 ldN 3 x2 h3 fun x9 => k x9 h3) (
 taK 193 (.s 0 []) x4 fun x10 =>
 exK x10 1 fun x11 =>
 exK x10 0 fun x12 =>
 cdK x11 (
 blK [(0, 1, (.i .i64 9223372036854775810)), (2, 1, x12)] Z28 fun x13 =>
 stL 3 x2 x13 h2 fun h4 =>
 ldN 3 x2 h4 fun x14 => k x14 h4) (
 blK [] Z28 fun x15 =>
 stL 3 x2 x15 h2 fun h5 =>
 ldN 3 x2 h5 fun x16 => k x16 h5))) args h
noncomputable def s47 : FS := S47
noncomputable def a47 : Ann := (.s .o (.s (.s .o (.b (.s .o (.i (.s .o (.s .o .o)) (.s .o (.i (.s .o (.s .o .o)) .o)))))) (.s .o .o)))
set_option maxRecDepth 100000 in
noncomputable def S28 (s46 s47 : FS) : FS := fun args h k => capp 2 (fun x0 x1 h0 =>
 boxK 28 3 z28 h0 fun x2 h1 =>
 npK .eql x0 .np fun x3 =>
 gdK x3 false (fun k => k x0 h1) (fun x4 h2 =>
 gdK x3 false (fun k => k x1 h2) (fun x5 h3 =>
 gdK x3 false (fun k => s46 [x4, x5] h3 k) (fun x6 h4 =>
 gdK x3 false (fun k => notK x6 fun y => k y h4) (fun x7 h5 =>
 pkK x3 (.b true) x7 fun x8 =>
 cdK x8 (
 blK [] Z28 fun x9 =>
 stL 3 x2 x9 h5 fun h6 =>
 ldN 3 x2 h6 fun x10 => k (.t [x10, (.b false)]) h6) (
 ncK x0 fun x11 =>
 faK 0 x11 fun x12 =>
 ld1 x12 h5 fun x13 =>
 lkK true false (.a [.ni]) x13 x1 h5 fun x14 =>
 s47 [x14] h5 fun x15 h7 =>
 stL 3 x2 x15 h7 fun h8 =>
 ldN 3 x2 h8 fun x16 => k (.t [x16, (.b true)]) h8)) h4) h3) h2) h1) args h
noncomputable def s28 : FS := S28 s46 s47
noncomputable def a28 : Ann := (.s .o (.s (.s .o (.i (.s .o .o) .o)) (.s .o .o)))
set_option maxRecDepth 100000 in
noncomputable def S15 (s19 s27 s28 : FS) : FS := fun args h k => capp 4 (fun x0 x1 x2 x3 h0 =>
 ncK x0 fun x4 =>
 faK 0 x4 fun x5 =>
 ld1 x5 h0 fun x6 =>
 s19 [x6, x1] h0 fun x7 h1 =>
 npK .eql x7 .np fun x8 =>
 cdK x8 (
 k (.b false) h1) (
 s27 [x7] h1 fun x9 h2 =>
 s28 [x9, x2] h2 fun x10 h3 =>
 exK x10 0 fun x11 =>
 exK x10 1 fun x12 =>
 boxK 28 3 z28 h3 fun x13 h4 =>
 stL 3 x13 x11 h4 fun h5 =>
 gdK x12 true (fun k => faK 0 x13 fun y => k y h5) (fun x14 h6 =>
 gdK x12 true (fun k => ld1 x14 h6 fun y => k y h6) (fun x15 h7 =>
 gdK x12 true (fun k => ikK .eql x15 (.i .i64 9223372036854775809) fun y => k y h7) (fun x16 h8 =>
 pkK x12 x16 (.b false) fun x17 =>
 gdK x17 true (fun k => faK 1 x13 fun y => k y h8) (fun x18 h9 =>
 gdK x17 true (fun k => ld1 x18 h9 fun y => k y h9) (fun x19 h10 =>
 gdK x17 true (fun k => k x3 h10) (fun x20 h11 =>
 gdK x17 true (fun k => ikK .eql x19 x20 fun y => k y h11) (fun x21 h12 =>
 pkK x17 x21 (.b false) fun x22 =>
 k x22 h12) h11) h10) h9) h8) h7) h6) h5)) args h
noncomputable def s15 : FS := S15 s19 s27 s28
noncomputable def a15 : Ann := (.s .o (.s .o (.s (.s .o (.i (.s .o .o) .o)) (.s .o (.s .o .o)))))
set_option maxRecDepth 100000 in
noncomputable def S100 : FS := fun args h k => capp 1 (fun x0 h0 =>
 npK .eql x0 .np fun x1 =>
 cdK x1 (
 k .np h0) (
 ncK x0 fun x2 =>
 faK 2 x2 fun x3 =>
 ld1 x3 h0 fun x4 =>
 k x4 h0)) args h
noncomputable def s100 : FS := S100
noncomputable def a100 : Ann := (.s .o (.s (.s .o (.i (.s .o .o) .o)) (.s .o .o)))
set_option maxRecDepth 100000 in
noncomputable def S48 (s100 s101 : FS) : FS := fun args h k => capp 1 (fun x0 h0 =>
 capp 2 (lp 2 fun (x1 : CT 2) x2 x3 h1 =>
 s100 [x2] h1 fun x4 h2 =>
 lnL x3 fun x5 =>
 ikK .add x5 (.i .i64 9223372036854775809) fun x6 =>
 s101 [x4, x6, (.i .i64 9223372036854775818)] h2 fun x7 h3 =>
 lnL x7 fun x8 =>
 ikK .eql x8 (.i .i64 9223372036854775808) fun x9 =>
 gdK x9 false (fun k => k x3 h3) (fun x10 h4 =>
 gdK x9 false (fun k => lnL x10 fun y => k y h4) (fun x11 h5 =>
 gdK x9 false (fun k => ikK .gtr x11 (.i .i64 9223372036854777808) fun y => k y h5) (fun x12 h6 =>
 pkK x9 (.b true) x12 fun x13 =>
 cdK x13 (
 k x3 h6) (
 apK 83 5 x3 x7 h6 fun x14 h7 =>
 x1 x2 x14 h7)) h5) h4) h3) [x0, .ns] h0) args h
noncomputable def s48 : FS := S48 s100 s101
noncomputable def a48 : Ann := (.s .o (.s .o (.b (.l [0, 3] (.b (.s .o (.s (.s .o (.i (.s .o .o) .o)) .o)))))))
set_option maxRecDepth 100000 in
noncomputable def S29 (s21 s48 : FS) : FS := fun args h k => capp 2 (fun x0 x1 h0 =>
 ncK x0 fun x2 =>
 faK 0 x2 fun x3 =>
 ld1 x3 h0 fun x4 =>
 s21 [x4, x1] h0 fun x5 h1 =>
 npK .eql x5 .np fun x6 =>
 cdK x6 (
 k .ns h1) (
 s48 [x5] h1 fun x7 h2 =>
 k x7 h2)) args h
noncomputable def s29 : FS := S29 s21 s48
noncomputable def a29 : Ann := (.s .o (.s .o (.s (.s .o (.i (.s .o .o) .o)) (.s .o .o))))
set_option maxRecDepth 100000 in
noncomputable def S175 : FS := fun args h k => capp 2 (fun x0 x1 h0 =>
 boxK 28 3 x0 h0 fun x2 h1 =>
 boxK 28 3 x1 h1 fun x3 h2 =>
 faK 0 x2 fun x4 =>
 ld1 x4 h2 fun x5 =>
 faK 0 x3 fun x6 =>
 ld1 x6 h2 fun x7 =>
 ikK .eql x5 x7 fun x8 =>
 gdK x8 true (fun k => faK 1 x2 fun y => k y h2) (fun x9 h3 =>
 gdK x8 true (fun k => ld1 x9 h3 fun y => k y h3) (fun x10 h4 =>
 gdK x8 true (fun k => faK 1 x3 fun y => k y h4) (fun x11 h5 =>
 gdK x8 true (fun k => ld1 x11 h5 fun y => k y h5) (fun x12 h6 =>
 gdK x8 true (fun k => ikK .eql x10 x12 fun y => k y h6) (fun x13 h7 =>
 pkK x8 x13 (.b false) fun x14 =>
 gdK x14 true (fun k => faK 2 x2 fun y => k y h7) (fun x15 h8 =>
 gdK x14 true (fun k => ld1 x15 h8 fun y => k y h8) (fun x16 h9 =>
 gdK x14 true (fun k => faK 2 x3 fun y => k y h9) (fun x17 h10 =>
 gdK x14 true (fun k => ld1 x17 h10 fun y => k y h10) (fun x18 h11 =>
 gdK x14 true (fun k => stK .eql x16 x18 fun y => k y h11) (fun x19 h12 =>
 pkK x14 x19 (.b false) fun x20 =>
 k x20 h12) h11) h10) h9) h8) h7) h6) h5) h4) h3) h2) args h
noncomputable def s175 : FS := S175
noncomputable def a175 : Ann := (.s .o (.s .o .o))
set_option maxRecDepth 100000 in
noncomputable def S104 (s175 : FS) : FS := fun args h k => capp 2 (fun x0 x1 h0 =>
 boxK 49 3 x0 h0 fun x2 h1 =>
 boxK 49 3 x1 h1 fun x3 h2 =>
 faK 0 x2 fun x4 =>
 ld1 x4 h2 fun x5 =>
 faK 0 x3 fun x6 =>
 ld1 x6 h2 fun x7 =>
 ikK .neq x5 x7 fun x8 =>
 gdK x8 false (fun k => faK 1 x2 fun y => k y h2) (fun x9 h3 =>
 gdK x8 false (fun k => ld1 x9 h3 fun y => k y h3) (fun x10 h4 =>
 gdK x8 false (fun k => faK 1 x3 fun y => k y h4) (fun x11 h5 =>
 gdK x8 false (fun k => ld1 x11 h5 fun y => k y h5) (fun x12 h6 =>
 gdK x8 false (fun k => ikK .neq x10 x12 fun y => k y h6) (fun x13 h7 =>
 pkK x8 (.b true) x13 fun x14 =>
 gdK x14 false (fun k => faK 2 x2 fun y => k y h7) (fun x15 h8 =>
 gdK x14 false (fun k => ld1 x15 h8 fun y => k y h8) (fun x16 h9 =>
 gdK x14 false (fun k => lnL x16 fun y => k y h9) (fun x17 h10 =>
 gdK x14 false (fun k => faK 2 x3 fun y => k y h10) (fun x18 h11 =>
 gdK x14 false (fun k => ld1 x18 h11 fun y => k y h11) (fun x19 h12 =>
 gdK x14 false (fun k => lnL x19 fun y => k y h12) (fun x20 h13 =>
 gdK x14 false (fun k => ikK .neq x17 x20 fun y => k y h13) (fun x21 h14 =>
 pkK x14 (.b true) x21 fun x22 =>
 cdK x22 (
 k (.b false) h14) (
 capp 3 (lp 3 fun (x23 : CT 3) x24 x25 x26 h15 =>
 faK 2 x24 fun x27 =>
 ld1 x27 h15 fun x28 =>
 lnL x28 fun x29 =>
 ikK .lss x26 x29 fun x30 =>
 cdK x30 (
 faK 2 x24 fun x31 =>
 ld1 x31 h15 fun x32 =>
 iaK 9 x32 x26 fun x33 =>
 ldN 9 x33 h15 fun x34 =>
 faK 2 x25 fun x35 =>
 ld1 x35 h15 fun x36 =>
 iaK 9 x36 x26 fun x37 =>
 ldN 9 x37 h15 fun x38 =>
 boxK 30 9 z30 h15 fun x39 h16 =>
 boxK 30 9 z30 h16 fun x40 h17 =>
 stL 9 x39 x34 h17 fun h18 =>
 stL 9 x40 x38 h18 fun h19 =>
 ld1 x31 h16 fun x41 => ifT (avEq x41 x32) <|
 ld1 x31 h17 fun x42 => ifT (avEq x42 x32) <|
 ldN 9 x33 h16 fun x43 => ifT (avEq x43 x34) <|
 ldN 9 x33 h17 fun x44 => ifT (avEq x44 x34) <|
 ld1 x35 h16 fun x45 => ifT (avEq x45 x36) <|
 ld1 x35 h17 fun x46 => ifT (avEq x46 x36) <|
 ld1 x35 h18 fun x47 => ifT (avEq x47 x36) <|
 ldN 9 x37 h16 fun x48 => ifT (avEq x48 x38) <|
 ldN 9 x37 h17 fun x49 => ifT (avEq x49 x38) <|
 ldN 9 x37 h18 fun x50 => ifT (avEq x50 x38) <|
 faK 0 x39 fun x51 =>
 ld1 x51 h19 fun x52 =>
 faK 0 x40 fun x53 =>
 ld1 x53 h19 fun x54 =>
 ikK .neq x52 x54 fun x55 =>
 gdK x55 false (fun k => faK 1 x39 fun y => k y h19) (fun x56 h20 =>
 gdK x55 false (fun k => ld1 x56 h20 fun y => k y h20) (fun x57 h21 =>
 gdK x55 false (fun k => faK 1 x40 fun y => k y h21) (fun x58 h22 =>
 gdK x55 false (fun k => ld1 x58 h22 fun y => k y h22) (fun x59 h23 =>
 gdK x55 false (fun k => stK .neq x57 x59 fun y => k y h23) (fun x60 h24 =>
 pkK x55 (.b true) x60 fun x61 =>
 gdK x61 false (fun k => faK 2 x39 fun y => k y h24) (fun x62 h25 =>
 gdK x61 false (fun k => ldN 3 x62 h25 fun y => k y h25) (fun x63 h26 =>
 gdK x61 false (fun k => faK 2 x40 fun y => k y h26) (fun x64 h27 =>
 gdK x61 false (fun k => ldN 3 x64 h27 fun y => k y h27) (fun x65 h28 =>
 gdK x61 false (fun k => s175 [x63, x65] h28 k) (fun x66 h29 =>
 gdK x61 false (fun k => notK x66 fun y => k y h29) (fun x67 h30 =>
 pkK x61 (.b true) x67 fun x68 =>
 gdK x68 false (fun k => faK 5 x39 fun y => k y h30) (fun x69 h31 =>
 gdK x68 false (fun k => ldN 3 x69 h31 fun y => k y h31) (fun x70 h32 =>
 gdK x68 false (fun k => faK 5 x40 fun y => k y h32) (fun x71 h33 =>
 gdK x68 false (fun k => ldN 3 x71 h33 fun y => k y h33) (fun x72 h34 =>
 gdK x68 false (fun k => s175 [x70, x72] h34 k) (fun x73 h35 =>
 gdK x68 false (fun k => notK x73 fun y => k y h35) (fun x74 h36 =>
 pkK x68 (.b true) x74 fun x75 =>
 gdK x75 false (fun k => faK 8 x39 fun y => k y h36) (fun x76 h37 =>
 gdK x75 false (fun k => ld1 x76 h37 fun y => k y h37) (fun x77 h38 =>
 gdK x75 false (fun k => faK 8 x40 fun y => k y h38) (fun x78 h39 =>
 gdK x75 false (fun k => ld1 x78 h39 fun y => k y h39) (fun x79 h40 =>
 gdK x75 false (fun k => ikK .neq x77 x79 fun y => k y h40) (fun x80 h41 =>
 pkK x75 (.b true) x80 fun x81 =>
 cdK x81 (
 k (.b false) h41) (
 ikK .add x26 (.i .i64 9223372036854775809) fun x82 =>
 x23 x24 x25 x82 h41)) h40) h39) h38) h37) h36) h35) h34) h33) h32) h31) h30) h29) h28) h27) h26) h25) h24) h23) h22) h21) h20) h19) (
 k (.b true) h15)) [x2, x3, (.i .i64 9223372036854775808)] h14)) h13) h12) h11) h10) h9) h8) h7) h6) h5) h4) h3) h2) args h
noncomputable def s104 : FS := S104 s175
noncomputable def a104 : Ann := (.s .o (.s (.s .o (.i (.s .o .o) .o)) (.s (.s .o (.b (.l [2, 3, 5] (.s (.s .o (.i .o .o)) (.s (.b (.s (.g [0, 1, 2, 3, 4, 5, 6, 7, 8, 9, 10, 11, 12, 13]) (.s .o (.i (.s .o .o) .o)))) .o))))) (.s .o .o))))
set_option maxRecDepth 100000 in
noncomputable def S51 (s104 : FS) : FS := fun args h k => capp 2 (fun x0 x1 h0 =>
 boxK 83 5 x0 h0 fun x2 h1 =>
 boxK 83 5 x1 h1 fun x3 h2 =>
 faK 0 x2 fun x4 =>
 ld1 x4 h2 fun x5 =>
 faK 0 x3 fun x6 =>
 ld1 x6 h2 fun x7 =>
 ikK .eql x5 x7 fun x8 =>
 gdK x8 true (fun k => faK 4 x2 fun y => k y h2) (fun x9 h3 =>
 gdK x8 true (fun k => ld1 x9 h3 fun y => k y h3) (fun x10 h4 =>
 gdK x8 true (fun k => faK 4 x3 fun y => k y h4) (fun x11 h5 =>
 gdK x8 true (fun k => ld1 x11 h5 fun y => k y h5) (fun x12 h6 =>
 gdK x8 true (fun k => ikK .eql x10 x12 fun y => k y h6) (fun x13 h7 =>
 pkK x8 x13 (.b false) fun x14 =>
 gdK x14 true (fun k => faK 1 x2 fun y => k y h7) (fun x15 h8 =>
 gdK x14 true (fun k => ldN 3 x15 h8 fun y => k y h8) (fun x16 h9 =>
 gdK x14 true (fun k => faK 1 x3 fun y => k y h9) (fun x17 h10 =>
 gdK x14 true (fun k => ldN 3 x17 h10 fun y => k y h10) (fun x18 h11 =>
 gdK x14 true (fun k => s104 [x16, x18] h11 k) (fun x19 h12 =>
 pkK x14 x19 (.b false) fun x20 =>
 k x20 h12) h11) h10) h9) h8) h7) h6) h5) h4) h3) h2) args h
noncomputable def s51 : FS := S51 s104
noncomputable def a51 : Ann := (.s .o (.s .o .o))
set_option maxRecDepth 100000 in
noncomputable def S49 (s51 : FS) : FS := fun args h k => capp 2 (fun x0 x1 h0 =>
 lnL x0 fun x2 =>
 lnL x1 fun x3 =>
 ikK .neq x2 x3 fun x4 =>
 cdK x4 (
 k (.b false) h0) (
 capp 3 (lp 3 fun (x5 : CT 3) x6 x7 x8 h1 =>
 lnL x6 fun x9 =>
 ikK .lss x8 x9 fun x10 =>
 cdK x10 (
 iaK 5 x6 x8 fun x11 =>
 ldN 5 x11 h1 fun x12 =>
 iaK 5 x7 x8 fun x13 =>
 ldN 5 x13 h1 fun x14 =>
 s51 [x12, x14] h1 fun x15 h2 =>
 notK x15 fun x16 =>
 cdK x16 (
 k (.b false) h2) (
 ikK .add x8 (.i .i64 9223372036854775809) fun x17 =>
 x5 x6 x7 x17 h2)) (
 k (.b true) h1)) [x0, x1, (.i .i64 9223372036854775808)] h0)) args h
noncomputable def s49 : FS := S49 s51
noncomputable def a49 : Ann := (.s .o (.s (.s .o (.i (.s .o .o) .o)) (.s (.s .o (.b (.l [0, 1, 5] (.s (.s .o (.i .o .o)) (.s (.b (.s (.g [0, 1, 2, 3, 4, 5, 6, 7, 8, 9]) (.i (.s .o .o) .o))) .o))))) (.s .o .o))))
set_option maxRecDepth 100000 in
noncomputable def S30 (s49 : FS) : FS := fun args h k => capp 2 (fun x0 x1 h0 =>
 lnL x0 fun x2 =>
 lnL x1 fun x3 =>
 ikK .leq x2 x3 fun x4 =>
 gdK x4 true (fun k => k x0 h0) (fun x5 h1 =>
 gdK x4 true (fun k => k x1 h1) (fun x6 h2 =>
 gdK x4 true (fun k => k x0 h2) (fun x7 h3 =>
 gdK x4 true (fun k => lnL x7 fun y => k y h3) (fun x8 h4 =>
 gdK x4 true (fun k => sllK 5 none (some x8) none x6 fun y => k y h4) (fun x9 h5 =>
 gdK x4 true (fun k => s49 [x5, x9] h5 k) (fun x10 h6 =>
 pkK x4 x10 (.b false) fun x11 =>
 k x11 h6) h5) h4) h3) h2) h1) h0) args h
noncomputable def s30 : FS := S30 s49
noncomputable def a30 : Ann := (.s .o (.s .o .o))
set_option maxRecDepth 100000 in
noncomputable def S280 : FS := fun args h k => capp 1 (fun x0 h0 =>
 stK .eql x0 (.s 0 []) fun x1 =>
 cdK x1 (
 k (.t [(.i .i32 9223372036854841341), (.i .i64 9223372036854775808)]) h0) (
 ixK x0 (.i .i64 9223372036854775808) fun x2 =>
 ikK .lss x2 (.i .u8 9223372036854775936) fun x3 =>
 cdK x3 (
 ciK .i32 x2 fun x4 =>
 k (.t [x4, (.i .i64 9223372036854775809)]) h0) (
 ikK .geq x2 (.i .u8 9223372036854776000) fun x5 =>
 gdK x5 true (fun k => k x2 h0) (fun x6 h1 =>
 gdK x5 true (fun k => ikK .lss x6 (.i .u8 9223372036854776032) fun y => k y h1) (fun x7 h2 =>
 pkK x5 x7 (.b false) fun x8 =>
 jn 4 (fun x9 : CT 4 =>
 cdK x8 (
 ciK .i32 x2 fun x10 =>
 ikK .sub x10 (.i .i32 9223372036854776000) fun x11 =>
 x9 x0 (.i .i64 9223372036854775810) (.i .i32 9223372036854775936) x11 h2) (
 ikK .geq x2 (.i .u8 9223372036854776032) fun x12 =>
 gdK x12 true (fun k => k x2 h2) (fun x13 h3 =>
 gdK x12 true (fun k => ikK .lss x13 (.i .u8 9223372036854776048) fun y => k y h3) (fun x14 h4 =>
 pkK x12 x14 (.b false) fun x15 =>
 cdK x15 (
 ciK .i32 x2 fun x16 =>
 ikK .sub x16 (.i .i32 9223372036854776032) fun x17 =>
 x9 x0 (.i .i64 9223372036854775811) (.i .i32 9223372036854777856) x17 h4) (
 ikK .geq x2 (.i .u8 9223372036854776048) fun x18 =>
 gdK x18 true (fun k => k x2 h4) (fun x19 h5 =>
 gdK x18 true (fun k => ikK .lss x19 (.i .u8 9223372036854776056) fun y => k y h5) (fun x20 h6 =>
 pkK x18 x20 (.b false) fun x21 =>
 cdK x21 (
 ciK .i32 x2 fun x22 =>
 ikK .sub x22 (.i .i32 9223372036854776048) fun x23 =>
 x9 x0 (.i .i64 9223372036854775812) (.i .i32 9223372036854841344) x23 h6) (
 k (.t [(.i .i32 9223372036854841341), (.i .i64 9223372036854775809)]) h6)) h5) h4)) h3) h2)) fun x24 x25 x26 x27 h7 =>
 lnS x24 fun x28 =>
 ikK .lss x28 x25 fun x29 =>
 cdK x29 (
 k (.t [(.i .i32 9223372036854841341), (.i .i64 9223372036854775809)]) h7) (
 capp 5 (lp 5 fun (x30 : CT 5) x31 x32 x33 x34 x35 h8 =>
 ikK .lss x35 x32 fun x36 =>
 cdK x36 (
 ixK x31 x35 fun x37 =>
 ikK .lss x37 (.i .u8 9223372036854775936) fun x38 =>
 gdK x38 false (fun k => k x31 h8) (fun x39 h9 =>
 gdK x38 false (fun k => k x35 h9) (fun x40 h10 =>
 gdK x38 false (fun k => ixK x39 x40 fun y => k y h10) (fun x41 h11 =>
 gdK x38 false (fun k => ikK .gtr x41 (.i .u8 9223372036854775999) fun y => k y h11) (fun x42 h12 =>
 pkK x38 (.b true) x42 fun x43 =>
 cdK x43 (
 k (.t [(.i .i32 9223372036854841341), (.i .i64 9223372036854775809)]) h12) (
 ikK .mul x34 (.i .i32 9223372036854775872) fun x44 =>
 ixK x31 x35 fun x45 =>
 ciK .i32 x45 fun x46 =>
 ikK .add x44 x46 fun x47 =>
 ikK .sub x47 (.i .i32 9223372036854775936) fun x48 =>
 ikK .add x35 (.i .i64 9223372036854775809) fun x49 =>
 x30 x31 x32 x33 x48 x49 h12)) h11) h10) h9) h8) (
 ikK .lss x34 x33 fun x50 =>
 gdK x50 false (fun k => k x34 h8) (fun x51 h13 =>
 gdK x50 false (fun k => ikK .gtr x51 (.i .i32 9223372036855889919) fun y => k y h13) (fun x52 h14 =>
 pkK x50 (.b true) x52 fun x53 =>
 gdK x53 false (fun k => k x34 h14) (fun x54 h15 =>
 gdK x53 false (fun k => ikK .geq x54 (.i .i32 9223372036854831104) fun y => k y h15) (fun x55 h16 =>
 gdK x53 false (fun k => k x55 h16) (fun x56 h17 =>
 gdK x56 true (fun k => k x34 h17) (fun x57 h18 =>
 gdK x56 true (fun k => ikK .lss x57 (.i .i32 9223372036854833152) fun y => k y h18) (fun x58 h19 =>
 gdK x53 false (fun k => pkK x56 x58 (.b false) fun y => k y h19) (fun x59 h20 =>
 pkK x53 (.b true) x59 fun x60 =>
 cdK x60 (
 k (.t [(.i .i32 9223372036854841341), (.i .i64 9223372036854775809)]) h20) (
 k (.t [x34, x32]) h20)) h19) h18) h17) h16) h15) h14) h13) h8)) [x24, x25, x26, x27, (.i .i64 9223372036854775809)] h7)) h1) h0))) args h
noncomputable def s280 : FS := S280
noncomputable def a280 : Ann := (.s .o (.s (.s .o (.i (.s .o .o) .o)) (.s .o (.s .o (.s (.b (.s .o (.i (.s .o .o) (.s .o (.j [0, 5, 6, 7] .o (.s .o (.i .o (.s .o (.i .o (.s .o .o)))))))))) (.s (.s .o (.i (.s .o .o) .o)) (.s (.s .o (.b (.l [0, 5, 6, 7, 8] (.s (.s .o (.i .o .o)) (.s (.b (.s (.s .o (.i (.s .o .o) .o)) .o)) .o))))) (.s (.s .o (.i (.s .o .o) .o)) (.s .o .o)))))))))
set_option maxRecDepth 100000 in
noncomputable def S252 (s280 : FS) : FS := fun args h k => capp 1 (fun x0 h0 =>
 capp 5 (lp 5 fun (x1 : CT 5) x2 x3 x4 x5 x6 h1 =>
 lnS x2 fun x7 =>
 ikK .lss x6 x7 fun x8 =>
 cdK x8 (
 slsK (some x6) none none x2 fun x9 =>
 s280 [x9] h1 fun x10 h2 =>
 exK x10 0 fun x11 =>
 exK x10 1 fun x12 =>
 bsK 21 1 1 1 [x11] h2 fun x13 h3 =>
 apK 21 1 x3 x13 h3 fun x14 h4 =>
 bsK 3 1 1 1 [x6] h4 fun x15 h5 =>
 apK 3 1 x4 x15 h5 fun x16 h6 =>
 gdK x5 true (fun k => k x11 h6) (fun x17 h7 =>
 gdK x5 true (fun k => ikK .neq x17 (.i .i32 9223372036854841341) fun y => k y h7) (fun x18 h8 =>
 gdK x5 true (fun k => k x18 h8) (fun x19 h9 =>
 gdK x19 false (fun k => k x12 h9) (fun x20 h10 =>
 gdK x19 false (fun k => ikK .eql x20 (.i .i64 9223372036854775811) fun y => k y h10) (fun x21 h11 =>
 gdK x5 true (fun k => pkK x19 (.b true) x21 fun y => k y h11) (fun x22 h12 =>
 pkK x5 x22 (.b false) fun x23 =>
 ikK .add x6 x12 fun x24 =>
 x1 x2 x14 x16 x23 x24 h12) h11) h10) h9) h8) h7) h6) (
 k (.t [x3, x4, x5]) h1)) [x0, .ns, .ns, (.b true), (.i .i64 9223372036854775808)] h0) args h
noncomputable def s252 : FS := S252 s280
noncomputable def a252 : Ann := (.s .o (.s .o (.s .o (.s .o (.s (.s .o (.b (.l [0, 5, 6, 7, 8] (.s (.s .o (.i .o .o)) (.b (.s .o (.s .o (.s .o (.s .o .o))))))))) (.s .o .o))))))
set_option maxRecDepth 100000 in
noncomputable def S227 (s252 : FS) : FS := fun args h k => capp 1 (fun x0 h0 =>
 s252 [x0] h0 fun x1 h1 =>
 exK x1 0 fun x2 =>
 exK x1 1 fun x3 =>
 exK x1 2 fun x4 =>
 lnL x2 fun x5 =>
 ikK .lss x5 (.i .i64 9223372036854775809) fun x6 =>
 gdK x6 false (fun k => k x2 h1) (fun x7 h2 =>
 gdK x6 false (fun k => lnL x7 fun y => k y h2) (fun x8 h3 =>
 gdK x6 false (fun k => ikK .gtr x8 (.i .i64 9223372036854775848) fun y => k y h3) (fun x9 h4 =>
 pkK x6 (.b true) x9 fun x10 =>
 gdK x10 false (fun k => k x4 h4) (fun x11 h5 =>
 gdK x10 false (fun k => notK x11 fun y => k y h5) (fun x12 h6 =>
 pkK x10 (.b true) x12 fun x13 =>
 cdK x13 (
 k (.b false) h6) (
 capp 2 (lp 2 fun (x14 : CT 2) x15 x16 h7 =>
 lnL x15 fun x17 =>
 ikK .lss x16 x17 fun x18 =>
 cdK x18 (
 iaK 1 x15 x16 fun x19 =>
 ld1 x19 h7 fun x20 =>
 ikK .lss x20 (.i .i32 9223372036854775840) fun x21 =>
 gdK x21 false (fun k => k x15 h7) (fun x22 h8 =>
 gdK x21 false (fun k => k x16 h8) (fun x23 h9 =>
 gdK x21 false (fun k => iaK 1 x22 x23 fun y => k y h9) (fun x24 h10 =>
 gdK x21 false (fun k => ld1 x24 h10 fun y => k y h10) (fun x25 h11 =>
 gdK x21 false (fun k => ikK .eql x25 (.i .i32 9223372036854775935) fun y => k y h11) (fun x26 h12 =>
 pkK x21 (.b true) x26 fun x27 =>
 cdK x27 (
 k (.b false) h12) (
 ikK .add x16 (.i .i64 9223372036854775809) fun x28 =>
 x14 x15 x28 h12)) h11) h10) h9) h8) h7) (
 k (.b true) h7)) [x2, (.i .i64 9223372036854775808)] h6)) h5) h4) h3) h2) h1) args h
noncomputable def s227 : FS := S227 s252
noncomputable def a227 : Ann := (.s .o (.s .o (.s (.s .o (.i (.s .o .o) .o)) (.s (.s .o (.b (.l [3, 6] (.s (.s .o (.i .o .o)) (.s (.b (.s .o (.i (.s .o .o) .o))) .o))))) (.s .o .o)))))
noncomputable def s228 : FS := sx
set_option maxRecDepth 100000 in
noncomputable def S173 (s227 s228 s175 : FS) : FS := fun args h k => capp 1 (fun x0 h0 =>
 boxK 30 9 x0 h0 fun x1 h1 =>
 faK 1 x1 fun x2 =>
 ld1 x2 h1 fun x3 =>
 s227 [x3] h1 fun x4 h2 =>
 notK x4 fun x5 =>
 cdK x5 (
 k (.b false) h2) (
 faK 2 x1 fun x6 =>
 faK 0 x6 fun x7 =>
 ld1 x7 h2 fun x8 =>
 faK 5 x1 fun x9 =>
 faK 0 x9 fun x10 =>
 ld1 x10 h2 fun x11 =>
 faK 0 x1 fun x12 =>
 ld1 x12 h2 fun x13 =>
 ikK .eql x13 (.i .i64 9223372036854775809) fun x14 =>
 cdK x14 (
 ikK .neq x8 (.i .i64 9223372036854775808) fun x15 =>
 gdK x15 true (fun k => faK 2 x1 fun y => k y h2) (fun x16 h3 =>
 gdK x15 true (fun k => ldN 3 x16 h3 fun y => k y h3) (fun x17 h4 =>
 gdK x15 true (fun k => s228 [x17] h4 k) (fun x18 h5 =>
 pkK x15 x18 (.b false) fun x19 =>
 gdK x19 true (fun k => faK 5 x1 fun y => k y h5) (fun x20 h6 =>
 gdK x19 true (fun k => ldN 3 x20 h6 fun y => k y h6) (fun x21 h7 =>
 gdK x19 true (fun k => blK [] Z28 fun y => k y h7) (fun x22 h8 =>
 gdK x19 true (fun k => s175 [x21, x22] h8 k) (fun x23 h9 =>
 pkK x19 x23 (.b false) fun x24 =>
 gdK x24 true (fun k => faK 8 x1 fun y => k y h9) (fun x25 h10 =>
 gdK x24 true (fun k => ld1 x25 h10 fun y => k y h10) (fun x26 h11 =>
 gdK x24 true (fun k => ikK .eql x26 (.i .i64 9223372036854775808) fun y => k y h11) (fun x27 h12 =>
 pkK x24 x27 (.b false) fun x28 =>
 k x28 h12) h11) h10) h9) h8) h7) h6) h5) h4) h3) h2) (
 ikK .eql x13 (.i .i64 9223372036854775810) fun x29 =>
 cdK x29 (
 faK 2 x1 fun x30 =>
 ldN 3 x30 h2 fun x31 =>
 blK [] Z28 fun x32 =>
 s175 [x31, x32] h2 fun x33 h13 =>
 gdK x33 true (fun k => faK 5 x1 fun y => k y h13) (fun x34 h14 =>
 gdK x33 true (fun k => ldN 3 x34 h14 fun y => k y h14) (fun x35 h15 =>
 gdK x33 true (fun k => blK [] Z28 fun y => k y h15) (fun x36 h16 =>
 gdK x33 true (fun k => s175 [x35, x36] h16 k) (fun x37 h17 =>
 pkK x33 x37 (.b false) fun x38 =>
 gdK x38 true (fun k => faK 8 x1 fun y => k y h17) (fun x39 h18 =>
 gdK x38 true (fun k => ld1 x39 h18 fun y => k y h18) (fun x40 h19 =>
 gdK x38 true (fun k => ikK .eql x40 (.i .i64 9223372036854775808) fun y => k y h19) (fun x41 h20 =>
 pkK x38 x41 (.b false) fun x42 =>
 k x42 h20) h19) h18) h17) h16) h15) h14) h13) (
 ikK .eql x13 (.i .i64 9223372036854775811) fun x43 =>
 cdK x43 (
 faK 2 x1 fun x44 =>
 ldN 3 x44 h2 fun x45 =>
 s228 [x45] h2 fun x46 h21 =>
 gdK x46 true (fun k => faK 5 x1 fun y => k y h21) (fun x47 h22 =>
 gdK x46 true (fun k => ldN 3 x47 h22 fun y => k y h22) (fun x48 h23 =>
 gdK x46 true (fun k => s228 [x48] h23 k) (fun x49 h24 =>
 pkK x46 x49 (.b false) fun x50 =>
 gdK x50 true (fun k => k x8 h24) (fun x51 h25 =>
 gdK x50 true (fun k => ikK .neq x51 (.i .i64 9223372036854775808) fun y => k y h25) (fun x52 h26 =>
 gdK x50 true (fun k => k x52 h26) (fun x53 h27 =>
 gdK x53 false (fun k => k x11 h27) (fun x54 h28 =>
 gdK x53 false (fun k => ikK .neq x54 (.i .i64 9223372036854775808) fun y => k y h28) (fun x55 h29 =>
 gdK x50 true (fun k => pkK x53 (.b true) x55 fun y => k y h29) (fun x56 h30 =>
 pkK x50 x56 (.b false) fun x57 =>
 gdK x57 true (fun k => faK 8 x1 fun y => k y h30) (fun x58 h31 =>
 gdK x57 true (fun k => ld1 x58 h31 fun y => k y h31) (fun x59 h32 =>
 gdK x57 true (fun k => ikK .eql x59 (.i .i64 9223372036854775808) fun y => k y h32) (fun x60 h33 =>
 pkK x57 x60 (.b false) fun x61 =>
 k x61 h33) h32) h31) h30) h29) h28) h27) h26) h25) h24) h23) h22) h21) (
 ikK .eql x13 (.i .i64 9223372036854775812) fun x62 =>
 cdK x62 (
 faK 2 x1 fun x63 =>
 ldN 3 x63 h2 fun x64 =>
 blK [] Z28 fun x65 =>
 s175 [x64, x65] h2 fun x66 h34 =>
 gdK x66 true (fun k => faK 5 x1 fun y => k y h34) (fun x67 h35 =>
 gdK x66 true (fun k => ldN 3 x67 h35 fun y => k y h35) (fun x68 h36 =>
 gdK x66 true (fun k => blK [] Z28 fun y => k y h36) (fun x69 h37 =>
 gdK x66 true (fun k => s175 [x68, x69] h37 k) (fun x70 h38 =>
 pkK x66 x70 (.b false) fun x71 =>
 gdK x71 true (fun k => faK 8 x1 fun y => k y h38) (fun x72 h39 =>
 gdK x71 true (fun k => ld1 x72 h39 fun y => k y h39) (fun x73 h40 =>
 gdK x71 true (fun k => ikK .geq x73 (.i .i64 9223370937343148032) fun y => k y h40) (fun x74 h41 =>
 pkK x71 x74 (.b false) fun x75 =>
 gdK x75 true (fun k => faK 8 x1 fun y => k y h41) (fun x76 h42 =>
 gdK x75 true (fun k => ld1 x76 h42 fun y => k y h42) (fun x77 h43 =>
 gdK x75 true (fun k => ikK .leq x77 (.i .i64 9223373136366403584) fun y => k y h43) (fun x78 h44 =>
 pkK x75 x78 (.b false) fun x79 =>
 k x79 h44) h43) h42) h41) h40) h39) h38) h37) h36) h35) h34) (
 k (.b false) h2)))))) args h
noncomputable def s173 : FS := S173 s227 s228 s175
noncomputable def a173 : Ann := (.s .o (.s (.s .o (.i (.s .o .o) .o)) (.s (.g [0, 1, 2, 3, 4, 5, 6, 7]) (.s (.s .o (.b (.s .o (.i (.s .o .o) (.s .o (.i (.s .o .o) (.s .o (.i (.s .o .o) (.s .o (.i (.s .o .o) .o)))))))))) (.s .o .o)))))
set_option maxRecDepth 100000 in
noncomputable def S171 (s173 : FS) : FS := fun args h k => capp 1 (fun x0 h0 =>
 lnL x0 fun x1 =>
 ikK .lss x1 (.i .i64 9223372036854775809) fun x2 =>
 gdK x2 false (fun k => k x0 h0) (fun x3 h1 =>
 gdK x2 false (fun k => lnL x3 fun y => k y h1) (fun x4 h2 =>
 gdK x2 false (fun k => ikK .gtr x4 (.i .i64 9223372036854775816) fun y => k y h2) (fun x5 h3 =>
 pkK x2 (.b true) x5 fun x6 =>
 cdK x6 (
 k (.b false) h3) (
 capp 2 (lp 2 fun (x7 : CT 2) x8 x9 h4 =>
 lnL x8 fun x10 =>
 ikK .lss x9 x10 fun x11 =>
 cdK x11 (
 iaK 9 x8 x9 fun x12 =>
 ldN 9 x12 h4 fun x13 =>
 s173 [x13] h4 fun x14 h5 =>
 notK x14 fun x15 =>
 cdK x15 (
 k (.b false) h5) (
 ikK .add x9 (.i .i64 9223372036854775809) fun x16 =>
 x7 x8 x16 h5)) (
 k (.b true) h4)) [x0, (.i .i64 9223372036854775808)] h3)) h2) h1) h0) args h
noncomputable def s171 : FS := S171 s173
noncomputable def a171 : Ann := (.s .o (.s (.s .o (.i (.s .o .o) .o)) (.s (.s .o (.b (.l [0, 3] (.s (.s .o (.i .o .o)) (.s (.b (.s .o (.i (.s .o .o) .o))) .o))))) (.s .o .o))))
set_option maxRecDepth 100000 in
noncomputable def S224 : FS := fun args h k => capp 1 (fun x0 h0 =>
 ciK .u64 x0 fun x1 =>
 ikK .mul x1 (.i .u64 9223372036854775810) fun x2 =>
 ikK .lss x0 (.i .i64 9223372036854775808) fun x3 =>
 jn 1 (fun x4 : CT 1 =>
 cdK x3 (
 cplK x2 fun x5 =>
 x4 x5 h0) (
 x4 x2 h0)) fun x6 h1 =>
 capp 2 (lp 2 fun (x7 : CT 2) x8 x9 h2 =>
 ikK .geq x8 (.i .u64 9223372036854775936) fun x10 =>
 cdK x10 (
 ikK .rem x8 (.i .u64 9223372036854775936) fun x11 =>
 ikK .add x11 (.i .u64 9223372036854775936) fun x12 =>
 ciK .u8 x12 fun x13 =>
 bsK 5 1 1 1 [x13] h2 fun x14 h3 =>
 apK 5 1 x9 x14 h3 fun x15 h4 =>
 ikK .quo x8 (.i .u64 9223372036854775936) fun x16 =>
 x7 x16 x15 h4) (
 ciK .u8 x8 fun x17 =>
 bsK 5 1 1 1 [x17] h2 fun x18 h5 =>
 apK 5 1 x9 x18 h5 fun x19 h6 =>
 k x19 h6)) [x6, .ns] h1) args h
noncomputable def s224 : FS := S224
noncomputable def a224 : Ann := (.s .o (.s .o (.s (.s .o (.j [3] .o .o)) (.s .o (.s (.b (.l [3, 4] (.s (.s .o (.i .o .o)) (.b (.s .o .o))))) (.s .o .o))))))
set_option maxRecDepth 100000 in
noncomputable def S225 (s224 : FS) : FS := fun args h k => capp 1 (fun x0 h0 =>
 lnS x0 fun x1 =>
 s224 [x1] h0 fun x2 h1 =>
 apK 5 1 x2 x0 h1 fun x3 h2 =>
 k x3 h2) args h
noncomputable def s225 : FS := S225 s224
noncomputable def a225 : Ann := (.s .o (.s .o .o))
noncomputable def s226 : FS := sx
set_option maxRecDepth 100000 in
noncomputable def S172 (s224 s225 s226 : FS) : FS := fun args h k => capp 1 (fun x0 h0 =>
 boxK 49 3 x0 h0 fun x1 h1 =>
 faK 0 x1 fun x2 =>
 ld1 x2 h1 fun x3 =>
 s224 [x3] h1 fun x4 h2 =>
 faK 1 x1 fun x5 =>
 ld1 x5 h2 fun x6 =>
 s224 [x6] h2 fun x7 h3 =>
 apK 5 1 x4 x7 h3 fun x8 h4 =>
 faK 2 x1 fun x9 =>
 ld1 x9 h4 fun x10 =>
 lnL x10 fun x11 =>
 s224 [x11] h4 fun x12 h5 =>
 apK 5 1 x8 x12 h5 fun x13 h6 =>
 capp 3 (lp 3 fun (x14 : CT 3) x15 x16 x17 h7 =>
 faK 2 x15 fun x18 =>
 ld1 x18 h7 fun x19 =>
 lnL x19 fun x20 =>
 ikK .lss x17 x20 fun x21 =>
 cdK x21 (
 faK 2 x15 fun x22 =>
 ld1 x22 h7 fun x23 =>
 iaK 9 x23 x17 fun x24 =>
 ldN 9 x24 h7 fun x25 =>
 boxK 30 9 z30 h7 fun x26 h8 =>
 stL 9 x26 x25 h8 fun h9 =>
 faK 0 x26 fun x27 =>
 ld1 x27 h9 fun x28 =>
 s224 [x28] h9 fun x29 h10 =>
 apK 5 1 x16 x29 h10 fun x30 h11 =>
 faK 1 x26 fun x31 =>
 ld1 x31 h11 fun x32 =>
 s225 [x32] h11 fun x33 h12 =>
 apK 5 1 x30 x33 h12 fun x34 h13 =>
 faK 0 x26 fun x35 =>
 ld1 x35 h13 fun x36 =>
 ikK .eql x36 (.i .i64 9223372036854775809) fun x37 =>
 jn 3 (fun x38 : CT 3 =>
 cdK x37 (
 faK 2 x26 fun x39 =>
 ldN 3 x39 h13 fun x40 =>
 s226 [x40] h13 fun x41 h14 =>
 apK 5 1 x34 x41 h14 fun x42 h15 =>
 x38 x15 x42 x17 h15) (
 ikK .eql x36 (.i .i64 9223372036854775811) fun x43 =>
 cdK x43 (
 faK 2 x26 fun x44 =>
 ldN 3 x44 h13 fun x45 =>
 faK 5 x26 fun x46 =>
 ldN 3 x46 h13 fun x47 =>
 s226 [x45] h13 fun x48 h16 =>
 apK 5 1 x34 x48 h16 fun x49 h17 =>
 s226 [x47] h17 fun x50 h18 =>
 apK 5 1 x49 x50 h18 fun x51 h19 =>
 ldN 3 x46 h16 fun x52 => ifT (avEq x52 x47) <|
 ldN 3 x46 h17 fun x53 => ifT (avEq x53 x47) <|
 x38 x15 x51 x17 h19) (
 ikK .eql x36 (.i .i64 9223372036854775812) fun x54 =>
 cdK x54 (
 faK 8 x26 fun x55 =>
 ld1 x55 h13 fun x56 =>
 s224 [x56] h13 fun x57 h20 =>
 apK 5 1 x34 x57 h20 fun x58 h21 =>
 x38 x15 x58 x17 h21) (
 x38 x15 x34 x17 h13)))) fun x59 x60 x61 h22 =>
 ikK .add x61 (.i .i64 9223372036854775809) fun x62 =>
 x14 x59 x60 x62 h22) (
 k x16 h7)) [x1, x13, (.i .i64 9223372036854775808)] h6) args h
noncomputable def s172 : FS := S172 s224 s225 s226
noncomputable def a172 : Ann := (.s .o (.s .o (.s .o (.s .o (.s (.s .o (.b (.l [1, 3, 4] (.s (.s .o (.i .o .o)) (.s (.b (.s .o (.s .o (.s .o (.s .o (.b (.s .o (.j [1, 3, 4] .o (.s .o (.i (.g [0, 1, 2, 5, 6, 3, 4, 7, 8, 9]) (.s .o (.i .o .o)))))))))))) .o))))) (.s .o .o))))))
set_option maxRecDepth 100000 in
noncomputable def S102 (s171 s172 : FS) : FS := fun args h k => capp 1 (fun x0 h0 =>
 boxK 49 3 x0 h0 fun x1 h1 =>
 faK 0 x1 fun x2 =>
 ld1 x2 h1 fun x3 =>
 ikK .lss x3 (.i .i64 9223372036854775809) fun x4 =>
 gdK x4 false (fun k => faK 0 x1 fun y => k y h1) (fun x5 h2 =>
 gdK x4 false (fun k => ld1 x5 h2 fun y => k y h2) (fun x6 h3 =>
 gdK x4 false (fun k => ikK .gtr x6 (.i .i64 9223372036854775813) fun y => k y h3) (fun x7 h4 =>
 pkK x4 (.b true) x7 fun x8 =>
 gdK x8 false (fun k => faK 1 x1 fun y => k y h4) (fun x9 h5 =>
 gdK x8 false (fun k => ld1 x9 h5 fun y => k y h5) (fun x10 h6 =>
 gdK x8 false (fun k => ikK .lss x10 (.i .i64 9223372036854775809) fun y => k y h6) (fun x11 h7 =>
 pkK x8 (.b true) x11 fun x12 =>
 gdK x12 false (fun k => faK 1 x1 fun y => k y h7) (fun x13 h8 =>
 gdK x12 false (fun k => ld1 x13 h8 fun y => k y h8) (fun x14 h9 =>
 gdK x12 false (fun k => ikK .gtr x14 (.i .i64 9223373136366403584) fun y => k y h9) (fun x15 h10 =>
 pkK x12 (.b true) x15 fun x16 =>
 cdK x16 (
 k (.b false) h10) (
 faK 2 x1 fun x17 =>
 ld1 x17 h10 fun x18 =>
 s171 [x18] h10 fun x19 h11 =>
 gdK x19 true (fun k => ldN 3 x1 h11 fun y => k y h11) (fun x20 h12 =>
 gdK x19 true (fun k => s172 [x20] h12 k) (fun x21 h13 =>
 gdK x19 true (fun k => lnL x21 fun y => k y h13) (fun x22 h14 =>
 gdK x19 true (fun k => ikK .leq x22 (.i .i64 9223372036854777008) fun y => k y h14) (fun x23 h15 =>
 pkK x19 x23 (.b false) fun x24 =>
 k x24 h15) h14) h13) h12) h11)) h9) h8) h7) h6) h5) h4) h3) h2) h1) args h
noncomputable def s102 : FS := S102 s171 s172
noncomputable def a102 : Ann := (.s .o (.s (.s .o (.i (.s .o .o) .o)) (.s .o .o)))
set_option maxRecDepth 100000 in
noncomputable def S174 : FS := fun args h k => capp 2 (fun x0 x1 h0 =>
 boxK 80 1 x0 h0 fun x2 h1 =>
 boxK 28 3 z28 h1 fun x3 h2 =>
 capp 4 (lp 4 fun (x4 : CT 4) x5 x6 x7 x8 h3 =>
 faK 0 x6 fun x9 =>
 ld1 x9 h3 fun x10 =>
 lnL x10 fun x11 =>
 ikK .lss x8 x11 fun x12 =>
 cdK x12 (
 faK 0 x6 fun x13 =>
 ld1 x13 h3 fun x14 =>
 iaK 4 x14 x8 fun x15 =>
 faK 0 x15 fun x16 =>
 ld1 x16 h3 fun x17 =>
 stK .eql x17 x5 fun x18 =>
 cdK x18 (
 faK 0 x6 fun x19 =>
 ld1 x19 h3 fun x20 =>
 iaK 4 x20 x8 fun x21 =>
 faK 1 x21 fun x22 =>
 ldN 3 x22 h3 fun x23 =>
 stL 3 x7 x23 h3 fun h4 =>
 ldN 3 x7 h4 fun x24 => k (.t [x24, (.b true)]) h4) (
 ikK .add x8 (.i .i64 9223372036854775809) fun x25 =>
 x4 x5 x6 x7 x25 h3)) (
 blK [] Z28 fun x26 =>
 stL 3 x7 x26 h3 fun h5 =>
 ldN 3 x7 h5 fun x27 => k (.t [x27, (.b false)]) h5)) [x1, x2, x3, (.i .i64 9223372036854775808)] h2) args h
noncomputable def s174 : FS := S174
noncomputable def a174 : Ann := (.s .o (.s (.s .o (.b (.l [1, 2, 4, 6] (.s (.s .o (.i .o .o)) (.s (.b (.s .o (.i (.s .o .o) .o))) .o))))) (.s .o .o)))
set_option maxRecDepth 100000 in
noncomputable def S176 : FS := fun args h k => capp 1 (fun x0 h0 =>
 ikK .lss x0 (.i .i64 4611686018427387904) fun x1 =>
 gdK x1 false (fun k => k x0 h0) (fun x2 h1 =>
 gdK x1 false (fun k => ikK .gtr x2 (.i .i64 13835058055282163712) fun y => k y h1) (fun x3 h2 =>
 pkK x1 (.b true) x3 fun x4 =>
 k x4 h2) h1) h0) args h
noncomputable def s176 : FS := S176
noncomputable def a176 : Ann := (.s .o (.s .o .o))
set_option maxRecDepth 100000 in
noncomputable def S229 (s252 : FS) : FS := fun args h k => capp 2 (fun x0 x1 h0 =>
 s252 [x0] h0 fun x2 h1 =>
 exK x2 0 fun x3 =>
 exK x2 1 fun x4 =>
 exK x2 2 fun x5 =>
 s252 [x1] h1 fun x6 h2 =>
 exK x6 0 fun x7 =>
 exK x6 1 fun x8 =>
 exK x6 2 fun x9 =>
 capp 5 (lp 5 fun (x10 : CT 5) x11 x12 x13 x14 x15 h3 =>
 lnL x13 fun x16 =>
 ikK .lss x15 x16 fun x17 =>
 gdK x17 true (fun k => k x15 h3) (fun x18 h4 =>
 gdK x17 true (fun k => k x14 h4) (fun x19 h5 =>
 gdK x17 true (fun k => lnL x19 fun y => k y h5) (fun x20 h6 =>
 gdK x17 true (fun k => ikK .lss x18 x20 fun y => k y h6) (fun x21 h7 =>
 pkK x17 x21 (.b false) fun x22 =>
 cdK x22 (
 iaK 1 x13 x15 fun x23 =>
 ld1 x23 h7 fun x24 =>
 iaK 1 x14 x15 fun x25 =>
 ld1 x25 h7 fun x26 =>
 ikK .neq x24 x26 fun x27 =>
 cdK x27 (
 iaK 1 x13 x15 fun x28 =>
 ld1 x28 h7 fun x29 =>
 iaK 1 x14 x15 fun x30 =>
 ld1 x30 h7 fun x31 =>
 ikK .lss x29 x31 fun x32 =>
 k x32 h7) (
 ikK .add x15 (.i .i64 9223372036854775809) fun x33 =>
 x10 x11 x12 x13 x14 x33 h7)) (
 lnL x13 fun x34 =>
 lnL x14 fun x35 =>
 ikK .neq x34 x35 fun x36 =>
 cdK x36 (
 lnL x13 fun x37 =>
 lnL x14 fun x38 =>
 ikK .lss x37 x38 fun x39 =>
 k x39 h7) (
 stK .lss x11 x12 fun x40 =>
 k x40 h7))) h6) h5) h4) h3) [x0, x1, x3, x7, (.i .i64 9223372036854775808)] h2) args h
noncomputable def s229 : FS := S229 s252
noncomputable def a229 : Ann := (.s .o (.s .o (.s .o (.s (.s .o (.b (.l [0, 1, 5, 8, 11] (.s (.s .o (.i .o .o)) (.s (.b (.s (.g [0, 1, 2, 3, 4, 5, 6, 7, 8]) (.i (.s (.g [0, 1, 2, 3, 4, 5, 6, 7, 8, 9]) .o) .o))) .o))))) (.s (.s .o (.i (.s .o .o) .o)) (.s .o .o))))))
def Z80 : List AV := [.ns]
def z80 : AV := .a Z80
def Z333 : List AV := [(.s 0 []), (.i .i64 9223372036854775808), (.i .i64 9223372036854775808), (.s 0 [])]
def z333 : AV := .a Z333
set_option maxRecDepth 100000 in
noncomputable def S177 (s229 : FS) : FS := fun args h k => capp 3 (fun x0 x1 x2 h0 =>
 boxK 80 1 x0 h0 fun x3 h1 =>
 boxK 28 3 x2 h1 fun x4 h2 =>
 boxK 80 1 z80 h2 fun x5 h3 =>
 faK 0 x4 fun x6 =>
 ld1 x6 h3 fun x7 =>
 ikK .eql x7 (.i .i64 9223372036854775808) fun x8 =>
 capp 7 (lp 7 fun (x9 : CT 7) x10 x11 x12 x13 x14 x15 x16 h4 =>
 faK 0 x11 fun x17 =>
 ld1 x17 h4 fun x18 =>
 lnL x18 fun x19 =>
 ikK .lss x16 x19 fun x20 =>
 cdK x20 (
 notK x15 fun x21 =>
 gdK x21 true (fun k => faK 0 x11 fun y => k y h4) (fun x22 h5 =>
 gdK x21 true (fun k => ld1 x22 h5 fun y => k y h5) (fun x23 h6 =>
 gdK x21 true (fun k => k x16 h6) (fun x24 h7 =>
 gdK x21 true (fun k => iaK 4 x23 x24 fun y => k y h7) (fun x25 h8 =>
 gdK x21 true (fun k => faK 0 x25 fun y => k y h8) (fun x26 h9 =>
 gdK x21 true (fun k => ld1 x26 h9 fun y => k y h9) (fun x27 h10 =>
 gdK x21 true (fun k => k x10 h10) (fun x28 h11 =>
 gdK x21 true (fun k => s229 [x27, x28] h11 k) (fun x29 h12 =>
 gdK x21 true (fun k => notK x29 fun y => k y h12) (fun x30 h13 =>
 pkK x21 x30 (.b false) fun x31 =>
 jn 7 (fun x32 : CT 7 =>
 cdK x31 (
 ldN 3 x12 h13 fun x33 =>
 blK [(0, 1, x10), (1, 3, x33)] Z333 fun x34 =>
 bsK 333 4 1 4 [x34] h13 fun x35 h14 =>
 apK 333 4 x14 x35 h14 fun x36 h15 =>
 x32 x10 x11 x12 x13 x36 (.b true) x16 h15) (
 x32 x10 x11 x12 x13 x14 x15 x16 h13)) fun x37 x38 x39 x40 x41 x42 x43 h16 =>
 faK 0 x38 fun x44 =>
 ld1 x44 h16 fun x45 =>
 iaK 4 x45 x43 fun x46 =>
 faK 0 x46 fun x47 =>
 ld1 x47 h16 fun x48 =>
 stK .neq x48 x37 fun x49 =>
 jn 7 (fun x50 : CT 7 =>
 cdK x49 (
 faK 0 x38 fun x51 =>
 ld1 x51 h16 fun x52 =>
 iaK 4 x52 x43 fun x53 =>
 ldN 4 x53 h16 fun x54 =>
 bsK 333 4 1 4 [x54] h16 fun x55 h17 =>
 apK 333 4 x41 x55 h17 fun x56 h18 =>
 x50 x37 x38 x39 x40 x56 x42 x43 h18) (
 x50 x37 x38 x39 x40 x41 x42 x43 h16)) fun x57 x58 x59 x60 x61 x62 x63 h19 =>
 ikK .add x63 (.i .i64 9223372036854775809) fun x64 =>
 x9 x57 x58 x59 x60 x61 x62 x64 h19) h12) h11) h10) h9) h8) h7) h6) h5) h4) (
 notK x15 fun x65 =>
 jn 2 (fun x66 : CT 2 =>
 cdK x65 (
 ldN 3 x12 h4 fun x67 =>
 blK [(0, 1, x10), (1, 3, x67)] Z333 fun x68 =>
 bsK 333 4 1 4 [x68] h4 fun x69 h20 =>
 apK 333 4 x14 x69 h20 fun x70 h21 =>
 x66 x13 x70 h21) (
 x66 x13 x14 h4)) fun x71 x72 h22 =>
 blK [(0, 1, x72)] Z80 fun x73 =>
 stL 1 x71 x73 h22 fun h23 =>
 ldN 1 x71 h23 fun x74 => k x74 h23)) [x1, x3, x4, x5, .ns, x8, (.i .i64 9223372036854775808)] h3) args h
noncomputable def s177 : FS := S177 s229
noncomputable def a177 : Ann := (.s .o (.s .o (.s .o (.s (.s .o (.b (.l [1, 3, 5, 6, 7, 8, 9] (.s (.s .o (.i .o .o)) (.s (.b (.s (.s .o (.j [1, 3, 5, 6, 7, 8, 9] (.s .o .o) .o)) (.s .o (.j [1, 3, 5, 6, 7, 8, 9] .o .o)))) .o))))) (.s (.s .o (.j [6, 7] .o .o)) (.s .o .o))))))
set_option maxRecDepth 100000 in
noncomputable def S103 (s173 s174 s175 s176 s177 : FS) : FS := fun args h k => capp 2 (fun x0 x1 h0 =>
 boxK 80 1 x0 h0 fun x2 h1 =>
 boxK 80 1 z80 h1 fun x3 h2 =>
 lnL x1 fun x4 =>
 ikK .lss x4 (.i .i64 9223372036854775809) fun x5 =>
 gdK x5 false (fun k => k x1 h2) (fun x6 h3 =>
 gdK x5 false (fun k => lnL x6 fun y => k y h3) (fun x7 h4 =>
 gdK x5 false (fun k => ikK .gtr x7 (.i .i64 9223372036854775816) fun y => k y h4) (fun x8 h5 =>
 pkK x5 (.b true) x8 fun x9 =>
 cdK x9 (
 ldN 1 x2 h5 fun x10 =>
 stL 1 x3 x10 h5 fun h6 =>
 ldN 1 x3 h6 fun x11 => k (.t [x11, (.i .i64 9223372036854775809)]) h6) (
 ldN 1 x2 h5 fun x12 =>
 boxK 80 1 z80 h5 fun x13 h7 =>
 stL 1 x13 x12 h7 fun h8 =>
 capp 5 (lp 5 fun (x14 : CT 5) x15 x16 x17 x18 x19 h9 =>
 lnL x15 fun x20 =>
 ikK .lss x19 x20 fun x21 =>
 cdK x21 (
 iaK 9 x15 x19 fun x22 =>
 ldN 9 x22 h9 fun x23 =>
 boxK 30 9 z30 h9 fun x24 h10 =>
 stL 9 x24 x23 h10 fun h11 =>
 ldN 9 x24 h11 fun x25 =>
 s173 [x25] h11 fun x26 h12 =>
 notK x26 fun x27 =>
 cdK x27 (
 ldN 1 x16 h12 fun x28 =>
 stL 1 x17 x28 h12 fun h13 =>
 ldN 1 x17 h13 fun x29 => k (.t [x29, (.i .i64 9223372036854775809)]) h13) (
 ldN 1 x18 h12 fun x30 =>
 faK 1 x24 fun x31 =>
 ld1 x31 h12 fun x32 =>
 s174 [x30, x32] h12 fun x33 h14 =>
 exK x33 0 fun x34 =>
 exK x33 1 fun x35 =>
 boxK 28 3 z28 h14 fun x36 h15 =>
 stL 3 x36 x34 h15 fun h16 =>
 faK 2 x24 fun x37 =>
 ldN 3 x37 h16 fun x38 =>
 boxK 28 3 z28 h16 fun x39 h17 =>
 stL 3 x39 x38 h17 fun h18 =>
 faK 0 x24 fun x40 =>
 ld1 x40 h18 fun x41 =>
 ikK .eql x41 (.i .i64 9223372036854775811) fun x42 =>
 jn 8 (fun x43 : CT 8 =>
 cdK x42 (
 ldN 3 x36 h18 fun x44 =>
 faK 5 x24 fun x45 =>
 ldN 3 x45 h18 fun x46 =>
 s175 [x44, x46] h18 fun x47 h19 =>
 notK x47 fun x48 =>
 cdK x48 (
 ldN 1 x16 h19 fun x49 =>
 stL 1 x17 x49 h19 fun h20 =>
 ldN 1 x17 h20 fun x50 => k (.t [x50, (.i .i64 9223372036854775816)]) h20) (
 x43 x15 x16 x17 x18 x19 x24 x35 x39 h19)) (
 ikK .eql x41 (.i .i64 9223372036854775812) fun x51 =>
 cdK x51 (
 gdK x35 true (fun k => faK 0 x36 fun y => k y h18) (fun x52 h21 =>
 gdK x35 true (fun k => ld1 x52 h21 fun y => k y h21) (fun x53 h22 =>
 gdK x35 true (fun k => ikK .neq x53 (.i .i64 9223372036854775809) fun y => k y h22) (fun x54 h23 =>
 pkK x35 x54 (.b false) fun x55 =>
 cdK x55 (
 ldN 1 x16 h23 fun x56 =>
 stL 1 x17 x56 h23 fun h24 =>
 ldN 1 x17 h24 fun x57 => k (.t [x57, (.i .i64 9223372036854775815)]) h24) (
 faK 1 x36 fun x58 =>
 ld1 x58 h23 fun x59 =>
 s176 [x59] h23 fun x60 h25 =>
 gdK x60 false (fun k => faK 1 x36 fun y => k y h25) (fun x61 h26 =>
 gdK x60 false (fun k => ld1 x61 h26 fun y => k y h26) (fun x62 h27 =>
 gdK x60 false (fun k => faK 8 x24 fun y => k y h27) (fun x63 h28 =>
 gdK x60 false (fun k => ld1 x63 h28 fun y => k y h28) (fun x64 h29 =>
 gdK x60 false (fun k => ikK .add x62 x64 fun y => k y h29) (fun x65 h30 =>
 gdK x60 false (fun k => s176 [x65] h30 k) (fun x66 h31 =>
 pkK x60 (.b true) x66 fun x67 =>
 cdK x67 (
 ldN 1 x16 h31 fun x68 =>
 stL 1 x17 x68 h31 fun h32 =>
 ldN 1 x17 h32 fun x69 => k (.t [x69, (.i .i64 9223372036854775812)]) h32) (
 faK 1 x36 fun x70 =>
 ld1 x70 h31 fun x71 =>
 faK 8 x24 fun x72 =>
 ld1 x72 h31 fun x73 =>
 ikK .add x71 x73 fun x74 =>
 blK [(0, 1, (.i .i64 9223372036854775809)), (1, 1, x74)] Z28 fun x75 =>
 stL 3 x39 x75 h31 fun h33 =>
 x43 x15 x16 x17 x18 x19 x24 x35 x39 h33)) h30) h29) h28) h27) h26) h25)) h22) h21) h18) (
 x43 x15 x16 x17 x18 x19 x24 x35 x39 h18))) fun x76 x77 x78 x79 x80 x81 x82 x83 h34 =>
 faK 0 x83 fun x84 =>
 ld1 x84 h34 fun x85 =>
 ikK .neq x85 (.i .i64 9223372036854775808) fun x86 =>
 gdK x86 true (fun k => k x82 h34) (fun x87 h35 =>
 gdK x86 true (fun k => notK x87 fun y => k y h35) (fun x88 h36 =>
 pkK x86 x88 (.b false) fun x89 =>
 gdK x89 true (fun k => faK 0 x79 fun y => k y h36) (fun x90 h37 =>
 gdK x89 true (fun k => ld1 x90 h37 fun y => k y h37) (fun x91 h38 =>
 gdK x89 true (fun k => lnL x91 fun y => k y h38) (fun x92 h39 =>
 gdK x89 true (fun k => ikK .geq x92 (.i .i64 9223372036854775858) fun y => k y h39) (fun x93 h40 =>
 pkK x89 x93 (.b false) fun x94 =>
 cdK x94 (
 ldN 1 x77 h40 fun x95 =>
 stL 1 x78 x95 h40 fun h41 =>
 ldN 1 x78 h41 fun x96 => k (.t [x96, (.i .i64 9223372036854775814)]) h41) (
 ldN 1 x79 h40 fun x97 =>
 faK 1 x81 fun x98 =>
 ld1 x98 h40 fun x99 =>
 ldN 3 x83 h40 fun x100 =>
 s177 [x97, x99, x100] h40 fun x101 h42 =>
 stL 1 x79 x101 h42 fun h43 =>
 ikK .add x80 (.i .i64 9223372036854775809) fun x102 =>
 x14 x76 x77 x78 x79 x102 h43)) h39) h38) h37) h36) h35) h34)) (
 ldN 1 x18 h9 fun x103 =>
 stL 1 x17 x103 h9 fun h44 =>
 ldN 1 x17 h44 fun x104 => k (.t [x104, (.i .i64 9223372036854775808)]) h44)) [x1, x2, x3, x13, (.i .i64 9223372036854775808)] h8)) h4) h3) h2) args h
noncomputable def s103 : FS := S103 s173 s174 s175 s176 s177
noncomputable def a103 : Ann := (.s .o (.s (.s .o (.i (.s .o .o) .o)) (.s .o (.s (.s .o (.b (.l [1, 2, 4, 6, 7] (.s (.s .o (.i .o .o)) (.s (.b (.s .o (.s (.s .o (.i (.s .o .o) .o)) (.s .o (.s .o (.s (.s .o (.b (.s .o (.j [1, 2, 4, 6, 7, 8, 10, 11] (.s .o (.i (.s .o .o) .o)) (.s .o (.i (.s (.s .o (.i (.s .o .o) .o)) (.s (.s .o (.i (.s .o .o) .o)) .o)) .o)))))) (.s (.s .o (.i (.s .o .o) .o)) .o))))))) .o))))) (.s .o .o)))))
def Z86 : List AV := [(.i .i64 9223372036854775808), .ns, (.i .i64 9223372036854775808), (.i .i64 9223372036854775808), (.i .i64 9223372036854775808), (.i .i64 9223372036854775808), (.i .i64 9223372036854775808), (.i .i64 9223372036854775808), (.i .i64 9223372036854775808), (.i .i64 9223372036854775808), (.i .i64 9223372036854775808), .ns, (.i .i64 9223372036854775808), (.i .i64 9223372036854775808), (.i .i64 9223372036854775808), (.i .i64 9223372036854775808), .ns, (.i .i64 9223372036854775808), (.i .i64 9223372036854775808), (.i .i64 9223372036854775808), (.i .i64 9223372036854775808), .ns, (.i .i64 9223372036854775808), (.i .i64 9223372036854775808), (.i .i64 9223372036854775808), (.i .i64 9223372036854775808), .ns, (.i .i64 9223372036854775808), (.i .i64 9223372036854775808), (.i .i64 9223372036854775808), (.i .i64 9223372036854775808), .ns, (.i .i64 9223372036854775808), (.i .i64 9223372036854775808), (.i .i64 9223372036854775808), (.i .i64 9223372036854775808), .ns, (.i .i64 9223372036854775808)]
def z86 : AV := .a Z86
end Go.Proofs.YtlannobincnnhaaGreatDoor
