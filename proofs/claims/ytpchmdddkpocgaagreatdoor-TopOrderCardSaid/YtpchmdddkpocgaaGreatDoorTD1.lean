/-
  No claim by itself: what the functions' texts mean. No condition.
-/
import Derived.Test.YtpchmdddkpocgaaGreatDoorP13
import Derived.Test.YtpchmdddkpocgaaGreatDoorProg
import Derived.KernelRfl
namespace Go.Proofs.YtpchmdddkpocgaaGreatDoor
set_option linter.unusedVariables false
set_option maxRecDepth 100000
def MM : List (Nat × Nat) := [(181, 307), (182, 308)]
noncomputable def sqA (op : BinOp) (t : TypeId) (x y : AV) (k : AV → Bool) : Bool := x.on_a fun xs => y.on_a fun ys => sqK Tryz.prog op t (.a xs) (.a ys) k
def Z130 : List AV := [.ns]
def z130 : AV := .a Z130
noncomputable def a33 : Ann := (.s .o (.s .o .o))
noncomputable def s33 : FS := fnF Tryz.prog [] MM Tryz.f33 a33
def Z133 : List AV := [.nm, (.i .i64 9223372036854775808)]
def z133 : AV := .a Z133
noncomputable def a34 : Ann := (.s .o (.s .o .o))
noncomputable def s34 : FS := fnF Tryz.prog [] MM Tryz.f34 a34
noncomputable def S55 : FS := fun args h k => capp 1 (fun x0 h0 =>
 lnLY x0 fun x1 =>
 capp 4 (lp 4 fun (x2 : CT 4) x3 x4 x5 x6 h1 =>
 ikY .lss x6 x5 fun x7 =>
 cdK x7 (
 iaK 1 x4 x6 fun x8 =>
 ld1 x8 h1 fun x9 =>
 ikY .lss x9 (.i .i64 9223372036854775809) fun x10 =>
 gdK x10 false (fun k => k x9 h1) (fun x11 h2 =>
 gdK x10 false (fun k => ikY .gtr x11 (.i .i64 9223372036854775815) fun y => k y h2) (fun x12 h3 =>
 pkK x10 (.b true) x12 fun x13 =>
 gdK x13 false (fun k => k x6 h3) (fun x14 h4 =>
 gdK x13 false (fun k => ikY .gtr x14 (.i .i64 9223372036854775808) fun y => k y h4) (fun x15 h5 =>
 gdK x13 false (fun k => k x15 h5) (fun x16 h6 =>
 gdK x16 true (fun k => k x3 h6) (fun x17 h7 =>
 gdK x16 true (fun k => k x6 h7) (fun x18 h8 =>
 gdK x16 true (fun k => ikY .sub x18 (.i .i64 9223372036854775809) fun y => k y h8) (fun x19 h9 =>
 gdK x16 true (fun k => iaK 1 x17 x19 fun y => k y h9) (fun x20 h10 =>
 gdK x16 true (fun k => ld1 x20 h10 fun y => k y h10) (fun x21 h11 =>
 gdK x16 true (fun k => k x9 h11) (fun x22 h12 =>
 gdK x16 true (fun k => ikY .geq x21 x22 fun y => k y h12) (fun x23 h13 =>
 gdK x13 false (fun k => pkK x16 x23 (.b false) fun y => k y h13) (fun x24 h14 =>
 pkK x13 (.b true) x24 fun x25 =>
 cdK x25 (
 k (.b false) h14) (
 ikY .add x6 (.i .i64 9223372036854775809) fun x26 =>
 x2 x3 x4 x5 x26 h14)) h13) h12) h11) h10) h9) h8) h7) h6) h5) h4) h3) h2) h1) (
 lnLY x3 fun x27 =>
 ikY .gtr x27 (.i .i64 9223372036854775808) fun x28 =>
 k x28 h1)) [x0, x0, x1, (.i .i64 9223372036854775808)] h0) args h
noncomputable def s55 : FS := S55
noncomputable def a55 : Ann := (.s .o (.s (.s .o (.b (.l [0, 5, 6, 7] (.s .o (.s (.i .o .o) (.s (.b (.s .o (.s .o (.i (.s .o .o) .o)))) .o)))))) (.s .o .o)))
noncomputable def a170 : Ann := (.s .o (.s (.s .o (.i (.s .o .o) .o)) (.s .o .o)))
noncomputable def s170 : FS := fnF Tryz.prog [] MM Tryz.f170 a170
noncomputable def a94 : Ann := (.s .o (.s (.s .o (.i (.s .o .o) .o)) (.s .o .o)))
noncomputable def s94 : FS := fnF Tryz.prog [(170, s170)] MM Tryz.f94 a94
noncomputable def s95 : FS := sx
noncomputable def s96 : FS := sx
noncomputable def s97 : FS := sx
noncomputable def S177 : FS := fun args h k => capp 1 (fun x0 h0 =>
 lnSY x0 fun x1 =>
 capp 3 (lp 3 fun (x2 : CT 3) x3 x4 x5 h1 =>
 ikY .lss x5 x4 fun x6 =>
 cdK x6 (
 ixK x3 x5 fun x7 =>
 ikY .lss x7 (.i .u8 9223372036854775905) fun x8 =>
 gdK x8 false (fun k => k x3 h1) (fun x9 h2 =>
 gdK x8 false (fun k => k x5 h2) (fun x10 h3 =>
 gdK x8 false (fun k => ixK x9 x10 fun y => k y h3) (fun x11 h4 =>
 gdK x8 false (fun k => ikY .gtr x11 (.i .u8 9223372036854775930) fun y => k y h4) (fun x12 h5 =>
 pkK x8 (.b true) x12 fun x13 =>
 cdK x13 (
 k (.b false) h5) (
 ikY .add x5 (.i .i64 9223372036854775809) fun x14 =>
 x2 x3 x4 x14 h5)) h4) h3) h2) h1) (
 stY .neq x3 (.s 0 []) fun x15 =>
 gdK x15 true (fun k => k x3 h1) (fun x16 h6 =>
 gdK x15 true (fun k => lnSY x16 fun y => k y h6) (fun x17 h7 =>
 gdK x15 true (fun k => ikY .leq x17 (.i .i64 9223372036854775818) fun y => k y h7) (fun x18 h8 =>
 pkK x15 x18 (.b false) fun x19 =>
 k x19 h8) h7) h6) h1)) [x0, x1, (.i .i64 9223372036854775808)] h0) args h
noncomputable def s177 : FS := S177
noncomputable def a177 : Ann := (.s .o (.s (.s .o (.b (.l [0, 5, 6] (.s .o (.s (.i .o .o) (.s (.b (.s .o (.s .o (.i (.s .o .o) .o)))) .o)))))) (.s .o .o)))
def Z265 : List AV := [.ns, (.i .i64 9223372036854775808), (.b false)]
def z265 : AV := .a Z265
noncomputable def a98 : Ann := (.s .o (.s (.s .o (.i (.s .o .o) .o)) (.s .o (.s (.b (.s .o (.i (.s .o .o) (.s .o (.i (.s .o .o) .o))))) (.s (.g [0, 1, 2, 3, 4, 5, 7, 8, 6, 9, 10, 11]) (.s .o .o))))))
noncomputable def s98 : FS := fnF Tryz.prog [(177, s177), (170, s170)] MM Tryz.f98 a98
def Z184 : List AV := [.np, (.i .i64 9223372036854775808), (.i .i64 9223372036854775808), (.i .i64 9223372036854775808), (.i .i64 9223372036854775808), (.s 0 []), (.s 0 []), .ns, (.i .i64 9223372036854775808)]
def z184 : AV := .a Z184
def Z144 : List AV := [(.i .i64 9223372036854775808), (.i .i64 9223372036854775808), (.s 0 []), (.s 0 [])]
def z144 : AV := .a Z144
def Z195 : List AV := [(.b false), (.i .i64 9223372036854775808), (.i .i64 9223372036854775808), (.i .i64 9223372036854775808), (.i .i64 9223372036854775808), (.i .i64 9223372036854775808), (.s 0 [])]
def z195 : AV := .a Z195
noncomputable def a56 : Ann := (.s .o (.s .o (.s .o (.s (.s .o (.i (.s .o .o) .o)) (.s .o (.s (.s .o (.i (.s .o .o) .o)) (.s .o (.s .o (.s (.s .o (.i (.s .o .o) .o)) (.s (.s .o (.b (.l [0, 4, 5, 8, 10, 49, 50, 51] (.s .o (.s (.i .o .o) (.s (.b (.s .o (.s (.g [0, 1, 2, 3, 4, 5]) (.i (.s .o .o) .o)))) .o)))))) (.s .o (.s (.s .o (.j [4] (.s .o (.s .o (.i (.s .o .o) .o))) .o)) (.s .o .o)))))))))))))
noncomputable def s56 : FS := fnF Tryz.prog [(94, s94), (95, s95), (96, s96), (97, s97), (98, s98)] MM Tryz.f56 a56
noncomputable def a100 : Ann := (.s .o (.s .o .o))
noncomputable def s100 : FS := fnF Tryz.prog [] MM Tryz.f100 a100
noncomputable def s178 : FS := sx
noncomputable def s250 : FS := sx
noncomputable def S251 : FS := fun args h k => capp 1 (fun x0 h0 =>
 ikY .geq x0 (.i .u64 9223372041149743104) fun x1 =>
 jn 2 (fun x2 : CT 2 =>
 cdK x1 (
 shkK .shr x0 (.i .u64 9223372036854775840) fun x3 =>
 x2 x3 (.i .i64 9223372036854775840) h0) (
 x2 x0 (.i .i64 9223372036854775808) h0)) fun x4 x5 h1 =>
 ikY .geq x4 (.i .u64 9223372036854841344) fun x6 =>
 jn 2 (fun x7 : CT 2 =>
 cdK x6 (
 shkK .shr x4 (.i .u64 9223372036854775824) fun x8 =>
 ikY .add x5 (.i .i64 9223372036854775824) fun x9 =>
 x7 x8 x9 h1) (
 x7 x4 x5 h1)) fun x10 x11 h2 =>
 ikY .geq x10 (.i .u64 9223372036854776064) fun x12 =>
 jn 2 (fun x13 : CT 2 =>
 cdK x12 (
 shkK .shr x10 (.i .u64 9223372036854775816) fun x14 =>
 ikY .add x11 (.i .i64 9223372036854775816) fun x15 =>
 x13 x14 x15 h2) (
 x13 x10 x11 h2)) fun x16 x17 h3 =>
 ciY .u8 x16 fun x18 =>
 ixK (.s 256 [0, 1, 2, 2, 3, 3, 3, 3, 4, 4, 4, 4, 4, 4, 4, 4, 5, 5, 5, 5, 5, 5, 5, 5, 5, 5, 5, 5, 5, 5, 5, 5, 6, 6, 6, 6, 6, 6, 6, 6, 6, 6, 6, 6, 6, 6, 6, 6, 6, 6, 6, 6, 6, 6, 6, 6, 6, 6, 6, 6, 6, 6, 6, 6, 7, 7, 7, 7, 7, 7, 7, 7, 7, 7, 7, 7, 7, 7, 7, 7, 7, 7, 7, 7, 7, 7, 7, 7, 7, 7, 7, 7, 7, 7, 7, 7, 7, 7, 7, 7, 7, 7, 7, 7, 7, 7, 7, 7, 7, 7, 7, 7, 7, 7, 7, 7, 7, 7, 7, 7, 7, 7, 7, 7, 7, 7, 7, 7, 8, 8, 8, 8, 8, 8, 8, 8, 8, 8, 8, 8, 8, 8, 8, 8, 8, 8, 8, 8, 8, 8, 8, 8, 8, 8, 8, 8, 8, 8, 8, 8, 8, 8, 8, 8, 8, 8, 8, 8, 8, 8, 8, 8, 8, 8, 8, 8, 8, 8, 8, 8, 8, 8, 8, 8, 8, 8, 8, 8, 8, 8, 8, 8, 8, 8, 8, 8, 8, 8, 8, 8, 8, 8, 8, 8, 8, 8, 8, 8, 8, 8, 8, 8, 8, 8, 8, 8, 8, 8, 8, 8, 8, 8, 8, 8, 8, 8, 8, 8, 8, 8, 8, 8, 8, 8, 8, 8, 8, 8, 8, 8, 8, 8, 8, 8, 8, 8, 8, 8, 8, 8, 8, 8, 8, 8, 8, 8]) x18 fun x19 =>
 ciY .i64 x19 fun x20 =>
 ikY .add x17 x20 fun x21 =>
 k x21 h3) args h
noncomputable def s251 : FS := S251
noncomputable def a251 : Ann := (.s .o (.s (.s .o (.j [0, 2] (.s .o .o) .o)) (.s (.s .o (.j [0, 2] (.s .o .o) .o)) (.s (.s .o (.j [0, 2] (.s .o .o) .o)) (.s .o .o)))))
noncomputable def S218 (s250 s251 : FS) : FS := fun args h k => capp 1 (fun x0 h0 =>
 cdK (.b false) (
 ciY .u32 x0 fun x1 =>
 s250 [x1] h0 fun x2 h1 =>
 k x2 h1) (
 s251 [x0] h0 fun x3 h2 =>
 k x3 h2)) args h
noncomputable def s218 : FS := S218 s250 s251
noncomputable def a218 : Ann := (.s .o (.s (.i (.s .o .o) .o) (.s .o .o)))
noncomputable def s247 : FS := sx
noncomputable def a241 : Ann := (.s .o (.b (.l [0, 1, 2, 6] (.s (.s .o (.i .o .o)) (.s (.b (.s .o (.b (.l [0, 1, 2, 6, 7] (.s (.s (.g [0, 1, 2, 3, 4, 5, 6, 7, 8, 9, 10, 11, 12, 13, 14]) (.i .o .o)) (.s (.b (.g [0, 1, 2, 3, 4, 5, 6, 7, 8, 9, 10, 11, 12, 13, 14, 15, 16, 17])) .o)))))) .o)))))
noncomputable def s241 : FS := fnF Tryz.prog [(247, s247)] MM Tryz.f241 a241
noncomputable def s242 : FS := sx
noncomputable def s243 : FS := sx
noncomputable def s244 : FS := sx
noncomputable def s245 : FS := sx
noncomputable def s246 : FS := sx
noncomputable def s248 : FS := sx
noncomputable def s249 : FS := sx
noncomputable def a217 : Ann := (.s .o (.s .o (.b (.l [0, 1, 2, 3, 8, 9] (.b (.s .o (.s (.s .o (.i (.s .o .o) .o)) (.s (.s .o (.i (.s .o .o) .o)) (.s (.s .o (.j [0, 1, 2, 3, 8, 9, 10] (.s .o .o) .o)) (.s .o (.s (.s .o (.j [0, 1, 2, 3, 8, 9, 10, 11, 12] (.s .o (.s .o .o)) .o)) (.s (.s .o (.j [0, 1, 2, 3, 8, 9, 10, 11] (.s .o (.i .o .o)) .o)) (.s (.s (.g [0, 1, 2, 3, 4, 5, 6, 7, 8, 9, 10, 11, 12, 13, 14]) (.i (.s .o (.s .o .o)) .o)) (.s .o (.s .o (.s .o (.s .o (.s .o (.i (.s .o (.s .o .o)) (.s .o (.s .o .o)))))))))))))))))))))
noncomputable def s217 : FS := fnF Tryz.prog [(241, s241), (242, s242), (243, s243), (244, s244), (245, s245), (246, s246), (247, s247), (248, s248), (249, s249), (217, sx)] MM Tryz.f217 a217
noncomputable def a179 : Ann := (.s .o .o)
noncomputable def s179 : FS := fnF Tryz.prog [(218, s218), (217, s217)] MM Tryz.f179 a179
noncomputable def s99 : FS := (soF 180)
noncomputable def a57 : Ann := (.s .o (.s (.s .o (.i (.s .o .o) .o)) (.s .o .o)))
noncomputable def s57 : FS := fnF Tryz.prog [(100, s100), (99, s99)] MM Tryz.f57 a57
noncomputable def a59 : Ann := (.s .o (.s (.s .o (.i (.s .o .o) .o)) (.s .o (.s (.s .o (.b (.l [3, 9, 10, 11] (.s .o (.s (.i .o .o) (.s (.b (.s .o .o)) .o)))))) (.s .o .o)))))
noncomputable def s59 : FS := fnF Tryz.prog [(55, s55)] MM Tryz.f59 a59
def Z128 : List AV := [.nm]
def z128 : AV := .a Z128
noncomputable def S168 : FS := fun args h k => capp 0 (fun h0 =>
 mmD h0 fun x0 h1 =>
 blK [(0, 1, x0)] Z128 fun x1 =>
 boxK 128 1 x1 h1 fun x2 h2 =>
 k x2 h2) args h
noncomputable def s168 : FS := S168
noncomputable def a168 : Ann := (.s .o (.s .o .o))
def Z180 : List AV := [(.i .i64 9223372036854775808), .np, (.i .i64 9223372036854775808), (.i .i64 9223372036854775808), (.i .i64 9223372036854775808), (.i .i64 9223372036854775808), .ns, (.i .i64 9223372036854775808), (.i .i64 9223372036854775808), (.i .i64 9223372036854775808), (.i .i64 9223372036854775808), (.i .i64 9223372036854775808), .ns, (.i .i64 9223372036854775808), (.i .i64 9223372036854775808), (.i .i64 9223372036854775808), (.i .i64 9223372036854775808), (.i .i64 9223372036854775808), .ns, (.i .i64 9223372036854775808), (.i .i64 9223372036854775808), (.i .i64 9223372036854775808), (.i .i64 9223372036854775808), (.i .i64 9223372036854775808), .ns, (.i .i64 9223372036854775808), (.i .i64 9223372036854775808), (.i .i64 9223372036854775808), (.i .i64 9223372036854775808), (.i .i64 9223372036854775808), .ns, (.i .i64 9223372036854775808), (.i .i64 9223372036854775808), (.i .i64 9223372036854775808), (.i .i64 9223372036854775808), (.i .i64 9223372036854775808), .ns, (.i .i64 9223372036854775808)]
def z180 : AV := .a Z180
noncomputable def a103 : Ann := (.s .o (.s .o .o))
noncomputable def s103 : FS := fnF Tryz.prog [(168, s168)] MM Tryz.f103 a103
def Z206 : List AV := [(.i .i64 9223372036854775808), .np, .ns]
def z206 : AV := .a Z206
noncomputable def a60 : Ann := (.s .o (.s .o .o))
noncomputable def s60 : FS := fnF Tryz.prog [(103, s103)] MM Tryz.f60 a60
noncomputable def S104 : FS := fun args h k => capp 2 (fun x0 x1 h0 =>
 ciY .u64 x1 fun x2 =>
 shkK .shl x2 (.i .u64 9223372036854775809) fun x3 =>
 ikY .lss x1 (.i .i64 9223372036854775808) fun x4 =>
 jn 2 (fun x5 : CT 2 =>
 cdK x4 (
 cplK x3 fun x6 =>
 x5 x0 x6 h0) (
 x5 x0 x3 h0)) fun x7 x8 h1 =>
 capp 2 (lp 2 fun (x9 : CT 2) x10 x11 h2 =>
 ikY .gtr x11 (.i .u64 9223372036854775935) fun x12 =>
 cdK x12 (
 ciY .u8 x11 fun x13 =>
 ikY .or x13 (.i .u8 9223372036854775936) fun x14 =>
 bsK 5 1 1 1 [x14] h2 fun x15 h3 =>
 apY 5 1 x10 x15 h3 fun x16 h4 =>
 shkK .shr x11 (.i .u64 9223372036854775815) fun x17 =>
 x9 x16 x17 h4) (
 ciY .u8 x11 fun x18 =>
 bsK 5 1 1 1 [x18] h2 fun x19 h5 =>
 apY 5 1 x10 x19 h5 fun x20 h6 =>
 k x20 h6)) [x7, x8] h1) args h
noncomputable def s104 : FS := S104
noncomputable def a104 : Ann := (.s .o (.s .o (.s (.s .o (.j [0, 5] .o .o)) (.s (.b (.l [0, 5] (.s (.s .o (.i .o .o)) (.b (.s .o .o))))) (.s .o .o)))))
noncomputable def s272 : FS := sx
def Z358 : List AV := [(.i .u8 9223372036854775808), (.i .u8 9223372036854775808)]
def z358 : AV := .a Z358
noncomputable def S264 (s272 : FS) : FS := fun args h k => capp 1 (fun x0 h0 =>
 capp 1 (lp 1 fun (x1 : CT 1) x2 h1 =>
 lnSY x2 fun x3 =>
 ikY .gtr x3 (.i .i64 9223372036854775808) fun x4 =>
 cdK x4 (
 ixK x2 (.i .i64 9223372036854775808) fun x5 =>
 ikY .lss x5 (.i .u8 9223372036854775936) fun x6 =>
 cdK x6 (
 slsK (some (.i .i64 9223372036854775809)) none none x2 fun x7 =>
 lnSY x7 fun x8 =>
 ikY .gtr x8 (.i .i64 9223372036854775816) fun x9 =>
 gdK x9 true (fun k => k x7 h1) (fun x10 h2 =>
 gdK x9 true (fun k => s272 [x10] h2 k) (fun x11 h3 =>
 gdK x9 true (fun k => ikY .and x11 (.i .u64 18482914160128589952) fun y => k y h3) (fun x12 h4 =>
 gdK x9 true (fun k => ikY .eql x12 (.i .u64 9223372036854775808) fun y => k y h4) (fun x13 h5 =>
 pkK x9 x13 (.b false) fun x14 =>
 cdK x14 (
 slsK (some (.i .i64 9223372036854775816)) none none x7 fun x15 =>
 lnSY x15 fun x16 =>
 ikY .gtr x16 (.i .i64 9223372036854775824) fun x17 =>
 gdK x17 true (fun k => k x15 h5) (fun x18 h6 =>
 gdK x17 true (fun k => k x15 h6) (fun x19 h7 =>
 gdK x17 true (fun k => slsK (some (.i .i64 9223372036854775816)) none none x19 fun y => k y h7) (fun x20 h8 =>
 gdK x17 true (fun k => s272 [x18] h8 k) (fun x21 h9 =>
 gdK x17 true (fun k => s272 [x20] h9 k) (fun x22 h10 =>
 gdK x17 true (fun k => ikY .or x21 x22 fun y => k y h10) (fun x23 h11 =>
 gdK x17 true (fun k => ikY .and x23 (.i .u64 18482914160128589952) fun y => k y h11) (fun x24 h12 =>
 gdK x17 true (fun k => ikY .eql x24 (.i .u64 9223372036854775808) fun y => k y h12) (fun x25 h13 =>
 pkK x17 x25 (.b false) fun x26 =>
 cdK x26 (
 slsK (some (.i .i64 9223372036854775824)) none none x15 fun x27 =>
 capp 1 (lp 1 fun (x28 : CT 1) x29 h14 =>
 lnSY x29 fun x30 =>
 ikY .gtr x30 (.i .i64 9223372036854775840) fun x31 =>
 gdK x31 true (fun k => k x29 h14) (fun x32 h15 =>
 gdK x31 true (fun k => k x29 h15) (fun x33 h16 =>
 gdK x31 true (fun k => slsK (some (.i .i64 9223372036854775816)) none none x33 fun y => k y h16) (fun x34 h17 =>
 gdK x31 true (fun k => k x29 h17) (fun x35 h18 =>
 gdK x31 true (fun k => slsK (some (.i .i64 9223372036854775824)) none none x35 fun y => k y h18) (fun x36 h19 =>
 gdK x31 true (fun k => k x29 h19) (fun x37 h20 =>
 gdK x31 true (fun k => slsK (some (.i .i64 9223372036854775832)) none none x37 fun y => k y h20) (fun x38 h21 =>
 gdK x31 true (fun k => s272 [x32] h21 k) (fun x39 h22 =>
 gdK x31 true (fun k => s272 [x34] h22 k) (fun x40 h23 =>
 gdK x31 true (fun k => ikY .or x39 x40 fun y => k y h23) (fun x41 h24 =>
 gdK x31 true (fun k => s272 [x36] h24 k) (fun x42 h25 =>
 gdK x31 true (fun k => s272 [x38] h25 k) (fun x43 h26 =>
 gdK x31 true (fun k => ikY .or x42 x43 fun y => k y h26) (fun x44 h27 =>
 gdK x31 true (fun k => ikY .or x41 x44 fun y => k y h27) (fun x45 h28 =>
 gdK x31 true (fun k => ikY .and x45 (.i .u64 18482914160128589952) fun y => k y h28) (fun x46 h29 =>
 gdK x31 true (fun k => ikY .eql x46 (.i .u64 9223372036854775808) fun y => k y h29) (fun x47 h30 =>
 pkK x31 x47 (.b false) fun x48 =>
 cdK x48 (
 slsK (some (.i .i64 9223372036854775840)) none none x29 fun x49 =>
 x28 x49 h30) (
 x1 x29 h30)) h29) h28) h27) h26) h25) h24) h23) h22) h21) h20) h19) h18) h17) h16) h15) h14) [x27] h13) (
 x1 x15 h13)) h12) h11) h10) h9) h8) h7) h6) h5) (
 x1 x7 h5)) h4) h3) h2) h1) (
 iapK 256 1 .d x5 fun x50 =>
 ld1 x50 h1 fun x51 =>
 ikY .and x51 (.i .u8 9223372036854775815) fun x52 =>
 ciY .i64 x52 fun x53 =>
 shkK .shr x51 (.i .u64 9223372036854775812) fun x54 =>
 iapK 16 2 .d x54 fun x55 =>
 ldN 2 x55 h1 fun x56 =>
 boxK 358 2 z358 h1 fun x57 h31 =>
 stL 2 x57 x56 h31 fun h32 =>
 ikY .eql x53 (.i .i64 9223372036854775810) fun x58 =>
 cdK x58 (
 lnSY x2 fun x59 =>
 ikY .lss x59 (.i .i64 9223372036854775810) fun x60 =>
 gdK x60 false (fun k => k x2 h32) (fun x61 h33 =>
 gdK x60 false (fun k => ixK x61 (.i .i64 9223372036854775809) fun y => k y h33) (fun x62 h34 =>
 gdK x60 false (fun k => faK 0 x57 fun y => k y h34) (fun x63 h35 =>
 gdK x60 false (fun k => ld1 x63 h35 fun y => k y h35) (fun x64 h36 =>
 gdK x60 false (fun k => ikY .lss x62 x64 fun y => k y h36) (fun x65 h37 =>
 pkK x60 (.b true) x65 fun x66 =>
 gdK x66 false (fun k => faK 1 x57 fun y => k y h37) (fun x67 h38 =>
 gdK x66 false (fun k => ld1 x67 h38 fun y => k y h38) (fun x68 h39 =>
 gdK x66 false (fun k => k x2 h39) (fun x69 h40 =>
 gdK x66 false (fun k => ixK x69 (.i .i64 9223372036854775809) fun y => k y h40) (fun x70 h41 =>
 gdK x66 false (fun k => ikY .lss x68 x70 fun y => k y h41) (fun x71 h42 =>
 pkK x66 (.b true) x71 fun x72 =>
 cdK x72 (
 k (.b false) h42) (
 slsK (some (.i .i64 9223372036854775810)) none none x2 fun x73 =>
 x1 x73 h42)) h41) h40) h39) h38) h37) h36) h35) h34) h33) h32) (
 ikY .eql x53 (.i .i64 9223372036854775811) fun x74 =>
 cdK x74 (
 lnSY x2 fun x75 =>
 ikY .lss x75 (.i .i64 9223372036854775811) fun x76 =>
 gdK x76 false (fun k => k x2 h32) (fun x77 h43 =>
 gdK x76 false (fun k => ixK x77 (.i .i64 9223372036854775809) fun y => k y h43) (fun x78 h44 =>
 gdK x76 false (fun k => faK 0 x57 fun y => k y h44) (fun x79 h45 =>
 gdK x76 false (fun k => ld1 x79 h45 fun y => k y h45) (fun x80 h46 =>
 gdK x76 false (fun k => ikY .lss x78 x80 fun y => k y h46) (fun x81 h47 =>
 pkK x76 (.b true) x81 fun x82 =>
 gdK x82 false (fun k => faK 1 x57 fun y => k y h47) (fun x83 h48 =>
 gdK x82 false (fun k => ld1 x83 h48 fun y => k y h48) (fun x84 h49 =>
 gdK x82 false (fun k => k x2 h49) (fun x85 h50 =>
 gdK x82 false (fun k => ixK x85 (.i .i64 9223372036854775809) fun y => k y h50) (fun x86 h51 =>
 gdK x82 false (fun k => ikY .lss x84 x86 fun y => k y h51) (fun x87 h52 =>
 pkK x82 (.b true) x87 fun x88 =>
 gdK x88 false (fun k => k x2 h52) (fun x89 h53 =>
 gdK x88 false (fun k => ixK x89 (.i .i64 9223372036854775810) fun y => k y h53) (fun x90 h54 =>
 gdK x88 false (fun k => ikY .lss x90 (.i .u8 9223372036854775936) fun y => k y h54) (fun x91 h55 =>
 pkK x88 (.b true) x91 fun x92 =>
 gdK x92 false (fun k => k x2 h55) (fun x93 h56 =>
 gdK x92 false (fun k => ixK x93 (.i .i64 9223372036854775810) fun y => k y h56) (fun x94 h57 =>
 gdK x92 false (fun k => ikY .lss (.i .u8 9223372036854775999) x94 fun y => k y h57) (fun x95 h58 =>
 pkK x92 (.b true) x95 fun x96 =>
 cdK x96 (
 k (.b false) h58) (
 slsK (some (.i .i64 9223372036854775811)) none none x2 fun x97 =>
 x1 x97 h58)) h57) h56) h55) h54) h53) h52) h51) h50) h49) h48) h47) h46) h45) h44) h43) h32) (
 ikY .eql x53 (.i .i64 9223372036854775812) fun x98 =>
 cdK x98 (
 lnSY x2 fun x99 =>
 ikY .lss x99 (.i .i64 9223372036854775812) fun x100 =>
 gdK x100 false (fun k => k x2 h32) (fun x101 h59 =>
 gdK x100 false (fun k => ixK x101 (.i .i64 9223372036854775809) fun y => k y h59) (fun x102 h60 =>
 gdK x100 false (fun k => faK 0 x57 fun y => k y h60) (fun x103 h61 =>
 gdK x100 false (fun k => ld1 x103 h61 fun y => k y h61) (fun x104 h62 =>
 gdK x100 false (fun k => ikY .lss x102 x104 fun y => k y h62) (fun x105 h63 =>
 pkK x100 (.b true) x105 fun x106 =>
 gdK x106 false (fun k => faK 1 x57 fun y => k y h63) (fun x107 h64 =>
 gdK x106 false (fun k => ld1 x107 h64 fun y => k y h64) (fun x108 h65 =>
 gdK x106 false (fun k => k x2 h65) (fun x109 h66 =>
 gdK x106 false (fun k => ixK x109 (.i .i64 9223372036854775809) fun y => k y h66) (fun x110 h67 =>
 gdK x106 false (fun k => ikY .lss x108 x110 fun y => k y h67) (fun x111 h68 =>
 pkK x106 (.b true) x111 fun x112 =>
 gdK x112 false (fun k => k x2 h68) (fun x113 h69 =>
 gdK x112 false (fun k => ixK x113 (.i .i64 9223372036854775810) fun y => k y h69) (fun x114 h70 =>
 gdK x112 false (fun k => ikY .lss x114 (.i .u8 9223372036854775936) fun y => k y h70) (fun x115 h71 =>
 pkK x112 (.b true) x115 fun x116 =>
 gdK x116 false (fun k => k x2 h71) (fun x117 h72 =>
 gdK x116 false (fun k => ixK x117 (.i .i64 9223372036854775810) fun y => k y h72) (fun x118 h73 =>
 gdK x116 false (fun k => ikY .lss (.i .u8 9223372036854775999) x118 fun y => k y h73) (fun x119 h74 =>
 pkK x116 (.b true) x119 fun x120 =>
 gdK x120 false (fun k => k x2 h74) (fun x121 h75 =>
 gdK x120 false (fun k => ixK x121 (.i .i64 9223372036854775811) fun y => k y h75) (fun x122 h76 =>
 gdK x120 false (fun k => ikY .lss x122 (.i .u8 9223372036854775936) fun y => k y h76) (fun x123 h77 =>
 pkK x120 (.b true) x123 fun x124 =>
 gdK x124 false (fun k => k x2 h77) (fun x125 h78 =>
 gdK x124 false (fun k => ixK x125 (.i .i64 9223372036854775811) fun y => k y h78) (fun x126 h79 =>
 gdK x124 false (fun k => ikY .lss (.i .u8 9223372036854775999) x126 fun y => k y h79) (fun x127 h80 =>
 pkK x124 (.b true) x127 fun x128 =>
 cdK x128 (
 k (.b false) h80) (
 slsK (some (.i .i64 9223372036854775812)) none none x2 fun x129 =>
 x1 x129 h80)) h79) h78) h77) h76) h75) h74) h73) h72) h71) h70) h69) h68) h67) h66) h65) h64) h63) h62) h61) h60) h59) h32) (
 k (.b false) h32))))) (
 k (.b true) h1)) [x0] h0) args h
noncomputable def s264 : FS := S264 s272
noncomputable def a264 : Ann := (.s .o (.s (.b (.l [0] (.s (.s .o (.i .o .o)) (.b (.s .o (.s (.s .o (.i (.s .o (.s (.s .o (.i (.s .o (.s (.g [0, 1, 2, 3, 4, 6, 7, 5, 8, 9, 10, 11, 12]) (.i (.s .o (.b (.l [0] (.s (.s (.g [0, 1, 2, 3, 4, 6, 7, 10, 11, 13, 14, 5, 8, 9, 12, 15, 16, 17, 18, 19, 20]) (.i .o .o)) (.b .o))))) .o))) .o)) .o)) .o)) (.s .o (.s .o (.s .o (.s .o (.b (.s .o (.i (.s (.s (.g [0, 1, 2, 3, 4, 5, 6, 7, 8, 9, 10, 11, 12, 13, 14, 15, 16]) (.i (.s .o .o) .o)) .o) (.s .o (.i (.s (.s (.g [0, 1, 2, 3, 4, 5, 6, 7, 8, 9, 10, 11, 12, 13, 14, 15, 16, 17, 18, 19, 20, 21, 22, 23, 24, 25, 26]) (.i (.s .o .o) .o)) .o) (.s .o (.i (.s (.s (.g [0, 1, 2, 3, 4, 5, 6, 7, 8, 9, 10, 11, 12, 13, 14, 15, 16, 17, 18, 19, 20, 21, 22, 23, 24, 25, 26, 27, 28, 29, 30, 31, 32, 33, 34, 35, 36]) (.i (.s .o .o) .o)) .o) (.s .o .o)))))))))))))))))) (.s .o .o)))
noncomputable def S235 (s264 : FS) : FS := fun args h k => capp 1 (fun x0 h0 =>
 s264 [x0] h0 fun x1 h1 =>
 k x1 h1) args h
noncomputable def s235 : FS := S235 s264
noncomputable def a235 : Ann := (.s .o (.s .o .o))
noncomputable def S206 (s235 : FS) : FS := fun args h k => capp 1 (fun x0 h0 =>
 rsD x0 h0 fun x1 h1 =>
 capp 3 (lp 3 fun (x2 : CT 3) x3 x4 x5 h2 =>
 nsD x5 h2 fun x6 h3 =>
 exK x6 0 fun x7 =>
 cdK x7 (
 exK x6 2 fun x8 =>
 ikY .lss x8 (.i .i32 9223372036854775840) fun x9 =>
 gdK x9 false (fun k => k x8 h3) (fun x10 h4 =>
 gdK x9 false (fun k => ikY .eql x10 (.i .i32 9223372036854775935) fun y => k y h4) (fun x11 h5 =>
 pkK x9 (.b true) x11 fun x12 =>
 cdK x12 (
 k (.b false) h5) (
 ikY .add x4 (.i .i64 9223372036854775809) fun x13 =>
 x2 x3 x13 x5 h5)) h4) h3) (
 ikY .geq x4 (.i .i64 9223372036854775809) fun x14 =>
 gdK x14 true (fun k => k x4 h3) (fun x15 h6 =>
 gdK x14 true (fun k => ikY .leq x15 (.i .i64 9223372036854775848) fun y => k y h6) (fun x16 h7 =>
 pkK x14 x16 (.b false) fun x17 =>
 gdK x17 true (fun k => k x3 h7) (fun x18 h8 =>
 gdK x17 true (fun k => s235 [x18] h8 k) (fun x19 h9 =>
 pkK x17 x19 (.b false) fun x20 =>
 k x20 h9) h8) h7) h6) h3)) [x0, (.i .i64 9223372036854775808), x1] h1) args h
noncomputable def s206 : FS := S206 s235
noncomputable def a206 : Ann := (.s .o (.s .o (.s (.s .o (.b (.l [0, 3, 7] (.s .o (.s (.i .o .o) (.b (.s .o (.s (.s .o (.i (.s .o .o) .o)) .o)))))))) (.s .o .o))))
def Z125 : List AV := [.ni]
def z125 : AV := .a Z125
noncomputable def S236 (s235 : FS) : FS := fun args h k => capp 1 (fun x0 h0 =>
 boxK 30 3 x0 h0 fun x1 h1 =>
 boxK 125 1 z125 h1 fun x2 h2 =>
 faK 0 x1 fun x3 =>
 ld1 x3 h2 fun x4 =>
 ikY .eql x4 (.i .i64 9223372036854775808) fun x5 =>
 gdK x5 true (fun k => faK 1 x1 fun y => k y h2) (fun x6 h3 =>
 gdK x5 true (fun k => ld1 x6 h3 fun y => k y h3) (fun x7 h4 =>
 gdK x5 true (fun k => ikY .eql x7 (.i .i64 9223372036854775808) fun y => k y h4) (fun x8 h5 =>
 pkK x5 x8 (.b false) fun x9 =>
 gdK x9 true (fun k => faK 2 x1 fun y => k y h5) (fun x10 h6 =>
 gdK x9 true (fun k => ld1 x10 h6 fun y => k y h6) (fun x11 h7 =>
 gdK x9 true (fun k => stY .eql x11 (.s 0 []) fun y => k y h7) (fun x12 h8 =>
 pkK x9 x12 (.b false) fun x13 =>
 cdK x13 (
 blK [] Z125 fun x14 =>
 stL 1 x2 x14 h8 fun h9 =>
 ldN 1 x2 h9 fun x15 => k (.t [x15, (.i .i64 9223372036854775808)]) h9) (
 faK 0 x1 fun x16 =>
 ld1 x16 h8 fun x17 =>
 ikY .eql x17 (.i .i64 9223372036854775809) fun x18 =>
 gdK x18 true (fun k => faK 2 x1 fun y => k y h8) (fun x19 h10 =>
 gdK x18 true (fun k => ld1 x19 h10 fun y => k y h10) (fun x20 h11 =>
 gdK x18 true (fun k => stY .eql x20 (.s 0 []) fun y => k y h11) (fun x21 h12 =>
 pkK x18 x21 (.b false) fun x22 =>
 cdK x22 (
 faK 1 x1 fun x23 =>
 ld1 x23 h12 fun x24 =>
 blK [(0, 1, (.e 181 x24))] Z125 fun x25 =>
 stL 1 x2 x25 h12 fun h13 =>
 ldN 1 x2 h13 fun x26 => k (.t [x26, (.i .i64 9223372036854775808)]) h13) (
 faK 0 x1 fun x27 =>
 ld1 x27 h12 fun x28 =>
 ikY .eql x28 (.i .i64 9223372036854775810) fun x29 =>
 gdK x29 true (fun k => faK 1 x1 fun y => k y h12) (fun x30 h14 =>
 gdK x29 true (fun k => ld1 x30 h14 fun y => k y h14) (fun x31 h15 =>
 gdK x29 true (fun k => ikY .eql x31 (.i .i64 9223372036854775808) fun y => k y h15) (fun x32 h16 =>
 pkK x29 x32 (.b false) fun x33 =>
 gdK x33 true (fun k => faK 2 x1 fun y => k y h16) (fun x34 h17 =>
 gdK x33 true (fun k => ld1 x34 h17 fun y => k y h17) (fun x35 h18 =>
 gdK x33 true (fun k => lnSY x35 fun y => k y h18) (fun x36 h19 =>
 gdK x33 true (fun k => ikY .leq x36 (.i .i64 9223372036854776008) fun y => k y h19) (fun x37 h20 =>
 pkK x33 x37 (.b false) fun x38 =>
 gdK x38 true (fun k => faK 2 x1 fun y => k y h20) (fun x39 h21 =>
 gdK x38 true (fun k => ld1 x39 h21 fun y => k y h21) (fun x40 h22 =>
 gdK x38 true (fun k => s235 [x40] h22 k) (fun x41 h23 =>
 pkK x38 x41 (.b false) fun x42 =>
 cdK x42 (
 faK 2 x1 fun x43 =>
 ld1 x43 h23 fun x44 =>
 blK [(0, 1, (.e 182 x44))] Z125 fun x45 =>
 stL 1 x2 x45 h23 fun h24 =>
 ldN 1 x2 h24 fun x46 => k (.t [x46, (.i .i64 9223372036854775808)]) h24) (
 blK [] Z125 fun x47 =>
 stL 1 x2 x47 h23 fun h25 =>
 ldN 1 x2 h25 fun x48 => k (.t [x48, (.i .i64 9223372036854775809)]) h25)) h22) h21) h20) h19) h18) h17) h16) h15) h14) h12)) h11) h10) h8)) h7) h6) h5) h4) h3) h2) args h
noncomputable def s236 : FS := S236 s235
noncomputable def a236 : Ann := (.s .o (.s (.b (.s .o (.i (.s .o .o) (.s .o (.i (.s .o .o) (.s .o (.i (.s .o .o) .o))))))) (.s .o .o)))
noncomputable def S207 (s236 : FS) : FS := fun args h k => capp 1 (fun x0 h0 =>
 boxK 30 3 x0 h0 fun x1 h1 =>
 ldN 3 x1 h1 fun x2 =>
 s236 [x2] h1 fun x3 h2 =>
 exK x3 0 fun x4 =>
 exK x3 1 fun x5 =>
 boxK 125 1 z125 h2 fun x6 h3 =>
 stL 1 x6 x4 h3 fun h4 =>
 ikY .eql x5 (.i .i64 9223372036854775808) fun x7 =>
 k x7 h4) args h
noncomputable def s207 : FS := S207 s236
noncomputable def a207 : Ann := (.s .o (.s .o (.s .o .o)))
def Z30 : List AV := [(.i .i64 9223372036854775808), (.i .i64 9223372036854775808), (.s 0 [])]
def z30 : AV := .a Z30
noncomputable def S151 (s206 s207 : FS) : FS := fun args h k => capp 1 (fun x0 h0 =>
 boxK 32 9 x0 h0 fun x1 h1 =>
 faK 1 x1 fun x2 =>
 ld1 x2 h1 fun x3 =>
 s206 [x3] h1 fun x4 h2 =>
 notK x4 fun x5 =>
 gdK x5 false (fun k => faK 2 x1 fun y => k y h2) (fun x6 h3 =>
 gdK x5 false (fun k => ldN 3 x6 h3 fun y => k y h3) (fun x7 h4 =>
 gdK x5 false (fun k => s207 [x7] h4 k) (fun x8 h5 =>
 gdK x5 false (fun k => notK x8 fun y => k y h5) (fun x9 h6 =>
 pkK x5 (.b true) x9 fun x10 =>
 gdK x10 false (fun k => faK 5 x1 fun y => k y h6) (fun x11 h7 =>
 gdK x10 false (fun k => ldN 3 x11 h7 fun y => k y h7) (fun x12 h8 =>
 gdK x10 false (fun k => s207 [x12] h8 k) (fun x13 h9 =>
 gdK x10 false (fun k => notK x13 fun y => k y h9) (fun x14 h10 =>
 pkK x10 (.b true) x14 fun x15 =>
 cdK x15 (
 k (.b false) h10) (
 blK [] Z30 fun x16 =>
 boxK 30 3 z30 h10 fun x17 h11 =>
 stL 3 x17 x16 h11 fun h12 =>
 faK 0 x1 fun x18 =>
 ld1 x18 h12 fun x19 =>
 ikY .eql x19 (.i .i64 9223372036854775809) fun x20 =>
 cdK x20 (
 faK 2 x1 fun x21 =>
 ldN 3 x21 h12 fun x22 =>
 ldN 3 x17 h12 fun x23 =>
 sqA .neq 30 x22 x23 fun x24 =>
 gdK x24 true (fun k => faK 5 x1 fun y => k y h12) (fun x25 h13 =>
 gdK x24 true (fun k => ldN 3 x25 h13 fun y => k y h13) (fun x26 h14 =>
 gdK x24 true (fun k => ldN 3 x17 h14 fun y => k y h14) (fun x27 h15 =>
 gdK x24 true (fun k => sqA .eql 30 x26 x27 fun y => k y h15) (fun x28 h16 =>
 pkK x24 x28 (.b false) fun x29 =>
 gdK x29 true (fun k => faK 8 x1 fun y => k y h16) (fun x30 h17 =>
 gdK x29 true (fun k => ld1 x30 h17 fun y => k y h17) (fun x31 h18 =>
 gdK x29 true (fun k => ikY .eql x31 (.i .i64 9223372036854775808) fun y => k y h18) (fun x32 h19 =>
 pkK x29 x32 (.b false) fun x33 =>
 k x33 h19) h18) h17) h16) h15) h14) h13) h12) (
 ikY .eql x19 (.i .i64 9223372036854775810) fun x34 =>
 cdK x34 (
 faK 2 x1 fun x35 =>
 ldN 3 x35 h12 fun x36 =>
 ldN 3 x17 h12 fun x37 =>
 sqA .eql 30 x36 x37 fun x38 =>
 gdK x38 true (fun k => faK 5 x1 fun y => k y h12) (fun x39 h20 =>
 gdK x38 true (fun k => ldN 3 x39 h20 fun y => k y h20) (fun x40 h21 =>
 gdK x38 true (fun k => ldN 3 x17 h21 fun y => k y h21) (fun x41 h22 =>
 gdK x38 true (fun k => sqA .eql 30 x40 x41 fun y => k y h22) (fun x42 h23 =>
 pkK x38 x42 (.b false) fun x43 =>
 gdK x43 true (fun k => faK 8 x1 fun y => k y h23) (fun x44 h24 =>
 gdK x43 true (fun k => ld1 x44 h24 fun y => k y h24) (fun x45 h25 =>
 gdK x43 true (fun k => ikY .eql x45 (.i .i64 9223372036854775808) fun y => k y h25) (fun x46 h26 =>
 pkK x43 x46 (.b false) fun x47 =>
 k x47 h26) h25) h24) h23) h22) h21) h20) h12) (
 ikY .eql x19 (.i .i64 9223372036854775811) fun x48 =>
 cdK x48 (
 faK 2 x1 fun x49 =>
 ldN 3 x49 h12 fun x50 =>
 ldN 3 x17 h12 fun x51 =>
 sqA .neq 30 x50 x51 fun x52 =>
 gdK x52 false (fun k => faK 5 x1 fun y => k y h12) (fun x53 h27 =>
 gdK x52 false (fun k => ldN 3 x53 h27 fun y => k y h27) (fun x54 h28 =>
 gdK x52 false (fun k => ldN 3 x17 h28 fun y => k y h28) (fun x55 h29 =>
 gdK x52 false (fun k => sqA .neq 30 x54 x55 fun y => k y h29) (fun x56 h30 =>
 pkK x52 (.b true) x56 fun x57 =>
 gdK x57 true (fun k => faK 8 x1 fun y => k y h30) (fun x58 h31 =>
 gdK x57 true (fun k => ld1 x58 h31 fun y => k y h31) (fun x59 h32 =>
 gdK x57 true (fun k => ikY .eql x59 (.i .i64 9223372036854775808) fun y => k y h32) (fun x60 h33 =>
 pkK x57 x60 (.b false) fun x61 =>
 k x61 h33) h32) h31) h30) h29) h28) h27) h12) (
 ikY .eql x19 (.i .i64 9223372036854775812) fun x62 =>
 cdK x62 (
 faK 2 x1 fun x63 =>
 ldN 3 x63 h12 fun x64 =>
 ldN 3 x17 h12 fun x65 =>
 sqA .eql 30 x64 x65 fun x66 =>
 gdK x66 true (fun k => faK 5 x1 fun y => k y h12) (fun x67 h34 =>
 gdK x66 true (fun k => ldN 3 x67 h34 fun y => k y h34) (fun x68 h35 =>
 gdK x66 true (fun k => ldN 3 x17 h35 fun y => k y h35) (fun x69 h36 =>
 gdK x66 true (fun k => sqA .eql 30 x68 x69 fun y => k y h36) (fun x70 h37 =>
 pkK x66 x70 (.b false) fun x71 =>
 gdK x71 true (fun k => faK 8 x1 fun y => k y h37) (fun x72 h38 =>
 gdK x71 true (fun k => ld1 x72 h38 fun y => k y h38) (fun x73 h39 =>
 gdK x71 true (fun k => ikY .geq x73 (.i .i64 9223370937343148032) fun y => k y h39) (fun x74 h40 =>
 pkK x71 x74 (.b false) fun x75 =>
 gdK x75 true (fun k => faK 8 x1 fun y => k y h40) (fun x76 h41 =>
 gdK x75 true (fun k => ld1 x76 h41 fun y => k y h41) (fun x77 h42 =>
 gdK x75 true (fun k => ikY .leq x77 (.i .i64 9223373136366403584) fun y => k y h42) (fun x78 h43 =>
 pkK x75 x78 (.b false) fun x79 =>
 k x79 h43) h42) h41) h40) h39) h38) h37) h36) h35) h34) h12) (
 k (.b false) h12)))))) h9) h8) h7) h6) h5) h4) h3) h2) args h
noncomputable def s151 : FS := S151 s206 s207
noncomputable def a151 : Ann := (.s .o (.s (.s .o (.i (.s .o .o) .o)) (.s .o (.s (.s .o (.b (.s .o (.i (.s .o .o) (.s .o (.i (.s .o .o) (.s .o (.i (.s .o .o) (.s .o (.i (.s .o .o) .o)))))))))) (.s .o .o)))))
noncomputable def S105 (s104 : FS) : FS := fun args h k => capp 2 (fun x0 x1 h0 =>
 lnSY x1 fun x2 =>
 s104 [x0, x2] h0 fun x3 h1 =>
 apY 5 1 x3 x1 h1 fun x4 h2 =>
 k x4 h2) args h
noncomputable def s105 : FS := S105 s104
noncomputable def a105 : Ann := (.s .o (.s .o .o))
noncomputable def S205 (s104 s105 : FS) : FS := fun args h k => capp 2 (fun x0 x1 h0 =>
 boxK 30 3 x1 h0 fun x2 h1 =>
 faK 0 x2 fun x3 =>
 ld1 x3 h1 fun x4 =>
 s104 [x0, x4] h1 fun x5 h2 =>
 faK 0 x2 fun x6 =>
 ld1 x6 h2 fun x7 =>
 ikY .eql x7 (.i .i64 9223372036854775809) fun x8 =>
 cdK x8 (
 faK 1 x2 fun x9 =>
 ld1 x9 h2 fun x10 =>
 s104 [x5, x10] h2 fun x11 h3 =>
 k x11 h3) (
 ikY .eql x7 (.i .i64 9223372036854775810) fun x12 =>
 cdK x12 (
 faK 2 x2 fun x13 =>
 ld1 x13 h2 fun x14 =>
 s105 [x5, x14] h2 fun x15 h4 =>
 k x15 h4) (
 k x5 h2))) args h
noncomputable def s205 : FS := S205 s104 s105
noncomputable def a205 : Ann := (.s .o (.s .o (.s (.s .o (.b (.s .o (.i (.s .o .o) (.s .o (.i (.s .o .o) .o)))))) (.s .o .o))))
def Z32 : List AV := [(.i .i64 9223372036854775808), (.s 0 []), (.i .i64 9223372036854775808), (.i .i64 9223372036854775808), (.s 0 []), (.i .i64 9223372036854775808), (.i .i64 9223372036854775808), (.s 0 []), (.i .i64 9223372036854775808)]
def z32 : AV := .a Z32
noncomputable def S143 (s104 s105 s205 : FS) : FS := fun args h k => capp 1 (fun x0 h0 =>
 boxK 48 3 x0 h0 fun x1 h1 =>
 faK 0 x1 fun x2 =>
 ld1 x2 h1 fun x3 =>
 faK 1 x1 fun x4 =>
 ld1 x4 h1 fun x5 =>
 faK 2 x1 fun x6 =>
 ld1 x6 h1 fun x7 =>
 lnLY x7 fun x8 =>
 bsK 2 1 3 3 [x3, x5, x8] h1 fun x9 h2 =>
 lnLY x9 fun x10 =>
 capp 5 (lp 5 fun (x11 : CT 5) x12 x13 x14 x15 x16 h3 =>
 ikY .lss x16 x15 fun x17 =>
 cdK x17 (
 iaK 1 x14 x16 fun x18 =>
 ld1 x18 h3 fun x19 =>
 s104 [x13, x19] h3 fun x20 h4 =>
 ikY .add x16 (.i .i64 9223372036854775809) fun x21 =>
 x11 x12 x20 x14 x15 x21 h4) (
 faK 2 x12 fun x22 =>
 ld1 x22 h3 fun x23 =>
 lnLY x23 fun x24 =>
 capp 4 (lp 4 fun (x25 : CT 4) x26 x27 x28 x29 h5 =>
 ikY .lss x29 x28 fun x30 =>
 cdK x30 (
 iaK 9 x27 x29 fun x31 =>
 ldN 9 x31 h5 fun x32 =>
 boxK 32 9 z32 h5 fun x33 h6 =>
 stL 9 x33 x32 h6 fun h7 =>
 faK 0 x33 fun x34 =>
 ld1 x34 h7 fun x35 =>
 faK 1 x33 fun x36 =>
 ld1 x36 h7 fun x37 =>
 s104 [x26, x35] h7 fun x38 h8 =>
 s105 [x38, x37] h8 fun x39 h9 =>
 ld1 x36 h8 fun x40 => ifT (avEq x40 x37) <|
 faK 0 x33 fun x41 =>
 ld1 x41 h9 fun x42 =>
 ikY .eql x42 (.i .i64 9223372036854775811) fun x43 =>
 jn 4 (fun x44 : CT 4 =>
 cdK x43 (
 faK 2 x33 fun x45 =>
 ldN 3 x45 h9 fun x46 =>
 faK 5 x33 fun x47 =>
 ldN 3 x47 h9 fun x48 =>
 s205 [x39, x46] h9 fun x49 h10 =>
 s205 [x49, x48] h10 fun x50 h11 =>
 ldN 3 x47 h10 fun x51 => ifT (avEq x51 x48) <|
 x44 x50 x27 x28 x29 h11) (
 ikY .eql x42 (.i .i64 9223372036854775809) fun x52 =>
 cdK x52 (
 faK 2 x33 fun x53 =>
 ldN 3 x53 h9 fun x54 =>
 s205 [x39, x54] h9 fun x55 h12 =>
 x44 x55 x27 x28 x29 h12) (
 ikY .eql x42 (.i .i64 9223372036854775812) fun x56 =>
 cdK x56 (
 faK 8 x33 fun x57 =>
 ld1 x57 h9 fun x58 =>
 s104 [x39, x58] h9 fun x59 h13 =>
 x44 x59 x27 x28 x29 h13) (
 x44 x39 x27 x28 x29 h9)))) fun x60 x61 x62 x63 h14 =>
 ikY .add x63 (.i .i64 9223372036854775809) fun x64 =>
 x25 x60 x61 x62 x64 h14) (
 k x26 h5)) [x13, x23, x24, (.i .i64 9223372036854775808)] h3)) [x1, .ns, x9, x10, (.i .i64 9223372036854775808)] h2) args h
noncomputable def s143 : FS := S143 s104 s105 s205
noncomputable def a143 : Ann := (.s .o (.s .o (.s (.s .o (.b (.l [1, 3, 15, 16, 17] (.s .o (.s (.i .o .o) (.s (.b (.s .o .o)) .o)))))) (.s (.s .o (.b (.l [3, 26, 27, 28] (.s .o (.s (.i .o .o) (.s (.b (.s .o (.s (.g [0, 1, 2, 4, 5, 3, 6, 7]) (.s .o (.b (.s .o (.j [3, 26, 27, 28] (.g [0, 1, 2, 4, 5, 3, 6, 7]) (.s .o (.i .o (.s .o (.i .o .o))))))))))) .o)))))) (.s .o .o)))))
noncomputable def S79 (s151 s143 : FS) : FS := fun args h k => capp 1 (fun x0 h0 =>
 boxK 48 3 x0 h0 fun x1 h1 =>
 faK 0 x1 fun x2 =>
 ld1 x2 h1 fun x3 =>
 ikY .lss x3 (.i .i64 9223372036854775809) fun x4 =>
 gdK x4 false (fun k => faK 0 x1 fun y => k y h1) (fun x5 h2 =>
 gdK x4 false (fun k => ld1 x5 h2 fun y => k y h2) (fun x6 h3 =>
 gdK x4 false (fun k => ikY .gtr x6 (.i .i64 9223372036854775813) fun y => k y h3) (fun x7 h4 =>
 pkK x4 (.b true) x7 fun x8 =>
 gdK x8 false (fun k => faK 1 x1 fun y => k y h4) (fun x9 h5 =>
 gdK x8 false (fun k => ld1 x9 h5 fun y => k y h5) (fun x10 h6 =>
 gdK x8 false (fun k => ikY .lss x10 (.i .i64 9223372036854775809) fun y => k y h6) (fun x11 h7 =>
 pkK x8 (.b true) x11 fun x12 =>
 gdK x12 false (fun k => faK 1 x1 fun y => k y h7) (fun x13 h8 =>
 gdK x12 false (fun k => ld1 x13 h8 fun y => k y h8) (fun x14 h9 =>
 gdK x12 false (fun k => ikY .gtr x14 (.i .i64 9223373136366403584) fun y => k y h9) (fun x15 h10 =>
 pkK x12 (.b true) x15 fun x16 =>
 gdK x16 false (fun k => faK 2 x1 fun y => k y h10) (fun x17 h11 =>
 gdK x16 false (fun k => ld1 x17 h11 fun y => k y h11) (fun x18 h12 =>
 gdK x16 false (fun k => lnLY x18 fun y => k y h12) (fun x19 h13 =>
 gdK x16 false (fun k => ikY .lss x19 (.i .i64 9223372036854775809) fun y => k y h13) (fun x20 h14 =>
 pkK x16 (.b true) x20 fun x21 =>
 gdK x21 false (fun k => faK 2 x1 fun y => k y h14) (fun x22 h15 =>
 gdK x21 false (fun k => ld1 x22 h15 fun y => k y h15) (fun x23 h16 =>
 gdK x21 false (fun k => lnLY x23 fun y => k y h16) (fun x24 h17 =>
 gdK x21 false (fun k => ikY .gtr x24 (.i .i64 9223372036854775816) fun y => k y h17) (fun x25 h18 =>
 pkK x21 (.b true) x25 fun x26 =>
 cdK x26 (
 k (.b false) h18) (
 faK 2 x1 fun x27 =>
 ld1 x27 h18 fun x28 =>
 lnLY x28 fun x29 =>
 capp 4 (lp 4 fun (x30 : CT 4) x31 x32 x33 x34 h19 =>
 ikY .lss x34 x33 fun x35 =>
 cdK x35 (
 iaK 9 x32 x34 fun x36 =>
 ldN 9 x36 h19 fun x37 =>
 boxK 32 9 z32 h19 fun x38 h20 =>
 stL 9 x38 x37 h20 fun h21 =>
 ldN 9 x38 h21 fun x39 =>
 s151 [x39] h21 fun x40 h22 =>
 notK x40 fun x41 =>
 cdK x41 (
 k (.b false) h22) (
 ikY .add x34 (.i .i64 9223372036854775809) fun x42 =>
 x30 x31 x32 x33 x42 h22)) (
 ldN 3 x31 h19 fun x43 =>
 s143 [x43] h19 fun x44 h23 =>
 lnLY x44 fun x45 =>
 ikY .leq x45 (.i .i64 9223372036854777008) fun x46 =>
 k x46 h23)) [x1, x28, x29, (.i .i64 9223372036854775808)] h18)) h17) h16) h15) h14) h13) h12) h11) h10) h9) h8) h7) h6) h5) h4) h3) h2) h1) args h
noncomputable def s79 : FS := S79 s151 s143
noncomputable def a79 : Ann := (.s .o (.s (.s .o (.i (.s .o .o) .o)) (.s (.s .o (.b (.l [1, 36, 37, 38] (.s .o (.s (.i .o .o) (.s (.b (.s .o (.s .o (.i (.s .o .o) .o)))) .o)))))) (.s .o .o))))
noncomputable def S74 (s79 s143 : FS) : FS := fun args h k => capp 1 (fun x0 h0 =>
 boxK 48 3 x0 h0 fun x1 h1 =>
 ldN 3 x1 h1 fun x2 =>
 s79 [x2] h1 fun x3 h2 =>
 notK x3 fun x4 =>
 cdK x4 (
 k .ns h2) (
 ldN 3 x1 h2 fun x5 =>
 s143 [x5] h2 fun x6 h3 =>
 k x6 h3)) args h
noncomputable def s74 : FS := S74 s79 s143
noncomputable def a74 : Ann := (.s .o (.s (.s .o (.i (.s .o .o) .o)) (.s .o .o)))
def Z50 : List AV := [(.i .i64 9223372036854775808), (.i .i64 9223372036854775808), (.i .i64 9223372036854775808), .ns, (.i .i64 9223372036854775808)]
def z50 : AV := .a Z50
noncomputable def a61 : Ann := (.s .o (.s (.s .o (.i (.s .o .o) .o)) (.s (.g [0, 1, 2, 3, 5, 6, 7, 8, 9, 4, 10, 11]) (.s (.s .o (.b (.l [3, 22, 23, 24] (.s .o (.s (.i .o .o) (.s (.b (.s .o .o)) .o)))))) (.s .o .o)))))
noncomputable def s61 : FS := fnF Tryz.prog [(104, s104), (74, s74), (105, s105)] MM Tryz.f61 a61
noncomputable def S175 : FS := fun args h k => capp 3 (fun x0 x1 x2 h0 =>
 lnLY x2 fun x3 =>
 capp 5 (lp 5 fun (x4 : CT 5) x5 x6 x7 x8 x9 h1 =>
 ikY .lss x9 x8 fun x10 =>
 cdK x10 (
 iaK 1 x7 x9 fun x11 =>
 ld1 x11 h1 fun x12 =>
 ikY .lss x12 x5 fun x13 =>
 gdK x13 false (fun k => k x12 h1) (fun x14 h2 =>
 gdK x13 false (fun k => k x6 h2) (fun x15 h3 =>
 gdK x13 false (fun k => ikY .gtr x14 x15 fun y => k y h3) (fun x16 h4 =>
 pkK x13 (.b true) x16 fun x17 =>
 cdK x17 (
 k (.b false) h4) (
 ikY .add x9 (.i .i64 9223372036854775809) fun x18 =>
 x4 x5 x6 x7 x8 x18 h4)) h3) h2) h1) (
 k (.b true) h1)) [x0, x1, x2, x3, (.i .i64 9223372036854775808)] h0) args h
noncomputable def s175 : FS := S175
noncomputable def a175 : Ann := (.s .o (.s (.s .o (.b (.l [0, 1, 9, 10, 11] (.s .o (.s (.i .o .o) (.s (.b (.s .o (.s .o (.i (.s .o .o) .o)))) .o)))))) (.s .o .o)))
noncomputable def a174 : Ann := (.s .o (.s .o .o))
noncomputable def s174 : FS := fnF Tryz.prog [(175, s175)] MM Tryz.f174 a174
noncomputable def S147 : FS := fun args h k => capp 2 (fun x0 x1 h0 =>
 cplK x0 fun x2 =>
 lnLY x1 fun x3 =>
 capp 4 (lp 4 fun (x4 : CT 4) x5 x6 x7 x8 h1 =>
 ikY .lss x8 x7 fun x9 =>
 cdK x9 (
 iaK 1 x6 x8 fun x10 =>
 ld1 x10 h1 fun x11 =>
 ciY .u32 x11 fun x12 =>
 ikY .xor x5 x12 fun x13 =>
 capp 5 (lp 5 fun (x14 : CT 5) x15 x16 x17 x18 x19 h2 =>
 ikY .lss x19 (.i .i64 9223372036854775816) fun x20 =>
 cdK x20 (
 shkK .shr x15 (.i .u64 9223372036854775809) fun x21 =>
 ikY .and x15 (.i .u32 9223372036854775809) fun x22 =>
 negK x22 fun x23 =>
 ikY .and (.i .u32 9223372040843068192) x23 fun x24 =>
 ikY .xor x21 x24 fun x25 =>
 ikY .add x19 (.i .i64 9223372036854775809) fun x26 =>
 x14 x25 x16 x17 x18 x26 h2) (
 ikY .add x18 (.i .i64 9223372036854775809) fun x27 =>
 x4 x15 x16 x17 x27 h2)) [x13, x6, x7, x8, (.i .i64 9223372036854775808)] h1) (
 cplK x5 fun x28 =>
 k x28 h1)) [x2, x1, x3, (.i .i64 9223372036854775808)] h0) args h
noncomputable def s147 : FS := S147
noncomputable def a147 : Ann := (.s .o (.s .o (.s (.s .o (.b (.l [5, 10, 11, 12] (.s .o (.s (.i .o .o) (.s (.b (.s .o (.s .o (.s .o (.b (.l [5, 10, 11, 12, 20] (.s .o (.s (.i .o .o) (.s (.b .o) .o))))))))) .o)))))) (.s .o .o))))
noncomputable def S148 (s147 : FS) : FS := fun args h k => capp 1 (fun x0 h0 =>
 s147 [(.i .u32 9223372036854775808), x0] h0 fun x1 h1 =>
 k x1 h1) args h
noncomputable def s148 : FS := S148 s147
noncomputable def a148 : Ann := (.s .o (.s .o .o))
noncomputable def S149 : FS := fun args h k => capp 1 (fun x0 h0 =>
 shkK .shr x0 (.i .u64 9223372036854775832) fun x1 =>
 ciY .u8 x1 fun x2 =>
 shkK .shr x0 (.i .u64 9223372036854775824) fun x3 =>
 ciY .u8 x3 fun x4 =>
 shkK .shr x0 (.i .u64 9223372036854775816) fun x5 =>
 ciY .u8 x5 fun x6 =>
 ciY .u8 x0 fun x7 =>
 bsK 5 1 4 4 [x2, x4, x6, x7] h0 fun x8 h1 =>
 k x8 h1) args h
noncomputable def s149 : FS := S149
noncomputable def a149 : Ann := (.s .o (.s .o .o))
noncomputable def S77 (s104 s148 s147 s149 : FS) : FS := fun args h k => capp 2 (fun x0 x1 h0 =>
 ikY .lss x0 (.i .i64 9223372036854775809) fun x2 =>
 gdK x2 false (fun k => k x0 h0) (fun x3 h1 =>
 gdK x2 false (fun k => ikY .gtr x3 (.i .i64 9223372036854776063) fun y => k y h1) (fun x4 h2 =>
 pkK x2 (.b true) x4 fun x5 =>
 gdK x5 false (fun k => k x1 h2) (fun x6 h3 =>
 gdK x5 false (fun k => lnLY x6 fun y => k y h3) (fun x7 h4 =>
 gdK x5 false (fun k => ikY .gtr x7 (.i .i64 9223372036854779808) fun y => k y h4) (fun x8 h5 =>
 pkK x5 (.b true) x8 fun x9 =>
 cdK x9 (
 k .ns h5) (
 ciY .u8 x0 fun x10 =>
 bsK 5 1 1 1 [x10] h5 fun x11 h6 =>
 lnLY x1 fun x12 =>
 s104 [x11, x12] h6 fun x13 h7 =>
 s148 [x13] h7 fun x14 h8 =>
 s147 [x14, x1] h8 fun x15 h9 =>
 s149 [x15] h9 fun x16 h10 =>
 apY 5 1 x13 x16 h10 fun x17 h11 =>
 apY 5 1 x17 x1 h11 fun x18 h12 =>
 k x18 h12)) h4) h3) h2) h1) h0) args h
noncomputable def s77 : FS := S77 s104 s148 s147 s149
noncomputable def a77 : Ann := (.s .o (.s (.s .o (.i (.s .o .o) .o)) (.s .o (.s .o (.s .o .o)))))
noncomputable def a101 : Ann := (.s .o (.s (.s .o (.i (.s .o .o) .o)) (.s (.g [0, 1, 3, 4, 6, 7, 2, 5, 8, 9]) (.s .o (.s (.s .o (.b (.l [4, 5] (.s (.s .o (.i .o .o)) (.b (.s .o (.s .o .o))))))) (.s .o .o))))))
noncomputable def s101 : FS := fnF Tryz.prog [(174, s174), (104, s104), (105, s105), (77, s77)] MM Tryz.f101 a101
noncomputable def S106 : FS := fun args h k => capp 1 (fun x0 h0 =>
 nsK .eql x0 .ns fun x1 =>
 cdK x1 (
 k .ns h0) (
 bsK 193 4 0 0 [] h0 fun x2 h1 =>
 apY 193 4 x2 x0 h1 fun x3 h2 =>
 k x3 h2)) args h
noncomputable def s106 : FS := S106
noncomputable def a106 : Ann := (.s .o (.s (.s .o (.i (.s .o .o) .o)) (.s .o .o)))
def Z147 : List AV := [(.i .i64 9223372036854775808), (.i .i64 9223372036854775808), (.i .i64 9223372036854775808), (.i .i64 9223372036854775808), (.s 0 []), (.s 0 []), .ns]
def z147 : AV := .a Z147
noncomputable def S62 (s106 : FS) : FS := fun args h k => capp 1 (fun x0 h0 =>
 boxK 147 7 z147 h0 fun x1 h1 =>
 npK .eql x0 .np fun x2 =>
 cdK x2 (
 blK [] Z147 fun x3 =>
 stL 7 x1 x3 h1 fun h2 =>
 ldN 7 x1 h2 fun x4 => k x4 h2) (
 ncK x0 fun x5 =>
 faK 1 x5 fun x6 =>
 ldN 7 x6 h1 fun x7 =>
 boxK 147 7 z147 h1 fun x8 h3 =>
 stL 7 x8 x7 h3 fun h4 =>
 faK 6 x8 fun x9 =>
 ld1 x9 h4 fun x10 =>
 s106 [x10] h4 fun x11 h5 =>
 faK 6 x8 fun x12 =>
 stL 1 x12 x11 h5 fun h6 =>
 ldN 7 x8 h6 fun x13 =>
 stL 7 x1 x13 h6 fun h7 =>
 ldN 7 x1 h7 fun x14 => k x14 h7)) args h
noncomputable def s62 : FS := S62 s106
noncomputable def a62 : Ann := (.s .o (.s (.s .o (.i (.s .o .o) .o)) (.s .o (.s .o (.s .o .o)))))
def Z193 : List AV := [(.i .i64 9223372036854775808), (.i .i64 9223372036854775808), (.i .i64 9223372036854775808), (.s 0 [])]
def z193 : AV := .a Z193
def Z91 : List AV := [(.i .i64 9223372036854775808), (.i .i64 9223372036854775808)]
def z91 : AV := .a Z91
noncomputable def S112 (s175 : FS) : FS := fun args h k => capp 1 (fun x0 h0 =>
 boxK 195 7 x0 h0 fun x1 h1 =>
 faK 0 x1 fun x2 =>
 ld1 x2 h1 fun x3 =>
 cdK x3 (
 faK 1 x1 fun x4 =>
 faK 0 x4 fun x5 =>
 ld1 x5 h1 fun x6 =>
 bsK 2 1 1 1 [x6] h1 fun x7 h2 =>
 s175 [(.i .i64 9223372036854775808), (.i .i64 9223373136366403584), x7] h2 fun x8 h3 =>
 gdK x8 true (fun k => faK 1 x1 fun y => k y h3) (fun x9 h4 =>
 gdK x8 true (fun k => faK 1 x9 fun y => k y h4) (fun x10 h5 =>
 gdK x8 true (fun k => ld1 x10 h5 fun y => k y h5) (fun x11 h6 =>
 gdK x8 true (fun k => ikY .geq x11 (.i .i64 9223372036854775808) fun y => k y h6) (fun x12 h7 =>
 pkK x8 x12 (.b false) fun x13 =>
 gdK x13 true (fun k => faK 1 x1 fun y => k y h7) (fun x14 h8 =>
 gdK x13 true (fun k => faK 1 x14 fun y => k y h8) (fun x15 h9 =>
 gdK x13 true (fun k => ld1 x15 h9 fun y => k y h9) (fun x16 h10 =>
 gdK x13 true (fun k => ikY .leq x16 (.i .i64 9223372036854775815) fun y => k y h10) (fun x17 h11 =>
 pkK x13 x17 (.b false) fun x18 =>
 gdK x18 true (fun k => faK 3 x1 fun y => k y h11) (fun x19 h12 =>
 gdK x18 true (fun k => ldN 4 x19 h12 fun y => k y h12) (fun x20 h13 =>
 gdK x18 true (fun k => blK [] Z193 fun y => k y h13) (fun x21 h14 =>
 gdK x18 true (fun k => sqA .eql 193 x20 x21 fun y => k y h14) (fun x22 h15 =>
 pkK x18 x22 (.b false) fun x23 =>
 k x23 h15) h14) h13) h12) h11) h10) h9) h8) h7) h6) h5) h4) h3) (
 faK 1 x1 fun x24 =>
 ldN 2 x24 h1 fun x25 =>
 blK [] Z91 fun x26 =>
 sqA .eql 91 x25 x26 fun x27 =>
 gdK x27 true (fun k => faK 3 x1 fun y => k y h1) (fun x28 h16 =>
 gdK x27 true (fun k => faK 0 x28 fun y => k y h16) (fun x29 h17 =>
 gdK x27 true (fun k => ld1 x29 h17 fun y => k y h17) (fun x30 h18 =>
 gdK x27 true (fun k => faK 3 x1 fun y => k y h18) (fun x31 h19 =>
 gdK x27 true (fun k => faK 1 x31 fun y => k y h19) (fun x32 h20 =>
 gdK x27 true (fun k => ld1 x32 h20 fun y => k y h20) (fun x33 h21 =>
 gdK x27 true (fun k => bsK 2 1 2 2 [x30, x33] h21 k) (fun x34 h22 =>
 gdK x27 true (fun k => s175 [(.i .i64 9223372036854775809), (.i .i64 9223373136366403584), x34] h22 k) (fun x35 h23 =>
 pkK x27 x35 (.b false) fun x36 =>
 gdK x36 true (fun k => faK 3 x1 fun y => k y h23) (fun x37 h24 =>
 gdK x36 true (fun k => faK 2 x37 fun y => k y h24) (fun x38 h25 =>
 gdK x36 true (fun k => ld1 x38 h25 fun y => k y h25) (fun x39 h26 =>
 gdK x36 true (fun k => ikY .geq x39 (.i .i64 9223372036854775809) fun y => k y h26) (fun x40 h27 =>
 pkK x36 x40 (.b false) fun x41 =>
 gdK x41 true (fun k => faK 3 x1 fun y => k y h27) (fun x42 h28 =>
 gdK x41 true (fun k => faK 2 x42 fun y => k y h28) (fun x43 h29 =>
 gdK x41 true (fun k => ld1 x43 h29 fun y => k y h29) (fun x44 h30 =>
 gdK x41 true (fun k => ikY .leq x44 (.i .i64 9223372036854775811) fun y => k y h30) (fun x45 h31 =>
 pkK x41 x45 (.b false) fun x46 =>
 gdK x46 true (fun k => faK 3 x1 fun y => k y h31) (fun x47 h32 =>
 gdK x46 true (fun k => faK 3 x47 fun y => k y h32) (fun x48 h33 =>
 gdK x46 true (fun k => ld1 x48 h33 fun y => k y h33) (fun x49 h34 =>
 gdK x46 true (fun k => lnSY x49 fun y => k y h34) (fun x50 h35 =>
 gdK x46 true (fun k => ikY .leq x50 (.i .i64 9223372036854778308) fun y => k y h35) (fun x51 h36 =>
 pkK x46 x51 (.b false) fun x52 =>
 k x52 h36) h35) h34) h33) h32) h31) h30) h29) h28) h27) h26) h25) h24) h23) h22) h21) h20) h19) h18) h17) h16) h1)) args h
noncomputable def s112 : FS := S112 s175
noncomputable def a112 : Ann := (.s .o (.s (.s .o (.i (.s .o .o) .o)) (.s .o .o)))
noncomputable def S219 (s112 s104 s77 s105 : FS) : FS := fun args h k => capp 1 (fun x0 h0 =>
 boxK 195 7 x0 h0 fun x1 h1 =>
 ldN 7 x1 h1 fun x2 =>
 s112 [x2] h1 fun x3 h2 =>
 notK x3 fun x4 =>
 cdK x4 (
 k .ns h2) (
 faK 0 x1 fun x5 =>
 ld1 x5 h2 fun x6 =>
 cdK x6 (
 faK 1 x1 fun x7 =>
 faK 0 x7 fun x8 =>
 ld1 x8 h2 fun x9 =>
 faK 1 x1 fun x10 =>
 faK 1 x10 fun x11 =>
 ld1 x11 h2 fun x12 =>
 s104 [.ns, x9] h2 fun x13 h3 =>
 s104 [x13, x12] h3 fun x14 h4 =>
 s77 [(.i .i64 9223372036854775809), x14] h4 fun x15 h5 =>
 ld1 x11 h3 fun x16 => ifT (avEq x16 x12) <|
 k x15 h5) (
 faK 3 x1 fun x17 =>
 faK 0 x17 fun x18 =>
 ld1 x18 h2 fun x19 =>
 faK 3 x1 fun x20 =>
 faK 1 x20 fun x21 =>
 ld1 x21 h2 fun x22 =>
 faK 3 x1 fun x23 =>
 faK 2 x23 fun x24 =>
 ld1 x24 h2 fun x25 =>
 s104 [.ns, x19] h2 fun x26 h6 =>
 s104 [x26, x22] h6 fun x27 h7 =>
 s104 [x27, x25] h7 fun x28 h8 =>
 ld1 x21 h6 fun x29 => ifT (avEq x29 x22) <|
 ld1 x24 h6 fun x30 => ifT (avEq x30 x25) <|
 ld1 x24 h7 fun x31 => ifT (avEq x31 x25) <|
 faK 3 x1 fun x32 =>
 faK 3 x32 fun x33 =>
 ld1 x33 h8 fun x34 =>
 s105 [x28, x34] h8 fun x35 h9 =>
 s77 [(.i .i64 9223372036854775810), x35] h9 fun x36 h10 =>
 k x36 h10))) args h
noncomputable def s219 : FS := S219 s112 s104 s77 s105
noncomputable def a219 : Ann := (.s .o (.s (.b (.s .o (.i (.s .o .o) (.s .o (.i (.s (.g [0, 1, 2, 4, 5, 6, 3, 7, 8, 9]) .o) .o))))) (.s (.g [0, 1, 2, 4, 5, 6, 8, 9, 10, 3, 7, 11, 12]) (.s .o .o))))
noncomputable def a181 : Ann := (.s .o (.s (.g [0, 1, 3, 4, 5, 2, 6, 7, 8]) (.s (.s .o (.b (.l [3, 15, 16, 17] (.s .o (.s (.i .o .o) (.s (.b (.s .o .o)) .o)))))) (.s .o .o))))
noncomputable def s181 : FS := fnF Tryz.prog [(101, s101), (219, s219)] MM Tryz.f181 a181
noncomputable def a102 : Ann := (.s .o (.s .o (.s .o (.s (.s .o (.j [6] .o .o)) (.s .o .o)))))
noncomputable def s102 : FS := fnF Tryz.prog [(181, s181), (98, s98)] MM Tryz.f102 a102
noncomputable def a58 : Ann := (.s .o (.s (.s .o (.i (.s .o .o) .o)) (.s (.s (.g [0, 1, 2, 3, 4, 5, 6, 7, 8, 9, 10, 11, 12, 13]) (.i (.s .o .o) .o)) (.s .o (.s .o (.s (.b (.s .o (.j [0, 3, 5] .o (.s (.g [0, 1, 2, 3, 4, 5, 6, 7, 8, 9, 10, 11, 12, 13, 14, 15, 16, 17, 18, 19, 20]) (.i .o .o))))) (.s .o (.s (.s .o (.s .o (.i (.s .o .o) .o))) (.s .o (.s .o .o))))))))))
noncomputable def s58 : FS := fnF Tryz.prog [(101, s101), (62, s62), (102, s102)] MM Tryz.f58 a58
noncomputable def S107 : FS := fun args h k => capp 1 (fun x0 h0 =>
 lnLY x0 fun x1 =>
 capp 4 (lp 4 fun (x2 : CT 4) x3 x4 x5 x6 h1 =>
 ikY .lss x6 x5 fun x7 =>
 cdK x7 (
 iaK 1 x4 x6 fun x8 =>
 ld1 x8 h1 fun x9 =>
 ikY .eql x6 (.i .i64 9223372036854775817) fun x10 =>
 gdK x10 true (fun k => k x9 h1) (fun x11 h2 =>
 gdK x10 true (fun k => ikY .gtr x11 (.i .u8 9223372036854775809) fun y => k y h2) (fun x12 h3 =>
 pkK x10 x12 (.b false) fun x13 =>
 cdK x13 (
 k (.t [(.i .i64 9223372036854775808), (.i .i64 9223372036854775808), (.i .i64 9223372036854775809)]) h3) (
 ikY .and x9 (.i .u8 9223372036854775935) fun x14 =>
 ciY .u64 x14 fun x15 =>
 ikY .mul (.i .i64 9223372036854775815) x6 fun x16 =>
 shkK .shl x15 x16 fun x17 =>
 ikY .or x3 x17 fun x18 =>
 ikY .gtr x9 (.i .u8 9223372036854775935) fun x19 =>
 cdK x19 (
 ikY .add x6 (.i .i64 9223372036854775809) fun x20 =>
 x2 x18 x4 x5 x20 h3) (
 ikY .gtr x6 (.i .i64 9223372036854775808) fun x21 =>
 gdK x21 true (fun k => k x9 h3) (fun x22 h4 =>
 gdK x21 true (fun k => ikY .eql x22 (.i .u8 9223372036854775808) fun y => k y h4) (fun x23 h5 =>
 pkK x21 x23 (.b false) fun x24 =>
 cdK x24 (
 k (.t [(.i .i64 9223372036854775808), (.i .i64 9223372036854775808), (.i .i64 9223372036854775809)]) h5) (
 shkK .shr x18 (.i .u64 9223372036854775809) fun x25 =>
 ciY .i64 x25 fun x26 =>
 ikY .and x18 (.i .u64 9223372036854775809) fun x27 =>
 ikY .eql x27 (.i .u64 9223372036854775809) fun x28 =>
 jn 2 (fun x29 : CT 2 =>
 cdK x28 (
 cplK x26 fun x30 =>
 x29 x6 x30 h5) (
 x29 x6 x26 h5)) fun x31 x32 h6 =>
 ikY .add x31 (.i .i64 9223372036854775809) fun x33 =>
 k (.t [x32, x33, (.i .i64 9223372036854775808)]) h6)) h4) h3))) h2) h1) (
 k (.t [(.i .i64 9223372036854775808), (.i .i64 9223372036854775808), (.i .i64 9223372036854775810)]) h1)) [(.i .u64 9223372036854775808), x0, x1, (.i .i64 9223372036854775808)] h0) args h
noncomputable def s107 : FS := S107
noncomputable def a107 : Ann := (.s .o (.s .o (.s (.s .o (.b (.l [5, 9, 10, 11] (.s .o (.s (.i .o .o) (.s (.b (.s .o (.s (.s .o (.i (.s .o .o) .o)) (.s .o (.s (.s .o (.i .o .o)) (.s (.s .o (.i (.s .o .o) .o)) (.s .o (.s (.s .o (.j [6, 8] .o .o)) (.s .o .o))))))))) .o)))))) (.s .o .o))))
noncomputable def S108 (s107 : FS) : FS := fun args h k => capp 1 (fun x0 h0 =>
 s107 [x0] h0 fun x1 h1 =>
 exK x1 0 fun x2 =>
 exK x1 1 fun x3 =>
 exK x1 2 fun x4 =>
 ikY .neq x4 (.i .i64 9223372036854775808) fun x5 =>
 cdK x5 (
 k (.t [(.s 0 []), (.i .i64 9223372036854775808), x4]) h1) (
 ikY .lss x2 (.i .i64 9223372036854775808) fun x6 =>
 gdK x6 false (fun k => k x2 h1) (fun x7 h2 =>
 gdK x6 false (fun k => ikY .gtr x7 (.i .i64 9223372036855824384) fun y => k y h2) (fun x8 h3 =>
 pkK x6 (.b true) x8 fun x9 =>
 cdK x9 (
 k (.t [(.s 0 []), (.i .i64 9223372036854775808), (.i .i64 9223372036854775809)]) h3) (
 lnLY x0 fun x10 =>
 ikY .sub x10 x3 fun x11 =>
 ikY .gtr x2 x11 fun x12 =>
 cdK x12 (
 k (.t [(.s 0 []), (.i .i64 9223372036854775808), (.i .i64 9223372036854775810)]) h3) (
 ikY .add x3 x2 fun x13 =>
 sllK 1 (some x3) (some x13) none x0 fun x14 =>
 cbY x14 h3 fun x15 =>
 ikY .add x3 x2 fun x16 =>
 k (.t [x15, x16, (.i .i64 9223372036854775808)]) h3))) h2) h1)) args h
noncomputable def s108 : FS := S108 s107
noncomputable def a108 : Ann := (.s .o (.s .o (.s (.b (.s .o (.i (.s .o .o) (.s .o (.i (.s .o .o) (.s .o (.i (.s .o .o) .o))))))) (.s .o .o))))
noncomputable def S220 : FS := fun args h k => capp 3 (fun x0 x1 x2 h0 =>
 ncK x0 fun x3 =>
 faK 1 x3 fun x4 =>
 ld1 x4 h0 fun x5 =>
 gdK x5 false (fun k => k x2 h0) (fun x6 h1 =>
 gdK x5 false (fun k => ikY .neq x6 (.i .i64 9223372036854775808) fun y => k y h1) (fun x7 h2 =>
 pkK x5 (.b true) x7 fun x8 =>
 ncK x0 fun x9 =>
 faK 1 x9 fun x10 =>
 stL 1 x10 x8 h2 fun h3 =>
 ncK x0 fun x11 =>
 faK 1 x11 fun x12 =>
 ld1 x12 h3 fun x13 =>
 notK x13 fun x14 =>
 cdK x14 (
 ncK x0 fun x15 =>
 faK 0 x15 fun x16 =>
 ld1 x16 h3 fun x17 =>
 sllK 1 (some x1) none none x17 fun x18 =>
 ncK x0 fun x19 =>
 faK 0 x19 fun x20 =>
 stL 1 x20 x18 h3 fun h4 =>
 k (.t []) h4) (
 k (.t []) h3)) h1) h0) args h
noncomputable def s220 : FS := S220
noncomputable def a220 : Ann := (.s .o (.s .o (.i .o .o)))
noncomputable def S182 (s107 s220 : FS) : FS := fun args h k => capp 1 (fun x0 h0 =>
 ncK x0 fun x1 =>
 faK 0 x1 fun x2 =>
 ld1 x2 h0 fun x3 =>
 s107 [x3] h0 fun x4 h1 =>
 exK x4 0 fun x5 =>
 exK x4 1 fun x6 =>
 exK x4 2 fun x7 =>
 s220 [x0, x6, x7] h1 fun x8 h2 =>
 k x5 h2) args h
noncomputable def s182 : FS := S182 s107 s220
noncomputable def a182 : Ann := (.s .o (.s .o (.s .o (.s .o .o))))
noncomputable def S252 (s107 s108 s236 : FS) : FS := fun args h k => capp 1 (fun x0 h0 =>
 boxK 30 3 z30 h0 fun x1 h1 =>
 s107 [x0] h1 fun x2 h2 =>
 exK x2 0 fun x3 =>
 exK x2 1 fun x4 =>
 exK x2 2 fun x5 =>
 ikY .neq x5 (.i .i64 9223372036854775808) fun x6 =>
 cdK x6 (
 blK [] Z30 fun x7 =>
 stL 3 x1 x7 h2 fun h3 =>
 ldN 3 x1 h3 fun x8 => k (.t [x8, (.i .i64 9223372036854775808), x5]) h3) (
 blK [(0, 1, x3)] Z30 fun x9 =>
 boxK 30 3 z30 h2 fun x10 h4 =>
 stL 3 x10 x9 h4 fun h5 =>
 ikY .eql x3 (.i .i64 9223372036854775809) fun x11 =>
 jn 5 (fun x12 : CT 5 =>
 cdK x11 (
 sllK 1 (some x4) none none x0 fun x13 =>
 s107 [x13] h5 fun x14 h6 =>
 exK x14 0 fun x15 =>
 exK x14 1 fun x16 =>
 exK x14 2 fun x17 =>
 faK 1 x10 fun x18 =>
 stL 1 x18 x15 h6 fun h7 =>
 x12 x1 x4 x17 x10 x16 h7) (
 ikY .eql x3 (.i .i64 9223372036854775810) fun x19 =>
 cdK x19 (
 sllK 1 (some x4) none none x0 fun x20 =>
 s108 [x20] h5 fun x21 h8 =>
 exK x21 0 fun x22 =>
 exK x21 1 fun x23 =>
 exK x21 2 fun x24 =>
 faK 2 x10 fun x25 =>
 stL 1 x25 x22 h8 fun h9 =>
 x12 x1 x4 x24 x10 x23 h9) (
 x12 x1 x4 x5 x10 (.i .i64 9223372036854775808) h5))) fun x26 x27 x28 x29 x30 h10 =>
 ikY .neq x28 (.i .i64 9223372036854775808) fun x31 =>
 cdK x31 (
 blK [] Z30 fun x32 =>
 stL 3 x26 x32 h10 fun h11 =>
 ldN 3 x26 h11 fun x33 => k (.t [x33, (.i .i64 9223372036854775808), x28]) h11) (
 ldN 3 x29 h10 fun x34 =>
 s236 [x34] h10 fun x35 h12 =>
 exK x35 0 fun x36 =>
 exK x35 1 fun x37 =>
 ikY .neq x37 (.i .i64 9223372036854775808) fun x38 =>
 cdK x38 (
 blK [] Z30 fun x39 =>
 stL 3 x26 x39 h12 fun h13 =>
 ldN 3 x26 h13 fun x40 => k (.t [x40, (.i .i64 9223372036854775808), x37]) h13) (
 ldN 3 x29 h12 fun x41 =>
 ikY .add x27 x30 fun x42 =>
 stL 3 x26 x41 h12 fun h14 =>
 ldN 3 x26 h14 fun x43 => k (.t [x43, x42, (.i .i64 9223372036854775808)]) h14)))) args h
noncomputable def s252 : FS := S252 s107 s108 s236
noncomputable def a252 : Ann := (.s .o (.s .o (.s (.s .o (.i (.s .o .o) .o)) (.s .o (.s .o (.s (.s .o (.b (.s .o (.j [2, 6, 7, 8, 9] .o (.s .o (.i .o .o)))))) (.s (.s .o (.i (.s .o .o) .o)) (.s (.s .o (.s .o (.i (.s .o .o) .o))) (.s .o .o)))))))))
noncomputable def S221 (s252 s220 : FS) : FS := fun args h k => capp 1 (fun x0 h0 =>
 boxK 30 3 z30 h0 fun x1 h1 =>
 ncK x0 fun x2 =>
 faK 0 x2 fun x3 =>
 ld1 x3 h1 fun x4 =>
 s252 [x4] h1 fun x5 h2 =>
 exK x5 0 fun x6 =>
 exK x5 1 fun x7 =>
 exK x5 2 fun x8 =>
 boxK 30 3 z30 h2 fun x9 h3 =>
 stL 3 x9 x6 h3 fun h4 =>
 s220 [x0, x7, x8] h4 fun x10 h5 =>
 ldN 3 x9 h5 fun x11 =>
 stL 3 x1 x11 h5 fun h6 =>
 ldN 3 x1 h6 fun x12 => k x12 h6) args h
noncomputable def s221 : FS := S221 s252 s220
noncomputable def a221 : Ann := (.s .o (.s .o (.s .o (.s .o .o))))
noncomputable def S183 (s182 s108 s220 s221 : FS) : FS := fun args h k => capp 1 (fun x0 h0 =>
 boxK 32 9 z32 h0 fun x1 h1 =>
 s182 [x0] h1 fun x2 h2 =>
 blK [(0, 1, x2)] Z32 fun x3 =>
 boxK 32 9 z32 h2 fun x4 h3 =>
 stL 9 x4 x3 h3 fun h4 =>
 ncK x0 fun x5 =>
 faK 0 x5 fun x6 =>
 ld1 x6 h4 fun x7 =>
 s108 [x7] h4 fun x8 h5 =>
 exK x8 0 fun x9 =>
 exK x8 1 fun x10 =>
 exK x8 2 fun x11 =>
 s220 [x0, x10, x11] h5 fun x12 h6 =>
 faK 1 x4 fun x13 =>
 stL 1 x13 x9 h6 fun h7 =>
 faK 0 x4 fun x14 =>
 ld1 x14 h7 fun x15 =>
 ikY .eql x15 (.i .i64 9223372036854775811) fun x16 =>
 jn 2 (fun x17 : CT 2 =>
 cdK x16 (
 s221 [x0] h7 fun x18 h8 =>
 faK 2 x4 fun x19 =>
 stL 3 x19 x18 h8 fun h9 =>
 s221 [x0] h9 fun x20 h10 =>
 faK 5 x4 fun x21 =>
 stL 3 x21 x20 h10 fun h11 =>
 x17 x1 x4 h11) (
 ikY .eql x15 (.i .i64 9223372036854775809) fun x22 =>
 cdK x22 (
 s221 [x0] h7 fun x23 h12 =>
 faK 2 x4 fun x24 =>
 stL 3 x24 x23 h12 fun h13 =>
 x17 x1 x4 h13) (
 ikY .eql x15 (.i .i64 9223372036854775812) fun x25 =>
 cdK x25 (
 s182 [x0] h7 fun x26 h14 =>
 faK 8 x4 fun x27 =>
 stL 1 x27 x26 h14 fun h15 =>
 x17 x1 x4 h15) (
 x17 x1 x4 h7)))) fun x28 x29 h16 =>
 ldN 9 x29 h16 fun x30 =>
 stL 9 x28 x30 h16 fun h17 =>
 ldN 9 x28 h17 fun x31 => k x31 h17) args h
noncomputable def s183 : FS := S183 s182 s108 s220 s221
noncomputable def a183 : Ann := (.s .o (.s .o (.s .o (.s .o (.s .o (.s (.s .o (.b (.s .o (.j [2, 3] (.s .o .o) (.s .o (.i .o (.s .o (.i .o .o)))))))) (.s .o .o)))))))
noncomputable def S111 : FS := fun args h k => capp 2 (fun x0 x1 h0 =>
 cbY x0 h0 fun x2 =>
 cbY x1 h0 fun x3 =>
 stY .eql x2 x3 fun x4 =>
 k x4 h0) args h
noncomputable def s111 : FS := S111
noncomputable def a111 : Ann := (.s .o (.s .o .o))
def Z48 : List AV := [(.i .i64 9223372036854775808), (.i .i64 9223372036854775808), .ns]
def z48 : AV := .a Z48
def Z280 : List AV := [.ns, (.b false)]
def z280 : AV := .a Z280
noncomputable def S109 (s182 s183 s74 s111 : FS) : FS := fun args h k => capp 1 (fun x0 h0 =>
 boxK 48 3 z48 h0 fun x1 h1 =>
 blK [(0, 1, x0)] Z280 fun x2 =>
 boxK 280 2 x2 h1 fun x3 h2 =>
 s182 [x3] h2 fun x4 h3 =>
 blK [(0, 1, x4)] Z48 fun x5 =>
 boxK 48 3 z48 h3 fun x6 h4 =>
 stL 3 x6 x5 h4 fun h5 =>
 s182 [x3] h5 fun x7 h6 =>
 faK 1 x6 fun x8 =>
 stL 1 x8 x7 h6 fun h7 =>
 s182 [x3] h7 fun x9 h8 =>
 capp 5 (lp 5 fun (x10 : CT 5) x11 x12 x13 x14 x15 h9 =>
 ikY .gtr x15 (.i .i64 9223372036854775808) fun x16 =>
 gdK x16 true (fun k => k x13 h9) (fun x17 h10 =>
 gdK x16 true (fun k => ncK x17 fun y => k y h10) (fun x18 h11 =>
 gdK x16 true (fun k => faK 1 x18 fun y => k y h11) (fun x19 h12 =>
 gdK x16 true (fun k => ld1 x19 h12 fun y => k y h12) (fun x20 h13 =>
 gdK x16 true (fun k => notK x20 fun y => k y h13) (fun x21 h14 =>
 pkK x16 x21 (.b false) fun x22 =>
 gdK x22 true (fun k => faK 2 x14 fun y => k y h14) (fun x23 h15 =>
 gdK x22 true (fun k => ld1 x23 h15 fun y => k y h15) (fun x24 h16 =>
 gdK x22 true (fun k => lnLY x24 fun y => k y h16) (fun x25 h17 =>
 gdK x22 true (fun k => ikY .leq x25 (.i .i64 9223372036854775816) fun y => k y h17) (fun x26 h18 =>
 pkK x22 x26 (.b false) fun x27 =>
 cdK x27 (
 faK 2 x14 fun x28 =>
 ld1 x28 h18 fun x29 =>
 s183 [x13] h18 fun x30 h19 =>
 bsK 32 9 1 9 [x30] h19 fun x31 h20 =>
 apY 32 9 x29 x31 h20 fun x32 h21 =>
 faK 2 x14 fun x33 =>
 stL 1 x33 x32 h21 fun h22 =>
 ld1 x28 h19 fun x34 => ifT (avEq x34 x29) <|
 ld1 x28 h20 fun x35 => ifT (avEq x35 x29) <|
 ikY .sub x15 (.i .i64 9223372036854775809) fun x36 =>
 x10 x11 x12 x13 x14 x36 h22) (
 ldN 3 x14 h18 fun x37 =>
 s74 [x37] h18 fun x38 h23 =>
 ncK x13 fun x39 =>
 faK 1 x39 fun x40 =>
 ld1 x40 h23 fun x41 =>
 gdK x41 false (fun k => k x38 h23) (fun x42 h24 =>
 gdK x41 false (fun k => nsK .eql x42 .ns fun y => k y h24) (fun x43 h25 =>
 pkK x41 (.b true) x43 fun x44 =>
 gdK x44 false (fun k => k x38 h25) (fun x45 h26 =>
 gdK x44 false (fun k => k x11 h26) (fun x46 h27 =>
 gdK x44 false (fun k => s111 [x45, x46] h27 k) (fun x47 h28 =>
 gdK x44 false (fun k => notK x47 fun y => k y h28) (fun x48 h29 =>
 pkK x44 (.b true) x48 fun x49 =>
 cdK x49 (
 blK [] Z48 fun x50 =>
 stL 3 x12 x50 h29 fun h30 =>
 ldN 3 x12 h30 fun x51 => k (.t [x51, (.i .i64 9223372036854775809)]) h30) (
 ldN 3 x14 h29 fun x52 =>
 stL 3 x12 x52 h29 fun h31 =>
 ldN 3 x12 h31 fun x53 => k (.t [x53, (.i .i64 9223372036854775808)]) h31)) h28) h27) h26) h25) h24) h23)) h17) h16) h15) h14) h13) h12) h11) h10) h9) [x0, x1, x3, x6, x9] h8) args h
noncomputable def s109 : FS := S109 s182 s183 s74 s111
noncomputable def a109 : Ann := (.s .o (.s .o (.s .o (.s .o (.s (.s .o (.b (.l [0, 2, 4, 5, 6] (.s (.s .o (.i .o .o)) (.s (.b (.g [0, 1, 2, 3, 4, 5, 6, 7])) .o))))) (.s (.s .o (.s .o (.i (.s .o .o) .o))) (.s .o .o)))))))
noncomputable def S208 : FS := fun args h k => capp 1 (fun x0 h0 =>
 ikY .geq x0 (.i .i64 9223372036854775809) fun x1 =>
 gdK x1 true (fun k => k x0 h0) (fun x2 h1 =>
 gdK x1 true (fun k => ikY .leq x2 (.i .i64 9223372036854775813) fun y => k y h1) (fun x3 h2 =>
 pkK x1 x3 (.b false) fun x4 =>
 k x4 h2) h1) h0) args h
noncomputable def s208 : FS := S208
noncomputable def a208 : Ann := (.s .o (.s .o .o))
noncomputable def S152 (s208 : FS) : FS := fun args h k => capp 2 (fun x0 x1 h0 =>
 npK .eql x0 .np fun x2 =>
 gdK x2 false (fun k => k x1 h0) (fun x3 h1 =>
 gdK x2 false (fun k => s208 [x3] h1 k) (fun x4 h2 =>
 gdK x2 false (fun k => notK x4 fun y => k y h2) (fun x5 h3 =>
 pkK x2 (.b true) x5 fun x6 =>
 cdK x6 (
 k (.i .i64 9223372036854775808) h3) (
 ncK x0 fun x7 =>
 faK 2 x7 fun x8 =>
 iapK 6 6 x8 x1 fun x9 =>
 faK 0 x9 fun x10 =>
 ld1 x10 h3 fun x11 =>
 k x11 h3)) h2) h1) h0) args h
noncomputable def s152 : FS := S152 s208
noncomputable def a152 : Ann := (.s .o (.s (.s .o (.i (.s .o .o) .o)) (.s .o .o)))
noncomputable def s169 : FS := (cpdF 9 181 cpF)
noncomputable def S92 (s168 s169 : FS) : FS := fun args h k => capp 1 (fun x0 h0 =>
 npK .eql x0 .np fun x1 =>
 cdK x1 (
 k .np h0) (
 s168 [] h0 fun x2 h1 =>
 ncK x2 fun x3 =>
 faK 0 x3 fun x4 =>
 ld1 x4 h1 fun x5 =>
 ncK x0 fun x6 =>
 faK 0 x6 fun x7 =>
 ld1 x7 h1 fun x8 =>
 s169 [x5, x8] h1 fun x9 h2 =>
 k x2 h2)) args h
noncomputable def s92 : FS := S92 s168 s169
noncomputable def a92 : Ann := (.s .o (.s (.s .o (.i (.s .o .o) .o)) (.s .o (.s (.g [0, 1, 2, 3, 4, 5, 6, 7, 8]) (.s .o .o)))))
noncomputable def s253 : FS := sx
noncomputable def a254 : Ann := (.s .o (.s .o (.s .o .o)))
noncomputable def s254 : FS := fnF Tryz.prog [] MM Tryz.f254 a254
noncomputable def a307 : Ann := (.s .o (.s .o .o))
noncomputable def s307 : FS := fnF Tryz.prog [] MM Tryz.f307 a307
noncomputable def s308 : FS := sx
noncomputable def a93 : Ann := (.s .o (.s (.s .o (.i (.s .o .o) .o)) (.s .o .o)))
noncomputable def s93 : FS := fnF Tryz.prog [(307, s307), (308, s308)] MM Tryz.f93 a93
noncomputable def a255 : Ann := (.s .o (.s .o .o))
noncomputable def s255 : FS := fnF Tryz.prog [] MM Tryz.f255 a255
noncomputable def a51 : Ann := (.s .o (.s .o .o))
noncomputable def s51 : FS := fnF Tryz.prog [(93, s93)] MM Tryz.f51 a51
noncomputable def a256 : Ann := (.s .o (.s (.b (.s .o (.j [] .o (.s .o (.i (.s .o .o) (.g [0, 1, 2, 3, 4, 5, 6])))))) (.s .o .o)))
noncomputable def s256 : FS := fnF Tryz.prog [(93, s93), (51, s51)] MM Tryz.f256 a256
noncomputable def S222 (s236 s253 s254 s93 s255 s256 : FS) : FS := fun args h k => capp 2 (fun x0 x1 h0 =>
 boxK 32 9 x1 h0 fun x2 h1 =>
 faK 2 x2 fun x3 =>
 ldN 3 x3 h1 fun x4 =>
 s236 [x4] h1 fun x5 h2 =>
 exK x5 0 fun x6 =>
 exK x5 1 fun x7 =>
 boxK 125 1 z125 h2 fun x8 h3 =>
 stL 1 x8 x6 h3 fun h4 =>
 ncK x0 fun x9 =>
 faK 0 x9 fun x10 =>
 ld1 x10 h4 fun x11 =>
 faK 1 x2 fun x12 =>
 ld1 x12 h4 fun x13 =>
 lkK true false (.a [.ni]) x11 x13 h4 fun x14 =>
 boxK 125 1 z125 h4 fun x15 h5 =>
 stL 1 x15 x14 h5 fun h6 =>
 ld1 x10 h5 fun x16 => ifT (avEq x16 x11) <|
 ld1 x12 h5 fun x17 => ifT (avEq x17 x13) <|
 lkK true false (.a [.ni]) x11 x13 h5 fun x18 => ifT (avEq x18 x14) <|
 faK 0 x2 fun x19 =>
 ld1 x19 h6 fun x20 =>
 ikY .eql x20 (.i .i64 9223372036854775811) fun x21 =>
 jn 3 (fun x22 : CT 3 =>
 cdK x21 (
 faK 5 x2 fun x23 =>
 ldN 3 x23 h6 fun x24 =>
 s236 [x24] h6 fun x25 h7 =>
 exK x25 0 fun x26 =>
 exK x25 1 fun x27 =>
 boxK 125 1 z125 h7 fun x28 h8 =>
 stL 1 x28 x26 h8 fun h9 =>
 ldN 1 x15 h9 fun x29 =>
 ldN 1 x28 h9 fun x30 =>
 s253 [x29, x30] h9 fun x31 h10 =>
 notK x31 fun x32 =>
 cdK x32 (
 k (.i .i64 9223372036854775816) h10) (
 x22 x0 x2 x8 h10)) (
 ikY .eql x20 (.i .i64 9223372036854775812) fun x33 =>
 cdK x33 (
 ldN 1 x15 h6 fun x34 =>
 s254 [x34] h6 fun x35 h11 =>
 exK x35 0 fun x36 =>
 exK x35 1 fun x37 =>
 ldN 1 x15 h11 fun x38 =>
 s93 [x38] h11 fun x39 h12 =>
 ikY .neq x39 (.i .i64 9223372036854775808) fun x40 =>
 gdK x40 true (fun k => k x37 h12) (fun x41 h13 =>
 gdK x40 true (fun k => notK x41 fun y => k y h13) (fun x42 h14 =>
 pkK x40 x42 (.b false) fun x43 =>
 cdK x43 (
 k (.i .i64 9223372036854775815) h14) (
 s255 [x36] h14 fun x44 h15 =>
 notK x44 fun x45 =>
 gdK x45 false (fun k => k x36 h15) (fun x46 h16 =>
 gdK x45 false (fun k => faK 8 x2 fun y => k y h16) (fun x47 h17 =>
 gdK x45 false (fun k => ld1 x47 h17 fun y => k y h17) (fun x48 h18 =>
 gdK x45 false (fun k => ikY .add x46 x48 fun y => k y h18) (fun x49 h19 =>
 gdK x45 false (fun k => s255 [x49] h19 k) (fun x50 h20 =>
 gdK x45 false (fun k => notK x50 fun y => k y h20) (fun x51 h21 =>
 pkK x45 (.b true) x51 fun x52 =>
 cdK x52 (
 k (.i .i64 9223372036854775812) h21) (
 faK 8 x2 fun x53 =>
 ld1 x53 h21 fun x54 =>
 ikY .add x36 x54 fun x55 =>
 blK [(0, 1, (.i .i64 9223372036854775809)), (1, 1, x55)] Z30 fun x56 =>
 s236 [x56] h21 fun x57 h22 =>
 exK x57 0 fun x58 =>
 exK x57 1 fun x59 =>
 stL 1 x8 x58 h22 fun h23 =>
 x22 x0 x2 x8 h23)) h20) h19) h18) h17) h16) h15)) h13) h12) (
 x22 x0 x2 x8 h6))) fun x60 x61 x62 h24 =>
 faK 1 x61 fun x63 =>
 ld1 x63 h24 fun x64 =>
 ldN 1 x62 h24 fun x65 =>
 s256 [x60, x64, x65] h24 fun x66 h25 =>
 k x66 h25) args h
noncomputable def o222 : FS := S222 s236 s253 s254 s93 s255 s256
noncomputable def s222 : FS := doF 9 181 o222
noncomputable def a222 : Ann := (.s .o (.s .o (.s (.g [0, 1, 2, 3, 4, 5, 6, 7, 8]) (.s (.s .o (.b (.s .o (.j [0, 3, 5] (.s .o (.s .o (.i (.s .o .o) .o))) (.s .o (.i (.s .o (.s (.b (.s .o (.i (.s .o .o) (.s .o (.i (.s .o .o) .o))))) .o)) .o)))))) (.s .o .o)))))
noncomputable def S185 (s92 s151 s222 : FS) : FS := fun args h k => capp 2 (fun x0 x1 h0 =>
 npK .eql x0 .np fun x2 =>
 gdK x2 false (fun k => k x1 h0) (fun x3 h1 =>
 gdK x2 false (fun k => lnLY x3 fun y => k y h1) (fun x4 h2 =>
 gdK x2 false (fun k => ikY .eql x4 (.i .i64 9223372036854775808) fun y => k y h2) (fun x5 h3 =>
 pkK x2 (.b true) x5 fun x6 =>
 gdK x6 false (fun k => k x1 h3) (fun x7 h4 =>
 gdK x6 false (fun k => lnLY x7 fun y => k y h4) (fun x8 h5 =>
 gdK x6 false (fun k => ikY .gtr x8 (.i .i64 9223372036854775816) fun y => k y h5) (fun x9 h6 =>
 pkK x6 (.b true) x9 fun x10 =>
 cdK x10 (
 k (.i .i64 9223372036854775809) h6) (
 s92 [x0] h6 fun x11 h7 =>
 lnLY x1 fun x12 =>
 capp 5 (lp 5 fun (x13 : CT 5) x14 x15 x16 x17 x18 h8 =>
 ikY .lss x18 x17 fun x19 =>
 cdK x19 (
 iaK 9 x16 x18 fun x20 =>
 ldN 9 x20 h8 fun x21 =>
 boxK 32 9 z32 h8 fun x22 h9 =>
 stL 9 x22 x21 h9 fun h10 =>
 ldN 9 x22 h10 fun x23 =>
 s151 [x23] h10 fun x24 h11 =>
 notK x24 fun x25 =>
 cdK x25 (
 k (.i .i64 9223372036854775809) h11) (
 ldN 9 x22 h11 fun x26 =>
 s222 [x15, x26] h11 fun x27 h12 =>
 ikY .neq x27 (.i .i64 9223372036854775808) fun x28 =>
 cdK x28 (
 k x27 h12) (
 ikY .add x18 (.i .i64 9223372036854775809) fun x29 =>
 x13 x14 x15 x16 x17 x29 h12))) (
 ncK x15 fun x30 =>
 faK 0 x30 fun x31 =>
 ld1 x31 h8 fun x32 =>
 ncK x14 fun x33 =>
 faK 0 x33 fun x34 =>
 stL 1 x34 x32 h8 fun h13 =>
 k (.i .i64 9223372036854775808) h13)) [x0, x11, x1, x12, (.i .i64 9223372036854775808)] h7)) h5) h4) h3) h2) h1) h0) args h
noncomputable def s185 : FS := S185 s92 s151 s222
noncomputable def a185 : Ann := (.s .o (.s (.s .o (.i (.s .o .o) .o)) (.s .o (.s (.s .o (.b (.l [0, 5, 23, 24, 25] (.s .o (.s (.i .o .o) (.s (.b (.s .o (.s (.s .o (.i (.s .o .o) .o)) (.s .o (.s .o (.i (.s .o .o) .o)))))) .o)))))) (.s .o (.s .o .o))))))
noncomputable def S90 : FS := fun args h k => capp 1 (fun x0 h0 =>
 nsK .eql x0 .ns fun x1 =>
 cdK x1 (
 k .ns h0) (
 bsK 32 9 0 0 [] h0 fun x2 h1 =>
 apY 32 9 x2 x0 h1 fun x3 h2 =>
 k x3 h2)) args h
noncomputable def s90 : FS := S90
noncomputable def a90 : Ann := (.s .o (.s (.s .o (.i (.s .o .o) .o)) (.s .o .o)))
noncomputable def S184 (s90 : FS) : FS := fun args h k => capp 1 (fun x0 h0 =>
 boxK 50 5 x0 h0 fun x1 h1 =>
 boxK 50 5 z50 h1 fun x2 h2 =>
 faK 1 x1 fun x3 =>
 faK 2 x3 fun x4 =>
 ld1 x4 h2 fun x5 =>
 s90 [x5] h2 fun x6 h3 =>
 faK 1 x1 fun x7 =>
 faK 2 x7 fun x8 =>
 stL 1 x8 x6 h3 fun h4 =>
 ldN 5 x1 h4 fun x9 =>
 stL 5 x2 x9 h4 fun h5 =>
 ldN 5 x2 h5 fun x10 => k x10 h5) args h
noncomputable def s184 : FS := S184 s90
noncomputable def a184 : Ann := (.s .o (.s .o (.s .o .o)))
def Z177 : List AV := [(.i .i64 9223372036854775808), (.i .i64 9223372036854775808), (.i .i64 9223372036854775808), (.i .i64 9223372036854775808), .ns, (.i .i64 9223372036854775808)]
def z177 : AV := .a Z177
end Go.Proofs.YtpchmdddkpocgaaGreatDoor
