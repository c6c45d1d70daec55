/- The programs of some functions. No condition. -/
import Derived.Test.YtpiegccohgdkdaaProg
import Derived.Test.YtpiegccohgdkdaaAmFun1
import Derived.StillTailTactics
set_option linter.all false
set_option linter.unusedSimpArgs false
set_option linter.unusedVariables false
set_option linter.deprecated false
open Go Go.AM
namespace FrA
set_option maxRecDepth 100000
def k4 : { k : K // comp Go.Proofs.Try.prog Go.Proofs.Try.f4.ntmps (fun _ => false) (Go.Proofs.Try.f4.body.getD .skip) = k } := ⟨
 (K.reg [⟨some 2, none, KO.mv (KV.c (AV.b false))⟩]).seq (((K.reg [⟨some 11, none, KO.mv (KV.t 0)⟩, ⟨some 12, none, KO.len true (KV.t 11)⟩, ⟨some 13, none, KO.bin BinOp.gtr (KV.t
    12) (KV.c (AV.i IntKind.i64 1048576))⟩]).seq (K.cond (KV.t 13) ((K.reg [⟨some 2, none, KO.mv (KV.c (AV.b true))⟩]).seq K.ret) K.skip)).seq ((K.reg [⟨some 15, none, KO.mv (KV.t
    0)⟩, ⟨some 16, none, KO.call (KV.f 18) [KV.t 15]⟩, ⟨some 14, none, KO.mv (KV.t 16)⟩, ⟨some 17, none, KO.ext (KV.t 14) 0⟩, ⟨some 18, none, KO.ext (KV.t 14) 1⟩, ⟨some 3, none,
    KO.mv (KV.t 17)⟩, ⟨some 4, none, KO.mv (KV.t 18)⟩]).seq ((K.reg [⟨some 20, none, KO.mv (KV.t 0)⟩, ⟨some 21, none, KO.call (KV.f 19) [KV.t 20]⟩, ⟨some 19, none, KO.mv (KV.t 21)⟩,
    ⟨some 22, none, KO.ext (KV.t 19) 0⟩, ⟨some 23, none, KO.ext (KV.t 19) 1⟩, ⟨some 5, none, KO.mv (KV.t 22)⟩, ⟨some 6, none, KO.mv (KV.t 23)⟩]).seq (((K.reg [⟨some 24, none, KO.mv
    (KV.t 5)⟩, ⟨some 25, none, KO.mv (KV.t 3)⟩, ⟨some 26, none, KO.call (KV.f 20) [KV.t 24, KV.t 25]⟩, ⟨some 27, none, KO.un UnOp.not (KV.t 26)⟩, ⟨some 28, none, KO.mv (KV.t 27)⟩,
    ⟨some 29, some (28, false), KO.mv (KV.t 6)⟩, ⟨some 30, some (28, false), KO.mv (KV.t 4)⟩, ⟨some 31, some (28, false), KO.bin BinOp.neq (KV.t 29) (KV.t 30)⟩, ⟨some 32, none,
    KO.pick (KV.t 28) (KV.c (AV.b true)) (KV.t 31)⟩]).seq (K.cond (KV.t 32) ((K.reg [⟨some 2, none, KO.mv (KV.c (AV.b false))⟩]).seq K.ret) K.skip)).seq ((K.reg [⟨some 7, none,
    KO.mv (KV.c (AV.i IntKind.i64 1))⟩]).seq ((K.reg [⟨some 33, none, KO.mv (KV.t 5)⟩, ⟨some 34, none, KO.mv (KV.t 7)⟩, ⟨some 35, none, KO.call (KV.f 21) [KV.t 33, KV.t 34]⟩, ⟨some
    7, none, KO.mv (KV.t 35)⟩]).seq ((K.reg [⟨some 8, none, KO.mv (KV.c (AV.i IntKind.i64 1))⟩]).seq ((K.reg [⟨some 36, none, KO.mv (KV.t 5)⟩, ⟨some 37, none, KO.mv (KV.t 8)⟩, ⟨some
    38, none, KO.call (KV.f 22) [KV.t 36, KV.t 37]⟩, ⟨some 8, none, KO.mv (KV.t 38)⟩]).seq (((K.reg [⟨some 39, none, KO.mv (KV.t 8)⟩, ⟨some 40, none, KO.bin BinOp.lss (KV.t 39)
    (KV.c (AV.i IntKind.i64 0))⟩]).seq (K.cond (KV.t 40) ((K.reg [⟨some 2, none, KO.mv (KV.c (AV.b false))⟩]).seq K.ret) K.skip)).seq (((K.reg [⟨some 41, none, KO.mv (KV.t 8)⟩,
    ⟨some 42, none, KO.mv (KV.t 7)⟩, ⟨some 43, none, KO.bin BinOp.neq (KV.t 41) (KV.t 42)⟩]).seq (K.cond (KV.t 43) ((K.reg [⟨some 2, none, KO.mv (KV.c (AV.b false))⟩]).seq K.ret)
    K.skip)).seq ((K.reg [⟨some 45, none, KO.mv (KV.t 0)⟩, ⟨some 46, none, KO.call (KV.f 19) [KV.t 45]⟩, ⟨some 44, none, KO.mv (KV.t 46)⟩, ⟨some 47, none, KO.ext (KV.t 44) 0⟩, ⟨some
    48, none, KO.ext (KV.t 44) 1⟩, ⟨some 9, none, KO.mv (KV.t 47)⟩, ⟨some 10, none, KO.mv (KV.t 48)⟩]).seq (((K.reg [⟨some 49, none, KO.mv (KV.t 9)⟩, ⟨some 50, none, KO.mv (KV.t
    3)⟩, ⟨some 51, none, KO.call (KV.f 20) [KV.t 49, KV.t 50]⟩, ⟨some 52, none, KO.un UnOp.not (KV.t 51)⟩, ⟨some 53, none, KO.mv (KV.t 52)⟩, ⟨some 54, some (53, false), KO.mv (KV.t
    10)⟩, ⟨some 55, some (53, false), KO.mv (KV.t 4)⟩, ⟨some 56, some (53, false), KO.bin BinOp.neq (KV.t 54) (KV.t 55)⟩, ⟨some 57, none, KO.pick (KV.t 53) (KV.c (AV.b true)) (KV.t
    56)⟩]).seq (K.cond (KV.t 57) ((K.reg [⟨some 2, none, KO.mv (KV.c (AV.b false))⟩]).seq K.ret) K.skip)).seq ((K.reg [⟨some 8, none, KO.mv (KV.c (AV.i IntKind.i64 1))⟩]).seq
    ((K.reg [⟨some 58, none, KO.mv (KV.t 5)⟩, ⟨some 59, none, KO.mv (KV.t 8)⟩, ⟨some 60, none, KO.call (KV.f 22) [KV.t 58, KV.t 59]⟩, ⟨some 8, none, KO.mv (KV.t 60)⟩]).seq (((K.reg
    [⟨some 61, none, KO.mv (KV.t 8)⟩, ⟨some 62, none, KO.bin BinOp.lss (KV.t 61) (KV.c (AV.i IntKind.i64 0))⟩]).seq (K.cond (KV.t 62) ((K.reg [⟨some 2, none, KO.mv (KV.c (AV.b
    false))⟩]).seq K.ret) K.skip)).seq (((K.reg [⟨some 63, none, KO.mv (KV.t 8)⟩, ⟨some 64, none, KO.mv (KV.t 7)⟩, ⟨some 65, none, KO.bin BinOp.neq (KV.t 63) (KV.t 64)⟩]).seq
    (K.cond (KV.t 65) ((K.reg [⟨some 2, none, KO.mv (KV.c (AV.b false))⟩]).seq K.ret) K.skip)).seq ((K.reg [⟨some 2, none, KO.mv (KV.c (AV.b true))⟩]).seq K.ret))))))))))))))))),
  by kernel_rfl⟩
def k18 : { k : K // comp Go.Proofs.Try.prog Go.Proofs.Try.f18.ntmps (fun _ => false) (Go.Proofs.Try.f18.body.getD .skip) = k } := ⟨
 (K.reg [⟨some 2, none, KO.mv (KV.c AV.nils)⟩, ⟨some 3, none, KO.mv (KV.c (AV.i IntKind.i64 0))⟩]).seq ((K.reg [⟨some 8, none, KO.bslice 1 0 [AV.s []] []⟩, ⟨some 4, none, KO.mv
    (KV.t 8)⟩]).seq ((K.reg [⟨some 5, none, KO.mv (KV.c (AV.i IntKind.i64 0))⟩]).seq ((K.block 0 (((K.reg [⟨some 9, none, KO.mv (KV.t 5)⟩, ⟨some 10, none, KO.bin BinOp.add (KV.t 9)
    (KV.c (AV.i IntKind.i64 8))⟩, ⟨some 11, none, KO.mv (KV.t 0)⟩, ⟨some 12, none, KO.len true (KV.t 11)⟩, ⟨some 13, none, KO.bin BinOp.leq (KV.t 10) (KV.t 12)⟩]).seq (K.cond (KV.t
    13) K.skip (K.exit 0))).seq (K.block 1 ((K.reg [⟨some 6, none, KO.mv (KV.c (AV.i IntKind.i64 0))⟩]).seq (((K.reg [⟨some 7, none, KO.mv (KV.c (AV.i IntKind.i64 0))⟩]).seq
    (K.block 2 (((K.reg [⟨some 14, none, KO.mv (KV.t 7)⟩, ⟨some 15, none, KO.bin BinOp.lss (KV.t 14) (KV.c (AV.i IntKind.i64 4))⟩]).seq (K.cond (KV.t 15) K.skip (K.exit 2))).seq
    ((K.block 3 (K.reg [⟨some 18, none, KO.mv (KV.t 6)⟩, ⟨some 19, none, KO.bin BinOp.mul (KV.c (AV.i IntKind.i64 256)) (KV.t 18)⟩, ⟨some 20, none, KO.mv (KV.t 0)⟩, ⟨some 21, none,
    KO.mv (KV.t 5)⟩, ⟨some 22, none, KO.mv (KV.t 7)⟩, ⟨some 23, none, KO.bin BinOp.add (KV.t 21) (KV.t 22)⟩, ⟨some 24, none, KO.ids (KV.t 20) (KV.t 23)⟩, ⟨some 25, none, KO.conv
    (KC.int IntKind.i64) (KV.t 24)⟩, ⟨some 26, none, KO.bin BinOp.add (KV.t 19) (KV.t 25)⟩, ⟨some 6, none, KO.mv (KV.t 26)⟩])).seq (K.reg [⟨some 16, none, KO.mv (KV.t 7)⟩, ⟨some 17,
    none, KO.bin BinOp.add (KV.t 16) (KV.c (AV.i IntKind.i64 1))⟩, ⟨some 7, none, KO.mv (KV.t 17)⟩]))).loop)).seq (((K.dreg [⟨some 27, none, KO.mv (KV.t 6)⟩, ⟨some 28, none, KO.bin
    BinOp.gtr (KV.t 27) (KV.c (AV.i IntKind.i64 100000))⟩, ⟨some 29, none, KO.mv (KV.t 28)⟩, ⟨some 30, some (29, false), KO.mv (KV.t 5)⟩, ⟨some 31, some (29, false), KO.bin
    BinOp.add (KV.t 30) (KV.c (AV.i IntKind.i64 8))⟩, ⟨some 32, some (29, false), KO.mv (KV.t 6)⟩, ⟨some 33, some (29, false), KO.bin BinOp.add (KV.t 31) (KV.t 32)⟩, ⟨some 34, some
    (29, false), KO.mv (KV.t 0)⟩, ⟨some 35, some (29, false), KO.len true (KV.t 34)⟩, ⟨some 36, some (29, false), KO.bin BinOp.gtr (KV.t 33) (KV.t 35)⟩, ⟨some 37, none, KO.pick
    (KV.t 29) (KV.c (AV.b true)) (KV.t 36)⟩, ⟨some 38, none, KO.mv (KV.t 37)⟩, ⟨some 39, some (38, false), KO.mv (KV.t 0)⟩, ⟨some 40, some (38, false), KO.mv (KV.t 5)⟩, ⟨some 41,
    some (38, false), KO.bin BinOp.add (KV.t 40) (KV.c (AV.i IntKind.i64 8))⟩, ⟨some 42, some (38, false), KO.mv (KV.t 5)⟩, ⟨some 43, some (38, false), KO.bin BinOp.add (KV.t 42)
    (KV.c (AV.i IntKind.i64 8))⟩, ⟨some 44, some (38, false), KO.mv (KV.t 6)⟩, ⟨some 45, some (38, false), KO.bin BinOp.add (KV.t 43) (KV.t 44)⟩, ⟨some 46, some (38, false), KO.sls
    (KV.t 39) (some (KV.t 41)) (some (KV.t 45))⟩, ⟨some 47, some (38, false), KO.call0 (KV.f 60) [KV.t 46]⟩, ⟨some 48, some (38, false), KO.mv (KV.t 0)⟩, ⟨some 49, some (38, false),
    KO.mv (KV.t 5)⟩, ⟨some 50, some (38, false), KO.bin BinOp.add (KV.t 49) (KV.c (AV.i IntKind.i64 4))⟩, ⟨some 51, some (38, false), KO.mv (KV.t 5)⟩, ⟨some 52, some (38, false),
    KO.bin BinOp.add (KV.t 51) (KV.c (AV.i IntKind.i64 8))⟩, ⟨some 53, some (38, false), KO.sls (KV.t 48) (some (KV.t 50)) (some (KV.t 52))⟩, ⟨some 54, some (38, false), KO.bin
    BinOp.neq (KV.t 47) (KV.t 53)⟩, ⟨some 55, none, KO.pick (KV.t 38) (KV.c (AV.b true)) (KV.t 54)⟩] [[], [0], [1], [2], [3, 2], [2], [4, 5, 2], [2], [7, 2], [6, 8, 2], [2, 9], [10,
    2], [11], [11], [13, 11], [11], [15, 11], [11], [16, 17, 11], [12, 14, 18, 11], [19, 11, 11], [11], [11], [22, 11], [11], [24, 11], [21, 23, 25, 11], [20, 26, 11], [11,
    27]]).seq (K.cond (KV.t 55) (K.exit 0) K.skip)).seq ((K.reg [⟨some 56, none, KO.mv (KV.t 4)⟩, ⟨some 57, none, KO.mv (KV.t 0)⟩, ⟨some 58, none, KO.mv (KV.t 5)⟩, ⟨some 59, none,
    KO.bin BinOp.add (KV.t 58) (KV.c (AV.i IntKind.i64 8))⟩, ⟨some 60, none, KO.mv (KV.t 5)⟩, ⟨some 61, none, KO.bin BinOp.add (KV.t 60) (KV.c (AV.i IntKind.i64 8))⟩, ⟨some 62,
    none, KO.mv (KV.t 6)⟩, ⟨some 63, none, KO.bin BinOp.add (KV.t 61) (KV.t 62)⟩, ⟨some 64, none, KO.sls (KV.t 57) (some (KV.t 59)) (some (KV.t 63))⟩, ⟨some 65, none, KO.bslice 1 1
    [AV.s []] [(0, KV.t 64)]⟩, ⟨some 66, none, KO.app 1 16 [AV.s []] (KV.t 56) (KV.t 65)⟩, ⟨some 4, none, KO.mv (KV.t 66)⟩]).seq (K.reg [⟨some 67, none, KO.mv (KV.t 5)⟩, ⟨some 68,
    none, KO.bin BinOp.add (KV.t 67) (KV.c (AV.i IntKind.i64 8))⟩, ⟨some 69, none, KO.mv (KV.t 6)⟩, ⟨some 70, none, KO.bin BinOp.add (KV.t 68) (KV.t 69)⟩, ⟨some 5, none, KO.mv (KV.t
    70)⟩]))))))).loop).seq ((K.reg [⟨some 71, none, KO.mv (KV.t 4)⟩, ⟨some 72, none, KO.mv (KV.t 5)⟩, ⟨some 2, none, KO.mv (KV.t 71)⟩, ⟨some 3, none, KO.mv (KV.t 72)⟩]).seq
    K.ret)))),
  by kernel_rfl⟩
def k19 : { k : K // comp Go.Proofs.Try.prog Go.Proofs.Try.f19.ntmps (fun _ => false) (Go.Proofs.Try.f19.body.getD .skip) = k } := ⟨
 (K.reg [⟨some 2, none, KO.mv (KV.c AV.nils)⟩, ⟨some 3, none, KO.mv (KV.c (AV.i IntKind.i64 0))⟩]).seq ((K.reg [⟨some 8, none, KO.bslice 1 0 [AV.s []] []⟩, ⟨some 4, none, KO.mv
    (KV.t 8)⟩, ⟨some 5, none, KO.mv (KV.c (AV.i IntKind.i64 0))⟩]).seq (K.block 0 (K.block 1 ((K.reg [⟨some 10, none, KO.mv (KV.t 0)⟩, ⟨some 11, none, KO.mv (KV.t 5)⟩, ⟨some 12,
    none, KO.sls (KV.t 10) (some (KV.t 11)) none⟩, ⟨some 13, none, KO.call (KV.f 62) [KV.t 12]⟩, ⟨some 9, none, KO.mv (KV.t 13)⟩, ⟨some 14, none, KO.ext (KV.t 9) 0⟩, ⟨some 15, none,
    KO.ext (KV.t 9) 1⟩, ⟨some 6, none, KO.mv (KV.t 14)⟩, ⟨some 7, none, KO.mv (KV.t 15)⟩]).seq (((K.reg [⟨some 16, none, KO.mv (KV.t 7)⟩, ⟨some 17, none, KO.un UnOp.not (KV.t
    16)⟩]).seq (K.cond (KV.t 17) ((K.reg [⟨some 18, none, KO.mv (KV.t 4)⟩, ⟨some 19, none, KO.mv (KV.t 5)⟩, ⟨some 2, none, KO.mv (KV.t 18)⟩, ⟨some 3, none, KO.mv (KV.t 19)⟩]).seq
    K.ret) K.skip)).seq (K.reg [⟨some 20, none, KO.mv (KV.t 4)⟩, ⟨some 21, none, KO.mv (KV.t 6)⟩, ⟨some 22, none, KO.bslice 1 1 [AV.s []] [(0, KV.t 21)]⟩, ⟨some 23, none, KO.app 1
    16 [AV.s []] (KV.t 20) (KV.t 22)⟩, ⟨some 24, none, KO.mv (KV.t 5)⟩, ⟨some 25, none, KO.bin BinOp.add (KV.t 24) (KV.c (AV.i IntKind.i64 8))⟩, ⟨some 26, none, KO.mv (KV.t 6)⟩,
    ⟨some 27, none, KO.len true (KV.t 26)⟩, ⟨some 28, none, KO.bin BinOp.add (KV.t 25) (KV.t 27)⟩, ⟨some 4, none, KO.mv (KV.t 23)⟩, ⟨some 5, none, KO.mv (KV.t 28)⟩])))).loop)),
  by kernel_rfl⟩
def k20 : { k : K // comp Go.Proofs.Try.prog Go.Proofs.Try.f20.ntmps (fun _ => false) (Go.Proofs.Try.f20.body.getD .skip) = k } := ⟨
 (K.reg [⟨some 4, none, KO.mv (KV.c (AV.b false))⟩]).seq (((K.reg [⟨some 6, none, KO.mv (KV.t 0)⟩, ⟨some 7, none, KO.len false (KV.t 6)⟩, ⟨some 8, none, KO.mv (KV.t 1)⟩, ⟨some 9,
    none, KO.len false (KV.t 8)⟩, ⟨some 10, none, KO.bin BinOp.neq (KV.t 7) (KV.t 9)⟩]).seq (K.cond (KV.t 10) ((K.reg [⟨some 4, none, KO.mv (KV.c (AV.b false))⟩]).seq K.ret)
    K.skip)).seq (((K.reg [⟨some 5, none, KO.mv (KV.c (AV.i IntKind.i64 0))⟩]).seq (K.block 0 (((K.reg [⟨some 11, none, KO.mv (KV.t 5)⟩, ⟨some 12, none, KO.mv (KV.t 0)⟩, ⟨some 13,
    none, KO.len false (KV.t 12)⟩, ⟨some 14, none, KO.bin BinOp.lss (KV.t 11) (KV.t 13)⟩]).seq (K.cond (KV.t 14) K.skip (K.exit 0))).seq ((K.block 1 ((K.dreg [⟨some 17, none, KO.mv
    (KV.t 0)⟩, ⟨some 18, none, KO.mv (KV.t 5)⟩, ⟨some 19, none, KO.idx 1 (KV.t 17) (KV.t 18)⟩, ⟨some 20, none, KO.load false 1 (KV.t 19)⟩, ⟨some 21, none, KO.mv (KV.t 1)⟩, ⟨some 22,
    none, KO.mv (KV.t 5)⟩, ⟨some 23, none, KO.idx 1 (KV.t 21) (KV.t 22)⟩, ⟨some 24, none, KO.load false 1 (KV.t 23)⟩, ⟨some 25, none, KO.bin BinOp.neq (KV.t 20) (KV.t 24)⟩] [[], [],
    [0, 1], [2], [], [], [4, 5], [6], [3, 7]]).seq (K.cond (KV.t 25) ((K.reg [⟨some 4, none, KO.mv (KV.c (AV.b false))⟩]).seq K.ret) K.skip))).seq (K.reg [⟨some 15, none, KO.mv
    (KV.t 5)⟩, ⟨some 16, none, KO.bin BinOp.add (KV.t 15) (KV.c (AV.i IntKind.i64 1))⟩, ⟨some 5, none, KO.mv (KV.t 16)⟩]))).loop)).seq ((K.reg [⟨some 4, none, KO.mv (KV.c (AV.b
    true))⟩]).seq K.ret))),
  by kernel_rfl⟩
def k21 : { k : K // comp Go.Proofs.Try.prog Go.Proofs.Try.f21.ntmps (fun _ => false) (Go.Proofs.Try.f21.body.getD .skip) = k } := ⟨
 (K.reg [⟨some 4, none, KO.mv (KV.c (AV.i IntKind.i64 0))⟩]).seq (((K.reg [⟨some 5, none, KO.mv (KV.c (AV.i IntKind.i64 0))⟩]).seq (K.block 0 (((K.reg [⟨some 6, none, KO.mv (KV.t
    5)⟩, ⟨some 7, none, KO.mv (KV.t 0)⟩, ⟨some 8, none, KO.len false (KV.t 7)⟩, ⟨some 9, none, KO.bin BinOp.lss (KV.t 6) (KV.t 8)⟩]).seq (K.cond (KV.t 9) K.skip (K.exit 0))).seq
    ((K.block 1 ((K.reg [⟨some 12, none, KO.mv (KV.t 0)⟩, ⟨some 13, none, KO.mv (KV.t 5)⟩, ⟨some 14, none, KO.mv (KV.t 1)⟩, ⟨some 15, none, KO.call (KV.f 63) [KV.t 14]⟩, ⟨some 16,
    none, KO.idx 1 (KV.t 12) (KV.t 13)⟩, ⟨none, none, KO.store 1 (KV.t 16) (KV.t 15)⟩]).seq (K.reg [⟨some 17, none, KO.mv (KV.t 1)⟩, ⟨some 18, none, KO.bin BinOp.add (KV.t 17) (KV.c
    (AV.i IntKind.i64 1))⟩, ⟨some 1, none, KO.mv (KV.t 18)⟩]))).seq (K.reg [⟨some 10, none, KO.mv (KV.t 5)⟩, ⟨some 11, none, KO.bin BinOp.add (KV.t 10) (KV.c (AV.i IntKind.i64 1))⟩,
    ⟨some 5, none, KO.mv (KV.t 11)⟩]))).loop)).seq ((K.reg [⟨some 19, none, KO.mv (KV.t 1)⟩, ⟨some 4, none, KO.mv (KV.t 19)⟩]).seq K.ret)),
  by kernel_rfl⟩
def k22 : { k : K // comp Go.Proofs.Try.prog Go.Proofs.Try.f22.ntmps (fun _ => false) (Go.Proofs.Try.f22.body.getD .skip) = k } := ⟨
 (K.reg [⟨some 4, none, KO.mv (KV.c (AV.i IntKind.i64 0))⟩]).seq (((K.reg [⟨some 5, none, KO.mv (KV.c (AV.i IntKind.i64 0))⟩]).seq (K.block 0 (((K.reg [⟨some 6, none, KO.mv (KV.t
    5)⟩, ⟨some 7, none, KO.mv (KV.t 0)⟩, ⟨some 8, none, KO.len false (KV.t 7)⟩, ⟨some 9, none, KO.bin BinOp.lss (KV.t 6) (KV.t 8)⟩]).seq (K.cond (KV.t 9) K.skip (K.exit 0))).seq
    ((K.block 1 (((K.dreg [⟨some 12, none, KO.mv (KV.t 0)⟩, ⟨some 13, none, KO.mv (KV.t 5)⟩, ⟨some 14, none, KO.idx 1 (KV.t 12) (KV.t 13)⟩, ⟨some 15, none, KO.load false 1 (KV.t
    14)⟩, ⟨some 16, none, KO.mv (KV.t 1)⟩, ⟨some 17, none, KO.call0 (KV.f 63) [KV.t 16]⟩, ⟨some 18, none, KO.bin BinOp.neq (KV.t 15) (KV.t 17)⟩] [[], [], [0, 1], [2], [], [4], [3,
    5]]).seq (K.cond (KV.t 18) ((K.reg [⟨some 4, none, KO.mv (KV.c (AV.i IntKind.i64 (-1)))⟩]).seq K.ret) K.skip)).seq (K.reg [⟨some 19, none, KO.mv (KV.t 1)⟩, ⟨some 20, none,
    KO.bin BinOp.add (KV.t 19) (KV.c (AV.i IntKind.i64 1))⟩, ⟨some 1, none, KO.mv (KV.t 20)⟩]))).seq (K.reg [⟨some 10, none, KO.mv (KV.t 5)⟩, ⟨some 11, none, KO.bin BinOp.add (KV.t
    10) (KV.c (AV.i IntKind.i64 1))⟩, ⟨some 5, none, KO.mv (KV.t 11)⟩]))).loop)).seq ((K.reg [⟨some 21, none, KO.mv (KV.t 1)⟩, ⟨some 4, none, KO.mv (KV.t 21)⟩]).seq K.ret)),
  by kernel_rfl⟩
def k62 : { k : K // comp Go.Proofs.Try.prog Go.Proofs.Try.f62.ntmps (fun _ => false) (Go.Proofs.Try.f62.body.getD .skip) = k } := ⟨
 (K.reg [⟨some 2, none, KO.mv (KV.c (AV.s []))⟩, ⟨some 3, none, KO.mv (KV.c (AV.b false))⟩]).seq (((K.reg [⟨some 6, none, KO.mv (KV.t 0)⟩, ⟨some 7, none, KO.len true (KV.t 6)⟩,
    ⟨some 8, none, KO.bin BinOp.lss (KV.t 7) (KV.c (AV.i IntKind.i64 8))⟩]).seq (K.cond (KV.t 8) ((K.reg [⟨some 2, none, KO.mv (KV.c (AV.s []))⟩, ⟨some 3, none, KO.mv (KV.c (AV.b
    false))⟩]).seq K.ret) K.skip)).seq ((K.dreg [⟨some 9, none, KO.mv (KV.t 0)⟩, ⟨some 10, none, KO.ids (KV.t 9) (KV.c (AV.i IntKind.i64 0))⟩, ⟨some 11, none, KO.conv (KC.int
    IntKind.i64) (KV.t 10)⟩, ⟨some 12, none, KO.bin BinOp.shl (KV.t 11) (KV.c (AV.i IntKind.u64 24))⟩, ⟨some 13, none, KO.mv (KV.t 0)⟩, ⟨some 14, none, KO.ids (KV.t 13) (KV.c (AV.i
    IntKind.i64 1))⟩, ⟨some 15, none, KO.conv (KC.int IntKind.i64) (KV.t 14)⟩, ⟨some 16, none, KO.bin BinOp.shl (KV.t 15) (KV.c (AV.i IntKind.u64 16))⟩, ⟨some 17, none, KO.bin
    BinOp.or (KV.t 12) (KV.t 16)⟩, ⟨some 18, none, KO.mv (KV.t 0)⟩, ⟨some 19, none, KO.ids (KV.t 18) (KV.c (AV.i IntKind.i64 2))⟩, ⟨some 20, none, KO.conv (KC.int IntKind.i64) (KV.t
    19)⟩, ⟨some 21, none, KO.bin BinOp.shl (KV.t 20) (KV.c (AV.i IntKind.u64 8))⟩, ⟨some 22, none, KO.bin BinOp.or (KV.t 17) (KV.t 21)⟩, ⟨some 23, none, KO.mv (KV.t 0)⟩, ⟨some 24,
    none, KO.ids (KV.t 23) (KV.c (AV.i IntKind.i64 3))⟩, ⟨some 25, none, KO.conv (KC.int IntKind.i64) (KV.t 24)⟩, ⟨some 26, none, KO.bin BinOp.or (KV.t 22) (KV.t 25)⟩, ⟨some 4,
    none, KO.mv (KV.t 26)⟩] [[], [0], [1], [2], [], [4], [5], [6], [3, 7], [], [9], [10], [11], [8, 12], [], [14], [15], [13, 16], [17, 0, 1, 2, 3, 4, 5, 6, 7, 8, 9, 10, 11, 12, 13,
    14, 15, 16, 17]]).seq (((K.reg [⟨some 27, none, KO.mv (KV.t 4)⟩, ⟨some 28, none, KO.bin BinOp.gtr (KV.t 27) (KV.c (AV.i IntKind.i64 100000))⟩, ⟨some 29, none, KO.mv (KV.t 28)⟩,
    ⟨some 30, some (29, false), KO.mv (KV.t 4)⟩, ⟨some 31, some (29, false), KO.mv (KV.t 0)⟩, ⟨some 32, some (29, false), KO.len true (KV.t 31)⟩, ⟨some 33, some (29, false), KO.bin
    BinOp.sub (KV.t 32) (KV.c (AV.i IntKind.i64 8))⟩, ⟨some 34, some (29, false), KO.bin BinOp.gtr (KV.t 30) (KV.t 33)⟩, ⟨some 35, none, KO.pick (KV.t 29) (KV.c (AV.b true)) (KV.t
    34)⟩]).seq (K.cond (KV.t 35) ((K.reg [⟨some 2, none, KO.mv (KV.c (AV.s []))⟩, ⟨some 3, none, KO.mv (KV.c (AV.b false))⟩]).seq K.ret) K.skip)).seq ((K.reg [⟨some 36, none, KO.mv
    (KV.t 0)⟩, ⟨some 37, none, KO.mv (KV.t 4)⟩, ⟨some 38, none, KO.bin BinOp.add (KV.c (AV.i IntKind.i64 8)) (KV.t 37)⟩, ⟨some 39, none, KO.sls (KV.t 36) (some (KV.c (AV.i
    IntKind.i64 8))) (some (KV.t 38))⟩, ⟨some 5, none, KO.mv (KV.t 39)⟩]).seq ((K.reg [⟨some 40, none, KO.mv (KV.t 5)⟩, ⟨some 41, none, KO.mv (KV.t 0)⟩, ⟨some 42, none, KO.mv (KV.t
    5)⟩, ⟨some 43, none, KO.call (KV.f 17) [KV.t 42]⟩, ⟨some 44, none, KO.call (KV.f 110) [KV.t 41, KV.t 43]⟩, ⟨some 2, none, KO.mv (KV.t 40)⟩, ⟨some 3, none, KO.mv (KV.t 44)⟩]).seq
    K.ret))))),
  by kernel_rfl⟩
def k63 : { k : K // comp Go.Proofs.Try.prog Go.Proofs.Try.f63.ntmps (fun _ => false) (Go.Proofs.Try.f63.body.getD .skip) = k } := ⟨
 (K.reg [⟨some 2, none, KO.mv (KV.c (AV.s []))⟩]).seq (((K.reg [⟨some 4, none, KO.mv (KV.t 0)⟩, ⟨some 5, none, KO.bin BinOp.leq (KV.t 4) (KV.c (AV.i IntKind.i64 0))⟩]).seq (K.cond
    (KV.t 5) ((K.reg [⟨some 2, none, KO.mv (KV.c (AV.s [109, 48]))⟩]).seq K.ret) K.skip)).seq ((K.reg [⟨some 3, none, KO.mv (KV.c (AV.s []))⟩]).seq ((K.block 0 (((K.reg [⟨some 6,
    none, KO.mv (KV.t 0)⟩, ⟨some 7, none, KO.bin BinOp.gtr (KV.t 6) (KV.c (AV.i IntKind.i64 0))⟩]).seq (K.cond (KV.t 7) K.skip (K.exit 0))).seq (K.block 1 ((K.reg [⟨some 8, none,
    KO.mv (KV.t 0)⟩, ⟨some 9, none, KO.bin BinOp.rem (KV.t 8) (KV.c (AV.i IntKind.i64 10))⟩, ⟨some 10, none, KO.bin BinOp.add (KV.c (AV.i IntKind.i64 48)) (KV.t 9)⟩, ⟨some 11, none,
    KO.conv (KC.int IntKind.u8) (KV.t 10)⟩, ⟨some 12, none, KO.bslice 1 1 [AV.i IntKind.u8 0] [(0, KV.t 11)]⟩, ⟨some 13, none, KO.conv KC.b2s (KV.t 12)⟩, ⟨some 14, none, KO.mv (KV.t
    3)⟩, ⟨some 15, none, KO.bin BinOp.add (KV.t 13) (KV.t 14)⟩, ⟨some 3, none, KO.mv (KV.t 15)⟩]).seq (K.reg [⟨some 16, none, KO.mv (KV.t 0)⟩, ⟨some 17, none, KO.bin BinOp.quo (KV.t
    16) (KV.c (AV.i IntKind.i64 10))⟩, ⟨some 0, none, KO.mv (KV.t 17)⟩])))).loop).seq ((K.reg [⟨some 18, none, KO.mv (KV.t 3)⟩, ⟨some 19, none, KO.bin BinOp.add (KV.c (AV.s [109]))
    (KV.t 18)⟩, ⟨some 2, none, KO.mv (KV.t 19)⟩]).seq K.ret)))),
  by kernel_rfl⟩
def k110 : { k : K // comp Go.Proofs.Try.prog Go.Proofs.Try.f110.ntmps (fun _ => false) (Go.Proofs.Try.f110.body.getD .skip) = k } := ⟨
 (K.reg [⟨some 4, none, KO.mv (KV.c (AV.b false))⟩]).seq ((K.reg [⟨some 5, none, KO.mv (KV.t 0)⟩, ⟨some 6, none, KO.mv (KV.t 1)⟩, ⟨some 7, none, KO.call (KV.f 132) [KV.t 5, KV.t
    6]⟩, ⟨some 4, none, KO.mv (KV.t 7)⟩]).seq K.ret),
  by kernel_rfl⟩
def k132 : { k : K // comp Go.Proofs.Try.prog Go.Proofs.Try.f132.ntmps (fun _ => false) (Go.Proofs.Try.f132.body.getD .skip) = k } := ⟨
 (K.reg [⟨some 4, none, KO.mv (KV.c (AV.b false))⟩]).seq ((K.reg [⟨some 5, none, KO.mv (KV.t 0)⟩, ⟨some 6, none, KO.len true (KV.t 5)⟩, ⟨some 7, none, KO.mv (KV.t 1)⟩, ⟨some 8,
    none, KO.len true (KV.t 7)⟩, ⟨some 9, none, KO.bin BinOp.geq (KV.t 6) (KV.t 8)⟩, ⟨some 10, none, KO.mv (KV.t 9)⟩, ⟨some 11, some (10, true), KO.mv (KV.t 0)⟩, ⟨some 12, some (10,
    true), KO.mv (KV.t 1)⟩, ⟨some 13, some (10, true), KO.len true (KV.t 12)⟩, ⟨some 14, some (10, true), KO.sls (KV.t 11) none (some (KV.t 13))⟩, ⟨some 15, some (10, true), KO.mv
    (KV.t 1)⟩, ⟨some 16, some (10, true), KO.bin BinOp.eql (KV.t 14) (KV.t 15)⟩, ⟨some 17, none, KO.pick (KV.t 10) (KV.t 16) (KV.c (AV.b false))⟩, ⟨some 4, none, KO.mv (KV.t
    17)⟩]).seq K.ret),
  by kernel_rfl⟩
end FrA
