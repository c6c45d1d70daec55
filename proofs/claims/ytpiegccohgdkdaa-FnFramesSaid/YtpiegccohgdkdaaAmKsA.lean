/- The programs of some functions. No condition. -/
import Derived.Test.YtpiegccohgdkdaaProg
import Derived.Test.YtpiegccohgdkdaaAmFun1
import Derived.StillTailTactics
set_option linter.all false
set_option linter.unusedSimpArgs false
set_option linter.unusedVariables false
set_option linter.deprecated false
open Go Go.AM
namespace FrA
set_option maxRecDepth 100000
def k3 : { k : K // comp Go.Proofs.Try.prog Go.Proofs.Try.f3.ntmps (fun _ => false) (Go.Proofs.Try.f3.body.getD .skip) = k } := ⟨
 (K.reg [⟨some 2, none, KO.mv (KV.c (AV.b false))⟩]).seq (((K.reg [⟨some 5, none, KO.mv (KV.t 0)⟩, ⟨some 6, none, KO.len true (KV.t 5)⟩, ⟨some 7, none, KO.bin BinOp.gtr (KV.t 6)
    (KV.c (AV.i IntKind.i64 1048576))⟩]).seq (K.cond (KV.t 7) ((K.reg [⟨some 2, none, KO.mv (KV.c (AV.b true))⟩]).seq K.ret) K.skip)).seq ((K.reg [⟨some 8, none, KO.mv (KV.t 0)⟩,
    ⟨some 9, none, KO.call (KV.f 16) [KV.t 8]⟩, ⟨some 3, none, KO.mv (KV.t 9)⟩]).seq ((K.reg [⟨some 10, none, KO.mv (KV.t 0)⟩, ⟨some 11, none, KO.call (KV.f 17) [KV.t 10]⟩, ⟨some 4,
    none, KO.mv (KV.t 11)⟩]).seq (((K.reg [⟨some 12, none, KO.mv (KV.t 4)⟩, ⟨some 13, none, KO.mv (KV.t 3)⟩, ⟨some 14, none, KO.bin BinOp.neq (KV.t 12) (KV.t 13)⟩]).seq (K.cond
    (KV.t 14) ((K.reg [⟨some 2, none, KO.mv (KV.c (AV.b false))⟩]).seq K.ret) K.skip)).seq ((K.reg [⟨some 2, none, KO.mv (KV.c (AV.b true))⟩]).seq K.ret))))),
  by kernel_rfl⟩
def k16 : { k : K // comp Go.Proofs.Try.prog Go.Proofs.Try.f16.ntmps (fun _ => false) (Go.Proofs.Try.f16.body.getD .skip) = k } := ⟨
 (K.reg [⟨some 2, none, KO.mv (KV.c (AV.s []))⟩]).seq ((K.reg [⟨some 4, none, KO.mv (KV.t 0)⟩, ⟨some 5, none, KO.len true (KV.t 4)⟩, ⟨some 3, none, KO.mv (KV.t 5)⟩]).seq (((K.reg
    [⟨some 6, none, KO.mv (KV.t 3)⟩, ⟨some 7, none, KO.bin BinOp.gtr (KV.t 6) (KV.c (AV.i IntKind.i64 100000))⟩]).seq (K.cond (KV.t 7) ((K.reg [⟨some 2, none, KO.mv (KV.c (AV.s
    []))⟩]).seq K.ret) K.skip)).seq ((K.dreg [⟨some 8, none, KO.mv (KV.t 3)⟩, ⟨some 9, none, KO.bin BinOp.shr (KV.t 8) (KV.c (AV.i IntKind.u64 24))⟩, ⟨some 10, none, KO.conv (KC.int
    IntKind.u8) (KV.t 9)⟩, ⟨some 11, none, KO.mv (KV.t 3)⟩, ⟨some 12, none, KO.bin BinOp.shr (KV.t 11) (KV.c (AV.i IntKind.u64 16))⟩, ⟨some 13, none, KO.conv (KC.int IntKind.u8)
    (KV.t 12)⟩, ⟨some 14, none, KO.mv (KV.t 3)⟩, ⟨some 15, none, KO.bin BinOp.shr (KV.t 14) (KV.c (AV.i IntKind.u64 8))⟩, ⟨some 16, none, KO.conv (KC.int IntKind.u8) (KV.t 15)⟩,
    ⟨some 17, none, KO.mv (KV.t 3)⟩, ⟨some 18, none, KO.conv (KC.int IntKind.u8) (KV.t 17)⟩, ⟨some 19, none, KO.bslice 1 4 [AV.i IntKind.u8 0] [(0, KV.t 10), (1, KV.t 13), (2, KV.t
    16), (3, KV.t 18)]⟩, ⟨some 20, none, KO.conv KC.b2s (KV.t 19)⟩, ⟨some 21, none, KO.mv (KV.t 0)⟩, ⟨some 22, none, KO.call0 (KV.f 60) [KV.t 21]⟩, ⟨some 23, none, KO.bin BinOp.add
    (KV.t 20) (KV.t 22)⟩, ⟨some 24, none, KO.mv (KV.t 0)⟩, ⟨some 25, none, KO.bin BinOp.add (KV.t 23) (KV.t 24)⟩, ⟨some 2, none, KO.mv (KV.t 25)⟩] [[], [0], [1], [], [3], [4], [],
    [6], [7], [], [9], [2, 5, 8, 10], [11], [], [13], [12, 14], [], [15, 16], [17, 14, 0, 1, 2, 3, 4, 5, 6, 7, 8, 9, 10, 11, 12, 13, 14, 15, 16, 17]]).seq K.ret))),
  by kernel_rfl⟩
def k17 : { k : K // comp Go.Proofs.Try.prog Go.Proofs.Try.f17.ntmps (fun _ => false) (Go.Proofs.Try.f17.body.getD .skip) = k } := ⟨
 (K.reg [⟨some 2, none, KO.mv (KV.c (AV.s []))⟩]).seq ((K.reg [⟨some 6, none, KO.mv (KV.t 0)⟩, ⟨some 7, none, KO.len true (KV.t 6)⟩, ⟨some 3, none, KO.mv (KV.t 7)⟩]).seq (((K.reg
    [⟨some 8, none, KO.mv (KV.t 3)⟩, ⟨some 9, none, KO.bin BinOp.gtr (KV.t 8) (KV.c (AV.i IntKind.i64 100000))⟩]).seq (K.cond (KV.t 9) ((K.reg [⟨some 2, none, KO.mv (KV.c (AV.s
    []))⟩]).seq K.ret) K.skip)).seq ((K.reg [⟨some 10, none, KO.mv (KV.t 0)⟩, ⟨some 11, none, KO.call (KV.f 61) [KV.t 10]⟩, ⟨some 4, none, KO.mv (KV.t 11)⟩]).seq ((K.reg [⟨some 12,
    none, KO.mv (KV.t 3)⟩, ⟨some 13, none, KO.bin BinOp.shr (KV.t 12) (KV.c (AV.i IntKind.u64 24))⟩, ⟨some 14, none, KO.conv (KC.int IntKind.u8) (KV.t 13)⟩, ⟨some 15, none, KO.mv
    (KV.t 3)⟩, ⟨some 16, none, KO.bin BinOp.shr (KV.t 15) (KV.c (AV.i IntKind.u64 16))⟩, ⟨some 17, none, KO.conv (KC.int IntKind.u8) (KV.t 16)⟩, ⟨some 18, none, KO.mv (KV.t 3)⟩,
    ⟨some 19, none, KO.bin BinOp.shr (KV.t 18) (KV.c (AV.i IntKind.u64 8))⟩, ⟨some 20, none, KO.conv (KC.int IntKind.u8) (KV.t 19)⟩, ⟨some 21, none, KO.mv (KV.t 3)⟩, ⟨some 22, none,
    KO.conv (KC.int IntKind.u8) (KV.t 21)⟩, ⟨some 23, none, KO.mv (KV.t 4)⟩, ⟨some 24, none, KO.conv (KC.int IntKind.u8) (KV.t 23)⟩, ⟨some 25, none, KO.mv (KV.t 4)⟩, ⟨some 26, none,
    KO.bin BinOp.shr (KV.t 25) (KV.c (AV.i IntKind.u64 8))⟩, ⟨some 27, none, KO.conv (KC.int IntKind.u8) (KV.t 26)⟩, ⟨some 28, none, KO.mv (KV.t 4)⟩, ⟨some 29, none, KO.bin
    BinOp.shr (KV.t 28) (KV.c (AV.i IntKind.u64 16))⟩, ⟨some 30, none, KO.conv (KC.int IntKind.u8) (KV.t 29)⟩, ⟨some 31, none, KO.mv (KV.t 4)⟩, ⟨some 32, none, KO.bin BinOp.shr
    (KV.t 31) (KV.c (AV.i IntKind.u64 24))⟩, ⟨some 33, none, KO.conv (KC.int IntKind.u8) (KV.t 32)⟩, ⟨some 34, none, KO.bslice 1 8 [AV.i IntKind.u8 0] [(0, KV.t 14), (1, KV.t 17),
    (2, KV.t 20), (3, KV.t 22), (4, KV.t 24), (5, KV.t 27), (6, KV.t 30), (7, KV.t 33)]⟩, ⟨some 5, none, KO.mv (KV.t 34)⟩]).seq ((K.reg [⟨some 35, none, KO.mv (KV.t 5)⟩, ⟨some 36,
    none, KO.conv KC.b2s (KV.t 35)⟩, ⟨some 37, none, KO.mv (KV.t 0)⟩, ⟨some 38, none, KO.bin BinOp.add (KV.t 36) (KV.t 37)⟩, ⟨some 2, none, KO.mv (KV.t 38)⟩]).seq K.ret))))),
  by kernel_rfl⟩
def k60 : { k : K // comp Go.Proofs.Try.prog Go.Proofs.Try.f60.ntmps (fun _ => false) (Go.Proofs.Try.f60.body.getD .skip) = k } := ⟨
 (K.reg [⟨some 2, none, KO.mv (KV.c (AV.s []))⟩]).seq ((K.reg [⟨some 3, none, KO.mv (KV.c (AV.i IntKind.u32 4294967295))⟩]).seq (((K.reg [⟨some 4, none, KO.mv (KV.c (AV.i
    IntKind.i64 0))⟩]).seq (K.block 0 (((K.reg [⟨some 6, none, KO.mv (KV.t 4)⟩, ⟨some 7, none, KO.mv (KV.t 0)⟩, ⟨some 8, none, KO.len true (KV.t 7)⟩, ⟨some 9, none, KO.bin BinOp.lss
    (KV.t 6) (KV.t 8)⟩]).seq (K.cond (KV.t 9) K.skip (K.exit 0))).seq ((K.block 1 ((K.reg [⟨some 12, none, KO.mv (KV.t 3)⟩, ⟨some 13, none, KO.mv (KV.t 0)⟩, ⟨some 14, none, KO.mv
    (KV.t 4)⟩, ⟨some 15, none, KO.ids (KV.t 13) (KV.t 14)⟩, ⟨some 16, none, KO.conv (KC.int IntKind.u32) (KV.t 15)⟩, ⟨some 17, none, KO.bin BinOp.xor (KV.t 12) (KV.t 16)⟩, ⟨some 3,
    none, KO.mv (KV.t 17)⟩]).seq ((K.reg [⟨some 5, none, KO.mv (KV.c (AV.i IntKind.i64 0))⟩]).seq (K.block 2 (((K.reg [⟨some 18, none, KO.mv (KV.t 5)⟩, ⟨some 19, none, KO.bin
    BinOp.lss (KV.t 18) (KV.c (AV.i IntKind.i64 8))⟩]).seq (K.cond (KV.t 19) K.skip (K.exit 2))).seq ((K.block 3 ((K.reg [⟨some 22, none, KO.mv (KV.t 3)⟩, ⟨some 23, none, KO.bin
    BinOp.rem (KV.t 22) (KV.c (AV.i IntKind.u32 2))⟩, ⟨some 24, none, KO.bin BinOp.eql (KV.t 23) (KV.c (AV.i IntKind.u32 1))⟩]).seq (K.cond (KV.t 24) (K.reg [⟨some 25, none, KO.mv
    (KV.t 3)⟩, ⟨some 26, none, KO.bin BinOp.shr (KV.t 25) (KV.c (AV.i IntKind.u64 1))⟩, ⟨some 27, none, KO.bin BinOp.xor (KV.t 26) (KV.c (AV.i IntKind.u32 3988292384))⟩, ⟨some 3,
    none, KO.mv (KV.t 27)⟩]) (K.reg [⟨some 28, none, KO.mv (KV.t 3)⟩, ⟨some 29, none, KO.bin BinOp.shr (KV.t 28) (KV.c (AV.i IntKind.u64 1))⟩, ⟨some 3, none, KO.mv (KV.t
    29)⟩])))).seq (K.reg [⟨some 20, none, KO.mv (KV.t 5)⟩, ⟨some 21, none, KO.bin BinOp.add (KV.t 20) (KV.c (AV.i IntKind.i64 1))⟩, ⟨some 5, none, KO.mv (KV.t 21)⟩]))).loop)))).seq
    (K.reg [⟨some 10, none, KO.mv (KV.t 4)⟩, ⟨some 11, none, KO.bin BinOp.add (KV.t 10) (KV.c (AV.i IntKind.i64 1))⟩, ⟨some 4, none, KO.mv (KV.t 11)⟩]))).loop)).seq ((K.reg [⟨some
    30, none, KO.mv (KV.t 3)⟩, ⟨some 31, none, KO.un UnOp.xor (KV.t 30)⟩, ⟨some 3, none, KO.mv (KV.t 31)⟩]).seq ((K.reg [⟨some 32, none, KO.mv (KV.t 3)⟩, ⟨some 33, none, KO.conv
    (KC.int IntKind.u8) (KV.t 32)⟩, ⟨some 34, none, KO.mv (KV.t 3)⟩, ⟨some 35, none, KO.bin BinOp.shr (KV.t 34) (KV.c (AV.i IntKind.u64 8))⟩, ⟨some 36, none, KO.conv (KC.int
    IntKind.u8) (KV.t 35)⟩, ⟨some 37, none, KO.mv (KV.t 3)⟩, ⟨some 38, none, KO.bin BinOp.shr (KV.t 37) (KV.c (AV.i IntKind.u64 16))⟩, ⟨some 39, none, KO.conv (KC.int IntKind.u8)
    (KV.t 38)⟩, ⟨some 40, none, KO.mv (KV.t 3)⟩, ⟨some 41, none, KO.bin BinOp.shr (KV.t 40) (KV.c (AV.i IntKind.u64 24))⟩, ⟨some 42, none, KO.conv (KC.int IntKind.u8) (KV.t 41)⟩,
    ⟨some 43, none, KO.bslice 1 4 [AV.i IntKind.u8 0] [(0, KV.t 33), (1, KV.t 36), (2, KV.t 39), (3, KV.t 42)]⟩, ⟨some 44, none, KO.conv KC.b2s (KV.t 43)⟩, ⟨some 2, none, KO.mv
    (KV.t 44)⟩]).seq K.ret)))),
  by kernel_rfl⟩
def k61 : { k : K // comp Go.Proofs.Try.prog Go.Proofs.Try.f61.ntmps (fun _ => false) (Go.Proofs.Try.f61.body.getD .skip) = k } := ⟨
 (K.reg [⟨some 2, none, KO.mv (KV.c (AV.i IntKind.u32 0))⟩]).seq ((K.reg [⟨some 3, none, KO.mv (KV.c (AV.i IntKind.u32 4294967295))⟩]).seq (((K.reg [⟨some 6, none, KO.mv (KV.t 0)⟩,
    ⟨some 7, none, KO.len true (KV.t 6)⟩, ⟨some 8, none, KO.mv (KV.c (AV.i IntKind.i64 0))⟩]).seq (K.block 0 ((K.reg [⟨some 9, none, KO.bin BinOp.lss (KV.t 8) (KV.t 7)⟩]).seq
    ((K.cond (KV.t 9) K.skip (K.exit 0)).seq ((K.block 1 ((K.reg [⟨some 10, none, KO.mv (KV.t 8)⟩, ⟨some 4, none, KO.mv (KV.t 10)⟩]).seq ((K.reg [⟨some 11, none, KO.mv (KV.t 3)⟩,
    ⟨some 12, none, KO.mv (KV.t 0)⟩, ⟨some 13, none, KO.mv (KV.t 4)⟩, ⟨some 14, none, KO.ids (KV.t 12) (KV.t 13)⟩, ⟨some 15, none, KO.conv (KC.int IntKind.u32) (KV.t 14)⟩, ⟨some 16,
    none, KO.bin BinOp.xor (KV.t 11) (KV.t 15)⟩, ⟨some 3, none, KO.mv (KV.t 16)⟩]).seq ((K.reg [⟨some 17, none, KO.mv (KV.c (AV.i IntKind.i64 0))⟩]).seq (K.block 2 ((K.reg [⟨some
    18, none, KO.bin BinOp.lss (KV.t 17) (KV.c (AV.i IntKind.i64 8))⟩]).seq ((K.cond (KV.t 18) K.skip (K.exit 2)).seq ((K.block 3 ((K.reg [⟨some 19, none, KO.mv (KV.t 3)⟩, ⟨some 20,
    none, KO.bin BinOp.and (KV.t 19) (KV.c (AV.i IntKind.u32 1))⟩, ⟨some 5, none, KO.mv (KV.t 20)⟩]).seq ((K.reg [⟨some 21, none, KO.mv (KV.t 3)⟩, ⟨some 22, none, KO.bin BinOp.shr
    (KV.t 21) (KV.c (AV.i IntKind.u64 1))⟩, ⟨some 3, none, KO.mv (KV.t 22)⟩]).seq ((K.reg [⟨some 23, none, KO.mv (KV.t 5)⟩, ⟨some 24, none, KO.bin BinOp.eql (KV.t 23) (KV.c (AV.i
    IntKind.u32 1))⟩]).seq (K.cond (KV.t 24) (K.reg [⟨some 25, none, KO.mv (KV.t 3)⟩, ⟨some 26, none, KO.bin BinOp.xor (KV.t 25) (KV.c (AV.i IntKind.u32 3988292384))⟩, ⟨some 3,
    none, KO.mv (KV.t 26)⟩]) K.skip))))).seq (K.reg [⟨some 27, none, KO.bin BinOp.add (KV.t 17) (KV.c (AV.i IntKind.i64 1))⟩, ⟨some 17, none, KO.mv (KV.t 27)⟩])))).loop))))).seq
    (K.reg [⟨some 28, none, KO.bin BinOp.add (KV.t 8) (KV.c (AV.i IntKind.i64 1))⟩, ⟨some 8, none, KO.mv (KV.t 28)⟩])))).loop)).seq ((K.reg [⟨some 29, none, KO.mv (KV.t 3)⟩, ⟨some
    30, none, KO.un UnOp.xor (KV.t 29)⟩, ⟨some 2, none, KO.mv (KV.t 30)⟩]).seq K.ret))),
  by kernel_rfl⟩
end FrA
