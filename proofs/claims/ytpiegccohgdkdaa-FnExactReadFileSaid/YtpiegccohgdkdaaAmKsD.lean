/- The programs of some functions. No condition. -/
import Derived.Test.YtpiegccohgdkdaaProg
import Derived.Test.YtpiegccohgdkdaaAmFuns
import Derived.Test.YtpiegccohgdkdaaAmSeat
import Derived.StillTailTactics
set_option linter.all false
set_option linter.unusedSimpArgs false
set_option linter.unusedVariables false
set_option linter.deprecated false
/-! KsD -/
open Go Go.AM
namespace FrA
set_option maxRecDepth 100000
def k35 : { k : K // comp Go.Proofs.Try.prog Go.Proofs.Try.f35.ntmps hintT (Go.Proofs.Try.f35.body.getD .skip) = k } := ⟨
 (K.reg [⟨some 1, none, KO.box (KV.t 0)⟩, ⟨some 2, none, KO.mv (KV.c (AV.b false))⟩]).seq (((K.reg [⟨some 8, none, KO.fld 0 (KV.t 1)⟩, ⟨some 9, none, KO.load false 1 (KV.t 8)⟩,
    ⟨some 10, none, KO.call (KV.f 78) [KV.t 9]⟩, ⟨some 11, none, KO.un UnOp.not (KV.t 10)⟩, ⟨some 12, none, KO.mv (KV.t 11)⟩, ⟨some 13, some (12, false), KO.fld 1 (KV.t 1)⟩, ⟨some
    14, some (12, false), KO.load false 1 (KV.t 13)⟩, ⟨some 15, some (12, false), KO.call (KV.f 78) [KV.t 14]⟩, ⟨some 16, some (12, false), KO.un UnOp.not (KV.t 15)⟩, ⟨some 17,
    none, KO.pick (KV.t 12) (KV.c (AV.b true)) (KV.t 16)⟩, ⟨some 18, none, KO.mv (KV.t 17)⟩, ⟨some 19, some (18, false), KO.fld 2 (KV.t 1)⟩, ⟨some 20, some (18, false), KO.load
    false 1 (KV.t 19)⟩, ⟨some 21, some (18, false), KO.len false (KV.t 20)⟩, ⟨some 22, some (18, false), KO.bin BinOp.gtr (KV.t 21) (KV.c (AV.i IntKind.i64 200))⟩, ⟨some 23, none,
    KO.pick (KV.t 18) (KV.c (AV.b true)) (KV.t 22)⟩]).seq (K.cond (KV.t 23) ((K.reg [⟨some 2, none, KO.mv (KV.c (AV.b false))⟩]).seq K.ret) K.skip)).seq ((K.reg [⟨some 24, none,
    KO.fld 1 (KV.t 1)⟩, ⟨some 25, none, KO.load false 1 (KV.t 24)⟩, ⟨some 3, none, KO.mv (KV.t 25)⟩]).seq (((K.reg [⟨some 26, none, KO.fld 2 (KV.t 1)⟩, ⟨some 27, none, KO.load false
    1 (KV.t 26)⟩, ⟨some 28, none, KO.len false (KV.t 27)⟩, ⟨some 29, none, KO.mv (KV.c (AV.i IntKind.i64 0))⟩]).seq (K.block 0 ((K.reg [⟨some 30, none, KO.bin BinOp.lss (KV.t 29)
    (KV.t 28)⟩]).seq ((K.cond (KV.t 30) K.skip (K.exit 0)).seq ((K.block 1 ((K.reg [⟨some 31, none, KO.idx 4 (KV.t 27) (KV.t 29)⟩, ⟨some 32, none, KO.load true 4 (KV.t 31)⟩, ⟨some
    5, none, KO.alloc [AV.i IntKind.i64 0, AV.s [], AV.s [], AV.s []]⟩, ⟨none, none, KO.store 4 (KV.t 5) (KV.t 32)⟩]).seq ((K.reg [⟨some 33, none, KO.load true 4 (KV.t 5)⟩, ⟨some
    34, none, KO.call (KV.f 79) [KV.t 33]⟩, ⟨some 6, none, KO.mv (KV.c AV.nils)⟩, ⟨some 7, none, KO.mv (KV.t 34)⟩]).seq (((K.reg [⟨some 35, none, KO.mv (KV.t 7)⟩]).seq (K.cond (KV.t
    35) (K.reg [⟨some 37, none, KO.mv (KV.t 3)⟩, ⟨some 38, none, KO.load true 4 (KV.t 5)⟩, ⟨some 39, none, KO.call (KV.f 80) [KV.t 37, KV.t 38]⟩, ⟨some 36, none, KO.mv (KV.t 39)⟩,
    ⟨some 40, none, KO.ext (KV.t 36) 0⟩, ⟨some 41, none, KO.ext (KV.t 36) 1⟩, ⟨some 6, none, KO.mv (KV.t 40)⟩, ⟨some 7, none, KO.mv (KV.t 41)⟩]) K.skip)).seq (((K.reg [⟨some 42,
    none, KO.mv (KV.t 7)⟩, ⟨some 43, none, KO.un UnOp.not (KV.t 42)⟩, ⟨some 44, none, KO.mv (KV.t 43)⟩, ⟨some 45, some (44, false), KO.mv (KV.t 6)⟩, ⟨some 46, some (44, false),
    KO.call (KV.f 78) [KV.t 45]⟩, ⟨some 47, some (44, false), KO.un UnOp.not (KV.t 46)⟩, ⟨some 48, none, KO.pick (KV.t 44) (KV.c (AV.b true)) (KV.t 47)⟩]).seq (K.cond (KV.t 48)
    ((K.reg [⟨some 2, none, KO.mv (KV.c (AV.b false))⟩]).seq K.ret) K.skip)).seq (K.reg [⟨some 49, none, KO.mv (KV.t 6)⟩, ⟨some 3, none, KO.mv (KV.t 49)⟩])))))).seq (K.reg [⟨some
    50, none, KO.bin BinOp.add (KV.t 29) (KV.c (AV.i IntKind.i64 1))⟩, ⟨some 29, none, KO.mv (KV.t 50)⟩])))).loop)).seq ((K.reg [⟨some 51, none, KO.mv (KV.t 3)⟩, ⟨some 52, none,
    KO.fld 0 (KV.t 1)⟩, ⟨some 53, none, KO.load false 1 (KV.t 52)⟩, ⟨some 54, none, KO.call (KV.f 81) [KV.t 51, KV.t 53]⟩, ⟨some 2, none, KO.mv (KV.t 54)⟩]).seq K.ret)))),
  by kernel_rfl⟩
def k36 : { k : K // comp Go.Proofs.Try.prog Go.Proofs.Try.f36.ntmps hintT (Go.Proofs.Try.f36.body.getD .skip) = k } := ⟨
 (K.reg [⟨some 1, none, KO.box (KV.t 0)⟩, ⟨some 2, none, KO.mv (KV.c (AV.b false))⟩]).seq (((K.reg [⟨some 7, none, KO.fld 0 (KV.t 1)⟩, ⟨some 8, none, KO.load false 1 (KV.t 7)⟩,
    ⟨some 9, none, KO.call (KV.f 82) [KV.t 8]⟩, ⟨some 10, none, KO.un UnOp.not (KV.t 9)⟩, ⟨some 11, none, KO.mv (KV.t 10)⟩, ⟨some 12, some (11, false), KO.fld 1 (KV.t 1)⟩, ⟨some 13,
    some (11, false), KO.load false 1 (KV.t 12)⟩, ⟨some 14, some (11, false), KO.call (KV.f 82) [KV.t 13]⟩, ⟨some 15, some (11, false), KO.un UnOp.not (KV.t 14)⟩, ⟨some 16, none,
    KO.pick (KV.t 11) (KV.c (AV.b true)) (KV.t 15)⟩, ⟨some 17, none, KO.mv (KV.t 16)⟩, ⟨some 18, some (17, false), KO.fld 2 (KV.t 1)⟩, ⟨some 19, some (17, false), KO.load false 1
    (KV.t 18)⟩, ⟨some 20, some (17, false), KO.len false (KV.t 19)⟩, ⟨some 21, some (17, false), KO.bin BinOp.gtr (KV.t 20) (KV.c (AV.i IntKind.i64 200))⟩, ⟨some 22, none, KO.pick
    (KV.t 17) (KV.c (AV.b true)) (KV.t 21)⟩]).seq (K.cond (KV.t 22) ((K.reg [⟨some 2, none, KO.mv (KV.c (AV.b false))⟩]).seq K.ret) K.skip)).seq ((K.reg [⟨some 23, none, KO.fld 1
    (KV.t 1)⟩, ⟨some 24, none, KO.load false 1 (KV.t 23)⟩, ⟨some 3, none, KO.mv (KV.t 24)⟩]).seq (((K.reg [⟨some 4, none, KO.mv (KV.c (AV.i IntKind.i64 0))⟩]).seq (K.block 0
    (((K.reg [⟨some 25, none, KO.mv (KV.t 4)⟩, ⟨some 26, none, KO.fld 2 (KV.t 1)⟩, ⟨some 27, none, KO.load false 1 (KV.t 26)⟩, ⟨some 28, none, KO.len false (KV.t 27)⟩, ⟨some 29,
    none, KO.bin BinOp.lss (KV.t 25) (KV.t 28)⟩]).seq (K.cond (KV.t 29) K.skip (K.exit 0))).seq ((K.block 1 ((K.reg [⟨some 33, none, KO.mv (KV.t 3)⟩, ⟨some 34, none, KO.fld 2 (KV.t
    1)⟩, ⟨some 35, none, KO.load false 1 (KV.t 34)⟩, ⟨some 36, none, KO.mv (KV.t 4)⟩, ⟨some 37, none, KO.idx 4 (KV.t 35) (KV.t 36)⟩, ⟨some 38, none, KO.load true 4 (KV.t 37)⟩, ⟨some
    39, none, KO.call (KV.f 83) [KV.t 33, KV.t 38]⟩, ⟨some 32, none, KO.mv (KV.t 39)⟩, ⟨some 40, none, KO.ext (KV.t 32) 0⟩, ⟨some 41, none, KO.ext (KV.t 32) 1⟩, ⟨some 5, none, KO.mv
    (KV.t 40)⟩, ⟨some 6, none, KO.mv (KV.t 41)⟩]).seq (((K.reg [⟨some 42, none, KO.mv (KV.t 6)⟩, ⟨some 43, none, KO.un UnOp.not (KV.t 42)⟩, ⟨some 44, none, KO.mv (KV.t 43)⟩, ⟨some
    45, some (44, false), KO.fld 2 (KV.t 1)⟩, ⟨some 46, some (44, false), KO.load false 1 (KV.t 45)⟩, ⟨some 47, some (44, false), KO.mv (KV.t 4)⟩, ⟨some 48, some (44, false), KO.idx
    4 (KV.t 46) (KV.t 47)⟩, ⟨some 49, some (44, false), KO.load true 4 (KV.t 48)⟩, ⟨some 50, some (44, false), KO.call (KV.f 84) [KV.t 49]⟩, ⟨some 51, some (44, false), KO.un
    UnOp.not (KV.t 50)⟩, ⟨some 52, none, KO.pick (KV.t 44) (KV.c (AV.b true)) (KV.t 51)⟩, ⟨some 53, none, KO.mv (KV.t 52)⟩, ⟨some 54, some (53, false), KO.mv (KV.t 5)⟩, ⟨some 55,
    some (53, false), KO.call (KV.f 82) [KV.t 54]⟩, ⟨some 56, some (53, false), KO.un UnOp.not (KV.t 55)⟩, ⟨some 57, none, KO.pick (KV.t 53) (KV.c (AV.b true)) (KV.t 56)⟩]).seq
    (K.cond (KV.t 57) ((K.reg [⟨some 2, none, KO.mv (KV.c (AV.b false))⟩]).seq K.ret) K.skip)).seq (K.reg [⟨some 58, none, KO.mv (KV.t 5)⟩, ⟨some 3, none, KO.mv (KV.t 58)⟩])))).seq
    (K.reg [⟨some 30, none, KO.mv (KV.t 4)⟩, ⟨some 31, none, KO.bin BinOp.add (KV.t 30) (KV.c (AV.i IntKind.i64 1))⟩, ⟨some 4, none, KO.mv (KV.t 31)⟩]))).loop)).seq ((K.reg [⟨some
    59, none, KO.mv (KV.t 3)⟩, ⟨some 60, none, KO.fld 0 (KV.t 1)⟩, ⟨some 61, none, KO.load false 1 (KV.t 60)⟩, ⟨some 62, none, KO.call (KV.f 85) [KV.t 59, KV.t 61]⟩, ⟨some 2, none,
    KO.mv (KV.t 62)⟩]).seq K.ret)))),
  by kernel_rfl⟩
def k78 : { k : K // comp Go.Proofs.Try.prog Go.Proofs.Try.f78.ntmps hintT (Go.Proofs.Try.f78.body.getD .skip) = k } := ⟨
 (K.reg [⟨some 2, none, KO.mv (KV.c (AV.b false))⟩]).seq ((K.reg [⟨some 3, none, KO.mv (KV.c (AV.i IntKind.i64 0))⟩]).seq (((K.reg [⟨some 6, none, KO.mv (KV.t 0)⟩, ⟨some 7, none,
    KO.len false (KV.t 6)⟩, ⟨some 8, none, KO.mv (KV.c (AV.i IntKind.i64 0))⟩]).seq (K.block 0 ((K.reg [⟨some 9, none, KO.bin BinOp.lss (KV.t 8) (KV.t 7)⟩]).seq ((K.cond (KV.t 9)
    K.skip (K.exit 0)).seq ((K.block 1 ((K.reg [⟨some 10, none, KO.mv (KV.t 8)⟩, ⟨some 11, none, KO.idx 2 (KV.t 6) (KV.t 8)⟩, ⟨some 12, none, KO.load true 2 (KV.t 11)⟩, ⟨some 5,
    none, KO.alloc [AV.s [], AV.s []]⟩, ⟨some 4, none, KO.mv (KV.t 10)⟩, ⟨none, none, KO.store 2 (KV.t 5) (KV.t 12)⟩]).seq ((K.reg [⟨some 13, none, KO.mv (KV.t 3)⟩, ⟨some 14, none,
    KO.fld 1 (KV.t 5)⟩, ⟨some 15, none, KO.load false 1 (KV.t 14)⟩, ⟨some 16, none, KO.len true (KV.t 15)⟩, ⟨some 17, none, KO.bin BinOp.add (KV.t 13) (KV.t 16)⟩, ⟨some 3, none,
    KO.mv (KV.t 17)⟩]).seq ((K.dreg [⟨some 18, none, KO.mv (KV.t 4)⟩, ⟨some 19, none, KO.bin BinOp.eql (KV.t 18) (KV.c (AV.i IntKind.i64 60))⟩, ⟨some 20, none, KO.mv (KV.t 19)⟩,
    ⟨some 21, some (20, false), KO.mv (KV.t 3)⟩, ⟨some 22, some (20, false), KO.bin BinOp.gtr (KV.t 21) (KV.c (AV.i IntKind.i64 200000))⟩, ⟨some 23, none, KO.pick (KV.t 20) (KV.c
    (AV.b true)) (KV.t 22)⟩, ⟨some 24, none, KO.mv (KV.t 23)⟩, ⟨some 25, some (24, false), KO.fld 0 (KV.t 5)⟩, ⟨some 26, some (24, false), KO.load false 1 (KV.t 25)⟩, ⟨some 27, some
    (24, false), KO.call0 (KV.f 117) [KV.t 26]⟩, ⟨some 28, some (24, false), KO.un UnOp.not (KV.t 27)⟩, ⟨some 29, none, KO.pick (KV.t 24) (KV.c (AV.b true)) (KV.t 28)⟩, ⟨some 30,
    none, KO.mv (KV.t 29)⟩, ⟨some 31, some (30, false), KO.mv (KV.t 4)⟩, ⟨some 32, some (30, false), KO.bin BinOp.gtr (KV.t 31) (KV.c (AV.i IntKind.i64 0))⟩, ⟨some 33, some (30,
    false), KO.mv (KV.t 32)⟩, ⟨some 34, some (33, true), KO.mv (KV.t 0)⟩, ⟨some 35, some (33, true), KO.mv (KV.t 4)⟩, ⟨some 36, some (33, true), KO.bin BinOp.sub (KV.t 35) (KV.c
    (AV.i IntKind.i64 1))⟩, ⟨some 37, some (33, true), KO.idx 2 (KV.t 34) (KV.t 36)⟩, ⟨some 38, some (33, true), KO.fld 0 (KV.t 37)⟩, ⟨some 39, some (33, true), KO.load false 1
    (KV.t 38)⟩, ⟨some 40, some (33, true), KO.fld 0 (KV.t 5)⟩, ⟨some 41, some (33, true), KO.load false 1 (KV.t 40)⟩, ⟨some 42, some (33, true), KO.bin BinOp.geq (KV.t 39) (KV.t
    41)⟩, ⟨some 43, some (30, false), KO.pick (KV.t 33) (KV.t 42) (KV.c (AV.b false))⟩, ⟨some 44, none, KO.pick (KV.t 30) (KV.c (AV.b true)) (KV.t 43)⟩] [[], [0], [1], [2], [3, 2],
    [2, 4], [5, 2], [6], [7, 6], [8, 6, 6], [9, 6], [6, 10], [11, 9], [12], [13, 12], [14, 12, 12], [15], [15], [17, 15], [16, 18, 15], [19, 15], [20, 15], [15], [22, 15], [21, 23,
    15], [15, 24, 12], [12, 25]]).seq (K.cond (KV.t 44) ((K.reg [⟨some 2, none, KO.mv (KV.c (AV.b false))⟩]).seq K.ret) K.skip))))).seq (K.reg [⟨some 45, none, KO.bin BinOp.add
    (KV.t 8) (KV.c (AV.i IntKind.i64 1))⟩, ⟨some 8, none, KO.mv (KV.t 45)⟩])))).loop)).seq ((K.reg [⟨some 2, none, KO.mv (KV.c (AV.b true))⟩]).seq K.ret))),
  by kernel_rfl⟩
def k79 : { k : K // comp Go.Proofs.Try.prog Go.Proofs.Try.f79.ntmps hintT (Go.Proofs.Try.f79.body.getD .skip) = k } := ⟨
 (K.reg [⟨some 1, none, KO.box (KV.t 0)⟩, ⟨some 2, none, KO.mv (KV.c (AV.b false))⟩]).seq (((K.reg [⟨some 3, none, KO.fld 0 (KV.t 1)⟩, ⟨some 4, none, KO.load false 1 (KV.t 3)⟩]).seq
    (K.block 0 ((K.reg [⟨some 6, none, KO.bin BinOp.eql (KV.t 4) (KV.c (AV.i IntKind.i64 1))⟩, ⟨some 5, none, KO.mv (KV.t 6)⟩]).seq (K.cond (KV.t 5) ((K.reg [⟨some 7, none, KO.fld 1
    (KV.t 1)⟩, ⟨some 8, none, KO.load false 1 (KV.t 7)⟩, ⟨some 9, none, KO.call (KV.f 117) [KV.t 8]⟩, ⟨some 10, none, KO.mv (KV.t 9)⟩, ⟨some 11, some (10, true), KO.fld 2 (KV.t 1)⟩,
    ⟨some 12, some (10, true), KO.load false 1 (KV.t 11)⟩, ⟨some 13, some (10, true), KO.bin BinOp.eql (KV.t 12) (KV.c (AV.s []))⟩, ⟨some 14, none, KO.pick (KV.t 10) (KV.t 13) (KV.c
    (AV.b false))⟩, ⟨some 2, none, KO.mv (KV.t 14)⟩]).seq K.ret) ((K.reg [⟨some 16, none, KO.bin BinOp.eql (KV.t 4) (KV.c (AV.i IntKind.i64 2))⟩, ⟨some 15, none, KO.mv (KV.t
    16)⟩]).seq (K.cond (KV.t 15) ((K.reg [⟨some 17, none, KO.fld 1 (KV.t 1)⟩, ⟨some 18, none, KO.load false 1 (KV.t 17)⟩, ⟨some 19, none, KO.call (KV.f 117) [KV.t 18]⟩, ⟨some 20,
    none, KO.mv (KV.t 19)⟩, ⟨some 21, some (20, true), KO.fld 2 (KV.t 1)⟩, ⟨some 22, some (20, true), KO.load false 1 (KV.t 21)⟩, ⟨some 23, some (20, true), KO.call (KV.f 117) [KV.t
    22]⟩, ⟨some 24, none, KO.pick (KV.t 20) (KV.t 23) (KV.c (AV.b false))⟩, ⟨some 25, none, KO.mv (KV.t 24)⟩, ⟨some 26, some (25, true), KO.fld 3 (KV.t 1)⟩, ⟨some 27, some (25,
    true), KO.load false 1 (KV.t 26)⟩, ⟨some 28, some (25, true), KO.bin BinOp.eql (KV.t 27) (KV.c (AV.s []))⟩, ⟨some 29, none, KO.pick (KV.t 25) (KV.t 28) (KV.c (AV.b false))⟩,
    ⟨some 2, none, KO.mv (KV.t 29)⟩]).seq K.ret) K.skip)))))).seq ((K.reg [⟨some 30, none, KO.fld 0 (KV.t 1)⟩, ⟨some 31, none, KO.load false 1 (KV.t 30)⟩, ⟨some 32, none, KO.bin
    BinOp.eql (KV.t 31) (KV.c (AV.i IntKind.i64 3))⟩, ⟨some 33, none, KO.mv (KV.t 32)⟩, ⟨some 34, some (33, true), KO.fld 1 (KV.t 1)⟩, ⟨some 35, some (33, true), KO.load false 1
    (KV.t 34)⟩, ⟨some 36, some (33, true), KO.call (KV.f 117) [KV.t 35]⟩, ⟨some 37, none, KO.pick (KV.t 33) (KV.t 36) (KV.c (AV.b false))⟩, ⟨some 38, none, KO.mv (KV.t 37)⟩, ⟨some
    39, some (38, true), KO.fld 2 (KV.t 1)⟩, ⟨some 40, some (38, true), KO.load false 1 (KV.t 39)⟩, ⟨some 41, some (38, true), KO.bin BinOp.eql (KV.t 40) (KV.c (AV.s []))⟩, ⟨some
    42, none, KO.pick (KV.t 38) (KV.t 41) (KV.c (AV.b false))⟩, ⟨some 43, none, KO.mv (KV.t 42)⟩, ⟨some 44, some (43, true), KO.fld 3 (KV.t 1)⟩, ⟨some 45, some (43, true), KO.load
    false 1 (KV.t 44)⟩, ⟨some 46, some (43, true), KO.bin BinOp.eql (KV.t 45) (KV.c (AV.s []))⟩, ⟨some 47, none, KO.pick (KV.t 43) (KV.t 46) (KV.c (AV.b false))⟩, ⟨some 2, none,
    KO.mv (KV.t 47)⟩]).seq K.ret)),
  by kernel_rfl⟩
def k80 : { k : K // comp Go.Proofs.Try.prog Go.Proofs.Try.f80.ntmps hintT (Go.Proofs.Try.f80.body.getD .skip) = k } := ⟨
 (K.reg [⟨some 3, none, KO.box (KV.t 1)⟩, ⟨some 4, none, KO.mv (KV.c AV.nils)⟩, ⟨some 5, none, KO.mv (KV.c (AV.b false))⟩]).seq ((K.reg [⟨some 12, none, KO.mv (KV.t 0)⟩, ⟨some 13,
    none, KO.fld 1 (KV.t 3)⟩, ⟨some 14, none, KO.load false 1 (KV.t 13)⟩, ⟨some 15, none, KO.call (KV.f 118) [KV.t 12, KV.t 14]⟩, ⟨some 11, none, KO.mv (KV.t 15)⟩, ⟨some 16, none,
    KO.ext (KV.t 11) 0⟩, ⟨some 17, none, KO.ext (KV.t 11) 1⟩, ⟨some 6, none, KO.mv (KV.t 16)⟩, ⟨some 7, none, KO.mv (KV.t 17)⟩]).seq (((K.reg [⟨some 18, none, KO.fld 0 (KV.t 3)⟩,
    ⟨some 19, none, KO.load false 1 (KV.t 18)⟩, ⟨some 20, none, KO.bin BinOp.eql (KV.t 19) (KV.c (AV.i IntKind.i64 1))⟩]).seq (K.cond (KV.t 20) ((K.reg [⟨some 21, none, KO.fld 3
    (KV.t 3)⟩, ⟨some 22, none, KO.load false 1 (KV.t 21)⟩, ⟨some 8, none, KO.mv (KV.t 22)⟩]).seq (((K.reg [⟨some 23, none, KO.mv (KV.t 7)⟩]).seq (K.cond (KV.t 23) (K.reg [⟨some 24,
    none, KO.mv (KV.t 0)⟩, ⟨some 25, none, KO.mv (KV.t 6)⟩, ⟨some 26, none, KO.idx 2 (KV.t 24) (KV.t 25)⟩, ⟨some 27, none, KO.fld 1 (KV.t 26)⟩, ⟨some 28, none, KO.load false 1 (KV.t
    27)⟩, ⟨some 29, none, KO.mv (KV.t 8)⟩, ⟨some 30, none, KO.bin BinOp.add (KV.t 28) (KV.t 29)⟩, ⟨some 8, none, KO.mv (KV.t 30)⟩]) K.skip)).seq ((K.reg [⟨some 31, none, KO.mv (KV.t
    0)⟩, ⟨some 32, none, KO.fld 1 (KV.t 3)⟩, ⟨some 33, none, KO.load false 1 (KV.t 32)⟩, ⟨some 34, none, KO.mv (KV.t 8)⟩, ⟨some 35, none, KO.call (KV.f 119) [KV.t 31, KV.t 33, KV.t
    34]⟩, ⟨some 4, none, KO.mv (KV.t 35)⟩, ⟨some 5, none, KO.mv (KV.c (AV.b true))⟩]).seq K.ret))) K.skip)).seq (((K.reg [⟨some 36, none, KO.mv (KV.t 7)⟩, ⟨some 37, none, KO.un
    UnOp.not (KV.t 36)⟩]).seq (K.cond (KV.t 37) ((K.reg [⟨some 38, none, KO.mv (KV.t 0)⟩, ⟨some 4, none, KO.mv (KV.t 38)⟩, ⟨some 5, none, KO.mv (KV.c (AV.b false))⟩]).seq K.ret)
    K.skip)).seq ((K.reg [⟨some 39, none, KO.mv (KV.t 0)⟩, ⟨some 40, none, KO.mv (KV.t 6)⟩, ⟨some 41, none, KO.idx 2 (KV.t 39) (KV.t 40)⟩, ⟨some 42, none, KO.fld 1 (KV.t 41)⟩, ⟨some
    43, none, KO.load false 1 (KV.t 42)⟩, ⟨some 9, none, KO.mv (KV.t 43)⟩]).seq ((K.reg [⟨some 44, none, KO.mv (KV.t 0)⟩, ⟨some 45, none, KO.call (KV.f 87) [KV.t 44]⟩, ⟨some 46,
    none, KO.mv (KV.t 6)⟩, ⟨some 47, none, KO.mv (KV.t 6)⟩, ⟨some 48, none, KO.bin BinOp.add (KV.t 47) (KV.c (AV.i IntKind.i64 1))⟩, ⟨some 49, none, KO.call (KV.f 120) [KV.t 45,
    KV.t 46, KV.t 48]⟩, ⟨some 10, none, KO.mv (KV.t 49)⟩]).seq (((K.reg [⟨some 50, none, KO.fld 0 (KV.t 3)⟩, ⟨some 51, none, KO.load false 1 (KV.t 50)⟩, ⟨some 52, none, KO.bin
    BinOp.eql (KV.t 51) (KV.c (AV.i IntKind.i64 2))⟩]).seq (K.cond (KV.t 52) (K.reg [⟨some 53, none, KO.mv (KV.t 10)⟩, ⟨some 54, none, KO.fld 2 (KV.t 3)⟩, ⟨some 55, none, KO.load
    false 1 (KV.t 54)⟩, ⟨some 56, none, KO.mv (KV.t 9)⟩, ⟨some 57, none, KO.call (KV.f 119) [KV.t 53, KV.t 55, KV.t 56]⟩, ⟨some 10, none, KO.mv (KV.t 57)⟩]) K.skip)).seq ((K.reg
    [⟨some 58, none, KO.mv (KV.t 10)⟩, ⟨some 4, none, KO.mv (KV.t 58)⟩, ⟨some 5, none, KO.mv (KV.c (AV.b true))⟩]).seq K.ret))))))),
  by kernel_rfl⟩
def k81 : { k : K // comp Go.Proofs.Try.prog Go.Proofs.Try.f81.ntmps hintT (Go.Proofs.Try.f81.body.getD .skip) = k } := ⟨
 (K.reg [⟨some 4, none, KO.mv (KV.c (AV.b false))⟩]).seq (((K.reg [⟨some 6, none, KO.mv (KV.t 0)⟩, ⟨some 7, none, KO.len false (KV.t 6)⟩, ⟨some 8, none, KO.mv (KV.t 1)⟩, ⟨some 9,
    none, KO.len false (KV.t 8)⟩, ⟨some 10, none, KO.bin BinOp.neq (KV.t 7) (KV.t 9)⟩]).seq (K.cond (KV.t 10) ((K.reg [⟨some 4, none, KO.mv (KV.c (AV.b false))⟩]).seq K.ret)
    K.skip)).seq (((K.reg [⟨some 11, none, KO.mv (KV.t 0)⟩, ⟨some 12, none, KO.len false (KV.t 11)⟩, ⟨some 13, none, KO.mv (KV.c (AV.i IntKind.i64 0))⟩]).seq (K.block 0 ((K.reg
    [⟨some 14, none, KO.bin BinOp.lss (KV.t 13) (KV.t 12)⟩]).seq ((K.cond (KV.t 14) K.skip (K.exit 0)).seq ((K.block 1 ((K.reg [⟨some 15, none, KO.mv (KV.t 13)⟩, ⟨some 5, none,
    KO.mv (KV.t 15)⟩]).seq ((K.dreg [⟨some 16, none, KO.mv (KV.t 0)⟩, ⟨some 17, none, KO.mv (KV.t 5)⟩, ⟨some 18, none, KO.idx 2 (KV.t 16) (KV.t 17)⟩, ⟨some 19, none, KO.load true 2
    (KV.t 18)⟩, ⟨some 20, none, KO.mv (KV.t 1)⟩, ⟨some 21, none, KO.mv (KV.t 5)⟩, ⟨some 22, none, KO.idx 2 (KV.t 20) (KV.t 21)⟩, ⟨some 23, none, KO.load true 2 (KV.t 22)⟩, ⟨some 24,
    none, KO.eqt (EqT.struct [SK.str, SK.str]) true (KV.t 19) (KV.t 23)⟩] [[], [], [0, 1], [2], [], [], [4, 5], [6], [3, 7]]).seq (K.cond (KV.t 24) ((K.reg [⟨some 4, none, KO.mv
    (KV.c (AV.b false))⟩]).seq K.ret) K.skip)))).seq (K.reg [⟨some 25, none, KO.bin BinOp.add (KV.t 13) (KV.c (AV.i IntKind.i64 1))⟩, ⟨some 13, none, KO.mv (KV.t
    25)⟩])))).loop)).seq ((K.reg [⟨some 4, none, KO.mv (KV.c (AV.b true))⟩]).seq K.ret))),
  by kernel_rfl⟩
def k82 : { k : K // comp Go.Proofs.Try.prog Go.Proofs.Try.f82.ntmps hintT (Go.Proofs.Try.f82.body.getD .skip) = k } := ⟨
 (K.reg [⟨some 2, none, KO.mv (KV.c (AV.b false))⟩]).seq (((K.reg [⟨some 5, none, KO.mv (KV.t 0)⟩, ⟨some 6, none, KO.len false (KV.t 5)⟩, ⟨some 7, none, KO.bin BinOp.gtr (KV.t 6)
    (KV.c (AV.i IntKind.i64 60))⟩]).seq (K.cond (KV.t 7) ((K.reg [⟨some 2, none, KO.mv (KV.c (AV.b false))⟩]).seq K.ret) K.skip)).seq ((K.reg [⟨some 3, none, KO.mv (KV.c (AV.i
    IntKind.i64 0))⟩]).seq (((K.reg [⟨some 4, none, KO.mv (KV.c (AV.i IntKind.i64 0))⟩]).seq (K.block 0 (((K.reg [⟨some 8, none, KO.mv (KV.t 4)⟩, ⟨some 9, none, KO.mv (KV.t 0)⟩,
    ⟨some 10, none, KO.len false (KV.t 9)⟩, ⟨some 11, none, KO.bin BinOp.lss (KV.t 8) (KV.t 10)⟩]).seq (K.cond (KV.t 11) K.skip (K.exit 0))).seq ((K.block 1 (((K.dreg [⟨some 14,
    none, KO.mv (KV.t 0)⟩, ⟨some 15, none, KO.mv (KV.t 4)⟩, ⟨some 16, none, KO.idx 2 (KV.t 14) (KV.t 15)⟩, ⟨some 17, none, KO.fld 0 (KV.t 16)⟩, ⟨some 18, none, KO.load false 1 (KV.t
    17)⟩, ⟨some 19, none, KO.call0 (KV.f 121) [KV.t 18]⟩, ⟨some 20, none, KO.un UnOp.not (KV.t 19)⟩, ⟨some 21, none, KO.mv (KV.t 20)⟩, ⟨some 22, some (21, false), KO.mv (KV.t 4)⟩,
    ⟨some 23, some (21, false), KO.bin BinOp.gtr (KV.t 22) (KV.c (AV.i IntKind.i64 0))⟩, ⟨some 24, some (21, false), KO.mv (KV.t 23)⟩, ⟨some 25, some (24, true), KO.mv (KV.t 0)⟩,
    ⟨some 26, some (24, true), KO.mv (KV.t 4)⟩, ⟨some 27, some (24, true), KO.idx 2 (KV.t 25) (KV.t 26)⟩, ⟨some 28, some (24, true), KO.fld 0 (KV.t 27)⟩, ⟨some 29, some (24, true),
    KO.load false 1 (KV.t 28)⟩, ⟨some 30, some (24, true), KO.mv (KV.t 0)⟩, ⟨some 31, some (24, true), KO.mv (KV.t 4)⟩, ⟨some 32, some (24, true), KO.bin BinOp.sub (KV.t 31) (KV.c
    (AV.i IntKind.i64 1))⟩, ⟨some 33, some (24, true), KO.idx 2 (KV.t 30) (KV.t 32)⟩, ⟨some 34, some (24, true), KO.fld 0 (KV.t 33)⟩, ⟨some 35, some (24, true), KO.load false 1
    (KV.t 34)⟩, ⟨some 36, some (24, true), KO.bin BinOp.leq (KV.t 29) (KV.t 35)⟩, ⟨some 37, some (21, false), KO.pick (KV.t 24) (KV.t 36) (KV.c (AV.b false))⟩, ⟨some 38, none,
    KO.pick (KV.t 21) (KV.c (AV.b true)) (KV.t 37)⟩] [[], [], [0, 1], [2], [3], [4], [5], [6, 5], [7], [8, 7], [9, 7, 7], [10], [10], [11, 12, 10], [13, 10], [14, 10], [10], [10],
    [17, 10], [16, 18, 10], [19, 10], [20, 10], [15, 21, 10], [10, 22, 7], [7, 23]]).seq (K.cond (KV.t 38) ((K.reg [⟨some 2, none, KO.mv (KV.c (AV.b false))⟩]).seq K.ret)
    K.skip)).seq (K.reg [⟨some 39, none, KO.mv (KV.t 3)⟩, ⟨some 40, none, KO.mv (KV.t 0)⟩, ⟨some 41, none, KO.mv (KV.t 4)⟩, ⟨some 42, none, KO.idx 2 (KV.t 40) (KV.t 41)⟩, ⟨some 43,
    none, KO.fld 1 (KV.t 42)⟩, ⟨some 44, none, KO.load false 1 (KV.t 43)⟩, ⟨some 45, none, KO.len true (KV.t 44)⟩, ⟨some 46, none, KO.bin BinOp.add (KV.t 39) (KV.t 45)⟩, ⟨some 3,
    none, KO.mv (KV.t 46)⟩]))).seq (K.reg [⟨some 12, none, KO.mv (KV.t 4)⟩, ⟨some 13, none, KO.bin BinOp.add (KV.t 12) (KV.c (AV.i IntKind.i64 1))⟩, ⟨some 4, none, KO.mv (KV.t
    13)⟩]))).loop)).seq ((K.reg [⟨some 47, none, KO.mv (KV.t 3)⟩, ⟨some 48, none, KO.bin BinOp.leq (KV.t 47) (KV.c (AV.i IntKind.i64 200000))⟩, ⟨some 2, none, KO.mv (KV.t 48)⟩]).seq
    K.ret)))),
  by kernel_rfl⟩
def k83 : { k : K // comp Go.Proofs.Try.prog Go.Proofs.Try.f83.ntmps hintT (Go.Proofs.Try.f83.body.getD .skip) = k } := ⟨
 (K.reg [⟨some 3, none, KO.box (KV.t 1)⟩, ⟨some 4, none, KO.mv (KV.c AV.nils)⟩, ⟨some 5, none, KO.mv (KV.c (AV.b false))⟩]).seq ((K.reg [⟨some 9, none, KO.mv (KV.t 0)⟩, ⟨some 10,
    none, KO.fld 1 (KV.t 3)⟩, ⟨some 11, none, KO.load false 1 (KV.t 10)⟩, ⟨some 12, none, KO.call (KV.f 95) [KV.t 9, KV.t 11]⟩, ⟨some 6, none, KO.mv (KV.t 12)⟩]).seq (((K.reg [⟨some
    13, none, KO.fld 0 (KV.t 3)⟩, ⟨some 14, none, KO.load false 1 (KV.t 13)⟩, ⟨some 15, none, KO.bin BinOp.eql (KV.t 14) (KV.c (AV.i IntKind.i64 1))⟩]).seq (K.cond (KV.t 15) ((K.reg
    [⟨some 16, none, KO.fld 3 (KV.t 3)⟩, ⟨some 17, none, KO.load false 1 (KV.t 16)⟩, ⟨some 7, none, KO.mv (KV.t 17)⟩]).seq (((K.reg [⟨some 18, none, KO.mv (KV.t 6)⟩, ⟨some 19, none,
    KO.bin BinOp.geq (KV.t 18) (KV.c (AV.i IntKind.i64 0))⟩]).seq (K.cond (KV.t 19) (K.reg [⟨some 20, none, KO.mv (KV.t 0)⟩, ⟨some 21, none, KO.mv (KV.t 6)⟩, ⟨some 22, none, KO.idx
    2 (KV.t 20) (KV.t 21)⟩, ⟨some 23, none, KO.fld 1 (KV.t 22)⟩, ⟨some 24, none, KO.load false 1 (KV.t 23)⟩, ⟨some 25, none, KO.mv (KV.t 7)⟩, ⟨some 26, none, KO.bin BinOp.add (KV.t
    24) (KV.t 25)⟩, ⟨some 7, none, KO.mv (KV.t 26)⟩]) K.skip)).seq ((K.reg [⟨some 27, none, KO.mv (KV.t 0)⟩, ⟨some 28, none, KO.fld 1 (KV.t 3)⟩, ⟨some 29, none, KO.load false 1
    (KV.t 28)⟩, ⟨some 30, none, KO.mv (KV.t 7)⟩, ⟨some 31, none, KO.call (KV.f 122) [KV.t 27, KV.t 29, KV.t 30]⟩, ⟨some 4, none, KO.mv (KV.t 31)⟩, ⟨some 5, none, KO.mv (KV.c (AV.b
    true))⟩]).seq K.ret))) K.skip)).seq (((K.reg [⟨some 32, none, KO.mv (KV.t 6)⟩, ⟨some 33, none, KO.bin BinOp.lss (KV.t 32) (KV.c (AV.i IntKind.i64 0))⟩]).seq (K.cond (KV.t 33)
    ((K.reg [⟨some 34, none, KO.bslice 2 0 [AV.s [], AV.s []] []⟩, ⟨some 35, none, KO.mv (KV.t 0)⟩, ⟨some 36, none, KO.app 2 32 [AV.s [], AV.s []] (KV.t 34) (KV.t 35)⟩, ⟨some 4,
    none, KO.mv (KV.t 36)⟩, ⟨some 5, none, KO.mv (KV.c (AV.b false))⟩]).seq K.ret) K.skip)).seq ((K.reg [⟨some 37, none, KO.mv (KV.t 0)⟩, ⟨some 38, none, KO.fld 1 (KV.t 3)⟩, ⟨some
    39, none, KO.load false 1 (KV.t 38)⟩, ⟨some 40, none, KO.call (KV.f 123) [KV.t 37, KV.t 39]⟩, ⟨some 8, none, KO.mv (KV.t 40)⟩]).seq (((K.reg [⟨some 41, none, KO.fld 0 (KV.t 3)⟩,
    ⟨some 42, none, KO.load false 1 (KV.t 41)⟩, ⟨some 43, none, KO.bin BinOp.eql (KV.t 42) (KV.c (AV.i IntKind.i64 2))⟩]).seq (K.cond (KV.t 43) (K.dreg [⟨some 44, none, KO.mv (KV.t
    8)⟩, ⟨some 45, none, KO.fld 2 (KV.t 3)⟩, ⟨some 46, none, KO.load false 1 (KV.t 45)⟩, ⟨some 47, none, KO.mv (KV.t 0)⟩, ⟨some 48, none, KO.mv (KV.t 6)⟩, ⟨some 49, none, KO.idx 2
    (KV.t 47) (KV.t 48)⟩, ⟨some 50, none, KO.fld 1 (KV.t 49)⟩, ⟨some 51, none, KO.load false 1 (KV.t 50)⟩, ⟨some 52, none, KO.call0 (KV.f 122) [KV.t 44, KV.t 46, KV.t 51]⟩, ⟨some 8,
    none, KO.mv (KV.t 52)⟩] [[], [], [1], [], [], [3, 4], [5], [6], [0, 2, 7], [8, 8, 0, 1, 2, 3, 4, 5, 6, 7, 8]]) K.skip)).seq ((K.reg [⟨some 53, none, KO.mv (KV.t 8)⟩, ⟨some 4,
    none, KO.mv (KV.t 53)⟩, ⟨some 5, none, KO.mv (KV.c (AV.b true))⟩]).seq K.ret)))))),
  by kernel_rfl⟩
def k84 : { k : K // comp Go.Proofs.Try.prog Go.Proofs.Try.f84.ntmps hintT (Go.Proofs.Try.f84.body.getD .skip) = k } := ⟨
 (K.reg [⟨some 1, none, KO.box (KV.t 0)⟩, ⟨some 2, none, KO.mv (KV.c (AV.b false))⟩]).seq (((K.reg [⟨some 3, none, KO.fld 0 (KV.t 1)⟩, ⟨some 4, none, KO.load false 1 (KV.t 3)⟩,
    ⟨some 5, none, KO.call (KV.f 109) [KV.t 4, KV.c (AV.i IntKind.i64 1), KV.c (AV.i IntKind.i64 3)]⟩, ⟨some 6, none, KO.un UnOp.not (KV.t 5)⟩, ⟨some 7, none, KO.mv (KV.t 6)⟩, ⟨some
    8, some (7, false), KO.fld 1 (KV.t 1)⟩, ⟨some 9, some (7, false), KO.load false 1 (KV.t 8)⟩, ⟨some 10, some (7, false), KO.call (KV.f 121) [KV.t 9]⟩, ⟨some 11, some (7, false),
    KO.un UnOp.not (KV.t 10)⟩, ⟨some 12, none, KO.pick (KV.t 7) (KV.c (AV.b true)) (KV.t 11)⟩]).seq (K.cond (KV.t 12) ((K.reg [⟨some 2, none, KO.mv (KV.c (AV.b false))⟩]).seq K.ret)
    K.skip)).seq (((K.reg [⟨some 13, none, KO.fld 0 (KV.t 1)⟩, ⟨some 14, none, KO.load false 1 (KV.t 13)⟩, ⟨some 15, none, KO.bin BinOp.eql (KV.t 14) (KV.c (AV.i IntKind.i64
    2))⟩]).seq (K.cond (KV.t 15) ((K.reg [⟨some 16, none, KO.fld 2 (KV.t 1)⟩, ⟨some 17, none, KO.load false 1 (KV.t 16)⟩, ⟨some 18, none, KO.call (KV.f 121) [KV.t 17]⟩, ⟨some 19,
    none, KO.mv (KV.t 18)⟩, ⟨some 20, some (19, true), KO.fld 3 (KV.t 1)⟩, ⟨some 21, some (19, true), KO.load false 1 (KV.t 20)⟩, ⟨some 22, some (19, true), KO.bin BinOp.eql (KV.t
    21) (KV.c (AV.s []))⟩, ⟨some 23, none, KO.pick (KV.t 19) (KV.t 22) (KV.c (AV.b false))⟩, ⟨some 2, none, KO.mv (KV.t 23)⟩]).seq K.ret) K.skip)).seq ((K.reg [⟨some 24, none,
    KO.fld 2 (KV.t 1)⟩, ⟨some 25, none, KO.load false 1 (KV.t 24)⟩, ⟨some 26, none, KO.bin BinOp.eql (KV.t 25) (KV.c (AV.s []))⟩, ⟨some 27, none, KO.mv (KV.t 26)⟩, ⟨some 28, some
    (27, true), KO.fld 0 (KV.t 1)⟩, ⟨some 29, some (27, true), KO.load false 1 (KV.t 28)⟩, ⟨some 30, some (27, true), KO.bin BinOp.eql (KV.t 29) (KV.c (AV.i IntKind.i64 1))⟩, ⟨some
    31, some (27, true), KO.mv (KV.t 30)⟩, ⟨some 32, some (31, false), KO.fld 3 (KV.t 1)⟩, ⟨some 33, some (31, false), KO.load false 1 (KV.t 32)⟩, ⟨some 34, some (31, false), KO.bin
    BinOp.eql (KV.t 33) (KV.c (AV.s []))⟩, ⟨some 35, some (27, true), KO.pick (KV.t 31) (KV.c (AV.b true)) (KV.t 34)⟩, ⟨some 36, none, KO.pick (KV.t 27) (KV.t 35) (KV.c (AV.b
    false))⟩, ⟨some 2, none, KO.mv (KV.t 36)⟩]).seq K.ret))),
  by kernel_rfl⟩
def k85 : { k : K // comp Go.Proofs.Try.prog Go.Proofs.Try.f85.ntmps hintT (Go.Proofs.Try.f85.body.getD .skip) = k } := ⟨
 (K.reg [⟨some 4, none, KO.mv (KV.c (AV.b false))⟩]).seq (((K.reg [⟨some 6, none, KO.mv (KV.t 0)⟩, ⟨some 7, none, KO.len false (KV.t 6)⟩, ⟨some 8, none, KO.mv (KV.t 1)⟩, ⟨some 9,
    none, KO.len false (KV.t 8)⟩, ⟨some 10, none, KO.bin BinOp.neq (KV.t 7) (KV.t 9)⟩]).seq (K.cond (KV.t 10) ((K.reg [⟨some 4, none, KO.mv (KV.c (AV.b false))⟩]).seq K.ret)
    K.skip)).seq (((K.reg [⟨some 5, none, KO.mv (KV.c (AV.i IntKind.i64 0))⟩]).seq (K.block 0 (((K.reg [⟨some 11, none, KO.mv (KV.t 5)⟩, ⟨some 12, none, KO.mv (KV.t 0)⟩, ⟨some 13,
    none, KO.len false (KV.t 12)⟩, ⟨some 14, none, KO.bin BinOp.lss (KV.t 11) (KV.t 13)⟩]).seq (K.cond (KV.t 14) K.skip (K.exit 0))).seq ((K.block 1 ((K.dreg [⟨some 17, none, KO.mv
    (KV.t 0)⟩, ⟨some 18, none, KO.mv (KV.t 5)⟩, ⟨some 19, none, KO.idx 2 (KV.t 17) (KV.t 18)⟩, ⟨some 20, none, KO.load true 2 (KV.t 19)⟩, ⟨some 21, none, KO.mv (KV.t 1)⟩, ⟨some 22,
    none, KO.mv (KV.t 5)⟩, ⟨some 23, none, KO.idx 2 (KV.t 21) (KV.t 22)⟩, ⟨some 24, none, KO.load true 2 (KV.t 23)⟩, ⟨some 25, none, KO.eqt (EqT.struct [SK.str, SK.str]) true (KV.t
    20) (KV.t 24)⟩] [[], [], [0, 1], [2], [], [], [4, 5], [6], [3, 7]]).seq (K.cond (KV.t 25) ((K.reg [⟨some 4, none, KO.mv (KV.c (AV.b false))⟩]).seq K.ret) K.skip))).seq (K.reg
    [⟨some 15, none, KO.mv (KV.t 5)⟩, ⟨some 16, none, KO.bin BinOp.add (KV.t 15) (KV.c (AV.i IntKind.i64 1))⟩, ⟨some 5, none, KO.mv (KV.t 16)⟩]))).loop)).seq ((K.reg [⟨some 4, none,
    KO.mv (KV.c (AV.b true))⟩]).seq K.ret))),
  by kernel_rfl⟩
def k86 : { k : K // comp Go.Proofs.Try.prog Go.Proofs.Try.f86.ntmps hintT (Go.Proofs.Try.f86.body.getD .skip) = k } := ⟨
 (K.reg [⟨some 6, none, KO.mv (KV.c (AV.b false))⟩]).seq ((K.reg [⟨some 7, none, KO.mv (KV.t 1)⟩, ⟨some 8, none, KO.mv (KV.t 0)⟩, ⟨some 9, none, KO.bin BinOp.leq (KV.t 7) (KV.t 8)⟩,
    ⟨some 10, none, KO.mv (KV.t 9)⟩, ⟨some 11, some (10, true), KO.mv (KV.t 0)⟩, ⟨some 12, some (10, true), KO.mv (KV.t 2)⟩, ⟨some 13, some (10, true), KO.bin BinOp.leq (KV.t 11)
    (KV.t 12)⟩, ⟨some 14, none, KO.pick (KV.t 10) (KV.t 13) (KV.c (AV.b false))⟩, ⟨some 6, none, KO.mv (KV.t 14)⟩]).seq K.ret),
  by kernel_rfl⟩
def k87 : { k : K // comp Go.Proofs.Try.prog Go.Proofs.Try.f87.ntmps hintT (Go.Proofs.Try.f87.body.getD .skip) = k } := ⟨
 (K.reg [⟨some 2, none, KO.mv (KV.c AV.nils)⟩]).seq (((K.reg [⟨some 3, none, KO.mv (KV.t 0)⟩, ⟨some 4, none, KO.eqn false (KV.t 3) (KV.c AV.nils)⟩]).seq (K.cond (KV.t 4)
    ((K.reg [⟨some 2, none, KO.mv (KV.c AV.nils)⟩]).seq K.ret) K.skip)).seq ((K.reg [⟨some 5, none, KO.bslice 2 0 [AV.s [], AV.s []] []⟩, ⟨some 6, none, KO.mv (KV.t 0)⟩, ⟨some 7,
    none, KO.app 2 32 [AV.s [], AV.s []] (KV.t 5) (KV.t 6)⟩, ⟨some 2, none, KO.mv (KV.t 7)⟩]).seq K.ret)),
  by kernel_rfl⟩
def k117 : { k : K // comp Go.Proofs.Try.prog Go.Proofs.Try.f117.ntmps hintT (Go.Proofs.Try.f117.body.getD .skip) = k } := ⟨
 (K.reg [⟨some 2, none, KO.mv (KV.c (AV.b false))⟩]).seq ((K.reg [⟨some 3, none, KO.mv (KV.t 0)⟩, ⟨some 4, none, KO.len true (KV.t 3)⟩, ⟨some 5, none, KO.call (KV.f 86) [KV.t 4,
    KV.c (AV.i IntKind.i64 1), KV.c (AV.i IntKind.i64 100)]⟩, ⟨some 2, none, KO.mv (KV.t 5)⟩]).seq K.ret),
  by kernel_rfl⟩
def k118 : { k : K // comp Go.Proofs.Try.prog Go.Proofs.Try.f118.ntmps hintT (Go.Proofs.Try.f118.body.getD .skip) = k } := ⟨
 (K.reg [⟨some 4, none, KO.mv (KV.c (AV.i IntKind.i64 0))⟩, ⟨some 5, none, KO.mv (KV.c (AV.b false))⟩]).seq ((K.reg [⟨some 6, none, KO.mv (KV.t 0)⟩, ⟨some 7, none, KO.mv (KV.t 1)⟩,
    ⟨some 8, none, KO.call (KV.f 136) [KV.t 6, KV.t 7, KV.f 137]⟩, ⟨some 9, none, KO.ext (KV.t 8) 0⟩, ⟨some 10, none, KO.ext (KV.t 8) 1⟩, ⟨some 4, none, KO.mv (KV.t 9)⟩, ⟨some 5,
    none, KO.mv (KV.t 10)⟩]).seq K.ret),
  by kernel_rfl⟩
def k119 : { k : K // comp Go.Proofs.Try.prog Go.Proofs.Try.f119.ntmps hintT (Go.Proofs.Try.f119.body.getD .skip) = k } := ⟨
 (K.reg [⟨some 6, none, KO.mv (KV.c AV.nils)⟩]).seq ((K.reg [⟨some 11, none, KO.mv (KV.t 0)⟩, ⟨some 12, none, KO.mv (KV.t 1)⟩, ⟨some 13, none, KO.call (KV.f 118) [KV.t 11, KV.t
    12]⟩, ⟨some 10, none, KO.mv (KV.t 13)⟩, ⟨some 14, none, KO.ext (KV.t 10) 0⟩, ⟨some 15, none, KO.ext (KV.t 10) 1⟩, ⟨some 7, none, KO.mv (KV.t 14)⟩, ⟨some 8, none, KO.mv (KV.t
    15)⟩]).seq ((K.reg [⟨some 16, none, KO.mv (KV.t 0)⟩, ⟨some 17, none, KO.call (KV.f 87) [KV.t 16]⟩, ⟨some 9, none, KO.mv (KV.t 17)⟩]).seq (((K.reg [⟨some 18, none, KO.mv (KV.t
    8)⟩]).seq (K.cond (KV.t 18) ((K.reg [⟨some 19, none, KO.mv (KV.t 9)⟩, ⟨some 20, none, KO.mv (KV.t 7)⟩, ⟨some 21, none, KO.mv (KV.t 2)⟩, ⟨some 22, none, KO.idx 2 (KV.t 19) (KV.t
    20)⟩, ⟨some 23, none, KO.fld 1 (KV.t 22)⟩, ⟨none, none, KO.store 1 (KV.t 23) (KV.t 21)⟩]).seq ((K.reg [⟨some 24, none, KO.mv (KV.t 9)⟩, ⟨some 6, none, KO.mv (KV.t 24)⟩]).seq
    K.ret)) K.skip)).seq ((K.reg [⟨some 25, none, KO.mv (KV.t 9)⟩, ⟨some 26, none, KO.mv (KV.t 7)⟩, ⟨some 27, none, KO.mv (KV.t 1)⟩, ⟨some 28, none, KO.mv (KV.t 2)⟩, ⟨some 29, none,
    KO.build [AV.s [], AV.s []] [(0, 1, KV.t 27), (1, 1, KV.t 28)]⟩, ⟨some 30, none, KO.bslice 2 1 [AV.s [], AV.s []] [(0, KV.t 29)]⟩, ⟨some 31, none, KO.call (KV.f 139) [KV.t 25,
    KV.t 26, KV.t 30]⟩, ⟨some 6, none, KO.mv (KV.t 31)⟩]).seq K.ret)))),
  by kernel_rfl⟩
def k120 : { k : K // comp Go.Proofs.Try.prog Go.Proofs.Try.f120.ntmps hintT (Go.Proofs.Try.f120.body.getD .skip) = k } := ⟨
 (K.reg [⟨some 6, none, KO.mv (KV.c AV.nils)⟩]).seq ((K.reg [⟨some 8, none, KO.mv (KV.t 0)⟩, ⟨some 9, none, KO.mv (KV.t 1)⟩, ⟨some 10, none, KO.mv (KV.t 2)⟩, ⟨some 11, none, KO.mv
    (KV.t 0)⟩, ⟨some 12, none, KO.len false (KV.t 11)⟩, ⟨some 13, none, KO.slc 2 (KV.t 8) (some (KV.t 9)) (some (KV.t 10)) (some (KV.t 12))⟩]).seq (((K.reg [⟨some 14, none, KO.mv
    (KV.t 1)⟩, ⟨some 15, none, KO.mv (KV.t 2)⟩, ⟨some 16, none, KO.bin BinOp.eql (KV.t 14) (KV.t 15)⟩]).seq (K.cond (KV.t 16) ((K.reg [⟨some 17, none, KO.mv (KV.t 0)⟩, ⟨some 6,
    none, KO.mv (KV.t 17)⟩]).seq K.ret) K.skip)).seq ((K.reg [⟨some 18, none, KO.mv (KV.t 0)⟩, ⟨some 19, none, KO.len false (KV.t 18)⟩, ⟨some 7, none, KO.mv (KV.t 19)⟩]).seq
    ((K.dreg [⟨some 20, none, KO.mv (KV.t 0)⟩, ⟨some 21, none, KO.mv (KV.t 1)⟩, ⟨some 22, none, KO.slc 2 (KV.t 20) none (some (KV.t 21)) none⟩, ⟨some 23, none, KO.mv (KV.t 0)⟩,
    ⟨some 24, none, KO.mv (KV.t 2)⟩, ⟨some 25, none, KO.slc 2 (KV.t 23) (some (KV.t 24)) none none⟩, ⟨some 26, none, KO.app 2 32 [AV.s [], AV.s []] (KV.t 22) (KV.t 25)⟩, ⟨some 0,
    none, KO.mv (KV.t 26)⟩] [[], [], [0, 1], [], [], [3, 4], [2, 5], [6, 6, 0, 1, 2, 3, 4, 5, 6]]).seq ((K.reg [⟨some 27, none, KO.mv (KV.t 0)⟩, ⟨some 28, none, KO.mv (KV.t 0)⟩,
    ⟨some 29, none, KO.len false (KV.t 28)⟩, ⟨some 30, none, KO.mv (KV.t 7)⟩, ⟨some 31, none, KO.slc 2 (KV.t 27) (some (KV.t 29)) (some (KV.t 30)) none⟩, ⟨none, none, KO.clr 2 [AV.s
    [], AV.s []] (KV.t 31)⟩]).seq ((K.reg [⟨some 32, none, KO.mv (KV.t 0)⟩, ⟨some 6, none, KO.mv (KV.t 32)⟩]).seq K.ret)))))),
  by kernel_rfl⟩
def k121 : { k : K // comp Go.Proofs.Try.prog Go.Proofs.Try.f121.ntmps hintT (Go.Proofs.Try.f121.body.getD .skip) = k } := ⟨
 (K.reg [⟨some 2, none, KO.mv (KV.c (AV.b false))⟩]).seq ((K.reg [⟨some 3, none, KO.mv (KV.t 0)⟩, ⟨some 4, none, KO.len true (KV.t 3)⟩, ⟨some 5, none, KO.bin BinOp.geq (KV.t 4)
    (KV.c (AV.i IntKind.i64 1))⟩, ⟨some 6, none, KO.mv (KV.t 5)⟩, ⟨some 7, some (6, true), KO.mv (KV.t 0)⟩, ⟨some 8, some (6, true), KO.len true (KV.t 7)⟩, ⟨some 9, some (6, true),
    KO.bin BinOp.leq (KV.t 8) (KV.c (AV.i IntKind.i64 100))⟩, ⟨some 10, none, KO.pick (KV.t 6) (KV.t 9) (KV.c (AV.b false))⟩, ⟨some 2, none, KO.mv (KV.t 10)⟩]).seq K.ret),
  by kernel_rfl⟩
def k122 : { k : K // comp Go.Proofs.Try.prog Go.Proofs.Try.f122.ntmps hintT (Go.Proofs.Try.f122.body.getD .skip) = k } := ⟨
 (K.reg [⟨some 6, none, KO.mv (KV.c AV.nils)⟩]).seq ((K.reg [⟨some 10, none, KO.bslice 2 0 [AV.s [], AV.s []] []⟩, ⟨some 7, none, KO.mv (KV.t 10)⟩]).seq ((K.reg [⟨some 8, none,
    KO.mv (KV.c (AV.b false))⟩]).seq (((K.reg [⟨some 9, none, KO.mv (KV.c (AV.i IntKind.i64 0))⟩]).seq (K.block 0 (((K.reg [⟨some 11, none, KO.mv (KV.t 9)⟩, ⟨some 12, none, KO.mv
    (KV.t 0)⟩, ⟨some 13, none, KO.len false (KV.t 12)⟩, ⟨some 14, none, KO.bin BinOp.lss (KV.t 11) (KV.t 13)⟩]).seq (K.cond (KV.t 14) K.skip (K.exit 0))).seq ((K.block 1 (((K.reg
    [⟨some 17, none, KO.mv (KV.t 8)⟩, ⟨some 18, none, KO.un UnOp.not (KV.t 17)⟩, ⟨some 19, none, KO.mv (KV.t 18)⟩, ⟨some 20, some (19, true), KO.mv (KV.t 0)⟩, ⟨some 21, some (19,
    true), KO.mv (KV.t 9)⟩, ⟨some 22, some (19, true), KO.idx 2 (KV.t 20) (KV.t 21)⟩, ⟨some 23, some (19, true), KO.fld 0 (KV.t 22)⟩, ⟨some 24, some (19, true), KO.load false 1
    (KV.t 23)⟩, ⟨some 25, some (19, true), KO.mv (KV.t 1)⟩, ⟨some 26, some (19, true), KO.bin BinOp.geq (KV.t 24) (KV.t 25)⟩, ⟨some 27, none, KO.pick (KV.t 19) (KV.t 26) (KV.c (AV.b
    false))⟩]).seq (K.cond (KV.t 27) ((K.reg [⟨some 28, none, KO.mv (KV.t 7)⟩, ⟨some 29, none, KO.mv (KV.t 1)⟩, ⟨some 30, none, KO.mv (KV.t 2)⟩, ⟨some 31, none, KO.build [AV.s [],
    AV.s []] [(0, 1, KV.t 29), (1, 1, KV.t 30)]⟩, ⟨some 32, none, KO.bslice 2 1 [AV.s [], AV.s []] [(0, KV.t 31)]⟩, ⟨some 33, none, KO.app 2 32 [AV.s [], AV.s []] (KV.t 28) (KV.t
    32)⟩, ⟨some 7, none, KO.mv (KV.t 33)⟩]).seq (K.reg [⟨some 8, none, KO.mv (KV.c (AV.b true))⟩])) K.skip)).seq ((K.reg [⟨some 34, none, KO.mv (KV.t 0)⟩, ⟨some 35, none, KO.mv
    (KV.t 9)⟩, ⟨some 36, none, KO.idx 2 (KV.t 34) (KV.t 35)⟩, ⟨some 37, none, KO.fld 0 (KV.t 36)⟩, ⟨some 38, none, KO.load false 1 (KV.t 37)⟩, ⟨some 39, none, KO.mv (KV.t 1)⟩, ⟨some
    40, none, KO.bin BinOp.neq (KV.t 38) (KV.t 39)⟩]).seq (K.cond (KV.t 40) (K.reg [⟨some 41, none, KO.mv (KV.t 7)⟩, ⟨some 42, none, KO.mv (KV.t 0)⟩, ⟨some 43, none, KO.mv (KV.t
    9)⟩, ⟨some 44, none, KO.idx 2 (KV.t 42) (KV.t 43)⟩, ⟨some 45, none, KO.load true 2 (KV.t 44)⟩, ⟨some 46, none, KO.bslice 2 1 [AV.s [], AV.s []] [(0, KV.t 45)]⟩, ⟨some 47, none,
    KO.app 2 32 [AV.s [], AV.s []] (KV.t 41) (KV.t 46)⟩, ⟨some 7, none, KO.mv (KV.t 47)⟩]) K.skip)))).seq (K.reg [⟨some 15, none, KO.mv (KV.t 9)⟩, ⟨some 16, none, KO.bin BinOp.add
    (KV.t 15) (KV.c (AV.i IntKind.i64 1))⟩, ⟨some 9, none, KO.mv (KV.t 16)⟩]))).loop)).seq (((K.reg [⟨some 48, none, KO.mv (KV.t 8)⟩, ⟨some 49, none, KO.un UnOp.not (KV.t 48)⟩]).seq
    (K.cond (KV.t 49) (K.reg [⟨some 50, none, KO.mv (KV.t 7)⟩, ⟨some 51, none, KO.mv (KV.t 1)⟩, ⟨some 52, none, KO.mv (KV.t 2)⟩, ⟨some 53, none, KO.build [AV.s [], AV.s []] [(0, 1,
    KV.t 51), (1, 1, KV.t 52)]⟩, ⟨some 54, none, KO.bslice 2 1 [AV.s [], AV.s []] [(0, KV.t 53)]⟩, ⟨some 55, none, KO.app 2 32 [AV.s [], AV.s []] (KV.t 50) (KV.t 54)⟩, ⟨some 7,
    none, KO.mv (KV.t 55)⟩]) K.skip)).seq ((K.reg [⟨some 56, none, KO.mv (KV.t 7)⟩, ⟨some 6, none, KO.mv (KV.t 56)⟩]).seq K.ret))))),
  by kernel_rfl⟩
def k123 : { k : K // comp Go.Proofs.Try.prog Go.Proofs.Try.f123.ntmps hintT (Go.Proofs.Try.f123.body.getD .skip) = k } := ⟨
 (K.reg [⟨some 4, none, KO.mv (KV.c AV.nils)⟩]).seq ((K.reg [⟨some 7, none, KO.bslice 2 0 [AV.s [], AV.s []] []⟩, ⟨some 5, none, KO.mv (KV.t 7)⟩]).seq (((K.reg [⟨some 6, none, KO.mv
    (KV.c (AV.i IntKind.i64 0))⟩]).seq (K.block 0 (((K.reg [⟨some 8, none, KO.mv (KV.t 6)⟩, ⟨some 9, none, KO.mv (KV.t 0)⟩, ⟨some 10, none, KO.len false (KV.t 9)⟩, ⟨some 11, none,
    KO.bin BinOp.lss (KV.t 8) (KV.t 10)⟩]).seq (K.cond (KV.t 11) K.skip (K.exit 0))).seq ((K.block 1 ((K.reg [⟨some 14, none, KO.mv (KV.t 0)⟩, ⟨some 15, none, KO.mv (KV.t 6)⟩, ⟨some
    16, none, KO.idx 2 (KV.t 14) (KV.t 15)⟩, ⟨some 17, none, KO.fld 0 (KV.t 16)⟩, ⟨some 18, none, KO.load false 1 (KV.t 17)⟩, ⟨some 19, none, KO.mv (KV.t 1)⟩, ⟨some 20, none, KO.bin
    BinOp.neq (KV.t 18) (KV.t 19)⟩]).seq (K.cond (KV.t 20) (K.reg [⟨some 21, none, KO.mv (KV.t 5)⟩, ⟨some 22, none, KO.mv (KV.t 0)⟩, ⟨some 23, none, KO.mv (KV.t 6)⟩, ⟨some 24, none,
    KO.idx 2 (KV.t 22) (KV.t 23)⟩, ⟨some 25, none, KO.load true 2 (KV.t 24)⟩, ⟨some 26, none, KO.bslice 2 1 [AV.s [], AV.s []] [(0, KV.t 25)]⟩, ⟨some 27, none, KO.app 2 32 [AV.s [],
    AV.s []] (KV.t 21) (KV.t 26)⟩, ⟨some 5, none, KO.mv (KV.t 27)⟩]) K.skip))).seq (K.reg [⟨some 12, none, KO.mv (KV.t 6)⟩, ⟨some 13, none, KO.bin BinOp.add (KV.t 12) (KV.c (AV.i
    IntKind.i64 1))⟩, ⟨some 6, none, KO.mv (KV.t 13)⟩]))).loop)).seq ((K.reg [⟨some 28, none, KO.mv (KV.t 5)⟩, ⟨some 4, none, KO.mv (KV.t 28)⟩]).seq K.ret))),
  by kernel_rfl⟩
def k136 : { k : K // comp Go.Proofs.Try.prog Go.Proofs.Try.f136.ntmps hintT (Go.Proofs.Try.f136.body.getD .skip) = k } := ⟨
 (K.reg [⟨some 6, none, KO.mv (KV.c (AV.i IntKind.i64 0))⟩, ⟨some 7, none, KO.mv (KV.c (AV.b false))⟩]).seq ((K.reg [⟨some 12, none, KO.mv (KV.t 0)⟩, ⟨some 13, none, KO.len false
    (KV.t 12)⟩, ⟨some 8, none, KO.mv (KV.t 13)⟩]).seq ((K.reg [⟨some 14, none, KO.mv (KV.t 8)⟩, ⟨some 9, none, KO.mv (KV.c (AV.i IntKind.i64 0))⟩, ⟨some 10, none, KO.mv (KV.t
    14)⟩]).seq ((K.block 0 (((K.reg [⟨some 15, none, KO.mv (KV.t 9)⟩, ⟨some 16, none, KO.mv (KV.t 10)⟩, ⟨some 17, none, KO.bin BinOp.lss (KV.t 15) (KV.t 16)⟩]).seq (K.cond (KV.t 17)
    K.skip (K.exit 0))).seq (K.block 1 ((K.reg [⟨some 18, none, KO.mv (KV.t 9)⟩, ⟨some 19, none, KO.mv (KV.t 10)⟩, ⟨some 20, none, KO.bin BinOp.add (KV.t 18) (KV.t 19)⟩, ⟨some 21,
    none, KO.conv (KC.int IntKind.u64) (KV.t 20)⟩, ⟨some 22, none, KO.bin BinOp.shr (KV.t 21) (KV.c (AV.i IntKind.u64 1))⟩, ⟨some 23, none, KO.conv (KC.int IntKind.i64) (KV.t 22)⟩,
    ⟨some 11, none, KO.mv (KV.t 23)⟩]).seq ((K.reg [⟨some 24, none, KO.mv (KV.t 2)⟩, ⟨some 25, none, KO.mv (KV.t 0)⟩, ⟨some 26, none, KO.mv (KV.t 11)⟩, ⟨some 27, none, KO.idx 2
    (KV.t 25) (KV.t 26)⟩, ⟨some 28, none, KO.load true 2 (KV.t 27)⟩, ⟨some 29, none, KO.mv (KV.t 1)⟩, ⟨some 30, none, KO.call (KV.t 24) [KV.t 28, KV.t 29]⟩, ⟨some 31, none, KO.bin
    BinOp.lss (KV.t 30) (KV.c (AV.i IntKind.i64 0))⟩]).seq (K.cond (KV.t 31) (K.reg [⟨some 32, none, KO.mv (KV.t 11)⟩, ⟨some 33, none, KO.bin BinOp.add (KV.t 32) (KV.c (AV.i
    IntKind.i64 1))⟩, ⟨some 9, none, KO.mv (KV.t 33)⟩]) (K.reg [⟨some 34, none, KO.mv (KV.t 11)⟩, ⟨some 10, none, KO.mv (KV.t 34)⟩])))))).loop).seq ((K.reg [⟨some 35, none, KO.mv
    (KV.t 9)⟩, ⟨some 36, none, KO.mv (KV.t 9)⟩, ⟨some 37, none, KO.mv (KV.t 8)⟩, ⟨some 38, none, KO.bin BinOp.lss (KV.t 36) (KV.t 37)⟩, ⟨some 39, none, KO.mv (KV.t 38)⟩, ⟨some 40,
    some (39, true), KO.mv (KV.t 2)⟩, ⟨some 41, some (39, true), KO.mv (KV.t 0)⟩, ⟨some 42, some (39, true), KO.mv (KV.t 9)⟩, ⟨some 43, some (39, true), KO.idx 2 (KV.t 41) (KV.t
    42)⟩, ⟨some 44, some (39, true), KO.load true 2 (KV.t 43)⟩, ⟨some 45, some (39, true), KO.mv (KV.t 1)⟩, ⟨some 46, some (39, true), KO.call (KV.t 40) [KV.t 44, KV.t 45]⟩, ⟨some
    47, some (39, true), KO.bin BinOp.eql (KV.t 46) (KV.c (AV.i IntKind.i64 0))⟩, ⟨some 48, none, KO.pick (KV.t 39) (KV.t 47) (KV.c (AV.b false))⟩, ⟨some 6, none, KO.mv (KV.t 35)⟩,
    ⟨some 7, none, KO.mv (KV.t 48)⟩]).seq K.ret)))),
  by kernel_rfl⟩
def k137 : { k : K // comp Go.Proofs.Try.prog Go.Proofs.Try.f137.ntmps hintT (Go.Proofs.Try.f137.body.getD .skip) = k } := ⟨
 (K.reg [⟨some 2, none, KO.box (KV.t 0)⟩, ⟨some 4, none, KO.mv (KV.c (AV.i IntKind.i64 0))⟩]).seq ((K.reg [⟨some 5, none, KO.fld 0 (KV.t 2)⟩, ⟨some 6, none, KO.load false 1 (KV.t
    5)⟩, ⟨some 7, none, KO.mv (KV.t 1)⟩, ⟨some 8, none, KO.call (KV.f 138) [KV.t 6, KV.t 7]⟩, ⟨some 4, none, KO.mv (KV.t 8)⟩]).seq K.ret),
  by kernel_rfl⟩
def k138 : { k : K // comp Go.Proofs.Try.prog Go.Proofs.Try.f138.ntmps hintT (Go.Proofs.Try.f138.body.getD .skip) = k } := ⟨
 (K.reg [⟨some 4, none, KO.mv (KV.c (AV.i IntKind.i64 0))⟩]).seq ((K.reg [⟨some 5, none, KO.mv (KV.t 0)⟩, ⟨some 6, none, KO.mv (KV.t 1)⟩, ⟨some 7, none, KO.call (KV.f 142) [KV.t 5,
    KV.t 6]⟩, ⟨some 4, none, KO.mv (KV.t 7)⟩]).seq K.ret),
  by kernel_rfl⟩
def k139 : { k : K // comp Go.Proofs.Try.prog Go.Proofs.Try.f139.ntmps hintT (Go.Proofs.Try.f139.body.getD .skip) = k } := ⟨
 (K.reg [⟨some 6, none, KO.mv (KV.c AV.nils)⟩]).seq ((K.reg [⟨some 10, none, KO.mv (KV.t 0)⟩, ⟨some 11, none, KO.mv (KV.t 1)⟩, ⟨some 12, none, KO.slc 2 (KV.t 10) (some (KV.t 11))
    none none⟩]).seq ((K.reg [⟨some 13, none, KO.mv (KV.t 2)⟩, ⟨some 14, none, KO.len false (KV.t 13)⟩, ⟨some 7, none, KO.mv (KV.t 14)⟩]).seq (((K.reg [⟨some 15, none, KO.mv (KV.t
    7)⟩, ⟨some 16, none, KO.bin BinOp.eql (KV.t 15) (KV.c (AV.i IntKind.i64 0))⟩]).seq (K.cond (KV.t 16) ((K.reg [⟨some 17, none, KO.mv (KV.t 0)⟩, ⟨some 6, none, KO.mv (KV.t
    17)⟩]).seq K.ret) K.skip)).seq ((K.reg [⟨some 18, none, KO.mv (KV.t 0)⟩, ⟨some 19, none, KO.len false (KV.t 18)⟩, ⟨some 8, none, KO.mv (KV.t 19)⟩]).seq (((K.reg [⟨some 20, none,
    KO.mv (KV.t 1)⟩, ⟨some 21, none, KO.mv (KV.t 8)⟩, ⟨some 22, none, KO.bin BinOp.eql (KV.t 20) (KV.t 21)⟩]).seq (K.cond (KV.t 22) ((K.reg [⟨some 23, none, KO.mv (KV.t 0)⟩, ⟨some
    24, none, KO.mv (KV.t 2)⟩, ⟨some 25, none, KO.app 2 32 [AV.s [], AV.s []] (KV.t 23) (KV.t 24)⟩, ⟨some 6, none, KO.mv (KV.t 25)⟩]).seq K.ret) K.skip)).seq (((K.reg [⟨some 26,
    none, KO.mv (KV.t 8)⟩, ⟨some 27, none, KO.mv (KV.t 7)⟩, ⟨some 28, none, KO.bin BinOp.add (KV.t 26) (KV.t 27)⟩, ⟨some 29, none, KO.mv (KV.t 0)⟩, ⟨some 30, none, KO.cap (KV.t
    29)⟩, ⟨some 31, none, KO.bin BinOp.gtr (KV.t 28) (KV.t 30)⟩]).seq (K.cond (KV.t 31) ((K.reg [⟨some 32, none, KO.mv (KV.t 0)⟩, ⟨some 33, none, KO.mv (KV.t 1)⟩, ⟨some 34, none,
    KO.slc 2 (KV.t 32) none (some (KV.t 33)) none⟩, ⟨some 35, none, KO.mv (KV.t 8)⟩, ⟨some 36, none, KO.mv (KV.t 7)⟩, ⟨some 37, none, KO.bin BinOp.add (KV.t 35) (KV.t 36)⟩, ⟨some
    38, none, KO.mv (KV.t 1)⟩, ⟨some 39, none, KO.bin BinOp.sub (KV.t 37) (KV.t 38)⟩, ⟨some 40, none, KO.appz 2 32 [AV.s [], AV.s []] (KV.t 34) (KV.t 39)⟩, ⟨some 9, none, KO.mv
    (KV.t 40)⟩]).seq ((K.reg [⟨some 41, none, KO.mv (KV.t 9)⟩, ⟨some 42, none, KO.mv (KV.t 1)⟩, ⟨some 43, none, KO.slc 2 (KV.t 41) (some (KV.t 42)) none none⟩, ⟨some 44, none, KO.mv
    (KV.t 2)⟩, ⟨some 45, none, KO.cpy 2 (KV.t 43) (KV.t 44)⟩]).seq ((K.dreg [⟨some 46, none, KO.mv (KV.t 9)⟩, ⟨some 47, none, KO.mv (KV.t 1)⟩, ⟨some 48, none, KO.mv (KV.t 7)⟩, ⟨some
    49, none, KO.bin BinOp.add (KV.t 47) (KV.t 48)⟩, ⟨some 50, none, KO.slc 2 (KV.t 46) (some (KV.t 49)) none none⟩, ⟨some 51, none, KO.mv (KV.t 0)⟩, ⟨some 52, none, KO.mv (KV.t
    1)⟩, ⟨some 53, none, KO.slc 2 (KV.t 51) (some (KV.t 52)) none none⟩, ⟨some 54, none, KO.cpy 2 (KV.t 50) (KV.t 53)⟩] [[], [], [], [1, 2], [0, 3], [], [], [5, 6], [4, 7]]).seq
    ((K.reg [⟨some 55, none, KO.mv (KV.t 9)⟩, ⟨some 6, none, KO.mv (KV.t 55)⟩]).seq K.ret)))) K.skip)).seq ((K.reg [⟨some 56, none, KO.mv (KV.t 0)⟩, ⟨some 57, none, KO.mv (KV.t 8)⟩,
    ⟨some 58, none, KO.mv (KV.t 7)⟩, ⟨some 59, none, KO.bin BinOp.add (KV.t 57) (KV.t 58)⟩, ⟨some 60, none, KO.slc 2 (KV.t 56) none (some (KV.t 59)) none⟩, ⟨some 0, none, KO.mv
    (KV.t 60)⟩]).seq (((K.reg [⟨some 61, none, KO.mv (KV.t 2)⟩, ⟨some 62, none, KO.mv (KV.t 0)⟩, ⟨some 63, none, KO.mv (KV.t 1)⟩, ⟨some 64, none, KO.mv (KV.t 7)⟩, ⟨some 65, none,
    KO.bin BinOp.add (KV.t 63) (KV.t 64)⟩, ⟨some 66, none, KO.slc 2 (KV.t 62) (some (KV.t 65)) none none⟩, ⟨some 67, none, KO.call (KV.f 143) [KV.t 61, KV.t 66]⟩, ⟨some 68, none,
    KO.un UnOp.not (KV.t 67)⟩]).seq (K.cond (KV.t 68) ((K.dreg [⟨some 69, none, KO.mv (KV.t 0)⟩, ⟨some 70, none, KO.mv (KV.t 1)⟩, ⟨some 71, none, KO.mv (KV.t 7)⟩, ⟨some 72, none,
    KO.bin BinOp.add (KV.t 70) (KV.t 71)⟩, ⟨some 73, none, KO.slc 2 (KV.t 69) (some (KV.t 72)) none none⟩, ⟨some 74, none, KO.mv (KV.t 0)⟩, ⟨some 75, none, KO.mv (KV.t 1)⟩, ⟨some
    76, none, KO.slc 2 (KV.t 74) (some (KV.t 75)) none none⟩, ⟨some 77, none, KO.cpy 2 (KV.t 73) (KV.t 76)⟩] [[], [], [], [1, 2], [0, 3], [], [], [5, 6], [4, 7]]).seq ((K.reg [⟨some
    78, none, KO.mv (KV.t 0)⟩, ⟨some 79, none, KO.mv (KV.t 1)⟩, ⟨some 80, none, KO.slc 2 (KV.t 78) (some (KV.t 79)) none none⟩, ⟨some 81, none, KO.mv (KV.t 2)⟩, ⟨some 82, none,
    KO.cpy 2 (KV.t 80) (KV.t 81)⟩]).seq ((K.reg [⟨some 83, none, KO.mv (KV.t 0)⟩, ⟨some 6, none, KO.mv (KV.t 83)⟩]).seq K.ret))) K.skip)).seq ((K.reg [⟨some 84, none, KO.mv (KV.t
    0)⟩, ⟨some 85, none, KO.mv (KV.t 8)⟩, ⟨some 86, none, KO.slc 2 (KV.t 84) (some (KV.t 85)) none none⟩, ⟨some 87, none, KO.mv (KV.t 2)⟩, ⟨some 88, none, KO.cpy 2 (KV.t 86) (KV.t
    87)⟩]).seq ((K.reg [⟨some 89, none, KO.mv (KV.t 0)⟩, ⟨some 90, none, KO.mv (KV.t 1)⟩, ⟨some 91, none, KO.slc 2 (KV.t 89) (some (KV.t 90)) none none⟩, ⟨some 92, none, KO.mv (KV.t
    7)⟩, ⟨some 93, none, KO.call (KV.f 144) [KV.t 91, KV.t 92]⟩]).seq ((K.reg [⟨some 94, none, KO.mv (KV.t 0)⟩, ⟨some 6, none, KO.mv (KV.t 94)⟩]).seq K.ret))))))))))),
  by kernel_rfl⟩
def k142 : { k : K // comp Go.Proofs.Try.prog Go.Proofs.Try.f142.ntmps hintT (Go.Proofs.Try.f142.body.getD .skip) = k } := ⟨
 (K.reg [⟨some 4, none, KO.mv (KV.c (AV.i IntKind.i64 0))⟩]).seq ((K.reg [⟨some 5, none, KO.mv (KV.t 0)⟩, ⟨some 6, none, KO.mv (KV.t 1)⟩, ⟨some 7, none, KO.call (KV.f 146) [KV.t 5,
    KV.t 6]⟩, ⟨some 4, none, KO.mv (KV.t 7)⟩]).seq K.ret),
  by kernel_rfl⟩
def k95 : { k : K // comp Go.Proofs.Try.prog Go.Proofs.Try.f95.ntmps hintT (Go.Proofs.Try.f95.body.getD .skip) = k } := ⟨
 (K.reg [⟨some 4, none, KO.mv (KV.c (AV.i IntKind.i64 0))⟩]).seq (((K.reg [⟨some 5, none, KO.mv (KV.c (AV.i IntKind.i64 0))⟩]).seq (K.block 0 (((K.reg [⟨some 6, none, KO.mv (KV.t
    5)⟩, ⟨some 7, none, KO.mv (KV.t 0)⟩, ⟨some 8, none, KO.len false (KV.t 7)⟩, ⟨some 9, none, KO.bin BinOp.lss (KV.t 6) (KV.t 8)⟩]).seq (K.cond (KV.t 9) K.skip (K.exit 0))).seq
    ((K.block 1 ((K.reg [⟨some 12, none, KO.mv (KV.t 0)⟩, ⟨some 13, none, KO.mv (KV.t 5)⟩, ⟨some 14, none, KO.idx 2 (KV.t 12) (KV.t 13)⟩, ⟨some 15, none, KO.fld 0 (KV.t 14)⟩, ⟨some
    16, none, KO.load false 1 (KV.t 15)⟩, ⟨some 17, none, KO.mv (KV.t 1)⟩, ⟨some 18, none, KO.bin BinOp.eql (KV.t 16) (KV.t 17)⟩]).seq (K.cond (KV.t 18) ((K.reg [⟨some 19, none,
    KO.mv (KV.t 5)⟩, ⟨some 4, none, KO.mv (KV.t 19)⟩]).seq K.ret) K.skip))).seq (K.reg [⟨some 10, none, KO.mv (KV.t 5)⟩, ⟨some 11, none, KO.bin BinOp.add (KV.t 10) (KV.c (AV.i
    IntKind.i64 1))⟩, ⟨some 5, none, KO.mv (KV.t 11)⟩]))).loop)).seq ((K.reg [⟨some 4, none, KO.mv (KV.c (AV.i IntKind.i64 (-1)))⟩]).seq K.ret)),
  by kernel_rfl⟩
def k109 : { k : K // comp Go.Proofs.Try.prog Go.Proofs.Try.f109.ntmps hintT (Go.Proofs.Try.f109.body.getD .skip) = k } := ⟨
 (K.reg [⟨some 6, none, KO.mv (KV.c (AV.b false))⟩]).seq ((K.reg [⟨some 7, none, KO.mv (KV.t 0)⟩, ⟨some 8, none, KO.mv (KV.t 1)⟩, ⟨some 9, none, KO.bin BinOp.geq (KV.t 7) (KV.t 8)⟩,
    ⟨some 10, none, KO.mv (KV.t 9)⟩, ⟨some 11, some (10, true), KO.mv (KV.t 0)⟩, ⟨some 12, some (10, true), KO.mv (KV.t 2)⟩, ⟨some 13, some (10, true), KO.bin BinOp.leq (KV.t 11)
    (KV.t 12)⟩, ⟨some 14, none, KO.pick (KV.t 10) (KV.t 13) (KV.c (AV.b false))⟩, ⟨some 6, none, KO.mv (KV.t 14)⟩]).seq K.ret),
  by kernel_rfl⟩
end FrA

