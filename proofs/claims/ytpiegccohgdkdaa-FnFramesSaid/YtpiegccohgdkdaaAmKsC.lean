/- The programs of some functions. No condition. -/
import Derived.Test.YtpiegccohgdkdaaProg
import Derived.Test.YtpiegccohgdkdaaAmFun1
import Derived.Test.YtpiegccohgdkdaaAmHint
import Derived.StillTailTactics
set_option linter.all false
set_option linter.unusedSimpArgs false
set_option linter.unusedVariables false
set_option linter.deprecated false
open Go Go.AM
namespace FrA
set_option maxRecDepth 100000
def k5 : { k : K // comp Go.Proofs.Try.prog Go.Proofs.Try.f5.ntmps hintT (Go.Proofs.Try.f5.body.getD .skip) = k } := ⟨
 (K.reg [⟨some 2, none, KO.mv (KV.c (AV.b false))⟩]).seq (((K.reg [⟨some 16, none, KO.mv (KV.t 0)⟩, ⟨some 17, none, KO.call (KV.f 23) [KV.t 16]⟩]).seq (K.cond (KV.t 17) ((K.reg
    [⟨some 2, none, KO.mv (KV.c (AV.b true))⟩]).seq K.ret) K.skip)).seq ((K.reg [⟨some 18, none, KO.mv (KV.t 0)⟩, ⟨some 19, none, KO.call (KV.f 24) [KV.t 18]⟩, ⟨some 3, none, KO.mv
    (KV.t 19)⟩]).seq ((K.reg [⟨some 21, none, KO.mv (KV.t 3)⟩, ⟨some 22, none, KO.call (KV.f 19) [KV.t 21]⟩, ⟨some 20, none, KO.mv (KV.t 22)⟩, ⟨some 23, none, KO.ext (KV.t 20) 0⟩,
    ⟨some 24, none, KO.ext (KV.t 20) 1⟩, ⟨some 4, none, KO.mv (KV.t 23)⟩, ⟨some 5, none, KO.mv (KV.t 24)⟩]).seq ((K.reg [⟨some 26, none, KO.mv (KV.t 3)⟩, ⟨some 27, none, KO.call
    (KV.f 18) [KV.t 26]⟩, ⟨some 25, none, KO.mv (KV.t 27)⟩, ⟨some 28, none, KO.ext (KV.t 25) 0⟩, ⟨some 29, none, KO.ext (KV.t 25) 1⟩, ⟨some 6, none, KO.mv (KV.t 28)⟩, ⟨some 7, none,
    KO.mv (KV.t 29)⟩]).seq (((K.reg [⟨some 30, none, KO.mv (KV.t 4)⟩, ⟨some 31, none, KO.mv (KV.t 6)⟩, ⟨some 32, none, KO.call (KV.f 25) [KV.t 30, KV.t 31]⟩, ⟨some 33, none, KO.un
    UnOp.not (KV.t 32)⟩, ⟨some 34, none, KO.mv (KV.t 33)⟩, ⟨some 35, some (34, false), KO.mv (KV.t 5)⟩, ⟨some 36, some (34, false), KO.mv (KV.t 7)⟩, ⟨some 37, some (34, false),
    KO.bin BinOp.neq (KV.t 35) (KV.t 36)⟩, ⟨some 38, none, KO.pick (KV.t 34) (KV.c (AV.b true)) (KV.t 37)⟩, ⟨some 39, none, KO.mv (KV.t 38)⟩, ⟨some 40, some (39, false), KO.mv (KV.t
    5)⟩, ⟨some 41, some (39, false), KO.mv (KV.t 3)⟩, ⟨some 42, some (39, false), KO.len true (KV.t 41)⟩, ⟨some 43, some (39, false), KO.bin BinOp.gtr (KV.t 40) (KV.t 42)⟩, ⟨some
    44, none, KO.pick (KV.t 39) (KV.c (AV.b true)) (KV.t 43)⟩]).seq (K.cond (KV.t 44) ((K.reg [⟨some 2, none, KO.mv (KV.c (AV.b false))⟩]).seq K.ret) K.skip)).seq ((K.reg [⟨some 8,
    none, KO.mv (KV.c (AV.s []))⟩]).seq (((K.reg [⟨some 9, none, KO.mv (KV.c (AV.i IntKind.i64 0))⟩]).seq (K.block 0 (((K.reg [⟨some 45, none, KO.mv (KV.t 9)⟩, ⟨some 46, none, KO.mv
    (KV.t 4)⟩, ⟨some 47, none, KO.len false (KV.t 46)⟩, ⟨some 48, none, KO.bin BinOp.lss (KV.t 45) (KV.t 47)⟩]).seq (K.cond (KV.t 48) K.skip (K.exit 0))).seq ((K.block 1 (K.reg
    [⟨some 51, none, KO.mv (KV.t 8)⟩, ⟨some 52, none, KO.mv (KV.t 4)⟩, ⟨some 53, none, KO.mv (KV.t 9)⟩, ⟨some 54, none, KO.idx 1 (KV.t 52) (KV.t 53)⟩, ⟨some 55, none, KO.load false
    1 (KV.t 54)⟩, ⟨some 56, none, KO.call (KV.f 17) [KV.t 55]⟩, ⟨some 57, none, KO.bin BinOp.add (KV.t 51) (KV.t 56)⟩, ⟨some 8, none, KO.mv (KV.t 57)⟩])).seq (K.reg [⟨some 49, none,
    KO.mv (KV.t 9)⟩, ⟨some 50, none, KO.bin BinOp.add (KV.t 49) (KV.c (AV.i IntKind.i64 1))⟩, ⟨some 9, none, KO.mv (KV.t 50)⟩]))).loop)).seq ((K.reg [⟨some 58, none, KO.mv (KV.t
    0)⟩, ⟨some 59, none, KO.call (KV.f 26) [KV.t 58]⟩, ⟨some 10, none, KO.mv (KV.t 59)⟩]).seq ((K.reg [⟨some 61, none, KO.mv (KV.t 8)⟩, ⟨some 62, none, KO.mv (KV.t 10)⟩, ⟨some 63,
    none, KO.call (KV.f 17) [KV.t 62]⟩, ⟨some 64, none, KO.bin BinOp.add (KV.t 61) (KV.t 63)⟩, ⟨some 65, none, KO.call (KV.f 19) [KV.t 64]⟩, ⟨some 60, none, KO.mv (KV.t 65)⟩, ⟨some
    66, none, KO.ext (KV.t 60) 0⟩, ⟨some 67, none, KO.ext (KV.t 60) 1⟩, ⟨some 11, none, KO.mv (KV.t 66)⟩, ⟨some 12, none, KO.mv (KV.t 67)⟩]).seq ((K.reg [⟨some 68, none, KO.mv (KV.t
    0)⟩, ⟨some 69, none, KO.len false (KV.t 68)⟩, ⟨some 70, none, KO.mv (KV.t 8)⟩, ⟨some 71, none, KO.len true (KV.t 70)⟩, ⟨some 72, none, KO.bin BinOp.add (KV.t 71) (KV.c (AV.i
    IntKind.i64 1))⟩, ⟨some 73, none, KO.bin BinOp.rem (KV.t 69) (KV.t 72)⟩, ⟨some 13, none, KO.mv (KV.t 73)⟩]).seq ((K.reg [⟨some 75, none, KO.mv (KV.t 8)⟩, ⟨some 76, none, KO.mv
    (KV.t 13)⟩, ⟨some 77, none, KO.sls (KV.t 75) none (some (KV.t 76))⟩, ⟨some 78, none, KO.call (KV.f 19) [KV.t 77]⟩, ⟨some 74, none, KO.mv (KV.t 78)⟩, ⟨some 79, none, KO.ext (KV.t
    74) 0⟩, ⟨some 80, none, KO.ext (KV.t 74) 1⟩, ⟨some 14, none, KO.mv (KV.t 79)⟩, ⟨some 15, none, KO.mv (KV.t 80)⟩]).seq ((K.reg [⟨some 81, none, KO.mv (KV.t 8)⟩, ⟨some 82, none,
    KO.mv (KV.t 3)⟩, ⟨some 83, none, KO.mv (KV.t 5)⟩, ⟨some 84, none, KO.sls (KV.t 82) none (some (KV.t 83))⟩, ⟨some 85, none, KO.bin BinOp.eql (KV.t 81) (KV.t 84)⟩, ⟨some 86, none,
    KO.mv (KV.t 85)⟩, ⟨some 87, some (86, true), KO.mv (KV.t 11)⟩, ⟨some 88, some (86, true), KO.len false (KV.t 87)⟩, ⟨some 89, some (86, true), KO.mv (KV.t 4)⟩, ⟨some 90, some
    (86, true), KO.len false (KV.t 89)⟩, ⟨some 91, some (86, true), KO.bin BinOp.add (KV.t 90) (KV.c (AV.i IntKind.i64 1))⟩, ⟨some 92, some (86, true), KO.bin BinOp.eql (KV.t 88)
    (KV.t 91)⟩, ⟨some 93, none, KO.pick (KV.t 86) (KV.t 92) (KV.c (AV.b false))⟩, ⟨some 94, none, KO.mv (KV.t 93)⟩, ⟨some 95, some (94, true), KO.mv (KV.t 11)⟩, ⟨some 96, some (94,
    true), KO.mv (KV.t 4)⟩, ⟨some 97, some (94, true), KO.len false (KV.t 96)⟩, ⟨some 98, some (94, true), KO.idx 1 (KV.t 95) (KV.t 97)⟩, ⟨some 99, some (94, true), KO.load false 1
    (KV.t 98)⟩, ⟨some 100, some (94, true), KO.mv (KV.t 10)⟩, ⟨some 101, some (94, true), KO.bin BinOp.eql (KV.t 99) (KV.t 100)⟩, ⟨some 102, none, KO.pick (KV.t 94) (KV.t 101) (KV.c
    (AV.b false))⟩, ⟨some 103, none, KO.mv (KV.t 102)⟩, ⟨some 104, some (103, true), KO.mv (KV.t 12)⟩, ⟨some 105, some (103, true), KO.mv (KV.t 5)⟩, ⟨some 106, some (103, true),
    KO.mv (KV.t 10)⟩, ⟨some 107, some (103, true), KO.call (KV.f 17) [KV.t 106]⟩, ⟨some 108, some (103, true), KO.len true (KV.t 107)⟩, ⟨some 109, some (103, true), KO.bin BinOp.add
    (KV.t 105) (KV.t 108)⟩, ⟨some 110, some (103, true), KO.bin BinOp.eql (KV.t 104) (KV.t 109)⟩, ⟨some 111, none, KO.pick (KV.t 103) (KV.t 110) (KV.c (AV.b false))⟩, ⟨some 112,
    none, KO.mv (KV.t 111)⟩, ⟨some 113, some (112, true), KO.mv (KV.t 14)⟩, ⟨some 114, some (112, true), KO.len false (KV.t 113)⟩, ⟨some 115, some (112, true), KO.mv (KV.t 4)⟩,
    ⟨some 116, some (112, true), KO.len false (KV.t 115)⟩, ⟨some 117, some (112, true), KO.bin BinOp.leq (KV.t 114) (KV.t 116)⟩, ⟨some 118, none, KO.pick (KV.t 112) (KV.t 117) (KV.c
    (AV.b false))⟩, ⟨some 119, none, KO.mv (KV.t 118)⟩, ⟨some 120, some (119, true), KO.mv (KV.t 14)⟩, ⟨some 121, some (119, true), KO.mv (KV.t 4)⟩, ⟨some 122, some (119, true),
    KO.mv (KV.t 14)⟩, ⟨some 123, some (119, true), KO.len false (KV.t 122)⟩, ⟨some 124, some (119, true), KO.slc 1 (KV.t 121) none (some (KV.t 123)) none⟩, ⟨some 125, some (119,
    true), KO.call (KV.f 25) [KV.t 120, KV.t 124]⟩, ⟨some 126, none, KO.pick (KV.t 119) (KV.t 125) (KV.c (AV.b false))⟩, ⟨some 2, none, KO.mv (KV.t 126)⟩]).seq K.ret)))))))))))),
  by kernel_rfl⟩
def k23 : { k : K // comp Go.Proofs.Try.prog Go.Proofs.Try.f23.ntmps hintT (Go.Proofs.Try.f23.body.getD .skip) = k } := ⟨
 (K.reg [⟨some 2, none, KO.mv (KV.c (AV.b false))⟩]).seq ((K.reg [⟨some 3, none, KO.mv (KV.t 0)⟩, ⟨some 4, none, KO.len false (KV.t 3)⟩, ⟨some 5, none, KO.bin BinOp.gtr (KV.t 4)
    (KV.c (AV.i IntKind.i64 1048576))⟩, ⟨some 2, none, KO.mv (KV.t 5)⟩]).seq K.ret),
  by kernel_rfl⟩
def k24 : { k : K // comp Go.Proofs.Try.prog Go.Proofs.Try.f24.ntmps hintT (Go.Proofs.Try.f24.body.getD .skip) = k } := ⟨
 (K.reg [⟨some 2, none, KO.mv (KV.c (AV.s []))⟩]).seq ((K.reg [⟨some 6, none, KO.mv (KV.t 0)⟩, ⟨some 7, none, KO.call (KV.f 64) [KV.t 6]⟩, ⟨some 3, none, KO.mv (KV.t 7)⟩]).seq
    ((K.reg [⟨some 4, none, KO.mv (KV.c (AV.s []))⟩]).seq (((K.reg [⟨some 8, none, KO.mv (KV.t 3)⟩, ⟨some 9, none, KO.call (KV.f 65) [KV.t 8, KV.c (AV.i IntKind.i64 4)]⟩, ⟨some 5,
    none, KO.mv (KV.t 9)⟩]).seq (K.block 0 (((K.reg [⟨some 10, none, KO.mv (KV.t 5)⟩, ⟨some 11, none, KO.bin BinOp.gtr (KV.t 10) (KV.c (AV.i IntKind.i64 0))⟩]).seq (K.cond (KV.t 11)
    K.skip (K.exit 0))).seq ((K.block 1 (K.reg [⟨some 14, none, KO.mv (KV.t 4)⟩, ⟨some 15, none, KO.mv (KV.t 3)⟩, ⟨some 16, none, KO.call (KV.f 66) [KV.t 15]⟩, ⟨some 17, none,
    KO.call (KV.f 16) [KV.t 16]⟩, ⟨some 18, none, KO.bin BinOp.add (KV.t 14) (KV.t 17)⟩, ⟨some 4, none, KO.mv (KV.t 18)⟩])).seq (K.reg [⟨some 12, none, KO.mv (KV.t 5)⟩, ⟨some 13,
    none, KO.bin BinOp.sub (KV.t 12) (KV.c (AV.i IntKind.i64 1))⟩, ⟨some 5, none, KO.mv (KV.t 13)⟩]))).loop)).seq ((K.reg [⟨some 19, none, KO.mv (KV.t 3)⟩, ⟨some 20, none, KO.mv
    (KV.t 4)⟩, ⟨some 21, none, KO.call (KV.f 67) [KV.t 19, KV.t 20]⟩, ⟨some 2, none, KO.mv (KV.t 21)⟩]).seq K.ret)))),
  by kernel_rfl⟩
def k25 : { k : K // comp Go.Proofs.Try.prog Go.Proofs.Try.f25.ntmps hintT (Go.Proofs.Try.f25.body.getD .skip) = k } := ⟨
 (K.reg [⟨some 4, none, KO.mv (KV.c (AV.b false))⟩]).seq (((K.reg [⟨some 6, none, KO.mv (KV.t 0)⟩, ⟨some 7, none, KO.len false (KV.t 6)⟩, ⟨some 8, none, KO.mv (KV.t 1)⟩, ⟨some 9,
    none, KO.len false (KV.t 8)⟩, ⟨some 10, none, KO.bin BinOp.neq (KV.t 7) (KV.t 9)⟩]).seq (K.cond (KV.t 10) ((K.reg [⟨some 4, none, KO.mv (KV.c (AV.b false))⟩]).seq K.ret)
    K.skip)).seq (((K.reg [⟨some 5, none, KO.mv (KV.c (AV.i IntKind.i64 0))⟩]).seq (K.block 0 (((K.reg [⟨some 11, none, KO.mv (KV.t 5)⟩, ⟨some 12, none, KO.mv (KV.t 0)⟩, ⟨some 13,
    none, KO.len false (KV.t 12)⟩, ⟨some 14, none, KO.bin BinOp.lss (KV.t 11) (KV.t 13)⟩]).seq (K.cond (KV.t 14) K.skip (K.exit 0))).seq ((K.block 1 ((K.dreg [⟨some 17, none, KO.mv
    (KV.t 0)⟩, ⟨some 18, none, KO.mv (KV.t 5)⟩, ⟨some 19, none, KO.idx 1 (KV.t 17) (KV.t 18)⟩, ⟨some 20, none, KO.load false 1 (KV.t 19)⟩, ⟨some 21, none, KO.mv (KV.t 1)⟩, ⟨some 22,
    none, KO.mv (KV.t 5)⟩, ⟨some 23, none, KO.idx 1 (KV.t 21) (KV.t 22)⟩, ⟨some 24, none, KO.load false 1 (KV.t 23)⟩, ⟨some 25, none, KO.bin BinOp.neq (KV.t 20) (KV.t 24)⟩] [[], [],
    [0, 1], [2], [], [], [4, 5], [6], [3, 7]]).seq (K.cond (KV.t 25) ((K.reg [⟨some 4, none, KO.mv (KV.c (AV.b false))⟩]).seq K.ret) K.skip))).seq (K.reg [⟨some 15, none, KO.mv
    (KV.t 5)⟩, ⟨some 16, none, KO.bin BinOp.add (KV.t 15) (KV.c (AV.i IntKind.i64 1))⟩, ⟨some 5, none, KO.mv (KV.t 16)⟩]))).loop)).seq ((K.reg [⟨some 4, none, KO.mv (KV.c (AV.b
    true))⟩]).seq K.ret))),
  by kernel_rfl⟩
def k26 : { k : K // comp Go.Proofs.Try.prog Go.Proofs.Try.f26.ntmps hintT (Go.Proofs.Try.f26.body.getD .skip) = k } := ⟨
 (K.reg [⟨some 2, none, KO.mv (KV.c (AV.s []))⟩]).seq ((K.reg [⟨some 4, none, KO.mv (KV.t 0)⟩, ⟨some 5, none, KO.call (KV.f 64) [KV.t 4]⟩, ⟨some 3, none, KO.mv (KV.t 5)⟩]).seq
    ((K.reg [⟨some 6, none, KO.mv (KV.t 3)⟩, ⟨some 7, none, KO.call (KV.f 66) [KV.t 6]⟩, ⟨some 8, none, KO.mv (KV.t 3)⟩, ⟨some 9, none, KO.call (KV.f 68) [KV.t 8, KV.c (AV.i
    IntKind.i64 5)]⟩, ⟨some 10, none, KO.bin BinOp.add (KV.t 7) (KV.t 9)⟩, ⟨some 2, none, KO.mv (KV.t 10)⟩]).seq K.ret)),
  by kernel_rfl⟩
def k64 : { k : K // comp Go.Proofs.Try.prog Go.Proofs.Try.f64.ntmps hintT (Go.Proofs.Try.f64.body.getD .skip) = k } := ⟨
 (K.reg [⟨some 2, none, KO.mv (KV.c AV.nilp)⟩]).seq ((K.reg [⟨some 3, none, KO.mv (KV.t 0)⟩, ⟨some 4, none, KO.build [AV.nils, AV.i IntKind.i64 0] [(0, 1, KV.t 3)]⟩, ⟨some 5, none,
    KO.box (KV.t 4)⟩, ⟨some 2, none, KO.mv (KV.t 5)⟩]).seq K.ret),
  by kernel_rfl⟩
def k65 : { k : K // comp Go.Proofs.Try.prog Go.Proofs.Try.f65.ntmps hintT (Go.Proofs.Try.f65.body.getD .skip) = k } := ⟨
 (K.reg [⟨some 4, none, KO.mv (KV.c (AV.i IntKind.i64 0))⟩]).seq (((K.reg [⟨some 6, none, KO.mv (KV.t 1)⟩, ⟨some 7, none, KO.bin BinOp.leq (KV.t 6) (KV.c (AV.i IntKind.i64
    1))⟩]).seq (K.cond (KV.t 7) ((K.reg [⟨some 4, none, KO.mv (KV.c (AV.i IntKind.i64 0))⟩]).seq K.ret) K.skip)).seq (((K.reg [⟨some 8, none, KO.mv (KV.t 1)⟩, ⟨some 9, none, KO.bin
    BinOp.leq (KV.t 8) (KV.c (AV.i IntKind.i64 256))⟩]).seq (K.cond (KV.t 9) ((K.reg [⟨some 10, none, KO.mv (KV.t 0)⟩, ⟨some 11, none, KO.call (KV.f 111) [KV.t 10]⟩, ⟨some 12, none,
    KO.mv (KV.t 1)⟩, ⟨some 13, none, KO.bin BinOp.rem (KV.t 11) (KV.t 12)⟩, ⟨some 4, none, KO.mv (KV.t 13)⟩]).seq K.ret) K.skip)).seq ((K.reg [⟨some 14, none, KO.mv (KV.t 0)⟩, ⟨some
    15, none, KO.call (KV.f 111) [KV.t 14]⟩, ⟨some 16, none, KO.bin BinOp.mul (KV.t 15) (KV.c (AV.i IntKind.i64 256))⟩, ⟨some 5, none, KO.mv (KV.t 16)⟩]).seq ((K.reg [⟨some 17,
    none, KO.mv (KV.t 5)⟩, ⟨some 18, none, KO.mv (KV.t 0)⟩, ⟨some 19, none, KO.call (KV.f 111) [KV.t 18]⟩, ⟨some 20, none, KO.bin BinOp.add (KV.t 17) (KV.t 19)⟩, ⟨some 5, none,
    KO.mv (KV.t 20)⟩]).seq ((K.reg [⟨some 21, none, KO.mv (KV.t 5)⟩, ⟨some 22, none, KO.mv (KV.t 1)⟩, ⟨some 23, none, KO.bin BinOp.rem (KV.t 21) (KV.t 22)⟩, ⟨some 4, none, KO.mv
    (KV.t 23)⟩]).seq K.ret))))),
  by kernel_rfl⟩
def k66 : { k : K // comp Go.Proofs.Try.prog Go.Proofs.Try.f66.ntmps hintT (Go.Proofs.Try.f66.body.getD .skip) = k } := ⟨
 (K.reg [⟨some 2, none, KO.mv (KV.c (AV.s []))⟩]).seq ((K.reg [⟨some 3, none, KO.bslice 1 5 [AV.s []] [(0, KV.c (AV.s [])), (1, KV.c (AV.s [97])), (2, KV.c (AV.s [120, 10])), (3,
    KV.c (AV.s [97, 98, 99])), (4, KV.c (AV.s [0]))]⟩, ⟨some 4, none, KO.mv (KV.t 0)⟩, ⟨some 5, none, KO.call (KV.f 65) [KV.t 4, KV.c (AV.i IntKind.i64 5)]⟩, ⟨some 6, none, KO.idx 1
    (KV.t 3) (KV.t 5)⟩, ⟨some 7, none, KO.load false 1 (KV.t 6)⟩, ⟨some 2, none, KO.mv (KV.t 7)⟩]).seq K.ret),
  by kernel_rfl⟩
def k67 : { k : K // comp Go.Proofs.Try.prog Go.Proofs.Try.f67.ntmps hintT (Go.Proofs.Try.f67.body.getD .skip) = k } := ⟨
 (K.reg [⟨some 4, none, KO.mv (KV.c (AV.s []))⟩]).seq (((K.reg [⟨some 6, none, KO.mv (KV.t 0)⟩, ⟨some 7, none, KO.call (KV.f 65) [KV.t 6, KV.c (AV.i IntKind.i64 6)]⟩]).seq (K.block
    0 ((K.reg [⟨some 9, none, KO.bin BinOp.eql (KV.t 7) (KV.c (AV.i IntKind.i64 1))⟩, ⟨some 8, none, KO.mv (KV.t 9)⟩]).seq (K.cond (KV.t 8) ((K.reg [⟨some 10, none, KO.mv (KV.t 1)⟩,
    ⟨some 11, none, KO.mv (KV.t 0)⟩, ⟨some 12, none, KO.mv (KV.t 1)⟩, ⟨some 13, none, KO.len true (KV.t 12)⟩, ⟨some 14, none, KO.bin BinOp.add (KV.t 13) (KV.c (AV.i IntKind.i64
    1))⟩, ⟨some 15, none, KO.call (KV.f 65) [KV.t 11, KV.t 14]⟩, ⟨some 16, none, KO.sls (KV.t 10) none (some (KV.t 15))⟩, ⟨some 4, none, KO.mv (KV.t 16)⟩]).seq K.ret) ((K.reg [⟨some
    18, none, KO.bin BinOp.eql (KV.t 7) (KV.c (AV.i IntKind.i64 2))⟩, ⟨some 17, none, KO.mv (KV.t 18)⟩]).seq (K.cond (KV.t 17) ((K.reg [⟨some 19, none, KO.mv (KV.t 1)⟩, ⟨some 20,
    none, KO.len true (KV.t 19)⟩, ⟨some 21, none, KO.bin BinOp.gtr (KV.t 20) (KV.c (AV.i IntKind.i64 0))⟩]).seq (K.cond (KV.t 21) ((K.reg [⟨some 22, none, KO.mv (KV.t 0)⟩, ⟨some 23,
    none, KO.mv (KV.t 1)⟩, ⟨some 24, none, KO.len true (KV.t 23)⟩, ⟨some 25, none, KO.call (KV.f 65) [KV.t 22, KV.t 24]⟩, ⟨some 5, none, KO.mv (KV.t 25)⟩]).seq ((K.dreg [⟨some 26,
    none, KO.mv (KV.t 1)⟩, ⟨some 27, none, KO.mv (KV.t 5)⟩, ⟨some 28, none, KO.sls (KV.t 26) none (some (KV.t 27))⟩, ⟨some 29, none, KO.bslice 1 6 [AV.s []] [(0, KV.c (AV.s [97])),
    (1, KV.c (AV.s [48])), (2, KV.c (AV.s [39])), (3, KV.c (AV.s [49])), (4, KV.c (AV.s [37])), (5, KV.c (AV.s [32]))]⟩, ⟨some 30, none, KO.mv (KV.t 0)⟩, ⟨some 31, none, KO.callh
    (KV.f 65) [KV.t 30, KV.c (AV.i IntKind.i64 6)]⟩, ⟨some 32, none, KO.idx 1 (KV.t 29) (KV.t 31)⟩, ⟨some 33, none, KO.load false 1 (KV.t 32)⟩, ⟨some 34, none, KO.bin BinOp.add
    (KV.t 28) (KV.t 33)⟩, ⟨some 35, none, KO.mv (KV.t 1)⟩, ⟨some 36, none, KO.mv (KV.t 5)⟩, ⟨some 37, none, KO.bin BinOp.add (KV.t 36) (KV.c (AV.i IntKind.i64 1))⟩, ⟨some 38, none,
    KO.sls (KV.t 35) (some (KV.t 37)) none⟩, ⟨some 39, none, KO.bin BinOp.add (KV.t 34) (KV.t 38)⟩, ⟨some 4, none, KO.mv (KV.t 39)⟩] [[], [], [0, 1], [], [], [4], [3, 5], [6], [2,
    7], [], [], [10], [9, 11], [8, 12], [13, 5, 0, 1, 2, 3, 4, 5, 6, 7, 8, 9, 10, 11, 12, 13]]).seq K.ret)) K.skip)) ((K.reg [⟨some 41, none, KO.bin BinOp.eql (KV.t 7) (KV.c (AV.i
    IntKind.i64 3))⟩, ⟨some 40, none, KO.mv (KV.t 41)⟩]).seq (K.cond (KV.t 40) ((K.reg [⟨some 42, none, KO.mv (KV.t 1)⟩, ⟨some 43, none, KO.bslice 1 3 [AV.s []] [(0, KV.c (AV.s
    [97])), (1, KV.c (AV.s [10])), (2, KV.c (AV.s [49]))]⟩, ⟨some 44, none, KO.mv (KV.t 0)⟩, ⟨some 45, none, KO.call (KV.f 65) [KV.t 44, KV.c (AV.i IntKind.i64 3)]⟩, ⟨some 46, none,
    KO.idx 1 (KV.t 43) (KV.t 45)⟩, ⟨some 47, none, KO.load false 1 (KV.t 46)⟩, ⟨some 48, none, KO.bin BinOp.add (KV.t 42) (KV.t 47)⟩, ⟨some 4, none, KO.mv (KV.t 48)⟩]).seq K.ret)
    K.skip)))))))).seq ((K.reg [⟨some 49, none, KO.mv (KV.t 1)⟩, ⟨some 4, none, KO.mv (KV.t 49)⟩]).seq K.ret)),
  by kernel_rfl⟩
def k68 : { k : K // comp Go.Proofs.Try.prog Go.Proofs.Try.f68.ntmps hintT (Go.Proofs.Try.f68.body.getD .skip) = k } := ⟨
 (K.reg [⟨some 4, none, KO.mv (KV.c (AV.s []))⟩]).seq ((K.reg [⟨some 7, none, KO.bslice 1 0 [AV.i IntKind.u8 0] []⟩, ⟨some 5, none, KO.mv (KV.t 7)⟩]).seq (((K.reg [⟨some 8, none,
    KO.mv (KV.t 0)⟩, ⟨some 9, none, KO.mv (KV.t 1)⟩, ⟨some 10, none, KO.bin BinOp.add (KV.t 9) (KV.c (AV.i IntKind.i64 1))⟩, ⟨some 11, none, KO.call (KV.f 65) [KV.t 8, KV.t 10]⟩,
    ⟨some 6, none, KO.mv (KV.t 11)⟩]).seq (K.block 0 (((K.reg [⟨some 12, none, KO.mv (KV.t 6)⟩, ⟨some 13, none, KO.bin BinOp.gtr (KV.t 12) (KV.c (AV.i IntKind.i64 0))⟩]).seq (K.cond
    (KV.t 13) K.skip (K.exit 0))).seq ((K.block 1 (K.reg [⟨some 16, none, KO.mv (KV.t 5)⟩, ⟨some 17, none, KO.mv (KV.t 0)⟩, ⟨some 18, none, KO.call (KV.f 65) [KV.t 17, KV.c (AV.i
    IntKind.i64 256)]⟩, ⟨some 19, none, KO.conv (KC.int IntKind.u8) (KV.t 18)⟩, ⟨some 20, none, KO.bslice 1 1 [AV.i IntKind.u8 0] [(0, KV.t 19)]⟩, ⟨some 21, none, KO.app 1 1 [AV.i
    IntKind.u8 0] (KV.t 16) (KV.t 20)⟩, ⟨some 5, none, KO.mv (KV.t 21)⟩])).seq (K.reg [⟨some 14, none, KO.mv (KV.t 6)⟩, ⟨some 15, none, KO.bin BinOp.sub (KV.t 14) (KV.c (AV.i
    IntKind.i64 1))⟩, ⟨some 6, none, KO.mv (KV.t 15)⟩]))).loop)).seq ((K.reg [⟨some 22, none, KO.mv (KV.t 5)⟩, ⟨some 23, none, KO.conv KC.b2s (KV.t 22)⟩, ⟨some 4, none, KO.mv (KV.t
    23)⟩]).seq K.ret))),
  by kernel_rfl⟩
def k111 : { k : K // comp Go.Proofs.Try.prog Go.Proofs.Try.f111.ntmps hintT (Go.Proofs.Try.f111.body.getD .skip) = k } := ⟨
 (K.reg [⟨some 2, none, KO.mv (KV.c (AV.i IntKind.i64 0))⟩]).seq (((K.dreg [⟨some 3, none, KO.mv (KV.t 0)⟩, ⟨some 4, none, KO.nilck (KV.t 3)⟩, ⟨some 5, none, KO.fld 1 (KV.t 4)⟩,
    ⟨some 6, none, KO.load false 1 (KV.t 5)⟩, ⟨some 7, none, KO.mv (KV.t 0)⟩, ⟨some 8, none, KO.nilck (KV.t 7)⟩, ⟨some 9, none, KO.fld 0 (KV.t 8)⟩, ⟨some 10, none, KO.load false 1
    (KV.t 9)⟩, ⟨some 11, none, KO.len false (KV.t 10)⟩, ⟨some 12, none, KO.bin BinOp.geq (KV.t 6) (KV.t 11)⟩] [[], [0], [1], [2], [], [4], [5], [6], [7], [3, 8]]).seq (K.cond (KV.t
    12) ((K.reg [⟨some 2, none, KO.mv (KV.c (AV.i IntKind.i64 0))⟩]).seq K.ret) K.skip)).seq ((K.reg [⟨some 13, none, KO.mv (KV.t 0)⟩, ⟨some 14, none, KO.nilck (KV.t 13)⟩, ⟨some 15,
    none, KO.fld 1 (KV.t 14)⟩, ⟨some 16, none, KO.load false 1 (KV.t 15)⟩, ⟨some 17, none, KO.bin BinOp.add (KV.t 16) (KV.c (AV.i IntKind.i64 1))⟩, ⟨some 18, none, KO.nilck (KV.t
    13)⟩, ⟨some 19, none, KO.fld 1 (KV.t 18)⟩, ⟨none, none, KO.store 1 (KV.t 19) (KV.t 17)⟩]).seq ((K.dreg [⟨some 20, none, KO.mv (KV.t 0)⟩, ⟨some 21, none, KO.nilck (KV.t 20)⟩,
    ⟨some 22, none, KO.fld 0 (KV.t 21)⟩, ⟨some 23, none, KO.load false 1 (KV.t 22)⟩, ⟨some 24, none, KO.mv (KV.t 0)⟩, ⟨some 25, none, KO.nilck (KV.t 24)⟩, ⟨some 26, none, KO.fld 1
    (KV.t 25)⟩, ⟨some 27, none, KO.load false 1 (KV.t 26)⟩, ⟨some 28, none, KO.bin BinOp.sub (KV.t 27) (KV.c (AV.i IntKind.i64 1))⟩, ⟨some 29, none, KO.idx 1 (KV.t 23) (KV.t 28)⟩,
    ⟨some 30, none, KO.load false 1 (KV.t 29)⟩, ⟨some 31, none, KO.conv (KC.int IntKind.i64) (KV.t 30)⟩, ⟨some 2, none, KO.mv (KV.t 31)⟩] [[], [0], [1], [2], [], [4], [5], [6], [7],
    [3, 8], [9], [10], [11, 0, 1, 2, 3, 4, 5, 6, 7, 8, 9, 10, 11]]).seq K.ret))),
  by kernel_rfl⟩
end FrA
