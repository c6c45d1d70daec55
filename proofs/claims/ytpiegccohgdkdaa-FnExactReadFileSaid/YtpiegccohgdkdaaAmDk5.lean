/- The programs of some functions. No condition. -/
import Derived.Test.YtpiegccohgdkdaaProg
import Derived.Test.YtpiegccohgdkdaaAmFuns
import Derived.Test.YtpiegccohgdkdaaAmSeat
import Derived.StillTailTactics
import Derived.Test.YtpiegccohgdkdaaAmDk4
set_option linter.all false
set_option linter.unusedSimpArgs false
set_option linter.unusedVariables false
set_option linter.deprecated false
/-! KsG -/
open Go Go.AM
namespace FrA
set_option maxRecDepth 100000
def k9 : { k : K // comp Go.Proofs.Try.prog Go.Proofs.Try.f9.ntmps hintT (Go.Proofs.Try.f9.body.getD .skip) = k } := ⟨
 (K.reg [⟨some 2, none, KO.box (KV.t 0)⟩, ⟨some 4, none, KO.mv (KV.c (AV.b false))⟩]).seq (((K.reg [⟨some 11, none, KO.mv (KV.t 1)⟩, ⟨some 12, none, KO.len true (KV.t 11)⟩, ⟨some
    13, none, KO.bin BinOp.gtr (KV.t 12) (KV.c (AV.i IntKind.i64 1048576))⟩]).seq (K.cond (KV.t 13) ((K.reg [⟨some 4, none, KO.mv (KV.c (AV.b true))⟩]).seq K.ret) K.skip)).seq
    ((K.reg [⟨some 5, none, KO.mv (KV.c (AV.i IntKind.i64 1048576))⟩]).seq ((K.reg [⟨some 14, none, KO.load true 3 (KV.t 2)⟩, ⟨some 15, none, KO.mv (KV.t 5)⟩, ⟨some 16, none,
    KO.call (KV.f 40) [KV.t 14, KV.t 15]⟩, ⟨some 5, none, KO.mv (KV.t 16)⟩]).seq (((K.reg [⟨some 17, none, KO.mv (KV.t 5)⟩, ⟨some 18, none, KO.bin BinOp.lss (KV.t 17) (KV.c (AV.i
    IntKind.i64 0))⟩]).seq (K.cond (KV.t 18) ((K.reg [⟨some 4, none, KO.mv (KV.c (AV.b true))⟩]).seq K.ret) K.skip)).seq ((K.reg [⟨some 20, none, KO.load true 3 (KV.t 2)⟩, ⟨some 21,
    none, KO.call (KV.f 41) [KV.t 20]⟩, ⟨some 22, none, KO.mv (KV.t 1)⟩, ⟨some 23, none, KO.call (KV.f 43) [KV.t 21, KV.t 22]⟩, ⟨some 19, none, KO.mv (KV.t 23)⟩, ⟨some 24, none,
    KO.ext (KV.t 19) 0⟩, ⟨some 25, none, KO.ext (KV.t 19) 1⟩, ⟨some 6, none, KO.mv (KV.t 24)⟩, ⟨some 7, none, KO.mv (KV.t 25)⟩]).seq ((K.reg [⟨some 26, none, KO.load true 3 (KV.t
    2)⟩, ⟨some 27, none, KO.call (KV.f 41) [KV.t 26]⟩, ⟨some 8, none, KO.alloc [AV.nils, AV.nils, AV.nils]⟩, ⟨none, none, KO.store 3 (KV.t 8) (KV.t 27)⟩]).seq ((K.reg [⟨some 29,
    none, KO.load true 3 (KV.t 8)⟩, ⟨some 30, none, KO.mv (KV.t 1)⟩, ⟨some 31, none, KO.call (KV.f 44) [KV.t 29, KV.t 30]⟩, ⟨some 28, none, KO.mv (KV.t 31)⟩, ⟨some 32, none, KO.ext
    (KV.t 28) 0⟩, ⟨some 33, none, KO.ext (KV.t 28) 1⟩, ⟨some 9, none, KO.mv (KV.t 32)⟩, ⟨some 10, none, KO.mv (KV.t 33)⟩]).seq (((K.reg [⟨some 34, none, KO.mv (KV.t 9)⟩, ⟨some 35,
    none, KO.mv (KV.t 6)⟩, ⟨some 36, none, KO.bin BinOp.neq (KV.t 34) (KV.t 35)⟩, ⟨some 37, none, KO.mv (KV.t 36)⟩, ⟨some 38, some (37, false), KO.mv (KV.t 10)⟩, ⟨some 39, some (37,
    false), KO.mv (KV.t 7)⟩, ⟨some 40, some (37, false), KO.eqt EqT.bool true (KV.t 38) (KV.t 39)⟩, ⟨some 41, none, KO.pick (KV.t 37) (KV.c (AV.b true)) (KV.t 40)⟩]).seq (K.cond
    (KV.t 41) ((K.reg [⟨some 4, none, KO.mv (KV.c (AV.b false))⟩]).seq K.ret) K.skip)).seq (((K.dreg [⟨some 42, none, KO.load true 3 (KV.t 8)⟩, ⟨some 43, none, KO.load true 3 (KV.t
    2)⟩, ⟨some 44, none, KO.call0 (KV.f 41) [KV.t 43]⟩, ⟨some 45, none, KO.call0 (KV.f 42) [KV.t 42, KV.t 44]⟩, ⟨some 46, none, KO.un UnOp.not (KV.t 45)⟩] [[], [], [1], [0, 2, 2],
    [3]]).seq (K.cond (KV.t 46) ((K.reg [⟨some 4, none, KO.mv (KV.c (AV.b false))⟩]).seq K.ret) K.skip)).seq ((K.reg [⟨some 4, none, KO.mv (KV.c (AV.b true))⟩]).seq K.ret)))))))))),
  by kernel_rfl⟩
def k43 : { k : K // comp Go.Proofs.Try.prog Go.Proofs.Try.f43.ntmps hintT (Go.Proofs.Try.f43.body.getD .skip) = k } := ⟨
 (K.reg [⟨some 2, none, KO.box (KV.t 0)⟩, ⟨some 4, none, KO.mv (KV.c (AV.s []))⟩, ⟨some 5, none, KO.mv (KV.c (AV.b false))⟩]).seq (((K.reg [⟨some 7, none, KO.load true 3 (KV.t 2)⟩,
    ⟨some 8, none, KO.call (KV.f 36) [KV.t 7]⟩, ⟨some 9, none, KO.un UnOp.not (KV.t 8)⟩]).seq (K.cond (KV.t 9) ((K.reg [⟨some 4, none, KO.mv (KV.c (AV.s []))⟩, ⟨some 5, none, KO.mv
    (KV.c (AV.b false))⟩]).seq K.ret) K.skip)).seq ((K.reg [⟨some 10, none, KO.fld 0 (KV.t 2)⟩, ⟨some 11, none, KO.load false 1 (KV.t 10)⟩, ⟨some 12, none, KO.mv (KV.t 1)⟩, ⟨some
    13, none, KO.call (KV.f 95) [KV.t 11, KV.t 12]⟩, ⟨some 6, none, KO.mv (KV.t 13)⟩]).seq (((K.reg [⟨some 14, none, KO.mv (KV.t 6)⟩, ⟨some 15, none, KO.bin BinOp.lss (KV.t 14)
    (KV.c (AV.i IntKind.i64 0))⟩]).seq (K.cond (KV.t 15) ((K.reg [⟨some 4, none, KO.mv (KV.c (AV.s []))⟩, ⟨some 5, none, KO.mv (KV.c (AV.b false))⟩]).seq K.ret) K.skip)).seq ((K.reg
    [⟨some 16, none, KO.fld 0 (KV.t 2)⟩, ⟨some 17, none, KO.load false 1 (KV.t 16)⟩, ⟨some 18, none, KO.mv (KV.t 6)⟩, ⟨some 19, none, KO.idx 2 (KV.t 17) (KV.t 18)⟩, ⟨some 20, none,
    KO.fld 1 (KV.t 19)⟩, ⟨some 21, none, KO.load false 1 (KV.t 20)⟩, ⟨some 4, none, KO.mv (KV.t 21)⟩, ⟨some 5, none, KO.mv (KV.c (AV.b true))⟩]).seq K.ret)))),
  by kernel_rfl⟩
def k44 : { k : K // comp Go.Proofs.Try.prog Go.Proofs.Try.f44.ntmps hintT (Go.Proofs.Try.f44.body.getD .skip) = k } := ⟨
 (K.reg [⟨some 2, none, KO.box (KV.t 0)⟩, ⟨some 4, none, KO.mv (KV.c (AV.s []))⟩, ⟨some 5, none, KO.mv (KV.c (AV.b false))⟩]).seq (((K.reg [⟨some 6, none, KO.load true 3 (KV.t 2)⟩,
    ⟨some 7, none, KO.call (KV.f 35) [KV.t 6]⟩, ⟨some 8, none, KO.un UnOp.not (KV.t 7)⟩]).seq (K.cond (KV.t 8) ((K.reg [⟨some 4, none, KO.mv (KV.c (AV.s []))⟩, ⟨some 5, none, KO.mv
    (KV.c (AV.b false))⟩]).seq K.ret) K.skip)).seq ((K.reg [⟨some 9, none, KO.load true 3 (KV.t 2)⟩, ⟨some 10, none, KO.mv (KV.t 1)⟩, ⟨some 11, none, KO.call (KV.f 96) [KV.t 9, KV.t
    10]⟩, ⟨some 12, none, KO.ext (KV.t 11) 0⟩, ⟨some 13, none, KO.ext (KV.t 11) 1⟩, ⟨some 4, none, KO.mv (KV.t 12)⟩, ⟨some 5, none, KO.mv (KV.t 13)⟩]).seq K.ret)),
  by kernel_rfl⟩
def k96 : { k : K // comp Go.Proofs.Try.prog Go.Proofs.Try.f96.ntmps hintT (Go.Proofs.Try.f96.body.getD .skip) = k } := ⟨
 (K.reg [⟨some 2, none, KO.box (KV.t 0)⟩, ⟨some 4, none, KO.mv (KV.c (AV.s []))⟩, ⟨some 5, none, KO.mv (KV.c (AV.b false))⟩]).seq ((K.reg [⟨some 9, none, KO.fld 0 (KV.t 2)⟩, ⟨some
    10, none, KO.load false 1 (KV.t 9)⟩, ⟨some 11, none, KO.mv (KV.t 1)⟩, ⟨some 12, none, KO.call (KV.f 118) [KV.t 10, KV.t 11]⟩, ⟨some 8, none, KO.mv (KV.t 12)⟩, ⟨some 13, none,
    KO.ext (KV.t 8) 0⟩, ⟨some 14, none, KO.ext (KV.t 8) 1⟩, ⟨some 6, none, KO.mv (KV.t 13)⟩, ⟨some 7, none, KO.mv (KV.t 14)⟩]).seq (((K.reg [⟨some 15, none, KO.mv (KV.t 7)⟩, ⟨some
    16, none, KO.un UnOp.not (KV.t 15)⟩]).seq (K.cond (KV.t 16) ((K.reg [⟨some 4, none, KO.mv (KV.c (AV.s []))⟩, ⟨some 5, none, KO.mv (KV.c (AV.b false))⟩]).seq K.ret) K.skip)).seq
    ((K.reg [⟨some 17, none, KO.fld 0 (KV.t 2)⟩, ⟨some 18, none, KO.load false 1 (KV.t 17)⟩, ⟨some 19, none, KO.mv (KV.t 6)⟩, ⟨some 20, none, KO.idx 2 (KV.t 18) (KV.t 19)⟩, ⟨some
    21, none, KO.fld 1 (KV.t 20)⟩, ⟨some 22, none, KO.load false 1 (KV.t 21)⟩, ⟨some 4, none, KO.mv (KV.t 22)⟩, ⟨some 5, none, KO.mv (KV.c (AV.b true))⟩]).seq K.ret))),
  by kernel_rfl⟩
def k7 : { k : K // comp Go.Proofs.Try.prog Go.Proofs.Try.f7.ntmps hintT (Go.Proofs.Try.f7.body.getD .skip) = k } := ⟨
 (K.reg [⟨some 2, none, KO.mv (KV.c (AV.b false))⟩]).seq (((K.reg [⟨some 11, none, KO.mv (KV.t 0)⟩, ⟨some 12, none, KO.call (KV.f 23) [KV.t 11]⟩]).seq (K.cond (KV.t 12) ((K.reg
    [⟨some 2, none, KO.mv (KV.c (AV.b true))⟩]).seq K.ret) K.skip)).seq ((K.reg [⟨some 13, none, KO.mv (KV.t 0)⟩, ⟨some 14, none, KO.call (KV.f 34) [KV.t 13]⟩, ⟨some 3, none,
    KO.alloc [AV.nils, AV.nils, AV.nils]⟩, ⟨none, none, KO.store 3 (KV.t 3) (KV.t 14)⟩]).seq (((K.dreg [⟨some 15, none, KO.load true 3 (KV.t 3)⟩, ⟨some 16, none, KO.call0 (KV.f 35)
    [KV.t 15]⟩, ⟨some 17, none, KO.load true 3 (KV.t 3)⟩, ⟨some 18, none, KO.call0 (KV.f 36) [KV.t 17]⟩, ⟨some 19, none, KO.eqt EqT.bool true (KV.t 16) (KV.t 18)⟩] [[], [0], [], [2,
    1], [1, 3]]).seq (K.cond (KV.t 19) ((K.reg [⟨some 2, none, KO.mv (KV.c (AV.b false))⟩]).seq K.ret) K.skip)).seq ((K.reg [⟨some 20, none, KO.bslice 1 0 [AV.i IntKind.i64 0] []⟩,
    ⟨some 4, none, KO.mv (KV.t 20)⟩]).seq (((K.reg [⟨some 5, none, KO.mv (KV.c (AV.i IntKind.i64 0))⟩]).seq (K.block 0 (((K.reg [⟨some 21, none, KO.mv (KV.t 5)⟩, ⟨some 22, none,
    KO.fld 2 (KV.t 3)⟩, ⟨some 23, none, KO.load false 1 (KV.t 22)⟩, ⟨some 24, none, KO.len false (KV.t 23)⟩, ⟨some 25, none, KO.bin BinOp.lss (KV.t 21) (KV.t 24)⟩]).seq (K.cond
    (KV.t 25) K.skip (K.exit 0))).seq ((K.block 1 (K.reg [⟨some 28, none, KO.mv (KV.t 4)⟩, ⟨some 29, none, KO.mv (KV.t 5)⟩, ⟨some 30, none, KO.bslice 1 1 [AV.i IntKind.i64 0] [(0,
    KV.t 29)]⟩, ⟨some 31, none, KO.app 1 8 [AV.i IntKind.i64 0] (KV.t 28) (KV.t 30)⟩, ⟨some 4, none, KO.mv (KV.t 31)⟩])).seq (K.reg [⟨some 26, none, KO.mv (KV.t 5)⟩, ⟨some 27, none,
    KO.bin BinOp.add (KV.t 26) (KV.c (AV.i IntKind.i64 1))⟩, ⟨some 5, none, KO.mv (KV.t 27)⟩]))).loop)).seq ((K.reg [⟨some 33, none, KO.load true 3 (KV.t 3)⟩, ⟨some 34, none, KO.mv
    (KV.t 4)⟩, ⟨some 35, none, KO.call (KV.f 37) [KV.t 33, KV.t 34, KV.c (AV.i IntKind.i64 1099511627776)]⟩, ⟨some 32, none, KO.mv (KV.t 35)⟩, ⟨some 36, none, KO.ext (KV.t 32) 0⟩,
    ⟨some 37, none, KO.ext (KV.t 32) 1⟩, ⟨some 6, none, KO.alloc [AV.nils, AV.nils, AV.nils]⟩, ⟨none, none, KO.store 3 (KV.t 6) (KV.t 36)⟩, ⟨some 7, none, KO.mv (KV.t 37)⟩]).seq
    ((K.reg [⟨some 39, none, KO.load true 3 (KV.t 3)⟩, ⟨some 40, none, KO.call (KV.f 37) [KV.t 39, KV.c AV.nils, KV.c (AV.i IntKind.i64 0)]⟩, ⟨some 38, none, KO.mv (KV.t 40)⟩, ⟨some
    41, none, KO.ext (KV.t 38) 0⟩, ⟨some 42, none, KO.ext (KV.t 38) 1⟩, ⟨some 8, none, KO.alloc [AV.nils, AV.nils, AV.nils]⟩, ⟨none, none, KO.store 3 (KV.t 8) (KV.t 41)⟩, ⟨some 9,
    none, KO.mv (KV.t 42)⟩]).seq (((K.reg [⟨some 43, none, KO.mv (KV.t 7)⟩, ⟨some 44, none, KO.load true 3 (KV.t 3)⟩, ⟨some 45, none, KO.call (KV.f 35) [KV.t 44]⟩, ⟨some 46, none,
    KO.eqt EqT.bool true (KV.t 43) (KV.t 45)⟩, ⟨some 47, none, KO.mv (KV.t 46)⟩, ⟨some 48, some (47, false), KO.mv (KV.t 9)⟩, ⟨some 49, some (47, false), KO.mv (KV.t 7)⟩, ⟨some 50,
    some (47, false), KO.eqt EqT.bool true (KV.t 48) (KV.t 49)⟩, ⟨some 51, none, KO.pick (KV.t 47) (KV.c (AV.b true)) (KV.t 50)⟩]).seq (K.cond (KV.t 51) ((K.reg [⟨some 2, none,
    KO.mv (KV.c (AV.b false))⟩]).seq K.ret) K.skip)).seq (((K.reg [⟨some 52, none, KO.mv (KV.t 7)⟩, ⟨some 53, none, KO.un UnOp.not (KV.t 52)⟩]).seq (K.cond (KV.t 53) ((K.reg [⟨some
    54, none, KO.fld 0 (KV.t 6)⟩, ⟨some 55, none, KO.load false 1 (KV.t 54)⟩, ⟨some 56, none, KO.len false (KV.t 55)⟩, ⟨some 57, none, KO.bin BinOp.eql (KV.t 56) (KV.c (AV.i
    IntKind.i64 0))⟩, ⟨some 2, none, KO.mv (KV.t 57)⟩]).seq K.ret) K.skip)).seq ((K.reg [⟨some 58, none, KO.load true 3 (KV.t 3)⟩, ⟨some 59, none, KO.call (KV.f 38) [KV.t 58]⟩,
    ⟨some 10, none, KO.alloc [AV.nils, AV.nils, AV.nils]⟩, ⟨none, none, KO.store 3 (KV.t 10) (KV.t 59)⟩]).seq ((K.reg [⟨some 60, none, KO.fld 0 (KV.t 6)⟩, ⟨some 61, none, KO.load
    false 1 (KV.t 60)⟩, ⟨some 62, none, KO.fld 0 (KV.t 3)⟩, ⟨some 63, none, KO.load false 1 (KV.t 62)⟩, ⟨some 64, none, KO.call (KV.f 39) [KV.t 61, KV.t 63]⟩, ⟨some 65, none, KO.mv
    (KV.t 64)⟩, ⟨some 66, some (65, true), KO.fld 1 (KV.t 6)⟩, ⟨some 67, some (65, true), KO.load false 1 (KV.t 66)⟩, ⟨some 68, some (65, true), KO.fld 0 (KV.t 3)⟩, ⟨some 69, some
    (65, true), KO.load false 1 (KV.t 68)⟩, ⟨some 70, some (65, true), KO.call (KV.f 39) [KV.t 67, KV.t 69]⟩, ⟨some 71, none, KO.pick (KV.t 65) (KV.t 70) (KV.c (AV.b false))⟩, ⟨some
    72, none, KO.mv (KV.t 71)⟩, ⟨some 73, some (72, true), KO.fld 0 (KV.t 8)⟩, ⟨some 74, some (72, true), KO.load false 1 (KV.t 73)⟩, ⟨some 75, some (72, true), KO.fld 1 (KV.t 3)⟩,
    ⟨some 76, some (72, true), KO.load false 1 (KV.t 75)⟩, ⟨some 77, some (72, true), KO.call (KV.f 39) [KV.t 74, KV.t 76]⟩, ⟨some 78, none, KO.pick (KV.t 72) (KV.t 77) (KV.c (AV.b
    false))⟩, ⟨some 79, none, KO.mv (KV.t 78)⟩, ⟨some 80, some (79, true), KO.fld 2 (KV.t 6)⟩, ⟨some 81, some (79, true), KO.load false 1 (KV.t 80)⟩, ⟨some 82, some (79, true),
    KO.len false (KV.t 81)⟩, ⟨some 83, some (79, true), KO.fld 2 (KV.t 8)⟩, ⟨some 84, some (79, true), KO.load false 1 (KV.t 83)⟩, ⟨some 85, some (79, true), KO.len false (KV.t
    84)⟩, ⟨some 86, some (79, true), KO.bin BinOp.add (KV.t 82) (KV.t 85)⟩, ⟨some 87, some (79, true), KO.bin BinOp.eql (KV.t 86) (KV.c (AV.i IntKind.i64 0))⟩, ⟨some 88, none,
    KO.pick (KV.t 79) (KV.t 87) (KV.c (AV.b false))⟩, ⟨some 89, none, KO.mv (KV.t 88)⟩, ⟨some 90, some (89, true), KO.fld 1 (KV.t 10)⟩, ⟨some 91, some (89, true), KO.load false 1
    (KV.t 90)⟩, ⟨some 92, some (89, true), KO.fld 0 (KV.t 3)⟩, ⟨some 93, some (89, true), KO.load false 1 (KV.t 92)⟩, ⟨some 94, some (89, true), KO.call (KV.f 39) [KV.t 91, KV.t
    93]⟩, ⟨some 95, none, KO.pick (KV.t 89) (KV.t 94) (KV.c (AV.b false))⟩, ⟨some 96, none, KO.mv (KV.t 95)⟩, ⟨some 97, some (96, true), KO.fld 2 (KV.t 10)⟩, ⟨some 98, some (96,
    true), KO.load false 1 (KV.t 97)⟩, ⟨some 99, some (96, true), KO.len false (KV.t 98)⟩, ⟨some 100, some (96, true), KO.bin BinOp.eql (KV.t 99) (KV.c (AV.i IntKind.i64 0))⟩, ⟨some
    101, none, KO.pick (KV.t 96) (KV.t 100) (KV.c (AV.b false))⟩, ⟨some 2, none, KO.mv (KV.t 101)⟩]).seq K.ret))))))))))),
  by kernel_rfl⟩
def k34 : { k : K // comp Go.Proofs.Try.prog Go.Proofs.Try.f34.ntmps hintT (Go.Proofs.Try.f34.body.getD .skip) = k } := ⟨
 (K.reg [⟨some 2, none, KO.alloc [AV.nils, AV.nils, AV.nils]⟩]).seq ((K.reg [⟨some 4, none, KO.mv (KV.t 0)⟩, ⟨some 5, none, KO.call (KV.f 64) [KV.t 4]⟩, ⟨some 3, none, KO.mv (KV.t
    5)⟩]).seq ((K.reg [⟨some 6, none, KO.mv (KV.t 3)⟩, ⟨some 7, none, KO.call (KV.f 77) [KV.t 6]⟩, ⟨none, none, KO.store 3 (KV.t 2) (KV.t 7)⟩]).seq K.ret)),
  by kernel_rfl⟩
def k37 : { k : K // comp Go.Proofs.Try.prog Go.Proofs.Try.f37.ntmps hintT (Go.Proofs.Try.f37.body.getD .skip) = k } := ⟨
 (K.reg [⟨some 3, none, KO.box (KV.t 0)⟩, ⟨some 6, none, KO.alloc [AV.nils, AV.nils, AV.nils]⟩, ⟨some 7, none, KO.mv (KV.c (AV.b false))⟩]).seq (((K.reg [⟨some 12, none, KO.load
    true 3 (KV.t 3)⟩, ⟨some 13, none, KO.call (KV.f 35) [KV.t 12]⟩, ⟨some 14, none, KO.un UnOp.not (KV.t 13)⟩, ⟨some 15, none, KO.mv (KV.t 14)⟩, ⟨some 16, some (15, false), KO.mv
    (KV.t 2)⟩, ⟨some 17, some (15, false), KO.bin BinOp.lss (KV.t 16) (KV.c (AV.i IntKind.i64 0))⟩, ⟨some 18, none, KO.pick (KV.t 15) (KV.c (AV.b true)) (KV.t 17)⟩]).seq (K.cond
    (KV.t 18) ((K.reg [⟨some 19, none, KO.build [AV.nils, AV.nils, AV.nils] []⟩, ⟨none, none, KO.store 3 (KV.t 6) (KV.t 19)⟩, ⟨some 7, none, KO.mv (KV.c (AV.b false))⟩]).seq K.ret)
    K.skip)).seq ((K.reg [⟨some 20, none, KO.fld 1 (KV.t 3)⟩, ⟨some 21, none, KO.load false 1 (KV.t 20)⟩, ⟨some 8, none, KO.mv (KV.t 21)⟩]).seq (((K.reg [⟨some 22, none, KO.mv (KV.t
    1)⟩, ⟨some 23, none, KO.len false (KV.t 22)⟩, ⟨some 24, none, KO.mv (KV.c (AV.i IntKind.i64 0))⟩]).seq (K.block 0 ((K.reg [⟨some 25, none, KO.bin BinOp.lss (KV.t 24) (KV.t
    23)⟩]).seq ((K.cond (KV.t 25) K.skip (K.exit 0)).seq ((K.block 1 ((K.reg [⟨some 26, none, KO.mv (KV.t 24)⟩, ⟨some 27, none, KO.idx 1 (KV.t 22) (KV.t 24)⟩, ⟨some 28, none,
    KO.load false 1 (KV.t 27)⟩, ⟨some 9, none, KO.mv (KV.t 26)⟩, ⟨some 10, none, KO.mv (KV.t 28)⟩]).seq (((K.reg [⟨some 29, none, KO.mv (KV.t 10)⟩, ⟨some 30, none, KO.fld 2 (KV.t
    3)⟩, ⟨some 31, none, KO.load false 1 (KV.t 30)⟩, ⟨some 32, none, KO.len false (KV.t 31)⟩, ⟨some 33, none, KO.bin BinOp.sub (KV.t 32) (KV.c (AV.i IntKind.i64 1))⟩, ⟨some 34,
    none, KO.call (KV.f 86) [KV.t 29, KV.c (AV.i IntKind.i64 0), KV.t 33]⟩, ⟨some 35, none, KO.un UnOp.not (KV.t 34)⟩, ⟨some 36, none, KO.mv (KV.t 35)⟩, ⟨some 37, some (36, false),
    KO.mv (KV.t 9)⟩, ⟨some 38, some (36, false), KO.bin BinOp.gtr (KV.t 37) (KV.c (AV.i IntKind.i64 0))⟩, ⟨some 39, some (36, false), KO.mv (KV.t 38)⟩, ⟨some 40, some (39, true),
    KO.mv (KV.t 1)⟩, ⟨some 41, some (39, true), KO.mv (KV.t 9)⟩, ⟨some 42, some (39, true), KO.bin BinOp.sub (KV.t 41) (KV.c (AV.i IntKind.i64 1))⟩, ⟨some 43, some (39, true),
    KO.idx 1 (KV.t 40) (KV.t 42)⟩, ⟨some 44, some (39, true), KO.load false 1 (KV.t 43)⟩, ⟨some 45, some (39, true), KO.mv (KV.t 10)⟩, ⟨some 46, some (39, true), KO.bin BinOp.geq
    (KV.t 44) (KV.t 45)⟩, ⟨some 47, some (36, false), KO.pick (KV.t 39) (KV.t 46) (KV.c (AV.b false))⟩, ⟨some 48, none, KO.pick (KV.t 36) (KV.c (AV.b true)) (KV.t 47)⟩]).seq (K.cond
    (KV.t 48) ((K.reg [⟨some 49, none, KO.build [AV.nils, AV.nils, AV.nils] []⟩, ⟨none, none, KO.store 3 (KV.t 6) (KV.t 49)⟩, ⟨some 7, none, KO.mv (KV.c (AV.b false))⟩]).seq K.ret)
    K.skip)).seq ((K.reg [⟨some 50, none, KO.fld 2 (KV.t 3)⟩, ⟨some 51, none, KO.load false 1 (KV.t 50)⟩, ⟨some 52, none, KO.mv (KV.t 10)⟩, ⟨some 53, none, KO.idx 4 (KV.t 51) (KV.t
    52)⟩, ⟨some 54, none, KO.load true 4 (KV.t 53)⟩, ⟨some 11, none, KO.alloc [AV.i IntKind.i64 0, AV.s [], AV.s [], AV.s []]⟩, ⟨none, none, KO.store 4 (KV.t 11) (KV.t 54)⟩]).seq
    (((K.reg [⟨some 55, none, KO.mv (KV.t 9)⟩, ⟨some 56, none, KO.mv (KV.t 1)⟩, ⟨some 57, none, KO.len false (KV.t 56)⟩, ⟨some 58, none, KO.bin BinOp.sub (KV.t 57) (KV.c (AV.i
    IntKind.i64 1))⟩, ⟨some 59, none, KO.bin BinOp.eql (KV.t 55) (KV.t 58)⟩, ⟨some 60, none, KO.mv (KV.t 59)⟩, ⟨some 61, some (60, true), KO.fld 0 (KV.t 11)⟩, ⟨some 62, some (60,
    true), KO.load false 1 (KV.t 61)⟩, ⟨some 63, some (60, true), KO.bin BinOp.eql (KV.t 62) (KV.c (AV.i IntKind.i64 1))⟩, ⟨some 64, none, KO.pick (KV.t 60) (KV.t 63) (KV.c (AV.b
    false))⟩]).seq (K.cond (KV.t 64) (K.reg [⟨some 65, none, KO.fld 3 (KV.t 11)⟩, ⟨some 66, none, KO.load false 1 (KV.t 65)⟩, ⟨some 67, none, KO.mv (KV.t 2)⟩, ⟨some 68, none, KO.fld
    3 (KV.t 11)⟩, ⟨some 69, none, KO.load false 1 (KV.t 68)⟩, ⟨some 70, none, KO.len true (KV.t 69)⟩, ⟨some 71, none, KO.mm false [KV.t 67, KV.t 70]⟩, ⟨some 72, none, KO.sls (KV.t
    66) none (some (KV.t 71))⟩, ⟨some 73, none, KO.fld 3 (KV.t 11)⟩, ⟨none, none, KO.store 1 (KV.t 73) (KV.t 72)⟩]) K.skip)).seq (K.reg [⟨some 75, none, KO.mv (KV.t 8)⟩, ⟨some 76,
    none, KO.load true 4 (KV.t 11)⟩, ⟨some 77, none, KO.call (KV.f 80) [KV.t 75, KV.t 76]⟩, ⟨some 74, none, KO.mv (KV.t 77)⟩, ⟨some 78, none, KO.ext (KV.t 74) 0⟩, ⟨some 79, none,
    KO.ext (KV.t 74) 1⟩, ⟨some 8, none, KO.mv (KV.t 78)⟩])))))).seq (K.reg [⟨some 80, none, KO.bin BinOp.add (KV.t 24) (KV.c (AV.i IntKind.i64 1))⟩, ⟨some 24, none, KO.mv (KV.t
    80)⟩])))).loop)).seq (((K.reg [⟨some 81, none, KO.mv (KV.t 8)⟩, ⟨some 82, none, KO.call (KV.f 78) [KV.t 81]⟩, ⟨some 83, none, KO.un UnOp.not (KV.t 82)⟩]).seq (K.cond (KV.t 83)
    ((K.reg [⟨some 84, none, KO.build [AV.nils, AV.nils, AV.nils] []⟩, ⟨none, none, KO.store 3 (KV.t 6) (KV.t 84)⟩, ⟨some 7, none, KO.mv (KV.c (AV.b false))⟩]).seq K.ret)
    K.skip)).seq ((K.reg [⟨some 85, none, KO.mv (KV.t 8)⟩, ⟨some 86, none, KO.call (KV.f 87) [KV.t 85]⟩, ⟨some 87, none, KO.mv (KV.t 8)⟩, ⟨some 88, none, KO.call (KV.f 87) [KV.t
    87]⟩, ⟨some 89, none, KO.build [AV.nils, AV.nils, AV.nils] [(0, 1, KV.t 86), (1, 1, KV.t 88)]⟩, ⟨none, none, KO.store 3 (KV.t 6) (KV.t 89)⟩, ⟨some 7, none, KO.mv (KV.c (AV.b
    true))⟩]).seq K.ret))))),
  by kernel_rfl⟩
def k38 : { k : K // comp Go.Proofs.Try.prog Go.Proofs.Try.f38.ntmps hintT (Go.Proofs.Try.f38.body.getD .skip) = k } := ⟨
 (K.reg [⟨some 1, none, KO.box (KV.t 0)⟩, ⟨some 2, none, KO.alloc [AV.nils, AV.nils, AV.nils]⟩]).seq (((K.reg [⟨some 3, none, KO.load true 3 (KV.t 1)⟩, ⟨some 4, none, KO.call (KV.f
    35) [KV.t 3]⟩, ⟨some 5, none, KO.un UnOp.not (KV.t 4)⟩]).seq (K.cond (KV.t 5) ((K.reg [⟨some 6, none, KO.build [AV.nils, AV.nils, AV.nils] []⟩, ⟨none, none, KO.store 3 (KV.t 2)
    (KV.t 6)⟩]).seq K.ret) K.skip)).seq ((K.reg [⟨some 7, none, KO.load true 3 (KV.t 1)⟩, ⟨some 8, none, KO.call (KV.f 88) [KV.t 7]⟩, ⟨none, none, KO.store 3 (KV.t 2) (KV.t
    8)⟩]).seq K.ret)),
  by kernel_rfl⟩
def k39 : { k : K // comp Go.Proofs.Try.prog Go.Proofs.Try.f39.ntmps hintT (Go.Proofs.Try.f39.body.getD .skip) = k } := ⟨
 (K.reg [⟨some 4, none, KO.mv (KV.c (AV.b false))⟩]).seq (((K.reg [⟨some 6, none, KO.mv (KV.t 0)⟩, ⟨some 7, none, KO.len false (KV.t 6)⟩, ⟨some 8, none, KO.mv (KV.t 1)⟩, ⟨some 9,
    none, KO.len false (KV.t 8)⟩, ⟨some 10, none, KO.bin BinOp.neq (KV.t 7) (KV.t 9)⟩]).seq (K.cond (KV.t 10) ((K.reg [⟨some 4, none, KO.mv (KV.c (AV.b false))⟩]).seq K.ret)
    K.skip)).seq (((K.reg [⟨some 5, none, KO.mv (KV.c (AV.i IntKind.i64 0))⟩]).seq (K.block 0 (((K.reg [⟨some 11, none, KO.mv (KV.t 5)⟩, ⟨some 12, none, KO.mv (KV.t 0)⟩, ⟨some 13,
    none, KO.len false (KV.t 12)⟩, ⟨some 14, none, KO.bin BinOp.lss (KV.t 11) (KV.t 13)⟩]).seq (K.cond (KV.t 14) K.skip (K.exit 0))).seq ((K.block 1 ((K.dreg [⟨some 17, none, KO.mv
    (KV.t 0)⟩, ⟨some 18, none, KO.mv (KV.t 5)⟩, ⟨some 19, none, KO.idx 2 (KV.t 17) (KV.t 18)⟩, ⟨some 20, none, KO.load true 2 (KV.t 19)⟩, ⟨some 21, none, KO.mv (KV.t 1)⟩, ⟨some 22,
    none, KO.mv (KV.t 5)⟩, ⟨some 23, none, KO.idx 2 (KV.t 21) (KV.t 22)⟩, ⟨some 24, none, KO.load true 2 (KV.t 23)⟩, ⟨some 25, none, KO.eqt (EqT.struct [SK.str, SK.str]) true (KV.t
    20) (KV.t 24)⟩] [[], [], [0, 1], [2], [], [], [4, 5], [6], [3, 7]]).seq (K.cond (KV.t 25) ((K.reg [⟨some 4, none, KO.mv (KV.c (AV.b false))⟩]).seq K.ret) K.skip))).seq (K.reg
    [⟨some 15, none, KO.mv (KV.t 5)⟩, ⟨some 16, none, KO.bin BinOp.add (KV.t 15) (KV.c (AV.i IntKind.i64 1))⟩, ⟨some 5, none, KO.mv (KV.t 16)⟩]))).loop)).seq ((K.reg [⟨some 4, none,
    KO.mv (KV.c (AV.b true))⟩]).seq K.ret))),
  by kernel_rfl⟩
def k88 : { k : K // comp Go.Proofs.Try.prog Go.Proofs.Try.f88.ntmps hintT (Go.Proofs.Try.f88.body.getD .skip) = k } := ⟨
 (K.reg [⟨some 1, none, KO.box (KV.t 0)⟩, ⟨some 2, none, KO.alloc [AV.nils, AV.nils, AV.nils]⟩]).seq ((K.dreg [⟨some 3, none, KO.fld 0 (KV.t 1)⟩, ⟨some 4, none, KO.load false 1
    (KV.t 3)⟩, ⟨some 5, none, KO.call0 (KV.f 87) [KV.t 4]⟩, ⟨some 6, none, KO.fld 0 (KV.t 1)⟩, ⟨some 7, none, KO.load false 1 (KV.t 6)⟩, ⟨some 8, none, KO.call0 (KV.f 87) [KV.t 7]⟩,
    ⟨some 9, none, KO.build [AV.nils, AV.nils, AV.nils] [(0, 1, KV.t 5), (1, 1, KV.t 8)]⟩, ⟨none, none, KO.store 3 (KV.t 2) (KV.t 9)⟩] [[], [0], [1], [], [3], [4, 2], [2, 5], [6, 5,
    0, 1, 2, 3, 4, 5, 6]]).seq K.ret),
  by kernel_rfl⟩
def k51 : { k : K // comp Go.Proofs.Try.prog Go.Proofs.Try.f51.ntmps hintT (Go.Proofs.Try.f51.body.getD .skip) = k } := ⟨
 (K.reg [⟨some 1, none, KO.box (KV.t 0)⟩, ⟨some 2, none, KO.alloc [AV.nils, AV.nils, AV.nils]⟩]).seq (((K.reg [⟨some 3, none, KO.load true 3 (KV.t 1)⟩, ⟨some 4, none, KO.call (KV.f
    36) [KV.t 3]⟩, ⟨some 5, none, KO.un UnOp.not (KV.t 4)⟩]).seq (K.cond (KV.t 5) ((K.reg [⟨some 6, none, KO.build [AV.nils, AV.nils, AV.nils] []⟩, ⟨none, none, KO.store 3 (KV.t 2)
    (KV.t 6)⟩]).seq K.ret) K.skip)).seq ((K.dreg [⟨some 7, none, KO.bslice 2 0 [AV.s [], AV.s []] []⟩, ⟨some 8, none, KO.fld 0 (KV.t 1)⟩, ⟨some 9, none, KO.load false 1 (KV.t 8)⟩,
    ⟨some 10, none, KO.app 2 32 [AV.s [], AV.s []] (KV.t 7) (KV.t 9)⟩, ⟨some 11, none, KO.bslice 2 0 [AV.s [], AV.s []] []⟩, ⟨some 12, none, KO.fld 0 (KV.t 1)⟩, ⟨some 13, none,
    KO.load false 1 (KV.t 12)⟩, ⟨some 14, none, KO.app 2 32 [AV.s [], AV.s []] (KV.t 11) (KV.t 13)⟩, ⟨some 15, none, KO.build [AV.nils, AV.nils, AV.nils] [(0, 1, KV.t 10), (1, 1,
    KV.t 14)]⟩, ⟨none, none, KO.store 3 (KV.t 2) (KV.t 15)⟩] [[], [], [1], [0, 2], [], [], [5], [4, 6, 3], [3, 7], [8, 7, 0, 1, 2, 3, 4, 5, 6, 7, 8]]).seq K.ret)),
  by kernel_rfl⟩
def k47 : { k : K // comp Go.Proofs.Try.prog Go.Proofs.Try.f47.ntmps hintT (Go.Proofs.Try.f47.body.getD .skip) = k } := ⟨
 (K.reg [⟨some 2, none, KO.box (KV.t 0)⟩, ⟨some 3, none, KO.box (KV.t 1)⟩, ⟨some 4, none, KO.alloc [AV.nils, AV.nils, AV.nils]⟩, ⟨some 5, none, KO.mv (KV.c (AV.i IntKind.i64
    0))⟩]).seq (((K.reg [⟨some 6, none, KO.load true 3 (KV.t 2)⟩, ⟨some 7, none, KO.call (KV.f 36) [KV.t 6]⟩, ⟨some 8, none, KO.un UnOp.not (KV.t 7)⟩]).seq (K.cond (KV.t 8) ((K.reg
    [⟨some 9, none, KO.build [AV.nils, AV.nils, AV.nils] []⟩, ⟨none, none, KO.store 3 (KV.t 4) (KV.t 9)⟩, ⟨some 5, none, KO.mv (KV.c (AV.i IntKind.i64 1))⟩]).seq K.ret) K.skip)).seq
    ((K.reg [⟨some 10, none, KO.load true 3 (KV.t 2)⟩, ⟨some 11, none, KO.load true 4 (KV.t 3)⟩, ⟨some 12, none, KO.call (KV.f 100) [KV.t 10, KV.t 11]⟩, ⟨some 13, none, KO.ext (KV.t
    12) 0⟩, ⟨some 14, none, KO.ext (KV.t 12) 1⟩, ⟨none, none, KO.store 3 (KV.t 4) (KV.t 13)⟩, ⟨some 5, none, KO.mv (KV.t 14)⟩]).seq K.ret)),
  by kernel_rfl⟩
def k100 : { k : K // comp Go.Proofs.Try.prog Go.Proofs.Try.f100.ntmps hintT (Go.Proofs.Try.f100.body.getD .skip) = k } := ⟨
 (K.reg [⟨some 2, none, KO.box (KV.t 0)⟩, ⟨some 3, none, KO.box (KV.t 1)⟩, ⟨some 4, none, KO.alloc [AV.nils, AV.nils, AV.nils]⟩, ⟨some 5, none, KO.mv (KV.c (AV.i IntKind.i64
    0))⟩]).seq (((K.reg [⟨some 9, none, KO.load true 4 (KV.t 3)⟩, ⟨some 10, none, KO.call (KV.f 84) [KV.t 9]⟩, ⟨some 11, none, KO.un UnOp.not (KV.t 10)⟩]).seq (K.cond (KV.t 11)
    ((K.reg [⟨some 12, none, KO.load true 3 (KV.t 2)⟩, ⟨some 13, none, KO.call (KV.f 104) [KV.t 12]⟩, ⟨none, none, KO.store 3 (KV.t 4) (KV.t 13)⟩, ⟨some 5, none, KO.mv (KV.c (AV.i
    IntKind.i64 2))⟩]).seq K.ret) K.skip)).seq ((K.reg [⟨some 15, none, KO.fld 0 (KV.t 2)⟩, ⟨some 16, none, KO.load false 1 (KV.t 15)⟩, ⟨some 17, none, KO.load true 4 (KV.t 3)⟩,
    ⟨some 18, none, KO.call (KV.f 83) [KV.t 16, KV.t 17]⟩, ⟨some 14, none, KO.mv (KV.t 18)⟩, ⟨some 19, none, KO.ext (KV.t 14) 0⟩, ⟨some 20, none, KO.ext (KV.t 14) 1⟩, ⟨some 6, none,
    KO.mv (KV.t 19)⟩, ⟨some 7, none, KO.mv (KV.t 20)⟩]).seq (((K.reg [⟨some 21, none, KO.mv (KV.t 7)⟩, ⟨some 22, none, KO.un UnOp.not (KV.t 21)⟩]).seq (K.cond (KV.t 22) ((K.reg
    [⟨some 23, none, KO.load true 3 (KV.t 2)⟩, ⟨some 24, none, KO.call (KV.f 104) [KV.t 23]⟩, ⟨none, none, KO.store 3 (KV.t 4) (KV.t 24)⟩, ⟨some 5, none, KO.mv (KV.c (AV.i
    IntKind.i64 3))⟩]).seq K.ret) K.skip)).seq (((K.reg [⟨some 25, none, KO.fld 2 (KV.t 2)⟩, ⟨some 26, none, KO.load false 1 (KV.t 25)⟩, ⟨some 27, none, KO.len false (KV.t 26)⟩,
    ⟨some 28, none, KO.bin BinOp.eql (KV.t 27) (KV.c (AV.i IntKind.i64 200))⟩, ⟨some 29, none, KO.mv (KV.t 28)⟩, ⟨some 30, some (29, false), KO.mv (KV.t 6)⟩, ⟨some 31, some (29,
    false), KO.call (KV.f 82) [KV.t 30]⟩, ⟨some 32, some (29, false), KO.un UnOp.not (KV.t 31)⟩, ⟨some 33, none, KO.pick (KV.t 29) (KV.c (AV.b true)) (KV.t 32)⟩]).seq (K.cond (KV.t
    33) ((K.reg [⟨some 34, none, KO.load true 3 (KV.t 2)⟩, ⟨some 35, none, KO.call (KV.f 104) [KV.t 34]⟩, ⟨none, none, KO.store 3 (KV.t 4) (KV.t 35)⟩, ⟨some 5, none, KO.mv (KV.c
    (AV.i IntKind.i64 4))⟩]).seq K.ret) K.skip)).seq ((K.reg [⟨some 36, none, KO.load true 3 (KV.t 2)⟩, ⟨some 37, none, KO.call (KV.f 104) [KV.t 36]⟩, ⟨some 8, none, KO.alloc
    [AV.nils, AV.nils, AV.nils]⟩, ⟨none, none, KO.store 3 (KV.t 8) (KV.t 37)⟩]).seq ((K.reg [⟨some 38, none, KO.mv (KV.t 6)⟩, ⟨some 39, none, KO.fld 0 (KV.t 8)⟩, ⟨none, none,
    KO.store 1 (KV.t 39) (KV.t 38)⟩]).seq ((K.reg [⟨some 40, none, KO.fld 2 (KV.t 8)⟩, ⟨some 41, none, KO.load false 1 (KV.t 40)⟩, ⟨some 42, none, KO.load true 4 (KV.t 3)⟩, ⟨some
    43, none, KO.bslice 4 1 [AV.i IntKind.i64 0, AV.s [], AV.s [], AV.s []] [(0, KV.t 42)]⟩, ⟨some 44, none, KO.app 4 56 [AV.i IntKind.i64 0, AV.s [], AV.s [], AV.s []] (KV.t 41)
    (KV.t 43)⟩, ⟨some 45, none, KO.fld 2 (KV.t 8)⟩, ⟨none, none, KO.store 1 (KV.t 45) (KV.t 44)⟩]).seq ((K.reg [⟨some 46, none, KO.load true 3 (KV.t 8)⟩, ⟨none, none, KO.store 3
    (KV.t 4) (KV.t 46)⟩, ⟨some 5, none, KO.mv (KV.c (AV.i IntKind.i64 0))⟩]).seq K.ret)))))))),
  by kernel_rfl⟩
def k104 : { k : K // comp Go.Proofs.Try.prog Go.Proofs.Try.f104.ntmps hintT (Go.Proofs.Try.f104.body.getD .skip) = k } := ⟨
 (K.reg [⟨some 1, none, KO.box (KV.t 0)⟩, ⟨some 2, none, KO.alloc [AV.nils, AV.nils, AV.nils]⟩]).seq ((K.dreg [⟨some 3, none, KO.bslice 2 0 [AV.s [], AV.s []] []⟩, ⟨some 4, none,
    KO.fld 0 (KV.t 1)⟩, ⟨some 5, none, KO.load false 1 (KV.t 4)⟩, ⟨some 6, none, KO.app 2 32 [AV.s [], AV.s []] (KV.t 3) (KV.t 5)⟩, ⟨some 7, none, KO.bslice 2 0 [AV.s [], AV.s []]
    []⟩, ⟨some 8, none, KO.fld 1 (KV.t 1)⟩, ⟨some 9, none, KO.load false 1 (KV.t 8)⟩, ⟨some 10, none, KO.app 2 32 [AV.s [], AV.s []] (KV.t 7) (KV.t 9)⟩, ⟨some 11, none, KO.bslice 4
    0 [AV.i IntKind.i64 0, AV.s [], AV.s [], AV.s []] []⟩, ⟨some 12, none, KO.fld 2 (KV.t 1)⟩, ⟨some 13, none, KO.load false 1 (KV.t 12)⟩, ⟨some 14, none, KO.app 4 56 [AV.i
    IntKind.i64 0, AV.s [], AV.s [], AV.s []] (KV.t 11) (KV.t 13)⟩, ⟨some 15, none, KO.build [AV.nils, AV.nils, AV.nils] [(0, 1, KV.t 6), (1, 1, KV.t 10), (2, 1, KV.t 14)]⟩, ⟨none,
    none, KO.store 3 (KV.t 2) (KV.t 15)⟩] [[], [], [1], [0, 2], [], [], [5], [4, 6, 3], [], [], [9], [8, 10, 7], [3, 7, 11], [12, 11, 0, 1, 2, 3, 4, 5, 6, 7, 8, 9, 10, 11, 12]]).seq
    K.ret),
  by kernel_rfl⟩
def k103 : { k : K // comp Go.Proofs.Try.prog Go.Proofs.Try.f103.ntmps hintT (Go.Proofs.Try.f103.body.getD .skip) = k } := ⟨
 (K.reg [⟨some 1, none, KO.box (KV.t 0)⟩, ⟨some 2, none, KO.alloc [AV.nils, AV.nils, AV.nils]⟩]).seq ((K.dreg [⟨some 3, none, KO.fld 0 (KV.t 1)⟩, ⟨some 4, none, KO.load false 1
    (KV.t 3)⟩, ⟨some 5, none, KO.call0 (KV.f 87) [KV.t 4]⟩, ⟨some 6, none, KO.fld 1 (KV.t 1)⟩, ⟨some 7, none, KO.load false 1 (KV.t 6)⟩, ⟨some 8, none, KO.call0 (KV.f 87) [KV.t 7]⟩,
    ⟨some 9, none, KO.fld 2 (KV.t 1)⟩, ⟨some 10, none, KO.load false 1 (KV.t 9)⟩, ⟨some 11, none, KO.call0 (KV.f 131) [KV.t 10]⟩, ⟨some 12, none, KO.build [AV.nils, AV.nils,
    AV.nils] [(0, 1, KV.t 5), (1, 1, KV.t 8), (2, 1, KV.t 11)]⟩, ⟨none, none, KO.store 3 (KV.t 2) (KV.t 12)⟩] [[], [0], [1], [], [3], [4, 2], [], [6], [7, 5], [2, 5, 8], [9, 8, 0,
    1, 2, 3, 4, 5, 6, 7, 8, 9]]).seq K.ret),
  by kernel_rfl⟩
def k131 : { k : K // comp Go.Proofs.Try.prog Go.Proofs.Try.f131.ntmps hintT (Go.Proofs.Try.f131.body.getD .skip) = k } := ⟨
 (K.reg [⟨some 2, none, KO.mv (KV.c AV.nils)⟩]).seq (((K.reg [⟨some 3, none, KO.mv (KV.t 0)⟩, ⟨some 4, none, KO.eqn false (KV.t 3) (KV.c AV.nils)⟩]).seq (K.cond (KV.t 4) ((K.reg
    [⟨some 2, none, KO.mv (KV.c AV.nils)⟩]).seq K.ret) K.skip)).seq ((K.reg [⟨some 5, none, KO.bslice 4 0 [AV.i IntKind.i64 0, AV.s [], AV.s [], AV.s []] []⟩, ⟨some 6, none, KO.mv
    (KV.t 0)⟩, ⟨some 7, none, KO.app 4 56 [AV.i IntKind.i64 0, AV.s [], AV.s [], AV.s []] (KV.t 5) (KV.t 6)⟩, ⟨some 2, none, KO.mv (KV.t 7)⟩]).seq K.ret)),
  by kernel_rfl⟩
def k46 : { k : K // comp Go.Proofs.Try.prog Go.Proofs.Try.f46.ntmps hintT (Go.Proofs.Try.f46.body.getD .skip) = k } := ⟨
 (K.reg [⟨some 2, none, KO.box (KV.t 0)⟩, ⟨some 3, none, KO.box (KV.t 1)⟩, ⟨some 4, none, KO.alloc [AV.nils, AV.nils, AV.nils]⟩, ⟨some 5, none, KO.mv (KV.c (AV.i IntKind.i64
    0))⟩]).seq (((K.reg [⟨some 6, none, KO.load true 3 (KV.t 2)⟩, ⟨some 7, none, KO.call (KV.f 35) [KV.t 6]⟩, ⟨some 8, none, KO.un UnOp.not (KV.t 7)⟩]).seq (K.cond (KV.t 8) ((K.reg
    [⟨some 9, none, KO.build [AV.nils, AV.nils, AV.nils] []⟩, ⟨none, none, KO.store 3 (KV.t 4) (KV.t 9)⟩, ⟨some 5, none, KO.mv (KV.c (AV.i IntKind.i64 1))⟩]).seq K.ret) K.skip)).seq
    ((K.reg [⟨some 10, none, KO.load true 3 (KV.t 2)⟩, ⟨some 11, none, KO.load true 4 (KV.t 3)⟩, ⟨some 12, none, KO.call (KV.f 99) [KV.t 10, KV.t 11]⟩, ⟨some 13, none, KO.ext (KV.t
    12) 0⟩, ⟨some 14, none, KO.ext (KV.t 12) 1⟩, ⟨none, none, KO.store 3 (KV.t 4) (KV.t 13)⟩, ⟨some 5, none, KO.mv (KV.t 14)⟩]).seq K.ret)),
  by kernel_rfl⟩
def k99 : { k : K // comp Go.Proofs.Try.prog Go.Proofs.Try.f99.ntmps hintT (Go.Proofs.Try.f99.body.getD .skip) = k } := ⟨
 (K.reg [⟨some 2, none, KO.box (KV.t 0)⟩, ⟨some 3, none, KO.box (KV.t 1)⟩, ⟨some 4, none, KO.alloc [AV.nils, AV.nils, AV.nils]⟩, ⟨some 5, none, KO.mv (KV.c (AV.i IntKind.i64
    0))⟩]).seq ((K.reg [⟨some 9, none, KO.load true 3 (KV.t 2)⟩, ⟨some 10, none, KO.call (KV.f 103) [KV.t 9]⟩, ⟨some 6, none, KO.alloc [AV.nils, AV.nils, AV.nils]⟩, ⟨none, none,
    KO.store 3 (KV.t 6) (KV.t 10)⟩]).seq (((K.reg [⟨some 11, none, KO.load true 4 (KV.t 3)⟩, ⟨some 12, none, KO.call (KV.f 79) [KV.t 11]⟩, ⟨some 13, none, KO.un UnOp.not (KV.t
    12)⟩]).seq (K.cond (KV.t 13) ((K.reg [⟨some 14, none, KO.load true 3 (KV.t 6)⟩, ⟨none, none, KO.store 3 (KV.t 4) (KV.t 14)⟩, ⟨some 5, none, KO.mv (KV.c (AV.i IntKind.i64
    2))⟩]).seq K.ret) K.skip)).seq ((K.reg [⟨some 16, none, KO.fld 0 (KV.t 2)⟩, ⟨some 17, none, KO.load false 1 (KV.t 16)⟩, ⟨some 18, none, KO.load true 4 (KV.t 3)⟩, ⟨some 19, none,
    KO.call (KV.f 80) [KV.t 17, KV.t 18]⟩, ⟨some 15, none, KO.mv (KV.t 19)⟩, ⟨some 20, none, KO.ext (KV.t 15) 0⟩, ⟨some 21, none, KO.ext (KV.t 15) 1⟩, ⟨some 7, none, KO.mv (KV.t
    20)⟩, ⟨some 8, none, KO.mv (KV.t 21)⟩]).seq ((K.block 0 ((K.reg [⟨some 23, none, KO.mv (KV.t 8)⟩, ⟨some 24, none, KO.un UnOp.not (KV.t 23)⟩, ⟨some 22, none, KO.mv (KV.t
    24)⟩]).seq (K.cond (KV.t 22) ((K.reg [⟨some 25, none, KO.load true 3 (KV.t 6)⟩, ⟨none, none, KO.store 3 (KV.t 4) (KV.t 25)⟩, ⟨some 5, none, KO.mv (KV.c (AV.i IntKind.i64
    3))⟩]).seq K.ret) ((K.reg [⟨some 27, none, KO.fld 2 (KV.t 2)⟩, ⟨some 28, none, KO.load false 1 (KV.t 27)⟩, ⟨some 29, none, KO.len false (KV.t 28)⟩, ⟨some 30, none, KO.bin
    BinOp.eql (KV.t 29) (KV.c (AV.i IntKind.i64 200))⟩, ⟨some 31, none, KO.mv (KV.t 30)⟩, ⟨some 32, some (31, false), KO.mv (KV.t 7)⟩, ⟨some 33, some (31, false), KO.call (KV.f 78)
    [KV.t 32]⟩, ⟨some 34, some (31, false), KO.un UnOp.not (KV.t 33)⟩, ⟨some 35, none, KO.pick (KV.t 31) (KV.c (AV.b true)) (KV.t 34)⟩, ⟨some 26, none, KO.mv (KV.t 35)⟩]).seq
    (K.cond (KV.t 26) ((K.reg [⟨some 36, none, KO.load true 3 (KV.t 6)⟩, ⟨none, none, KO.store 3 (KV.t 4) (KV.t 36)⟩, ⟨some 5, none, KO.mv (KV.c (AV.i IntKind.i64 4))⟩]).seq K.ret)
    K.skip))))).seq ((K.dreg [⟨some 37, none, KO.mv (KV.t 7)⟩, ⟨some 38, none, KO.call0 (KV.f 87) [KV.t 37]⟩, ⟨some 39, none, KO.fld 2 (KV.t 6)⟩, ⟨some 40, none, KO.load false 1
    (KV.t 39)⟩, ⟨some 41, none, KO.load true 4 (KV.t 3)⟩, ⟨some 42, none, KO.bslice 4 1 [AV.i IntKind.i64 0, AV.s [], AV.s [], AV.s []] [(0, KV.t 41)]⟩, ⟨some 43, none, KO.app 4 56
    [AV.i IntKind.i64 0, AV.s [], AV.s [], AV.s []] (KV.t 40) (KV.t 42)⟩, ⟨some 44, none, KO.fld 0 (KV.t 6)⟩, ⟨none, none, KO.store 1 (KV.t 44) (KV.t 38)⟩, ⟨some 45, none, KO.fld 2
    (KV.t 6)⟩, ⟨none, none, KO.store 1 (KV.t 45) (KV.t 43)⟩] [[], [0], [], [2], [], [4], [3, 5, 1], [0, 1, 2, 3], [7, 1, 6, 0, 1, 2, 3], [0, 1, 2, 3, 4, 5, 6, 7, 8], [9, 6, 8, 0, 1,
    2, 3, 4, 5, 6, 7, 8]]).seq ((K.reg [⟨some 46, none, KO.load true 3 (KV.t 6)⟩, ⟨none, none, KO.store 3 (KV.t 4) (KV.t 46)⟩, ⟨some 5, none, KO.mv (KV.c (AV.i IntKind.i64
    0))⟩]).seq K.ret)))))),
  by kernel_rfl⟩
end FrA

/-! DkR -/
open Go Go.AM
namespace FrA
open Go.Proofs
set_option maxRecDepth 100000
set_option linter.unusedSimpArgs false
theorem diskB_ok {live safe : List File} {ops : List Dop} (h : diskB live safe ops = true) : okP live ∧ okP safe ∧ ops.length ≤ 200 := by
  refine ⟨?_, ?_, ?_⟩
  · cases e : okF live
    · rw [diskB_1 e] at h; cases h
    · exact okF_t.1 e
  · cases e : okF safe
    · rw [diskB_2 e] at h; cases h
    · exact okF_t.1 e
  · by_cases e : ops.length > 200
    · rw [diskB_3 e] at h; cases h
    · omega
theorem olda_no {l : List File} {n : List UInt8} (h : has n l = false) : olda l n = [] := by unfold olda; rw [h]; rfl
theorem olda_yes {l : List File} {n : List UInt8} (h : has n l = true) : olda l n = (l.getD (pos n l) ([], [])).2 := by unfold olda; rw [h]; rfl
theorem h96 (live safe : List File) (ops : List Dop) (name : List UInt8) (hs : Srt live) (hn : live.length ≤ 1048576) : HT 96 [disk live safe ops, .s name] [] (.tup [.s (olda live name), .b (has name live)]) true [] := by
  refine holds_of (c := Try.f96.body.getD .skip) (k := k96.1) (ts := [4, 5]) HOk mixedT hintT Try.func96 (by kernel_rfl) (by kernel_rfl) (by kernel_rfl) k96.2 (by kernel_rfl) (le_of 2 _ (by kernel_rfl)) ?_
  unfold disk
  simp (config := {dsimp := false}) only [k96, go_sem, ↓reduceIte, Nat.reduceEqDiff, Int.reduceLE, Int.reduceLT, Int.reduceNeg, Int.reduceEq, Nat.reduceMul, Nat.reduceAdd, Nat.reduceLeDiff, reduceCtorEq]
  refine Call_val (own := true) (h118 live name hs hn) (by simp [ExpOk, AV.pure]) (.inl rfl) ?_
  cases hh : has name live
  · simp (config := {dsimp := false}) only [go_sem, ↓reduceIte, Nat.reduceEqDiff, Int.reduceLE, Int.reduceLT, Int.reduceNeg, Int.reduceEq, Nat.reduceMul, Nat.reduceAdd, Nat.reduceLeDiff, reduceCtorEq]
    refine Fin_val ?_ ?_
    · simp [resV, upd_at, retA, retL, olda_no hh]
    · simp [resV, upd_at, ResOk, ResL]
  · simp (config := {dsimp := false}) only [fl_get (has_lt hh), go_sem, ↓reduceIte, Nat.reduceEqDiff, Int.reduceLE, Int.reduceLT, Int.reduceNeg, Int.reduceEq, Nat.reduceMul, Nat.reduceAdd, Nat.reduceLeDiff, reduceCtorEq]
    refine Fin_val ?_ ?_
    · simp [resV, upd_at, retA, retL, olda_yes hh]
    · simp [resV, upd_at, ResOk, ResL]
noncomputable def rdR (live safe : List File) (ops : List Dop) (name : List UInt8) : AV := .tup [.s (open Classical in if diskB live safe ops = true then olda live name else []), .b (diskB live safe ops && has name live)]
theorem rdR_no {live safe : List File} {ops : List Dop} {name : List UInt8} (h : diskB live safe ops = false) : rdR live safe ops name = .tup [.s [], .b false] := by unfold rdR; rw [h]; simp
theorem rdR_yes {live safe : List File} {ops : List Dop} {name : List UInt8} (h : diskB live safe ops = true) : rdR live safe ops name = .tup [.s (olda live name), .b (has name live)] := by unfold rdR; rw [h]; simp
theorem h44 (live safe : List File) (ops : List Dop) (name : List UInt8) (hl : BdF live) (hsf : BdF safe) (ho : BdO ops) : HT 44 [disk live safe ops, .s name] [] (rdR live safe ops name) true [] := by
  refine holds_of (c := Try.f44.body.getD .skip) (k := k44.1) (ts := [4, 5]) HOk mixedT hintT Try.func44 (by kernel_rfl) (by kernel_rfl) (by kernel_rfl) k44.2 (by kernel_rfl) (le_of 2 _ (by kernel_rfl)) ?_
  have d35 := h35 live safe ops hl hsf ho
  cases hd : diskB live safe ops
  · rw [rdR_no hd]
    rw [hd] at d35
    unfold disk at d35 ⊢
    simp (config := {dsimp := false}) only [k44, go_sem, ↓reduceIte, Nat.reduceEqDiff, Int.reduceLE, Int.reduceLT, Int.reduceNeg, Int.reduceEq, Nat.reduceMul, Nat.reduceAdd, Nat.reduceLeDiff, reduceCtorEq]
    refine Call_val (own := true) (d35) (by simp [ExpOk, AV.pure]) (.inl rfl) ?_
    simp (config := {dsimp := false}) only [go_sem, ↓reduceIte, Nat.reduceEqDiff, Int.reduceLE, Int.reduceLT, Int.reduceNeg, Int.reduceEq, Nat.reduceMul, Nat.reduceAdd, Nat.reduceLeDiff, reduceCtorEq]
    refine Fin_val ?_ ?_
    · simp [resV, upd_at, retA, retL]
    · simp [resV, upd_at, ResOk, ResL]
  · have d96 := h96 live safe ops name (ok_srt (diskB_ok hd).1) hl.1
    rw [rdR_yes hd]
    rw [hd] at d35
    unfold disk at d35 d96 ⊢
    simp (config := {dsimp := false}) only [k44, go_sem, ↓reduceIte, Nat.reduceEqDiff, Int.reduceLE, Int.reduceLT, Int.reduceNeg, Int.reduceEq, Nat.reduceMul, Nat.reduceAdd, Nat.reduceLeDiff, reduceCtorEq]
    refine Call_val (own := true) (d35) (by simp [ExpOk, AV.pure]) (.inl rfl) ?_
    simp (config := {dsimp := false}) only [go_sem, ↓reduceIte, Nat.reduceEqDiff, Int.reduceLE, Int.reduceLT, Int.reduceNeg, Int.reduceEq, Nat.reduceMul, Nat.reduceAdd, Nat.reduceLeDiff, reduceCtorEq]
    refine Call_val (own := true) (d96) (by simp [ExpOk, AV.pure]) (.inl rfl) ?_
    simp (config := {dsimp := false}) only [go_sem, ↓reduceIte, Nat.reduceEqDiff, Int.reduceLE, Int.reduceLT, Int.reduceNeg, Int.reduceEq, Nat.reduceMul, Nat.reduceAdd, Nat.reduceLeDiff, reduceCtorEq]
    refine Fin_val ?_ ?_
    · simp [resV, upd_at, retA, retL]
    · simp [resV, upd_at, ResOk, ResL]
theorem h43 (live safe : List File) (ops : List Dop) (name : List UInt8) (hl : BdF live) (hsf : BdF safe) (ho : BdO ops) : HT 43 [disk live safe ops, .s name] [] (rdR live safe ops name) true [] := by
  refine holds_of (c := Try.f43.body.getD .skip) (k := k43.1) (ts := [4, 5]) HOk mixedT hintT Try.func43 (by kernel_rfl) (by kernel_rfl) (by kernel_rfl) k43.2 (by kernel_rfl) (le_of 2 _ (by kernel_rfl)) ?_
  have d36 := h36 live safe ops hl hsf ho
  cases hd : diskB live safe ops
  · rw [rdR_no hd]
    rw [hd] at d36
    unfold disk at d36 ⊢
    simp (config := {dsimp := false}) only [k43, go_sem, ↓reduceIte, Nat.reduceEqDiff, Int.reduceLE, Int.reduceLT, Int.reduceNeg, Int.reduceEq, Nat.reduceMul, Nat.reduceAdd, Nat.reduceLeDiff, reduceCtorEq]
    refine Call_val (own := true) (d36) (by simp [ExpOk, AV.pure]) (.inl rfl) ?_
    simp (config := {dsimp := false}) only [go_sem, ↓reduceIte, Nat.reduceEqDiff, Int.reduceLE, Int.reduceLT, Int.reduceNeg, Int.reduceEq, Nat.reduceMul, Nat.reduceAdd, Nat.reduceLeDiff, reduceCtorEq]
    refine Fin_val ?_ ?_
    · simp [resV, upd_at, retA, retL]
    · simp [resV, upd_at, ResOk, ResL]
  · have hat := atR_eq name live 0 (ok_srt (diskB_ok hd).1)
    rw [Nat.zero_add] at hat
    rw [rdR_yes hd]
    rw [hd] at d36
    unfold disk at d36 ⊢
    simp (config := {dsimp := false}) only [k43, go_sem, ↓reduceIte, Nat.reduceEqDiff, Int.reduceLE, Int.reduceLT, Int.reduceNeg, Int.reduceEq, Nat.reduceMul, Nat.reduceAdd, Nat.reduceLeDiff, reduceCtorEq]
    refine Call_val (own := true) (d36) (by simp [ExpOk, AV.pure]) (.inl rfl) ?_
    simp (config := {dsimp := false}) only [go_sem, ↓reduceIte, Nat.reduceEqDiff, Int.reduceLE, Int.reduceLT, Int.reduceNeg, Int.reduceEq, Nat.reduceMul, Nat.reduceAdd, Nat.reduceLeDiff, reduceCtorEq]
    refine Call_val (own := true) (h95 live name hl.1) (by simp [ExpOk, AV.pure]) (.inl rfl) ?_
    cases hh : has name live
    · rw [if_neg (by simp [hh])] at hat
      have f2 : (-1 : Int) < 0 := by decide
      simp (config := {dsimp := false}) only [hat, f2, go_sem, ↓reduceIte, Nat.reduceEqDiff, Int.reduceLE, Int.reduceLT, Int.reduceNeg, Int.reduceEq, Nat.reduceMul, Nat.reduceAdd, Nat.reduceLeDiff, reduceCtorEq]
      refine Fin_val ?_ ?_
      · simp [resV, upd_at, retA, retL, olda_no hh]
      · simp [resV, upd_at, ResOk, ResL]
    · rw [if_pos hh] at hat
      have f2 : ¬ ((pos name live : Nat) : Int) < 0 := by omega
      simp (config := {dsimp := false}) only [hat, f2, fl_get (has_lt hh), go_sem, ↓reduceIte, Nat.reduceEqDiff, Int.reduceLE, Int.reduceLT, Int.reduceNeg, Int.reduceEq, Nat.reduceMul, Nat.reduceAdd, Nat.reduceLeDiff, reduceCtorEq]
      refine Fin_val ?_ ?_
      · simp [resV, upd_at, retA, retL, olda_yes hh]
      · simp [resV, upd_at, ResOk, ResL]
theorem h9 (live safe : List File) (ops : List Dop) (name : List UInt8) (hL : LgD live safe ops) : HT 9 [disk live safe ops, .s name] [] (.b true) true [] := by
  refine holds_of (c := Try.f9.body.getD .skip) (k := k9.1) (ts := [4]) HOk mixedT hintT Try.func9 (by kernel_rfl) (by kernel_rfl) (by kernel_rfl) k9.2 (by kernel_rfl) (le_of 2 _ (by kernel_rfl)) ?_
  by_cases hb : name.length ≤ 1048576
  · have c0 : ¬ (name.length : Int) > 1048576 := by omega
    have d40 := h40 live safe ops 1048576 (by omega) hL.n1 hL.n2 hL.n3 hL.b1 hL.b2 hL.b3
    by_cases hs : szd live safe ops ≤ 1048576
    · obtain ⟨B1, B2, B3⟩ := bds hs
      have d41 := h41 live safe ops B1.1 B2.1 B3.1
      have d42 := h42 live safe ops B1.1 B2.1 B3.1
      have d43 := h43 live safe ops name B1 B2 B3
      have d44 := h44 live safe ops name B1 B2 B3
      rw [lefts_yes hs] at d40
      unfold rdR at d43 d44
      unfold disk at d40 d41 d42 d43 d44 ⊢
      have c1 : ¬ ((1048576 - szd live safe ops : Nat) : Int) < 0 := by omega
      obtain ⟨s0, hs0⟩ : ∃ s0, s0 = (open Classical in if diskB live safe ops = true then olda live name else []) := ⟨_, rfl⟩
      obtain ⟨b0, hb0⟩ : ∃ b0, b0 = (diskB live safe ops && has name live) := ⟨_, rfl⟩
      rw [← hs0, ← hb0] at d43 d44
      have c2 : (!(s0 == s0)) = false := by simp
      have c3 : ((b0 == b0) != true) = false := by simp
      simp (config := {dsimp := false}) only [k9, c0, go_sem, ↓reduceIte, Nat.reduceEqDiff, Int.reduceLE, Int.reduceLT, Int.reduceNeg, Int.reduceEq, Nat.reduceMul, Nat.reduceAdd, Nat.reduceLeDiff, reduceCtorEq]
      refine Call_val (own := true) (d40) (by simp [ExpOk, AV.pure]) (.inl rfl) ?_
      simp (config := {dsimp := false}) only [c1, go_sem, ↓reduceIte, Nat.reduceEqDiff, Int.reduceLE, Int.reduceLT, Int.reduceNeg, Int.reduceEq, Nat.reduceMul, Nat.reduceAdd, Nat.reduceLeDiff, reduceCtorEq]
      refine Call_val (own := false) (d41) (by simp [ExpOk, AV.pure]) (.inr (by simp [AV.rooted, AV.ref1])) ?_
      simp (config := {dsimp := false}) only [go_sem, ↓reduceIte, Nat.reduceEqDiff, Int.reduceLE, Int.reduceLT, Int.reduceNeg, Int.reduceEq, Nat.reduceMul, Nat.reduceAdd, Nat.reduceLeDiff, reduceCtorEq]
      refine Call_val (own := true) (d43) (by simp [ExpOk, AV.pure]) (.inl rfl) ?_
      simp (config := {dsimp := false}) only [go_sem, ↓reduceIte, Nat.reduceEqDiff, Int.reduceLE, Int.reduceLT, Int.reduceNeg, Int.reduceEq, Nat.reduceMul, Nat.reduceAdd, Nat.reduceLeDiff, reduceCtorEq]
      refine Call_val (own := false) (d41) (by simp [ExpOk, AV.pure]) (.inr (by simp [AV.rooted, AV.ref1])) ?_
      simp (config := {dsimp := false}) only [go_sem, ↓reduceIte, Nat.reduceEqDiff, Int.reduceLE, Int.reduceLT, Int.reduceNeg, Int.reduceEq, Nat.reduceMul, Nat.reduceAdd, Nat.reduceLeDiff, reduceCtorEq]
      refine Call_val (own := true) (d44) (by simp [ExpOk, AV.pure]) (.inl rfl) ?_
      simp (config := {dsimp := false}) only [c2, c3, go_sem, ↓reduceIte, Nat.reduceEqDiff, Int.reduceLE, Int.reduceLT, Int.reduceNeg, Int.reduceEq, Nat.reduceMul, Nat.reduceAdd, Nat.reduceLeDiff, reduceCtorEq]
      refine Call0_val false d41 (by simp [AV.free, AV.pure]) (.inr (by simp [AV.rooted, AV.ref1])) ?_
      simp (config := {dsimp := false}) only [go_sem, ↓reduceIte, Nat.reduceEqDiff, Int.reduceLE, Int.reduceLT, Int.reduceNeg, Int.reduceEq, Nat.reduceMul, Nat.reduceAdd, Nat.reduceLeDiff, reduceCtorEq]
      refine Call0_val true d42 (by simp [AV.free, AV.pure]) (.inl rfl) ?_
      simp (config := {dsimp := false}) only [go_sem, ↓reduceIte, Nat.reduceEqDiff, Int.reduceLE, Int.reduceLT, Int.reduceNeg, Int.reduceEq, Nat.reduceMul, Nat.reduceAdd, Nat.reduceLeDiff, reduceCtorEq]
      exact Fin_val (by simp [resV, upd_at, retA]) (by simp [resV, upd_at, ResOk])
    · unfold disk at d40 ⊢
      rw [lefts_no hs] at d40
      simp (config := {dsimp := false}) only [k9, c0, go_sem, ↓reduceIte, Nat.reduceEqDiff, Int.reduceLE, Int.reduceLT, Int.reduceNeg, Int.reduceEq, Nat.reduceMul, Nat.reduceAdd, Nat.reduceLeDiff, reduceCtorEq]
      refine Call_val (own := true) (d40) (by simp [ExpOk, AV.pure]) (.inl rfl) ?_
      simp (config := {dsimp := false}) only [neg1, go_sem, ↓reduceIte, Nat.reduceEqDiff, Int.reduceLE, Int.reduceLT, Int.reduceNeg, Int.reduceEq, Nat.reduceMul, Nat.reduceAdd, Nat.reduceLeDiff, reduceCtorEq]
      exact Fin_val (by simp [resV, upd_at, retA]) (by simp [resV, upd_at, ResOk])
  · have c0 : (name.length : Int) > 1048576 := by omega
    unfold disk
    simp (config := {dsimp := false}) only [k9, c0, go_sem, ↓reduceIte, Nat.reduceEqDiff, Int.reduceLE, Int.reduceLT, Int.reduceNeg, Int.reduceEq, Nat.reduceMul, Nat.reduceAdd, Nat.reduceLeDiff, reduceCtorEq]
    exact Fin_val (by simp [resV, upd_at, retA]) (by simp [resV, upd_at, ResOk])
end FrA

