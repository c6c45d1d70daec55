/- Which functions are handed objects in regions whose order is drawn; short words for programs. No condition. -/
import Derived.Test.YtbhdjaccdaccbaaGreatAmG17
import Derived.Test.YtbhdjaccdaccbaaGreatProg
import Derived.StillTailTactics
set_option linter.all false
set_option linter.unusedSimpArgs false
set_option linter.unusedVariables false
set_option linter.deprecated false
/-! Hint -/
section
namespace Go.AM
def hintT : Nat → Nat := fun n => if [67, 70, 178, 127, 122].contains n then 1 else if [46].contains n then 5 else 0
namespace L
abbrev KF (f : Func) := { k : K // comp Go.Proofs.Tryz.prog f.ntmps hintT (f.body.getD .skip) = k.strip }
abbrev R (l : List KOp) : K := .reg l
abbrev D (l : List KOp) (w : List (List Nat)) : K := .dreg l w
abbrev m (d s : Nat) : KOp := ⟨some d, none, .mv (.t s)⟩
abbrev o (d : Nat) (k : KO) : KOp := ⟨some d, none, k⟩
abbrev x (k : KO) : KOp := ⟨none, none, k⟩
abbrev q (d t : Nat) (w : Bool) (k : KO) : KOp := ⟨some d, some (t, w), k⟩
abbrev G : KOp := ⟨none, none, .gh⟩
abbrev n (k : Int) : KV := .c (.i .i64 k)
end L
end Go.AM
end
/-! KsDj -/
section
open Go Go.AM
namespace FrA
open Go.AM.L
set_option maxRecDepth 100000
-- w.FnExactDiffOf
def k3 : KF Go.Proofs.Tryz.f3 := ⟨
 .seq (R [o 6 (.mv (.c (.b false)))]) (.seq (R [o 7 (.mv (n 1048576))]) (.seq (R [m 20 0, m 21 7, o 22 (.call (.f 9) [.t 20, .t 21]), m 7 22]) (.seq (.seq (R [m 23 7, o 24 (.bin
    .lss (.t 23) (n 0))]) (.cond (.t 24) (.seq (R [o 6 (.mv (.c (.b true)))]) .ret) .skip)) (.seq (R [m 25 1, m 26 7, o 27 (.call (.f 10) [.t 25, .t 26]), m 7 27]) (.seq (.seq (R [m
    28 7, o 29 (.bin .lss (.t 28) (n 0))]) (.cond (.t 29) (.seq (R [o 6 (.mv (.c (.b true)))]) .ret) .skip)) (.seq (R [m 30 2, m 31 7, o 32 (.call (.f 10) [.t 30, .t 31]), m 7 32])
    (.seq (.seq (R [m 33 7, o 34 (.bin .lss (.t 33) (n 0))]) (.cond (.t 34) (.seq (R [o 6 (.mv (.c (.b true)))]) .ret) .skip)) (.seq (R [m 36 0, o 37 (.call (.f 12) [.t 36]), m 38
    1, o 39 (.call (.f 13) [.t 38]), m 40 2, o 41 (.call (.f 13) [.t 40]), G, G, G, o 42 (.call (.f 11) [.t 37, .t 39, .t 41]), m 35 42, o 43 (.ext (.t 35) 0), o 44 (.ext (.t 35)
    1), m 8 43, m 9 44]) (.seq (R [m 45 0, o 46 (.call (.f 12) [.t 45]), m 10 46]) (.seq (R [m 47 1, o 48 (.call (.f 13) [.t 47]), m 11 48]) (.seq (R [m 49 2, o 50 (.call (.f 13)
    [.t 49]), m 12 50]) (.seq (R [m 52 10, m 53 11, m 54 12, o 55 (.call (.f 14) [.t 52, .t 53, .t 54]), m 51 55, o 56 (.ext (.t 51) 0), o 57 (.ext (.t 51) 1), m 13 56, m 14 57])
    (.seq (.seq (R [m 58 13, m 59 8, o 60 (.call (.f 15) [.t 58, .t 59]), o 61 (.un .not (.t 60)), m 62 61, q 63 62 false (.mv (.t 14)), q 64 62 false (.mv (.t 9)), q 65 62 false
    (.eqt .bool true (.t 63) (.t 64)), o 66 (.pick (.t 62) (.c (.b true)) (.t 65))]) (.cond (.t 66) (.seq (R [o 6 (.mv (.c (.b false)))]) .ret) .skip)) (.seq (.seq (R [m 67 10, m 68
    0, o 69 (.call (.f 12) [.t 68]), o 70 (.call (.f 16) [.t 67, .t 69]), o 71 (.un .not (.t 70))]) (.cond (.t 71) (.seq (R [o 6 (.mv (.c (.b false)))]) .ret) .skip)) (.seq (.seq (R
    [m 72 11, m 73 1, o 74 (.call (.f 13) [.t 73]), o 75 (.call (.f 17) [.t 72, .t 74]), o 76 (.un .not (.t 75))]) (.cond (.t 76) (.seq (R [o 6 (.mv (.c (.b false)))]) .ret) .skip))
    (.seq (.seq (R [m 77 12, m 78 2, o 79 (.call (.f 13) [.t 78]), o 80 (.call (.f 17) [.t 77, .t 79]), o 81 (.un .not (.t 80))]) (.cond (.t 81) (.seq (R [o 6 (.mv (.c (.b
    false)))]) .ret) .skip)) (.seq (R [o 15 (.mv (n 1))]) (.seq (R [m 82 10, m 83 15, o 84 (.call (.f 18) [.t 82, .t 83]), m 15 84]) (.seq (R [m 85 11, m 86 15, o 87 (.call (.f 19)
    [.t 85, .t 86]), m 15 87]) (.seq (R [m 88 12, m 89 15, o 90 (.call (.f 19) [.t 88, .t 89]), m 15 90]) (.seq (.seq (R [m 91 15, o 92 (.bin .lss (.t 91) (n 0)), m 93 92, q 94 93
    false (.mv (.t 13)), q 95 93 false (.mv (.t 8)), q 96 93 false (.call (.f 15) [.t 94, .t 95]), q 97 93 false (.un .not (.t 96)), o 98 (.pick (.t 93) (.c (.b true)) (.t 97)), m
    99 98, q 100 99 false (.mv (.t 14)), q 101 99 false (.mv (.t 9)), q 102 99 false (.eqt .bool true (.t 100) (.t 101)), o 103 (.pick (.t 99) (.c (.b true)) (.t 102))]) (.cond (.t
    103) (.seq (R [o 6 (.mv (.c (.b false)))]) .ret) .skip)) (.seq (R [o 16 (.mv (n 1))]) (.seq (R [m 104 13, m 105 16, o 106 (.call (.f 20) [.t 104, .t 105]), m 16 106]) (.seq (R
    [o 17 (.mv (n 1))]) (.seq (R [m 107 13, m 108 17, o 109 (.call (.f 21) [.t 107, .t 108]), m 17 109]) (.seq (.seq (R [m 110 17, o 111 (.bin .lss (.t 110) (n 0))]) (.cond (.t 111)
    (.seq (R [o 6 (.mv (.c (.b false)))]) .ret) .skip)) (.seq (.seq (R [m 112 17, m 113 16, o 114 (.bin .neq (.t 112) (.t 113))]) (.cond (.t 114) (.seq (R [o 6 (.mv (.c (.b
    false)))]) .ret) .skip)) (.seq (R [m 116 0, o 117 (.call (.f 12) [.t 116]), m 118 1, o 119 (.call (.f 13) [.t 118]), m 120 2, o 121 (.call (.f 13) [.t 120]), o 122 (.call (.f
    14) [.t 117, .t 119, .t 121]), m 115 122, o 123 (.ext (.t 115) 0), o 124 (.ext (.t 115) 1), m 18 123, m 19 124]) (.seq (.seq (R [m 125 18, m 126 8, o 127 (.call (.f 15) [.t 125,
    .t 126]), o 128 (.un .not (.t 127)), m 129 128, q 130 129 false (.mv (.t 19)), q 131 129 false (.mv (.t 9)), q 132 129 false (.eqt .bool true (.t 130) (.t 131)), o 133 (.pick
    (.t 129) (.c (.b true)) (.t 132))]) (.cond (.t 133) (.seq (R [o 6 (.mv (.c (.b false)))]) .ret) .skip)) (.seq (R [o 17 (.mv (n 1))]) (.seq (R [m 134 13, m 135 17, o 136 (.call
    (.f 21) [.t 134, .t 135]), m 17 136]) (.seq (.seq (R [m 137 17, o 138 (.bin .lss (.t 137) (n 0))]) (.cond (.t 138) (.seq (R [o 6 (.mv (.c (.b false)))]) .ret) .skip)) (.seq
    (.seq (R [m 139 17, m 140 16, o 141 (.bin .neq (.t 139) (.t 140))]) (.cond (.t 141) (.seq (R [o 6 (.mv (.c (.b false)))]) .ret) .skip)) (.seq (R [o 6 (.mv (.c (.b true)))])
    .ret)))))))))))))))))))))))))))))))))),
  by kernel_rfl⟩
end FrA
end
/-! KsS -/
section
open Go Go.AM
namespace FrA
open Go.AM.L
set_option maxRecDepth 100000
-- w.szVal
def k185 : KF Go.Proofs.Tryz.f185 := ⟨
 .seq (R [o 2 (.box (.t 0)), o 4 (.mv (n 0))]) (.seq (R [m 5 1, o 6 (.fld 2 (.t 2)), o 7 (.load false 1 (.t 6)), o 8 (.len true (.t 7)), o 9 (.bin .sub (.t 5) (.t 8)), m 1 9]) (.seq
    (.seq (R [m 10 1, o 11 (.bin .lss (.t 10) (n 0))]) (.cond (.t 11) (.seq (R [o 4 (.mv (n (-1)))]) .ret) .skip)) (.seq (R [m 12 1, m 4 12]) .ret))),
  by kernel_rfl⟩
-- w.szValS
def k131 : KF Go.Proofs.Tryz.f131 := ⟨
 .seq (R [o 4 (.mv (n 0))]) (.seq (R [m 6 1, m 7 0, o 8 (.len false (.t 7)), o 9 (.bin .sub (.t 6) (.t 8)), m 1 9]) (.seq (.seq (R [m 10 1, o 11 (.bin .lss (.t 10) (n 0))]) (.cond
    (.t 11) (.seq (R [o 4 (.mv (n (-1)))]) .ret) .skip)) (.seq (.seq (R [o 5 (.mv (n 0))]) (.block 0 (.loop (.seq (.seq (R [m 12 5, m 13 0, o 14 (.len false (.t 13)), o 15 (.bin
    .lss (.t 12) (.t 14))]) (.cond (.t 15) .skip (.exit 0))) (.seq (.block 1 (.seq (R [m 18 0, m 19 5, o 20 (.idx 3 (.t 18) (.t 19)), o 21 (.load true 3 (.t 20)), m 22 1, o 23
    (.call (.f 185) [.t 21, .t 22]), m 1 23]) (.seq (R [m 24 1, o 25 (.bin .lss (.t 24) (n 0))]) (.cond (.t 25) (.seq (R [o 4 (.mv (n (-1)))]) .ret) .skip)))) (R [m 16 5, o 17 (.bin
    .add (.t 16) (n 1)), m 5 17])))))) (.seq (R [m 26 1, m 4 26]) .ret)))),
  by kernel_rfl⟩
-- w.szCol
def k147 : KF Go.Proofs.Tryz.f147 := ⟨
 .seq (R [o 2 (.box (.t 0)), o 4 (.mv (n 0))]) (.seq (R [m 5 1, o 6 (.fld 0 (.t 2)), o 7 (.load false 1 (.t 6)), o 8 (.len true (.t 7)), o 9 (.bin .sub (.t 5) (.t 8)), m 1 9]) (.seq
    (.seq (R [m 10 1, o 11 (.bin .lss (.t 10) (n 0))]) (.cond (.t 11) (.seq (R [o 4 (.mv (n (-1)))]) .ret) .skip)) (.seq (R [o 12 (.fld 3 (.t 2)), o 13 (.load true 3 (.t 12)), m 14
    1, o 15 (.call (.f 185) [.t 13, .t 14]), m 1 15]) (.seq (.seq (R [m 16 1, o 17 (.bin .lss (.t 16) (n 0))]) (.cond (.t 17) (.seq (R [o 4 (.mv (n (-1)))]) .ret) .skip)) (.seq (R
    [m 18 1, m 4 18]) .ret))))),
  by kernel_rfl⟩
-- w.szColS
def k93 : KF Go.Proofs.Tryz.f93 := ⟨
 .seq (R [o 4 (.mv (n 0))]) (.seq (R [m 6 1, m 7 0, o 8 (.len false (.t 7)), o 9 (.bin .sub (.t 6) (.t 8)), m 1 9]) (.seq (.seq (R [m 10 1, o 11 (.bin .lss (.t 10) (n 0))]) (.cond
    (.t 11) (.seq (R [o 4 (.mv (n (-1)))]) .ret) .skip)) (.seq (.seq (R [o 5 (.mv (n 0))]) (.block 0 (.loop (.seq (.seq (R [m 12 5, m 13 0, o 14 (.len false (.t 13)), o 15 (.bin
    .lss (.t 12) (.t 14))]) (.cond (.t 15) .skip (.exit 0))) (.seq (.block 1 (.seq (R [m 18 0, m 19 5, o 20 (.idx 6 (.t 18) (.t 19)), o 21 (.load true 6 (.t 20)), m 22 1, o 23
    (.call (.f 147) [.t 21, .t 22]), m 1 23]) (.seq (R [m 24 1, o 25 (.bin .lss (.t 24) (n 0))]) (.cond (.t 25) (.seq (R [o 4 (.mv (n (-1)))]) .ret) .skip)))) (R [m 16 5, o 17 (.bin
    .add (.t 16) (n 1)), m 5 17])))))) (.seq (R [m 26 1, m 4 26]) .ret)))),
  by kernel_rfl⟩
-- w.szInt64S
def k94 : KF Go.Proofs.Tryz.f94 := ⟨
 .seq (R [o 4 (.mv (n 0))]) (.seq (R [m 5 1, m 6 0, o 7 (.len false (.t 6)), o 8 (.bin .sub (.t 5) (.t 7)), m 1 8]) (.seq (.seq (R [m 9 1, o 10 (.bin .lss (.t 9) (n 0))]) (.cond (.t
    10) (.seq (R [o 4 (.mv (n (-1)))]) .ret) .skip)) (.seq (R [m 11 1, m 4 11]) .ret))),
  by kernel_rfl⟩
-- w.szUnique
def k148 : KF Go.Proofs.Tryz.f148 := ⟨
 .seq (R [o 2 (.box (.t 0)), o 4 (.mv (n 0))]) (.seq (R [o 5 (.fld 0 (.t 2)), o 6 (.load false 1 (.t 5)), m 7 1, o 8 (.call (.f 94) [.t 6, .t 7]), m 1 8]) (.seq (.seq (R [m 9 1, o
    10 (.bin .lss (.t 9) (n 0))]) (.cond (.t 10) (.seq (R [o 4 (.mv (n (-1)))]) .ret) .skip)) (.seq (R [m 11 1, m 4 11]) .ret))),
  by kernel_rfl⟩
-- w.szUniqueS
def k95 : KF Go.Proofs.Tryz.f95 := ⟨
 .seq (R [o 4 (.mv (n 0))]) (.seq (R [m 6 1, m 7 0, o 8 (.len false (.t 7)), o 9 (.bin .sub (.t 6) (.t 8)), m 1 9]) (.seq (.seq (R [m 10 1, o 11 (.bin .lss (.t 10) (n 0))]) (.cond
    (.t 11) (.seq (R [o 4 (.mv (n (-1)))]) .ret) .skip)) (.seq (.seq (R [o 5 (.mv (n 0))]) (.block 0 (.loop (.seq (.seq (R [m 12 5, m 13 0, o 14 (.len false (.t 13)), o 15 (.bin
    .lss (.t 12) (.t 14))]) (.cond (.t 15) .skip (.exit 0))) (.seq (.block 1 (.seq (R [m 18 0, m 19 5, o 20 (.idx 1 (.t 18) (.t 19)), o 21 (.load true 1 (.t 20)), m 22 1, o 23
    (.call (.f 148) [.t 21, .t 22]), m 1 23]) (.seq (R [m 24 1, o 25 (.bin .lss (.t 24) (n 0))]) (.cond (.t 25) (.seq (R [o 4 (.mv (n (-1)))]) .ret) .skip)))) (R [m 16 5, o 17 (.bin
    .add (.t 16) (n 1)), m 5 17])))))) (.seq (R [m 26 1, m 4 26]) .ret)))),
  by kernel_rfl⟩
-- w.szTok
def k246 : KF Go.Proofs.Tryz.f246 := ⟨
 .seq (R [o 2 (.box (.t 0)), o 4 (.mv (n 0))]) (.seq (R [o 5 (.fld 2 (.t 2)), o 6 (.load true 3 (.t 5)), m 7 1, o 8 (.call (.f 185) [.t 6, .t 7]), m 1 8]) (.seq (.seq (R [m 9 1, o
    10 (.bin .lss (.t 9) (n 0))]) (.cond (.t 10) (.seq (R [o 4 (.mv (n (-1)))]) .ret) .skip)) (.seq (R [m 11 1, m 4 11]) .ret))),
  by kernel_rfl⟩
-- w.szTokS
def k212 : KF Go.Proofs.Tryz.f212 := ⟨
 .seq (R [o 4 (.mv (n 0))]) (.seq (R [m 6 1, m 7 0, o 8 (.len false (.t 7)), o 9 (.bin .sub (.t 6) (.t 8)), m 1 9]) (.seq (.seq (R [m 10 1, o 11 (.bin .lss (.t 10) (n 0))]) (.cond
    (.t 11) (.seq (R [o 4 (.mv (n (-1)))]) .ret) .skip)) (.seq (.seq (R [o 5 (.mv (n 0))]) (.block 0 (.loop (.seq (.seq (R [m 12 5, m 13 0, o 14 (.len false (.t 13)), o 15 (.bin
    .lss (.t 12) (.t 14))]) (.cond (.t 15) .skip (.exit 0))) (.seq (.block 1 (.seq (R [m 18 0, m 19 5, o 20 (.idx 5 (.t 18) (.t 19)), o 21 (.load true 5 (.t 20)), m 22 1, o 23
    (.call (.f 246) [.t 21, .t 22]), m 1 23]) (.seq (R [m 24 1, o 25 (.bin .lss (.t 24) (n 0))]) (.cond (.t 25) (.seq (R [o 4 (.mv (n (-1)))]) .ret) .skip)))) (R [m 16 5, o 17 (.bin
    .add (.t 16) (n 1)), m 5 17])))))) (.seq (R [m 26 1, m 4 26]) .ret)))),
  by kernel_rfl⟩
-- w.szCheck
def k149 : KF Go.Proofs.Tryz.f149 := ⟨
 .seq (R [o 2 (.box (.t 0)), o 4 (.mv (n 0))]) (.seq (R [o 5 (.fld 0 (.t 2)), o 6 (.load false 1 (.t 5)), m 7 1, o 8 (.call (.f 212) [.t 6, .t 7]), m 1 8]) (.seq (.seq (R [m 9 1, o
    10 (.bin .lss (.t 9) (n 0))]) (.cond (.t 10) (.seq (R [o 4 (.mv (n (-1)))]) .ret) .skip)) (.seq (R [m 11 1, m 4 11]) .ret))),
  by kernel_rfl⟩
-- w.szCheckS
def k96 : KF Go.Proofs.Tryz.f96 := ⟨
 .seq (R [o 4 (.mv (n 0))]) (.seq (R [m 6 1, m 7 0, o 8 (.len false (.t 7)), o 9 (.bin .sub (.t 6) (.t 8)), m 1 9]) (.seq (.seq (R [m 10 1, o 11 (.bin .lss (.t 10) (n 0))]) (.cond
    (.t 11) (.seq (R [o 4 (.mv (n (-1)))]) .ret) .skip)) (.seq (.seq (R [o 5 (.mv (n 0))]) (.block 0 (.loop (.seq (.seq (R [m 12 5, m 13 0, o 14 (.len false (.t 13)), o 15 (.bin
    .lss (.t 12) (.t 14))]) (.cond (.t 15) .skip (.exit 0))) (.seq (.block 1 (.seq (R [m 18 0, m 19 5, o 20 (.idx 1 (.t 18) (.t 19)), o 21 (.load true 1 (.t 20)), m 22 1, o 23
    (.call (.f 149) [.t 21, .t 22]), m 1 23]) (.seq (R [m 24 1, o 25 (.bin .lss (.t 24) (n 0))]) (.cond (.t 25) (.seq (R [o 4 (.mv (n (-1)))]) .ret) .skip)))) (R [m 16 5, o 17 (.bin
    .add (.t 16) (n 1)), m 5 17])))))) (.seq (R [m 26 1, m 4 26]) .ret)))),
  by kernel_rfl⟩
-- w.szFk
def k150 : KF Go.Proofs.Tryz.f150 := ⟨
 .seq (R [o 2 (.box (.t 0)), o 4 (.mv (n 0))]) (.seq (R [o 5 (.fld 0 (.t 2)), o 6 (.load false 1 (.t 5)), m 7 1, o 8 (.call (.f 94) [.t 6, .t 7]), m 1 8]) (.seq (.seq (R [m 9 1, o
    10 (.bin .lss (.t 9) (n 0))]) (.cond (.t 10) (.seq (R [o 4 (.mv (n (-1)))]) .ret) .skip)) (.seq (R [m 11 1, o 12 (.fld 1 (.t 2)), o 13 (.load false 1 (.t 12)), o 14 (.len true
    (.t 13)), o 15 (.bin .sub (.t 11) (.t 14)), m 1 15]) (.seq (.seq (R [m 16 1, o 17 (.bin .lss (.t 16) (n 0))]) (.cond (.t 17) (.seq (R [o 4 (.mv (n (-1)))]) .ret) .skip)) (.seq
    (R [m 18 1, m 4 18]) .ret))))),
  by kernel_rfl⟩
-- w.szFkS
def k97 : KF Go.Proofs.Tryz.f97 := ⟨
 .seq (R [o 4 (.mv (n 0))]) (.seq (R [m 6 1, m 7 0, o 8 (.len false (.t 7)), o 9 (.bin .sub (.t 6) (.t 8)), m 1 9]) (.seq (.seq (R [m 10 1, o 11 (.bin .lss (.t 10) (n 0))]) (.cond
    (.t 11) (.seq (R [o 4 (.mv (n (-1)))]) .ret) .skip)) (.seq (.seq (R [o 5 (.mv (n 0))]) (.block 0 (.loop (.seq (.seq (R [m 12 5, m 13 0, o 14 (.len false (.t 13)), o 15 (.bin
    .lss (.t 12) (.t 14))]) (.cond (.t 15) .skip (.exit 0))) (.seq (.block 1 (.seq (R [m 18 0, m 19 5, o 20 (.idx 5 (.t 18) (.t 19)), o 21 (.load true 5 (.t 20)), m 22 1, o 23
    (.call (.f 150) [.t 21, .t 22]), m 1 23]) (.seq (R [m 24 1, o 25 (.bin .lss (.t 24) (n 0))]) (.cond (.t 25) (.seq (R [o 4 (.mv (n (-1)))]) .ret) .skip)))) (R [m 16 5, o 17 (.bin
    .add (.t 16) (n 1)), m 5 17])))))) (.seq (R [m 26 1, m 4 26]) .ret)))),
  by kernel_rfl⟩
-- w.szTable
def k36 : KF Go.Proofs.Tryz.f36 := ⟨
 .seq (R [o 2 (.box (.t 0)), o 4 (.mv (n 0))]) (.seq (R [m 5 1, o 6 (.fld 0 (.t 2)), o 7 (.load false 1 (.t 6)), o 8 (.len true (.t 7)), o 9 (.bin .sub (.t 5) (.t 8)), m 1 9]) (.seq
    (.seq (R [m 10 1, o 11 (.bin .lss (.t 10) (n 0))]) (.cond (.t 11) (.seq (R [o 4 (.mv (n (-1)))]) .ret) .skip)) (.seq (R [o 12 (.fld 1 (.t 2)), o 13 (.load false 1 (.t 12)), m 14
    1, o 15 (.call (.f 93) [.t 13, .t 14]), m 1 15]) (.seq (.seq (R [m 16 1, o 17 (.bin .lss (.t 16) (n 0))]) (.cond (.t 17) (.seq (R [o 4 (.mv (n (-1)))]) .ret) .skip)) (.seq (R [o
    18 (.fld 2 (.t 2)), o 19 (.load false 1 (.t 18)), m 20 1, o 21 (.call (.f 94) [.t 19, .t 20]), m 1 21]) (.seq (.seq (R [m 22 1, o 23 (.bin .lss (.t 22) (n 0))]) (.cond (.t 23)
    (.seq (R [o 4 (.mv (n (-1)))]) .ret) .skip)) (.seq (R [o 24 (.fld 3 (.t 2)), o 25 (.load false 1 (.t 24)), m 26 1, o 27 (.call (.f 95) [.t 25, .t 26]), m 1 27]) (.seq (.seq (R
    [m 28 1, o 29 (.bin .lss (.t 28) (n 0))]) (.cond (.t 29) (.seq (R [o 4 (.mv (n (-1)))]) .ret) .skip)) (.seq (R [o 30 (.fld 4 (.t 2)), o 31 (.load false 1 (.t 30)), m 32 1, o 33
    (.call (.f 96) [.t 31, .t 32]), m 1 33]) (.seq (.seq (R [m 34 1, o 35 (.bin .lss (.t 34) (n 0))]) (.cond (.t 35) (.seq (R [o 4 (.mv (n (-1)))]) .ret) .skip)) (.seq (R [o 36
    (.fld 5 (.t 2)), o 37 (.load false 1 (.t 36)), m 38 1, o 39 (.call (.f 97) [.t 37, .t 38]), m 1 39]) (.seq (.seq (R [m 40 1, o 41 (.bin .lss (.t 40) (n 0))]) (.cond (.t 41)
    (.seq (R [o 4 (.mv (n (-1)))]) .ret) .skip)) (.seq (R [m 42 1, m 4 42]) .ret))))))))))))),
  by kernel_rfl⟩
-- w.szTableS
def k9 : KF Go.Proofs.Tryz.f9 := ⟨
 .seq (R [o 4 (.mv (n 0))]) (.seq (R [m 6 1, m 7 0, o 8 (.len false (.t 7)), o 9 (.bin .sub (.t 6) (.t 8)), m 1 9]) (.seq (.seq (R [m 10 1, o 11 (.bin .lss (.t 10) (n 0))]) (.cond
    (.t 11) (.seq (R [o 4 (.mv (n (-1)))]) .ret) .skip)) (.seq (.seq (R [o 5 (.mv (n 0))]) (.block 0 (.loop (.seq (.seq (R [m 12 5, m 13 0, o 14 (.len false (.t 13)), o 15 (.bin
    .lss (.t 12) (.t 14))]) (.cond (.t 15) .skip (.exit 0))) (.seq (.block 1 (.seq (R [m 18 0, m 19 5, o 20 (.idx 6 (.t 18) (.t 19)), o 21 (.load true 6 (.t 20)), m 22 1, o 23
    (.call (.f 36) [.t 21, .t 22]), m 1 23]) (.seq (R [m 24 1, o 25 (.bin .lss (.t 24) (n 0))]) (.cond (.t 25) (.seq (R [o 4 (.mv (n (-1)))]) .ret) .skip)))) (R [m 16 5, o 17 (.bin
    .add (.t 16) (n 1)), m 5 17])))))) (.seq (R [m 26 1, m 4 26]) .ret)))),
  by kernel_rfl⟩
-- w.szRow
def k151 : KF Go.Proofs.Tryz.f151 := ⟨
 .seq (R [o 2 (.box (.t 0)), o 4 (.mv (n 0))]) (.seq (R [o 5 (.fld 1 (.t 2)), o 6 (.load false 1 (.t 5)), m 7 1, o 8 (.call (.f 131) [.t 6, .t 7]), m 1 8]) (.seq (.seq (R [m 9 1, o
    10 (.bin .lss (.t 9) (n 0))]) (.cond (.t 10) (.seq (R [o 4 (.mv (n (-1)))]) .ret) .skip)) (.seq (R [m 11 1, m 4 11]) .ret))),
  by kernel_rfl⟩
-- w.szRowS
def k98 : KF Go.Proofs.Tryz.f98 := ⟨
 .seq (R [o 4 (.mv (n 0))]) (.seq (R [m 6 1, m 7 0, o 8 (.len false (.t 7)), o 9 (.bin .sub (.t 6) (.t 8)), m 1 9]) (.seq (.seq (R [m 10 1, o 11 (.bin .lss (.t 10) (n 0))]) (.cond
    (.t 11) (.seq (R [o 4 (.mv (n (-1)))]) .ret) .skip)) (.seq (.seq (R [o 5 (.mv (n 0))]) (.block 0 (.loop (.seq (.seq (R [m 12 5, m 13 0, o 14 (.len false (.t 13)), o 15 (.bin
    .lss (.t 12) (.t 14))]) (.cond (.t 15) .skip (.exit 0))) (.seq (.block 1 (.seq (R [m 18 0, m 19 5, o 20 (.idx 2 (.t 18) (.t 19)), o 21 (.load true 2 (.t 20)), m 22 1, o 23
    (.call (.f 151) [.t 21, .t 22]), m 1 23]) (.seq (R [m 24 1, o 25 (.bin .lss (.t 24) (n 0))]) (.cond (.t 25) (.seq (R [o 4 (.mv (n (-1)))]) .ret) .skip)))) (R [m 16 5, o 17 (.bin
    .add (.t 16) (n 1)), m 5 17])))))) (.seq (R [m 26 1, m 4 26]) .ret)))),
  by kernel_rfl⟩
-- w.szData
def k37 : KF Go.Proofs.Tryz.f37 := ⟨
 .seq (R [o 2 (.box (.t 0)), o 4 (.mv (n 0))]) (.seq (R [o 5 (.fld 0 (.t 2)), o 6 (.load false 1 (.t 5)), m 7 1, o 8 (.call (.f 98) [.t 6, .t 7]), m 1 8]) (.seq (.seq (R [m 9 1, o
    10 (.bin .lss (.t 9) (n 0))]) (.cond (.t 10) (.seq (R [o 4 (.mv (n (-1)))]) .ret) .skip)) (.seq (R [m 11 1, m 4 11]) .ret))),
  by kernel_rfl⟩
-- w.szDataS
def k10 : KF Go.Proofs.Tryz.f10 := ⟨
 .seq (R [o 4 (.mv (n 0))]) (.seq (R [m 6 1, m 7 0, o 8 (.len false (.t 7)), o 9 (.bin .sub (.t 6) (.t 8)), m 1 9]) (.seq (.seq (R [m 10 1, o 11 (.bin .lss (.t 10) (n 0))]) (.cond
    (.t 11) (.seq (R [o 4 (.mv (n (-1)))]) .ret) .skip)) (.seq (.seq (R [o 5 (.mv (n 0))]) (.block 0 (.loop (.seq (.seq (R [m 12 5, m 13 0, o 14 (.len false (.t 13)), o 15 (.bin
    .lss (.t 12) (.t 14))]) (.cond (.t 15) .skip (.exit 0))) (.seq (.block 1 (.seq (R [m 18 0, m 19 5, o 20 (.idx 1 (.t 18) (.t 19)), o 21 (.load true 1 (.t 20)), m 22 1, o 23
    (.call (.f 37) [.t 21, .t 22]), m 1 23]) (.seq (R [m 24 1, o 25 (.bin .lss (.t 24) (n 0))]) (.cond (.t 25) (.seq (R [o 4 (.mv (n (-1)))]) .ret) .skip)))) (R [m 16 5, o 17 (.bin
    .add (.t 16) (n 1)), m 5 17])))))) (.seq (R [m 26 1, m 4 26]) .ret)))),
  by kernel_rfl⟩
end FrA
end
/-! Fun5 -/
section
namespace Go.AM
section
variable {C : Con} {s : Stk} {g : Slots} {h : Heap} {c : Nat}
/-- A loop that counts up to n. -/
theorem K_for {k : K} (n : Nat) (I : Nat → Post) (h0 : I 0 g h c)
    (hs : ∀ (i : Nat) (A : Post), i < n → (∀ g h c, I (i + 1) g h c → A g h c) → ∀ g h c, I i g h c → RunK C k (.post A s) g h c)
    (he : ∀ (A : Post) g h c, I n g h c → RunK C k (.post A s) g h c) : RunK C (.loop k) s g h c := by
  let p : Slots → Heap → Nat → Nat → Prop := fun g h c d => d ≤ n ∧ I (n - d) g h c
  have hp : ∀ g h c, (∃ d, p g h c d) → ∃ d, p g h c d ∧ ∀ m, p g h c m → d ≤ m := fun g h c ⟨d, hd⟩ => least_ex _ d hd
  let μ : Slots → Heap → Nat → Nat := fun g h c => open Classical in if hh : ∃ d, p g h c d then Classical.choose (hp g h c hh) else 0
  have hμ : ∀ g h c, (∃ d, p g h c d) → p g h c (μ g h c) ∧ ∀ m, p g h c m → μ g h c ≤ m := fun g h c hh => by
    have : μ g h c = Classical.choose (hp g h c hh) := by simp only [μ]; rw [dif_pos hh]
    rw [this]; exact Classical.choose_spec (hp g h c hh)
  refine K_loop (fun g h c => ∃ d, p g h c d) μ ⟨n, Nat.le_refl _, by rw [Nat.sub_self]; exact h0⟩ fun A m hA g h c hI hm => ?_
  obtain ⟨⟨h1, h2⟩, h3⟩ := hμ g h c hI
  by_cases hz : μ g h c = 0
  · rw [hz, Nat.sub_zero] at h2
    exact he A g h c h2
  · have hlt : n - μ g h c < n := by omega
    refine hs (n - μ g h c) A hlt (fun g' h' c' hI' => ?_) g h c h2
    have hq : p g' h' c' (μ g h c - 1) := ⟨by omega, by rw [show n - (μ g h c - 1) = n - μ g h c + 1 by omega]; exact hI'⟩
    refine hA g' h' c' ⟨_, hq⟩ ?_
    have := (hμ g' h' c' ⟨_, hq⟩).2 _ hq
    omega
end
end Go.AM
end
/-! Fun6 -/
section
namespace Go.AM
/-- The objects that come back. -/
def Outs (h : Heap) : List Rid → List Ob → Prop
  | [], [] => True
  | o :: r, b :: s => (Pure b.es ∧ b.ver = 1 ∧ ∃ v q, h o = some { b with ver := v, own := q } ∧ ((b.own ↔ q) ∨ Flat b.es)) ∧ Outs h r s
  | _, _ => False
theorem Outs.spec {h : Heap} : ∀ {ren : List Rid} {obs' : List Ob}, Outs h ren obs' → obs'.length = ren.length ∧ ∀ (k : Nat) ob, obs'[k]? = some ob → ∃ o v q, ren[k]? = some o ∧ Pure ob.es ∧ ob.ver = 1 ∧ h o = some { ob with ver := v, own := q } ∧ ((ob.own ↔ q) ∨ Flat ob.es)
  | [], [], _ => ⟨rfl, fun k ob hk => by simp at hk⟩
  | [], _ :: _, hk => hk.elim
  | _ :: _, [], hk => hk.elim
  | o :: r, b :: s, ⟨⟨h1, h2, v, q, h3, h4⟩, hr⟩ => by
    obtain ⟨e1, e2⟩ := Outs.spec hr
    refine ⟨by simp [e1], fun k ob hk => ?_⟩
    cases k with
    | zero => simp at hk; subst hk; exact ⟨o, v, q, rfl, h1, h2, h3, h4⟩
    | succ k => simpa using e2 k ob (by simpa using hk)
theorem finR_outs {h : Heap} {ren : List Rid} {obs' : List Ob} (nd : ren.Nodup) (np : ∀ o ∈ ren, o.isP = false) (ho : Outs h ren obs') : FinR [] ren obs' h := by
  obtain ⟨e1, e2⟩ := ho.spec
  refine ⟨nd, np, by simpa using e1, fun k ob hk => ?_⟩
  obtain ⟨o, v, q, h1, h2, h3, h4, h5⟩ := e2 k ob hk
  refine ⟨h2, { ob with ver := v, own := q }, ob.own, h5, .inr ⟨Nat.zero_le _, o, by simpa using h1, h4, ?_⟩⟩
  cases ob; simp only at h3; subst h3; rfl
theorem finC_outs {cs : List RS} {own : Bool} {r : AV} {obs' : List Ob} {g : Slots} {h : Heap} {p : Prop} {l : List AV} (ren : List Rid) (h0 : resM h g cs = some (p, l)) (hp : p) (nd : ren.Nodup) (np : ∀ o ∈ ren, o.isP = false) (ho : Outs h ren obs') (h1 : retA h ren 0 (resOne l) = r) (h2 : ResOk h ren own (resOne l)) :
    ∃ p l, resM h g cs = some (p, l) ∧ p ∧ ∃ r' o', (r' = r ∧ o' = obs') ∧ ∃ ren, FinR [] ren o' h ∧ retA h ren 0 (resOne l) = r' ∧ ResOk h ren own (resOne l) :=
  ⟨p, l, h0, hp, r, obs', ⟨rfl, rfl⟩, ren, finR_outs nd np ho, h1, h2⟩
section
variable {C : Con} {s : Stk} {g : Slots} {h : Heap} {c : Nat} {r m : List KOp} {d : Option Nat}
/-- A call that gives back new objects. -/
theorem Call_news {f : Nat} {capt args : List AV} {v : AV} {own : Bool} {b : Ob} {obs' : List Ob} (hc : C.det f (expL h [] (args ++ capt)) [] v own (b :: obs')) (he : ∀ a ∈ args ++ capt, ExpOk h [] a) (hp : ∀ x ∈ b :: obs', Pure x.es) (hr : own = true ∨ ∀ a ∈ args ++ capt, a.rooted = false)
    (hw : own = true → ∀ x ∈ b :: obs', x.own ∨ Flat x.es) (hq : RunD C r m s (updO g d (impA (d.getD 0) 0 c v)) (newObs (d.getD 0) c 0 (b :: obs') h) (c + 1)) : CallK C (.fn f capt) args d r m s g h c :=
  Call_obs [] [] v own (b :: obs') hc rfl .nil (by simp) he (fun _ hb => by cases hb) hp hr hw (by rw [hcall_news]; exact hq)
end
/-- The heap behind a call that was handed objects. -/
def updObs : List Rid → List Ob → List Ob → Heap → Heap
  | o :: os, b :: bs, b' :: obs', h => updObs os bs obs' (hup h o { b' with ver := b.ver, fixed := b.fixed })
  | _, _, _, h => h
theorem updObs_ne : ∀ {os : List Rid} {bs obs' : List Ob} {h : Heap} {u : Rid}, u ∉ os → updObs os bs obs' h u = h u
  | [], _, _, _, _, _ => by simp [updObs]
  | o :: os, [], _, _, _, _ => by simp [updObs]
  | o :: os, b :: bs, [], _, _, _ => by simp [updObs]
  | o :: os, b :: bs, b' :: obs', h, u, hu => by
    simp only [List.mem_cons, not_or] at hu
    rw [updObs, updObs_ne hu.2, hup_at, if_neg hu.1]
theorem updObs_at : ∀ {os : List Rid} {bs obs' : List Ob} {h : Heap} (k : Nat) {o : Rid} {b b' : Ob}, os.Nodup → os[k]? = some o → bs[k]? = some b → obs'[k]? = some b' → updObs os bs obs' h o = some { b' with ver := b.ver, fixed := b.fixed }
  | [], _, _, _, k, _, _, _, _, h1, _, _ => by simp at h1
  | o :: os, [], _, _, k, _, _, _, _, _, h2, _ => by simp at h2
  | o :: os, b :: bs, [], _, k, _, _, _, _, _, _, h3 => by simp at h3
  | o :: os, b :: bs, b' :: obs', h, 0, _, _, _, hn, h1, h2, h3 => by
    simp at h1 h2 h3
    subst h1; subst h2; subst h3
    rw [updObs, updObs_ne (List.nodup_cons.1 hn).1, hup_at, if_pos rfl]
  | o :: os, b :: bs, b' :: obs', h, k + 1, _, _, _, hn, h1, h2, h3 => by
    rw [updObs]
    exact updObs_at k (List.nodup_cons.1 hn).2 (by simpa using h1) (by simpa using h2) (by simpa using h3)
theorem hcall_upds {h : Heap} {os : List Rid} {bs obs' : List Ob} (ho : os.map h = bs.map some) (hn : os.Nodup) (hl : obs'.length = bs.length) (t c : Nat) : hcall h os obs' t c = updObs os bs obs' h := by
  have hlen : os.length = bs.length := by have := congrArg List.length ho; simpa using this
  funext u
  have e : tgt os t obs'.length u = os.idxOf? u := by
    cases u with
    | r t' j => rw [tgt_r_eq, if_neg (by omega)]
    | p _ => rfl
    | l _ => rfl
  unfold hcall
  rw [e]
  cases hk : os.idxOf? u with
  | none => exact (updObs_ne (by simpa using hk)).symm
  | some k =>
    have h1 : os[k]? = some u := idx_some hk
    have hlt : k < os.length := (List.getElem?_eq_some_iff.1 h1).1
    have h2 : bs[k]? = some bs[k] := List.getElem?_eq_getElem (by omega)
    have h3 : obs'[k]? = some obs'[k] := List.getElem?_eq_getElem (by omega)
    rw [updObs_at k hn h1 h2 h3]
    have h4 : h u = some bs[k] := by
      have := congrArg (·[k]?) ho
      simp only [List.getElem?_map, h1, h2, Option.map_some, Option.some.injEq] at this
      exact this
    simp only [hlt, if_true, h4, Option.bind_some, h3, Option.map_some]
section
variable {C : Con} {s : Stk} {g : Slots} {h : Heap} {c : Nat} {r m : List KOp} {d : Option Nat}
/-- A call that is handed objects. -/
theorem Call_many {f : Nat} {capt args : List AV} {v : AV} {own : Bool} (os : List Rid) (bs obs' : List Ob) (ho : os.map h = bs.map some) (hnd : os.Nodup) (hc : C.det f (expL h os (args ++ capt)) (bs.map fun b => { b with ver := 0, fixed := true }) v own obs') (hl : obs'.length = bs.length)
    (he : ∀ a ∈ args ++ capt, ExpOk h os a) (hp : ∀ b ∈ bs, Pure b.es) (hp' : ∀ b ∈ obs', Pure b.es) (hr : own = true ∨ ∀ a ∈ args ++ capt, a.rooted = false) (hw : own = true → ∀ b ∈ obs', b.own ∨ Flat b.es)
    (hq : RunD C r m s (updO g d v) (updObs os bs obs' h) c)
    (hi : ∀ t n c, impA t n c v = v := by intros; first | rfl | (simp [impA, impL]; done)) : CallK C (.fn f capt) args d r m s g h c := by
  have hlen : os.length = bs.length := by have := congrArg List.length ho; simpa using this
  refine Call_obs os _ v own obs' hc ?_ hnd (by simp; omega) he (fun b hb => ?_) hp' hr hw ?_
  · have := congrArg (List.map (Option.map fun b : Ob => { b with ver := 0, fixed := true })) ho
    simpa [List.map_map, Function.comp_def] using this
  · obtain ⟨b', hb', rfl⟩ := List.mem_map.1 hb
    exact hp b' hb'
  · rw [hcall_upds ho hnd hl, hi]
    have : nclk c os obs' = c := by unfold nclk; rw [if_neg (by omega)]
    rw [this]; exact hq
end
theorem objs_l (obs : List Ob) (t : Nat) : objs obs (.l t) = none := rfl
theorem objs_r (obs : List Ob) (t j : Nat) : objs obs (.r t j) = none := rfl
theorem objs_p (obs : List Ob) (k : Nat) : objs obs (.p k) = obs[k]? := rfl
attribute [go_sem] newObs updObs objs_l objs_r objs_p
end Go.AM
end
/-! Fun7 -/
section
namespace Go.AM
variable {P : Program}
mutual
/-- A result, its new objects by value. -/
def byA (obs : List Ob) (n : Nat) : AV → AV
  | .sl (.p k) v off len cap => if n ≤ k then (match obs[k]? with | some ob => .dat ob.esz (sub ob.es off len) | none => .undef) else .sl (.p k) v off len cap
  | .ptr (.p k) v e c => if n ≤ k then .undef else .ptr (.p k) v e c
  | .agg cs => .agg (byL obs n cs)
  | .tup cs => .tup (byL obs n cs)
  | v => v
def byL (obs : List Ob) (n : Nat) : List AV → List AV
  | [] => []
  | v :: r => byA obs n v :: byL obs n r
end
section
variable {w0 w : World} {κ κ0 : Cfg} {h0 : Heap} {clk : Nat} {P0 : Bs} {obs obs' : List Ob}
end
end Go.AM
end
/-! KsF -/
section
open Go Go.AM
namespace FrA
open Go.AM.L
set_option maxRecDepth 100000
-- i.isFk
def k208 : KF Go.Proofs.Tryz.f208 := ⟨
 .seq (R [o 2 (.box (.t 0)), o 4 (.mv (.c (.b false)))]) (.seq (R [o 5 (.fld 0 (.t 2)), o 6 (.load false 1 (.t 5)), m 7 1, o 8 (.call (.f 199) [.t 6, .t 7]), m 9 8, q 10 9 true
    (.fld 1 (.t 2)), q 11 9 true (.load false 1 (.t 10)), q 12 9 true (.call (.f 197) [.t 11]), o 13 (.pick (.t 9) (.t 12) (.c (.b false))), m 14 13, q 15 14 true (.fld 2 (.t 2)), q
    16 14 true (.load false 1 (.t 15)), q 17 14 true (.call (.f 81) [.t 16, n 0, n 2]), o 18 (.pick (.t 14) (.t 17) (.c (.b false))), m 19 18, q 20 19 true (.fld 3 (.t 2)), q 21 19
    true (.load false 1 (.t 20)), q 22 19 true (.call (.f 81) [.t 21, n 0, n 2]), o 23 (.pick (.t 19) (.t 22) (.c (.b false))), m 4 23]) .ret),
  by kernel_rfl⟩
-- i.TableOk$1
def k201 : KF Go.Proofs.Tryz.f201 := ⟨
 .seq (R [o 3 (.mv (.c (.b false)))]) (.seq (R [o 4 (.fld 1 (.t 1)), o 5 (.load false 1 (.t 4)), m 6 0, o 7 (.idx 6 (.t 5) (.t 6)), o 8 (.fld 2 (.t 7)), o 9 (.load false 1 (.t 8)),
    o 10 (.un .not (.t 9)), m 3 10]) .ret),
  by kernel_rfl⟩
-- i.TableOk$2
def k203 : KF Go.Proofs.Tryz.f203 := ⟨
 .seq (R [o 2 (.box (.t 0)), o 3 (.mv (.c (.b false)))]) (.seq (R [o 4 (.fld 0 (.t 2)), o 5 (.load false 1 (.t 4)), o 6 (.load false 1 (.t 1)), o 7 (.call (.f 199) [.t 5, .t 6]), o
    8 (.un .not (.t 7)), m 3 8]) .ret),
  by kernel_rfl⟩
-- i.TableOk$3
def k205 : KF Go.Proofs.Tryz.f205 := ⟨
 .seq (R [o 2 (.box (.t 0)), o 3 (.mv (.c (.b false)))]) (.seq (R [o 4 (.fld 0 (.t 2)), o 5 (.load false 1 (.t 4)), o 6 (.load false 1 (.t 1)), o 7 (.call (.f 206) [.t 5, .t 6]), o
    8 (.un .not (.t 7)), m 3 8]) .ret),
  by kernel_rfl⟩
-- i.TableOk$4
def k207 : KF Go.Proofs.Tryz.f207 := ⟨
 .seq (R [o 2 (.box (.t 0)), o 3 (.mv (.c (.b false)))]) (.seq (R [o 4 (.load true 5 (.t 2)), o 5 (.load false 1 (.t 1)), o 6 (.call (.f 208) [.t 4, .t 5]), o 7 (.un .not (.t 6)), m
    3 7]) .ret),
  by kernel_rfl⟩
-- i.TableOk
def k140 : KF Go.Proofs.Tryz.f140 := ⟨
 .seq (R [o 1 (.box (.t 0)), o 2 (.mv (.c (.b false)))]) (.seq (R [o 4 (.fld 1 (.t 1)), o 5 (.load false 1 (.t 4)), o 6 (.len false (.t 5)), o 3 (.alloc [.i .i64 0]), x (.store 1
    (.t 3) (.t 6))]) (.seq (.seq (R [o 7 (.fld 0 (.t 1)), o 8 (.load false 1 (.t 7)), o 9 (.call (.f 197) [.t 8]), o 10 (.un .not (.t 9)), m 11 10, q 12 11 false (.fld 1 (.t 1)), q
    13 11 false (.load false 1 (.t 12)), q 14 11 false (.call (.f 198) [.t 13]), q 15 11 false (.un .not (.t 14)), o 16 (.pick (.t 11) (.c (.b true)) (.t 15)), m 17 16, q 18 17
    false (.fld 2 (.t 1)), q 19 17 false (.load false 1 (.t 18)), q 20 17 false (.load false 1 (.t 3)), q 21 17 false (.call (.f 199) [.t 19, .t 20]), q 22 17 false (.un .not (.t
    21)), o 23 (.pick (.t 17) (.c (.b true)) (.t 22)), m 24 23, q 25 24 false (.fld 3 (.t 1)), q 26 24 false (.load false 1 (.t 25)), q 27 24 false (.len false (.t 26)), q 28 24
    false (.bin .gtr (.t 27) (n 3)), o 29 (.pick (.t 24) (.c (.b true)) (.t 28)), m 30 29, q 31 30 false (.fld 4 (.t 1)), q 32 30 false (.load false 1 (.t 31)), q 33 30 false (.len
    false (.t 32)), q 34 30 false (.bin .gtr (.t 33) (n 3)), o 35 (.pick (.t 30) (.c (.b true)) (.t 34)), m 36 35, q 37 36 false (.fld 5 (.t 1)), q 38 36 false (.load false 1 (.t
    37)), q 39 36 false (.len false (.t 38)), q 40 36 false (.bin .gtr (.t 39) (n 3)), o 41 (.pick (.t 36) (.c (.b true)) (.t 40))]) (.cond (.t 41) (.seq (R [o 2 (.mv (.c (.b
    false)))]) .ret) .skip)) (.seq (R [o 42 (.fld 2 (.t 1)), o 43 (.load false 1 (.t 42)), o 44 (.mkf 201 [.t 1]), o 45 (.call (.f 200) [.t 43, .t 44]), o 46 (.un .not (.t 45)), m
    47 46, q 48 47 true (.fld 3 (.t 1)), q 49 47 true (.load false 1 (.t 48)), q 50 47 true (.mkf 203 [.t 3]), q 51 47 true (.call (.f 202) [.t 49, .t 50]), q 52 47 true (.un .not
    (.t 51)), o 53 (.pick (.t 47) (.t 52) (.c (.b false))), m 54 53, q 55 54 true (.fld 4 (.t 1)), q 56 54 true (.load false 1 (.t 55)), q 57 54 true (.mkf 205 [.t 3]), q 58 54 true
    (.call (.f 204) [.t 56, .t 57]), q 59 54 true (.un .not (.t 58)), o 60 (.pick (.t 54) (.t 59) (.c (.b false))), m 61 60, q 62 61 true (.fld 5 (.t 1)), q 63 61 true (.load false
    1 (.t 62)), q 64 61 true (.mkf 207 [.t 3]), q 65 61 true (.call (.f 144) [.t 63, .t 64]), q 66 61 true (.un .not (.t 65)), o 67 (.pick (.t 61) (.t 66) (.c (.b false))), m 2 67])
    .ret))),
  by kernel_rfl⟩
end FrA
end
/-! KsX -/
section
open Go Go.AM
namespace FrA
open Go.AM.L
set_option maxRecDepth 100000
-- i.isTok
def k244 : KF Go.Proofs.Tryz.f244 := ⟨
 .seq (R [o 2 (.box (.t 0)), o 4 (.mv (.c (.b false)))]) (.seq (.seq (R [o 5 (.fld 0 (.t 2)), o 6 (.load false 1 (.t 5))]) (.block 0 (.seq (R [o 8 (.bin .eql (.t 6) (n 1)), m 7 8])
    (.cond (.t 7) (.seq (R [o 9 (.fld 1 (.t 2)), o 10 (.load false 1 (.t 9)), m 11 1, o 12 (.bin .sub (.t 11) (n 1)), o 13 (.call (.f 81) [.t 10, n 0, .t 12]), m 14 13, q 15 14 true
    (.fld 2 (.t 2)), q 16 14 true (.load true 3 (.t 15)), q 17 14 true (.build [.i .i64 0, .i .i64 0, .s []] []), q 18 14 true (.eqt (.struct [.int, .int, .str]) false (.t 16) (.t
    17)), o 19 (.pick (.t 14) (.t 18) (.c (.b false))), m 4 19]) .ret) (.seq (R [o 21 (.bin .eql (.t 6) (n 2)), m 20 21]) (.cond (.t 20) (.seq (R [o 22 (.fld 1 (.t 2)), o 23 (.load
    false 1 (.t 22)), o 24 (.bin .eql (.t 23) (n 0)), m 25 24, q 26 25 true (.fld 2 (.t 2)), q 27 25 true (.load true 3 (.t 26)), q 28 25 true (.call (.f 188) [.t 27]), o 29 (.pick
    (.t 25) (.t 28) (.c (.b false))), m 4 29]) .ret) .skip)))))) (.seq (R [o 30 (.fld 0 (.t 2)), o 31 (.load false 1 (.t 30)), o 32 (.call (.f 81) [.t 31, n 3, n 10]), m 33 32, q 34
    33 true (.fld 1 (.t 2)), q 35 33 true (.load false 1 (.t 34)), q 36 33 true (.bin .eql (.t 35) (n 0)), o 37 (.pick (.t 33) (.t 36) (.c (.b false))), m 38 37, q 39 38 true (.fld
    2 (.t 2)), q 40 38 true (.load true 3 (.t 39)), q 41 38 true (.build [.i .i64 0, .i .i64 0, .s []] []), q 42 38 true (.eqt (.struct [.int, .int, .str]) false (.t 40) (.t 41)), o
    43 (.pick (.t 38) (.t 42) (.c (.b false))), m 4 43]) .ret)),
  by kernel_rfl⟩
-- (i.Tok).takes
def k245 : KF Go.Proofs.Tryz.f245 := ⟨
 .seq (R [o 1 (.box (.t 0)), o 2 (.mv (n 0))]) (.seq (.seq (R [o 3 (.fld 0 (.t 1)), o 4 (.load false 1 (.t 3))]) (.block 0 (.seq (.seq (R [o 6 (.bin .eql (.t 4) (n 1)), m 5 6])
    (.cond (.t 5) .skip (R [o 7 (.bin .eql (.t 4) (n 2)), m 5 7]))) (.cond (.t 5) (.seq (R [o 2 (.mv (n 0))]) .ret) (.seq (.seq (R [o 9 (.bin .eql (.t 4) (n 7)), m 8 9]) (.cond (.t
    8) .skip (R [o 10 (.bin .eql (.t 4) (n 8)), m 8 10]))) (.cond (.t 8) (.seq (R [o 2 (.mv (n 1))]) .ret) .skip)))))) (.seq (R [o 2 (.mv (n 2))]) .ret)),
  by kernel_rfl⟩
-- i.ExprOk
def k206 : KF Go.Proofs.Tryz.f206 := ⟨
 .seq (R [o 4 (.mv (.c (.b false)))]) (.seq (.seq (R [m 8 0, o 9 (.len false (.t 8)), o 10 (.bin .gtr (.t 9) (n 24)), m 11 10, q 12 11 false (.mv (.t 1)), q 13 11 false (.call (.f
    81) [.t 12, n 0, n 16]), q 14 11 false (.un .not (.t 13)), o 15 (.pick (.t 11) (.c (.b true)) (.t 14))]) (.cond (.t 15) (.seq (R [o 4 (.mv (.c (.b false)))]) .ret) .skip)) (.seq
    (R [o 5 (.mv (n 0))]) (.seq (.seq (R [m 16 0, o 17 (.len false (.t 16)), o 18 (.mv (n 0))]) (.block 0 (.loop (.seq (R [o 19 (.bin .lss (.t 18) (.t 17))]) (.seq (.cond (.t 19)
    .skip (.exit 0)) (.seq (.block 1 (.seq (R [o 20 (.idx 5 (.t 16) (.t 18)), o 21 (.load true 5 (.t 20)), o 7 (.alloc [.i .i64 0, .i .i64 0, .i .i64 0, .i .i64 0, .s []]), x
    (.store 5 (.t 7) (.t 21))]) (.seq (.seq (R [o 22 (.load true 5 (.t 7)), m 23 1, o 24 (.call (.f 244) [.t 22, .t 23]), o 25 (.un .not (.t 24)), m 26 25, q 27 26 false (.mv (.t
    5)), q 28 26 false (.load true 5 (.t 7)), q 29 26 false (.call (.f 245) [.t 28]), q 30 26 false (.bin .lss (.t 27) (.t 29)), o 31 (.pick (.t 26) (.c (.b true)) (.t 30))]) (.cond
    (.t 31) (.seq (R [o 4 (.mv (.c (.b false)))]) .ret) .skip)) (R [m 32 5, o 33 (.load true 5 (.t 7)), o 34 (.call (.f 245) [.t 33]), o 35 (.bin .sub (n 1) (.t 34)), o 36 (.bin
    .add (.t 32) (.t 35)), m 5 36])))) (R [o 37 (.bin .add (.t 18) (n 1)), m 18 37]))))))) (.seq (R [m 38 5, o 39 (.bin .eql (.t 38) (n 1)), m 4 39]) .ret)))),
  by kernel_rfl⟩
-- s.l2Takes
def k230 : KF Go.Proofs.Tryz.f230 := ⟨
 .seq (R [o 2 (.box (.t 0)), o 4 (.mv (n 0))]) (.seq (.seq (R [o 5 (.fld 0 (.t 2)), o 6 (.load false 1 (.t 5)), o 7 (.bin .neq (.t 6) (n 1)), m 8 7, q 9 8 true (.fld 1 (.t 2)), q 10
    8 true (.load false 1 (.t 9)), q 11 8 true (.bin .neq (.t 10) (n 0)), o 12 (.pick (.t 8) (.t 11) (.c (.b false))), m 13 12, q 14 13 false (.fld 0 (.t 2)), q 15 13 false (.load
    false 1 (.t 14)), q 16 13 false (.bin .neq (.t 15) (n 2)), q 17 13 false (.mv (.t 16)), q 18 17 true (.fld 2 (.t 2)), q 19 17 true (.load true 3 (.t 18)), q 20 17 true (.build
    [.i .i64 0, .i .i64 0, .s []] []), q 21 17 true (.eqt (.struct [.int, .int, .str]) true (.t 19) (.t 20)), q 22 13 false (.pick (.t 17) (.t 21) (.c (.b false))), o 23 (.pick (.t
    13) (.c (.b true)) (.t 22))]) (.cond (.t 23) (.seq (R [o 4 (.mv (n (-1)))]) .ret) .skip)) (.seq (.seq (R [o 24 (.fld 0 (.t 2)), o 25 (.load false 1 (.t 24))]) (.block 0 (.seq (R
    [o 27 (.bin .eql (.t 25) (n 1)), m 26 27]) (.cond (.t 26) (.seq (R [o 28 (.fld 1 (.t 2)), o 29 (.load false 1 (.t 28)), m 30 1, o 31 (.bin .sub (.t 30) (n 1)), o 32 (.call (.f
    132) [.t 29, n 0, .t 31])]) (.cond (.t 32) (.seq (R [o 4 (.mv (n 0))]) .ret) .skip)) (.seq (R [o 34 (.bin .eql (.t 25) (n 2)), m 33 34]) (.cond (.t 33) (.seq (R [o 35 (.fld 2
    (.t 2)), o 36 (.load true 3 (.t 35)), o 37 (.call (.f 186) [.t 36])]) (.cond (.t 37) (.seq (R [o 4 (.mv (n 0))]) .ret) .skip)) (.seq (.seq (R [o 39 (.bin .eql (.t 25) (n 7)), m
    38 39]) (.cond (.t 38) .skip (R [o 40 (.bin .eql (.t 25) (n 8)), m 38 40]))) (.cond (.t 38) (.seq (R [o 4 (.mv (n 1))]) .ret) (.seq (.seq (R [o 42 (.bin .eql (.t 25) (n 3)), m
    41 42]) (.cond (.t 41) .skip (.seq (R [o 43 (.bin .eql (.t 25) (n 4)), m 41 43]) (.cond (.t 41) .skip (.seq (R [o 44 (.bin .eql (.t 25) (n 5)), m 41 44]) (.cond (.t 41) .skip
    (.seq (R [o 45 (.bin .eql (.t 25) (n 6)), m 41 45]) (.cond (.t 41) .skip (.seq (R [o 46 (.bin .eql (.t 25) (n 9)), m 41 46]) (.cond (.t 41) .skip (R [o 47 (.bin .eql (.t 25) (n
    10)), m 41 47]))))))))))) (.cond (.t 41) (.seq (R [o 4 (.mv (n 2))]) .ret) .skip)))))))))) (.seq (R [o 4 (.mv (n (-1)))]) .ret))),
  by kernel_rfl⟩
-- s.l2Expr
def k181 : KF Go.Proofs.Tryz.f181 := ⟨
 .seq (R [o 4 (.mv (.c (.b false)))]) (.seq (R [o 5 (.mv (n 0))]) (.seq (.seq (R [o 6 (.mv (n 0))]) (.block 0 (.loop (.seq (.seq (R [m 8 6, m 9 0, o 10 (.len false (.t 9)), o 11
    (.bin .lss (.t 8) (.t 10))]) (.cond (.t 11) .skip (.exit 0))) (.seq (.block 1 (.seq (R [m 14 0, m 15 6, o 16 (.idx 5 (.t 14) (.t 15)), o 17 (.load true 5 (.t 16)), m 18 1, o 19
    (.call (.f 230) [.t 17, .t 18]), m 7 19]) (.seq (.seq (R [m 20 7, o 21 (.bin .lss (.t 20) (n 0)), m 22 21, q 23 22 false (.mv (.t 7)), q 24 22 false (.mv (.t 5)), q 25 22 false
    (.bin .gtr (.t 23) (.t 24)), o 26 (.pick (.t 22) (.c (.b true)) (.t 25))]) (.cond (.t 26) (.seq (R [o 4 (.mv (.c (.b false)))]) .ret) .skip)) (R [m 27 5, m 28 7, o 29 (.bin .sub
    (.t 27) (.t 28)), o 30 (.bin .add (.t 29) (n 1)), m 5 30])))) (R [m 12 6, o 13 (.bin .add (.t 12) (n 1)), m 6 13])))))) (.seq (R [m 31 5, o 32 (.bin .eql (.t 31) (n 1)), m 33
    32, q 34 33 true (.mv (.t 0)), q 35 33 true (.len false (.t 34)), q 36 33 true (.bin .leq (.t 35) (n 24)), o 37 (.pick (.t 33) (.t 36) (.c (.b false))), m 4 37]) .ret))),
  by kernel_rfl⟩
end FrA
end
/-! KsN -/
section
open Go Go.AM
namespace FrA
open Go.AM.L
set_option maxRecDepth 100000
-- i.isName
def k197 : KF Go.Proofs.Tryz.f197 := ⟨
 .seq (R [o 2 (.mv (.c (.b false)))]) (.seq (.seq (R [m 4 0, o 5 (.len true (.t 4)), o 6 (.mv (n 0))]) (.block 0 (.loop (.seq (R [o 7 (.bin .lss (.t 6) (.t 5))]) (.seq (.cond (.t 7)
    .skip (.exit 0)) (.seq (.block 1 (.seq (R [m 8 6, m 3 8]) (.seq (R [m 9 0, m 10 3, o 11 (.ids (.t 9) (.t 10)), o 12 (.bin .lss (.t 11) (.c (.i .u8 97))), m 13 12, q 14 13 false
    (.mv (.t 0)), q 15 13 false (.mv (.t 3)), q 16 13 false (.ids (.t 14) (.t 15)), q 17 13 false (.bin .gtr (.t 16) (.c (.i .u8 122))), o 18 (.pick (.t 13) (.c (.b true)) (.t
    17))]) (.cond (.t 18) (.seq (R [o 2 (.mv (.c (.b false)))]) .ret) .skip)))) (R [o 19 (.bin .add (.t 6) (n 1)), m 6 19]))))))) (.seq (R [m 20 0, o 21 (.len true (.t 20)), o 22
    (.call (.f 81) [.t 21, n 1, n 8]), m 2 22]) .ret)),
  by kernel_rfl⟩
-- s.l3Name
def k213 : KF Go.Proofs.Tryz.f213 := ⟨
 .seq (R [o 2 (.mv (.c (.b false)))]) (.seq (.seq (R [o 3 (.mv (n 0))]) (.block 0 (.loop (.seq (.seq (R [m 4 3, m 5 0, o 6 (.len true (.t 5)), o 7 (.bin .lss (.t 4) (.t 6))]) (.cond
    (.t 7) .skip (.exit 0))) (.seq (.block 1 (.seq (R [m 10 0, m 11 3, o 12 (.ids (.t 10) (.t 11)), o 13 (.bin .lss (.t 12) (.c (.i .u8 97))), m 14 13, q 15 14 false (.mv (.t 0)), q
    16 14 false (.mv (.t 3)), q 17 14 false (.ids (.t 15) (.t 16)), q 18 14 false (.bin .gtr (.t 17) (.c (.i .u8 122))), o 19 (.pick (.t 14) (.c (.b true)) (.t 18))]) (.cond (.t 19)
    (.seq (R [o 2 (.mv (.c (.b false)))]) .ret) .skip))) (R [m 8 3, o 9 (.bin .add (.t 8) (n 1)), m 3 9])))))) (.seq (R [m 20 0, o 21 (.len true (.t 20)), o 22 (.call (.f 132) [.t
    21, n 1, n 8]), m 2 22]) .ret)),
  by kernel_rfl⟩
-- i.areColumns
def k199 : KF Go.Proofs.Tryz.f199 := ⟨
 .seq (R [o 4 (.mv (.c (.b false)))]) (.seq (.seq (R [m 7 0, o 8 (.len false (.t 7)), o 9 (.mv (n 0))]) (.block 0 (.loop (.seq (R [o 10 (.bin .lss (.t 9) (.t 8))]) (.seq (.cond (.t
    10) .skip (.exit 0)) (.seq (.block 1 (.seq (R [m 11 9, o 12 (.idx 1 (.t 7) (.t 9)), o 13 (.load false 1 (.t 12)), m 5 11, m 6 13]) (.seq (R [m 14 6, m 15 1, o 16 (.bin .sub (.t
    15) (n 1)), o 17 (.call (.f 81) [.t 14, n 0, .t 16]), o 18 (.un .not (.t 17)), m 19 18, q 20 19 false (.mv (.t 0)), q 21 19 false (.mv (.t 5)), q 22 19 false (.slc 1 (.t 20)
    none (some (.t 21)) none), q 23 19 false (.mv (.t 6)), q 24 19 false (.call (.f 240) [.t 22, .t 23]), o 25 (.pick (.t 19) (.c (.b true)) (.t 24))]) (.cond (.t 25) (.seq (R [o 4
    (.mv (.c (.b false)))]) .ret) .skip)))) (R [o 26 (.bin .add (.t 9) (n 1)), m 9 26]))))))) (.seq (R [m 27 0, o 28 (.len false (.t 27)), o 29 (.bin .gtr (.t 28) (n 0)), m 4 29])
    .ret)),
  by kernel_rfl⟩
-- s.l1Has
def k39 : KF Go.Proofs.Tryz.f39 := ⟨
 .seq (R [o 4 (.mv (.c (.b false)))]) (.seq (.seq (R [o 5 (.mv (n 0))]) (.block 0 (.loop (.seq (.seq (R [m 6 5, m 7 0, o 8 (.len false (.t 7)), o 9 (.bin .lss (.t 6) (.t 8))])
    (.cond (.t 9) .skip (.exit 0))) (.seq (.block 1 (.seq (R [m 12 0, m 13 5, o 14 (.idx 1 (.t 12) (.t 13)), o 15 (.load false 1 (.t 14)), m 16 1, o 17 (.bin .eql (.t 15) (.t 16))])
    (.cond (.t 17) (.seq (R [o 4 (.mv (.c (.b true)))]) .ret) .skip))) (R [m 10 5, o 11 (.bin .add (.t 10) (n 1)), m 5 11])))))) (.seq (R [o 4 (.mv (.c (.b false)))]) .ret)),
  by kernel_rfl⟩
-- s.l3Cols
def k214 : KF Go.Proofs.Tryz.f214 := ⟨
 .seq (R [o 4 (.mv (.c (.b false)))]) (.seq (.seq (R [o 5 (.mv (n 0))]) (.block 0 (.loop (.seq (.seq (R [m 6 5, m 7 0, o 8 (.len false (.t 7)), o 9 (.bin .lss (.t 6) (.t 8))])
    (.cond (.t 9) .skip (.exit 0))) (.seq (.block 1 (.seq (D [m 12 0, m 13 5, o 14 (.idx 1 (.t 12) (.t 13)), o 15 (.load false 1 (.t 14)), m 16 1, o 17 (.bin .sub (.t 16) (n 1)), o
    18 (.call0 (.f 132) [.t 15, n 0, .t 17]), o 19 (.un .not (.t 18)), m 20 19, q 21 20 false (.mv (.t 0)), q 22 20 false (.mv (.t 5)), q 23 20 false (.slc 1 (.t 21) none (some (.t
    22)) none), q 24 20 false (.mv (.t 0)), q 25 20 false (.mv (.t 5)), q 26 20 false (.idx 1 (.t 24) (.t 25)), q 27 20 false (.load false 1 (.t 26)), q 28 20 false (.call0 (.f 39)
    [.t 23, .t 27]), o 29 (.pick (.t 20) (.c (.b true)) (.t 28))] [[], [], [0, 1], [2], [], [4], [3, 5], [6], [7, 6], [8], [8], [9, 10, 8], [8], [8], [12, 13, 8], [14, 8], [11, 15,
    8, 8], [8, 16]]) (.cond (.t 29) (.seq (R [o 4 (.mv (.c (.b false)))]) .ret) .skip))) (R [m 10 5, o 11 (.bin .add (.t 10) (n 1)), m 5 11])))))) (.seq (R [m 30 0, o 31 (.len false
    (.t 30)), o 32 (.bin .gtr (.t 31) (n 0)), m 4 32]) .ret)),
  by kernel_rfl⟩
-- i.isOf
def k136 : KF Go.Proofs.Tryz.f136 := ⟨
 .seq (R [o 2 (.box (.t 0)), o 4 (.mv (.c (.b false)))]) (.seq (R [o 5 (.load true 3 (.t 2)), o 6 (.call (.f 188) [.t 5]), m 7 6, q 8 7 true (.fld 0 (.t 2)), q 9 7 true (.load false
    1 (.t 8)), q 10 7 true (.bin .eql (.t 9) (n 0)), q 11 7 true (.mv (.t 10)), q 12 11 false (.fld 0 (.t 2)), q 13 11 false (.load false 1 (.t 12)), q 14 11 false (.mv (.t 1)), q
    15 11 false (.bin .eql (.t 13) (.t 14)), q 16 7 true (.pick (.t 11) (.c (.b true)) (.t 15)), o 17 (.pick (.t 7) (.t 16) (.c (.b false))), m 4 17]) .ret),
  by kernel_rfl⟩
-- i.areCols$1
def k239 : KF Go.Proofs.Tryz.f239 := ⟨
 .seq (R [o 2 (.box (.t 0)), o 3 (.mv (.c (.b false)))]) (.seq (R [o 4 (.fld 0 (.t 2)), o 5 (.load false 1 (.t 4)), o 6 (.fld 0 (.t 1)), o 7 (.load false 1 (.t 6)), o 8 (.bin .eql
    (.t 5) (.t 7)), m 3 8]) .ret),
  by kernel_rfl⟩
-- i.areCols
def k198 : KF Go.Proofs.Tryz.f198 := ⟨
 .seq (R [o 2 (.mv (.c (.b false)))]) (.seq (.seq (R [m 5 0, o 6 (.len false (.t 5)), o 7 (.mv (n 0))]) (.block 0 (.loop (.seq (R [o 8 (.bin .lss (.t 7) (.t 6))]) (.seq (.cond (.t
    8) .skip (.exit 0)) (.seq (.block 1 (.seq (R [m 9 7, o 10 (.idx 6 (.t 5) (.t 7)), o 11 (.load true 6 (.t 10)), o 4 (.alloc [.s [], .i .i64 0, .b false, .i .i64 0, .i .i64 0, .s
    []]), m 3 9, x (.store 6 (.t 4) (.t 11))]) (.seq (.seq (R [m 12 3, o 13 (.bin .eql (.t 12) (n 8)), m 14 13, q 15 14 false (.fld 0 (.t 4)), q 16 14 false (.load false 1 (.t 15)),
    q 17 14 false (.call (.f 197) [.t 16]), q 18 14 false (.un .not (.t 17)), o 19 (.pick (.t 14) (.c (.b true)) (.t 18)), m 20 19, q 21 20 false (.fld 1 (.t 4)), q 22 20 false
    (.load false 1 (.t 21)), q 23 20 false (.bin .neq (.t 22) (n 1)), q 24 20 false (.mv (.t 23)), q 25 24 true (.fld 1 (.t 4)), q 26 24 true (.load false 1 (.t 25)), q 27 24 true
    (.bin .neq (.t 26) (n 2)), q 28 20 false (.pick (.t 24) (.t 27) (.c (.b false))), o 29 (.pick (.t 20) (.c (.b true)) (.t 28)), m 30 29, q 31 30 false (.fld 3 (.t 4)), q 32 30
    false (.load true 3 (.t 31)), q 33 30 false (.fld 1 (.t 4)), q 34 30 false (.load false 1 (.t 33)), q 35 30 false (.call (.f 136) [.t 32, .t 34]), q 36 30 false (.un .not (.t
    35)), o 37 (.pick (.t 30) (.c (.b true)) (.t 36))]) (.cond (.t 37) (.seq (R [o 2 (.mv (.c (.b false)))]) .ret) .skip)) (.seq (R [m 38 0, m 39 3, o 40 (.slc 6 (.t 38) none (some
    (.t 39)) none), o 41 (.mkf 239 [.t 4]), o 42 (.call (.f 238) [.t 40, .t 41])]) (.cond (.t 42) (.seq (R [o 2 (.mv (.c (.b false)))]) .ret) .skip))))) (R [o 43 (.bin .add (.t 7)
    (n 1)), m 7 43]))))))) (.seq (R [m 44 0, o 45 (.len false (.t 44)), o 46 (.bin .gtr (.t 45) (n 0)), m 2 46]) .ret)),
  by kernel_rfl⟩
-- slices.Index[[]int64,int64]
def k260 : KF Go.Proofs.Tryz.f260 := ⟨
 .seq (R [o 4 (.mv (n 0))]) (.seq (.seq (R [m 6 0, o 7 (.len false (.t 6)), o 8 (.mv (n 0))]) (.block 0 (.loop (.seq (R [o 9 (.bin .lss (.t 8) (.t 7))]) (.seq (.cond (.t 9) .skip
    (.exit 0)) (.seq (.block 1 (.seq (R [m 10 8, m 5 10]) (.seq (R [m 11 1, m 12 0, m 13 5, o 14 (.idx 1 (.t 12) (.t 13)), o 15 (.load false 1 (.t 14)), o 16 (.bin .eql (.t 11) (.t
    15))]) (.cond (.t 16) (.seq (R [m 17 5, m 4 17]) .ret) .skip)))) (R [o 18 (.bin .add (.t 8) (n 1)), m 8 18]))))))) (.seq (R [o 4 (.mv (n (-1)))]) .ret)),
  by kernel_rfl⟩
-- slices.Contains[[]int64,int64]
def k240 : KF Go.Proofs.Tryz.f240 := ⟨
 .seq (R [o 4 (.mv (.c (.b false)))]) (.seq (R [m 5 0, m 6 1, o 7 (.call (.f 260) [.t 5, .t 6]), o 8 (.bin .geq (.t 7) (n 0)), m 4 8]) .ret),
  by kernel_rfl⟩
-- s.ColAt
def k215 : KF Go.Proofs.Tryz.f215 := ⟨
 .seq (R [o 2 (.box (.t 0)), o 4 (.mv (n 0))]) (.seq (.seq (R [o 5 (.mv (n 0))]) (.block 0 (.loop (.seq (.seq (R [m 6 5, o 7 (.fld 1 (.t 2)), o 8 (.load false 1 (.t 7)), o 9 (.len
    false (.t 8)), o 10 (.bin .lss (.t 6) (.t 9))]) (.cond (.t 10) .skip (.exit 0))) (.seq (.block 1 (.seq (R [o 13 (.fld 1 (.t 2)), o 14 (.load false 1 (.t 13)), m 15 5, o 16 (.idx
    6 (.t 14) (.t 15)), o 17 (.fld 0 (.t 16)), o 18 (.load false 1 (.t 17)), m 19 1, o 20 (.bin .eql (.t 18) (.t 19))]) (.cond (.t 20) (.seq (R [m 21 5, m 4 21]) .ret) .skip))) (R
    [m 11 5, o 12 (.bin .add (.t 11) (n 1)), m 5 12])))))) (.seq (R [o 4 (.mv (n (-1)))]) .ret)),
  by kernel_rfl⟩
end FrA
end
/-! KsV0 -/
section
open Go Go.AM
namespace FrA
open Go.AM.L
set_option maxRecDepth 100000
-- i.in
def k81 : KF Go.Proofs.Tryz.f81 := ⟨
 .seq (R [o 6 (.mv (.c (.b false)))]) (.seq (R [m 7 1, m 8 0, o 9 (.bin .leq (.t 7) (.t 8)), m 10 9, q 11 10 true (.mv (.t 0)), q 12 10 true (.mv (.t 2)), q 13 10 true (.bin .leq
    (.t 11) (.t 12)), o 14 (.pick (.t 10) (.t 13) (.c (.b false))), m 6 14]) .ret),
  by kernel_rfl⟩
-- i.ValOk
def k188 : KF Go.Proofs.Tryz.f188 := ⟨
 .seq (R [o 1 (.box (.t 0)), o 2 (.mv (.c (.b false)))]) (.seq (.seq (R [o 3 (.fld 0 (.t 1)), o 4 (.load false 1 (.t 3))]) (.block 0 (.seq (R [o 6 (.bin .eql (.t 4) (n 0)), m 5 6])
    (.cond (.t 5) (.seq (R [o 7 (.load true 3 (.t 1)), o 8 (.build [.i .i64 0, .i .i64 0, .s []] []), o 9 (.eqt (.struct [.int, .int, .str]) false (.t 7) (.t 8)), m 2 9]) .ret)
    (.seq (R [o 11 (.bin .eql (.t 4) (n 1)), m 10 11]) (.cond (.t 10) (.seq (R [o 12 (.fld 1 (.t 1)), o 13 (.load false 1 (.t 12)), o 14 (.call (.f 81) [.t 13, n (-1000000000), n
    1000000000]), m 15 14, q 16 15 true (.fld 2 (.t 1)), q 17 15 true (.load false 1 (.t 16)), q 18 15 true (.bin .eql (.t 17) (.c (.s []))), o 19 (.pick (.t 15) (.t 18) (.c (.b
    false))), m 2 19]) .ret) (.seq (R [o 21 (.bin .eql (.t 4) (n 2)), m 20 21]) (.cond (.t 20) (.seq (R [o 22 (.fld 1 (.t 1)), o 23 (.load false 1 (.t 22)), o 24 (.bin .eql (.t 23)
    (n 0)), m 25 24, q 26 25 true (.fld 2 (.t 1)), q 27 25 true (.load false 1 (.t 26)), q 28 25 true (.len true (.t 27)), q 29 25 true (.bin .leq (.t 28) (n 12)), o 30 (.pick (.t
    25) (.t 29) (.c (.b false))), m 2 30]) .ret) .skip)))))))) (.seq (R [o 2 (.mv (.c (.b false)))]) .ret)),
  by kernel_rfl⟩
-- s.l1In
def k132 : KF Go.Proofs.Tryz.f132 := ⟨
 .seq (R [o 6 (.mv (.c (.b false)))]) (.seq (R [m 7 0, m 8 1, o 9 (.bin .geq (.t 7) (.t 8)), m 10 9, q 11 10 true (.mv (.t 0)), q 12 10 true (.mv (.t 2)), q 13 10 true (.bin .leq
    (.t 11) (.t 12)), o 14 (.pick (.t 10) (.t 13) (.c (.b false))), m 6 14]) .ret),
  by kernel_rfl⟩
-- s.ValOk
def k186 : KF Go.Proofs.Tryz.f186 := ⟨
 .seq (R [o 1 (.box (.t 0)), o 2 (.mv (.c (.b false)))]) (.seq (.seq (R [o 3 (.fld 0 (.t 1)), o 4 (.load false 1 (.t 3))]) (.block 0 (.seq (R [o 6 (.bin .eql (.t 4) (n 0)), m 5 6])
    (.cond (.t 5) (.seq (R [o 7 (.load true 3 (.t 1)), o 8 (.build [.i .i64 0, .i .i64 0, .s []] []), o 9 (.eqt (.struct [.int, .int, .str]) false (.t 7) (.t 8)), m 2 9]) .ret)
    (.seq (R [o 11 (.bin .eql (.t 4) (n 1)), m 10 11]) (.cond (.t 10) (.seq (R [o 12 (.fld 1 (.t 1)), o 13 (.load false 1 (.t 12)), o 14 (.call (.f 132) [.t 13, n (-1000000000), n
    1000000000]), m 15 14, q 16 15 true (.fld 2 (.t 1)), q 17 15 true (.load false 1 (.t 16)), q 18 15 true (.bin .eql (.t 17) (.c (.s []))), o 19 (.pick (.t 15) (.t 18) (.c (.b
    false))), m 2 19]) .ret) (.seq (R [o 21 (.bin .eql (.t 4) (n 2)), m 20 21]) (.cond (.t 20) (.seq (R [o 22 (.fld 1 (.t 1)), o 23 (.load false 1 (.t 22)), o 24 (.bin .eql (.t 23)
    (n 0)), m 25 24, q 26 25 true (.fld 2 (.t 1)), q 27 25 true (.load false 1 (.t 26)), q 28 25 true (.len true (.t 27)), q 29 25 true (.bin .leq (.t 28) (n 12)), o 30 (.pick (.t
    25) (.t 29) (.c (.b false))), m 2 30]) .ret) .skip)))))))) (.seq (R [o 2 (.mv (.c (.b false)))]) .ret)),
  by kernel_rfl⟩
end FrA
end
/-! KsM -/
section
open Go Go.AM
namespace FrA
open Go.AM.L
set_option maxRecDepth 100000
-- w.markText
def k55 : KF Go.Proofs.Tryz.f55 := ⟨
 .seq (R [o 2 (.mv (.c (.s [])))]) (.seq (.seq (R [m 4 0, o 5 (.bin .leq (.t 4) (n 0))]) (.cond (.t 5) (.seq (R [o 2 (.mv (.c (.s [109, 48])))]) .ret) .skip)) (.seq (R [o 3 (.mv (.c
    (.s [])))]) (.seq (.block 0 (.loop (.seq (.seq (R [m 6 0, o 7 (.bin .gtr (.t 6) (n 0))]) (.cond (.t 7) .skip (.exit 0))) (.block 1 (.seq (R [m 8 0, o 9 (.bin .rem (.t 8) (n
    10)), o 10 (.bin .add (n 48) (.t 9)), o 11 (.conv (.int .u8) (.t 10)), o 12 (.bslice 1 1 [.i .u8 0] [(0, .t 11)]), o 13 (.conv .b2s (.t 12)), m 14 3, o 15 (.bin .add (.t 13) (.t
    14)), m 3 15]) (R [m 16 0, o 17 (.bin .quo (.t 16) (n 10)), m 0 17])))))) (.seq (R [m 18 3, o 19 (.bin .add (.c (.s [109])) (.t 18)), m 2 19]) .ret)))),
  by kernel_rfl⟩
-- w.markColS
-- w.markInt64S
-- w.markUniqueS
-- w.markTokS
-- w.markCheckS
-- w.markFkS
-- w.markTableS
-- w.markValS
-- w.markRowS
-- w.markDataS
end FrA
end
/-! KsM2 -/
section
open Go Go.AM
namespace FrA
open Go.AM.L
set_option maxRecDepth 100000
-- w.heldValS
-- w.heldChangeS
-- w.eqChange
def k52 : KF Go.Proofs.Tryz.f52 := ⟨
 .seq (R [o 2 (.box (.t 0)), o 3 (.box (.t 1)), o 4 (.mv (.c (.b false)))]) (.seq (.seq (R [o 5 (.fld 0 (.t 2)), o 6 (.load false 1 (.t 5)), o 7 (.fld 0 (.t 3)), o 8 (.load false 1
    (.t 7)), o 9 (.bin .neq (.t 6) (.t 8))]) (.cond (.t 9) (.seq (R [o 4 (.mv (.c (.b false)))]) .ret) .skip)) (.seq (.seq (R [o 10 (.fld 1 (.t 2)), o 11 (.load false 1 (.t 10)), o
    12 (.fld 1 (.t 3)), o 13 (.load false 1 (.t 12)), o 14 (.bin .neq (.t 11) (.t 13))]) (.cond (.t 14) (.seq (R [o 4 (.mv (.c (.b false)))]) .ret) .skip)) (.seq (.seq (R [o 15
    (.fld 2 (.t 2)), o 16 (.load false 1 (.t 15)), o 17 (.fld 2 (.t 3)), o 18 (.load false 1 (.t 17)), o 19 (.call (.f 111) [.t 16, .t 18]), o 20 (.un .not (.t 19))]) (.cond (.t 20)
    (.seq (R [o 4 (.mv (.c (.b false)))]) .ret) .skip)) (.seq (.seq (R [o 21 (.fld 3 (.t 2)), o 22 (.load false 1 (.t 21)), o 23 (.fld 3 (.t 3)), o 24 (.load false 1 (.t 23)), o 25
    (.call (.f 111) [.t 22, .t 24]), o 26 (.un .not (.t 25))]) (.cond (.t 26) (.seq (R [o 4 (.mv (.c (.b false)))]) .ret) .skip)) (.seq (R [o 4 (.mv (.c (.b true)))]) .ret))))),
  by kernel_rfl⟩
end FrA
end
/-! KsE -/
section
open Go Go.AM
namespace FrA
open Go.AM.L
set_option maxRecDepth 100000
-- w.eqVal
def k170 : KF Go.Proofs.Tryz.f170 := ⟨
 .seq (R [o 2 (.box (.t 0)), o 3 (.box (.t 1)), o 4 (.mv (.c (.b false)))]) (.seq (.seq (R [o 5 (.fld 0 (.t 2)), o 6 (.load false 1 (.t 5)), o 7 (.fld 0 (.t 3)), o 8 (.load false 1
    (.t 7)), o 9 (.bin .neq (.t 6) (.t 8))]) (.cond (.t 9) (.seq (R [o 4 (.mv (.c (.b false)))]) .ret) .skip)) (.seq (.seq (R [o 10 (.fld 1 (.t 2)), o 11 (.load false 1 (.t 10)), o
    12 (.fld 1 (.t 3)), o 13 (.load false 1 (.t 12)), o 14 (.bin .neq (.t 11) (.t 13))]) (.cond (.t 14) (.seq (R [o 4 (.mv (.c (.b false)))]) .ret) .skip)) (.seq (.seq (R [o 15
    (.fld 2 (.t 2)), o 16 (.load false 1 (.t 15)), o 17 (.fld 2 (.t 3)), o 18 (.load false 1 (.t 17)), o 19 (.bin .neq (.t 16) (.t 18))]) (.cond (.t 19) (.seq (R [o 4 (.mv (.c (.b
    false)))]) .ret) .skip)) (.seq (R [o 4 (.mv (.c (.b true)))]) .ret)))),
  by kernel_rfl⟩
-- w.eqValS
-- w.eqCol
def k171 : KF Go.Proofs.Tryz.f171 := ⟨
 .seq (R [o 2 (.box (.t 0)), o 3 (.box (.t 1)), o 4 (.mv (.c (.b false)))]) (.seq (.seq (R [o 5 (.fld 0 (.t 2)), o 6 (.load false 1 (.t 5)), o 7 (.fld 0 (.t 3)), o 8 (.load false 1
    (.t 7)), o 9 (.bin .neq (.t 6) (.t 8))]) (.cond (.t 9) (.seq (R [o 4 (.mv (.c (.b false)))]) .ret) .skip)) (.seq (.seq (R [o 10 (.fld 1 (.t 2)), o 11 (.load false 1 (.t 10)), o
    12 (.fld 1 (.t 3)), o 13 (.load false 1 (.t 12)), o 14 (.bin .neq (.t 11) (.t 13))]) (.cond (.t 14) (.seq (R [o 4 (.mv (.c (.b false)))]) .ret) .skip)) (.seq (.seq (R [o 15
    (.fld 2 (.t 2)), o 16 (.load false 1 (.t 15)), o 17 (.fld 2 (.t 3)), o 18 (.load false 1 (.t 17)), o 19 (.eqt .bool true (.t 16) (.t 18))]) (.cond (.t 19) (.seq (R [o 4 (.mv (.c
    (.b false)))]) .ret) .skip)) (.seq (.seq (R [o 20 (.fld 3 (.t 2)), o 21 (.load true 3 (.t 20)), o 22 (.fld 3 (.t 3)), o 23 (.load true 3 (.t 22)), o 24 (.call (.f 170) [.t 21,
    .t 23]), o 25 (.un .not (.t 24))]) (.cond (.t 25) (.seq (R [o 4 (.mv (.c (.b false)))]) .ret) .skip)) (.seq (R [o 4 (.mv (.c (.b true)))]) .ret))))),
  by kernel_rfl⟩
-- w.eqColS
-- w.eqInt64S
def k113 : KF Go.Proofs.Tryz.f113 := ⟨
 .seq (R [o 4 (.mv (.c (.b false)))]) (.seq (.seq (R [m 6 0, o 7 (.len false (.t 6)), m 8 1, o 9 (.len false (.t 8)), o 10 (.bin .neq (.t 7) (.t 9))]) (.cond (.t 10) (.seq (R [o 4
    (.mv (.c (.b false)))]) .ret) .skip)) (.seq (.seq (R [o 5 (.mv (n 0))]) (.block 0 (.loop (.seq (.seq (R [m 11 5, m 12 0, o 13 (.len false (.t 12)), o 14 (.bin .lss (.t 11) (.t
    13))]) (.cond (.t 14) .skip (.exit 0))) (.seq (.block 1 (.seq (D [m 17 0, m 18 5, o 19 (.idx 1 (.t 17) (.t 18)), o 20 (.load false 1 (.t 19)), m 21 1, m 22 5, o 23 (.idx 1 (.t
    21) (.t 22)), o 24 (.load false 1 (.t 23)), o 25 (.bin .neq (.t 20) (.t 24))] [[], [], [0, 1], [2], [], [], [4, 5], [6], [3, 7]]) (.cond (.t 25) (.seq (R [o 4 (.mv (.c (.b
    false)))]) .ret) .skip))) (R [m 15 5, o 16 (.bin .add (.t 15) (n 1)), m 5 16])))))) (.seq (R [o 4 (.mv (.c (.b true)))]) .ret))),
  by kernel_rfl⟩
-- w.eqUnique
def k172 : KF Go.Proofs.Tryz.f172 := ⟨
 .seq (R [o 2 (.box (.t 0)), o 3 (.box (.t 1)), o 4 (.mv (.c (.b false)))]) (.seq (.seq (R [o 5 (.fld 0 (.t 2)), o 6 (.load false 1 (.t 5)), o 7 (.fld 0 (.t 3)), o 8 (.load false 1
    (.t 7)), o 9 (.call (.f 113) [.t 6, .t 8]), o 10 (.un .not (.t 9))]) (.cond (.t 10) (.seq (R [o 4 (.mv (.c (.b false)))]) .ret) .skip)) (.seq (R [o 4 (.mv (.c (.b true)))])
    .ret)),
  by kernel_rfl⟩
-- w.eqUniqueS
-- w.eqTok
def k249 : KF Go.Proofs.Tryz.f249 := ⟨
 .seq (R [o 2 (.box (.t 0)), o 3 (.box (.t 1)), o 4 (.mv (.c (.b false)))]) (.seq (.seq (R [o 5 (.fld 0 (.t 2)), o 6 (.load false 1 (.t 5)), o 7 (.fld 0 (.t 3)), o 8 (.load false 1
    (.t 7)), o 9 (.bin .neq (.t 6) (.t 8))]) (.cond (.t 9) (.seq (R [o 4 (.mv (.c (.b false)))]) .ret) .skip)) (.seq (.seq (R [o 10 (.fld 1 (.t 2)), o 11 (.load false 1 (.t 10)), o
    12 (.fld 1 (.t 3)), o 13 (.load false 1 (.t 12)), o 14 (.bin .neq (.t 11) (.t 13))]) (.cond (.t 14) (.seq (R [o 4 (.mv (.c (.b false)))]) .ret) .skip)) (.seq (.seq (R [o 15
    (.fld 2 (.t 2)), o 16 (.load true 3 (.t 15)), o 17 (.fld 2 (.t 3)), o 18 (.load true 3 (.t 17)), o 19 (.call (.f 170) [.t 16, .t 18]), o 20 (.un .not (.t 19))]) (.cond (.t 20)
    (.seq (R [o 4 (.mv (.c (.b false)))]) .ret) .skip)) (.seq (R [o 4 (.mv (.c (.b true)))]) .ret)))),
  by kernel_rfl⟩
-- w.eqTokS
-- w.eqCheck
def k173 : KF Go.Proofs.Tryz.f173 := ⟨
 .seq (R [o 2 (.box (.t 0)), o 3 (.box (.t 1)), o 4 (.mv (.c (.b false)))]) (.seq (.seq (R [o 5 (.fld 0 (.t 2)), o 6 (.load false 1 (.t 5)), o 7 (.fld 0 (.t 3)), o 8 (.load false 1
    (.t 7)), o 9 (.call (.f 222) [.t 6, .t 8]), o 10 (.un .not (.t 9))]) (.cond (.t 10) (.seq (R [o 4 (.mv (.c (.b false)))]) .ret) .skip)) (.seq (R [o 4 (.mv (.c (.b true)))])
    .ret)),
  by kernel_rfl⟩
-- w.eqCheckS
-- w.eqFk
def k174 : KF Go.Proofs.Tryz.f174 := ⟨
 .seq (R [o 2 (.box (.t 0)), o 3 (.box (.t 1)), o 4 (.mv (.c (.b false)))]) (.seq (.seq (R [o 5 (.fld 0 (.t 2)), o 6 (.load false 1 (.t 5)), o 7 (.fld 0 (.t 3)), o 8 (.load false 1
    (.t 7)), o 9 (.call (.f 113) [.t 6, .t 8]), o 10 (.un .not (.t 9))]) (.cond (.t 10) (.seq (R [o 4 (.mv (.c (.b false)))]) .ret) .skip)) (.seq (.seq (R [o 11 (.fld 1 (.t 2)), o
    12 (.load false 1 (.t 11)), o 13 (.fld 1 (.t 3)), o 14 (.load false 1 (.t 13)), o 15 (.bin .neq (.t 12) (.t 14))]) (.cond (.t 15) (.seq (R [o 4 (.mv (.c (.b false)))]) .ret)
    .skip)) (.seq (.seq (R [o 16 (.fld 2 (.t 2)), o 17 (.load false 1 (.t 16)), o 18 (.fld 2 (.t 3)), o 19 (.load false 1 (.t 18)), o 20 (.bin .neq (.t 17) (.t 19))]) (.cond (.t 20)
    (.seq (R [o 4 (.mv (.c (.b false)))]) .ret) .skip)) (.seq (.seq (R [o 21 (.fld 3 (.t 2)), o 22 (.load false 1 (.t 21)), o 23 (.fld 3 (.t 3)), o 24 (.load false 1 (.t 23)), o 25
    (.bin .neq (.t 22) (.t 24))]) (.cond (.t 25) (.seq (R [o 4 (.mv (.c (.b false)))]) .ret) .skip)) (.seq (.seq (R [o 26 (.fld 4 (.t 2)), o 27 (.load false 1 (.t 26)), o 28 (.fld 4
    (.t 3)), o 29 (.load false 1 (.t 28)), o 30 (.eqt .bool true (.t 27) (.t 29))]) (.cond (.t 30) (.seq (R [o 4 (.mv (.c (.b false)))]) .ret) .skip)) (.seq (R [o 4 (.mv (.c (.b
    true)))]) .ret)))))),
  by kernel_rfl⟩
-- w.eqFkS
-- w.eqTable
def k53 : KF Go.Proofs.Tryz.f53 := ⟨
 .seq (R [o 2 (.box (.t 0)), o 3 (.box (.t 1)), o 4 (.mv (.c (.b false)))]) (.seq (.seq (R [o 5 (.fld 0 (.t 2)), o 6 (.load false 1 (.t 5)), o 7 (.fld 0 (.t 3)), o 8 (.load false 1
    (.t 7)), o 9 (.bin .neq (.t 6) (.t 8))]) (.cond (.t 9) (.seq (R [o 4 (.mv (.c (.b false)))]) .ret) .skip)) (.seq (.seq (R [o 10 (.fld 1 (.t 2)), o 11 (.load false 1 (.t 10)), o
    12 (.fld 1 (.t 3)), o 13 (.load false 1 (.t 12)), o 14 (.call (.f 112) [.t 11, .t 13]), o 15 (.un .not (.t 14))]) (.cond (.t 15) (.seq (R [o 4 (.mv (.c (.b false)))]) .ret)
    .skip)) (.seq (.seq (R [o 16 (.fld 2 (.t 2)), o 17 (.load false 1 (.t 16)), o 18 (.fld 2 (.t 3)), o 19 (.load false 1 (.t 18)), o 20 (.call (.f 113) [.t 17, .t 19]), o 21 (.un
    .not (.t 20))]) (.cond (.t 21) (.seq (R [o 4 (.mv (.c (.b false)))]) .ret) .skip)) (.seq (.seq (R [o 22 (.fld 3 (.t 2)), o 23 (.load false 1 (.t 22)), o 24 (.fld 3 (.t 3)), o 25
    (.load false 1 (.t 24)), o 26 (.call (.f 114) [.t 23, .t 25]), o 27 (.un .not (.t 26))]) (.cond (.t 27) (.seq (R [o 4 (.mv (.c (.b false)))]) .ret) .skip)) (.seq (.seq (R [o 28
    (.fld 4 (.t 2)), o 29 (.load false 1 (.t 28)), o 30 (.fld 4 (.t 3)), o 31 (.load false 1 (.t 30)), o 32 (.call (.f 115) [.t 29, .t 31]), o 33 (.un .not (.t 32))]) (.cond (.t 33)
    (.seq (R [o 4 (.mv (.c (.b false)))]) .ret) .skip)) (.seq (.seq (R [o 34 (.fld 5 (.t 2)), o 35 (.load false 1 (.t 34)), o 36 (.fld 5 (.t 3)), o 37 (.load false 1 (.t 36)), o 38
    (.call (.f 116) [.t 35, .t 37]), o 39 (.un .not (.t 38))]) (.cond (.t 39) (.seq (R [o 4 (.mv (.c (.b false)))]) .ret) .skip)) (.seq (R [o 4 (.mv (.c (.b true)))]) .ret))))))),
  by kernel_rfl⟩
-- w.eqTableS
-- w.eqRow
def k175 : KF Go.Proofs.Tryz.f175 := ⟨
 .seq (R [o 2 (.box (.t 0)), o 3 (.box (.t 1)), o 4 (.mv (.c (.b false)))]) (.seq (.seq (R [o 5 (.fld 0 (.t 2)), o 6 (.load false 1 (.t 5)), o 7 (.fld 0 (.t 3)), o 8 (.load false 1
    (.t 7)), o 9 (.bin .neq (.t 6) (.t 8))]) (.cond (.t 9) (.seq (R [o 4 (.mv (.c (.b false)))]) .ret) .skip)) (.seq (.seq (R [o 10 (.fld 1 (.t 2)), o 11 (.load false 1 (.t 10)), o
    12 (.fld 1 (.t 3)), o 13 (.load false 1 (.t 12)), o 14 (.call (.f 111) [.t 11, .t 13]), o 15 (.un .not (.t 14))]) (.cond (.t 15) (.seq (R [o 4 (.mv (.c (.b false)))]) .ret)
    .skip)) (.seq (R [o 4 (.mv (.c (.b true)))]) .ret))),
  by kernel_rfl⟩
-- w.eqRowS
-- w.eqData
def k54 : KF Go.Proofs.Tryz.f54 := ⟨
 .seq (R [o 2 (.box (.t 0)), o 3 (.box (.t 1)), o 4 (.mv (.c (.b false)))]) (.seq (.seq (R [o 5 (.fld 0 (.t 2)), o 6 (.load false 1 (.t 5)), o 7 (.fld 0 (.t 3)), o 8 (.load false 1
    (.t 7)), o 9 (.call (.f 117) [.t 6, .t 8]), o 10 (.un .not (.t 9))]) (.cond (.t 10) (.seq (R [o 4 (.mv (.c (.b false)))]) .ret) .skip)) (.seq (R [o 4 (.mv (.c (.b true)))])
    .ret)),
  by kernel_rfl⟩
-- w.eqDataS
end FrA
end
/-! KsDi -/
section
open Go Go.AM
namespace FrA
open Go.AM.L
set_option maxRecDepth 100000
-- i.DiffOf
def k14 : KF Go.Proofs.Tryz.f14 := ⟨
 .seq (R [o 6 (.mv (.c .nils)), o 7 (.mv (.c (.b false)))]) (.seq (.seq (R [m 17 0, m 18 1, o 19 (.call (.f 35) [.t 17, .t 18]), o 20 (.un .not (.t 19)), m 21 20, q 22 21 false (.mv
    (.t 0)), q 23 21 false (.mv (.t 2)), q 24 21 false (.call (.f 35) [.t 22, .t 23]), q 25 21 false (.un .not (.t 24)), o 26 (.pick (.t 21) (.c (.b true)) (.t 25))]) (.cond (.t 26)
    (.seq (R [o 6 (.mv (.c .nils)), o 7 (.mv (.c (.b false))), G]) .ret) .skip)) (.seq (R [o 27 (.bslice 4 0 [.i .i64 0, .i .i64 0, .nils, .nils] []), m 8 27]) (.seq (.seq (R [m 28
    0, o 29 (.len false (.t 28)), o 30 (.mv (n 0))]) (.block 0 (.loop (.seq (R [o 31 (.bin .lss (.t 30) (.t 29))]) (.seq (.cond (.t 31) .skip (.exit 0)) (.seq (.block 1 (.seq (R [m
    32 30, m 9 32]) (.seq (R [o 33 (.bslice 1 0 [.i .i64 0] []), m 10 33]) (.seq (.seq (D [m 34 1, m 35 9, o 36 (.idx 1 (.t 34) (.t 35)), o 37 (.fld 0 (.t 36)), o 38 (.load false 1
    (.t 37)), m 39 2, m 40 9, o 41 (.idx 1 (.t 39) (.t 40)), o 42 (.fld 0 (.t 41)), o 43 (.load false 1 (.t 42)), o 44 (.bslice 1 2 [.nils] [(0, .t 38), (1, .t 43)]), o 45 (.callg
    (.f 46) [.t 44]), o 46 (.len false (.t 45)), o 47 (.mv (n 0))] [[], [], [0, 1], [2], [3], [], [], [5, 6], [7], [8], [4, 9], [10], [11], []]) (.block 2 (.loop (.seq (R [o 48
    (.bin .lss (.t 47) (.t 46))]) (.seq (.cond (.t 48) .skip (.exit 2)) (.seq (.block 3 (.seq (R [o 49 (.idx 2 (.t 45) (.t 47)), o 50 (.load true 2 (.t 49)), o 12 (.alloc [.i .i64
    0, .nils]), x (.store 2 (.t 12) (.t 50))]) (R [m 51 10, o 52 (.fld 0 (.t 12)), o 53 (.load false 1 (.t 52)), o 54 (.bslice 1 1 [.i .i64 0] [(0, .t 53)]), o 55 (.app 1 8 [.i .i64
    0] (.t 51) (.t 54)), m 10 55]))) (R [o 56 (.bin .add (.t 47) (n 1)), m 47 56]))))))) (.seq (R [m 57 10, o 58 (.call (.f 47) [.t 57])]) (.seq (R [m 59 10, o 60 (.call (.f 48) [.t
    59]), o 61 (.len false (.t 60)), o 62 (.mv (n 0))]) (.block 4 (.loop (.seq (R [o 63 (.bin .lss (.t 62) (.t 61))]) (.seq (.cond (.t 63) .skip (.exit 4)) (.seq (.block 5 (.seq (R
    [o 64 (.idx 1 (.t 60) (.t 62)), o 65 (.load false 1 (.t 64)), m 14 65]) (.seq (D [m 66 1, m 67 9, o 68 (.idx 1 (.t 66) (.t 67)), o 69 (.fld 0 (.t 68)), o 70 (.load false 1 (.t
    69)), m 71 14, o 72 (.call0 (.f 49) [.t 70, .t 71]), m 73 2, m 74 9, o 75 (.idx 1 (.t 73) (.t 74)), o 76 (.fld 0 (.t 75)), o 77 (.load false 1 (.t 76)), m 78 14, o 79 (.call0
    (.f 49) [.t 77, .t 78]), m 15 72, m 16 79] [[], [], [0, 1], [2], [3], [], [4, 5], [], [], [7, 8], [9], [10], [], [11, 12, 6], [6, 13, 0, 1, 2, 3, 4, 5, 6], [13, 14, 0, 1, 2, 3,
    4, 5, 6, 7, 8, 9, 10, 11, 12, 13, 14]]) (.seq (R [m 80 15, m 81 16, o 82 (.call (.f 50) [.t 80, .t 81]), o 83 (.un .not (.t 82))]) (.cond (.t 83) (R [m 84 8, m 85 9, m 86 14, m
    87 15, o 88 (.call (.f 51) [.t 87]), m 89 16, o 90 (.call (.f 51) [.t 89]), o 91 (.build [.i .i64 0, .i .i64 0, .nils, .nils] [(0, 1, .t 85), (1, 1, .t 86), (2, 1, .t 88), (3,
    1, .t 90)]), o 92 (.bslice 4 1 [.i .i64 0, .i .i64 0, .nils, .nils] [(0, .t 91)]), o 93 (.app 4 64 [.i .i64 0, .i .i64 0, .nils, .nils] (.t 84) (.t 92)), m 8 93, G]) .skip)))))
    (R [o 94 (.bin .add (.t 62) (n 1)), m 62 94])))))))))))) (R [o 95 (.bin .add (.t 30) (n 1)), m 30 95]))))))) (.seq (R [m 96 8, m 6 96, o 7 (.mv (.c (.b true)))]) .ret)))),
  by kernel_rfl⟩
-- s.DiffOf
def k11 : KF Go.Proofs.Tryz.f11 := ⟨
 .seq (R [o 6 (.mv (.c .nils)), o 7 (.mv (.c (.b false)))]) (.seq (.seq (R [m 17 0, m 18 1, o 19 (.call (.f 38) [.t 17, .t 18]), o 20 (.un .not (.t 19)), m 21 20, q 22 21 false (.mv
    (.t 0)), q 23 21 false (.mv (.t 2)), q 24 21 false (.call (.f 38) [.t 22, .t 23]), q 25 21 false (.un .not (.t 24)), o 26 (.pick (.t 21) (.c (.b true)) (.t 25))]) (.cond (.t 26)
    (.seq (R [o 6 (.mv (.c .nils)), o 7 (.mv (.c (.b false))), G]) .ret) .skip)) (.seq (R [o 27 (.bslice 4 0 [.i .i64 0, .i .i64 0, .nils, .nils] []), m 8 27]) (.seq (.seq (R [o 9
    (.mv (n 0))]) (.block 0 (.loop (.seq (.seq (R [m 28 9, m 29 0, o 30 (.len false (.t 29)), o 31 (.bin .lss (.t 28) (.t 30))]) (.cond (.t 31) .skip (.exit 0))) (.seq (.block 1
    (.seq (R [o 34 (.bslice 1 0 [.i .i64 0] []), m 10 34]) (.seq (.seq (R [o 11 (.mv (n 0))]) (.block 2 (.loop (.seq (.seq (R [m 35 11, m 36 1, m 37 9, o 38 (.idx 1 (.t 36) (.t
    37)), o 39 (.fld 0 (.t 38)), o 40 (.load false 1 (.t 39)), o 41 (.len false (.t 40)), o 42 (.bin .lss (.t 35) (.t 41))]) (.cond (.t 42) .skip (.exit 2))) (.seq (.block 3 (R [m
    45 10, m 46 1, m 47 9, o 48 (.idx 1 (.t 46) (.t 47)), o 49 (.fld 0 (.t 48)), o 50 (.load false 1 (.t 49)), m 51 11, o 52 (.idx 2 (.t 50) (.t 51)), o 53 (.fld 0 (.t 52)), o 54
    (.load false 1 (.t 53)), o 55 (.bslice 1 1 [.i .i64 0] [(0, .t 54)]), o 56 (.app 1 8 [.i .i64 0] (.t 45) (.t 55)), m 10 56])) (R [m 43 11, o 44 (.bin .add (.t 43) (n 1)), m 11
    44])))))) (.seq (.seq (R [o 12 (.mv (n 0))]) (.block 4 (.loop (.seq (.seq (R [m 57 12, m 58 2, m 59 9, o 60 (.idx 1 (.t 58) (.t 59)), o 61 (.fld 0 (.t 60)), o 62 (.load false 1
    (.t 61)), o 63 (.len false (.t 62)), o 64 (.bin .lss (.t 57) (.t 63))]) (.cond (.t 64) .skip (.exit 4))) (.seq (.block 5 (.seq (R [m 67 10, m 68 2, m 69 9, o 70 (.idx 1 (.t 68)
    (.t 69)), o 71 (.fld 0 (.t 70)), o 72 (.load false 1 (.t 71)), m 73 12, o 74 (.idx 2 (.t 72) (.t 73)), o 75 (.fld 0 (.t 74)), o 76 (.load false 1 (.t 75)), o 77 (.call (.f 39)
    [.t 67, .t 76]), o 78 (.un .not (.t 77))]) (.cond (.t 78) (R [m 79 10, m 80 2, m 81 9, o 82 (.idx 1 (.t 80) (.t 81)), o 83 (.fld 0 (.t 82)), o 84 (.load false 1 (.t 83)), m 85
    12, o 86 (.idx 2 (.t 84) (.t 85)), o 87 (.fld 0 (.t 86)), o 88 (.load false 1 (.t 87)), o 89 (.bslice 1 1 [.i .i64 0] [(0, .t 88)]), o 90 (.app 1 8 [.i .i64 0] (.t 79) (.t 89)),
    m 10 90]) .skip))) (R [m 65 12, o 66 (.bin .add (.t 65) (n 1)), m 12 66])))))) (.seq (R [m 91 10, G, o 92 (.call (.f 40) [.t 91]), m 10 92]) (.seq (R [o 13 (.mv (n 0))]) (.block
    6 (.loop (.seq (.seq (R [m 93 13, m 94 10, o 95 (.len false (.t 94)), o 96 (.bin .lss (.t 93) (.t 95))]) (.cond (.t 96) .skip (.exit 6))) (.seq (.block 7 (.seq (R [m 99 9, m 100
    10, m 101 13, o 102 (.idx 1 (.t 100) (.t 101)), o 103 (.load false 1 (.t 102)), o 104 (.build [.i .i64 0, .i .i64 0, .nils, .nils] [(0, 1, .t 99), (1, 1, .t 103)]), o 14 (.alloc
    [.i .i64 0, .i .i64 0, .nils, .nils]), x (.store 4 (.t 14) (.t 104)), G]) (.seq (D [m 105 1, m 106 9, o 107 (.idx 1 (.t 105) (.t 106)), o 108 (.load true 1 (.t 107)), m 109 10,
    m 110 13, o 111 (.idx 1 (.t 109) (.t 110)), o 112 (.load false 1 (.t 111)), o 113 (.call0 (.f 41) [.t 108, .t 112]), m 15 113] [[], [], [0, 1], [2], [], [], [4, 5], [6], [3, 7],
    [8, 8, 0, 1, 2, 3, 4, 5, 6, 7, 8]]) (.seq (D [m 114 2, m 115 9, o 116 (.idx 1 (.t 114) (.t 115)), o 117 (.load true 1 (.t 116)), m 118 10, m 119 13, o 120 (.idx 1 (.t 118) (.t
    119)), o 121 (.load false 1 (.t 120)), o 122 (.call0 (.f 41) [.t 117, .t 121]), m 16 122] [[], [], [0, 1], [2], [], [], [4, 5], [6], [3, 7], [8, 8, 0, 1, 2, 3, 4, 5, 6, 7, 8]])
    (.seq (.seq (R [m 123 15, o 124 (.bin .geq (.t 123) (n 0))]) (.cond (.t 124) (R [m 125 1, m 126 9, o 127 (.idx 1 (.t 125) (.t 126)), o 128 (.fld 0 (.t 127)), o 129 (.load false
    1 (.t 128)), m 130 15, o 131 (.idx 2 (.t 129) (.t 130)), o 132 (.fld 1 (.t 131)), o 133 (.load false 1 (.t 132)), o 134 (.call (.f 42) [.t 133]), o 135 (.fld 2 (.t 14)), x
    (.store 1 (.t 135) (.t 134))]) .skip)) (.seq (.seq (R [m 136 16, o 137 (.bin .geq (.t 136) (n 0))]) (.cond (.t 137) (R [m 138 2, m 139 9, o 140 (.idx 1 (.t 138) (.t 139)), o 141
    (.fld 0 (.t 140)), o 142 (.load false 1 (.t 141)), m 143 16, o 144 (.idx 2 (.t 142) (.t 143)), o 145 (.fld 1 (.t 144)), o 146 (.load false 1 (.t 145)), o 147 (.call (.f 42) [.t
    146]), o 148 (.fld 3 (.t 14)), x (.store 1 (.t 148) (.t 147))]) .skip)) (.seq (R [o 149 (.fld 2 (.t 14)), o 150 (.load false 1 (.t 149)), o 151 (.fld 3 (.t 14)), o 152 (.load
    false 1 (.t 151)), o 153 (.call (.f 43) [.t 150, .t 152]), o 154 (.un .not (.t 153))]) (.cond (.t 154) (R [m 155 8, o 156 (.load true 4 (.t 14)), o 157 (.bslice 4 1 [.i .i64 0,
    .i .i64 0, .nils, .nils] [(0, .t 156)]), o 158 (.app 4 64 [.i .i64 0, .i .i64 0, .nils, .nils] (.t 155) (.t 157)), m 8 158]) .skip)))))))) (R [m 97 13, o 98 (.bin .add (.t 97)
    (n 1)), m 13 98]))))))))))) (R [m 32 9, o 33 (.bin .add (.t 32) (n 1)), m 9 33])))))) (.seq (R [G, m 159 8, m 6 159, o 7 (.mv (.c (.b true)))]) .ret)))),
  by kernel_rfl⟩
end FrA
end
/-! KsDh -/
section
open Go Go.AM
namespace FrA
open Go.AM.L
set_option maxRecDepth 100000
-- slices.Grow[[]i.Row,i.Row]
def k106 : KF Go.Proofs.Tryz.f106 := ⟨
 .seq (R [o 4 (.mv (.c .nils))]) (.seq (.seq (R [m 5 1, o 6 (.bin .lss (.t 5) (n 0))]) (.cond (.t 6) (R [o 7 (.bad), x (.bad)]) .skip)) (.seq (.seq (R [m 8 1, m 9 0, o 10 (.cap (.t
    9)), m 11 0, o 12 (.len false (.t 11)), o 13 (.bin .sub (.t 10) (.t 12)), o 14 (.bin .sub (.t 8) (.t 13)), m 1 14]) (.seq (R [m 15 1, o 16 (.bin .gtr (.t 15) (n 0))]) (.cond (.t
    16) (R [m 17 0, m 18 0, o 19 (.cap (.t 18)), G, o 20 (.slc 2 (.t 17) none (some (.t 19)) none), m 21 1, o 22 (.appz 2 32 [.i .i64 0, .nils] (.t 20) (.t 21)), m 23 0, o 24 (.len
    false (.t 23)), o 25 (.slc 2 (.t 22) none (some (.t 24)) none), m 0 25]) .skip))) (.seq (R [m 26 0, m 4 26]) .ret))),
  by kernel_rfl⟩
-- slices.Concat[[]i.Row,i.Row]
def k46 : KF Go.Proofs.Tryz.f46 := ⟨
 .seq (R [o 2 (.mv (.c .nils))]) (.seq (R [o 3 (.mv (n 0))]) (.seq (.seq (R [m 9 0, o 10 (.len false (.t 9)), o 11 (.mv (n 0))]) (.block 0 (.loop (.seq (R [o 12 (.bin .lss (.t 11)
    (.t 10))]) (.seq (.cond (.t 12) .skip (.exit 0)) (.seq (.block 1 (.seq (R [o 13 (.idx 1 (.t 9) (.t 11)), o 14 (.load false 1 (.t 13)), m 5 14]) (.seq (R [m 15 3, m 16 5, o 17
    (.len false (.t 16)), o 18 (.bin .add (.t 15) (.t 17)), m 3 18]) (.seq (R [m 19 3, o 20 (.bin .lss (.t 19) (n 0))]) (.cond (.t 20) (R [o 21 (.bad), x (.bad)]) .skip))))) (R [o
    22 (.bin .add (.t 11) (n 1)), m 11 22]))))))) (.seq (R [m 23 3, o 24 (.call (.f 106) [.c .nils, .t 23]), m 6 24]) (.seq (.seq (R [m 25 0, o 26 (.len false (.t 25)), o 27 (.mv (n
    0))]) (.block 2 (.loop (.seq (R [o 28 (.bin .lss (.t 27) (.t 26))]) (.seq (.cond (.t 28) .skip (.exit 2)) (.seq (.block 3 (.seq (R [o 29 (.idx 1 (.t 25) (.t 27)), o 30 (.load
    false 1 (.t 29)), m 8 30]) (R [m 31 6, m 32 8, o 33 (.app 2 32 [.i .i64 0, .nils] (.t 31) (.t 32)), m 6 33]))) (R [o 34 (.bin .add (.t 27) (n 1)), m 27 34]))))))) (.seq (R [G, m
    35 6, m 2 35]) .ret))))),
  by kernel_rfl⟩
-- slices.Compact[[]int64,int64]
def k48 : KF Go.Proofs.Tryz.f48 := ⟨
 .seq (R [o 2 (.mv (.c .nils))]) (.seq (.seq (R [m 6 0, o 7 (.len false (.t 6)), o 8 (.bin .lss (.t 7) (n 2))]) (.cond (.t 8) (.seq (R [m 9 0, m 2 9]) .ret) .skip)) (.seq (.seq (R
    [o 3 (.mv (n 1))]) (.block 0 (.loop (.seq (.seq (R [m 10 3, m 11 0, o 12 (.len false (.t 11)), o 13 (.bin .lss (.t 10) (.t 12))]) (.cond (.t 13) .skip (.exit 0))) (.seq (.block
    1 (.seq (D [m 16 0, m 17 3, o 18 (.idx 1 (.t 16) (.t 17)), o 19 (.load false 1 (.t 18)), m 20 0, m 21 3, o 22 (.bin .sub (.t 21) (n 1)), o 23 (.idx 1 (.t 20) (.t 22)), o 24
    (.load false 1 (.t 23)), o 25 (.bin .eql (.t 19) (.t 24))] [[], [], [0, 1], [2], [], [], [5], [4, 6], [7], [3, 8]]) (.cond (.t 25) (.seq (R [m 26 0, m 27 3, o 28 (.slc 1 (.t 26)
    (some (.t 27)) none none), m 4 28]) (.seq (.seq (R [o 5 (.mv (n 1))]) (.block 2 (.loop (.seq (.seq (R [m 29 5, m 30 4, o 31 (.len false (.t 30)), o 32 (.bin .lss (.t 29) (.t
    31))]) (.cond (.t 32) .skip (.exit 2))) (.seq (.block 3 (.seq (D [m 35 4, m 36 5, o 37 (.idx 1 (.t 35) (.t 36)), o 38 (.load false 1 (.t 37)), m 39 4, m 40 5, o 41 (.bin .sub
    (.t 40) (n 1)), o 42 (.idx 1 (.t 39) (.t 41)), o 43 (.load false 1 (.t 42)), o 44 (.bin .neq (.t 38) (.t 43))] [[], [], [0, 1], [2], [], [], [5], [4, 6], [7], [3, 8]]) (.cond
    (.t 44) (.seq (R [m 45 0, m 46 3, m 47 4, m 48 5, o 49 (.idx 1 (.t 47) (.t 48)), o 50 (.load false 1 (.t 49)), o 51 (.idx 1 (.t 45) (.t 46)), x (.store 1 (.t 51) (.t 50))]) (R
    [m 52 3, o 53 (.bin .add (.t 52) (n 1)), m 3 53])) .skip))) (R [m 33 5, o 34 (.bin .add (.t 33) (n 1)), m 5 34])))))) (.seq (R [m 54 0, m 55 3, o 56 (.slc 1 (.t 54) (some (.t
    55)) none none), x (.clr 1 [.i .i64 0] (.t 56))]) (.seq (R [m 57 0, m 58 3, o 59 (.slc 1 (.t 57) none (some (.t 58)) none), m 2 59]) .ret)))) .skip))) (R [m 14 3, o 15 (.bin
    .add (.t 14) (n 1)), m 3 15])))))) (.seq (R [m 60 0, m 2 60]) .ret))),
  by kernel_rfl⟩
end FrA
end
/-! KsDg -/
section
open Go Go.AM
namespace FrA
open Go.AM.L
set_option maxRecDepth 100000
-- s.l13Sort
def k40 : KF Go.Proofs.Tryz.f40 := ⟨
 .seq (R [o 2 (.mv (.c .nils))]) (.seq (R [o 7 (.bslice 1 0 [.i .i64 0] []), m 3 7, G]) (.seq (.seq (R [o 4 (.mv (n 0))]) (.block 0 (.loop (.seq (.seq (R [m 8 4, m 9 0, o 10 (.len
    false (.t 9)), o 11 (.bin .lss (.t 8) (.t 10))]) (.cond (.t 11) .skip (.exit 0))) (.seq (.block 1 (.seq (R [o 5 (.mv (n 0))]) (.seq (.block 2 (.loop (.seq (.seq (D [m 14 5, m 15
    3, o 16 (.len false (.t 15)), o 17 (.bin .lss (.t 14) (.t 16)), m 18 17, q 19 18 true (.mv (.t 3)), q 20 18 true (.mv (.t 5)), q 21 18 true (.idx 1 (.t 19) (.t 20)), q 22 18
    true (.load false 1 (.t 21)), q 23 18 true (.mv (.t 0)), q 24 18 true (.mv (.t 4)), q 25 18 true (.idx 1 (.t 23) (.t 24)), q 26 18 true (.load false 1 (.t 25)), q 27 18 true
    (.bin .lss (.t 22) (.t 26)), o 28 (.pick (.t 18) (.t 27) (.c (.b false)))] [[], [], [1], [0, 2], [3], [4], [4], [5, 6, 4], [7, 4], [4], [4], [9, 10, 4], [11, 4], [8, 12, 4], [4,
    13]]) (.cond (.t 28) .skip (.exit 2))) (.block 3 (R [m 29 5, o 30 (.bin .add (.t 29) (n 1)), m 5 30]))))) (.seq (R [o 31 (.bslice 1 0 [.i .i64 0] []), m 32 3, m 33 5, o 34 (.slc
    1 (.t 32) none (some (.t 33)) none), o 35 (.app 1 8 [.i .i64 0] (.t 31) (.t 34)), m 6 35]) (.seq (R [m 36 6, m 37 0, m 38 4, o 39 (.idx 1 (.t 37) (.t 38)), o 40 (.load false 1
    (.t 39)), o 41 (.bslice 1 1 [.i .i64 0] [(0, .t 40)]), o 42 (.app 1 8 [.i .i64 0] (.t 36) (.t 41)), m 6 42]) (R [m 43 6, m 44 3, m 45 5, o 46 (.slc 1 (.t 44) (some (.t 45)) none
    none), o 47 (.app 1 8 [.i .i64 0] (.t 43) (.t 46)), m 3 47, G])))))) (R [m 12 4, o 13 (.bin .add (.t 12) (n 1)), m 4 13])))))) (.seq (R [m 48 3, m 2 48]) .ret))),
  by kernel_rfl⟩
end FrA
end
/-! KsDf -/
section
open Go Go.AM
namespace FrA
open Go.AM.L
set_option maxRecDepth 100000
-- s.l4At
def k41 : KF Go.Proofs.Tryz.f41 := ⟨
 .seq (R [o 2 (.box (.t 0)), o 4 (.mv (n 0))]) (.seq (.seq (R [o 5 (.mv (n 0))]) (.block 0 (.loop (.seq (.seq (R [m 6 5, o 7 (.fld 0 (.t 2)), o 8 (.load false 1 (.t 7)), o 9 (.len
    false (.t 8)), o 10 (.bin .lss (.t 6) (.t 9))]) (.cond (.t 10) .skip (.exit 0))) (.seq (.block 1 (.seq (R [o 13 (.fld 0 (.t 2)), o 14 (.load false 1 (.t 13)), m 15 5, o 16 (.idx
    2 (.t 14) (.t 15)), o 17 (.fld 0 (.t 16)), o 18 (.load false 1 (.t 17)), m 19 1, o 20 (.bin .eql (.t 18) (.t 19))]) (.cond (.t 20) (.seq (R [m 21 5, m 4 21]) .ret) .skip))) (R
    [m 11 5, o 12 (.bin .add (.t 11) (n 1)), m 5 12])))))) (.seq (R [o 4 (.mv (n (-1)))]) .ret)),
  by kernel_rfl⟩
-- s.l1CopyVals
def k42 : KF Go.Proofs.Tryz.f42 := ⟨
 .seq (R [o 2 (.mv (.c .nils))]) (.seq (R [o 3 (.bslice 3 0 [.i .i64 0, .i .i64 0, .s []] []), m 4 0, o 5 (.app 3 32 [.i .i64 0, .i .i64 0, .s []] (.t 3) (.t 4)), m 2 5]) .ret),
  by kernel_rfl⟩
-- s.l1SameVals
def k43 : KF Go.Proofs.Tryz.f43 := ⟨
 .seq (R [o 4 (.mv (.c (.b false)))]) (.seq (.seq (R [m 6 0, o 7 (.len false (.t 6)), m 8 1, o 9 (.len false (.t 8)), o 10 (.bin .neq (.t 7) (.t 9))]) (.cond (.t 10) (.seq (R [o 4
    (.mv (.c (.b false)))]) .ret) .skip)) (.seq (.seq (R [o 5 (.mv (n 0))]) (.block 0 (.loop (.seq (.seq (R [m 11 5, m 12 0, o 13 (.len false (.t 12)), o 14 (.bin .lss (.t 11) (.t
    13))]) (.cond (.t 14) .skip (.exit 0))) (.seq (.block 1 (.seq (D [m 17 0, m 18 5, o 19 (.idx 3 (.t 17) (.t 18)), o 20 (.load true 3 (.t 19)), m 21 1, m 22 5, o 23 (.idx 3 (.t
    21) (.t 22)), o 24 (.load true 3 (.t 23)), o 25 (.eqt (.struct [.int, .int, .str]) true (.t 20) (.t 24))] [[], [], [0, 1], [2], [], [], [4, 5], [6], [3, 7]]) (.cond (.t 25)
    (.seq (R [o 4 (.mv (.c (.b false)))]) .ret) .skip))) (R [m 15 5, o 16 (.bin .add (.t 15) (n 1)), m 5 16])))))) (.seq (R [o 4 (.mv (.c (.b true)))]) .ret))),
  by kernel_rfl⟩
-- i.valsAt
def k49 : KF Go.Proofs.Tryz.f49 := ⟨
 .seq (R [o 3 (.box (.t 1)), o 4 (.mv (.c .nils))]) (.seq (R [m 6 0, o 7 (.mkf 110 [.t 3]), o 8 (.call (.f 109) [.t 6, .t 7]), m 5 8]) (.seq (.seq (R [m 9 5, o 10 (.bin .lss (.t 9)
    (n 0))]) (.cond (.t 10) (.seq (R [o 4 (.mv (.c .nils))]) .ret) .skip)) (.seq (R [m 11 0, m 12 5, o 13 (.idx 2 (.t 11) (.t 12)), o 14 (.fld 1 (.t 13)), o 15 (.load false 1 (.t
    14)), m 4 15]) .ret))),
  by kernel_rfl⟩
-- i.valsAt$1
def k110 : KF Go.Proofs.Tryz.f110 := ⟨
 .seq (R [o 2 (.box (.t 0)), o 3 (.mv (.c (.b false)))]) (.seq (R [o 4 (.fld 0 (.t 2)), o 5 (.load false 1 (.t 4)), o 6 (.load false 1 (.t 1)), o 7 (.bin .eql (.t 5) (.t 6)), m 3
    7]) .ret),
  by kernel_rfl⟩
-- slices.Equal[[]i.Val,i.Val]
def k50 : KF Go.Proofs.Tryz.f50 := ⟨
 .seq (R [o 4 (.mv (.c (.b false)))]) (.seq (.seq (R [m 6 0, o 7 (.len false (.t 6)), m 8 1, o 9 (.len false (.t 8)), o 10 (.bin .neq (.t 7) (.t 9))]) (.cond (.t 10) (.seq (R [o 4
    (.mv (.c (.b false)))]) .ret) .skip)) (.seq (.seq (R [m 11 0, o 12 (.len false (.t 11)), o 13 (.mv (n 0))]) (.block 0 (.loop (.seq (R [o 14 (.bin .lss (.t 13) (.t 12))]) (.seq
    (.cond (.t 14) .skip (.exit 0)) (.seq (.block 1 (.seq (R [m 15 13, m 5 15]) (.seq (D [m 16 0, m 17 5, o 18 (.idx 3 (.t 16) (.t 17)), o 19 (.load true 3 (.t 18)), m 20 1, m 21 5,
    o 22 (.idx 3 (.t 20) (.t 21)), o 23 (.load true 3 (.t 22)), o 24 (.eqt (.struct [.int, .int, .str]) true (.t 19) (.t 23))] [[], [], [0, 1], [2], [], [], [4, 5], [6], [3, 7]])
    (.cond (.t 24) (.seq (R [o 4 (.mv (.c (.b false)))]) .ret) .skip)))) (R [o 25 (.bin .add (.t 13) (n 1)), m 13 25]))))))) (.seq (R [o 4 (.mv (.c (.b true)))]) .ret))),
  by kernel_rfl⟩
-- slices.Clone[[]i.Val,i.Val]
end FrA
end
/-! KsSc -/
section
open Go Go.AM
namespace FrA
open Go.AM.L
set_option maxRecDepth 100000
-- i.TableAt
def k141 : KF Go.Proofs.Tryz.f141 := ⟨
 .seq (R [o 3 (.box (.t 1)), o 4 (.mv (n 0))]) (.seq (R [m 5 0, o 6 (.mkf 210 [.t 3]), o 7 (.call (.f 209) [.t 5, .t 6]), m 4 7]) .ret),
  by kernel_rfl⟩
-- i.TableAt$1
def k210 : KF Go.Proofs.Tryz.f210 := ⟨
 .seq (R [o 2 (.box (.t 0)), o 3 (.mv (.c (.b false)))]) (.seq (R [o 4 (.fld 0 (.t 2)), o 5 (.load false 1 (.t 4)), o 6 (.load false 1 (.t 1)), o 7 (.bin .eql (.t 5) (.t 6)), m 3
    7]) .ret),
  by kernel_rfl⟩
-- i.isMet
def k146 : KF Go.Proofs.Tryz.f146 := ⟨
 .seq (R [o 4 (.box (.t 1)), o 5 (.box (.t 2)), o 6 (.mv (.c (.b false)))]) (.seq (R [m 10 0, o 11 (.fld 1 (.t 5)), o 12 (.load false 1 (.t 11)), o 13 (.call (.f 141) [.t 10, .t
    12]), m 7 13]) (.seq (.seq (D [m 14 7, o 15 (.bin .lss (.t 14) (n 0)), m 16 15, q 17 16 false (.mv (.t 0)), q 18 16 false (.mv (.t 7)), q 19 16 false (.idx 6 (.t 17) (.t 18)), q
    20 16 false (.fld 2 (.t 19)), q 21 16 false (.load false 1 (.t 20)), q 22 16 false (.len false (.t 21)), q 23 16 false (.fld 0 (.t 5)), q 24 16 false (.load false 1 (.t 23)), q
    25 16 false (.len false (.t 24)), q 26 16 false (.bin .neq (.t 22) (.t 25)), o 27 (.pick (.t 16) (.c (.b true)) (.t 26))] [[], [0], [1], [2], [2], [3, 4, 2], [5, 2], [6, 2], [7,
    2], [2], [9, 2], [10, 2], [8, 11, 2], [2, 12]]) (.cond (.t 27) (.seq (R [o 6 (.mv (.c (.b false)))]) .ret) .skip)) (.seq (.seq (R [o 28 (.fld 0 (.t 5)), o 29 (.load false 1 (.t
    28)), o 30 (.len false (.t 29)), o 31 (.mv (n 0))]) (.block 0 (.loop (.seq (R [o 32 (.bin .lss (.t 31) (.t 30))]) (.seq (.cond (.t 32) .skip (.exit 0)) (.seq (.block 1 (.seq (R
    [m 33 31, o 34 (.idx 1 (.t 29) (.t 31)), o 35 (.load false 1 (.t 34)), m 8 33, m 9 35]) (.seq (D [m 36 0, m 37 7, o 38 (.idx 6 (.t 36) (.t 37)), o 39 (.fld 1 (.t 38)), o 40
    (.load false 1 (.t 39)), m 41 0, m 42 7, o 43 (.idx 6 (.t 41) (.t 42)), o 44 (.fld 2 (.t 43)), o 45 (.load false 1 (.t 44)), m 46 8, o 47 (.idx 1 (.t 45) (.t 46)), o 48 (.load
    false 1 (.t 47)), o 49 (.idx 6 (.t 40) (.t 48)), o 50 (.fld 1 (.t 49)), o 51 (.load false 1 (.t 50)), o 52 (.fld 1 (.t 4)), o 53 (.load false 1 (.t 52)), m 54 9, o 55 (.idx 6
    (.t 53) (.t 54)), o 56 (.fld 1 (.t 55)), o 57 (.load false 1 (.t 56)), o 58 (.bin .neq (.t 51) (.t 57))] [[], [], [0, 1], [2], [3], [], [], [5, 6], [7], [8], [], [9, 10], [11],
    [4, 12], [13], [14], [], [16], [], [17, 18], [19], [20], [15, 21]]) (.cond (.t 58) (.seq (R [o 6 (.mv (.c (.b false)))]) .ret) .skip)))) (R [o 59 (.bin .add (.t 31) (n 1)), m 31
    59]))))))) (.seq (R [o 6 (.mv (.c (.b true)))]) .ret)))),
  by kernel_rfl⟩
-- i.SchemaOk$1$1
def k145 : KF Go.Proofs.Tryz.f145 := ⟨
 .seq (R [o 3 (.box (.t 0)), o 4 (.mv (.c (.b false)))]) (.seq (R [o 5 (.load false 1 (.t 1)), o 6 (.load true 6 (.t 2)), o 7 (.load true 5 (.t 3)), o 8 (.call (.f 146) [.t 5, .t 6,
    .t 7]), o 9 (.un .not (.t 8)), m 4 9]) .ret),
  by kernel_rfl⟩
-- i.SchemaOk$1
def k143 : KF Go.Proofs.Tryz.f143 := ⟨
 .seq (R [o 2 (.box (.t 0)), o 3 (.mv (.c (.b false)))]) (.seq (R [o 4 (.fld 5 (.t 2)), o 5 (.load false 1 (.t 4)), o 6 (.mkf 145 [.t 1, .t 2]), o 7 (.call (.f 144) [.t 5, .t 6]), m
    3 7]) .ret),
  by kernel_rfl⟩
-- i.SchemaOk
def k91 : KF Go.Proofs.Tryz.f91 := ⟨
 .seq (R [o 1 (.box (.t 0)), o 2 (.mv (.c (.b false)))]) (.seq (.seq (R [o 5 (.load false 1 (.t 1)), o 6 (.len false (.t 5)), o 7 (.bin .gtr (.t 6) (n 5))]) (.cond (.t 7) (.seq (R
    [o 2 (.mv (.c (.b false)))]) .ret) .skip)) (.seq (.seq (R [o 8 (.load false 1 (.t 1)), o 9 (.len false (.t 8)), o 10 (.mv (n 0))]) (.block 0 (.loop (.seq (R [o 11 (.bin .lss (.t
    10) (.t 9))]) (.seq (.cond (.t 11) .skip (.exit 0)) (.seq (.block 1 (.seq (R [m 12 10, o 13 (.idx 6 (.t 8) (.t 10)), o 14 (.load true 6 (.t 13)), o 4 (.alloc [.s [], .nils,
    .nils, .nils, .nils, .nils]), m 3 12, x (.store 6 (.t 4) (.t 14))]) (.seq (D [o 15 (.load true 6 (.t 4)), o 16 (.call0 (.f 140) [.t 15]), o 17 (.un .not (.t 16)), m 18 17, q 19
    18 false (.load false 1 (.t 1)), q 20 18 false (.mv (.t 3)), q 21 18 false (.slc 6 (.t 19) none (some (.t 20)) none), q 22 18 false (.fld 0 (.t 4)), q 23 18 false (.load false 1
    (.t 22)), q 24 18 false (.call0 (.f 141) [.t 21, .t 23]), q 25 18 false (.bin .geq (.t 24) (n 0)), o 26 (.pick (.t 18) (.c (.b true)) (.t 25))] [[], [0], [1], [2, 1], [3], [3],
    [4, 5, 3], [3], [7, 3], [6, 8, 3, 3], [9, 3], [3, 10]]) (.cond (.t 26) (.seq (R [o 2 (.mv (.c (.b false)))]) .ret) .skip)))) (R [o 27 (.bin .add (.t 10) (n 1)), m 10 27])))))))
    (.seq (R [o 28 (.load false 1 (.t 1)), o 29 (.mkf 143 [.t 1]), o 30 (.call (.f 142) [.t 28, .t 29]), o 31 (.un .not (.t 30)), m 2 31]) .ret))),
  by kernel_rfl⟩
end FrA
end
