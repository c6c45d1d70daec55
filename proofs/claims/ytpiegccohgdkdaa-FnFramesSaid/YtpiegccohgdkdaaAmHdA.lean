/- The contracts of the functions of frames. No condition. -/
import Derived.Test.YtpiegccohgdkdaaAmTkE
set_option linter.all false
set_option linter.unusedSimpArgs false
set_option linter.unusedVariables false
set_option linter.deprecated false
open Go Go.AM
namespace FrA
theorem mixedT : Go.Proofs.Try.prog.follows .mixedOrders = true := by kernel_rfl
theorem le_of (a b : Nat) (h : Nat.ble a b = true) : a ≤ b := Nat.le_of_ble_eq_true h
abbrev HC : Con := Holds Go.Proofs.Try.prog
abbrev HT := HC.det
theorem HOk : ConOk Go.Proofs.Try.prog HC := fun _ _ _ _ _ h => h
open Go.Proofs
theorem h61 (l : List UInt8) (hl : l.length ≤ 1048576) : HT 61 [.s l] [] (.i .u32 (crcV l)) true [] :=
  holds_of (c := Try.f61.body.getD .skip) (k := k61.1) (ts := [2]) HOk mixedT (fun _ => false) Try.func61 (by kernel_rfl) (by kernel_rfl) (by kernel_rfl) k61.2 (by kernel_rfl) (le_of 1 _ (by kernel_rfl)) (walk61 _ l hl)
theorem h60 (l : List UInt8) (hl : l.length ≤ 1048576) : HT 60 [.s l] [] (.s (sumB (crcV2 l))) true [] :=
  holds_of (c := Try.f60.body.getD .skip) (k := k60.1) (ts := [2]) HOk mixedT (fun _ => false) Try.func60 (by kernel_rfl) (by kernel_rfl) (by kernel_rfl) k60.2 (by kernel_rfl) (le_of 1 _ (by kernel_rfl)) (walk60 _ l hl)
theorem h16 (l : List UInt8) (hl : l.length ≤ 1048576) : HT 16 [.s l] [] (.s (frame (crcV2 l) l)) true [] :=
  holds_of (c := Try.f16.body.getD .skip) (k := k16.1) (ts := [2]) HOk mixedT (fun _ => false) Try.func16 (by kernel_rfl) (by kernel_rfl) (by kernel_rfl) k16.2 (by kernel_rfl) (le_of 1 _ (by kernel_rfl)) (walk16 _ l hl h60)
theorem h17 (l : List UInt8) (hl : l.length ≤ 1048576) : HT 17 [.s l] [] (.s (frame (crcV l) l)) true [] :=
  holds_of (c := Try.f17.body.getD .skip) (k := k17.1) (ts := [2]) HOk mixedT (fun _ => false) Try.func17 (by kernel_rfl) (by kernel_rfl) (by kernel_rfl) k17.2 (by kernel_rfl) (le_of 1 _ (by kernel_rfl)) (walk17 _ l hl h61)
theorem h132 (s p : List UInt8) : HT 132 [.s s, .s p] [] (.b (pre s p)) true [] :=
  holds_of (c := Try.f132.body.getD .skip) (k := k132.1) (ts := [4]) HOk mixedT (fun _ => false) Try.func132 (by kernel_rfl) (by kernel_rfl) (by kernel_rfl) k132.2 (by kernel_rfl) (le_of 2 _ (by kernel_rfl)) (walk132 _ s p)
theorem h110 (s p : List UInt8) : HT 110 [.s s, .s p] [] (.b (pre s p)) true [] :=
  holds_of (c := Try.f110.body.getD .skip) (k := k110.1) (ts := [4]) HOk mixedT (fun _ => false) Try.func110 (by kernel_rfl) (by kernel_rfl) (by kernel_rfl) k110.2 (by kernel_rfl) (le_of 2 _ (by kernel_rfl)) (walk110 _ s p h132)
theorem h62 (s : List UInt8) (hs : s.length ≤ 1048576) : HT 62 [.s s] [] (.tup [.s (tf s).1, .b (tf s).2]) true [] :=
  holds_of (c := Try.f62.body.getD .skip) (k := k62.1) (ts := [2, 3]) HOk mixedT (fun _ => false) Try.func62 (by kernel_rfl) (by kernel_rfl) (by kernel_rfl) k62.2 (by kernel_rfl) (le_of 1 _ (by kernel_rfl)) (walk62 _ s hs h17 h110)
theorem h19 (s : List UInt8) (hs : s.length ≤ 1048576) : HT 19 [.s s] [] (takesR s) true [obT (takes s).1] :=
  holds_of (c := Try.f19.body.getD .skip) (k := k19.1) (ts := [2, 3]) HOk mixedT (fun _ => false) Try.func19 (by kernel_rfl) (by kernel_rfl) (by kernel_rfl) k19.2 (by kernel_rfl) (le_of 1 _ (by kernel_rfl)) (walk19 _ s hs h62)
theorem h18 (s : List UInt8) (hs : s.length ≤ 1048576) : HT 18 [.s s] [] (takesR s) true [obT (takes s).1] :=
  holds_of (c := Try.f18.body.getD .skip) (k := k18.1) (ts := [2, 3]) HOk mixedT (fun _ => false) Try.func18 (by kernel_rfl) (by kernel_rfl) (by kernel_rfl) k18.2 (by kernel_rfl) (le_of 1 _ (by kernel_rfl)) (walk18 _ s hs h60)
theorem h20 (a b : List (List UInt8)) (ha : a.length ≤ 1048576) : HT 20 [.dat (txt a), .dat (txt b)] [] (.b (a == b)) true [] :=
  holds_of (c := Try.f20.body.getD .skip) (k := k20.1) (ts := [4]) HOk mixedT (fun _ => false) Try.func20 (by kernel_rfl) (by kernel_rfl) (by kernel_rfl) k20.2 (by kernel_rfl) (le_of 2 _ (by kernel_rfl)) (walk20 _ a b ha)
theorem h63 (k : Nat) (hk : k ≤ 1000000000) (h0 : 0 < k) : HT 63 [i64 k] [] (.s (mark k)) true [] :=
  holds_of (c := Try.f63.body.getD .skip) (k := k63.1) (ts := [2]) HOk mixedT (fun _ => false) Try.func63 (by kernel_rfl) (by kernel_rfl) (by kernel_rfl) k63.2 (by kernel_rfl) (le_of 1 _ (by kernel_rfl)) (walk63 _ k hk h0)
theorem h21 (l : List (List UInt8)) (k : Nat) (cap : Option Nat) (q : Prop) (hk : 0 < k) (hkl : k + l.length ≤ 1000000000) : HT 21 [.sl (.p 0) 0 0 l.length cap, i64 k] [obT0 l q] (i64 (k + l.length : Nat)) true [obT0 (marks k l.length) True] :=
  holds_of (c := Try.f21.body.getD .skip) (k := k21.1) (ts := [4]) HOk mixedT (fun _ => false) Try.func21 (by kernel_rfl) (by kernel_rfl) (by kernel_rfl) k21.2 (by kernel_rfl) (le_of 2 _ (by kernel_rfl)) (walk21 _ l k cap q hk hkl h63)
theorem h22 (k n : Nat) (hk : 0 < k) (hkl : k + n ≤ 1000000000) : HT 22 [.dat (txt (marks k n)), i64 k] [] (i64 (k + n : Nat)) true [] :=
  holds_of (c := Try.f22.body.getD .skip) (k := k22.1) (ts := [4]) HOk mixedT (fun _ => false) Try.func22 (by kernel_rfl) (by kernel_rfl) (by kernel_rfl) k22.2 (by kernel_rfl) (le_of 2 _ (by kernel_rfl)) (walk22 _ k n hk hkl h63)
theorem h4 (s : List UInt8) : HT 4 [.s s] [] (.b true) true [] :=
  holds_of (c := Try.f4.body.getD .skip) (k := k4.1) (ts := [2]) HOk mixedT (fun _ => false) Try.func4 (by kernel_rfl) (by kernel_rfl) (by kernel_rfl) k4.2 (by kernel_rfl) (le_of 1 _ (by kernel_rfl)) (walk4 _ s ⟨h18, h19, h20, h21, h22⟩)
end FrA
