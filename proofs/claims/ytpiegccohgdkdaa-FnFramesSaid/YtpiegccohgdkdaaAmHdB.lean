/- The contracts of FnFrames' functions. No condition. -/
import Derived.Test.YtpiegccohgdkdaaAmHdA
import Derived.Test.YtpiegccohgdkdaaAmTfC
set_option linter.all false
set_option linter.unusedSimpArgs false
set_option linter.unusedVariables false
set_option linter.deprecated false
open Go Go.AM
namespace FrA
open Go.Proofs
theorem h111 (code : List UInt8) (p : Nat) (hp : p ≤ code.length) (hc : code.length ≤ 1048576) : HT 111 [.ptr (.p 0) 0 0 0] [rdO code p] (i64 (nx code p).1) false [rdO code (nx code p).2] :=
  holds_of (c := Try.f111.body.getD .skip) (k := k111.1) (ts := [2]) HOk mixedT hintT Try.func111 (by kernel_rfl) (by kernel_rfl) (by kernel_rfl) k111.2 (by kernel_rfl) (le_of 1 _ (by kernel_rfl)) (walk111 _ code p hp hc)
theorem h65 (code : List UInt8) (hc : code.length ≤ 1048576) (p n : Nat) (hp : p ≤ code.length) (hn : n ≤ 256) : HT 65 [.ptr (.p 0) 0 0 0, i64 n] [rdO code p] (i64 (blw code p n).1) false [rdO code (blw code p n).2] :=
  holds_of (c := Try.f65.body.getD .skip) (k := k65.1) (ts := [4]) HOk mixedT hintT Try.func65 (by kernel_rfl) (by kernel_rfl) (by kernel_rfl) k65.2 (by kernel_rfl) (le_of 2 _ (by kernel_rfl)) (walk65 _ code p n hp hn (fun p hp => h111 code p hp hc))
theorem rdC (code : List UInt8) (hc : code.length ≤ 1048576) : RdCon HC code := ⟨h65 code hc⟩
theorem h66 (code : List UInt8) (hc : code.length ≤ 1048576) (p : Nat) (hp : p ≤ code.length) : HC 66 [.ptr (.p 0) 0 0 0] [rdO code p] false (fun ret o' => ∃ p', p' ≤ code.length ∧ o' = [rdO code p'] ∧ ∃ t : List UInt8, t.length ≤ 3 ∧ ret = .s t) :=
  holds_of (c := Try.f66.body.getD .skip) (k := k66.1) (ts := [2]) HOk mixedT hintT Try.func66 (by kernel_rfl) (by kernel_rfl) (by kernel_rfl) k66.2 (by kernel_rfl) (le_of 1 _ (by kernel_rfl)) (walk66 _ code p hp (rdC code hc))
theorem h67 (code : List UInt8) (hc : code.length ≤ 1048576) (s : List UInt8) (p : Nat) (hp : p ≤ code.length) (hs : s.length ≤ 200) : HC 67 [.ptr (.p 0) 0 0 0, .s s] [rdO code p] false (fun ret o' => ∃ p', p' ≤ code.length ∧ o' = [rdO code p'] ∧ ∃ t : List UInt8, t.length ≤ s.length + 1 ∧ ret = .s t) :=
  holds_of (c := Try.f67.body.getD .skip) (k := k67.1) (ts := [4]) HOk mixedT hintT Try.func67 (by kernel_rfl) (by kernel_rfl) (by kernel_rfl) k67.2 (by kernel_rfl) (le_of 2 _ (by kernel_rfl)) (walk67 _ code s p hp hs (rdC code hc))
theorem h68 (code : List UInt8) (hc : code.length ≤ 1048576) (p n : Nat) (hp : p ≤ code.length) (hn : n < 200) : HC 68 [.ptr (.p 0) 0 0 0, i64 n] [rdO code p] false (fun ret o' => ∃ p', p' ≤ code.length ∧ o' = [rdO code p'] ∧ ∃ t : List UInt8, t.length ≤ n ∧ ret = .s t) :=
  holds_of (c := Try.f68.body.getD .skip) (k := k68.1) (ts := [4]) HOk mixedT hintT Try.func68 (by kernel_rfl) (by kernel_rfl) (by kernel_rfl) k68.2 (by kernel_rfl) (le_of 2 _ (by kernel_rfl)) (walk68 _ code p n hp hn (rdC code hc))
theorem h64 (code : List UInt8) : HT 64 [.dat (bts code)] [] (.ptr (.p 0) 1 0 0) false [{ rdO code 0 with ver := 1 }] :=
  holds_of (c := Try.f64.body.getD .skip) (k := k64.1) (ts := [2]) HOk mixedT hintT Try.func64 (by kernel_rfl) (by kernel_rfl) (by kernel_rfl) k64.2 (by kernel_rfl) (le_of 1 _ (by kernel_rfl)) (walk64 _ code)
theorem drC (code : List UInt8) (hc : code.length ≤ 1048576) : DrCon HC code := ⟨rdC code hc, h64 code, h66 code hc, h67 code hc, h68 code hc, h16⟩
theorem h24 (code : List UInt8) (hc : code.length ≤ 1048576) : HC 24 [.dat (bts code)] [] true (fun ret o' => o' = [] ∧ ∃ t : List UInt8, t.length ≤ 100 ∧ ret = .s t) :=
  holds_of (c := Try.f24.body.getD .skip) (k := k24.1) (ts := [2]) HOk mixedT hintT Try.func24 (by kernel_rfl) (by kernel_rfl) (by kernel_rfl) k24.2 (by kernel_rfl) (le_of 1 _ (by kernel_rfl)) (walk24 _ code (drC code hc))
theorem h26 (code : List UInt8) (hc : code.length ≤ 1048576) : HC 26 [.dat (bts code)] [] true (fun ret o' => o' = [] ∧ ∃ t : List UInt8, t.length ≤ 8 ∧ ret = .s t) :=
  holds_of (c := Try.f26.body.getD .skip) (k := k26.1) (ts := [2]) HOk mixedT hintT Try.func26 (by kernel_rfl) (by kernel_rfl) (by kernel_rfl) k26.2 (by kernel_rfl) (le_of 1 _ (by kernel_rfl)) (walk26 _ code (drC code hc))
theorem h23 (code : List UInt8) : HT 23 [.dat (bts code)] [] (.b (decide ((code.length : Int) > 1048576))) true [] :=
  holds_of (c := Try.f23.body.getD .skip) (k := k23.1) (ts := [2]) HOk mixedT hintT Try.func23 (by kernel_rfl) (by kernel_rfl) (by kernel_rfl) k23.2 (by kernel_rfl) (le_of 1 _ (by kernel_rfl)) (walk23 _ code)
theorem walk25 (C : Con) (a b : List (List UInt8)) (ha : a.length ≤ 1048576) : RunK C k25.1 (.done (Fin [4] [] (.b (a == b)) true [])) (slots0 [.dat (txt a), .dat (txt b)]) (objs []) 1 := walk20 C a b ha
theorem h25 (a b : List (List UInt8)) (ha : a.length ≤ 1048576) : HT 25 [.dat (txt a), .dat (txt b)] [] (.b (a == b)) true [] :=
  holds_of (c := Try.f25.body.getD .skip) (k := k25.1) (ts := [4]) HOk mixedT hintT Try.func25 (by kernel_rfl) (by kernel_rfl) (by kernel_rfl) k25.2 (by kernel_rfl) (le_of 2 _ (by kernel_rfl)) (walk25 _ a b ha)
theorem h5 (code : List UInt8) : HT 5 [.dat (bts code)] [] (.b true) true [] :=
  holds_of (c := Try.f5.body.getD .skip) (k := k5.1) (ts := [2]) HOk mixedT hintT Try.func5 (by kernel_rfl) (by kernel_rfl) (by kernel_rfl) k5.2 (by kernel_rfl) (le_of 1 _ (by kernel_rfl)) (walk5 _ code ⟨h17, h18, h19, h25, h23 code, h24 code, h26 code⟩)
end FrA
