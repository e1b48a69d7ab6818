/- What each function of the numbers of two and of four bytes computes: a contract a function. -/
import Derived.Test.YtldiamafbcopmaaRows
import Derived.Test.YtldiamafbcopmaaMathB
import Derived.WalkKit
import Derived.ProofKit
import Derived.Outline
import Derived.Lib.Hide
import Derived.Below
import Derived.WalkSmall
import Derived.Deep.QuietTactic
import Derived.BigQuiet
import Derived.WalkSpells
import Derived.WalkLawsBesides
namespace Go.Proofs.Ytldiamafbcopmaa
open Go.ChangeShapes Go.WideShapes Go.ChangeAt Go.RowKit
set_option linter.unusedVariables false
theorem w_ret2 {a b : Int} {c : Bool} (h : a = b) : Ending.returned (.tuple #[.int .i64 a, .bool c]) = .returned (.tuple #[.int .i64 b, .bool c]) := by rw [h]
theorem w_ret {k : IntKind} {a b : Int} (h : a = b) : Ending.returned (.int k a) = .returned (.int k b) := by rw [h]
theorem wget_yes (s : ByteArray) (k : Nat) (w : World) (h : k + 2 ≤ s.size) (hs : s.size ≤ 9223372036854775807) :
    Calls Try.prog 13 #[.string s, .int .i64 k] w fun e w' => e = .returned (.tuple #[.int .i64 (byteV s k * 256 + byteV s (k + 1)), .bool true]) ∧ Below w.heap.size w w' := by
  have h1 : k < s.size := by omega
  have h2 : k + 1 < s.size := by omega
  have g1 := wrap_byte
  have g2 := wrap_byte8
  have g3 := or_byte
  have p1 : IntKind.i64.wrap ((k : Int) + 1) = (k : Int) + 1 := wrap_in _ (by omega)
  have q1 : ((k : Int) + 1).toNat = k + 1 := by omega
  have r1 : (0 : Int) ≤ (k : Int) + 1 := by omega
  have t1 : ((k : Int) + 1) < (s.size : Int) := by omega
  go_enter Try.func13, Try.ntmps13
  go_wp2
  go_quiet (fail)
  go_wp2
  go_ret2
  exact ⟨w_ret2 (by rw [byteV_of s k h1, byteV_of s (k + 1) h2]), below_drewN (Below.refl _ _) _⟩
theorem wget_no (s : ByteArray) (n : Int) (w : World) (h : ¬ (0 ≤ n ∧ n ≤ (s.size : Int) - 2)) (hs : s.size ≤ 9223372036854775807) :
    Calls Try.prog 13 #[.string s, .int .i64 n] w fun e w' => e = .returned (.tuple #[.int .i64 0, .bool false]) ∧ Below w.heap.size w w' := by
  by_cases h0 : 0 ≤ n
  · have h1 : (s.size : Int) - 2 < n := by omega
    clear h
    go_enter Try.func13, Try.ntmps13
    go_wp2
    go_ret2
    exact ⟨rfl, Below.refl _ _⟩
  · clear h
    go_enter Try.func13, Try.ntmps13
    go_wp2
    go_ret2
    exact ⟨rfl, Below.refl _ _⟩
theorem l1at (s : ByteArray) (k : Nat) (w : World) (h : k + 2 ≤ s.size) (hs : s.size ≤ 9223372036854775807) :
    Calls Try.prog 27 #[.string s, .int .i64 k] w fun e w' => e = .returned (.int .i64 (byteV s k * 256 + byteV s (k + 1))) ∧ ∃ n, w' = w.drewN n := by
  have h1 : k < s.size := by omega
  have h2 : k + 1 < s.size := by omega
  have g1 := wrap_byte
  have g2 := wrap_byte8'
  have g3 := wrap_sum
  have p1 : IntKind.i64.wrap ((k : Int) + 1) = (k : Int) + 1 := wrap_in _ (by omega)
  have q1 : ((k : Int) + 1).toNat = k + 1 := by omega
  have r1 : (0 : Int) ≤ (k : Int) + 1 := by omega
  have t1 : ((k : Int) + 1) < (s.size : Int) := by omega
  go_enter Try.func27, Try.ntmps27
  go_wp2
  go_quiet (fail)
  go_wp2
  go_ret
  exact ⟨w_ret (by rw [← byteV_of s k h1, ← byteV_of s (k + 1) h2]; omega), _, rfl⟩
theorem l1at' (s : ByteArray) (n : Int) (k k1 : Nat) (w : World) (hn : n = (k : Int)) (hk : k + 1 = k1) (h : k + 2 ≤ s.size) (hs : s.size ≤ 9223372036854775807) :
    Calls Try.prog 27 #[.string s, .int .i64 n] w fun e w' => e = .returned (.int .i64 (byteV s k * 256 + byteV s k1)) ∧ ∃ n, w' = w.drewN n := by
  subst hn; subst hk; exact l1at s k w h hs
theorem swget_yes (s : ByteArray) (k : Nat) (w : World) (h : k + 2 ≤ s.size) (hs : s.size ≤ 9223372036854775807) :
    Calls Try.prog 14 #[.string s, .int .i64 k] w fun e w' => e = .returned (.tuple #[.int .i64 (byteV s k * 256 + byteV s (k + 1)), .bool true]) ∧ Below w.heap.size w w' := by
  have h1 : k < s.size := by omega
  have h2 : k + 1 < s.size := by omega
  go_enter Try.func14, Try.ntmps14
  go_wp2_with fail
  refine (l1at _ _ _ h hs).mono ?_
  rintro e w' ⟨rfl, nq, rfl⟩
  go_wp2_with fail
  go_ret2
  exact ⟨rfl, below_drewN (Below.refl _ _) _⟩
theorem swget_no (s : ByteArray) (n : Int) (w : World) (h : ¬ (0 ≤ n ∧ n ≤ (s.size : Int) - 2)) (hs : s.size ≤ 9223372036854775807) :
    Calls Try.prog 14 #[.string s, .int .i64 n] w fun e w' => e = .returned (.tuple #[.int .i64 0, .bool false]) ∧ Below w.heap.size w w' := by
  by_cases h0 : 0 ≤ n
  · have h1 : (s.size : Int) - 2 < n := by omega
    clear h
    go_enter Try.func14, Try.ntmps14
    go_wp2
    go_ret2
    exact ⟨rfl, Below.refl _ _⟩
  · clear h
    go_enter Try.func14, Try.ntmps14
    go_wp2
    go_ret2
    exact ⟨rfl, Below.refl _ _⟩
theorem lget_yes (s : ByteArray) (k : Nat) (w : World) (h : k + 4 ≤ s.size) (hs : s.size ≤ 9223372036854775807) :
    Calls Try.prog 19 #[.string s, .int .i64 k] w fun e w' => e = .returned (.tuple #[.int .i64 (byteV s k * 16777216 + byteV s (k + 1) * 65536 + byteV s (k + 2) * 256 + byteV s (k + 3)), .bool true]) ∧ Below w.heap.size w w' := by
  have h1 : k < s.size := by omega
  have h2 : k + 1 < s.size := by omega
  have h3 : k + 2 < s.size := by omega
  have h4 : k + 3 < s.size := by omega
  have g1 := wrap_byte
  have g2 := wrap_byte8
  have g3 := wrap_byte16
  have g4 := wrap_byte24
  have g5 := or_byte1
  have g6 := or_byte2
  have g7 := or_byte3
  have p1 : IntKind.i64.wrap ((k : Int) + 1) = (k : Int) + 1 := wrap_in _ (by omega)
  have q1 : ((k : Int) + 1).toNat = k + 1 := by omega
  have r1 : (0 : Int) ≤ (k : Int) + 1 := by omega
  have t1 : ((k : Int) + 1) < (s.size : Int) := by omega
  have p2 : IntKind.i64.wrap ((k : Int) + 2) = (k : Int) + 2 := wrap_in _ (by omega)
  have q2 : ((k : Int) + 2).toNat = k + 2 := by omega
  have r2 : (0 : Int) ≤ (k : Int) + 2 := by omega
  have t2 : ((k : Int) + 2) < (s.size : Int) := by omega
  have p3 : IntKind.i64.wrap ((k : Int) + 3) = (k : Int) + 3 := wrap_in _ (by omega)
  have q3 : ((k : Int) + 3).toNat = k + 3 := by omega
  have r3 : (0 : Int) ≤ (k : Int) + 3 := by omega
  have t3 : ((k : Int) + 3) < (s.size : Int) := by omega
  go_enter Try.func19, Try.ntmps19
  go_wp2
  go_quiet (fail)
  go_wp2
  go_ret2
  exact ⟨w_ret2 (by rw [byteV_of s k h1, byteV_of s (k + 1) h2, byteV_of s (k + 2) h3, byteV_of s (k + 3) h4]), below_drewN (Below.refl _ _) _⟩
theorem lget_no (s : ByteArray) (n : Int) (w : World) (h : ¬ (0 ≤ n ∧ n ≤ (s.size : Int) - 4)) (hs : s.size ≤ 9223372036854775807) :
    Calls Try.prog 19 #[.string s, .int .i64 n] w fun e w' => e = .returned (.tuple #[.int .i64 0, .bool false]) ∧ Below w.heap.size w w' := by
  by_cases h0 : 0 ≤ n
  · have h1 : (s.size : Int) - 4 < n := by omega
    clear h
    go_enter Try.func19, Try.ntmps19
    go_wp2
    go_ret2
    exact ⟨rfl, Below.refl _ _⟩
  · clear h
    go_enter Try.func19, Try.ntmps19
    go_wp2
    go_ret2
    exact ⟨rfl, Below.refl _ _⟩
theorem slget_no (s : ByteArray) (n : Int) (w : World) (h : ¬ (0 ≤ n ∧ n ≤ (s.size : Int) - 4)) (hs : s.size ≤ 9223372036854775807) :
    Calls Try.prog 20 #[.string s, .int .i64 n] w fun e w' => e = .returned (.tuple #[.int .i64 0, .bool false]) ∧ Below w.heap.size w w' := by
  by_cases h0 : 0 ≤ n
  · have h1 : (s.size : Int) - 4 < n := by omega
    clear h
    go_enter Try.func20, Try.ntmps20
    go_wp2
    go_ret2
    exact ⟨rfl, Below.refl _ _⟩
  · clear h
    go_enter Try.func20, Try.ntmps20
    go_wp2
    go_ret2
    exact ⟨rfl, Below.refl _ _⟩
set_option maxRecDepth 100000 in
theorem slget_yes (s : ByteArray) (k : Nat) (w : World) (h : k + 4 ≤ s.size) (hs : s.size ≤ 9223372036854775807) :
    Calls Try.prog 20 #[.string s, .int .i64 k] w fun e w' => e = .returned (.tuple #[.int .i64 (byteV s k * 16777216 + byteV s (k + 1) * 65536 + byteV s (k + 2) * 256 + byteV s (k + 3)), .bool true]) ∧ Below w.heap.size w w' := by
  have h1 : k < s.size := by omega
  have h2 : k + 1 < s.size := by omega
  have h3 : k + 2 < s.size := by omega
  have h4 : k + 3 < s.size := by omega
  obtain ⟨a0, a1⟩ := byteV_bd s k
  obtain ⟨b0, b1⟩ := byteV_bd s (k + 1)
  obtain ⟨c0, c1⟩ := byteV_bd s (k + 2)
  obtain ⟨d0, d1⟩ := byteV_bd s (k + 3)
  go_enter Try.func20, Try.ntmps20
  go_wp2_with fail
  refine (l1at' _ _ k (k + 1) _ rfl rfl (by omega) hs).mono ?_
  rintro e w' ⟨rfl, nq, rfl⟩
  go_wp2_with fail
  refine (l1at' _ _ (k + 2) (k + 3) _ (by omega) rfl (by omega) hs).mono ?_
  rintro e w' ⟨rfl, nq2, rfl⟩
  go_wp2_with fail
  go_ret2
  exact ⟨w_ret2 (by omega), below_drewN (Below.refl _ _) _⟩
theorem wput_yes (n : Int) (w : World) (h : 0 ≤ n) (h1 : n ≤ 65535) :
    Calls Try.prog 16 #[.int .i64 n] w fun e w' => e = .returned (.tuple #[.string (wordS n), .bool true]) ∧ Below w.heap.size w w' := by
  have hc := fun (x y : Int) (w : World) => conv_two (P := Try.prog) w 22 5 Try.underlying22 Try.underlying5 9 Try.underlying9 x y
  go_enter Try.func16, Try.ntmps16
  go_wp2
  go_ret2
  exact ⟨rfl, (Below.refl _ _).alloc (Nat.le_refl _) _⟩
theorem l1word (n : Int) (w : World) (h : 0 ≤ n) (h1 : n ≤ 65535) :
    Calls Try.prog 30 #[.int .i64 n] w fun e w' => e = .returned (.string (wordS n)) ∧ Below w.heap.size w w' := by
  have hc := fun (x y : Int) (w : World) => conv_two (P := Try.prog) w 22 5 Try.underlying22 Try.underlying5 9 Try.underlying9 x y
  go_enter Try.func30, Try.ntmps30
  go_wp2
  go_ret
  exact ⟨rfl, (Below.refl _ _).alloc (Nat.le_refl _) _⟩
theorem wput_no (n : Int) (w : World) (h : ¬ (0 ≤ n ∧ n ≤ 65535)) :
    Calls Try.prog 16 #[.int .i64 n] w fun e w' => e = .returned (.tuple #[.string ⟨#[]⟩, .bool false]) ∧ Below w.heap.size w w' := by
  by_cases h0 : 0 ≤ n
  · have h1 : 65535 < n := by omega
    clear h
    go_enter Try.func16, Try.ntmps16
    go_wp2
    go_ret2
    exact ⟨rfl, Below.refl _ _⟩
  · clear h
    go_enter Try.func16, Try.ntmps16
    go_wp2
    go_ret2
    exact ⟨rfl, Below.refl _ _⟩
theorem win_yes (n l h : Int) (w : World) (h0 : l ≤ n) (h1 : n ≤ h) : Calls Try.prog 29 #[.int .i64 n, .int .i64 l, .int .i64 h] w fun e w' => e = .returned (.bool true) ∧ w = w' := by
  go_enter Try.func29, Try.ntmps29
  go_wp2
  go_ret
  exact ⟨rfl, rfl⟩
theorem w_retb {a b : Bool} (h : a = b) : Ending.returned (.bool a) = .returned (.bool b) := by rw [h]
theorem win_no (n l h : Int) (w : World) (hh : ¬ (l ≤ n ∧ n ≤ h)) : Calls Try.prog 29 #[.int .i64 n, .int .i64 l, .int .i64 h] w fun e w' => e = .returned (.bool false) ∧ w = w' := by
  by_cases h0 : l ≤ n
  · have h1 : h < n := by omega
    clear hh
    go_enter Try.func29, Try.ntmps29
    go_wp2
    go_ret
    exact ⟨w_retb (decide_eq_false (by omega)), rfl⟩
  · clear hh
    go_enter Try.func29, Try.ntmps29
    go_wp2
    go_ret
    exact ⟨rfl, rfl⟩
theorem swput_no (n : Int) (w : World) (h : ¬ (0 ≤ n ∧ n ≤ 65535)) :
    Calls Try.prog 17 #[.int .i64 n] w fun e w' => e = .returned (.tuple #[.string ⟨#[]⟩, .bool false]) ∧ Below w.heap.size w w' := by
  go_enter Try.func17, Try.ntmps17
  go_wp2_with fail
  refine (win_no _ _ _ _ h).mono ?_
  rintro e w' ⟨rfl, rfl⟩
  go_wp2_with fail
  go_ret2
  exact ⟨rfl, Below.refl _ _⟩
theorem swput_yes (n : Int) (w : World) (h : 0 ≤ n) (h1 : n ≤ 65535) :
    Calls Try.prog 17 #[.int .i64 n] w fun e w' => e = .returned (.tuple #[.string (wordS n), .bool true]) ∧ Below w.heap.size w w' := by
  go_enter Try.func17, Try.ntmps17
  go_wp2_with fail
  refine (win_yes _ _ _ _ h h1).mono ?_
  rintro e w' ⟨rfl, rfl⟩
  go_wp2_with fail
  refine (l1word _ _ h h1).mono ?_
  rintro e w' ⟨rfl, hb⟩
  go_wp2_with fail
  go_ret2
  exact ⟨rfl, hb⟩
theorem lput_no (n : Int) (w : World) (h : ¬ (0 ≤ n ∧ n ≤ 4294967295)) :
    Calls Try.prog 22 #[.int .i64 n] w fun e w' => e = .returned (.tuple #[.string ⟨#[]⟩, .bool false]) ∧ Below w.heap.size w w' := by
  by_cases h0 : 0 ≤ n
  · have h1 : 4294967295 < n := by omega
    clear h
    go_enter Try.func22, Try.ntmps22
    go_wp2
    go_ret2
    exact ⟨rfl, Below.refl _ _⟩
  · clear h
    go_enter Try.func22, Try.ntmps22
    go_wp2
    go_ret2
    exact ⟨rfl, Below.refl _ _⟩
theorem w_rets {a b : ByteArray} {c : Bool} (h : a = b) : Ending.returned (.tuple #[.string a, .bool c]) = .returned (.tuple #[.string b, .bool c]) := by rw [h]
theorem lput_yes (n : Int) (w : World) (h : 0 ≤ n) (h1 : n ≤ 4294967295) :
    Calls Try.prog 22 #[.int .i64 n] w fun e w' => e = .returned (.tuple #[.string (longS n), .bool true]) ∧ Below w.heap.size w w' := by
  have hc := fun (x y z u : Int) (w : World) => conv_four (P := Try.prog) w 22 5 Try.underlying22 Try.underlying5 9 Try.underlying9 x y z u
  go_enter Try.func22, Try.ntmps22
  go_wp2
  go_ret2
  exact ⟨w_rets (by rw [longS_eq]), (Below.refl _ _).alloc (Nat.le_refl _) _⟩
theorem slput_no (n : Int) (w : World) (h : ¬ (0 ≤ n ∧ n ≤ 4294967295)) :
    Calls Try.prog 23 #[.int .i64 n] w fun e w' => e = .returned (.tuple #[.string ⟨#[]⟩, .bool false]) ∧ Below w.heap.size w w' := by
  go_enter Try.func23, Try.ntmps23
  go_wp2_with fail
  refine (win_no _ _ _ _ h).mono ?_
  rintro e w' ⟨rfl, rfl⟩
  go_wp2_with fail
  go_ret2
  exact ⟨rfl, Below.refl _ _⟩
theorem l1long (n : Int) (w : World) (h : 0 ≤ n) (h1 : n ≤ 4294967295) :
    Calls Try.prog 32 #[.int .i64 n] w fun e w' => e = .returned (.string (longS n)) ∧ Below w.heap.size w w' := by
  go_enter Try.func32, Try.ntmps32
  have s1 := wordS_size (n / 65536)
  have s2 := wordS_size (n % 65536)
  go_wp2_with fail
  refine (l1word _ _ (by omega) (by omega)).mono ?_
  rintro e w1 ⟨rfl, hb1⟩
  go_wp2_with fail
  refine (l1word _ _ (by omega) (by omega)).mono ?_
  rintro e w2 ⟨rfl, hb2⟩
  go_wp2_with fail
  go_ret
  exact ⟨rfl, hb1.trans (hb2.mono hb1.size)⟩
theorem slput_yes (n : Int) (w : World) (h : 0 ≤ n) (h1 : n ≤ 4294967295) :
    Calls Try.prog 23 #[.int .i64 n] w fun e w' => e = .returned (.tuple #[.string (longS n), .bool true]) ∧ Below w.heap.size w w' := by
  go_enter Try.func23, Try.ntmps23
  go_wp2_with fail
  refine (win_yes _ _ _ _ h h1).mono ?_
  rintro e w' ⟨rfl, rfl⟩
  go_wp2_with fail
  refine (l1long _ _ h h1).mono ?_
  rintro e w' ⟨rfl, hb⟩
  go_wp2_with fail
  go_ret2
  exact ⟨rfl, hb⟩
end Go.Proofs.Ytldiamafbcopmaa
