/- The walks of the laws on serial numbers: each returns true, and nothing that was there turns. -/
import Derived.Test.YtlppoodfghimkaaRows
import Derived.Test.YtlppoodfghimkaaWalkK
namespace Go.Proofs.Ytlppoodfghimkaa
open Go.ChangeShapes Go.WideShapes Go.ChangeAt Go.RowKit
set_option linter.unusedVariables false
theorem sAdd_yes (a n : Int) (h : 0 ≤ a ∧ a < 65536) : sAdd a n = (a + n) % 65536 := if_pos h
theorem sAdd_no (a n : Int) (h : ¬ (0 ≤ a ∧ a < 65536)) : sAdd a n = -1 := if_neg h
theorem sIn_self (a : Int) : sIn a a 1 = decide (0 ≤ a ∧ a < 65536) := by
  unfold sIn; rw [decide_eq_decide]; omega
theorem sIn_self_yes (a : Int) (h : 0 ≤ a ∧ a < 65536) : sIn a a 1 = true := by rw [sIn_self]; exact decide_eq_true h
theorem sIn_self_no (a : Int) (h : ¬ (0 ≤ a ∧ a < 65536)) : sIn a a 1 = false := by rw [sIn_self]; exact decide_eq_false h
theorem sDiff_yes (a b : Int) (ha : 0 ≤ a ∧ a < 65536) (hb : 0 ≤ b ∧ b < 65536) : sDiff a b = sRaw a b := if_pos ⟨ha, hb⟩
theorem sDiff_no (a b : Int) (h : ¬ ((0 ≤ a ∧ a < 65536) ∧ (0 ≤ b ∧ b < 65536))) : sDiff a b = -65536 := if_neg h
theorem sRaw_bd (a b : Int) : -32768 < sRaw a b ∧ sRaw a b ≤ 32768 := by unfold sRaw; split <;> omega
theorem sRaw_mod (a b : Int) : sRaw a b % 65536 = (b - a) % 65536 := by unfold sRaw; split <;> omega
theorem sRaw_of (a b d : Int) (h0 : -32768 < d) (h1 : d ≤ 32768) (h : d % 65536 = (b - a) % 65536) : sRaw a b = d := by
  have h2 := sRaw_bd a b
  have h3 := sRaw_mod a b
  omega
theorem sDiff_bd (a b : Int) : -65536 ≤ sDiff a b ∧ sDiff a b ≤ 32768 := by
  by_cases h : (0 ≤ a ∧ a < 65536) ∧ (0 ≤ b ∧ b < 65536)
  · rw [sDiff_yes a b h.1 h.2]; have := sRaw_bd a b; omega
  · rw [sDiff_no a b h]; omega
theorem sAdd_bd (a n : Int) : -1 ≤ sAdd a n ∧ sAdd a n ≤ 65535 := by
  unfold sAdd; split <;> omega
set_option maxRecDepth 100000 in
theorem FnSerialAdd_walk (a0 : Option Addr) (len0 cap0 : Nat) (w : World) (hc : CodeOf w a0 len0 cap0) :
    Calls Try.prog 3 #[.slice a0 len0 cap0] w fun e w' => e = .returned (.bool true) ∧ Below w.heap.size w w' := by
  by_cases hl : 1048576 < len0
  · have hl' : (1048576 : Int) < (len0 : Int) := by omega
    go_enter Try.func3, Try.ntmps3
    go_wp2_with fail
    go_ret
    exact ⟨rfl, Below.refl _ _⟩
  · have hl' : (len0 : Int) ≤ 1048576 := by omega
    clear hl
    go_enter Try.func3, Try.ntmps3
    go_wp2_with fail
    refine (drawSerialAdd _ _ _ _ hc).mono ?_
    rintro e w1 ⟨x, n, rfl, x0, x1, n0, n1, hb⟩
    go_wp2_with fail
    refine (addImpl _ _ _).mono ?_
    rintro e w2 ⟨rfl, rfl⟩
    go_wp2_with fail
    refine (addSpec _ _ _).mono ?_
    rintro e w2 ⟨rfl, rfl⟩
    by_cases hx : 0 ≤ x ∧ x < 65536
    case neg =>
      rw [sAdd_no x n hx]
      go_wp2_with fail
      go_ret
      exact ⟨q_retb (by first | rfl | (simp; done) | (simp; omega)), hb⟩
    rw [sAdd_yes x n hx]
    have hr : sAdd ((x + n) % 65536) (-n) = x := by rw [sAdd_yes _ _ (by omega)]; omega
    have HR := Lib.hid hr
    clear hr hx
    go_wp2_with fail
    refine (addImpl _ _ _).mono ?_
    rintro e w2 ⟨rfl, rfl⟩
    rw [HR.out]
    go_wp2_with fail
    go_ret
    exact ⟨q_retb (by first | rfl | (simp; done) | (simp; omega)), hb⟩
set_option maxRecDepth 100000 in
theorem FnSerialAddBad_walk (a0 : Option Addr) (len0 cap0 : Nat) (w : World) (hc : CodeOf w a0 len0 cap0) :
    Calls Try.prog 4 #[.slice a0 len0 cap0] w fun e w' => e = .returned (.bool true) ∧ Below w.heap.size w w' := by
  by_cases hl : 1048576 < len0
  · have hl' : (1048576 : Int) < (len0 : Int) := by omega
    go_enter Try.func4, Try.ntmps4
    go_wp2_with fail
    go_ret
    exact ⟨rfl, Below.refl _ _⟩
  · have hl' : (len0 : Int) ≤ 1048576 := by omega
    clear hl
    go_enter Try.func4, Try.ntmps4
    go_wp2_with fail
    refine (drawSerialAdd _ _ _ _ hc).mono ?_
    rintro e w1 ⟨x, n, rfl, x0, x1, n0, n1, hb⟩
    go_wp2_with fail
    refine (addImpl _ _ _).mono ?_
    rintro e w2 ⟨rfl, rfl⟩
    go_wp2_with fail
    refine (addSpec _ _ _).mono ?_
    rintro e w2 ⟨rfl, rfl⟩
    by_cases hx : 0 ≤ x ∧ x < 65536
    case neg =>
      rw [sAdd_no x n hx]
      go_wp2_with fail
      all_goals go_ret
      all_goals exact ⟨q_retb (by first | rfl | (simp; done) | (simp; omega)), hb⟩
    rw [sAdd_yes x n hx]
    have h1 : ((x + n) % 65536 == -1) = false := by rw [beq_eq_false_iff_ne]; omega
    obtain ⟨hx0, hx1⟩ := hx
    go_wp2_with fail
    all_goals go_ret
    all_goals exact ⟨q_retb (by first | rfl | (simp; done) | (simp; omega)), hb⟩
set_option maxRecDepth 100000 in
theorem FnSerialAddSize_walk (a0 : Option Addr) (len0 cap0 : Nat) (w : World) (hc : CodeOf w a0 len0 cap0) :
    Calls Try.prog 5 #[.slice a0 len0 cap0] w fun e w' => e = .returned (.bool true) ∧ Below w.heap.size w w' := by
  by_cases hl : 1048576 < len0
  · have hl' : (1048576 : Int) < (len0 : Int) := by omega
    go_enter Try.func5, Try.ntmps5
    go_wp2_with fail
    go_ret
    exact ⟨rfl, Below.refl _ _⟩
  · have hl' : (len0 : Int) ≤ 1048576 := by omega
    clear hl
    go_enter Try.func5, Try.ntmps5
    go_wp2_with fail
    refine (drawSerialAdd _ _ _ _ hc).mono ?_
    rintro e w1 ⟨x, n, rfl, x0, x1, n0, n1, hb⟩
    go_wp2_with fail
    refine (addImpl _ _ _).mono ?_
    rintro e w2 ⟨rfl, rfl⟩
    go_wp2_with fail
    refine (addSpec _ _ _).mono ?_
    rintro e w2 ⟨rfl, rfl⟩
    by_cases hx : 0 ≤ x ∧ x < 65536
    case neg =>
      rw [sAdd_no x n hx]
      have h1 := Lib.hid (sAdd_no x (n + 65536) hx)
      have h2 := Lib.hid (sAdd_no x (n - 65536) hx)
      clear hx
      go_wp2_with fail
      refine (addImpl _ _ _).mono ?_
      rintro e w2 ⟨rfl, rfl⟩
      rw [h1.out]
      go_wp2_with fail
      refine (addImpl _ _ _).mono ?_
      rintro e w2 ⟨rfl, rfl⟩
      rw [h2.out]
      go_wp2_with fail
      go_ret
      exact ⟨q_retb (by first | rfl | (simp; done) | (simp; omega)), hb⟩
    rw [sAdd_yes x n hx]
    have h1 := Lib.hid (show sAdd x (n + 65536) = (x + n) % 65536 by rw [sAdd_yes _ _ hx]; omega)
    have h2 := Lib.hid (show sAdd x (n - 65536) = (x + n) % 65536 by rw [sAdd_yes _ _ hx]; omega)
    clear hx
    go_wp2_with fail
    refine (addImpl _ _ _).mono ?_
    rintro e w2 ⟨rfl, rfl⟩
    rw [h1.out]
    go_wp2_with fail
    refine (addImpl _ _ _).mono ?_
    rintro e w2 ⟨rfl, rfl⟩
    rw [h2.out]
    go_wp2_with fail
    go_ret
    exact ⟨q_retb (by first | rfl | (simp; done) | (simp; omega)), hb⟩
set_option maxRecDepth 100000 in
theorem FnSerialAddSum_walk (a0 : Option Addr) (len0 cap0 : Nat) (a1 : Option Addr) (len1 cap1 : Nat) (w : World) (hc : CodeOf w a0 len0 cap0) :
    Calls Try.prog 6 #[.slice a0 len0 cap0, .slice a1 len1 cap1] w fun e w' => e = .returned (.bool true) ∧ Below w.heap.size w w' := by
  by_cases hl : 1048576 < len0
  · have hl' : (1048576 : Int) < (len0 : Int) := by omega
    go_enter Try.func6, Try.ntmps6
    go_wp2_with fail
    go_ret
    exact ⟨rfl, Below.refl _ _⟩
  by_cases hm : 1048576 < len1
  · have hl' : (len0 : Int) ≤ 1048576 := by omega
    have hm' : (1048576 : Int) < (len1 : Int) := by omega
    clear hl
    go_enter Try.func6, Try.ntmps6
    go_wp2_with fail
    go_ret
    exact ⟨rfl, Below.refl _ _⟩
  · have hl' : (len0 : Int) ≤ 1048576 := by omega
    have hm' : (len1 : Int) ≤ 1048576 := by omega
    clear hl hm
    go_enter Try.func6, Try.ntmps6
    go_wp2_with fail
    refine (drawSerialAdd _ _ _ _ hc).mono ?_
    rintro e w1 ⟨x, n, rfl, x0, x1, n0, n1, hb⟩
    go_wp2_with fail
    refine (addImpl _ _ _).mono ?_
    rintro e w2 ⟨rfl, rfl⟩
    go_wp2_with fail
    refine (addSpec _ _ _).mono ?_
    rintro e w2 ⟨rfl, rfl⟩
    by_cases hx : 0 ≤ x ∧ x < 65536
    case neg =>
      rw [sAdd_no x n hx]
      go_wp2_with fail
      go_ret
      exact ⟨q_retb (by first | rfl | (simp; done) | (simp; omega)), hb⟩
    rw [sAdd_yes x n hx]
    obtain ⟨k, hk, hk9⟩ : ∃ k : Nat, (len1 : Int) % 1000 = (k : Int) ∧ k ≤ 999 := ⟨len1 % 1000, by simp, by omega⟩
    have h1 := Lib.hid (show sAdd ((x + n) % 65536) (k : Int) = (x + n + (k : Int)) % 65536 by rw [sAdd_yes _ _ (by omega)]; omega)
    have h2 := Lib.hid (show sAdd x (n + (k : Int)) = (x + n + (k : Int)) % 65536 by rw [sAdd_yes _ _ hx]; omega)
    clear hx
    go_wp2_with fail
    refine (addImpl _ _ _).mono ?_
    rintro e w2 ⟨rfl, rfl⟩
    rw [h1.out]
    go_wp2_with fail
    refine (addImpl _ _ _).mono ?_
    rintro e w2 ⟨rfl, rfl⟩
    rw [h2.out]
    go_wp2_with fail
    go_ret
    exact ⟨q_retb (by first | rfl | (simp; done) | (simp; omega)), hb⟩
set_option maxRecDepth 100000 in
theorem FnSerialIn_walk (a0 : Option Addr) (len0 cap0 : Nat) (w : World) (hc : CodeOf w a0 len0 cap0) :
    Calls Try.prog 8 #[.slice a0 len0 cap0] w fun e w' => e = .returned (.bool true) ∧ Below w.heap.size w w' := by
  by_cases hl : 1048576 < len0
  · have hl' : (1048576 : Int) < (len0 : Int) := by omega
    go_enter Try.func8, Try.ntmps8
    go_wp2_with fail
    go_ret
    exact ⟨rfl, Below.refl _ _⟩
  · have hl' : (len0 : Int) ≤ 1048576 := by omega
    clear hl
    go_enter Try.func8, Try.ntmps8
    go_wp2_with fail
    refine (drawSerialIn _ _ _ _ hc).mono ?_
    rintro e w1 ⟨x, y, m, rfl, ⟨x0, x1⟩, ⟨y0, y1⟩, ⟨m0, m1⟩, hb⟩
    go_wp2_with fail
    refine (inImpl _ _ _ _ (by omega)).mono ?_
    rintro e w2 ⟨rfl, rfl⟩
    go_wp2_with fail
    refine (inSpec _ _ _ _).mono ?_
    rintro e w2 ⟨rfl, rfl⟩
    by_cases hx : 0 ≤ x ∧ x < 65536
    case neg =>
      have h1 := Lib.hid (sIn_self_no x hx)
      clear hx
      generalize sIn x y m = b
      cases b
      all_goals
        go_wp2_with fail
        refine (inSpec _ _ _ _).mono ?_
        rintro e w2 ⟨rfl, rfl⟩
        rw [h1.out]
        go_wp2_with fail
        go_ret
        exact ⟨rfl, hb⟩
    by_cases hy : 0 ≤ y ∧ y < 65536
    case neg =>
      have h1 := Lib.hid (sIn_self_yes x hx)
      have h2 := Lib.hid (sIn_self_no y hy)
      clear hx hy
      generalize sIn x y m = b
      cases b
      all_goals
        go_wp2_with fail
        refine (inSpec _ _ _ _).mono ?_
        rintro e w2 ⟨rfl, rfl⟩
        rw [h1.out]
        go_wp2_with fail
        refine (inSpec _ _ _ _).mono ?_
        rintro e w2 ⟨rfl, rfl⟩
        rw [h2.out]
        go_wp2_with fail
        go_ret
        exact ⟨rfl, hb⟩
    have h1 := Lib.hid (sIn_self_yes x hx)
    have h2 := Lib.hid (sIn_self_yes y hy)
    by_cases hm : 0 ≤ m ∧ m ≤ 32768
    case neg =>
      clear hx hy
      by_cases hm0 : 0 ≤ m
      · have hm2 : 32768 < m := by omega
        clear hm
        generalize sIn x y m = b
        cases b
        all_goals
          go_wp2_with fail
          refine (inSpec _ _ _ _).mono ?_
          rintro e w2 ⟨rfl, rfl⟩
          rw [h1.out]
          go_wp2_with fail
          refine (inSpec _ _ _ _).mono ?_
          rintro e w2 ⟨rfl, rfl⟩
          rw [h2.out]
          go_wp2_with fail
          go_ret
          exact ⟨rfl, hb⟩
      · have hm2 : m < 0 := by omega
        clear hm
        generalize sIn x y m = b
        cases b
        all_goals
          go_wp2_with fail
          refine (inSpec _ _ _ _).mono ?_
          rintro e w2 ⟨rfl, rfl⟩
          rw [h1.out]
          go_wp2_with fail
          refine (inSpec _ _ _ _).mono ?_
          rintro e w2 ⟨rfl, rfl⟩
          rw [h2.out]
          go_wp2_with fail
          go_ret
          exact ⟨rfl, hb⟩
    have h3 := Lib.hid (sDiff_yes y x hy hx)
    have h4 : sIn x y m = decide ((x - y) % 65536 < m) := by unfold sIn; rw [decide_eq_decide]; omega
    have b1 := sRaw_bd y x
    have b2 := Lib.hid (sRaw_mod y x)
    rw [h4]
    obtain ⟨hm0, hm1⟩ := hm
    clear hx hy h4
    by_cases hq : (x - y) % 65536 < m
    · rw [decide_eq_true hq]
      have hd : 0 ≤ sRaw y x ∧ sRaw y x < m := by have := b2.out; omega
      obtain ⟨d0, d1⟩ := hd
      clear hq
      go_wp2_with fail
      refine (inSpec _ _ _ _).mono ?_
      rintro e w2 ⟨rfl, rfl⟩
      rw [h1.out]
      go_wp2_with fail
      refine (inSpec _ _ _ _).mono ?_
      rintro e w2 ⟨rfl, rfl⟩
      rw [h2.out]
      go_wp2_with fail
      refine (diffImpl _ _ _).mono ?_
      rintro e w2 ⟨rfl, rfl⟩
      rw [h3.out]
      go_wp2_with fail
      all_goals go_ret
      all_goals exact ⟨q_retb (by first | rfl | (simp; done) | (simp; omega)), hb⟩
    · rw [decide_eq_false hq]
      have hd : ¬ (0 ≤ sRaw y x ∧ sRaw y x < m) := by have := b2.out; omega
      have HD := Lib.hid hd
      clear hq hd
      go_wp2_with fail
      refine (inSpec _ _ _ _).mono ?_
      rintro e w2 ⟨rfl, rfl⟩
      rw [h1.out]
      go_wp2_with fail
      refine (inSpec _ _ _ _).mono ?_
      rintro e w2 ⟨rfl, rfl⟩
      rw [h2.out]
      go_wp2_with fail
      refine (diffImpl _ _ _).mono ?_
      rintro e w2 ⟨rfl, rfl⟩
      rw [h3.out]
      go_wp2_with fail
      all_goals go_ret
      all_goals exact ⟨q_retb (by have := HD.out; first | rfl | (simp; done) | (simp; omega)), hb⟩
set_option maxRecDepth 100000 in
theorem FnSerialInEnds_walk (a0 : Option Addr) (len0 cap0 : Nat) (w : World) (hc : CodeOf w a0 len0 cap0) :
    Calls Try.prog 7 #[.slice a0 len0 cap0] w fun e w' => e = .returned (.bool true) ∧ Below w.heap.size w w' := by
  by_cases hl : 1048576 < len0
  · have hl' : (1048576 : Int) < (len0 : Int) := by omega
    go_enter Try.func7, Try.ntmps7
    go_wp2_with fail
    go_ret
    exact ⟨rfl, Below.refl _ _⟩
  · have hl' : (len0 : Int) ≤ 1048576 := by omega
    clear hl
    go_enter Try.func7, Try.ntmps7
    go_wp2_with fail
    refine (drawSerialIn _ _ _ _ hc).mono ?_
    rintro e w1 ⟨x, y, m, rfl, ⟨x0, x1⟩, ⟨y0, y1⟩, ⟨m0, m1⟩, hb⟩
    go_wp2_with fail
    refine (inImpl _ _ _ _ (by omega)).mono ?_
    rintro e w2 ⟨rfl, rfl⟩
    go_wp2_with fail
    refine (inSpec _ _ _ _).mono ?_
    rintro e w2 ⟨rfl, rfl⟩
    by_cases ho : sIn x y m = true
    case neg =>
      rw [show sIn x y m = false by simpa using ho]
      clear ho
      go_wp2_with fail
      go_ret
      exact ⟨rfl, hb⟩
    have hp : ((0 ≤ x ∧ x < 65536) ∧ (0 ≤ y ∧ y < 65536)) ∧ (0 ≤ m ∧ m ≤ 32768) ∧ (x - y) % 65536 < m := of_decide_eq_true ho
    rw [ho]
    have s0 := sAdd_bd y m
    have s1 := sAdd_bd y (m - 1)
    have h1 := Lib.hid (show sIn y y m = true by unfold sIn; rw [decide_eq_true_eq]; omega)
    have h2 := Lib.hid (show sIn (sAdd y m) y m = false by rw [sAdd_yes y m hp.1.2]; unfold sIn; rw [decide_eq_false_iff_not]; omega)
    have h3 := Lib.hid (show sIn (sAdd y (m - 1)) y m = true by rw [sAdd_yes y (m - 1) hp.1.2]; unfold sIn; rw [decide_eq_true_eq]; omega)
    clear ho hp
    go_wp2_with fail
    refine (inImpl _ _ _ _ (by omega)).mono ?_
    rintro e w2 ⟨rfl, rfl⟩
    rw [h1.out]
    go_wp2_with fail
    refine (addImpl _ _ _).mono ?_
    rintro e w2 ⟨rfl, rfl⟩
    go_wp2_with fail
    refine (inImpl _ _ _ _ (by omega)).mono ?_
    rintro e w2 ⟨rfl, rfl⟩
    rw [h2.out]
    go_wp2_with fail
    refine (addImpl _ _ _).mono ?_
    rintro e w2 ⟨rfl, rfl⟩
    go_wp2_with fail
    refine (inImpl _ _ _ _ (by omega)).mono ?_
    rintro e w2 ⟨rfl, rfl⟩
    rw [h3.out]
    go_wp2_with fail
    go_ret
    exact ⟨rfl, hb⟩
end Go.Proofs.Ytlppoodfghimkaa
