/- The walks of the laws on distances of serial numbers: each returns true, and nothing that was there turns. -/
import Derived.Test.YtekcnebcflpibaaRows
import Derived.Test.YtekcnebcflpibaaWalkK
namespace Go.Proofs.Ytekcnebcflpibaa
open Go.ChangeShapes Go.WideShapes Go.ChangeAt Go.RowKit
set_option linter.unusedVariables false
theorem sAdd_yes (a n : Int) (h : 0 ≤ a ∧ a < 65536) : sAdd a n = (a + n) % 65536 := if_pos h
theorem sAdd_no (a n : Int) (h : ¬ (0 ≤ a ∧ a < 65536)) : sAdd a n = -1 := if_neg h
theorem sIn_self (a : Int) : sIn a a 1 = decide (0 ≤ a ∧ a < 65536) := by
  unfold sIn; rw [decide_eq_decide]; omega
theorem sIn_self_yes (a : Int) (h : 0 ≤ a ∧ a < 65536) : sIn a a 1 = true := by rw [sIn_self]; exact decide_eq_true h
theorem sIn_self_no (a : Int) (h : ¬ (0 ≤ a ∧ a < 65536)) : sIn a a 1 = false := by rw [sIn_self]; exact decide_eq_false h
theorem sDiff_yes (a b : Int) (ha : 0 ≤ a ∧ a < 65536) (hb : 0 ≤ b ∧ b < 65536) : sDiff a b = sRaw a b := if_pos ⟨ha, hb⟩
theorem sDiff_no (a b : Int) (h : ¬ ((0 ≤ a ∧ a < 65536) ∧ (0 ≤ b ∧ b < 65536))) : sDiff a b = -65536 := if_neg h
theorem sRaw_bd (a b : Int) : -32768 < sRaw a b ∧ sRaw a b ≤ 32768 := by unfold sRaw; split <;> omega
theorem sRaw_mod (a b : Int) : sRaw a b % 65536 = (b - a) % 65536 := by unfold sRaw; split <;> omega
theorem sRaw_of (a b d : Int) (h0 : -32768 < d) (h1 : d ≤ 32768) (h : d % 65536 = (b - a) % 65536) : sRaw a b = d := by
  have h2 := sRaw_bd a b
  have h3 := sRaw_mod a b
  omega
theorem sDiff_bd (a b : Int) : -65536 ≤ sDiff a b ∧ sDiff a b ≤ 32768 := by
  by_cases h : (0 ≤ a ∧ a < 65536) ∧ (0 ≤ b ∧ b < 65536)
  · rw [sDiff_yes a b h.1 h.2]; have := sRaw_bd a b; omega
  · rw [sDiff_no a b h]; omega
theorem sAdd_bd (a n : Int) : -1 ≤ sAdd a n ∧ sAdd a n ≤ 65535 := by
  unfold sAdd; split <;> omega
theorem sLess_def (a b : Int) : sLess a b = decide (1 ≤ sDiff a b ∧ sDiff a b < 32768) := rfl
theorem sRaw_back (a b : Int) : sRaw b a = if sRaw a b = 32768 then 32768 else - sRaw a b := by
  have h1 := sRaw_bd a b
  have h2 := sRaw_mod a b
  split
  · exact sRaw_of _ _ _ (by omega) (by omega) (by omega)
  · exact sRaw_of _ _ _ (by omega) (by omega) (by omega)
set_option maxRecDepth 100000 in
theorem FnSerialDiff_walk (a0 : Option Addr) (len0 cap0 : Nat) (w : World) (hc : CodeOf w a0 len0 cap0) :
    Calls Try.prog 6 #[.slice a0 len0 cap0] w fun e w' => e = .returned (.bool true) ∧ Below w.heap.size w w' := by
  by_cases hl : 1048576 < len0
  · have hl' : (1048576 : Int) < (len0 : Int) := by omega
    go_enter Try.func6, Try.ntmps6
    go_wp2_with fail
    go_ret
    exact ⟨rfl, Below.refl _ _⟩
  · have hl' : (len0 : Int) ≤ 1048576 := by omega
    clear hl
    go_enter Try.func6, Try.ntmps6
    go_wp2_with fail
    refine (drawSerialDiff _ _ _ _ hc).mono ?_
    rintro e w1 ⟨x, y, rfl, x0, x1, y0, y1, hb⟩
    go_wp2_with fail
    refine (diffImpl _ _ _).mono ?_
    rintro e w2 ⟨rfl, rfl⟩
    go_wp2_with fail
    refine (diffSpec _ _ _).mono ?_
    rintro e w2 ⟨rfl, rfl⟩
    by_cases hx : 0 ≤ x ∧ x < 65536
    case neg =>
      have h1 := Lib.hid (sIn_self_no x hx)
      clear hx
      generalize sDiff x y = d
      go_wp2_with fail
      refine (inSpec _ _ _ _).mono ?_
      rintro e w2 ⟨rfl, rfl⟩
      rw [h1.out]
      go_wp2_with fail
      go_ret
      exact ⟨rfl, hb⟩
    by_cases hy : 0 ≤ y ∧ y < 65536
    case neg =>
      have h1 := Lib.hid (sIn_self_yes x hx)
      have h2 := Lib.hid (sIn_self_no y hy)
      clear hx hy
      generalize sDiff x y = d
      go_wp2_with fail
      refine (inSpec _ _ _ _).mono ?_
      rintro e w2 ⟨rfl, rfl⟩
      rw [h1.out]
      go_wp2_with fail
      refine (inSpec _ _ _ _).mono ?_
      rintro e w2 ⟨rfl, rfl⟩
      rw [h2.out]
      go_wp2_with fail
      go_ret
      exact ⟨rfl, hb⟩
    have h1 := Lib.hid (sIn_self_yes x hx)
    have h2 := Lib.hid (sIn_self_yes y hy)
    have b1 := sRaw_bd x y
    have b2 := Lib.hid (sRaw_mod x y)
    rw [sDiff_yes x y hx hy]
    have h3 := Lib.hid (show sAdd x (sRaw x y) = y by rw [sAdd_yes x _ hx]; have := b2.out; omega)
    clear hx hy
    go_wp2_with fail
    refine (inSpec _ _ _ _).mono ?_
    rintro e w2 ⟨rfl, rfl⟩
    rw [h1.out]
    go_wp2_with fail
    refine (inSpec _ _ _ _).mono ?_
    rintro e w2 ⟨rfl, rfl⟩
    rw [h2.out]
    go_wp2_with fail
    refine (addImpl _ _ _).mono ?_
    rintro e w2 ⟨rfl, rfl⟩
    rw [h3.out]
    go_wp2_with fail
    all_goals go_ret
    all_goals exact ⟨q_retb (by first | rfl | (simp; done) | (simp; omega)), hb⟩
set_option maxRecDepth 100000 in
theorem FnSerialDiffBack_walk (a0 : Option Addr) (len0 cap0 : Nat) (w : World) (hc : CodeOf w a0 len0 cap0) :
    Calls Try.prog 3 #[.slice a0 len0 cap0] w fun e w' => e = .returned (.bool true) ∧ Below w.heap.size w w' := by
  by_cases hl : 1048576 < len0
  · have hl' : (1048576 : Int) < (len0 : Int) := by omega
    go_enter Try.func3, Try.ntmps3
    go_wp2_with fail
    go_ret
    exact ⟨rfl, Below.refl _ _⟩
  · have hl' : (len0 : Int) ≤ 1048576 := by omega
    clear hl
    go_enter Try.func3, Try.ntmps3
    go_wp2_with fail
    refine (drawSerialDiff _ _ _ _ hc).mono ?_
    rintro e w1 ⟨x, y, rfl, x0, x1, y0, y1, hb⟩
    go_wp2_with fail
    refine (diffImpl _ _ _).mono ?_
    rintro e w2 ⟨rfl, rfl⟩
    go_wp2_with fail
    refine (diffSpec _ _ _).mono ?_
    rintro e w2 ⟨rfl, rfl⟩
    by_cases hx : 0 ≤ x ∧ x < 65536
    case neg =>
      have h1 := Lib.hid (sIn_self_no x hx)
      clear hx
      generalize sDiff x y = d
      go_wp2_with fail
      refine (inSpec _ _ _ _).mono ?_
      rintro e w2 ⟨rfl, rfl⟩
      rw [h1.out]
      go_wp2_with fail
      go_ret
      exact ⟨rfl, hb⟩
    by_cases hy : 0 ≤ y ∧ y < 65536
    case neg =>
      have h1 := Lib.hid (sIn_self_yes x hx)
      have h2 := Lib.hid (sIn_self_no y hy)
      clear hx hy
      generalize sDiff x y = d
      go_wp2_with fail
      refine (inSpec _ _ _ _).mono ?_
      rintro e w2 ⟨rfl, rfl⟩
      rw [h1.out]
      go_wp2_with fail
      refine (inSpec _ _ _ _).mono ?_
      rintro e w2 ⟨rfl, rfl⟩
      rw [h2.out]
      go_wp2_with fail
      go_ret
      exact ⟨rfl, hb⟩
    have h1 := Lib.hid (sIn_self_yes x hx)
    have h2 := Lib.hid (sIn_self_yes y hy)
    have b1 := sRaw_bd x y
    have b2 := Lib.hid (sRaw_mod x y)
    rw [sDiff_yes x y hx hy]
    have h3 := Lib.hid (show sDiff y x = if sRaw x y = 32768 then 32768 else - sRaw x y by rw [sDiff_yes y x hy hx, sRaw_back x y])
    clear hx hy
    by_cases hh : sRaw x y = 32768
    case pos =>
      have h4 := Lib.hid (show sDiff y x = 32768 by rw [h3.out, if_pos hh])
      rw [hh]
      clear hh h3 b1 b2
      go_wp2_with fail
      refine (inSpec _ _ _ _).mono ?_
      rintro e w2 ⟨rfl, rfl⟩
      rw [h1.out]
      go_wp2_with fail
      refine (inSpec _ _ _ _).mono ?_
      rintro e w2 ⟨rfl, rfl⟩
      rw [h2.out]
      go_wp2_with fail
      refine (diffImpl _ _ _).mono ?_
      rintro e w2 ⟨rfl, rfl⟩
      rw [h4.out]
      go_wp2_with fail
      go_ret
      exact ⟨q_retb (by first | rfl | (simp; done) | (simp; omega)), hb⟩
    have h4 := Lib.hid (show sDiff y x = - sRaw x y by rw [h3.out, if_neg hh])
    have hf : (sRaw x y == 32768) = false := beq_eq_false_iff_ne.2 hh
    clear hh h3
    go_wp2_with fail
    refine (inSpec _ _ _ _).mono ?_
    rintro e w2 ⟨rfl, rfl⟩
    rw [h1.out]
    go_wp2_with fail
    refine (inSpec _ _ _ _).mono ?_
    rintro e w2 ⟨rfl, rfl⟩
    rw [h2.out]
    go_wp2_with fail
    refine (diffImpl _ _ _).mono ?_
    rintro e w2 ⟨rfl, rfl⟩
    rw [h4.out]
    go_wp2_with fail
    go_ret
    exact ⟨q_retb (by first | rfl | (simp; done) | (simp; omega)), hb⟩
set_option maxRecDepth 100000 in
theorem FnSerialDiffAdd_walk (a0 : Option Addr) (len0 cap0 : Nat) (a1 : Option Addr) (len1 cap1 : Nat) (w : World) (hc : CodeOf w a0 len0 cap0) :
    Calls Try.prog 7 #[.slice a0 len0 cap0, .slice a1 len1 cap1] w fun e w' => e = .returned (.bool true) ∧ Below w.heap.size w w' := by
  by_cases hl : 1048576 < len0
  · have hl' : (1048576 : Int) < (len0 : Int) := by omega
    go_enter Try.func7, Try.ntmps7
    go_wp2_with fail
    go_ret
    exact ⟨rfl, Below.refl _ _⟩
  by_cases hm : 1048576 < len1
  · have hl' : (len0 : Int) ≤ 1048576 := by omega
    have hm' : (1048576 : Int) < (len1 : Int) := by omega
    clear hl
    go_enter Try.func7, Try.ntmps7
    go_wp2_with fail
    go_ret
    exact ⟨rfl, Below.refl _ _⟩
  · have hl' : (len0 : Int) ≤ 1048576 := by omega
    have hm' : (len1 : Int) ≤ 1048576 := by omega
    clear hl hm
    go_enter Try.func7, Try.ntmps7
    go_wp2_with fail
    refine (drawSerialDiff _ _ _ _ hc).mono ?_
    rintro e w1 ⟨x, y, rfl, x0, x1, y0, y1, hb⟩
    go_wp2_with fail
    refine (diffImpl _ _ _).mono ?_
    rintro e w2 ⟨rfl, rfl⟩
    go_wp2_with fail
    refine (diffSpec _ _ _).mono ?_
    rintro e w2 ⟨rfl, rfl⟩
    by_cases hx : 0 ≤ x ∧ x < 65536
    case neg =>
      have h1 := Lib.hid (sIn_self_no x hx)
      clear hx
      generalize sDiff x y = d
      go_wp2_with fail
      refine (inSpec _ _ _ _).mono ?_
      rintro e w2 ⟨rfl, rfl⟩
      rw [h1.out]
      go_wp2_with fail
      go_ret
      exact ⟨rfl, hb⟩
    have h1 := Lib.hid (sIn_self_yes x hx)
    obtain ⟨k, hk, hk9⟩ : ∃ k : Nat, (len1 : Int) % 32768 = (k : Int) ∧ k ≤ 32767 := ⟨len1 % 32768, by simp, by omega⟩
    have h2 := Lib.hid (show sDiff x (sAdd x (k : Int)) = (k : Int) by rw [sAdd_yes x _ hx, sDiff_yes _ _ hx (by omega)]; exact sRaw_of _ _ _ (by omega) (by omega) (by omega))
    have h3 := Lib.hid (show sDiff x (sAdd x (-(k : Int))) = -(k : Int) by rw [sAdd_yes x _ hx, sDiff_yes _ _ hx (by omega)]; exact sRaw_of _ _ _ (by omega) (by omega) (by omega))
    clear hx
    generalize sDiff x y = d
    go_wp2_with fail
    refine (inSpec _ _ _ _).mono ?_
    rintro e w2 ⟨rfl, rfl⟩
    rw [h1.out]
    go_wp2_with fail
    refine (addImpl _ _ _).mono ?_
    rintro e w2 ⟨rfl, rfl⟩
    go_wp2_with fail
    refine (diffImpl _ _ _).mono ?_
    rintro e w2 ⟨rfl, rfl⟩
    rw [h2.out]
    go_wp2_with fail
    refine (addImpl _ _ _).mono ?_
    rintro e w2 ⟨rfl, rfl⟩
    go_wp2_with fail
    refine (diffImpl _ _ _).mono ?_
    rintro e w2 ⟨rfl, rfl⟩
    rw [h3.out]
    go_wp2_with fail
    go_ret
    exact ⟨q_retb (by first | rfl | (simp; done) | (simp; omega)), hb⟩
set_option maxRecDepth 100000 in
theorem FnSerialDiffMove_walk (a0 : Option Addr) (len0 cap0 : Nat) (a1 : Option Addr) (len1 cap1 : Nat) (w : World) (hc : CodeOf w a0 len0 cap0) :
    Calls Try.prog 8 #[.slice a0 len0 cap0, .slice a1 len1 cap1] w fun e w' => e = .returned (.bool true) ∧ Below w.heap.size w w' := by
  by_cases hl : 1048576 < len0
  · have hl' : (1048576 : Int) < (len0 : Int) := by omega
    go_enter Try.func8, Try.ntmps8
    go_wp2_with fail
    go_ret
    exact ⟨rfl, Below.refl _ _⟩
  by_cases hm : 1048576 < len1
  · have hl' : (len0 : Int) ≤ 1048576 := by omega
    have hm' : (1048576 : Int) < (len1 : Int) := by omega
    clear hl
    go_enter Try.func8, Try.ntmps8
    go_wp2_with fail
    go_ret
    exact ⟨rfl, Below.refl _ _⟩
  · have hl' : (len0 : Int) ≤ 1048576 := by omega
    have hm' : (len1 : Int) ≤ 1048576 := by omega
    clear hl hm
    go_enter Try.func8, Try.ntmps8
    go_wp2_with fail
    refine (drawSerialDiff _ _ _ _ hc).mono ?_
    rintro e w1 ⟨x, y, rfl, x0, x1, y0, y1, hb⟩
    go_wp2_with fail
    refine (diffImpl _ _ _).mono ?_
    rintro e w2 ⟨rfl, rfl⟩
    go_wp2_with fail
    refine (diffSpec _ _ _).mono ?_
    rintro e w2 ⟨rfl, rfl⟩
    by_cases hx : 0 ≤ x ∧ x < 65536
    case neg =>
      have h1 := Lib.hid (sIn_self_no x hx)
      clear hx
      generalize sDiff x y = d
      go_wp2_with fail
      refine (inSpec _ _ _ _).mono ?_
      rintro e w2 ⟨rfl, rfl⟩
      rw [h1.out]
      go_wp2_with fail
      go_ret
      exact ⟨rfl, hb⟩
    by_cases hy : 0 ≤ y ∧ y < 65536
    case neg =>
      have h1 := Lib.hid (sIn_self_yes x hx)
      have h2 := Lib.hid (sIn_self_no y hy)
      clear hx hy
      generalize sDiff x y = d
      go_wp2_with fail
      refine (inSpec _ _ _ _).mono ?_
      rintro e w2 ⟨rfl, rfl⟩
      rw [h1.out]
      go_wp2_with fail
      refine (inSpec _ _ _ _).mono ?_
      rintro e w2 ⟨rfl, rfl⟩
      rw [h2.out]
      go_wp2_with fail
      go_ret
      exact ⟨rfl, hb⟩
    have h1 := Lib.hid (sIn_self_yes x hx)
    have h2 := Lib.hid (sIn_self_yes y hy)
    have b1 := sRaw_bd x y
    have b2 := Lib.hid (sRaw_mod x y)
    rw [sDiff_yes x y hx hy]
    obtain ⟨k, hk, hk9⟩ : ∃ k : Int, (len1 : Int) * 37 + 1 = k ∧ (0 ≤ k ∧ k ≤ 100000000) := ⟨_, rfl, by omega⟩
    have h3 := Lib.hid (show sDiff (sAdd x k) (sAdd y k) = sRaw x y by rw [sAdd_yes x _ hx, sAdd_yes y _ hy, sDiff_yes _ _ (by omega) (by omega)]; exact sRaw_of _ _ _ (by omega) (by omega) (by have := b2.out; omega))
    clear hx hy
    go_wp2_with fail
    refine (inSpec _ _ _ _).mono ?_
    rintro e w2 ⟨rfl, rfl⟩
    rw [h1.out]
    go_wp2_with fail
    refine (inSpec _ _ _ _).mono ?_
    rintro e w2 ⟨rfl, rfl⟩
    rw [h2.out]
    go_wp2_with fail
    refine (addImpl _ _ _).mono ?_
    rintro e w2 ⟨rfl, rfl⟩
    go_wp2_with fail
    refine (addImpl _ _ _).mono ?_
    rintro e w2 ⟨rfl, rfl⟩
    go_wp2_with fail
    refine (diffImpl _ _ _).mono ?_
    rintro e w2 ⟨rfl, rfl⟩
    rw [h3.out]
    go_wp2_with fail
    go_ret
    exact ⟨q_retb (by first | rfl | (simp; done) | (simp; omega)), hb⟩
set_option maxRecDepth 100000 in
theorem FnSerialDiffBad_walk (a0 : Option Addr) (len0 cap0 : Nat) (w : World) (hc : CodeOf w a0 len0 cap0) :
    Calls Try.prog 4 #[.slice a0 len0 cap0] w fun e w' => e = .returned (.bool true) ∧ Below w.heap.size w w' := by
  by_cases hl : 1048576 < len0
  · have hl' : (1048576 : Int) < (len0 : Int) := by omega
    go_enter Try.func4, Try.ntmps4
    go_wp2_with fail
    go_ret
    exact ⟨rfl, Below.refl _ _⟩
  · have hl' : (len0 : Int) ≤ 1048576 := by omega
    clear hl
    go_enter Try.func4, Try.ntmps4
    go_wp2_with fail
    refine (drawSerialDiff _ _ _ _ hc).mono ?_
    rintro e w1 ⟨x, y, rfl, x0, x1, y0, y1, hb⟩
    go_wp2_with fail
    refine (diffImpl _ _ _).mono ?_
    rintro e w2 ⟨rfl, rfl⟩
    go_wp2_with fail
    refine (diffSpec _ _ _).mono ?_
    rintro e w2 ⟨rfl, rfl⟩
    by_cases hx : 0 ≤ x ∧ x < 65536
    case neg =>
      have h1 := Lib.hid (sAdd_no x 0 hx)
      rw [sDiff_no x y (fun h => hx h.1)]
      clear hx
      go_wp2_with fail
      refine (addImpl _ _ _).mono ?_
      rintro e w2 ⟨rfl, rfl⟩
      rw [h1.out]
      go_wp2_with fail
      all_goals go_ret
      all_goals exact ⟨q_retb (by first | rfl | (simp; done) | (simp; omega)), hb⟩
    by_cases hy : 0 ≤ y ∧ y < 65536
    case neg =>
      have h1 := Lib.hid (show sAdd x 0 = x by rw [sAdd_yes x 0 hx]; omega)
      have h2 := Lib.hid (sAdd_no y 0 hy)
      rw [sDiff_no x y (fun h => hy h.2)]
      obtain ⟨hx0, hx1⟩ := hx
      clear hy
      go_wp2_with fail
      refine (addImpl _ _ _).mono ?_
      rintro e w2 ⟨rfl, rfl⟩
      rw [h1.out]
      go_wp2_with fail
      refine (addImpl _ _ _).mono ?_
      rintro e w2 ⟨rfl, rfl⟩
      rw [h2.out]
      go_wp2_with fail
      all_goals go_ret
      all_goals exact ⟨q_retb (by first | rfl | (simp; done) | (simp; omega)), hb⟩
    have h1 := Lib.hid (show sAdd x 0 = x by rw [sAdd_yes x 0 hx]; omega)
    have h2 := Lib.hid (show sAdd y 0 = y by rw [sAdd_yes y 0 hy]; omega)
    have b1 := sRaw_bd x y
    have hf : (sRaw x y == -65536) = false := by rw [beq_eq_false_iff_ne]; omega
    rw [sDiff_yes x y hx hy]
    obtain ⟨hx0, hx1⟩ := hx
    obtain ⟨hy0, hy1⟩ := hy
    go_wp2_with fail
    refine (addImpl _ _ _).mono ?_
    rintro e w2 ⟨rfl, rfl⟩
    rw [h1.out]
    go_wp2_with fail
    refine (addImpl _ _ _).mono ?_
    rintro e w2 ⟨rfl, rfl⟩
    rw [h2.out]
    go_wp2_with fail
    all_goals go_ret
    all_goals exact ⟨q_retb (by first | rfl | (simp; done) | (simp; omega)), hb⟩
set_option maxRecDepth 100000 in
theorem FnSerialLess_walk (a0 : Option Addr) (len0 cap0 : Nat) (w : World) (hc : CodeOf w a0 len0 cap0) :
    Calls Try.prog 5 #[.slice a0 len0 cap0] w fun e w' => e = .returned (.bool true) ∧ Below w.heap.size w w' := by
  by_cases hl : 1048576 < len0
  · have hl' : (1048576 : Int) < (len0 : Int) := by omega
    go_enter Try.func5, Try.ntmps5
    go_wp2_with fail
    go_ret
    exact ⟨rfl, Below.refl _ _⟩
  · have hl' : (len0 : Int) ≤ 1048576 := by omega
    clear hl
    go_enter Try.func5, Try.ntmps5
    go_wp2_with fail
    refine (drawSerialLess _ _ _ _ hc).mono ?_
    rintro e w1 ⟨x, y, rfl, x0, x1, y0, y1, hb⟩
    go_wp2_with fail
    refine (lessImpl _ _ _).mono ?_
    rintro e w2 ⟨rfl, rfl⟩
    go_wp2_with fail
    refine (lessSpec _ _ _).mono ?_
    rintro e w2 ⟨rfl, rfl⟩
    by_cases ho : sLess x y = true
    case neg =>
      rw [show sLess x y = false by simpa using ho]
      clear ho
      go_wp2_with fail
      go_ret
      exact ⟨rfl, hb⟩
    have hp : 1 ≤ sDiff x y ∧ sDiff x y < 32768 := of_decide_eq_true ho
    have hxy : (0 ≤ x ∧ x < 65536) ∧ (0 ≤ y ∧ y < 65536) := by
      by_cases h : (0 ≤ x ∧ x < 65536) ∧ (0 ≤ y ∧ y < 65536)
      · exact h
      · rw [sDiff_no x y h] at hp; omega
    rw [sDiff_yes x y hxy.1 hxy.2] at hp
    have b2 := sRaw_mod x y
    have h3 := Lib.hid (show sLess y x = false by rw [sLess_def, sDiff_yes y x hxy.2 hxy.1, sRaw_back x y, if_neg (by omega), decide_eq_false_iff_not]; omega)
    have hne : (x == y) = false := by rw [beq_eq_false_iff_ne]; intro h; subst h; omega
    have hne' : (x != y) = true := by rw [bne_iff_ne]; intro h; subst h; omega
    rw [ho]
    clear ho hp b2 hxy
    go_wp2_with fail
    refine (lessImpl _ _ _).mono ?_
    rintro e w2 ⟨rfl, rfl⟩
    rw [h3.out]
    go_wp2_with fail
    all_goals go_ret
    all_goals exact ⟨q_retb (by first | rfl | (simp; done) | (simp; omega)), hb⟩
set_option maxRecDepth 100000 in
theorem FnSerialLessHalf_walk (a0 : Option Addr) (len0 cap0 : Nat) (w : World) (hc : CodeOf w a0 len0 cap0) :
    Calls Try.prog 9 #[.slice a0 len0 cap0] w fun e w' => e = .returned (.bool true) ∧ Below w.heap.size w w' := by
  by_cases hl : 1048576 < len0
  · have hl' : (1048576 : Int) < (len0 : Int) := by omega
    go_enter Try.func9, Try.ntmps9
    go_wp2_with fail
    go_ret
    exact ⟨rfl, Below.refl _ _⟩
  · have hl' : (len0 : Int) ≤ 1048576 := by omega
    clear hl
    go_enter Try.func9, Try.ntmps9
    go_wp2_with fail
    refine (drawSerialLess _ _ _ _ hc).mono ?_
    rintro e w1 ⟨x, y, rfl, x0, x1, y0, y1, hb⟩
    go_wp2_with fail
    refine (lessImpl _ _ _).mono ?_
    rintro e w2 ⟨rfl, rfl⟩
    go_wp2_with fail
    refine (lessSpec _ _ _).mono ?_
    rintro e w2 ⟨rfl, rfl⟩
    by_cases hx : 0 ≤ x ∧ x < 65536
    case neg =>
      have h1 := Lib.hid (sIn_self_no x hx)
      clear hx
      generalize sLess x y = b
      cases b
      all_goals
        go_wp2_with fail
        refine (inSpec _ _ _ _).mono ?_
        rintro e w2 ⟨rfl, rfl⟩
        rw [h1.out]
        go_wp2_with fail
        go_ret
        exact ⟨rfl, hb⟩
    by_cases hy : 0 ≤ y ∧ y < 65536
    case neg =>
      have h1 := Lib.hid (sIn_self_yes x hx)
      have h2 := Lib.hid (sIn_self_no y hy)
      clear hx hy
      generalize sLess x y = b
      cases b
      all_goals
        go_wp2_with fail
        refine (inSpec _ _ _ _).mono ?_
        rintro e w2 ⟨rfl, rfl⟩
        rw [h1.out]
        go_wp2_with fail
        refine (inSpec _ _ _ _).mono ?_
        rintro e w2 ⟨rfl, rfl⟩
        rw [h2.out]
        go_wp2_with fail
        go_ret
        exact ⟨rfl, hb⟩
    have h1 := Lib.hid (sIn_self_yes x hx)
    have h2 := Lib.hid (sIn_self_yes y hy)
    have h3 := Lib.hid (sDiff_yes x y hx hy)
    have b1 := sRaw_bd x y
    have hl : sLess x y = decide (1 ≤ sRaw x y ∧ sRaw x y < 32768) := by rw [sLess_def, h3.out]
    have hl2 : sLess y x = decide (1 ≤ sRaw y x ∧ sRaw y x < 32768) := by rw [sLess_def, sDiff_yes y x hy hx]
    have hbk := sRaw_back x y
    clear hx hy
    by_cases hq : 1 ≤ sRaw x y ∧ sRaw x y < 32768
    case pos =>
      have ho := hl.trans (decide_eq_true hq)
      rw [ho]
      have f0 : (sRaw x y == 0) = false := by rw [beq_eq_false_iff_ne]; omega
      have f1 : (sRaw x y == 32768) = false := by rw [beq_eq_false_iff_ne]; omega
      obtain ⟨q0, q1⟩ := hq
      clear ho hl hl2 hbk
      go_wp2_with fail
      refine (inSpec _ _ _ _).mono ?_
      rintro e w2 ⟨rfl, rfl⟩
      rw [h1.out]
      go_wp2_with fail
      refine (inSpec _ _ _ _).mono ?_
      rintro e w2 ⟨rfl, rfl⟩
      rw [h2.out]
      go_wp2_with fail
      refine (diffImpl _ _ _).mono ?_
      rintro e w2 ⟨rfl, rfl⟩
      rw [h3.out]
      go_wp2_with fail
      all_goals go_ret
      all_goals exact ⟨q_retb (by first | rfl | (simp; done) | (simp; omega)), hb⟩
    have ho := hl.trans (decide_eq_false hq)
    rw [ho]
    by_cases hz : sRaw x y = 0
    case pos =>
      have h4 := Lib.hid (show sLess y x = false by rw [hl2, hbk, hz]; decide)
      have h5 := Lib.hid (show sDiff x y = 0 by rw [h3.out, hz])
      clear ho hl hl2 hbk hz hq b1 h3
      go_wp2_with fail
      refine (inSpec _ _ _ _).mono ?_
      rintro e w2 ⟨rfl, rfl⟩
      rw [h1.out]
      go_wp2_with fail
      refine (inSpec _ _ _ _).mono ?_
      rintro e w2 ⟨rfl, rfl⟩
      rw [h2.out]
      go_wp2_with fail
      refine (diffImpl _ _ _).mono ?_
      rintro e w2 ⟨rfl, rfl⟩
      rw [h5.out]
      go_wp2_with fail
      refine (lessImpl _ _ _).mono ?_
      rintro e w2 ⟨rfl, rfl⟩
      rw [h4.out]
      go_wp2_with fail
      all_goals go_ret
      all_goals exact ⟨q_retb (by first | rfl | (simp; done) | (simp; omega)), hb⟩
    by_cases hz2 : sRaw x y = 32768
    case pos =>
      have h4 := Lib.hid (show sLess y x = false by rw [hl2, hbk, hz2]; decide)
      have h5 := Lib.hid (show sDiff x y = 32768 by rw [h3.out, hz2])
      clear ho hl hl2 hbk hz hz2 hq b1 h3
      go_wp2_with fail
      refine (inSpec _ _ _ _).mono ?_
      rintro e w2 ⟨rfl, rfl⟩
      rw [h1.out]
      go_wp2_with fail
      refine (inSpec _ _ _ _).mono ?_
      rintro e w2 ⟨rfl, rfl⟩
      rw [h2.out]
      go_wp2_with fail
      refine (diffImpl _ _ _).mono ?_
      rintro e w2 ⟨rfl, rfl⟩
      rw [h5.out]
      go_wp2_with fail
      refine (lessImpl _ _ _).mono ?_
      rintro e w2 ⟨rfl, rfl⟩
      rw [h4.out]
      go_wp2_with fail
      all_goals go_ret
      all_goals exact ⟨q_retb (by first | rfl | (simp; done) | (simp; omega)), hb⟩
    have h4 := Lib.hid (show sLess y x = true by rw [hl2, hbk, if_neg hz2, decide_eq_true_eq]; omega)
    have f0 : (sRaw x y == 0) = false := by rw [beq_eq_false_iff_ne]; exact hz
    have f1 : (sRaw x y == 32768) = false := by rw [beq_eq_false_iff_ne]; exact hz2
    clear ho hl hl2 hbk hz hz2 hq
    go_wp2_with fail
    refine (inSpec _ _ _ _).mono ?_
    rintro e w2 ⟨rfl, rfl⟩
    rw [h1.out]
    go_wp2_with fail
    refine (inSpec _ _ _ _).mono ?_
    rintro e w2 ⟨rfl, rfl⟩
    rw [h2.out]
    go_wp2_with fail
    refine (diffImpl _ _ _).mono ?_
    rintro e w2 ⟨rfl, rfl⟩
    rw [h3.out]
    go_wp2_with fail
    refine (lessImpl _ _ _).mono ?_
    rintro e w2 ⟨rfl, rfl⟩
    rw [h4.out]
    go_wp2_with fail
    all_goals go_ret
    all_goals exact ⟨q_retb (by first | rfl | (simp; done) | (simp; omega)), hb⟩
end Go.Proofs.Ytekcnebcflpibaa
