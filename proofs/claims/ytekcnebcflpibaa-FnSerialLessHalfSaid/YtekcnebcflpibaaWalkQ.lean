/- What each function of the serial numbers computes: a contract a function. -/
import Derived.Test.YtekcnebcflpibaaRows
import Derived.Test.YtekcnebcflpibaaMathQ
import Derived.WalkKit
import Derived.ProofKit
import Derived.Outline
import Derived.Lib.Hide
namespace Go.Proofs.Ytekcnebcflpibaa
open Go.ChangeShapes Go.WideShapes Go.ChangeAt Go.RowKit
set_option linter.unusedVariables false
theorem q_ret {k : IntKind} {a b : Int} (h : a = b) : Ending.returned (.int k a) = .returned (.int k b) := by rw [h]
theorem q_retb {a b : Bool} (h : a = b) : Ending.returned (.bool a) = .returned (.bool b) := by rw [h]
theorem ok_yes (n : Int) (w : World) (h : 0 ≤ n ∧ n < 65536) : Calls Try.prog 21 #[.int .i64 n] w fun e w' => e = .returned (.bool true) ∧ w = w' := by
  obtain ⟨h0, h1⟩ := h
  go_enter Try.func21, Try.ntmps21
  go_wp2
  go_ret
  exact ⟨rfl, rfl⟩
theorem ok_no (n : Int) (w : World) (h : ¬ (0 ≤ n ∧ n < 65536)) : Calls Try.prog 21 #[.int .i64 n] w fun e w' => e = .returned (.bool false) ∧ w = w' := by
  by_cases h0 : 0 ≤ n
  · have h1 : 65536 ≤ n := by omega
    clear h
    go_enter Try.func21, Try.ntmps21
    go_wp2
    go_ret
    exact ⟨q_retb (decide_eq_false (by omega)), rfl⟩
  · clear h
    go_enter Try.func21, Try.ntmps21
    go_wp2
    go_ret
    exact ⟨rfl, rfl⟩
theorem in_yes (n l h : Int) (w : World) (h0 : l ≤ n) (h1 : n ≤ h) : Calls Try.prog 24 #[.int .i64 n, .int .i64 l, .int .i64 h] w fun e w' => e = .returned (.bool true) ∧ w = w' := by
  go_enter Try.func24, Try.ntmps24
  go_wp2
  go_ret
  exact ⟨rfl, rfl⟩
theorem in_no (n l h : Int) (w : World) (hh : ¬ (l ≤ n ∧ n ≤ h)) : Calls Try.prog 24 #[.int .i64 n, .int .i64 l, .int .i64 h] w fun e w' => e = .returned (.bool false) ∧ w = w' := by
  by_cases h0 : l ≤ n
  · have h1 : h < n := by omega
    clear hh
    go_enter Try.func24, Try.ntmps24
    go_wp2
    go_ret
    exact ⟨q_retb (decide_eq_false (by omega)), rfl⟩
  · clear hh
    go_enter Try.func24, Try.ntmps24
    go_wp2
    go_ret
    exact ⟨rfl, rfl⟩
theorem l3ok_yes (n : Int) (w : World) (h : 0 ≤ n ∧ n < 65536) : Calls Try.prog 22 #[.int .i64 n] w fun e w' => e = .returned (.bool true) ∧ w = w' := by
  obtain ⟨h0, h1⟩ := h
  go_enter Try.func22, Try.ntmps22
  go_wp2_with (go_at_call 24; refine (in_yes _ _ _ _ (by omega) (by omega)).mono ?_; rintro e w' ⟨rfl, rfl⟩)
  go_ret
  exact ⟨rfl, rfl⟩
theorem l3ok_no (n : Int) (w : World) (h : ¬ (0 ≤ n ∧ n < 65536)) : Calls Try.prog 22 #[.int .i64 n] w fun e w' => e = .returned (.bool false) ∧ w = w' := by
  go_enter Try.func22, Try.ntmps22
  go_wp2_with (go_at_call 24; refine (in_no _ _ _ _ (by omega)).mono ?_; rintro e w' ⟨rfl, rfl⟩)
  go_ret
  exact ⟨rfl, rfl⟩
theorem l3add_any (a n : Int) (w : World) (h : 0 ≤ a ∧ a < 65536) : Calls Try.prog 25 #[.int .i64 a, .int .i64 n] w fun e w' => e = .returned (.int .i64 ((a + n) % 65536)) ∧ w = w' := by
  obtain ⟨h0, h1⟩ := h
  obtain ⟨t0, t1⟩ := tm_bd n
  by_cases hn : 0 ≤ n
  · go_enter Try.func25, Try.ntmps25
    go_wp2
    go_ret
    exact ⟨q_ret (by omega), rfl⟩
  · go_enter Try.func25, Try.ntmps25
    go_wp2
    go_ret
    exact ⟨q_ret (by have h2 := tm_mod n; omega), rfl⟩
theorem addImpl (a n : Int) (w : World) : Calls Try.prog 14 #[.int .i64 a, .int .i64 n] w fun e w' => e = .returned (.int .i64 (sAdd a n)) ∧ w = w' := by
  by_cases h : 0 ≤ a ∧ a < 65536
  · have hs : sAdd a n = (a + n) % 65536 := if_pos h
    rw [hs]; clear hs
    obtain ⟨t0, t1⟩ := tm_bd n
    obtain ⟨t2, t3⟩ := tm_bd (a + n.tmod 65536)
    by_cases hn : 0 ≤ n
    · have hh := h
      obtain ⟨h0, h1⟩ := h
      go_enter Try.func14, Try.ntmps14
      go_wp2_with (go_at_call 21; refine (ok_yes _ _ hh).mono ?_; rintro e w' ⟨rfl, rfl⟩)
      go_ret
      exact ⟨q_ret (by omega), rfl⟩
    · have hh := h
      obtain ⟨h0, h1⟩ := h
      go_enter Try.func14, Try.ntmps14
      go_wp2_with (go_at_call 21; refine (ok_yes _ _ hh).mono ?_; rintro e w' ⟨rfl, rfl⟩)
      go_ret
      exact ⟨q_ret (add_shape _ _), rfl⟩
  · have hs : sAdd a n = -1 := if_neg h
    rw [hs]; clear hs
    go_enter Try.func14, Try.ntmps14
    go_wp2_with (go_at_call 21; refine (ok_no _ _ h).mono ?_; rintro e w' ⟨rfl, rfl⟩)
    go_ret
    exact ⟨rfl, rfl⟩
theorem l3diff_any (a b : Int) (w : World) (ha : 0 ≤ a ∧ a < 65536) (hb : 0 ≤ b ∧ b < 65536) : Calls Try.prog 23 #[.int .i64 a, .int .i64 b] w fun e w' => e = .returned (.int .i64 (sRaw a b)) ∧ w = w' := by
  have hr : sRaw a b = if 32768 < (b - a) % 65536 then (b - a) % 65536 - 65536 else (b - a) % 65536 := rfl
  rw [hr]; clear hr
  have e : b + -a = b - a := by omega
  have H := Lib.hid e; clear e
  obtain ⟨a0, a1⟩ := ha
  go_enter Try.func23, Try.ntmps23
  go_wp2_with (go_at_call 25; refine (l3add_any _ _ _ hb).mono ?_; rintro e w' ⟨rfl, rfl⟩)
  all_goals go_ret
  all_goals exact ⟨q_ret (by first | (rw [H.out]; done) | (rw [H.out]; omega) | omega), rfl⟩
theorem diff_yes (a b : Int) (ha : 0 ≤ a ∧ a < 65536) (hb : 0 ≤ b ∧ b < 65536) : sDiff a b = sRaw a b := if_pos ⟨ha, hb⟩
theorem diff_no (a b : Int) (h : ¬ ((0 ≤ a ∧ a < 65536) ∧ (0 ≤ b ∧ b < 65536))) : sDiff a b = -65536 := if_neg h
theorem diffImpl (a b : Int) (w : World) : Calls Try.prog 11 #[.int .i64 a, .int .i64 b] w fun e w' => e = .returned (.int .i64 (sDiff a b)) ∧ w = w' := by
  by_cases ha : 0 ≤ a ∧ a < 65536
  · by_cases hb : 0 ≤ b ∧ b < 65536
    · rw [diff_yes a b ha hb]
      have hr : sRaw a b = if 32768 < (b - a) % 65536 then (b - a) % 65536 - 65536 else (b - a) % 65536 := rfl
      rw [hr]; clear hr
      have ka := ha
      have kb := hb
      obtain ⟨a0, a1⟩ := ha
      obtain ⟨b0, b1⟩ := hb
      go_enter Try.func11, Try.ntmps11
      go_wp2_with (go_at_call 21; refine (ok_yes _ _ (by omega)).mono ?_; rintro e w' ⟨rfl, rfl⟩)
      all_goals go_ret
      all_goals exact ⟨q_ret (by first | rfl | omega), rfl⟩
    · rw [diff_no a b (by omega)]
      go_enter Try.func11, Try.ntmps11
      go_wp2_with fail
      refine (ok_yes _ _ ha).mono ?_
      rintro e w' ⟨rfl, rfl⟩
      go_wp2_with fail
      refine (ok_no _ _ hb).mono ?_
      rintro e w' ⟨rfl, rfl⟩
      go_wp2_with fail
      go_ret
      exact ⟨rfl, rfl⟩
  · rw [diff_no a b (by omega)]
    go_enter Try.func11, Try.ntmps11
    go_wp2_with fail
    refine (ok_no _ _ ha).mono ?_
    rintro e w' ⟨rfl, rfl⟩
    go_wp2_with fail
    go_ret
    exact ⟨rfl, rfl⟩
theorem diffSpec (a b : Int) (w : World) : Calls Try.prog 12 #[.int .i64 a, .int .i64 b] w fun e w' => e = .returned (.int .i64 (sDiff a b)) ∧ w = w' := by
  by_cases ha : 0 ≤ a ∧ a < 65536
  · by_cases hb : 0 ≤ b ∧ b < 65536
    · rw [diff_yes a b ha hb]
      go_enter Try.func12, Try.ntmps12
      go_wp2_with fail
      refine (l3ok_yes _ _ ha).mono ?_
      rintro e w' ⟨rfl, rfl⟩
      go_wp2_with fail
      refine (l3ok_yes _ _ hb).mono ?_
      rintro e w' ⟨rfl, rfl⟩
      go_wp2_with fail
      refine (l3diff_any _ _ _ ha hb).mono ?_
      rintro e w' ⟨rfl, rfl⟩
      go_wp2_with fail
      go_ret
      exact ⟨rfl, rfl⟩
    · rw [diff_no a b (by omega)]
      go_enter Try.func12, Try.ntmps12
      go_wp2_with fail
      refine (l3ok_yes _ _ ha).mono ?_
      rintro e w' ⟨rfl, rfl⟩
      go_wp2_with fail
      refine (l3ok_no _ _ hb).mono ?_
      rintro e w' ⟨rfl, rfl⟩
      go_wp2_with fail
      go_ret
      exact ⟨rfl, rfl⟩
  · rw [diff_no a b (by omega)]
    go_enter Try.func12, Try.ntmps12
    go_wp2_with fail
    refine (l3ok_no _ _ ha).mono ?_
    rintro e w' ⟨rfl, rfl⟩
    go_wp2_with fail
    go_ret
    exact ⟨rfl, rfl⟩
theorem lessImpl (a b : Int) (w : World) : Calls Try.prog 16 #[.int .i64 a, .int .i64 b] w fun e w' => e = .returned (.bool (sLess a b)) ∧ w = w' := by
  have hr : sLess a b = decide (1 ≤ sDiff a b ∧ sDiff a b < 32768) := rfl
  rw [hr]; clear hr
  go_enter Try.func16, Try.ntmps16
  go_wp2_with fail
  refine (diffImpl _ _ _).mono ?_
  rintro e w' ⟨rfl, rfl⟩
  go_wp2_with fail
  all_goals go_ret
  all_goals exact ⟨q_retb (by first | rfl | (rw [Bool.eq_iff_iff]; simp; done) | (rw [Bool.eq_iff_iff]; simp; omega)), rfl⟩
theorem l3less_any (a b : Int) (w : World) (ha : 0 ≤ a ∧ a < 65536) (hb : 0 ≤ b ∧ b < 65536) : Calls Try.prog 26 #[.int .i64 a, .int .i64 b] w fun e w' => e = .returned (.bool (sLess a b)) ∧ w = w' := by
  have hr : sLess a b = decide (1 ≤ sDiff a b ∧ sDiff a b < 32768) := rfl
  rw [hr, diff_yes a b ha hb]; clear hr
  by_cases h : 1 ≤ sRaw a b ∧ sRaw a b < 32768
  · rw [decide_eq_true h]
    go_enter Try.func26, Try.ntmps26
    go_wp2_with fail
    refine (l3diff_any _ _ _ ha hb).mono ?_
    rintro e w' ⟨rfl, rfl⟩
    go_wp2_with fail
    refine (in_yes _ _ _ _ (by omega) (by omega)).mono ?_
    rintro e w' ⟨rfl, rfl⟩
    go_wp2_with fail
    go_ret
    exact ⟨rfl, rfl⟩
  · rw [decide_eq_false h]
    go_enter Try.func26, Try.ntmps26
    go_wp2_with fail
    refine (l3diff_any _ _ _ ha hb).mono ?_
    rintro e w' ⟨rfl, rfl⟩
    go_wp2_with fail
    refine (in_no _ _ _ _ (by omega)).mono ?_
    rintro e w' ⟨rfl, rfl⟩
    go_wp2_with fail
    go_ret
    exact ⟨rfl, rfl⟩
theorem less_no (a b : Int) (h : ¬ ((0 ≤ a ∧ a < 65536) ∧ (0 ≤ b ∧ b < 65536))) : sLess a b = false := by
  unfold sLess; rw [diff_no a b h]; decide
theorem lessSpec (a b : Int) (w : World) : Calls Try.prog 17 #[.int .i64 a, .int .i64 b] w fun e w' => e = .returned (.bool (sLess a b)) ∧ w = w' := by
  by_cases ha : 0 ≤ a ∧ a < 65536
  · by_cases hb : 0 ≤ b ∧ b < 65536
    · go_enter Try.func17, Try.ntmps17
      go_wp2_with fail
      refine (l3ok_yes _ _ ha).mono ?_
      rintro e w' ⟨rfl, rfl⟩
      go_wp2_with fail
      refine (l3ok_yes _ _ hb).mono ?_
      rintro e w' ⟨rfl, rfl⟩
      go_wp2_with fail
      refine (l3less_any _ _ _ ha hb).mono ?_
      rintro e w' ⟨rfl, rfl⟩
      go_wp2_with fail
      go_ret
      exact ⟨rfl, rfl⟩
    · rw [less_no a b (by omega)]
      go_enter Try.func17, Try.ntmps17
      go_wp2_with fail
      refine (l3ok_yes _ _ ha).mono ?_
      rintro e w' ⟨rfl, rfl⟩
      go_wp2_with fail
      refine (l3ok_no _ _ hb).mono ?_
      rintro e w' ⟨rfl, rfl⟩
      go_wp2_with fail
      go_ret
      exact ⟨rfl, rfl⟩
  · rw [less_no a b (by omega)]
    go_enter Try.func17, Try.ntmps17
    go_wp2_with fail
    refine (l3ok_no _ _ ha).mono ?_
    rintro e w' ⟨rfl, rfl⟩
    go_wp2_with fail
    go_ret
    exact ⟨rfl, rfl⟩
theorem inSpec (n f m : Int) (w : World) : Calls Try.prog 13 #[.int .i64 n, .int .i64 f, .int .i64 m] w fun e w' => e = .returned (.bool (sIn n f m)) ∧ w = w' := by
  have hr : sIn n f m = decide (((0 ≤ n ∧ n < 65536) ∧ (0 ≤ f ∧ f < 65536)) ∧ (0 ≤ m ∧ m ≤ 32768) ∧ (n - f) % 65536 < m) := rfl
  rw [hr]; clear hr
  have e : n + -f = n - f := by omega
  have H := Lib.hid e; clear e
  by_cases hn : 0 ≤ n ∧ n < 65536
  · by_cases hf : 0 ≤ f ∧ f < 65536
    · by_cases hm : 0 ≤ m ∧ m ≤ 32768
      · obtain ⟨f0, f1⟩ := hf
        go_enter Try.func13, Try.ntmps13
        go_wp2_with fail
        refine (l3ok_yes _ _ hn).mono ?_
        rintro e w' ⟨rfl, rfl⟩
        go_wp2_with fail
        refine (l3ok_yes _ _ ⟨f0, f1⟩).mono ?_
        rintro e w' ⟨rfl, rfl⟩
        go_wp2_with fail
        refine (in_yes _ _ _ _ hm.1 hm.2).mono ?_
        rintro e w' ⟨rfl, rfl⟩
        go_wp2_with fail
        refine (l3add_any _ _ _ hn).mono ?_
        rintro e w' ⟨rfl, rfl⟩
        go_wp2_with fail
        all_goals go_ret
        all_goals exact ⟨q_retb (by (try rw [H.out]); first | rfl | (rw [Bool.eq_iff_iff]; simp; done) | (rw [Bool.eq_iff_iff]; simp; omega)), rfl⟩
      · rw [decide_eq_false (by omega)]
        go_enter Try.func13, Try.ntmps13
        go_wp2_with fail
        refine (l3ok_yes _ _ hn).mono ?_
        rintro e w' ⟨rfl, rfl⟩
        go_wp2_with fail
        refine (l3ok_yes _ _ hf).mono ?_
        rintro e w' ⟨rfl, rfl⟩
        go_wp2_with fail
        refine (in_no _ _ _ _ hm).mono ?_
        rintro e w' ⟨rfl, rfl⟩
        go_wp2_with fail
        go_ret
        exact ⟨rfl, rfl⟩
    · rw [decide_eq_false (by omega)]
      go_enter Try.func13, Try.ntmps13
      go_wp2_with fail
      refine (l3ok_yes _ _ hn).mono ?_
      rintro e w' ⟨rfl, rfl⟩
      go_wp2_with fail
      refine (l3ok_no _ _ hf).mono ?_
      rintro e w' ⟨rfl, rfl⟩
      go_wp2_with fail
      go_ret
      exact ⟨rfl, rfl⟩
  · rw [decide_eq_false (by omega)]
    go_enter Try.func13, Try.ntmps13
    go_wp2_with fail
    refine (l3ok_no _ _ hn).mono ?_
    rintro e w' ⟨rfl, rfl⟩
    go_wp2_with fail
    go_ret
    exact ⟨rfl, rfl⟩
theorem last_yes (a b : Int) (ha : 0 ≤ a ∧ a < 65536) (hb : 0 ≤ b ∧ b < 65536) : sLast a b = if sLess a b = true then b else a := if_pos ⟨ha, hb⟩
theorem last_no (a b : Int) (h : ¬ ((0 ≤ a ∧ a < 65536) ∧ (0 ≤ b ∧ b < 65536))) : sLast a b = -1 := if_neg h
end Go.Proofs.Ytekcnebcflpibaa
