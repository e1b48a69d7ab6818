/- What each function of the checksums computes: a contract a function. -/
import Derived.Test.YtgbdcpeljbeinaaRows
import Derived.Test.YtgbdcpeljbeinaaMathS
import Derived.WalkKit
import Derived.ProofKit
import Derived.Outline
import Derived.Lib.Hide
import Derived.LoopTactic
namespace Go.Proofs.Ytgbdcpeljbeinaa
open Go.ChangeShapes Go.WideShapes Go.ChangeAt Go.RowKit
set_option linter.unusedVariables false
theorem s_ret {k : IntKind} {a b : Int} (h : a = b) : Ending.returned (.int k a) = .returned (.int k b) := by rw [h]
theorem s_retb {a b : Bool} (h : a = b) : Ending.returned (.bool a) = .returned (.bool b) := by rw [h]
theorem validImpl (n : Int) (w : World) (h : -9223372036854775808 ≤ n ∧ n ≤ 9223372036854775807) : Calls Try.prog 16 #[.int .i64 n] w fun e w' => e = .returned (.bool (sumValidB n)) ∧ w = w' := by
  obtain ⟨h0, h1⟩ := h
  have hd : sumValidB n = decide (0 ≤ n ∧ n % 65536 < 65521 ∧ n / 65536 < 65521) := rfl
  have H := Lib.hid hd; clear hd
  by_cases hn : 0 ≤ n
  all_goals
    go_enter Try.func16, Try.ntmps16
    go_wp2
    all_goals go_ret
    all_goals exact ⟨s_retb (by rw [H.out, Bool.eq_iff_iff]; simp; omega), rfl⟩
theorem validSpec (n : Int) (w : World) (h : -9223372036854775808 ≤ n ∧ n ≤ 9223372036854775807) : Calls Try.prog 19 #[.int .i64 n] w fun e w' => e = .returned (.bool (sumValidB n)) ∧ w = w' := by
  obtain ⟨h0, h1⟩ := h
  have hd : sumValidB n = decide (0 ≤ n ∧ n % 65536 < 65521 ∧ n / 65536 < 65521) := rfl
  have H := Lib.hid hd; clear hd
  by_cases hn : 0 ≤ n
  all_goals
    go_enter Try.func19, Try.ntmps19
    go_wp2
    all_goals go_ret
    all_goals exact ⟨s_retb (by rw [H.out, Bool.eq_iff_iff]; simp; omega), rfl⟩
theorem sumOn_any (a b : Int) (s : ByteArray) (w : World) (ha : 0 ≤ a ∧ a < 65521) (hb : 0 ≤ b ∧ b < 65521) (hs : s.size ≤ 9223372036854775807) :
    Calls Try.prog 24 #[.int .i64 a, .int .i64 b, .string s] w fun e w' => e = .returned (.int .i64 (sumOnV a b s.data.toList)) ∧ w = w' := by
  go_enter Try.func24, Try.ntmps24
  go_wp2
  go_loop [0, 1, 7] (fun x y i => ∃ k : Nat, k ≤ s.size ∧ i = .int .i64 k ∧ x = .int .i64 (adlA a b (s.data.toList.take k)) ∧ y = .int .i64 (adlB a b (s.data.toList.take k))) (fun _ _ i => s.size - (intOf i).toNat)
  case atStart => exact ⟨0, Nat.zero_le _, rfl, rfl, rfl⟩
  case round =>
    obtain ⟨k, hk, rfl, rfl, rfl⟩ := hrel
    obtain ⟨a0, a1⟩ := adlA_bd a b (s.data.toList.take k) ha hb
    obtain ⟨b0, b1⟩ := adlB_bd a b (s.data.toList.take k) ha hb
    by_cases hlt : k < s.size
    · have hA : adlA a b (s.data.toList.take (k + 1)) = (adlA a b (s.data.toList.take k) + (s[k].toNat : Int)) % 65521 := by rw [byte_take_snoc s k hlt, adlA_snoc]
      have hB : adlB a b (s.data.toList.take (k + 1)) = (adlB a b (s.data.toList.take k) + (adlA a b (s.data.toList.take k) + (s[k].toNat : Int)) % 65521) % 65521 := by rw [byte_take_snoc s k hlt, adlB_snoc]
      have HA := Lib.hid hA; clear hA
      have HB := Lib.hid hB; clear hB
      have hc : (s[k].toNat : Int) < 256 := by have := s[k].toNat_lt; omega
      go_wp2
      go_round
      case rel => exact ⟨k + 1, by omega, by go_num, by rw [HA.out], by rw [HB.out]⟩
      case measure => simp [intOf]; omega
    · go_wp2
      go_ret
      have ht : s.data.toList.take k = s.data.toList := List.take_of_length_le (by simp; omega)
      exact ⟨s_ret (by rw [ht]; unfold sumOnV; omega), rfl⟩
theorem l2next_any (n : Int) (s : ByteArray) (w : World) (hn : sumValidB n = true) (h1 : n ≤ 9223372036854775807) (hs : s.size ≤ 9223372036854775807) :
    Calls Try.prog 25 #[.int .i64 n, .string s] w fun e w' => e = .returned (.int .i64 (sumOnV (n % 65536) (n / 65536) s.data.toList)) ∧ w = w' := by
  obtain ⟨hn0, hn1, hn2⟩ := valid_yes n hn
  clear hn
  have ha : 0 ≤ n % 65536 ∧ n % 65536 < 65521 := by omega
  have hb : 0 ≤ n / 65536 ∧ n / 65536 < 65521 := by omega
  obtain ⟨a, hae⟩ : ∃ a, a = n % 65536 := ⟨_, rfl⟩
  obtain ⟨b, hbe⟩ : ∃ b, b = n / 65536 := ⟨_, rfl⟩
  rw [← hae] at ha ⊢
  rw [← hbe] at hb ⊢
  have HAE := Lib.hid hae; clear hae
  have HBE := Lib.hid hbe; clear hbe
  go_enter Try.func25, Try.ntmps25
  go_wp2
  go_loop [5, 6, 7] (fun x y i => ∃ k : Nat, k ≤ s.size ∧ i = .int .i64 k ∧ x = .int .i64 (adlA a b (s.data.toList.take k)) ∧ y = .int .i64 (adlB a b (s.data.toList.take k))) (fun _ _ i => s.size - (intOf i).toNat)
  case atStart => exact ⟨0, Nat.zero_le _, rfl, by rw [HAE.out]; rfl, by rw [HBE.out]; rfl⟩
  case round =>
    obtain ⟨k, hk, rfl, rfl, rfl⟩ := hrel
    obtain ⟨a0, a1⟩ := adlA_bd a b (s.data.toList.take k) ha hb
    obtain ⟨b0, b1⟩ := adlB_bd a b (s.data.toList.take k) ha hb
    by_cases hlt : k < s.size
    · have hA : adlA a b (s.data.toList.take (k + 1)) = (adlA a b (s.data.toList.take k) + (s[k].toNat : Int)) % 65521 := by rw [byte_take_snoc s k hlt, adlA_snoc]
      have hB : adlB a b (s.data.toList.take (k + 1)) = (adlB a b (s.data.toList.take k) + (adlA a b (s.data.toList.take k) + (s[k].toNat : Int)) % 65521) % 65521 := by rw [byte_take_snoc s k hlt, adlB_snoc]
      have HA := Lib.hid hA; clear hA
      have HB := Lib.hid hB; clear hB
      have hc : (s[k].toNat : Int) < 256 := by have := s[k].toNat_lt; omega
      go_wp2
      go_round
      case rel => exact ⟨k + 1, by omega, by go_num, by rw [HA.out], by rw [HB.out]⟩
      case measure => simp [intOf]; omega
    · go_wp2
      go_ret
      have ht : s.data.toList.take k = s.data.toList := List.take_of_length_le (by simp; omega)
      exact ⟨s_ret (by rw [ht]; unfold sumOnV; omega), rfl⟩
theorem one_valid : sumValidB 1 = true := by decide
theorem textImpl (s : ByteArray) (w : World) (hs : s.size ≤ 9223372036854775807) :
    Calls Try.prog 14 #[.string s] w fun e w' => e = .returned (.int .i64 (sumOnV 1 0 s.data.toList)) ∧ w = w' := by
  go_enter Try.func14, Try.ntmps14
  go_wp2_with fail
  refine (sumOn_any _ _ _ _ (by omega) (by omega) hs).mono ?_
  rintro e w' ⟨rfl, rfl⟩
  go_wp2_with fail
  go_ret
  exact ⟨rfl, rfl⟩
theorem textSpec (s : ByteArray) (w : World) (hs : s.size ≤ 9223372036854775807) :
    Calls Try.prog 15 #[.string s] w fun e w' => e = .returned (.int .i64 (sumOnV 1 0 s.data.toList)) ∧ w = w' := by
  go_enter Try.func15, Try.ntmps15
  go_wp2_with fail
  refine (l2next_any _ _ _ one_valid (by omega) hs).mono ?_
  rintro e w' ⟨rfl, rfl⟩
  go_wp2_with fail
  go_ret
  exact ⟨rfl, rfl⟩
theorem nextImpl (n : Int) (s : ByteArray) (w : World) (h : -9223372036854775808 ≤ n ∧ n ≤ 9223372036854775807) (hs : s.size ≤ 9223372036854775807) :
    Calls Try.prog 17 #[.int .i64 n, .string s] w fun e w' => e = .returned (.int .i64 (sumNextV n s.data.toList)) ∧ w = w' := by
  by_cases hv : sumValidB n = true
  · have hf : sumNextV n s.data.toList = sumOnV (n % 65536) (n / 65536) s.data.toList := if_pos hv
    rw [hf]; clear hf
    obtain ⟨hn0, hn1, hn2⟩ := valid_yes n hv
    have HV := Lib.hid hv; clear hv
    have hh := h
    obtain ⟨h0, h1⟩ := h
    go_enter Try.func17, Try.ntmps17
    go_wp2_with fail
    refine (validImpl _ _ hh).mono ?_
    rintro e w' ⟨rfl, rfl⟩
    rw [HV.out]
    go_wp2_with fail
    refine (sumOn_any _ _ _ _ (by omega) (by omega) hs).mono ?_
    rintro e w' ⟨rfl, rfl⟩
    go_wp2_with fail
    go_ret
    exact ⟨rfl, rfl⟩
  · have hf : sumNextV n s.data.toList = -1 := if_neg hv
    rw [hf]; clear hf
    have hv' : sumValidB n = false := by simpa using hv
    have HV := Lib.hid hv'; clear hv hv'
    go_enter Try.func17, Try.ntmps17
    go_wp2_with fail
    refine (validImpl _ _ h).mono ?_
    rintro e w' ⟨rfl, rfl⟩
    rw [HV.out]
    go_wp2_with fail
    go_ret
    exact ⟨rfl, rfl⟩
theorem nextSpec (n : Int) (s : ByteArray) (w : World) (h : -9223372036854775808 ≤ n ∧ n ≤ 9223372036854775807) (hs : s.size ≤ 9223372036854775807) :
    Calls Try.prog 21 #[.int .i64 n, .string s] w fun e w' => e = .returned (.int .i64 (sumNextV n s.data.toList)) ∧ w = w' := by
  by_cases hv : sumValidB n = true
  · have hf : sumNextV n s.data.toList = sumOnV (n % 65536) (n / 65536) s.data.toList := if_pos hv
    rw [hf]; clear hf
    have HV := Lib.hid hv; clear hv
    go_enter Try.func21, Try.ntmps21
    go_wp2_with fail
    refine (validSpec _ _ h).mono ?_
    rintro e w' ⟨rfl, rfl⟩
    rw [HV.out]
    go_wp2_with fail
    refine (l2next_any _ _ _ HV.out h.2 hs).mono ?_
    rintro e w' ⟨rfl, rfl⟩
    go_wp2_with fail
    go_ret
    exact ⟨rfl, rfl⟩
  · have hf : sumNextV n s.data.toList = -1 := if_neg hv
    rw [hf]; clear hf
    have hv' : sumValidB n = false := by simpa using hv
    have HV := Lib.hid hv'; clear hv hv'
    go_enter Try.func21, Try.ntmps21
    go_wp2_with fail
    refine (validSpec _ _ h).mono ?_
    rintro e w' ⟨rfl, rfl⟩
    rw [HV.out]
    go_wp2_with fail
    go_ret
    exact ⟨rfl, rfl⟩
end Go.Proofs.Ytgbdcpeljbeinaa
