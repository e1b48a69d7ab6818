/- The walks of further laws on checksums. -/
import Derived.Test.YtgbdcpeljbeinaaRows
import Derived.Test.YtgbdcpeljbeinaaWalkF
import Derived.Deep.RegionWith
import Derived.LoopTactic
namespace Go.Proofs.Ytgbdcpeljbeinaa
open Go.ChangeShapes Go.WideShapes Go.ChangeAt Go.RowKit
set_option linter.unusedVariables false
set_option maxRecDepth 100000 in
theorem FnSumText_walk (a0 : Option Addr) (len0 cap0 : Nat) (w : World) (hc : CodeOf w a0 len0 cap0) :
    Calls Try.prog 6 #[.slice a0 len0 cap0] w fun e w' => e = .returned (.bool true) ∧ Below w.heap.size w w' := by
  by_cases hl : 1048576 < len0
  · have hl' : (1048576 : Int) < (len0 : Int) := by omega
    go_enter Try.func6, Try.ntmps6
    go_wp2_with fail
    go_ret
    exact ⟨rfl, Below.refl _ _⟩
  · have hl' : (len0 : Int) ≤ 1048576 := by omega
    clear hl
    go_enter Try.func6, Try.ntmps6
    go_wp2_with fail
    refine (drawSumText _ _ _ _ hc).mono ?_
    rintro e w1 ⟨s, rfl, hs, hb⟩
    go_wp2_with fail
    refine (textImpl _ _ (by omega)).mono ?_
    rintro e w2 ⟨rfl, rfl⟩
    go_wp2_with fail
    refine (textSpec _ _ (by omega)).mono ?_
    rintro e w2 ⟨rfl, rfl⟩
    go_wp2_with fail
    go_loop [6, 7] (fun n i => ∃ k : Nat, k ≤ s.size ∧ i = .int .i64 k ∧ n = .int .i64 (1 + addUp (s.data.toList.take k))) (fun _ i => s.size - (intOf i).toNat)
    case atStart => exact ⟨0, Nat.zero_le _, rfl, rfl⟩
    case round =>
      obtain ⟨k, hk, rfl, rfl⟩ := hrel
      have hab := addUp_bd (s.data.toList.take k)
      obtain ⟨a0', a1'⟩ := hab
      have hlen : (s.data.toList.take k).length ≤ 30 := by rw [List.length_take]; omega
      by_cases hlt : k < s.size
      · have hA : 1 + addUp (s.data.toList.take (k + 1)) = 1 + addUp (s.data.toList.take k) + (s[k].toNat : Int) := by rw [byte_take_snoc s k hlt, addUp_append, addUp_cons]; show _ = _; have : addUp [] = 0 := rfl; omega
        have HA := Lib.hid hA; clear hA
        have hc : (s[k].toNat : Int) < 256 := by have := s[k].toNat_lt; omega
        go_wp2_with fail
        go_round
        case rel => exact ⟨k + 1, by omega, by go_num, by rw [HA.out]⟩
        case measure => simp [intOf]; omega
      · have h1 := sumOnV_parts 1 0 s.data.toList (by omega) (by omega)
        have hA := adlA_sum 1 0 s.data.toList (by omega) (by omega)
        have ht : s.data.toList.take k = s.data.toList := List.take_of_length_le (by simp; omega)
        have hv := valid_sumOn 1 0 s.data.toList (by omega) (by omega)
        have hq : (sumOnV 1 0 s.data.toList % 65536 == (1 + addUp (s.data.toList.take k)) % 65521) = true := by rw [beq_iff_eq, ht]; omega
        have HV := Lib.hid hv
        have HQ := Lib.hid hq
        clear ht hA hv hq
        obtain ⟨h2, h3⟩ := h1.2.2
        clear h1
        go_wp2_with fail
        refine (validImpl _ _ (by omega)).mono ?_
        rintro e w2 ⟨rfl, rfl⟩
        rw [HV.out]
        go_wp2_with fail
        go_ret
        exact ⟨s_retb HQ.out, hb⟩
set_option maxRecDepth 100000 in
theorem FnSumValid_walk (a0 : Option Addr) (len0 cap0 : Nat) (w : World) (hc : CodeOf w a0 len0 cap0) :
    Calls Try.prog 9 #[.slice a0 len0 cap0] w fun e w' => e = .returned (.bool true) ∧ Below w.heap.size w w' := by
  by_cases hl : 1048576 < len0
  · have hl' : (1048576 : Int) < (len0 : Int) := by omega
    go_enter Try.func9, Try.ntmps9
    go_wp2_with fail
    go_ret
    exact ⟨rfl, Below.refl _ _⟩
  · have hl' : (len0 : Int) ≤ 1048576 := by omega
    clear hl
    go_enter Try.func9, Try.ntmps9
    go_wp2_with fail
    refine (drawSumValid _ _ _ _ hc).mono ?_
    rintro e w1 ⟨n, rfl, n0, n1, hb⟩
    go_wp2_with fail
    refine (validImpl _ _ (by omega)).mono ?_
    rintro e w2 ⟨rfl, rfl⟩
    go_wp2_with fail
    refine (validSpec _ _ (by omega)).mono ?_
    rintro e w2 ⟨rfl, rfl⟩
    have hd : sumValidB n = decide (0 ≤ n ∧ n % 65536 < 65521 ∧ n / 65536 < 65521) := rfl
    have HD := Lib.hid hd
    clear hd
    by_cases h0 : 0 ≤ n
    all_goals
      go_wp2_with fail
      all_goals go_ret
      all_goals exact ⟨s_retb (by rw [HD.out]; first | (rw [beq_iff_eq, Bool.eq_iff_iff]; simp; omega) | (simp; omega)), hb⟩
set_option maxRecDepth 100000 in
theorem FnSumNext_walk (a0 : Option Addr) (len0 cap0 : Nat) (w : World) (hc : CodeOf w a0 len0 cap0) :
    Calls Try.prog 10 #[.slice a0 len0 cap0] w fun e w' => e = .returned (.bool true) ∧ Below w.heap.size w w' := by
  by_cases hl : 1048576 < len0
  · have hl' : (1048576 : Int) < (len0 : Int) := by omega
    go_enter Try.func10, Try.ntmps10
    go_wp2_with fail
    go_ret
    exact ⟨rfl, Below.refl _ _⟩
  · have hl' : (len0 : Int) ≤ 1048576 := by omega
    clear hl
    go_enter Try.func10, Try.ntmps10
    go_wp2_with fail
    refine (drawSumNext _ _ _ _ hc).mono ?_
    rintro e w1 ⟨n, s, rfl, n0, n1, hs, hb⟩
    go_wp2_with fail
    refine (nextImpl _ _ _ (by omega) (by omega)).mono ?_
    rintro e w2 ⟨rfl, rfl⟩
    go_wp2_with fail
    refine (nextSpec _ _ _ (by omega) (by omega)).mono ?_
    rintro e w2 ⟨rfl, rfl⟩
    obtain ⟨b0, b1⟩ := next_bd n s.data.toList
    go_wp2_with fail
    refine (validImpl _ _ (by omega)).mono ?_
    rintro e w2 ⟨rfl, rfl⟩
    by_cases hv : sumValidB n = true
    · obtain ⟨v0, v1⟩ := next_nonneg n s.data.toList hv
      have hv2 := next_valid n s.data.toList hv
      rw [hv]
      have HV := Lib.hid hv2
      clear hv hv2
      go_wp2_with fail
      refine (validImpl _ _ (by omega)).mono ?_
      rintro e w2 ⟨rfl, rfl⟩
      rw [HV.out]
      go_wp2_with fail
      go_ret
      exact ⟨s_retb (by simp; omega), hb⟩
    · rw [next_no n _ hv, show sumValidB n = false by simpa using hv]
      go_wp2_with fail
      refine (validImpl _ _ (by omega)).mono ?_
      rintro e w2 ⟨rfl, rfl⟩
      rw [show sumValidB (-1) = false by decide]
      go_wp2_with fail
      go_ret
      exact ⟨s_retb (by simp), hb⟩
set_option maxRecDepth 100000 in
theorem FnSumNextByte_walk (a0 : Option Addr) (len0 cap0 : Nat) (w : World) (hc : CodeOf w a0 len0 cap0) :
    Calls Try.prog 12 #[.slice a0 len0 cap0] w fun e w' => e = .returned (.bool true) ∧ Below w.heap.size w w' := by
  by_cases hl : 1048576 < len0
  · have hl' : (1048576 : Int) < (len0 : Int) := by omega
    go_enter Try.func12, Try.ntmps12
    go_wp2_with fail
    go_ret
    exact ⟨rfl, Below.refl _ _⟩
  · have hl' : (len0 : Int) ≤ 1048576 := by omega
    clear hl
    go_enter Try.func12, Try.ntmps12
    go_wp2_with fail
    refine (drawSumNext _ _ _ _ hc).mono ?_
    rintro e w1 ⟨n, s, rfl, n0, n1, hs, hb⟩
    go_wp2_with fail
    refine (nextImpl _ _ _ (by omega) (by omega)).mono ?_
    rintro e w2 ⟨rfl, rfl⟩
    go_wp2_with fail
    refine (nextSpec _ _ _ (by omega) (by omega)).mono ?_
    rintro e w2 ⟨rfl, rfl⟩
    obtain ⟨b0, b1⟩ := next_bd n s.data.toList
    by_cases hn : sumNextV n s.data.toList < 0
    · go_wp2_with fail
      go_ret
      exact ⟨rfl, hb⟩
    have hv := next_neg n s.data.toList (by omega)
    obtain ⟨v0, v1, v2⟩ := valid_yes n hv
    have hx : sumNextV n [77] = sumOnV (n % 65536) (n / 65536) [77] := next_yes n [77] hv
    have HX := Lib.hid hx
    clear hx hv
    go_wp2_with fail
    refine (nextImpl _ _ _ (by omega) (by decide)).mono ?_
    rintro e w2 ⟨rfl, rfl⟩
    rw [show (⟨#[77]⟩ : ByteArray).data.toList = [77] from rfl, HX.out]
    go_wp2_with fail
    go_ret
    exact ⟨s_retb (by rw [beq_iff_eq]; simp only [sumOnV, adlA, adlB, adl, List.foldl_cons, List.foldl_nil, show ((77 : UInt8).toNat : Int) = 77 from rfl]; omega), hb⟩
set_option maxRecDepth 100000 in
theorem FnSumNextJoin_walk (a0 : Option Addr) (len0 cap0 : Nat) (a1 : Option Addr) (len1 cap1 : Nat) (w : World) (hc : CodeOf w a0 len0 cap0) :
    Calls Try.prog 11 #[.slice a0 len0 cap0, .slice a1 len1 cap1] w fun e w' => e = .returned (.bool true) ∧ Below w.heap.size w w' := by
  by_cases hl : 1048576 < len0
  · have hl' : (1048576 : Int) < (len0 : Int) := by omega
    go_enter Try.func11, Try.ntmps11
    go_wp2_with fail
    go_ret
    exact ⟨rfl, Below.refl _ _⟩
  by_cases hm : 1048576 < len1
  · have hl' : (len0 : Int) ≤ 1048576 := by omega
    have hm' : (1048576 : Int) < (len1 : Int) := by omega
    clear hl
    go_enter Try.func11, Try.ntmps11
    go_wp2_with fail
    go_ret
    exact ⟨rfl, Below.refl _ _⟩
  · have hl' : (len0 : Int) ≤ 1048576 := by omega
    have hm' : (len1 : Int) ≤ 1048576 := by omega
    clear hl hm
    go_enter Try.func11, Try.ntmps11
    go_wp2_with fail
    refine (drawSumNext _ _ _ _ hc).mono ?_
    rintro e w1 ⟨n, s, rfl, n0, n1, hs, hb⟩
    go_wp2_with fail
    refine (nextImpl _ _ _ (by omega) (by omega)).mono ?_
    rintro e w2 ⟨rfl, rfl⟩
    go_wp2_with fail
    refine (nextSpec _ _ _ (by omega) (by omega)).mono ?_
    rintro e w2 ⟨rfl, rfl⟩
    obtain ⟨b0, b1⟩ := next_bd n s.data.toList
    by_cases hn : sumNextV n s.data.toList < 0
    · go_wp2_with fail
      go_ret
      exact ⟨rfl, hb⟩
    have hv := Lib.hid (next_neg n s.data.toList (by omega))
    go_wp2_with fail
    obtain ⟨k, hk, hks⟩ : ∃ k : Nat, (len1 : Int) % ((s.size : Int) + 1) = (k : Int) ∧ k ≤ s.size := ⟨len1 % (s.size + 1), by simp, by have := Nat.mod_lt len1 (show 0 < s.size + 1 by omega); omega⟩
    rw [hk]
    clear hk
    have k0 : (0 : Int) ≤ (k : Int) := by omega
    have k1 : (k : Int) ≤ (s.size : Int) := by omega
    have e0 : (s.extract 0 k).size ≤ 30 := by rw [ByteArray.size_extract]; omega
    have e1 : (s.extract k s.size).size ≤ 30 := by rw [ByteArray.size_extract]; omega
    have c0 := next_bd n (s.data.toList.take k)
    have C1 : ∀ W : World, Calls Try.prog 17 #[.int .i64 n, .string (s.extract 0 k)] W fun e w' => e = .returned (.int .i64 (sumNextV n (s.data.toList.take k))) ∧ w' = W :=
      fun W => (nextImpl n (s.extract 0 k) W (by omega) (by omega)).mono fun _ _ h => ⟨by rw [h.1, ext_first], h.2.symm⟩
    have C2 : ∀ W : World, Calls Try.prog 17 #[.int .i64 (sumNextV n (s.data.toList.take k)), .string (s.extract k s.size)] W fun e w' => e = .returned (.int .i64 (sumNextV n s.data.toList)) ∧ w' = W :=
      fun W => (nextImpl _ (s.extract k s.size) W (by omega) (by omega)).mono fun _ _ h => ⟨by rw [h.1, ext_rest, next_next n _ _ hv.out, List.take_append_drop], h.2.symm⟩
    have H1 := Lib.hid C1
    have H2 := Lib.hid C2
    clear C1 C2 c0
    go_quiet ((first | (go_at_call_of 17 (Value.string (s.extract 0 k)); exact Calls.quiet_of_same (H1.out _)) | (go_at_call_of 17 (Value.string (s.extract k s.size)); exact Calls.quiet_of_same (H2.out _))))
    go_wp2_with fail
    go_ret
    exact ⟨rfl, below_drewN hb _⟩
end Go.Proofs.Ytgbdcpeljbeinaa
