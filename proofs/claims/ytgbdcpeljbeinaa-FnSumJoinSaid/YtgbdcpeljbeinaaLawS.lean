/- The walks of the laws on checksums: each returns true, and nothing that was there turns. -/
import Derived.Test.YtgbdcpeljbeinaaRows
import Derived.Test.YtgbdcpeljbeinaaWalkF
import Derived.Deep.RegionHeld3
import Derived.Deep.RegionWith
import Derived.BigRegion
import Derived.Lib.Strings
import Derived.Laws.Concat
namespace Go.Proofs.Ytgbdcpeljbeinaa
open Go.ChangeShapes Go.WideShapes Go.ChangeAt Go.RowKit
set_option linter.unusedVariables false
theorem ext_one (s : ByteArray) (k : Nat) (h : k < s.size) : (s.extract k (k + 1)).data.toList = [s[k]] := by
  have h' : k < s.data.toList.length := by simpa using h
  simp only [ByteArray.data_extract, Array.toList_extract, List.extract_eq_take_drop]
  rw [show k + 1 - k = 1 by omega, List.drop_eq_getElem_cons h', List.take_succ_cons, List.take_zero]
  rfl
theorem list_two (s : ByteArray) (k : Nat) (h : k + 1 < s.size) : s.data.toList = s.data.toList.take k ++ [s[k]'(by omega), s[k + 1]'h] ++ s.data.toList.drop (k + 2) := by
  have h1 := take_two s k h
  rw [← h1, List.take_append_drop]
theorem swap_iff (s : ByteArray) (k : Nat) (h : k + 1 < s.size) : ((sumOnV 1 0 (s.data.toList.take k ++ [s[k + 1]'h, s[k]'(by omega)] ++ s.data.toList.drop (k + 2)) == sumOnV 1 0 s.data.toList) == (((s[k]'(by omega)).toNat : Int) == ((s[k + 1]'h).toNat : Int))) = true := by
  have hl := list_two s k h
  by_cases e : s[k]'(by omega) = s[k + 1]'h
  · have h1 : sumOnV 1 0 (s.data.toList.take k ++ [s[k + 1]'h, s[k]'(by omega)] ++ s.data.toList.drop (k + 2)) = sumOnV 1 0 s.data.toList := by
      conv => rhs; rw [hl]
      rw [e]
    rw [h1, e]; simp
  · have h1 : (sumOnV 1 0 (s.data.toList.take k ++ [s[k + 1]'h, s[k]'(by omega)] ++ s.data.toList.drop (k + 2)) == sumOnV 1 0 s.data.toList) = false := by
      rw [beq_eq_false_iff_ne]; intro h2
      refine e (bytes_swapped (s.data.toList.take k) (s.data.toList.drop (k + 2)) _ _ ?_)
      rw [h2]; exact congrArg (sumOnV 1 0) hl
    have h2 : (((s[k]'(by omega)).toNat : Int) == ((s[k + 1]'h).toNat : Int)) = false := by
      rw [beq_eq_false_iff_ne]; intro h3; exact e (UInt8.toNat_inj.1 (by omega))
    rw [h1, h2]; rfl
theorem list_at (s : ByteArray) (k : Nat) (h : k < s.size) : s.data.toList = s.data.toList.take k ++ [s[k]] ++ s.data.toList.drop (k + 1) := by
  have h1 := byte_take_snoc s k h
  rw [← h1, List.take_append_drop]
theorem byte_next (s : ByteArray) (k : Nat) (h : k < s.size) : sumOnV 1 0 (s.data.toList.take k ++ UInt8.ofNat (IntKind.u8.wrap ((s[k].toNat : Int) + 1)).toNat :: s.data.toList.drop (k + 1)) ≠ sumOnV 1 0 s.data.toList := by
  rw [← List.singleton_append, ← List.append_assoc]
  conv => rhs; rw [list_at s k h]
  refine byte_changed _ _ _ _ ?_
  intro e
  have e1 := congrArg UInt8.toNat e
  rw [UInt8.toNat_ofNat', IntKind.wrap_u8] at e1
  have := s[k].toNat_lt
  omega
set_option maxRecDepth 100000 in
theorem FnSumEmpty_walk (a0 : Option Addr) (len0 cap0 : Nat) (w : World) (hc : CodeOf w a0 len0 cap0) :
    Calls Try.prog 7 #[.slice a0 len0 cap0] w fun e w' => e = .returned (.bool true) ∧ Below w.heap.size w w' := by
  by_cases hl : 1048576 < len0
  · have hl' : (1048576 : Int) < (len0 : Int) := by omega
    go_enter Try.func7, Try.ntmps7
    go_wp2_with fail
    go_ret
    exact ⟨rfl, Below.refl _ _⟩
  · have hl' : (len0 : Int) ≤ 1048576 := by omega
    clear hl
    go_enter Try.func7, Try.ntmps7
    go_wp2_with fail
    refine (drawSumText _ _ _ _ hc).mono ?_
    rintro e w1 ⟨s, rfl, hs, hb⟩
    go_wp2_with fail
    refine (textImpl _ _ (by omega)).mono ?_
    rintro e w2 ⟨rfl, rfl⟩
    go_wp2_with fail
    refine (textSpec _ _ (by omega)).mono ?_
    rintro e w2 ⟨rfl, rfl⟩
    go_wp2_with fail
    refine (textImpl _ _ (by decide)).mono ?_
    rintro e w2 ⟨rfl, rfl⟩
    have h1 := sumOnV_parts 1 0 s.data.toList (by omega) (by omega)
    rw [show sumOnV 1 0 (⟨#[]⟩ : ByteArray).data.toList = 1 from rfl]
    go_wp2_with fail
    refine (nextImpl _ _ _ (by omega) (by decide)).mono ?_
    rintro e w2 ⟨rfl, rfl⟩
    rw [next_sumOn 1 0 _ _ (by omega) (by omega), List.append_nil]
    go_wp2_with fail
    go_ret
    exact ⟨rfl, hb⟩
set_option maxRecDepth 100000 in
theorem FnSumJoin_walk (a0 : Option Addr) (len0 cap0 : Nat) (a1 : Option Addr) (len1 cap1 : Nat) (w : World) (hc : CodeOf w a0 len0 cap0) :
    Calls Try.prog 8 #[.slice a0 len0 cap0, .slice a1 len1 cap1] w fun e w' => e = .returned (.bool true) ∧ Below w.heap.size w w' := by
  by_cases hl : 1048576 < len0
  · have hl' : (1048576 : Int) < (len0 : Int) := by omega
    go_enter Try.func8, Try.ntmps8
    go_wp2_with fail
    go_ret
    exact ⟨rfl, Below.refl _ _⟩
  by_cases hm : 1048576 < len1
  · have hl' : (len0 : Int) ≤ 1048576 := by omega
    have hm' : (1048576 : Int) < (len1 : Int) := by omega
    clear hl
    go_enter Try.func8, Try.ntmps8
    go_wp2_with fail
    go_ret
    exact ⟨rfl, Below.refl _ _⟩
  · have hl' : (len0 : Int) ≤ 1048576 := by omega
    have hm' : (len1 : Int) ≤ 1048576 := by omega
    clear hl hm
    go_enter Try.func8, Try.ntmps8
    go_wp2_with fail
    refine (drawSumText _ _ _ _ hc).mono ?_
    rintro e w1 ⟨s, rfl, hs, hb⟩
    go_wp2_with fail
    refine (textImpl _ _ (by omega)).mono ?_
    rintro e w2 ⟨rfl, rfl⟩
    go_wp2_with fail
    refine (textSpec _ _ (by omega)).mono ?_
    rintro e w2 ⟨rfl, rfl⟩
    go_wp2_with fail
    obtain ⟨k, hk, hks⟩ : ∃ k : Nat, (len1 : Int) % ((s.size : Int) + 1) = (k : Int) ∧ k ≤ s.size := ⟨len1 % (s.size + 1), by simp, by have := Nat.mod_lt len1 (show 0 < s.size + 1 by omega); omega⟩
    rw [hk]
    clear hk
    have k0 : (0 : Int) ≤ (k : Int) := by omega
    have k1 : (k : Int) ≤ (s.size : Int) := by omega
    have e0 : (s.extract 0 k).size ≤ 30 := by rw [ByteArray.size_extract]; omega
    have e1 : (s.extract k s.size).size ≤ 30 := by rw [ByteArray.size_extract]; omega
    have b0 := sumOnV_parts 1 0 (s.data.toList.take k) (by omega) (by omega)
    have C1 : ∀ W : World, Calls Try.prog 14 #[.string (s.extract 0 k)] W fun e w' => e = .returned (.int .i64 (sumOnV 1 0 (s.data.toList.take k))) ∧ w' = W :=
      fun W => (textImpl (s.extract 0 k) W (by omega)).mono fun _ _ h => ⟨by rw [h.1, ext_first], h.2.symm⟩
    have C2 : ∀ W : World, Calls Try.prog 17 #[.int .i64 (sumOnV 1 0 (s.data.toList.take k)), .string (s.extract k s.size)] W fun e w' => e = .returned (.int .i64 (sumOnV 1 0 s.data.toList)) ∧ w' = W :=
      fun W => (nextImpl _ (s.extract k s.size) W (by omega) (by omega)).mono fun _ _ h => ⟨by rw [h.1, ext_rest, next_sumOn 1 0 _ _ (by omega) (by omega), List.take_append_drop], h.2.symm⟩
    have H1 := Lib.hid C1
    have H2 := Lib.hid C2
    clear C1 C2 b0
    go_quiet ((first | (go_at_call 14; exact Calls.quiet_of_same (H1.out _)) | (go_at_call 17; exact Calls.quiet_of_same (H2.out _))))
    go_wp2_with fail
    go_ret
    exact ⟨rfl, below_drewN hb _⟩
set_option maxRecDepth 100000 in
theorem FnSumByte_walk (a0 : Option Addr) (len0 cap0 : Nat) (a1 : Option Addr) (len1 cap1 : Nat) (w : World) (hc : CodeOf w a0 len0 cap0) :
    Calls Try.prog 3 #[.slice a0 len0 cap0, .slice a1 len1 cap1] w fun e w' => e = .returned (.bool true) ∧ Below w.heap.size w w' := by
  by_cases hl : 1048576 < len0
  · have hl' : (1048576 : Int) < (len0 : Int) := by omega
    go_enter Try.func3, Try.ntmps3
    go_wp2_with fail
    go_ret
    exact ⟨rfl, Below.refl _ _⟩
  by_cases hm : 1048576 < len1
  · have hl' : (len0 : Int) ≤ 1048576 := by omega
    have hm' : (1048576 : Int) < (len1 : Int) := by omega
    clear hl
    go_enter Try.func3, Try.ntmps3
    go_wp2_with fail
    go_ret
    exact ⟨rfl, Below.refl _ _⟩
  · have hl' : (len0 : Int) ≤ 1048576 := by omega
    have hm' : (len1 : Int) ≤ 1048576 := by omega
    clear hl hm
    go_enter Try.func3, Try.ntmps3
    go_wp2_with fail
    refine (drawSumText _ _ _ _ hc).mono ?_
    rintro e w1 ⟨s, rfl, hs, hb⟩
    go_wp2_with fail
    refine (textImpl _ _ (by omega)).mono ?_
    rintro e w2 ⟨rfl, rfl⟩
    go_wp2_with fail
    refine (textSpec _ _ (by omega)).mono ?_
    rintro e w2 ⟨rfl, rfl⟩
    by_cases hz : s.size = 0
    · have hE : s.toList.isEmpty = true := by rw [Lib.toList_data, List.isEmpty_iff]; exact List.eq_nil_of_length_eq_zero (by simpa using hz)
      clear hz
      go_wp2_with fail
      go_ret
      exact ⟨rfl, hb⟩
    have hE : s.toList.isEmpty = false := by
      rw [Lib.toList_data, List.isEmpty_eq_false_iff]; intro h; exact hz (by have := congrArg List.length h; simpa using this)
    have hz1 : ¬ s = ByteArray.empty := fun h => hz (by rw [h]; rfl)
    have hz2 : (0 : Int) < (s.size : Int) := by omega
    have hz3 : 0 < s.size := by omega
    clear hz
    go_wp2_with fail
    obtain ⟨k, hk, hks⟩ : ∃ k : Nat, (len1 : Int) % ((s.size : Int)) = (k : Int) ∧ k < s.size := ⟨len1 % s.size, by simp, Nat.mod_lt len1 hz3⟩
    rw [hk]
    clear hk
    have k0 : (0 : Int) ≤ (k : Int) := by omega
    have k1 : (k : Int) ≤ (s.size : Int) := by omega
    have k2 : (k : Int) < (s.size : Int) := by omega
    have k3 : (k : Int) + 1 ≤ (s.size : Int) := by omega
    have k4 : IntKind.i64.wrap ((k : Int) + 1) = (k : Int) + 1 := wrap_in _ (by omega)
    have k5 : ((k : Int) + 1).toNat = k + 1 := by omega
    have k6 : (0 : Int) ≤ (k : Int) + 1 := by omega
    have z0 : (s.extract 0 k).size ≤ 30 := by rw [ByteArray.size_extract]; omega
    have z1 : (s.extract (k + 1) s.size).size ≤ 30 := by rw [ByteArray.size_extract]; omega
    have z2 : ∀ x : Int, (strNums [x]).size ≤ 1 := fun x => Nat.le_refl _
    have ad1 : ∀ (W : World) (x : Int), (Op.stringOp .add (s.extract 0 k) (strNums [x])).run Try.prog W = .ok (.string (s.extract 0 k ++ strNums [x])) W := fun W x => run_string_add_sum W _ _ (by have := z2 x; omega)
    have ad2 : ∀ (W : World) (x : Int), (Op.stringOp .add (s.extract 0 k ++ strNums [x]) (s.extract (k + 1) s.size)).run Try.prog W = .ok (.string (s.extract 0 k ++ strNums [x] ++ s.extract (k + 1) s.size)) W := fun W x => run_string_add_sum W _ _ (by rw [ByteArray.size_append]; have := z2 x; omega)
    have hcv := fun (W : World) (x : Int) => conv_one_drew (P := Try.prog) W 22 5 Try.underlying22 Try.underlying5 9 Try.underlying9 x
    have C1 : ∀ (W : World) (x : Int), Calls Try.prog 14 #[.string (s.extract 0 k ++ strNums [x] ++ s.extract (k + 1) s.size)] W fun e w' => e = .returned (.int .i64 (sumOnV 1 0 (s.data.toList.take k ++ [UInt8.ofNat x.toNat] ++ s.data.toList.drop (k + 1)))) ∧ W = w' :=
      fun W x => (textImpl _ W (by rw [ByteArray.size_append, ByteArray.size_append]; have := z2 x; omega)).mono fun _ _ h => ⟨by rw [h.1, ByteArray.data_append, ByteArray.data_append, Array.toList_append, Array.toList_append, ext_first, ext_rest]; rfl, h.2⟩
    have H1 := Lib.hid C1
    clear C1
    go_region_with (go_at_call 14; refine (H1.out _ _).mono ?_; rintro e W ⟨rfl, rfl⟩)
    go_wp2_with fail
    go_ret
    exact ⟨s_retb (by rw [bne_iff_ne]; exact byte_next s k hks), (hb.alloc hb.size _).drew⟩
set_option maxRecDepth 100000 in
theorem FnSumSwap_walk (a0 : Option Addr) (len0 cap0 : Nat) (a1 : Option Addr) (len1 cap1 : Nat) (w : World) (hc : CodeOf w a0 len0 cap0) :
    Calls Try.prog 4 #[.slice a0 len0 cap0, .slice a1 len1 cap1] w fun e w' => e = .returned (.bool true) ∧ Below w.heap.size w w' := by
  by_cases hl : 1048576 < len0
  · have hl' : (1048576 : Int) < (len0 : Int) := by omega
    go_enter Try.func4, Try.ntmps4
    go_wp2_with fail
    go_ret
    exact ⟨rfl, Below.refl _ _⟩
  by_cases hm : 1048576 < len1
  · have hl' : (len0 : Int) ≤ 1048576 := by omega
    have hm' : (1048576 : Int) < (len1 : Int) := by omega
    clear hl
    go_enter Try.func4, Try.ntmps4
    go_wp2_with fail
    go_ret
    exact ⟨rfl, Below.refl _ _⟩
  · have hl' : (len0 : Int) ≤ 1048576 := by omega
    have hm' : (len1 : Int) ≤ 1048576 := by omega
    clear hl hm
    go_enter Try.func4, Try.ntmps4
    go_wp2_with fail
    refine (drawSumText _ _ _ _ hc).mono ?_
    rintro e w1 ⟨s, rfl, hs, hb⟩
    go_wp2_with fail
    refine (textImpl _ _ (by omega)).mono ?_
    rintro e w2 ⟨rfl, rfl⟩
    go_wp2_with fail
    refine (textSpec _ _ (by omega)).mono ?_
    rintro e w2 ⟨rfl, rfl⟩
    by_cases hz : s.size < 2
    · have hz1 : (s.size : Int) < 2 := by omega
      clear hz
      go_wp2_with fail
      go_ret
      exact ⟨rfl, hb⟩
    have hz1 : (2 : Int) ≤ (s.size : Int) := by omega
    go_wp2_with fail
    obtain ⟨k, hk, hks⟩ : ∃ k : Nat, (len1 : Int) % ((s.size : Int) - 1) = (k : Int) ∧ k + 2 ≤ s.size := ⟨len1 % (s.size - 1), by rw [show (s.size : Int) - 1 = ((s.size - 1 : Nat) : Int) by omega]; simp, by have := Nat.mod_lt len1 (show 0 < s.size - 1 by omega); omega⟩
    rw [hk]
    clear hk hz
    have k0 : (0 : Int) ≤ (k : Int) := by omega
    have k1 : (k : Int) ≤ (s.size : Int) := by omega
    have k2 : (k : Int) < (s.size : Int) := by omega
    have k3 : (k : Int) + 1 ≤ (s.size : Int) := by omega
    have k3' : (k : Int) + 1 < (s.size : Int) := by omega
    have k4 : IntKind.i64.wrap ((k : Int) + 1) = (k : Int) + 1 := wrap_in _ (by omega)
    have k5 : ((k : Int) + 1).toNat = k + 1 := by omega
    have k6 : (0 : Int) ≤ (k : Int) + 1 := by omega
    have j3 : (k : Int) + 2 ≤ (s.size : Int) := by omega
    have j4 : IntKind.i64.wrap ((k : Int) + 2) = (k : Int) + 2 := wrap_in _ (by omega)
    have j5 : ((k : Int) + 2).toNat = k + 2 := by omega
    have j6 : (0 : Int) ≤ (k : Int) + 2 := by omega
    have j7 : (k : Int) + 1 ≤ (k : Int) + 2 := by omega
    have j8 : (k : Int) ≤ (k : Int) + 1 := by omega
    have z0 : (s.extract 0 k).size ≤ 30 := by rw [ByteArray.size_extract]; omega
    have z1 : (s.extract (k + 1) (k + 2)).size ≤ 30 := by rw [ByteArray.size_extract]; omega
    have z2 : (s.extract k (k + 1)).size ≤ 30 := by rw [ByteArray.size_extract]; omega
    have z3 : (s.extract (k + 2) s.size).size ≤ 30 := by rw [ByteArray.size_extract]; omega
    have ad1 : ∀ (W : World), (Op.stringOp .add (s.extract 0 k) (s.extract (k + 1) (k + 2))).run Try.prog W = .ok (.string (s.extract 0 k ++ s.extract (k + 1) (k + 2))) W := fun W => run_string_add_sum W _ _ (by omega)
    have ad2 : ∀ (W : World), (Op.stringOp .add (s.extract 0 k ++ s.extract (k + 1) (k + 2)) (s.extract k (k + 1))).run Try.prog W = .ok (.string (s.extract 0 k ++ s.extract (k + 1) (k + 2) ++ s.extract k (k + 1))) W := fun W => run_string_add_sum W _ _ (by rw [ByteArray.size_append]; omega)
    have ad3 : ∀ (W : World), (Op.stringOp .add (s.extract 0 k ++ s.extract (k + 1) (k + 2) ++ s.extract k (k + 1)) (s.extract (k + 2) s.size)).run Try.prog W = .ok (.string (s.extract 0 k ++ s.extract (k + 1) (k + 2) ++ s.extract k (k + 1) ++ s.extract (k + 2) s.size)) W := fun W => run_string_add_sum W _ _ (by rw [ByteArray.size_append, ByteArray.size_append]; omega)
    have C1 : ∀ (W : World), Calls Try.prog 14 #[.string (s.extract 0 k ++ s.extract (k + 1) (k + 2) ++ s.extract k (k + 1) ++ s.extract (k + 2) s.size)] W fun e w' => e = .returned (.int .i64 (sumOnV 1 0 (s.data.toList.take k ++ [s[k + 1]'(by omega), s[k]'(by omega)] ++ s.data.toList.drop (k + 2)))) ∧ w' = W :=
      fun W => (textImpl _ W (by rw [ByteArray.size_append, ByteArray.size_append, ByteArray.size_append]; omega)).mono fun _ _ h => ⟨by
        rw [h.1, ByteArray.data_append, ByteArray.data_append, ByteArray.data_append, Array.toList_append, Array.toList_append, Array.toList_append, ext_first, ext_rest, ext_one s (k + 1) (by omega), ext_one s k (by omega), List.append_assoc (s.data.toList.take k)]; rfl, h.2.symm⟩
    have H1 := Lib.hid C1
    clear C1
    go_quiet (fail)
    replace hb : Below w.heap.size w (w1.drewN nq) := below_drewN hb nq
    generalize w1.drewN nq = wq at hb ⊢
    go_wp2_with fail
    go_quiet ((go_at_call 14; exact Calls.quiet_of_same (H1.out _)))
    go_wp2_with fail
    go_ret
    exact ⟨s_retb (by have h := swap_iff s k (by omega); rw [List.append_assoc] at h; exact h), below_drewN hb _⟩
set_option maxRecDepth 100000 in
theorem FnSumZero_walk (a0 : Option Addr) (len0 cap0 : Nat) (w : World) (hc : CodeOf w a0 len0 cap0) :
    Calls Try.prog 5 #[.slice a0 len0 cap0] w fun e w' => e = .returned (.bool true) ∧ Below w.heap.size w w' := by
  by_cases hl : 1048576 < len0
  · have hl' : (1048576 : Int) < (len0 : Int) := by omega
    go_enter Try.func5, Try.ntmps5
    go_wp2_with fail
    go_ret
    exact ⟨rfl, Below.refl _ _⟩
  · have hl' : (len0 : Int) ≤ 1048576 := by omega
    clear hl
    go_enter Try.func5, Try.ntmps5
    go_wp2_with fail
    refine (drawSumText _ _ _ _ hc).mono ?_
    rintro e w1 ⟨s, rfl, hs, hb⟩
    go_wp2_with fail
    refine (textImpl _ _ (by omega)).mono ?_
    rintro e w2 ⟨rfl, rfl⟩
    go_wp2_with fail
    refine (textSpec _ _ (by omega)).mono ?_
    rintro e w2 ⟨rfl, rfl⟩
    have ad1 : ∀ (W : World), (Op.stringOp .add s ⟨#[0]⟩).run Try.prog W = .ok (.string (s ++ ⟨#[0]⟩)) W := fun W => run_string_add_sum W _ _ (by show s.size + 1 ≤ _; omega)
    have C1 : ∀ (W : World), Calls Try.prog 14 #[.string (s ++ ⟨#[0]⟩)] W fun e w' => e = .returned (.int .i64 (sumOnV 1 0 (s.data.toList ++ [0]))) ∧ W = w' :=
      fun W => (textImpl _ W (by rw [ByteArray.size_append]; show s.size + 1 ≤ _; omega)).mono fun _ _ h => ⟨by rw [h.1, ByteArray.data_append, Array.toList_append], h.2⟩
    have H1 := Lib.hid C1
    clear C1
    go_wp2_with fail
    refine (H1.out _).mono ?_
    rintro e w2 ⟨rfl, rfl⟩
    go_wp2_with fail
    go_ret
    exact ⟨s_retb (by rw [bne_iff_ne]; exact byte_zero _ (by simp; omega)), hb⟩
end Go.Proofs.Ytgbdcpeljbeinaa
