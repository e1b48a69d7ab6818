/- The walks of the laws on numbers of two and of four bytes: each returns true, and nothing that was there turns. -/
import Derived.Test.YtldiamafbcopmaaRows
import Derived.Test.YtldiamafbcopmaaWalkJ
import Derived.Laws.Concat
import Derived.LoopTactic
namespace Go.Proofs.Ytldiamafbcopmaa
open Go.ChangeShapes Go.WideShapes Go.ChangeAt Go.RowKit
set_option linter.unusedVariables false
set_option maxRecDepth 100000 in
theorem FnWordPut_walk (a0 : Option Addr) (len0 cap0 : Nat) (w : World) (hc : CodeOf w a0 len0 cap0) :
    Calls Try.prog 7 #[.slice a0 len0 cap0] w fun e w' => e = .returned (.bool true) ∧ Below w.heap.size w w' := by
  by_cases hl : 1048576 < len0
  · have hl' : (1048576 : Int) < (len0 : Int) := by omega
    go_enter Try.func7, Try.ntmps7
    go_wp2_with fail
    go_ret
    exact ⟨rfl, Below.refl _ _⟩
  · have hl' : (len0 : Int) ≤ 1048576 := by omega
    clear hl
    go_enter Try.func7, Try.ntmps7
    go_wp2_with fail
    refine (drawWordPut _ _ _ _ hc).mono ?_
    rintro e w1 ⟨n, rfl, n0, n1, hb⟩
    by_cases hn : 0 ≤ n ∧ n ≤ 65535
    case neg =>
      go_wp2_with fail
      refine (wput_no _ _ hn).mono ?_
      rintro e w2 ⟨rfl, hb2⟩
      go_wp2_with fail
      refine (swput_no _ _ hn).mono ?_
      rintro e w3 ⟨rfl, hb3⟩
      have B := Lib.hid ((hb.trans (hb2.mono hb.size)).trans (hb3.mono (Nat.le_trans hb.size hb2.size)))
      clear hb hb2 hb3
      go_wp2_with fail
      all_goals go_ret
      all_goals exact ⟨w_retb (by first | rfl | (simp; done) | (simp; omega)), B.out⟩
    obtain ⟨h0, h1⟩ := hn
    go_wp2_with fail
    refine (wput_yes _ _ h0 h1).mono ?_
    rintro e w2 ⟨rfl, hb2⟩
    go_wp2_with fail
    refine (swput_yes _ _ h0 h1).mono ?_
    rintro e w3 ⟨rfl, hb3⟩
    have hb' := (hb.trans (hb2.mono hb.size)).trans (hb3.mono (Nat.le_trans hb.size hb2.size))
    clear hb hb2 hb3
    have sz := Lib.hid (wordS_sz n)
    have bs := wordS_bytes n h0 h1
    have hx : byteV (wordS n) 0 * 256 + byteV (wordS n) (0 + 1) = n := by rw [Nat.zero_add, bs.1, bs.2]; omega
    have HX := Lib.hid hx
    clear bs hx
    go_wp2_with fail
    refine (wget_yes (wordS n) 0 _ (by rw [sz.out]; omega) (by rw [sz.out]; omega)).mono ?_
    rintro e w4 ⟨rfl, hb4⟩
    rw [HX.out]
    go_wp2_with fail
    go_ret
    exact ⟨w_retb (by rw [sz.out]; simp), hb'.trans (hb4.mono hb'.size)⟩
set_option maxRecDepth 100000 in
theorem FnWordPutRange_walk (a0 : Option Addr) (len0 cap0 : Nat) (w : World) (hc : CodeOf w a0 len0 cap0) :
    Calls Try.prog 5 #[.slice a0 len0 cap0] w fun e w' => e = .returned (.bool true) ∧ Below w.heap.size w w' := by
  by_cases hl : 1048576 < len0
  · have hl' : (1048576 : Int) < (len0 : Int) := by omega
    go_enter Try.func5, Try.ntmps5
    go_wp2_with fail
    go_ret
    exact ⟨rfl, Below.refl _ _⟩
  · have hl' : (len0 : Int) ≤ 1048576 := by omega
    clear hl
    go_enter Try.func5, Try.ntmps5
    go_wp2_with fail
    refine (drawWordPut _ _ _ _ hc).mono ?_
    rintro e w1 ⟨n, rfl, n0, n1, hb⟩
    by_cases hn : 0 ≤ n ∧ n ≤ 65535
    case neg =>
      go_wp2_with fail
      refine (wput_no _ _ hn).mono ?_
      rintro e w2 ⟨rfl, hb2⟩
      go_wp2_with fail
      refine (swput_no _ _ hn).mono ?_
      rintro e w3 ⟨rfl, hb3⟩
      have B := Lib.hid ((hb.trans (hb2.mono hb.size)).trans (hb3.mono (Nat.le_trans hb.size hb2.size)))
      clear hb hb2 hb3
      go_wp2_with fail
      all_goals go_ret
      all_goals exact ⟨w_retb (by first | rfl | (simp; done) | (simp; omega)), B.out⟩
    obtain ⟨h0, h1⟩ := hn
    go_wp2_with fail
    refine (wput_yes _ _ h0 h1).mono ?_
    rintro e w2 ⟨rfl, hb2⟩
    go_wp2_with fail
    refine (swput_yes _ _ h0 h1).mono ?_
    rintro e w3 ⟨rfl, hb3⟩
    have hb' := (hb.trans (hb2.mono hb.size)).trans (hb3.mono (Nat.le_trans hb.size hb2.size))
    clear hb hb2 hb3
    go_wp2_with fail
    go_ret
    exact ⟨w_retb (by first | (simp; done) | (simp; omega)), hb'⟩
set_option maxRecDepth 100000 in
theorem FnLongPutRange_walk (a0 : Option Addr) (len0 cap0 : Nat) (w : World) (hc : CodeOf w a0 len0 cap0) :
    Calls Try.prog 9 #[.slice a0 len0 cap0] w fun e w' => e = .returned (.bool true) ∧ Below w.heap.size w w' := by
  by_cases hl : 1048576 < len0
  · have hl' : (1048576 : Int) < (len0 : Int) := by omega
    go_enter Try.func9, Try.ntmps9
    go_wp2_with fail
    go_ret
    exact ⟨rfl, Below.refl _ _⟩
  · have hl' : (len0 : Int) ≤ 1048576 := by omega
    clear hl
    go_enter Try.func9, Try.ntmps9
    go_wp2_with fail
    refine (drawLongPut _ _ _ _ hc).mono ?_
    rintro e w1 ⟨n, rfl, n0, n1, hb⟩
    by_cases hn : 0 ≤ n ∧ n ≤ 4294967295
    case neg =>
      go_wp2_with fail
      refine (lput_no _ _ hn).mono ?_
      rintro e w2 ⟨rfl, hb2⟩
      go_wp2_with fail
      refine (slput_no _ _ hn).mono ?_
      rintro e w3 ⟨rfl, hb3⟩
      have B := Lib.hid ((hb.trans (hb2.mono hb.size)).trans (hb3.mono (Nat.le_trans hb.size hb2.size)))
      clear hb hb2 hb3
      go_wp2_with fail
      all_goals go_ret
      all_goals exact ⟨w_retb (by first | rfl | (simp; done) | (simp; omega)), B.out⟩
    obtain ⟨h0, h1⟩ := hn
    go_wp2_with fail
    refine (lput_yes _ _ h0 h1).mono ?_
    rintro e w2 ⟨rfl, hb2⟩
    go_wp2_with fail
    refine (slput_yes _ _ h0 h1).mono ?_
    rintro e w3 ⟨rfl, hb3⟩
    have hb' := (hb.trans (hb2.mono hb.size)).trans (hb3.mono (Nat.le_trans hb.size hb2.size))
    clear hb hb2 hb3
    go_wp2_with fail
    go_ret
    exact ⟨w_retb (by first | (simp; done) | (simp; omega)), hb'⟩
set_option maxRecDepth 100000 in
theorem FnLongPut_walk (a0 : Option Addr) (len0 cap0 : Nat) (w : World) (hc : CodeOf w a0 len0 cap0) :
    Calls Try.prog 10 #[.slice a0 len0 cap0] w fun e w' => e = .returned (.bool true) ∧ Below w.heap.size w w' := by
  by_cases hl : 1048576 < len0
  · have hl' : (1048576 : Int) < (len0 : Int) := by omega
    go_enter Try.func10, Try.ntmps10
    go_wp2_with fail
    go_ret
    exact ⟨rfl, Below.refl _ _⟩
  · have hl' : (len0 : Int) ≤ 1048576 := by omega
    clear hl
    go_enter Try.func10, Try.ntmps10
    go_wp2_with fail
    refine (drawLongPut _ _ _ _ hc).mono ?_
    rintro e w1 ⟨n, rfl, n0, n1, hb⟩
    by_cases hn : 0 ≤ n ∧ n ≤ 4294967295
    case neg =>
      go_wp2_with fail
      refine (lput_no _ _ hn).mono ?_
      rintro e w2 ⟨rfl, hb2⟩
      go_wp2_with fail
      refine (slput_no _ _ hn).mono ?_
      rintro e w3 ⟨rfl, hb3⟩
      have B := Lib.hid ((hb.trans (hb2.mono hb.size)).trans (hb3.mono (Nat.le_trans hb.size hb2.size)))
      clear hb hb2 hb3
      go_wp2_with fail
      all_goals go_ret
      all_goals exact ⟨w_retb (by first | rfl | (simp; done) | (simp; omega)), B.out⟩
    obtain ⟨h0, h1⟩ := hn
    go_wp2_with fail
    refine (lput_yes _ _ h0 h1).mono ?_
    rintro e w2 ⟨rfl, hb2⟩
    go_wp2_with fail
    refine (slput_yes _ _ h0 h1).mono ?_
    rintro e w3 ⟨rfl, hb3⟩
    have hb' := (hb.trans (hb2.mono hb.size)).trans (hb3.mono (Nat.le_trans hb.size hb2.size))
    clear hb hb2 hb3
    have sz := Lib.hid (longS_sz n)
    have bs := longS_bytes n h0 h1
    have hx : byteV (longS n) 0 * 16777216 + byteV (longS n) (0 + 1) * 65536 + byteV (longS n) (0 + 2) * 256 + byteV (longS n) (0 + 3) = n := by
      rw [Nat.zero_add, Nat.zero_add, Nat.zero_add, bs.1, bs.2.1, bs.2.2.1, bs.2.2.2]; omega
    have HX := Lib.hid hx
    clear bs hx
    go_wp2_with fail
    refine (lget_yes (longS n) 0 _ (by rw [sz.out]; omega) (by rw [sz.out]; omega)).mono ?_
    rintro e w4 ⟨rfl, hb4⟩
    rw [HX.out]
    go_wp2_with fail
    go_ret
    exact ⟨w_retb (by rw [sz.out]; simp), hb'.trans (hb4.mono hb'.size)⟩
set_option maxRecDepth 100000 in
theorem FnLongWords_walk (a0 : Option Addr) (len0 cap0 : Nat) (w : World) (hc : CodeOf w a0 len0 cap0) :
    Calls Try.prog 11 #[.slice a0 len0 cap0] w fun e w' => e = .returned (.bool true) ∧ Below w.heap.size w w' := by
  by_cases hl : 1048576 < len0
  · have hl' : (1048576 : Int) < (len0 : Int) := by omega
    go_enter Try.func11, Try.ntmps11
    go_wp2_with fail
    go_ret
    exact ⟨rfl, Below.refl _ _⟩
  · have hl' : (len0 : Int) ≤ 1048576 := by omega
    clear hl
    go_enter Try.func11, Try.ntmps11
    go_wp2_with fail
    refine (drawLongPut _ _ _ _ hc).mono ?_
    rintro e w1 ⟨n, rfl, n0, n1, hb⟩
    by_cases hn : 0 ≤ n ∧ n ≤ 4294967295
    case neg =>
      go_wp2_with fail
      refine (lput_no _ _ hn).mono ?_
      rintro e w2 ⟨rfl, hb2⟩
      go_wp2_with fail
      refine (slput_no _ _ hn).mono ?_
      rintro e w3 ⟨rfl, hb3⟩
      have B := Lib.hid ((hb.trans (hb2.mono hb.size)).trans (hb3.mono (Nat.le_trans hb.size hb2.size)))
      clear hb hb2 hb3
      go_wp2_with fail
      all_goals go_ret
      all_goals exact ⟨w_retb (by first | rfl | (simp; done) | (simp; omega)), B.out⟩
    obtain ⟨h0, h1⟩ := hn
    go_wp2_with fail
    refine (lput_yes _ _ h0 h1).mono ?_
    rintro e w2 ⟨rfl, hb2⟩
    go_wp2_with fail
    refine (slput_yes _ _ h0 h1).mono ?_
    rintro e w3 ⟨rfl, hb3⟩
    have hb' := (hb.trans (hb2.mono hb.size)).trans (hb3.mono (Nat.le_trans hb.size hb2.size))
    clear hb hb2 hb3
    have z0 : (wordS (n / 65536)).size ≤ 2 := wordS_size _
    have z1 : (wordS (n % 65536)).size ≤ 2 := wordS_size _
    have HL := Lib.hid (show longS n = wordS (n / 65536) ++ wordS (n % 65536) from rfl)
    go_wp2_with fail
    refine (wput_yes _ _ (by omega) (by omega)).mono ?_
    rintro e w4 ⟨rfl, hb4⟩
    go_wp2_with fail
    refine (wput_yes _ _ (by omega) (by omega)).mono ?_
    rintro e w5 ⟨rfl, hb5⟩
    have hb4' := hb'.trans (hb4.mono hb'.size)
    have hb5' := hb4'.trans (hb5.mono hb4'.size)
    clear hb' hb4 hb5 hb4'
    rw [HL.out]
    go_wp2_with fail
    go_ret
    exact ⟨w_retb (by simp), hb5'⟩
set_option maxRecDepth 100000 in
theorem FnWordGet_walk (a0 : Option Addr) (len0 cap0 : Nat) (w : World) (hc : CodeOf w a0 len0 cap0) :
    Calls Try.prog 6 #[.slice a0 len0 cap0] w fun e w' => e = .returned (.bool true) ∧ Below w.heap.size w w' := by
  by_cases hl : 1048576 < len0
  · have hl' : (1048576 : Int) < (len0 : Int) := by omega
    go_enter Try.func6, Try.ntmps6
    go_wp2_with fail
    go_ret
    exact ⟨rfl, Below.refl _ _⟩
  · have hl' : (len0 : Int) ≤ 1048576 := by omega
    clear hl
    go_enter Try.func6, Try.ntmps6
    go_wp2_with fail
    refine (drawWordGet _ _ _ _ hc).mono ?_
    rintro e w1 ⟨s, n, rfl, hs, n0, n1, hb⟩
    by_cases hn : 0 ≤ n ∧ n ≤ (s.size : Int) - 2
    case neg =>
      go_wp2_with fail
      refine (wget_no _ _ _ hn (by omega)).mono ?_
      rintro e w2 ⟨rfl, hb2⟩
      go_wp2_with fail
      refine (swget_no _ _ _ hn (by omega)).mono ?_
      rintro e w3 ⟨rfl, hb3⟩
      have B := Lib.hid ((hb.trans (hb2.mono hb.size)).trans (hb3.mono (Nat.le_trans hb.size hb2.size)))
      clear hb hb2 hb3
      go_wp2_with fail
      all_goals go_ret
      all_goals exact ⟨w_retb (by first | rfl | (simp; done) | (simp; omega)), B.out⟩
    obtain ⟨k, rfl⟩ := Int.eq_ofNat_of_zero_le hn.1
    have hk : k + 2 ≤ s.size := by omega
    clear hn
    have bd := byteV_bd s
    go_wp2_with fail
    refine (wget_yes _ _ _ hk (by omega)).mono ?_
    rintro e w2 ⟨rfl, hb2⟩
    go_wp2_with fail
    refine (swget_yes _ _ _ hk (by omega)).mono ?_
    rintro e w3 ⟨rfl, hb3⟩
    have hb' := (hb.trans (hb2.mono hb.size)).trans (hb3.mono (Nat.le_trans hb.size hb2.size))
    clear hb hb2 hb3
    have b0 := bd k
    have b1 := bd (k + 1)
    have HW := Lib.hid (word_back s k hk)
    have k0 : (0 : Int) ≤ (k : Int) := by omega
    have k1 : (k : Int) + 2 ≤ (s.size : Int) := by omega
    have k2 : (k : Int) ≤ (k : Int) + 2 := by omega
    clear bd
    go_wp2_with fail
    refine (wput_yes _ _ (by omega) (by omega)).mono ?_
    rintro e w4 ⟨rfl, hb4⟩
    rw [HW.out]
    have B := Lib.hid (hb'.trans (hb4.mono hb'.size))
    clear hb' hb4
    go_wp2_with fail
    go_ret
    exact ⟨w_retb (by simp), B.out⟩
set_option maxRecDepth 100000 in
theorem FnWordGetPlace_walk (a0 : Option Addr) (len0 cap0 : Nat) (w : World) (hc : CodeOf w a0 len0 cap0) :
    Calls Try.prog 4 #[.slice a0 len0 cap0] w fun e w' => e = .returned (.bool true) ∧ Below w.heap.size w w' := by
  by_cases hl : 1048576 < len0
  · have hl' : (1048576 : Int) < (len0 : Int) := by omega
    go_enter Try.func4, Try.ntmps4
    go_wp2_with fail
    go_ret
    exact ⟨rfl, Below.refl _ _⟩
  · have hl' : (len0 : Int) ≤ 1048576 := by omega
    clear hl
    go_enter Try.func4, Try.ntmps4
    go_wp2_with fail
    refine (drawWordGet _ _ _ _ hc).mono ?_
    rintro e w1 ⟨s, n, rfl, hs, n0, n1, hb⟩
    by_cases hn : 0 ≤ n ∧ n ≤ (s.size : Int) - 2
    case neg =>
      go_wp2_with fail
      refine (wget_no _ _ _ hn (by omega)).mono ?_
      rintro e w2 ⟨rfl, hb2⟩
      go_wp2_with fail
      refine (swget_no _ _ _ hn (by omega)).mono ?_
      rintro e w3 ⟨rfl, hb3⟩
      have B := Lib.hid ((hb.trans (hb2.mono hb.size)).trans (hb3.mono (Nat.le_trans hb.size hb2.size)))
      clear hb hb2 hb3
      go_wp2_with fail
      all_goals go_ret
      all_goals exact ⟨w_retb (by first | rfl | (simp; done) | (simp; omega)), B.out⟩
    obtain ⟨k, rfl⟩ := Int.eq_ofNat_of_zero_le hn.1
    have hk : k + 2 ≤ s.size := by omega
    clear hn
    have bd := byteV_bd s
    go_wp2_with fail
    refine (wget_yes _ _ _ hk (by omega)).mono ?_
    rintro e w2 ⟨rfl, hb2⟩
    go_wp2_with fail
    refine (swget_yes _ _ _ hk (by omega)).mono ?_
    rintro e w3 ⟨rfl, hb3⟩
    have hb' := (hb.trans (hb2.mono hb.size)).trans (hb3.mono (Nat.le_trans hb.size hb2.size))
    clear hb hb2 hb3
    clear bd
    go_wp2_with fail
    go_ret
    exact ⟨w_retb (by first | (simp; done) | (simp; omega)), hb'⟩
set_option maxRecDepth 100000 in
theorem FnLongGet_walk (a0 : Option Addr) (len0 cap0 : Nat) (w : World) (hc : CodeOf w a0 len0 cap0) :
    Calls Try.prog 8 #[.slice a0 len0 cap0] w fun e w' => e = .returned (.bool true) ∧ Below w.heap.size w w' := by
  by_cases hl : 1048576 < len0
  · have hl' : (1048576 : Int) < (len0 : Int) := by omega
    go_enter Try.func8, Try.ntmps8
    go_wp2_with fail
    go_ret
    exact ⟨rfl, Below.refl _ _⟩
  · have hl' : (len0 : Int) ≤ 1048576 := by omega
    clear hl
    go_enter Try.func8, Try.ntmps8
    go_wp2_with fail
    refine (drawLongGet _ _ _ _ hc).mono ?_
    rintro e w1 ⟨s, n, rfl, hs, n0, n1, hb⟩
    by_cases hn : 0 ≤ n ∧ n ≤ (s.size : Int) - 4
    case neg =>
      go_wp2_with fail
      refine (lget_no _ _ _ hn (by omega)).mono ?_
      rintro e w2 ⟨rfl, hb2⟩
      go_wp2_with fail
      refine (slget_no _ _ _ hn (by omega)).mono ?_
      rintro e w3 ⟨rfl, hb3⟩
      have B := Lib.hid ((hb.trans (hb2.mono hb.size)).trans (hb3.mono (Nat.le_trans hb.size hb2.size)))
      clear hb hb2 hb3
      go_wp2_with fail
      all_goals go_ret
      all_goals exact ⟨w_retb (by first | rfl | (simp; done) | (simp; omega)), B.out⟩
    obtain ⟨k, rfl⟩ := Int.eq_ofNat_of_zero_le hn.1
    have hk : k + 4 ≤ s.size := by omega
    clear hn
    have bd := byteV_bd s
    go_wp2_with fail
    refine (lget_yes _ _ _ hk (by omega)).mono ?_
    rintro e w2 ⟨rfl, hb2⟩
    go_wp2_with fail
    refine (slget_yes _ _ _ hk (by omega)).mono ?_
    rintro e w3 ⟨rfl, hb3⟩
    have hb' := (hb.trans (hb2.mono hb.size)).trans (hb3.mono (Nat.le_trans hb.size hb2.size))
    clear hb hb2 hb3
    go_wp2_with fail
    refine (wget_yes _ _ _ (by omega) (by omega)).mono ?_
    rintro e w4 ⟨rfl, hb4⟩
    go_wp2_with fail
    rw [show (k : Int) + 2 = ((k + 2 : Nat) : Int) by omega]
    refine (wget_yes _ (k + 2) _ (by omega) (by omega)).mono ?_
    rintro e w5 ⟨rfl, hb5⟩
    have hb4' := hb'.trans (hb4.mono hb'.size)
    have hb5' := hb4'.trans (hb5.mono hb4'.size)
    clear hb' hb4 hb5 hb4'
    obtain ⟨a0, a1⟩ := bd k
    obtain ⟨b0, b1⟩ := bd (k + 1)
    obtain ⟨c0, c1⟩ := bd (k + 2)
    obtain ⟨d0, d1⟩ := bd (k + 3)
    rw [show k + 2 + 1 = k + 3 from rfl]
    generalize byteV s k = A at *
    generalize byteV s (k + 1) = B at *
    generalize byteV s (k + 2) = C at *
    generalize byteV s (k + 3) = D at *
    clear bd
    go_wp2_with fail
    go_ret
    exact ⟨w_retb (by first | (simp; done) | (simp; omega)), hb5'⟩
set_option maxRecDepth 100000 in
theorem FnWordGetMove_walk (a0 : Option Addr) (len0 cap0 : Nat) (a1 : Option Addr) (len1 cap1 : Nat) (w : World) (hc : CodeOf w a0 len0 cap0) :
    Calls Try.prog 3 #[.slice a0 len0 cap0, .slice a1 len1 cap1] w fun e w' => e = .returned (.bool true) ∧ Below w.heap.size w w' := by
  by_cases hl : 1048576 < len0
  · have hl' : (1048576 : Int) < (len0 : Int) := by omega
    go_enter Try.func3, Try.ntmps3
    go_wp2_with fail
    go_ret
    exact ⟨rfl, Below.refl _ _⟩
  by_cases hm : 1048576 < len1
  · have hl' : (len0 : Int) ≤ 1048576 := by omega
    have hm' : (1048576 : Int) < (len1 : Int) := by omega
    clear hl
    go_enter Try.func3, Try.ntmps3
    go_wp2_with fail
    go_ret
    exact ⟨rfl, Below.refl _ _⟩
  · have hl' : (len0 : Int) ≤ 1048576 := by omega
    have hm' : (len1 : Int) ≤ 1048576 := by omega
    clear hl hm
    go_enter Try.func3, Try.ntmps3
    go_wp2_with fail
    refine (drawWordGet _ _ _ _ hc).mono ?_
    rintro e w1 ⟨s, n, rfl, hs, n0, n1, hb⟩
    by_cases hn : 0 ≤ n ∧ n ≤ (s.size : Int) - 2
    case neg =>
      go_wp2_with fail
      refine (wget_no _ _ _ hn (by omega)).mono ?_
      rintro e w2 ⟨rfl, hb2⟩
      go_wp2_with fail
      refine (swget_no _ _ _ hn (by omega)).mono ?_
      rintro e w3 ⟨rfl, hb3⟩
      have B := Lib.hid ((hb.trans (hb2.mono hb.size)).trans (hb3.mono (Nat.le_trans hb.size hb2.size)))
      clear hb hb2 hb3
      go_wp2_with fail
      all_goals go_ret
      all_goals exact ⟨w_retb (by first | rfl | (simp; done) | (simp; omega)), B.out⟩
    obtain ⟨k, rfl⟩ := Int.eq_ofNat_of_zero_le hn.1
    have hk : k + 2 ≤ s.size := by omega
    clear hn
    have bd := byteV_bd s
    go_wp2_with fail
    refine (wget_yes _ _ _ hk (by omega)).mono ?_
    rintro e w2 ⟨rfl, hb2⟩
    go_wp2_with fail
    refine (swget_yes _ _ _ hk (by omega)).mono ?_
    rintro e w3 ⟨rfl, hb3⟩
    have hb' := (hb.trans (hb2.mono hb.size)).trans (hb3.mono (Nat.le_trans hb.size hb2.size))
    clear hb hb2 hb3
    clear bd
    obtain ⟨q, hq, hq9⟩ : ∃ q : Nat, (len1 : Int) % 9 = (q : Int) ∧ q ≤ 8 := ⟨len1 % 9, by simp, by omega⟩
    go_wp2_with fail
    go_loop [11] (fun v => ∃ X : ByteArray, v = .string X ∧ X.size ≤ 8) (fun v => 9 - (match v with | .string X => X.size | _ => 0))
    case atStart => exact ⟨⟨#[]⟩, rfl, by decide⟩
    case round =>
      obtain ⟨X, rfl, hX⟩ := hrel
      by_cases hlt : X.size < q
      · go_wp2_with fail
        go_round
        case rel => exact ⟨X ++ ⟨#[113]⟩, rfl, by rw [ByteArray.size_append]; show X.size + 1 ≤ 8; omega⟩
        case measure => show 9 - (X ++ (⟨#[113]⟩ : ByteArray)).size < 9 - X.size; rw [ByteArray.size_append]; show 9 - (X.size + 1) < 9 - X.size; omega
      · have hz : (X ++ s ++ X).size = X.size + s.size + X.size := by rw [ByteArray.size_append, ByteArray.size_append]
        have C1 : ∀ W : World, Calls Try.prog 13 #[.string (X ++ s ++ X), .int .i64 ((k : Int) + (X.size : Int))] W fun e w' => e = .returned (.tuple #[.int .i64 (byteV s k * 256 + byteV s (k + 1)), .bool true]) ∧ Below W.heap.size W w' := by
          intro W
          have h := wget_yes (X ++ s ++ X) (k + X.size) W (by omega) (by omega)
          rw [byteV_mid X s k (by omega), show k + X.size + 1 = (k + 1) + X.size by omega, byteV_mid X s (k + 1) (by omega), show ((k + X.size : Nat) : Int) = (k : Int) + (X.size : Int) by omega] at h
          exact h
        have H1 := Lib.hid C1
        clear C1 hz
        go_wp2_with fail
        refine (H1.out _).mono ?_
        rintro e w4 ⟨rfl, hb4⟩
        have B := Lib.hid (hb'.trans (hb4.mono hb'.size))
        clear hb' hb4
        go_wp2_with fail
        go_ret
        exact ⟨w_retb (by simp), B.out⟩
end Go.Proofs.Ytldiamafbcopmaa
