/- The walks of the laws on hexadecimal digits: each returns true, and nothing that was there turns. -/
import Derived.Test.YtmnclonmamcplaaRows
import Derived.Test.YtmnclonmamcplaaWalkI
import Derived.Deep.RegionWith
import Derived.BigRegion
import Derived.Lib.Strings
import Derived.Laws.Concat
namespace Go.Proofs.Ytmnclonmamcplaa
open Go.ChangeShapes Go.WideShapes Go.ChangeAt Go.RowKit
set_option linter.unusedVariables false
theorem h_retb {a b : Bool} (h : a = b) : Ending.returned (.bool a) = .returned (.bool b) := by rw [h]
theorem ext_firstH (s : ByteArray) (k : Nat) : (s.extract 0 k).data.toList = s.data.toList.take k := by simp
theorem ext_restH (s : ByteArray) (k : Nat) : (s.extract k s.size).data.toList = s.data.toList.drop k := by
  simp only [ByteArray.data_extract, Array.toList_extract, List.extract_eq_take_drop]
  exact List.take_of_length_le (by simp)
theorem ext_join (s : ByteArray) (k : Nat) : s.extract 0 k ++ s.extract k s.size = s := by
  apply ByteArray.ext
  apply Array.toList_inj.1
  rw [ByteArray.data_append, Array.toList_append, ext_firstH, ext_restH, List.take_append_drop]
theorem empty_iff (s : ByteArray) : s.toList.isEmpty = decide (s.size = 0) := by
  rw [Lib.toList_data, Bool.eq_iff_iff, List.isEmpty_iff, decide_eq_true_iff]
  constructor
  · intro h; have := congrArg List.length h; simpa using this
  · intro h; exact List.eq_nil_of_length_eq_zero (by simpa using h)
theorem odd_not (s : ByteArray) (h : hexOk s.data.toList) (c : UInt8) : ¬ hexOk (s ++ ⟨#[c]⟩).data.toList := by
  intro ⟨h1, _, _⟩
  have h2 := h.1
  rw [ByteArray.data_append, Array.toList_append, List.length_append] at h1
  have h3 : (⟨#[c]⟩ : ByteArray).data.toList.length = 1 := rfl
  omega
theorem bad_not (s : ByteArray) : ¬ hexOk (s ++ ⟨#[65, 48]⟩).data.toList := by
  intro ⟨_, _, h⟩
  have h1 := h 65 (by rw [ByteArray.data_append, Array.toList_append, List.mem_append]; right; simp)
  have h2 : hexV 65 = -1 := by decide
  omega
theorem size_list (s : ByteArray) : s.data.toList.length = s.size := by simp
set_option maxRecDepth 100000 in
theorem FnHexPut_walk (a0 : Option Addr) (len0 cap0 : Nat) (w : World) (hc : CodeOf w a0 len0 cap0) :
    Calls Try.prog 7 #[.slice a0 len0 cap0] w fun e w' => e = .returned (.bool true) ∧ Below w.heap.size w w' := by
  by_cases hl : 1048576 < len0
  · have hl' : (1048576 : Int) < (len0 : Int) := by omega
    go_enter Try.func7, Try.ntmps7
    go_wp2_with fail
    go_ret
    exact ⟨rfl, Below.refl _ _⟩
  · have hl' : (len0 : Int) ≤ 1048576 := by omega
    clear hl
    go_enter Try.func7, Try.ntmps7
    go_wp2_with fail
    refine (drawHexPut _ _ _ _ hc).mono ?_
    rintro e w1 ⟨s, rfl, hs, hb⟩
    by_cases hk : s.size ≤ 40
    case neg =>
      go_wp2_with fail
      refine (hexPutI_no _ _ hk).mono ?_
      rintro e w2 ⟨rfl, hb2⟩
      go_wp2_with fail
      refine (hexPutS_no _ _ hk).mono ?_
      rintro e w3 ⟨rfl, hb3⟩
      have B := Lib.hid ((hb.trans (hb2.mono hb.size)).trans (hb3.mono (Nat.le_trans hb.size hb2.size)))
      clear hb hb2 hb3
      have hk' : (40 : Int) < (s.size : Int) := by omega
      go_wp2_with fail
      all_goals go_ret
      all_goals exact ⟨rfl, B.out⟩
    go_wp2_with fail
    refine (hexPutI_yes _ _ hk).mono ?_
    rintro e w2 ⟨rfl, hb2⟩
    go_wp2_with fail
    refine (hexPutS_yes _ _ hk).mono ?_
    rintro e w3 ⟨rfl, hb3⟩
    have hb' := (hb.trans (hb2.mono hb.size)).trans (hb3.mono (Nat.le_trans hb.size hb2.size))
    clear hb hb2 hb3
    have hz := hexS_size s
    have hS : (hexS s).size ≤ 80 := by omega
    have C1 : ∀ W : World, Calls Try.prog 9 #[.string (hexS s)] W fun e w' => e = .returned (.tuple #[.string s, .bool true]) ∧ Below W.heap.size W w' :=
      fun W => (hexGetI_any (hexS s) W (by omega)).mono fun _ _ h => ⟨by rw [h.1, hexGetR_yes _ (by rw [hexS_list]; exact hexOk_hexL _ (by rw [size_list]; exact hk)), back_hexS], h.2⟩
    have H1 := Lib.hid C1
    have HZ := Lib.hid hz
    clear C1 hz
    go_wp2_with fail
    refine (H1.out _).mono ?_
    rintro e w4 ⟨rfl, hb4⟩
    go_wp2_with fail
    go_ret
    exact ⟨h_retb (by rw [HZ.out]; simp), hb'.trans (hb4.mono hb'.size)⟩
set_option maxRecDepth 100000 in
theorem FnHexPutLong_walk (a0 : Option Addr) (len0 cap0 : Nat) (w : World) (hc : CodeOf w a0 len0 cap0) :
    Calls Try.prog 6 #[.slice a0 len0 cap0] w fun e w' => e = .returned (.bool true) ∧ Below w.heap.size w w' := by
  by_cases hl : 1048576 < len0
  · have hl' : (1048576 : Int) < (len0 : Int) := by omega
    go_enter Try.func6, Try.ntmps6
    go_wp2_with fail
    go_ret
    exact ⟨rfl, Below.refl _ _⟩
  · have hl' : (len0 : Int) ≤ 1048576 := by omega
    clear hl
    go_enter Try.func6, Try.ntmps6
    go_wp2_with fail
    refine (drawHexPut _ _ _ _ hc).mono ?_
    rintro e w1 ⟨s, rfl, hs, hb⟩
    by_cases hk : s.size ≤ 40
    case neg =>
      have hE := empty_iff s
      rw [decide_eq_false (by omega)] at hE
      go_wp2_with fail
      refine (hexPutI_no _ _ hk).mono ?_
      rintro e w2 ⟨rfl, hb2⟩
      go_wp2_with fail
      refine (hexPutS_no _ _ hk).mono ?_
      rintro e w3 ⟨rfl, hb3⟩
      have B := Lib.hid ((hb.trans (hb2.mono hb.size)).trans (hb3.mono (Nat.le_trans hb.size hb2.size)))
      clear hb hb2 hb3
      have hk' : (40 : Int) < (s.size : Int) := by omega
      go_wp2_with fail
      all_goals go_ret
      all_goals exact ⟨h_retb (by simp), B.out⟩
    go_wp2_with fail
    refine (hexPutI_yes _ _ hk).mono ?_
    rintro e w2 ⟨rfl, hb2⟩
    go_wp2_with fail
    refine (hexPutS_yes _ _ hk).mono ?_
    rintro e w3 ⟨rfl, hb3⟩
    have hb' := (hb.trans (hb2.mono hb.size)).trans (hb3.mono (Nat.le_trans hb.size hb2.size))
    clear hb hb2 hb3
    have hz := hexS_size s
    have hS : (hexS s).size ≤ 80 := by omega
    have HZ := Lib.hid hz
    clear hz
    have e1 := empty_iff (hexS s)
    have e2 := empty_iff s
    by_cases h0 : s.size = 0
    · rw [decide_eq_true (by have := HZ.out; omega)] at e1
      rw [decide_eq_true h0] at e2
      have B := Lib.hid hb'
      clear h0 hb'
      go_wp2_with fail
      go_ret
      exact ⟨h_retb (by simp), B.out⟩
    · rw [decide_eq_false (by have := HZ.out; omega)] at e1
      rw [decide_eq_false h0] at e2
      have B := Lib.hid hb'
      clear h0 hb'
      go_wp2_with fail
      go_ret
      exact ⟨h_retb (by simp; omega), B.out⟩
set_option maxRecDepth 100000 in
theorem FnHexJoin_walk (a0 : Option Addr) (len0 cap0 : Nat) (a1 : Option Addr) (len1 cap1 : Nat) (w : World) (hc : CodeOf w a0 len0 cap0) :
    Calls Try.prog 5 #[.slice a0 len0 cap0, .slice a1 len1 cap1] w fun e w' => e = .returned (.bool true) ∧ Below w.heap.size w w' := by
  by_cases hl : 1048576 < len0
  · have hl' : (1048576 : Int) < (len0 : Int) := by omega
    go_enter Try.func5, Try.ntmps5
    go_wp2_with fail
    go_ret
    exact ⟨rfl, Below.refl _ _⟩
  by_cases hm : 1048576 < len1
  · have hl' : (len0 : Int) ≤ 1048576 := by omega
    have hm' : (1048576 : Int) < (len1 : Int) := by omega
    clear hl
    go_enter Try.func5, Try.ntmps5
    go_wp2_with fail
    go_ret
    exact ⟨rfl, Below.refl _ _⟩
  · have hl' : (len0 : Int) ≤ 1048576 := by omega
    have hm' : (len1 : Int) ≤ 1048576 := by omega
    clear hl hm
    go_enter Try.func5, Try.ntmps5
    go_wp2_with fail
    refine (drawHexPut _ _ _ _ hc).mono ?_
    rintro e w1 ⟨s, rfl, hs, hb⟩
    by_cases hk : s.size ≤ 40
    case neg =>
      go_wp2_with fail
      refine (hexPutI_no _ _ hk).mono ?_
      rintro e w2 ⟨rfl, hb2⟩
      go_wp2_with fail
      refine (hexPutS_no _ _ hk).mono ?_
      rintro e w3 ⟨rfl, hb3⟩
      have B := Lib.hid ((hb.trans (hb2.mono hb.size)).trans (hb3.mono (Nat.le_trans hb.size hb2.size)))
      clear hb hb2 hb3
      have hk' : (40 : Int) < (s.size : Int) := by omega
      go_wp2_with fail
      all_goals go_ret
      all_goals exact ⟨rfl, B.out⟩
    go_wp2_with fail
    refine (hexPutI_yes _ _ hk).mono ?_
    rintro e w2 ⟨rfl, hb2⟩
    go_wp2_with fail
    refine (hexPutS_yes _ _ hk).mono ?_
    rintro e w3 ⟨rfl, hb3⟩
    have hb' := (hb.trans (hb2.mono hb.size)).trans (hb3.mono (Nat.le_trans hb.size hb2.size))
    clear hb hb2 hb3
    have hz := hexS_size s
    have hS : (hexS s).size ≤ 80 := by omega
    have HZ := Lib.hid hz
    clear hz
    go_wp2_with fail
    obtain ⟨k, hkk, hks⟩ : ∃ k : Nat, (len1 : Int) % ((s.size : Int) + 1) = (k : Int) ∧ k ≤ s.size := ⟨len1 % (s.size + 1), by simp, by have := Nat.mod_lt len1 (show 0 < s.size + 1 by omega); omega⟩
    rw [hkk]
    clear hkk
    have k0 : (0 : Int) ≤ (k : Int) := by omega
    have k1 : (k : Int) ≤ (s.size : Int) := by omega
    have e0 : (s.extract 0 k).size ≤ 40 := by rw [ByteArray.size_extract]; omega
    have e1 : (s.extract k s.size).size ≤ 40 := by rw [ByteArray.size_extract]; omega
    have z0 := hexS_size (s.extract 0 k)
    have z1 := hexS_size (s.extract k s.size)
    have ad1 : ∀ (W : World), (Op.stringOp .add (hexS (s.extract 0 k)) (hexS (s.extract k s.size))).run Try.prog W = .ok (.string (hexS s)) W := fun W => by
      rw [run_string_add_sum W _ _ (by omega), ← hexS_append, ext_join]
    have H1 := Lib.hid (fun W => hexPutI_yes (s.extract 0 k) W e0)
    have H2 := Lib.hid (fun W => hexPutI_yes (s.extract k s.size) W e1)
    clear z0 z1 e0 e1
    go_region_with (first | (go_at_call_of 11 (Value.string (s.extract 0 k)); refine (H1.out _).mono ?_; rintro e WA ⟨rfl, hbA⟩) | (go_at_call_of 11 (Value.string (s.extract k s.size)); refine (H2.out _).mono ?_; rintro e WB ⟨rfl, hbB⟩))
    go_wp2_with fail
    go_ret
    exact ⟨h_retb (by simp), ((hb'.drew).trans (hbA.mono hb'.size)).trans (hbB.mono (Nat.le_trans hb'.size hbA.size))⟩
set_option maxRecDepth 100000 in
theorem FnHexGet_walk (a0 : Option Addr) (len0 cap0 : Nat) (w : World) (hc : CodeOf w a0 len0 cap0) :
    Calls Try.prog 4 #[.slice a0 len0 cap0] w fun e w' => e = .returned (.bool true) ∧ Below w.heap.size w w' := by
  by_cases hl : 1048576 < len0
  · have hl' : (1048576 : Int) < (len0 : Int) := by omega
    go_enter Try.func4, Try.ntmps4
    go_wp2_with fail
    go_ret
    exact ⟨rfl, Below.refl _ _⟩
  · have hl' : (len0 : Int) ≤ 1048576 := by omega
    clear hl
    go_enter Try.func4, Try.ntmps4
    go_wp2_with fail
    refine (drawHexGet _ _ _ _ hc).mono ?_
    rintro e w1 ⟨s, rfl, hs, hb⟩
    by_cases hok : hexOk s.data.toList
    case neg =>
      have K1 := Lib.hid (fun W => hexGetI_any s W (by omega))
      have K2 := Lib.hid (fun W => hexGetS_any s W (by omega))
      have hr := Lib.hid (hexGetR_no _ hok)
      clear hok
      go_wp2_with fail
      refine (K1.out _).mono ?_
      rintro e w2 ⟨he, hb2⟩
      rw [hr.out] at he
      subst he
      go_wp2_with fail
      refine (K2.out _).mono ?_
      rintro e w3 ⟨he, hb3⟩
      rw [hr.out] at he
      subst he
      go_wp2_with fail
      go_ret
      exact ⟨rfl, (hb.trans (hb2.mono hb.size)).trans (hb3.mono (Nat.le_trans hb.size hb2.size))⟩
    have K1 := Lib.hid (fun W => hexGetI_any s W (by omega))
    have K2 := Lib.hid (fun W => hexGetS_any s W (by omega))
    have hr := Lib.hid (hexGetR_yes _ hok)
    have hu := unhex_size s hok
    have hback := Lib.hid (hexS_unhex s hok)
    have OK := Lib.hid hok
    obtain ⟨o, ho⟩ : ∃ o : ByteArray, o = ⟨(unhex s.data.toList).toArray⟩ := ⟨_, rfl⟩
    rw [← ho] at hr hu hback
    clear ho hok
    go_wp2_with fail
    refine (K1.out _).mono ?_
    rintro e w2 ⟨he, hb2⟩
    rw [hr.out] at he
    subst he
    go_wp2_with fail
    refine (K2.out _).mono ?_
    rintro e w3 ⟨he, hb3⟩
    rw [hr.out] at he
    subst he
    have hb' := (hb.trans (hb2.mono hb.size)).trans (hb3.mono (Nat.le_trans hb.size hb2.size))
    clear hb hb2 hb3
    go_wp2_with fail
    refine (hexPutI_yes _ _ hu).mono ?_
    rintro e w4 ⟨rfl, hb4⟩
    rw [hback.out]
    go_wp2_with fail
    go_ret
    exact ⟨h_retb (by simp), hb'.trans (hb4.mono hb'.size)⟩
set_option maxRecDepth 100000 in
theorem FnHexGetOdd_walk (a0 : Option Addr) (len0 cap0 : Nat) (w : World) (hc : CodeOf w a0 len0 cap0) :
    Calls Try.prog 3 #[.slice a0 len0 cap0] w fun e w' => e = .returned (.bool true) ∧ Below w.heap.size w w' := by
  by_cases hl : 1048576 < len0
  · have hl' : (1048576 : Int) < (len0 : Int) := by omega
    go_enter Try.func3, Try.ntmps3
    go_wp2_with fail
    go_ret
    exact ⟨rfl, Below.refl _ _⟩
  · have hl' : (len0 : Int) ≤ 1048576 := by omega
    clear hl
    go_enter Try.func3, Try.ntmps3
    go_wp2_with fail
    refine (drawHexGet _ _ _ _ hc).mono ?_
    rintro e w1 ⟨s, rfl, hs, hb⟩
    by_cases hok : hexOk s.data.toList
    case neg =>
      have K1 := Lib.hid (fun W => hexGetI_any s W (by omega))
      have K2 := Lib.hid (fun W => hexGetS_any s W (by omega))
      have hr := Lib.hid (hexGetR_no _ hok)
      clear hok
      go_wp2_with fail
      refine (K1.out _).mono ?_
      rintro e w2 ⟨he, hb2⟩
      rw [hr.out] at he
      subst he
      go_wp2_with fail
      refine (K2.out _).mono ?_
      rintro e w3 ⟨he, hb3⟩
      rw [hr.out] at he
      subst he
      go_wp2_with fail
      go_ret
      exact ⟨rfl, (hb.trans (hb2.mono hb.size)).trans (hb3.mono (Nat.le_trans hb.size hb2.size))⟩
    have K1 := Lib.hid (fun W => hexGetI_any s W (by omega))
    have K2 := Lib.hid (fun W => hexGetS_any s W (by omega))
    have hr := Lib.hid (hexGetR_yes _ hok)
    have hu := unhex_size s hok
    have hback := Lib.hid (hexS_unhex s hok)
    have OK := Lib.hid hok
    obtain ⟨o, ho⟩ : ∃ o : ByteArray, o = ⟨(unhex s.data.toList).toArray⟩ := ⟨_, rfl⟩
    rw [← ho] at hr hu hback
    clear ho hok
    go_wp2_with fail
    refine (K1.out _).mono ?_
    rintro e w2 ⟨he, hb2⟩
    rw [hr.out] at he
    subst he
    go_wp2_with fail
    refine (K2.out _).mono ?_
    rintro e w3 ⟨he, hb3⟩
    rw [hr.out] at he
    subst he
    have hb' := (hb.trans (hb2.mono hb.size)).trans (hb3.mono (Nat.le_trans hb.size hb2.size))
    clear hb hb2 hb3
    have N1 : ∀ W : World, Calls Try.prog 9 #[.string (s ++ ⟨#[48]⟩)] W fun e w' => e = .returned (.tuple #[.string ⟨#[]⟩, .bool false]) ∧ Below W.heap.size W w' :=
      fun W => (hexGetI_any _ W (by rw [ByteArray.size_append]; show s.size + 1 ≤ _; omega)).mono fun _ _ h => ⟨by rw [h.1, hexGetR_no _ (odd_not s OK.out 48)], h.2⟩
    have N2 : ∀ W : World, Calls Try.prog 9 #[.string (s ++ ⟨#[65, 48]⟩)] W fun e w' => e = .returned (.tuple #[.string ⟨#[]⟩, .bool false]) ∧ Below W.heap.size W w' :=
      fun W => (hexGetI_any _ W (by rw [ByteArray.size_append]; show s.size + 2 ≤ _; omega)).mono fun _ _ h => ⟨by rw [h.1, hexGetR_no _ (bad_not s)], h.2⟩
    have N3 : ∀ W : World, Calls Try.prog 9 #[.string (s ++ ⟨#[32]⟩)] W fun e w' => e = .returned (.tuple #[.string ⟨#[]⟩, .bool false]) ∧ Below W.heap.size W w' :=
      fun W => (hexGetI_any _ W (by rw [ByteArray.size_append]; show s.size + 1 ≤ _; omega)).mono fun _ _ h => ⟨by rw [h.1, hexGetR_no _ (odd_not s OK.out 32)], h.2⟩
    have ad1 : ∀ (W : World), (Op.stringOp .add s ⟨#[48]⟩).run Try.prog W = .ok (.string (s ++ ⟨#[48]⟩)) W := fun W => run_string_add_sum W _ _ (by show s.size + 1 ≤ _; omega)
    have ad2 : ∀ (W : World), (Op.stringOp .add s ⟨#[65, 48]⟩).run Try.prog W = .ok (.string (s ++ ⟨#[65, 48]⟩)) W := fun W => run_string_add_sum W _ _ (by show s.size + 2 ≤ _; omega)
    have ad3 : ∀ (W : World), (Op.stringOp .add s ⟨#[32]⟩).run Try.prog W = .ok (.string (s ++ ⟨#[32]⟩)) W := fun W => run_string_add_sum W _ _ (by show s.size + 1 ≤ _; omega)
    have H1 := Lib.hid N1
    have H2 := Lib.hid N2
    have H3 := Lib.hid N3
    clear N1 N2 N3
    go_wp2_with fail
    refine (H1.out _).mono ?_
    rintro e w4 ⟨rfl, hb4⟩
    go_wp2_with fail
    refine (H2.out _).mono ?_
    rintro e w5 ⟨rfl, hb5⟩
    go_wp2_with fail
    refine (H3.out _).mono ?_
    rintro e w6 ⟨rfl, hb6⟩
    have hb4' := hb'.trans (hb4.mono hb'.size)
    have hb5' := hb4'.trans (hb5.mono hb4'.size)
    have hb6' := hb5'.trans (hb6.mono hb5'.size)
    clear hb' hb4 hb5 hb6 hb4' hb5'
    go_wp2_with fail
    go_ret
    exact ⟨rfl, hb6'⟩
end Go.Proofs.Ytmnclonmamcplaa
