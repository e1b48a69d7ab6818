/- What the drawing functions of the checksums give. -/
import Derived.Test.YtgbdcpeljbeinaaRows
import Derived.Test.YtgbdcpeljbeinaaWalkE
import Derived.Test.YtgbdcpeljbeinaaWalkS
namespace Go.Proofs.Ytgbdcpeljbeinaa
open Go.ChangeShapes Go.WideShapes Go.ChangeAt Go.RowKit
set_option linter.unusedVariables false
theorem sumOnV_bd (l : List UInt8) : 0 ≤ sumOnV 1 0 l ∧ sumOnV 1 0 l ≤ 4294967296 := by
  have h1 := adlA_bd 1 0 l (by omega) (by omega)
  have h2 := adlB_bd 1 0 l (by omega) (by omega)
  unfold sumOnV; omega
set_option maxRecDepth 100000 in
theorem sum_any (base w : World) (B N : Nat) (hR : Rdr base w B N) (hN : N ≤ 30000) :
    Calls Try.prog 26 #[.pointer (some ⟨B, 0, none⟩)] w (Drawn base B (N + 60) (-1) 4294967296 w) := by
  go_enter Try.func26, Try.ntmps26
  go_wp2_with fail
  refine (pick_any base _ B N _ hR (by omega) (by omega) (by omega)).mono ?_
  rintro e w1 ⟨m, rfl, hm0, hm1, hR1, hg1⟩
  have hB1 := hR1.hi
  by_cases e0 : m = 0
  · subst e0
    go_wp2_with fail
    refine (pick_any base _ B (N + 1) _ (hR1.alloc _) (by omega) (by omega) (by omega)).mono ?_
    rintro e w2 ⟨k, rfl, hk0, hk1, hR2, hg2⟩
    obtain ⟨k, rfl⟩ := Int.eq_ofNat_of_zero_le hk0
    have hk : k < 7 := by omega
    obtain ⟨u, u0, u1, hu⟩ := lit_load [-1, 0, 65520, 65521, 65535, 4293984256, 4293984240] hg2 hB1 (-1) 4294967296 (by decide) k hk
    have R := Lib.hid (grownBy_trans hg1 (grownBy_trans (grownBy_alloc w1 _ _) hg2))
    clear hg2 hg1
    have hk' : (k : Int) < 7 := by omega
    go_wp2_with fail
    go_ret
    exact drawn_of hR2 (by omega) R.out (by omega) (by omega)
  · have f0 : (m == 0) = false := beq_eq_false_iff_ne.2 e0
    by_cases e1 : m = 1
    · subst e1
      go_wp2_with fail
      refine (long_any base _ B (N + 1) hR1 (by omega)).mono ?_
      rintro e w2 ⟨k, rfl, hk0, hk1, hR2, hg2⟩
      have R := Lib.hid (grownBy_trans hg1 hg2)
      clear hg2 hg1
      go_wp2_with fail
      go_ret
      exact drawn_of hR2 (by omega) R.out (by omega) (by omega)
    · have f1 : (m == 1) = false := beq_eq_false_iff_ne.2 e1
      clear e0 e1
      go_wp2_with fail
      refine (bytes_any base _ B (N + 1) 20 hR1 (by omega) (by omega)).mono ?_
      rintro e w2 ⟨s, rfl, hs, hR2, hg2⟩
      have R := Lib.hid (grownBy_trans hg1 hg2)
      clear hg2 hg1
      obtain ⟨b0, b1⟩ := sumOnV_bd s.data.toList
      go_wp2_with fail
      refine (textSpec _ _ (by omega)).mono ?_
      rintro e w3 ⟨rfl, rfl⟩
      go_wp2_with fail
      go_ret
      exact drawn_of hR2 (by omega) R.out (by omega) (by omega)
def DrawT (n : Nat) (w : World) (e : Ending) (w' : World) : Prop := ∃ s : ByteArray, e = .returned (.string s) ∧ s.size ≤ n ∧ Below w.heap.size w w'
def DrawI (lo hi : Int) (w : World) (e : Ending) (w' : World) : Prop := ∃ v : Int, e = .returned (.int .i64 v) ∧ lo ≤ v ∧ v ≤ hi ∧ Below w.heap.size w w'
def DrawIT (lo hi : Int) (n : Nat) (w : World) (e : Ending) (w' : World) : Prop := ∃ (v : Int) (s : ByteArray), e = .returned (.tuple #[.int .i64 v, .string s]) ∧ lo ≤ v ∧ v ≤ hi ∧ s.size ≤ n ∧ Below w.heap.size w w'
theorem drawSumText (a : Option Addr) (len cap : Nat) (w : World) (hc : CodeOf w a len cap) :
    Calls Try.prog 13 #[.slice a len cap] w (DrawT 30 w) := by
  go_enter Try.func13, Try.ntmps13
  go_wp2_with fail
  refine (open_any _ _ _ _ hc).mono ?_
  rintro e w1 ⟨B, rfl, hR⟩
  go_wp2_with fail
  refine (bytes_any w _ B 0 30 hR (by omega) (by omega)).mono ?_
  rintro e w2 ⟨s, rfl, hs, hR2, hg2⟩
  go_wp2_with fail
  go_ret
  exact ⟨s, rfl, hs, hR2.below⟩
theorem drawSumValid (a : Option Addr) (len cap : Nat) (w : World) (hc : CodeOf w a len cap) :
    Calls Try.prog 18 #[.slice a len cap] w (DrawI (-1) 4294967296 w) := by
  go_enter Try.func18, Try.ntmps18
  go_wp2_with fail
  refine (open_any _ _ _ _ hc).mono ?_
  rintro e w1 ⟨B, rfl, hR⟩
  go_wp2_with fail
  refine (sum_any w _ B 0 hR (by omega)).mono ?_
  rintro e w2 ⟨v, rfl, h0, h1, hR2, hg2⟩
  go_wp2_with fail
  go_ret
  exact ⟨v, rfl, h0, h1, hR2.below⟩
theorem drawSumNext (a : Option Addr) (len cap : Nat) (w : World) (hc : CodeOf w a len cap) :
    Calls Try.prog 20 #[.slice a len cap] w (DrawIT (-1) 4294967296 20 w) := by
  go_enter Try.func20, Try.ntmps20
  go_wp2_with fail
  refine (open_any _ _ _ _ hc).mono ?_
  rintro e w1 ⟨B, rfl, hR⟩
  go_wp2_with fail
  refine (sum_any w _ B 0 hR (by omega)).mono ?_
  rintro e w2 ⟨v, rfl, h0, h1, hR2, hg2⟩
  go_wp2_with fail
  refine (bytes_any w _ B (0 + 60) 20 hR2 (by omega) (by omega)).mono ?_
  rintro e w3 ⟨s, rfl, hs, hR3, hg3⟩
  go_wp2_with fail
  go_ret2
  exact ⟨v, s, rfl, h0, h1, hs, hR3.below⟩
end Go.Proofs.Ytgbdcpeljbeinaa
