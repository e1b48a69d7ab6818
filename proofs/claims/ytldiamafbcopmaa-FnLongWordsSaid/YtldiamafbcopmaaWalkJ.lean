/- What the drawing functions of the numbers of two and of four bytes give. -/
import Derived.Test.YtldiamafbcopmaaRows
import Derived.Test.YtldiamafbcopmaaWalkE
import Derived.Test.YtldiamafbcopmaaWalkW
import Derived.Test.YtldiamafbcopmaaMathV
namespace Go.Proofs.Ytldiamafbcopmaa
open Go.ChangeShapes Go.WideShapes Go.ChangeAt Go.RowKit
set_option linter.unusedVariables false
def DrawI (lo hi : Int) (w : World) (e : Ending) (w' : World) : Prop := ∃ v : Int, e = .returned (.int .i64 v) ∧ lo ≤ v ∧ v ≤ hi ∧ Below w.heap.size w w'
def DrawTI (n : Nat) (lo hi : Int) (w : World) (e : Ending) (w' : World) : Prop := ∃ (s : ByteArray) (v : Int), e = .returned (.tuple #[.string s, .int .i64 v]) ∧ s.size ≤ n ∧ lo ≤ v ∧ v ≤ hi ∧ Below w.heap.size w w'
theorem drawWordPut (a : Option Addr) (len cap : Nat) (w : World) (hc : CodeOf w a len cap) :
    Calls Try.prog 15 #[.slice a len cap] w (DrawI (-1) 65536 w) := by
  go_enter Try.func15, Try.ntmps15
  go_wp2_with fail
  refine (open_any _ _ _ _ hc).mono ?_
  rintro e w1 ⟨B, rfl, hR⟩
  go_wp2_with fail
  refine (word_any w _ B 0 hR (by omega)).mono ?_
  rintro e w2 ⟨v, rfl, h0, h1, hR2, hg2⟩
  go_wp2_with fail
  go_ret
  exact ⟨v, rfl, h0, h1, hR2.below⟩
theorem drawLongPut (a : Option Addr) (len cap : Nat) (w : World) (hc : CodeOf w a len cap) :
    Calls Try.prog 21 #[.slice a len cap] w (DrawI (-1) 4294967296 w) := by
  go_enter Try.func21, Try.ntmps21
  go_wp2_with fail
  refine (open_any _ _ _ _ hc).mono ?_
  rintro e w1 ⟨B, rfl, hR⟩
  go_wp2_with fail
  refine (long_any w _ B 0 hR (by omega)).mono ?_
  rintro e w2 ⟨v, rfl, h0, h1, hR2, hg2⟩
  go_wp2_with fail
  go_ret
  exact ⟨v, rfl, h0, h1, hR2.below⟩
theorem drawWordGet (a : Option Addr) (len cap : Nat) (w : World) (hc : CodeOf w a len cap) :
    Calls Try.prog 12 #[.slice a len cap] w (DrawTI 20 (-1) 20 w) := by
  go_enter Try.func12, Try.ntmps12
  go_wp2_with fail
  refine (open_any _ _ _ _ hc).mono ?_
  rintro e w1 ⟨B, rfl, hR⟩
  go_wp2_with fail
  refine (bytes_any w _ B 0 8 hR (by omega) (by omega)).mono ?_
  rintro e w2 ⟨s, rfl, hs, hR2, hg2⟩
  go_wp2_with fail
  refine (pick_any w _ B _ _ hR2 (by omega) (by omega) (by omega)).mono ?_
  rintro e w3 ⟨v, rfl, h0, h1, hR3, hg3⟩
  go_wp2_with fail
  go_ret2
  exact ⟨s, _, rfl, by omega, by omega, by omega, hR3.below⟩
set_option maxRecDepth 100000 in
theorem drawLongGet (a : Option Addr) (len cap : Nat) (w : World) (hc : CodeOf w a len cap) :
    Calls Try.prog 18 #[.slice a len cap] w (DrawTI 20 (-1) 20 w) := by
  go_enter Try.func18, Try.ntmps18
  go_wp2_with fail
  refine (open_any _ _ _ _ hc).mono ?_
  rintro e w1 ⟨B, rfl, hR⟩
  go_wp2_with fail
  refine (bytes_any w _ B 0 5 hR (by omega) (by omega)).mono ?_
  rintro e w2 ⟨s, rfl, hs, hR2, hg2⟩
  go_wp2_with fail
  refine (bytes_any w _ B _ 5 hR2 (by omega) (by omega)).mono ?_
  rintro e w3 ⟨t, rfl, ht, hR3, hg3⟩
  obtain ⟨u, hu⟩ : ∃ u : ByteArray, u = s ++ ⟨#[97, 98, 0, 99]⟩ ++ t := ⟨_, rfl⟩
  have hsz : u.size = s.size + 4 + t.size := by rw [hu, ByteArray.size_append, ByteArray.size_append]; rfl
  have z0 : 4 ≤ u.size := by omega
  have z1 : u.size ≤ 14 := by omega
  clear hsz
  have HU := Lib.hid hu
  clear hu
  go_wp2_with fail
  rw [← HU.out]
  refine (pick_any w _ B _ _ hR3 (by omega) (by omega) (by omega)).mono ?_
  rintro e w4 ⟨v, rfl, h0, h1, hR4, hg4⟩
  by_cases e0 : v = 0
  · subst e0
    go_wp2_with fail
    refine (pick_any w _ B _ _ hR4 (by omega) (by omega) (by omega)).mono ?_
    rintro e w5 ⟨k, rfl, hk0, hk1, hR5, hg5⟩
    go_wp2_with fail
    go_ret2
    exact ⟨u, _, rfl, by omega, by omega, by omega, hR5.below⟩
  · have f0 : (v == 0) = false := beq_eq_false_iff_ne.2 e0
    clear e0
    go_wp2_with fail
    refine (pick_any w _ B _ _ hR4 (by omega) (by omega) (by omega)).mono ?_
    rintro e w5 ⟨k, rfl, hk0, hk1, hR5, hg5⟩
    go_wp2_with fail
    go_ret2
    exact ⟨u, _, rfl, by omega, by omega, by omega, hR5.below⟩
end Go.Proofs.Ytldiamafbcopmaa
