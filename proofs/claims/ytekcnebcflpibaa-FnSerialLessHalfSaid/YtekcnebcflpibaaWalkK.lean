/- What the drawing functions of the serial numbers give. -/
import Derived.Test.YtekcnebcflpibaaRows
import Derived.Test.YtekcnebcflpibaaWalkE
import Derived.Test.YtekcnebcflpibaaWalkQ
import Derived.Deep.RegionWith
import Derived.BigRegion
import Derived.LoopTactic
namespace Go.Proofs.Ytekcnebcflpibaa
open Go.ChangeShapes Go.WideShapes Go.ChangeAt Go.RowKit
set_option linter.unusedVariables false
theorem Rdr.drew {base w : World} {B N : Nat} (h : Rdr base w B N) : Rdr base w.drew B N := by
  obtain ⟨hb, hlo, hhi, hx⟩ := h
  exact ⟨hb.drew, hlo, hhi, hx⟩
theorem grownBy_drew (w : World) (r : Option Nat) : w.grownBy w.drew r := ⟨rfl, rfl, rfl, Nat.le_refl _, fun _ _ _ => rfl⟩
set_option maxRecDepth 100000 in
theorem near_any (base w : World) (B N : Nat) (a : Int) (hR : Rdr base w B N) (hN : N ≤ 40000) (ha : -1 ≤ a ∧ a ≤ 65536) :
    Calls Try.prog 20 #[.pointer (some ⟨B, 0, none⟩), .int .i64 a] w (Drawn base B (N + 5) (-1) 65536 w) := by
  by_cases hok : 0 ≤ a ∧ a < 65536
  · have K := Lib.hid hok
    clear hok ha
    go_enter Try.func20, Try.ntmps20
    go_wp2_with fail
    refine (l3ok_yes _ _ K.out).mono ?_
    rintro e w' ⟨rfl, rfl⟩
    go_wp2_with fail
    refine (pick_any base _ B N _ hR (by omega) (by omega) (by omega)).mono ?_
    rintro e w1 ⟨v, rfl, v0, v1, hR1, hg1⟩
    have hB1 := hR1.hi
    by_cases hv : 0 < v
    · go_wp2_with fail
      refine (pick_any base _ B (N + 1) _ (hR1.alloc _) (by omega) (by omega) (by omega)).mono ?_
      rintro e w2 ⟨k, rfl, hk0, hk1, hR2, hg2⟩
      obtain ⟨k, rfl⟩ := Int.eq_ofNat_of_zero_le hk0
      have hk : k < 8 := by omega
      obtain ⟨u, u0, u1, hu⟩ := lit_load [0, 1, -1, 2, 32767, 32768, 32769, 5] hg2 hB1 (-1) 65536 (by decide) k hk
      have R := Lib.hid (grownBy_trans hg1 (grownBy_trans (grownBy_alloc w1 _ _) hg2))
      clear hg2 hg1
      have hk' : (k : Int) < 8 := by omega
      go_wp2_with fail
      refine (l3add_any _ _ _ K.out).mono ?_
      rintro e w' ⟨rfl, rfl⟩
      go_wp2_with fail
      go_ret
      exact drawn_of hR2 (by omega) R.out (by omega) (by omega)
    · go_wp2_with fail
      refine (word_any base _ B (N + 1) hR1 (by omega)).mono ?_
      rintro e w2 ⟨k, rfl, hk0, hk1, hR2, hg2⟩
      have R := Lib.hid (grownBy_trans hg1 hg2)
      clear hg2 hg1
      go_wp2_with fail
      go_ret
      exact drawn_of hR2 (by omega) R.out (by omega) (by omega)
  · have K := Lib.hid hok
    clear hok ha
    go_enter Try.func20, Try.ntmps20
    go_wp2_with fail
    refine (l3ok_no _ _ K.out).mono ?_
    rintro e w' ⟨rfl, rfl⟩
    go_wp2_with fail
    refine (word_any base _ B N hR (by omega)).mono ?_
    rintro e w2 ⟨k, rfl, hk0, hk1, hR2, hg2⟩
    have R := Lib.hid hg2
    clear hg2
    go_wp2_with fail
    go_ret
    exact drawn_of hR2 (by omega) R.out (by omega) (by omega)
def DrawII (l1 h1 l2 h2 : Int) (w : World) (e : Ending) (w' : World) : Prop := ∃ x y : Int, e = .returned (.tuple #[.int .i64 x, .int .i64 y]) ∧ l1 ≤ x ∧ x ≤ h1 ∧ l2 ≤ y ∧ y ≤ h2 ∧ Below w.heap.size w w'
def DrawIII (w : World) (e : Ending) (w' : World) : Prop := ∃ x y z : Int, e = .returned (.tuple #[.int .i64 x, .int .i64 y, .int .i64 z]) ∧ (-1 ≤ x ∧ x ≤ 65536) ∧ (-1 ≤ y ∧ y ≤ 65536) ∧ (-1 ≤ z ∧ z ≤ 32769) ∧ Below w.heap.size w w'
theorem drawSerialDiff (a : Option Addr) (len cap : Nat) (w : World) (hc : CodeOf w a len cap) :
    Calls Try.prog 10 #[.slice a len cap] w (DrawII (-1) 65536 (-1) 65536 w) := by
  go_enter Try.func10, Try.ntmps10
  go_wp2_with fail
  refine (open_any _ _ _ _ hc).mono ?_
  rintro e w1 ⟨B, rfl, hR⟩
  go_wp2_with fail
  refine (word_any w _ B 0 hR (by omega)).mono ?_
  rintro e w2 ⟨x, rfl, x0, x1, hR2, hg2⟩
  go_wp2_with fail
  refine (near_any w _ B _ _ hR2 (by omega) ⟨x0, x1⟩).mono ?_
  rintro e w3 ⟨y, rfl, y0, y1, hR3, hg3⟩
  go_wp2_with fail
  go_ret2
  exact ⟨x, y, rfl, x0, x1, y0, y1, hR3.below⟩
theorem drawSerialLess (a : Option Addr) (len cap : Nat) (w : World) (hc : CodeOf w a len cap) :
    Calls Try.prog 15 #[.slice a len cap] w (DrawII (-1) 65536 (-1) 65536 w) := by
  go_enter Try.func15, Try.ntmps15
  go_wp2_with fail
  refine (drawSerialDiff _ _ _ _ hc).mono ?_
  rintro e w3 ⟨x, y, rfl, x0, x1, y0, y1, hb⟩
  go_wp2_with fail
  go_ret2
  exact ⟨x, y, rfl, x0, x1, y0, y1, hb⟩
/-- The two orders of 'a list of numbers, then a draw' and 'a draw, then the list'. -/
def LitA (base : World) (B N n L : Nat) (lo hi : Int) (e : Ending) (w' : World) : Prop :=
  ∃ (k : Nat) (u : Int), e = .returned (.int .i64 (k : Int)) ∧ (k : Int) < (n : Int) ∧ lo ≤ u ∧ u ≤ hi ∧ w'.cell? ⟨L, k, none⟩ = some (.int .i64 u) ∧ Rdr base w' B N
def LitB (base : World) (B N n : Nat) (xs : List Int) (lo hi : Int) (e : Ending) (w' : World) : Prop :=
  ∃ (k : Nat) (u : Int), e = .returned (.int .i64 (k : Int)) ∧ (k : Int) < (n : Int) ∧ lo ≤ u ∧ u ≤ hi ∧ (xs.map (Value.int .i64))[k]? = some (.int .i64 u) ∧ Rdr base w' B N
theorem litA_any (base w : World) (B N : Nat) (xs : List Int) (T : TypeId) (lo hi : Int) (hx : ∀ x ∈ xs, lo ≤ x ∧ x ≤ hi) (hR : Rdr base w B N) (hN : N ≤ 100000) (hl : 1 ≤ xs.length) (hl1 : xs.length ≤ 1000) :
    Calls Try.prog 27 #[.pointer (some ⟨B, 0, none⟩), .int .i64 (xs.length : Int)] (w.alloc (.cells (xs.map (Value.int .i64)).toArray T)).drew (LitA base B (N + 1) xs.length w.heap.size lo hi) := by
  refine (pick_any base _ B N _ (hR.alloc _).drew hN (by omega) (by omega)).mono ?_
  rintro e w2 ⟨k, rfl, hk0, hk1, hR2, hg2⟩
  obtain ⟨k, rfl⟩ := Int.eq_ofNat_of_zero_le hk0
  obtain ⟨u, u0, u1, hu⟩ := lit_load xs (grownBy_trans (grownBy_drew _ _) hg2) hR.hi lo hi hx k (by omega)
  exact ⟨k, u, rfl, by omega, u0, u1, hu, hR2⟩
theorem litB_any (base w : World) (B N : Nat) (xs : List Int) (lo hi : Int) (hx : ∀ x ∈ xs, lo ≤ x ∧ x ≤ hi) (hR : Rdr base w B N) (hN : N ≤ 100000) (hl : 1 ≤ xs.length) (hl1 : xs.length ≤ 1000) :
    Calls Try.prog 27 #[.pointer (some ⟨B, 0, none⟩), .int .i64 (xs.length : Int)] w.drew (LitB base B (N + 1) xs.length xs lo hi) := by
  refine (pick_any base _ B N _ hR.drew hN (by omega) (by omega)).mono ?_
  rintro e w2 ⟨k, rfl, hk0, hk1, hR2, hg2⟩
  obtain ⟨k, rfl⟩ := Int.eq_ofNat_of_zero_le hk0
  have hkl : k < xs.length := by omega
  exact ⟨k, xs[k], rfl, by omega, (hx _ (List.getElem_mem hkl)).1, (hx _ (List.getElem_mem hkl)).2, by simp [hkl], hR2⟩
end Go.Proofs.Ytekcnebcflpibaa
