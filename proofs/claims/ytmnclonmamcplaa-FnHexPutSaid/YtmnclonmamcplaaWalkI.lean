/- What the drawing functions of the hexadecimal digits give. -/
import Derived.Test.YtmnclonmamcplaaRows
import Derived.Test.YtmnclonmamcplaaWalkE
import Derived.Test.YtmnclonmamcplaaWalkG
import Derived.LoopTactic
namespace Go.Proofs.Ytmnclonmamcplaa
open Go.ChangeShapes Go.WideShapes Go.ChangeAt Go.RowKit
set_option linter.unusedVariables false
def ManyS (T : Nat) (w : World) (e : Ending) (w' : World) : Prop := ∃ s : ByteArray, e = .returned (.string s) ∧ s.size ≤ T ∧ w = w'
theorem many_odd (c q o T : Nat) (h : o + c * (2 * q + 1) ≤ T) : (o + c) + (c + c) * q ≤ T := by
  have e : c * (2 * q + 1) = c + (c + c) * q := by rw [Nat.mul_add, Nat.mul_one, ← Nat.mul_assoc, Nat.mul_comm c 2, Nat.two_mul]; omega
  omega
theorem many_even (c q o T : Nat) (h : o + c * (2 * q) ≤ T) : o + (c + c) * q ≤ T := by
  have e : c * (2 * q) = (c + c) * q := by rw [← Nat.mul_assoc, Nat.mul_comm c 2, Nat.two_mul]
  omega
theorem many_len (c m o T : Nat) (hm : 1 ≤ m) (h : o + c * m ≤ T) : o + c ≤ T := by
  have : c * 1 ≤ c * m := Nat.mul_le_mul_left c hm
  omega
set_option maxRecDepth 100000 in
theorem many_any (s : ByteArray) (n : Nat) (w : World) (T : Nat) (hT : s.size * n ≤ T) (hT1 : T ≤ 1000) (hs : s.size ≤ 2000) (hn : n ≤ 1000) :
    Calls Try.prog 19 #[.string s, .int .i64 (n : Int)] w (ManyS T w) := by
  go_enter Try.func19, Try.ntmps19
  go_wp2
  go_loop [0, 1, 5] (fun a b o => ∃ (S O : ByteArray) (m : Nat), a = .string S ∧ b = .int .i64 (m : Int) ∧ o = .string O ∧ m ≤ 1000 ∧ S.size ≤ 2000 ∧ O.size ≤ T ∧ Hid (O.size + S.size * m ≤ T)) (fun _ b _ => (intOf b).toNat)
  case atStart => exact ⟨s, ⟨#[]⟩, n, rfl, rfl, rfl, hn, hs, Nat.zero_le _, (by show 0 + s.size * n ≤ T; omega)⟩
  case round =>
    obtain ⟨S, O, m, rfl, rfl, rfl, hm, hS, hO, hq⟩ := hrel
    by_cases h0 : m = 0
    · subst h0
      go_wp2
      go_ret
      exact ⟨O, rfl, hO, rfl⟩
    · have hl := many_len S.size m O.size T (by omega) hq.out
      have hpos : (0 : Int) < (m : Int) := by omega
      obtain ⟨q, hq2⟩ : ∃ q, m = 2 * q ∨ m = 2 * q + 1 := ⟨m / 2, by omega⟩
      have hqd : (m : Int) / 2 = (q : Int) := by omega
      rcases hq2 with e | e
      · have ht : ((m : Int) % 2 == 1) = false := by rw [beq_eq_false_iff_ne]; omega
        have R := Lib.hid (many_even S.size q O.size T (e ▸ hq.out))
        have hqm : q < m := by omega
        clear e hq h0
        go_wp2
        go_round
        case rel => exact ⟨S ++ S, O, q, rfl, rfl, rfl, by omega, by rw [ByteArray.size_append]; omega, by omega, (by rw [ByteArray.size_append]; exact R.out)⟩
        case measure => simp [intOf]; omega
      · have ht : ((m : Int) % 2 == 1) = true := by rw [beq_iff_eq]; omega
        have R := Lib.hid (many_odd S.size q O.size T (e ▸ hq.out))
        have hqm : q < m := by omega
        clear e hq h0
        go_wp2
        go_round
        case rel => exact ⟨S ++ S, O ++ S, q, rfl, rfl, rfl, by omega, by rw [ByteArray.size_append]; omega, by rw [ByteArray.size_append]; omega, (by rw [ByteArray.size_append, ByteArray.size_append]; exact R.out)⟩
        case measure => simp [intOf]; omega
set_option maxRecDepth 100000 in
theorem of_any (base w : World) (B N L n m : Nat) (hR : Rdr base w B N) (hN : N ≤ 50000) (hn : 1 ≤ n) (hn1 : n ≤ 1000) (hL : L ≠ B)
    (hc : ∀ i, i < n → ∃ u : ByteArray, u.size ≤ m ∧ w.cell? ⟨L, i, none⟩ = some (.string u)) :
    Calls Try.prog 18 #[.pointer (some ⟨B, 0, none⟩), .slice (some ⟨L, 0, none⟩) n n] w (DrawnS base B (N + 1) m w) := by
  have HC := Lib.hid hc
  clear hc
  go_enter Try.func18, Try.ntmps18
  go_wp2_with fail
  refine (pick_any base _ B N _ hR (by omega) (by omega) (by omega)).mono ?_
  rintro e w1 ⟨k, rfl, hk0, hk1, hR1, hg1⟩
  obtain ⟨k, rfl⟩ := Int.eq_ofNat_of_zero_le hk0
  obtain ⟨u, hu, hcell⟩ := HC.out k (by omega)
  have hcell1 := hg1.cell hcell (by show some L ≠ some B; intro e; cases e; exact hL rfl)
  have hk' : (k : Int) < (n : Int) := by omega
  have R := Lib.hid hg1
  clear hg1 hcell
  go_wp2_with fail
  go_ret
  exact ⟨u, rfl, hu, hR1, R.out⟩
def DrawT (n : Nat) (w : World) (e : Ending) (w' : World) : Prop := ∃ s : ByteArray, e = .returned (.string s) ∧ s.size ≤ n ∧ Below w.heap.size w w'
theorem drawHexPut (a : Option Addr) (len cap : Nat) (w : World) (hc : CodeOf w a len cap) :
    Calls Try.prog 12 #[.slice a len cap] w (DrawT 42 w) := by
  go_enter Try.func12, Try.ntmps12
  go_wp2_with fail
  refine (open_any _ _ _ _ hc).mono ?_
  rintro e w1 ⟨B, rfl, hR⟩
  go_wp2_with fail
  refine (pick_any w _ B 0 _ hR (by omega) (by omega) (by omega)).mono ?_
  rintro e w2 ⟨v, rfl, h0, h1, hR2, hg2⟩
  by_cases e0 : v = 0
  · subst e0
    go_wp2_with fail
    refine (pick_any w _ B (0 + 1) _ hR2 (by omega) (by omega) (by omega)).mono ?_
    rintro e w3 ⟨k, rfl, hk0, hk1, hR3, hg3⟩
    obtain ⟨k, rfl⟩ := Int.eq_ofNat_of_zero_le hk0
    go_wp2_with fail
    rw [show (38 : Int) + (k : Int) = ((38 + k : Nat) : Int) by omega]
    refine (many_any _ (38 + k) _ 42 (by show 1 * (38 + k) ≤ 42; omega) (by omega) (by decide) (by omega)).mono ?_
    rintro e w4 ⟨s, rfl, hs, rfl⟩
    go_wp2_with fail
    go_ret
    exact ⟨s, rfl, hs, hR3.below⟩
  · have f0 : (v == 0) = false := beq_eq_false_iff_ne.2 e0
    clear e0
    go_wp2_with fail
    refine (bytes_any w _ B (0 + 1) 20 hR2 (by omega) (by omega)).mono ?_
    rintro e w3 ⟨s, rfl, hs, hR3, hg3⟩
    go_wp2_with fail
    go_ret
    exact ⟨s, rfl, by omega, hR3.below⟩
set_option maxRecDepth 100000 in
theorem drawHexGet (a : Option Addr) (len cap : Nat) (w : World) (hc : CodeOf w a len cap) :
    Calls Try.prog 8 #[.slice a len cap] w (DrawT 83 w) := by
  go_enter Try.func8, Try.ntmps8
  go_wp2_with fail
  refine (open_any _ _ _ _ hc).mono ?_
  rintro e w1 ⟨B, rfl, hR⟩
  go_wp2_with fail
  refine (bytes_any w _ B 0 20 hR (by omega) (by omega)).mono ?_
  rintro e w2 ⟨t, rfl, ht, hR2, hg2⟩
  go_wp2_with fail
  refine (l1hex_any _ _ (by omega)).mono ?_
  rintro e w3 ⟨rfl, hb3⟩
  have hz := hexS_size t
  have hS : (hexS t).size ≤ 40 := by omega
  clear hz
  have hR3 : Rdr w w3 B (0 + 2 * 20 + 1) := hR2.grown (r := none) ⟨hb3.os, hb3.tape, hb3.output, hb3.size, fun k hk _ => hb3.block k hk⟩ (fun _ h => by cases h)
  generalize hexS t = S at hS ⊢
  clear hR2 hb3
  have hB3 := hR3.hi
  go_wp2_with fail
  refine (pick_any w _ B _ _ hR3 (by omega) (by omega) (by omega)).mono ?_
  rintro e w4 ⟨v, rfl, h0, h1, hR4, hg4⟩
  have hB4 := hR4.hi
  by_cases e0 : v = 0
  · subst e0
    go_wp2_with fail
    refine (of_any w _ B _ _ 5 2 (hR4.alloc _) (by omega) (by omega) (by omega) (by omega) ?_).mono ?_
    · intro i hi
      rw [World.cell?_alloc_new]
      match i, hi with
      | 0, _ => exact ⟨_, by decide, rfl⟩
      | 1, _ => exact ⟨_, by decide, rfl⟩
      | 2, _ => exact ⟨_, by decide, rfl⟩
      | 3, _ => exact ⟨_, by decide, rfl⟩
      | 4, _ => exact ⟨_, by decide, rfl⟩
    rintro e w5 ⟨s, rfl, hs, hR5, hg5⟩
    go_wp2_with fail
    go_ret
    exact ⟨_, rfl, by rw [ByteArray.size_append]; omega, hR5.below⟩
  · by_cases e1 : v = 1
    · subst e1
      go_wp2_with fail
      refine (pick_any w _ B _ _ hR4 (by omega) (by omega) (by omega)).mono ?_
      rintro e w5 ⟨k, rfl, hk0, hk1, hR5, hg5⟩
      obtain ⟨k, rfl⟩ := Int.eq_ofNat_of_zero_le hk0
      go_wp2_with fail
      rw [show (78 : Int) + (k : Int) = ((78 + k : Nat) : Int) by omega]
      refine (many_any _ (78 + k) _ 83 (by show 1 * (78 + k) ≤ 83; omega) (by omega) (by decide) (by omega)).mono ?_
      rintro e w6 ⟨s, rfl, hs, rfl⟩
      go_wp2_with fail
      go_ret
      exact ⟨s, rfl, hs, hR5.below⟩
    · have f0 : (v == 0) = false := beq_eq_false_iff_ne.2 e0
      have f1 : (v == 1) = false := beq_eq_false_iff_ne.2 e1
      clear e0 e1
      go_wp2_with fail
      go_ret
      exact ⟨_, rfl, by omega, hR4.below⟩
end Go.Proofs.Ytmnclonmamcplaa
