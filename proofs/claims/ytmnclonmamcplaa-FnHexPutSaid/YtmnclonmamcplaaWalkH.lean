/- What each function of the hexadecimal digits computes: a contract a function. -/
import Derived.Test.YtmnclonmamcplaaRows
import Derived.Test.YtmnclonmamcplaaMathB
import Derived.Test.YtmnclonmamcplaaMathH
import Derived.WalkKit
import Derived.ProofKit
import Derived.Outline
import Derived.Lib.Hide
import Derived.Below
import Derived.WalkSmall
import Derived.StillTactics
import Derived.OwnWalk
import Derived.Deep.RegionHeld3
import Derived.Deep.AppendLies
import Derived.Deep.QuietTactic
import Derived.BigQuiet
import Derived.WalkSpells
import Derived.WalkLawsBesides
namespace Go.Proofs.Ytmnclonmamcplaa
open Go.ChangeShapes Go.WideShapes Go.ChangeAt Go.RowKit
set_option linter.unusedVariables false
theorem h_rets {a b : ByteArray} (h : a = b) : Ending.returned (.string a) = .returned (.string b) := by rw [h]
theorem Try.info5 : (Try.prog.info? 5).map (fun i => (i.zero, i.size, i.bytes)) = some (some (.int .u8 0), 1, 1) := by kernel_rfl
set_option maxRecDepth 100000 in
theorem l1hex_any (s : ByteArray) (w : World) (hs : s.size ≤ 40) :
    Calls Try.prog 15 #[.string s] w fun e w' => e = .returned (.string (hexS s)) ∧ Below w.heap.size w w' := by
  obtain ⟨i0, hi, hz0, hz1, hz2⟩ := info_parts Try.info5
  go_enter Try.func15, Try.ntmps15
  go_wp2
  go_loopw [3, 4] (fun v i wr => ∃ k : Nat, k ≤ s.size ∧ i = .int .i64 k ∧ (∃ g cap n, n = 2 * k ∧ v = .slice (some ⟨g, 0, none⟩) n cap ∧ wr.ownsRow w.heap.size 5 1 v n (cellsB (hexL (s.data.toList.take k)))) ∧ Below w.heap.size w wr) (fun _ i _ => s.size - (intOf i).toNat)
  case atStart => exact ⟨0, Nat.zero_le _, rfl, ⟨w.heap.size, 0, 0, rfl, rfl, World.ownsRow_made _ #[] 0 (Nat.le_refl _) (by unfold maxLen; omega) rfl⟩, (Below.refl _ _).alloc (Nat.le_refl _) _⟩
  case round =>
    obtain ⟨k, hk, rfl, ⟨g, cap, n, hn, rfl, hown⟩, hbel⟩ := hrel
    have HN := Lib.hid hn
    have hbs := hbel.size
    have hn2 : n ≤ 2 * k := by omega
    clear hn
    by_cases hlt : k < s.size
    · go_wp2
      have f1 := wrap_q16
      have f2 := wrap_r16
      have f3 := and15_b
      have f6 := tmod_16
      have f4 := fun (b : UInt8) (w : World) => digits_q (P := Try.prog) 9 Try.underlying9 b w
      have f5 := fun (b : UInt8) (w : World) => digits_r (P := Try.prog) 9 Try.underlying9 b w
      go_region_held3 (fun _ => True) (first | trivial) ((refine step_append_lies _ (by rfl) _ _ _ (by rfl) w.heap.size 5 i0 _ 1 1 Try.underlying22 hi hz0 hz1 hz2 rfl (by omega) _ n _ (by rfl) ((hown.alloc _).drew) ⟨wr.heap.size, 0, none⟩ 2 2 [.int .u8 ((hexC (s[k].toNat / 16)).toNat : Int), .int .u8 ((hexC (s[k].toNat % 16)).toNat : Int)] (by rfl) (by rfl) (World.news_of_block (cs := #[.int .u8 ((hexC (s[k].toNat / 16)).toNat : Int), .int .u8 ((hexC (s[k].toNat % 16)).toNat : Int)]) (t := 5) (fr := (0, 0)) (heap_alloc_new wr _)) (by simp [Value.oneCell']) (by omega) (by unfold maxLen; omega) (by omega) (by simp; omega) (wr.heap.size + 1) (by simp) ?_; intro gg cap1 w1 hown1 hgrow hat hlt1))
      all_goals
        have R := hex_step s k hlt
        have R1 := Lib.hid (R ▸ hown1)
        have R2 := Lib.hid (Below.grown ((hbel.alloc hbs _).drew) hgrow (by simp; omega) (fun j hj => (hown.lt j hj).1))
        clear hown1 hgrow hown hbel hat hlt1 f1 f2 f3 f4 f5 f6 R
        go_wp2
        go_roundw
        case rel => exact ⟨k + 1, by omega, by go_num, ⟨gg, cap1, n + 2, by have := HN.out; omega, rfl, R1.out⟩, R2.out⟩
        case measure => simp [intOf]; omega
    · have hc := fun (W : World) (hW : W.ownsRow w.heap.size 5 1 (.slice (some ⟨g, 0, none⟩) n cap) n (cellsB (hexL (s.data.toList.take k)))) => conv_row (P := Try.prog) (w := W) 22 Try.underlying22 Try.underlying5 9 Try.underlying9 (hexL (s.data.toList.take k)) (by rw [hexL_length, List.length_take, HN.out]; simp; omega) hW
      have hc1 := hc wr hown
      clear hc hown
      have ht : s.data.toList.take k = s.data.toList := List.take_of_length_le (by simp; omega)
      have hh : (⟨(hexL (s.data.toList.take k)).toArray⟩ : ByteArray) = hexS s := by rw [ht]; rfl
      have HH := Lib.hid hh
      clear ht hh
      go_wp2
      go_ret
      exact ⟨h_rets HH.out, hbel⟩
set_option maxRecDepth 100000 in
theorem hexOf_any (s : ByteArray) (w : World) (hs : s.size ≤ 40) :
    Calls Try.prog 22 #[.string s] w fun e w' => e = .returned (.string (hexS s)) ∧ Below w.heap.size w w' := by
  obtain ⟨i0, hi, hz0, hz1, hz2⟩ := info_parts Try.info5
  go_enter Try.func22, Try.ntmps22
  go_wp2_with (at_make; refine wpList_make_own _ rfl _ _ 22 rfl w.heap.size 5 i0 (.int .u8 0) 1 Try.underlying22 hi hz0 hz1 _ _ _ (2 * s.size) rfl rfl (by omega) (by rw [hz2]; omega) (by unfold maxLen; omega) (Nat.le_refl _) ?_; intro w0 hown0 hgrow0)
  have hb0 := Below.grown (Below.refl w.heap.size w) hgrow0 (Nat.le_refl _) (fun j hj => by cases hj)
  clear hgrow0
  go_loopw [3, 4] (fun v i wr => ∃ k : Nat, k ≤ s.size ∧ i = .int .i64 k ∧ (∃ g cap n, n = 2 * k ∧ v = .slice (some ⟨g, 0, none⟩) n cap ∧ wr.ownsRow w.heap.size 5 1 v n (cellsB (hexL (s.data.toList.take k)))) ∧ Below w.heap.size w wr) (fun _ i _ => s.size - (intOf i).toNat)
  case atStart => exact ⟨0, Nat.zero_le _, rfl, ⟨w.heap.size, _, 0, rfl, rfl, hown0⟩, hb0⟩
  case round =>
    obtain ⟨k, hk, rfl, ⟨g, cap, n, hn, rfl, hown⟩, hbel⟩ := hrel
    have HN := Lib.hid hn
    have hbs := hbel.size
    have hn2 : n ≤ 2 * k := by omega
    clear hn
    by_cases hlt : k < s.size
    · go_wp2
      have f1 := wrap_q16
      have f2 := wrap_r16
      have f3 := and15_b
      have f6 := tmod_16
      have f4 := fun (b : UInt8) (w : World) => digits_q (P := Try.prog) 9 Try.underlying9 b w
      have f5 := fun (b : UInt8) (w : World) => digits_r (P := Try.prog) 9 Try.underlying9 b w
      go_region_held3 (fun _ => True) (first | trivial) ((refine step_append_lies _ (by rfl) _ _ _ (by rfl) w.heap.size 5 i0 _ 1 1 Try.underlying22 hi hz0 hz1 hz2 rfl (by omega) _ n _ (by rfl) ((hown.alloc _).drew) ⟨wr.heap.size, 0, none⟩ 2 2 [.int .u8 ((hexC (s[k].toNat / 16)).toNat : Int), .int .u8 ((hexC (s[k].toNat % 16)).toNat : Int)] (by rfl) (by rfl) (World.news_of_block (cs := #[.int .u8 ((hexC (s[k].toNat / 16)).toNat : Int), .int .u8 ((hexC (s[k].toNat % 16)).toNat : Int)]) (t := 5) (fr := (0, 0)) (heap_alloc_new wr _)) (by simp [Value.oneCell']) (by omega) (by unfold maxLen; omega) (by omega) (by simp; omega) (wr.heap.size + 1) (by simp) ?_; intro gg cap1 w1 hown1 hgrow hat hlt1))
      all_goals
        have R := hex_step s k hlt
        have R1 := Lib.hid (R ▸ hown1)
        have R2 := Lib.hid (Below.grown ((hbel.alloc hbs _).drew) hgrow (by simp; omega) (fun j hj => (hown.lt j hj).1))
        clear hown1 hgrow hown hbel hat hlt1 f1 f2 f3 f4 f5 f6 R
        go_wp2
        go_roundw
        case rel => exact ⟨k + 1, by omega, by go_num, ⟨gg, cap1, n + 2, by have := HN.out; omega, rfl, R1.out⟩, R2.out⟩
        case measure => simp [intOf]; omega
    · have hc := fun (W : World) (hW : W.ownsRow w.heap.size 5 1 (.slice (some ⟨g, 0, none⟩) n cap) n (cellsB (hexL (s.data.toList.take k)))) => conv_row (P := Try.prog) (w := W) 22 Try.underlying22 Try.underlying5 9 Try.underlying9 (hexL (s.data.toList.take k)) (by rw [hexL_length, List.length_take, HN.out]; simp; omega) hW
      have hc1 := hc wr hown
      clear hc hown
      have ht : s.data.toList.take k = s.data.toList := List.take_of_length_le (by simp; omega)
      have hh : (⟨(hexL (s.data.toList.take k)).toArray⟩ : ByteArray) = hexS s := by rw [ht]; rfl
      have HH := Lib.hid hh
      clear ht hh
      go_wp2
      go_ret
      exact ⟨h_rets HH.out, hbel⟩
theorem h_ret {k : IntKind} {a b : Int} (h : a = b) : Ending.returned (.int k a) = .returned (.int k b) := by rw [h]
set_option maxRecDepth 100000 in
theorem hexDigit_any (c : UInt8) (w : World) :
    Calls Try.prog 20 #[.int .u8 (c.toNat : Int)] w fun e w' => e = .returned (.int .i64 (hexV c)) ∧ w = w' := by
  have hc : (c.toNat : Int) < 256 := by have := c.toNat_lt; omega
  by_cases h1 : 48 ≤ (c.toNat : Int)
  · by_cases h2 : (c.toNat : Int) ≤ 57
    · have hv : hexV c = (c.toNat : Int) - 48 := if_pos ⟨h1, h2⟩
      have HV := Lib.hid hv; clear hv
      go_enter Try.func20, Try.ntmps20
      go_wp2
      go_ret
      exact ⟨h_ret (by first | (rw [HV.out]; done) | (rw [HV.out]; omega)), rfl⟩
    · by_cases h3 : 97 ≤ (c.toNat : Int)
      · by_cases h4 : (c.toNat : Int) ≤ 102
        · have hv : hexV c = (c.toNat : Int) - 87 := by unfold hexV; rw [if_neg (by omega), if_pos ⟨h3, h4⟩]
          have HV := Lib.hid hv; clear hv
          go_enter Try.func20, Try.ntmps20
          go_wp2
          go_ret
          exact ⟨h_ret (by first | (rw [HV.out]; done) | (rw [HV.out]; omega)), rfl⟩
        · have hv : hexV c = -1 := by unfold hexV; rw [if_neg (by omega), if_neg (by omega)]
          have HV := Lib.hid hv; clear hv
          go_enter Try.func20, Try.ntmps20
          go_wp2
          go_ret
          exact ⟨h_ret (by rw [HV.out]), rfl⟩
      · have hv : hexV c = -1 := by unfold hexV; rw [if_neg (by omega), if_neg (by omega)]
        have HV := Lib.hid hv; clear hv
        go_enter Try.func20, Try.ntmps20
        go_wp2
        go_ret
        exact ⟨h_ret (by rw [HV.out]), rfl⟩
  · have hv : hexV c = -1 := by unfold hexV; rw [if_neg (by omega), if_neg (by omega)]
    have HV := Lib.hid hv; clear hv
    go_enter Try.func20, Try.ntmps20
    go_wp2
    go_ret
    exact ⟨h_ret (by rw [HV.out]), rfl⟩
set_option maxRecDepth 100000 in
theorem l1digit_any (c : UInt8) (w : World) :
    Calls Try.prog 21 #[.int .u8 (c.toNat : Int)] w fun e w' => e = .returned (.int .i64 (hexV c)) ∧ w = w' := by
  go_enter Try.func21, Try.ntmps21
  go_wp2
  go_loop [3] (fun i => ∃ k : Nat, k ≤ 16 ∧ i = .int .i64 k ∧ Hid (∀ j, j < k → hexC j ≠ c)) (fun i => 16 - (intOf i).toNat)
  case atStart => exact ⟨0, Nat.zero_le _, rfl, fun j hj => absurd hj (by omega)⟩
  case round =>
    obtain ⟨k, hk, rfl, hno⟩ := hrel
    by_cases hlt : k < 16
    · have hd := fun (w : World) => digits_i (P := Try.prog) 9 Try.underlying9 k hlt w
      by_cases hq : hexC k = c
      · have hv : (k : Int) = hexV c := by rw [← hq, hexV_hexC k hlt]
        have HV := Lib.hid hv
        have ht : (((hexC k).toNat : Int) == (c.toNat : Int)) = true := by rw [hq]; simp
        clear hv hq
        go_wp2
        go_ret
        exact ⟨h_ret HV.out, rfl⟩
      · have ht : (((hexC k).toNat : Int) == (c.toNat : Int)) = false := by
          rw [beq_eq_false_iff_ne]; intro h; exact hq (UInt8.toNat_inj.1 (by omega))
        have HQ := Lib.hid hq
        clear hq
        go_wp2
        go_round
        case rel => exact ⟨k + 1, by omega, by go_num, fun j hj => by
          by_cases hjk : j = k
          · subst hjk; exact HQ.out
          · exact hno.out j (by omega)⟩
        case measure => simp [intOf]; omega
    · have hv : hexV c = -1 := hexV_none c fun j hj => hno.out j (by omega)
      have HV := Lib.hid hv; clear hv
      go_wp2
      go_ret
      exact ⟨h_ret (by rw [HV.out]), rfl⟩
theorem hexPutI_yes (s : ByteArray) (w : World) (hs : s.size ≤ 40) :
    Calls Try.prog 11 #[.string s] w fun e w' => e = .returned (.string (hexS s)) ∧ Below w.heap.size w w' := by
  go_enter Try.func11, Try.ntmps11
  go_wp2_with fail
  refine (hexOf_any _ _ hs).mono ?_
  rintro e w' ⟨rfl, hb⟩
  go_wp2_with fail
  go_ret
  exact ⟨rfl, hb⟩
theorem hexPutI_no (s : ByteArray) (w : World) (hs : ¬ s.size ≤ 40) :
    Calls Try.prog 11 #[.string s] w fun e w' => e = .returned (.string ⟨#[]⟩) ∧ Below w.heap.size w w' := by
  have h1 : 40 < s.size := by omega
  clear hs
  go_enter Try.func11, Try.ntmps11
  go_wp2_with fail
  go_ret
  exact ⟨rfl, Below.refl _ _⟩
theorem hexPutS_yes (s : ByteArray) (w : World) (hs : s.size ≤ 40) :
    Calls Try.prog 13 #[.string s] w fun e w' => e = .returned (.string (hexS s)) ∧ Below w.heap.size w w' := by
  go_enter Try.func13, Try.ntmps13
  go_wp2_with fail
  refine (l1hex_any _ _ hs).mono ?_
  rintro e w' ⟨rfl, hb⟩
  go_wp2_with fail
  go_ret
  exact ⟨rfl, hb⟩
theorem hexPutS_no (s : ByteArray) (w : World) (hs : ¬ s.size ≤ 40) :
    Calls Try.prog 13 #[.string s] w fun e w' => e = .returned (.string ⟨#[]⟩) ∧ Below w.heap.size w w' := by
  have h1 : 40 < s.size := by omega
  clear hs
  go_enter Try.func13, Try.ntmps13
  go_wp2_with fail
  go_ret
  exact ⟨rfl, Below.refl _ _⟩
end Go.Proofs.Ytmnclonmamcplaa
