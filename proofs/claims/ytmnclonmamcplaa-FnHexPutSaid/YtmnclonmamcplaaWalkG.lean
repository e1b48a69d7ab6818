/- What HexGet computes, the program's and the reference's. -/
import Derived.Test.YtmnclonmamcplaaRows
import Derived.Test.YtmnclonmamcplaaWalkH
namespace Go.Proofs.Ytmnclonmamcplaa
open Go.ChangeShapes Go.WideShapes Go.ChangeAt Go.RowKit
set_option linter.unusedVariables false
theorem g_ret {a b : Value} (h : a = b) : Ending.returned a = .returned b := by rw [h]
theorem byte_wrap_bd (x : Int) : 0 ≤ IntKind.u8.wrap x ∧ IntKind.u8.wrap x < 256 ∧ IntKind.u8.wrap x % 256 = x % 256 := by rw [IntKind.wrap_u8]; omega
set_option maxRecDepth 100000 in
theorem hexGetS_any (s : ByteArray) (w : World) (hs : s.size ≤ 9223372036854775807) :
    Calls Try.prog 10 #[.string s] w fun e w' => e = .returned (hexGetR s.data.toList) ∧ Below w.heap.size w w' := by
  have hlen : s.data.toList.length = s.size := by simp
  by_cases he : s.size % 2 = 0
  · by_cases hle : s.size ≤ 80
    · obtain ⟨i0, hi, hz0, hz1, hz2⟩ := info_parts Try.info5
      have ht : ((s.size : Int) % 2 != 0) = false := by rw [bne_eq_false_iff_eq]; omega
      have HE := Lib.hid he
      have HL := Lib.hid hlen
      clear he hlen
      go_enter Try.func10, Try.ntmps10
      go_wp2
      go_loopw [4, 5] (fun v i wr => ∃ j : Nat, j ≤ s.size ∧ i = .int .i64 j ∧ Hid (j % 2 = 0) ∧ (∃ g cap n, Hid (2 * n = j) ∧ v = .slice (some ⟨g, 0, none⟩) n cap ∧ wr.ownsRow w.heap.size 5 1 v n (cellsB (unhex (s.data.toList.take j)))) ∧ Hid (∀ c ∈ s.data.toList.take j, 0 ≤ hexV c) ∧ Below w.heap.size w wr) (fun _ i _ => s.size - (intOf i).toNat)
      case atStart => exact ⟨0, Nat.zero_le _, rfl, rfl, ⟨w.heap.size, 0, 0, rfl, rfl, World.ownsRow_made _ #[] 0 (Nat.le_refl _) (by unfold maxLen; omega) rfl⟩, (fun c hc => by simp at hc), (Below.refl _ _).alloc (Nat.le_refl _) _⟩
      case round =>
        obtain ⟨j, hj, rfl, hp, ⟨g, cap, n, hn, rfl, hown⟩, hval, hbel⟩ := hrel
        have hbs := hbel.size
        have hn2 : n ≤ j := by have := hn.out; omega
        by_cases hlt : j < s.size
        · have h1 : j + 1 < s.size := by have := hp.out; have := HE.out; omega
          go_wp2_with fail
          refine (l1digit_any _ _).mono ?_
          rintro e w' ⟨rfl, rfl⟩
          obtain ⟨x, hx⟩ : ∃ x, x = hexV (s[j]'hlt) := ⟨_, rfl⟩
          rw [← hx]
          have HX := Lib.hid hx; clear hx
          go_wp2_with fail
          refine (l1digit_any _ _).mono ?_
          rintro e w' ⟨rfl, rfl⟩
          obtain ⟨y, hy⟩ : ∃ y, y = hexV (s[j + 1]'h1) := ⟨_, rfl⟩
          rw [← hy]
          have HY := Lib.hid hy; clear hy
          by_cases hx0 : x < 0
          · go_wp2_with fail
            go_ret2
            exact ⟨g_ret (hexGetR_no _ (hexBad_at s j hlt (by rw [← HX.out]; exact hx0))).symm, hbel⟩
          · by_cases hy0 : y < 0
            · go_wp2_with fail
              go_ret2
              exact ⟨g_ret (hexGetR_no _ (hexBad_at s (j + 1) h1 (by rw [← HY.out]; exact hy0))).symm, hbel⟩
            · have bx : x < 16 := by have := hexV_bd (s[j]'hlt); rw [← HX.out] at this; omega
              have bv : y < 16 := by have := hexV_bd (s[j + 1]'h1); rw [← HY.out] at this; omega
              have hx1 : 0 ≤ x := by omega
              have hy1 : 0 ≤ y := by omega
              go_wp2_with (at_builtin; refine wpList_append_lies _ rfl _ _ 22 rfl w.heap.size 5 i0 (.int .u8 0) 1 1 Try.underlying22 hi hz0 hz1 hz2 rfl (by decide) _ n _ rfl (hown.alloc _) ⟨wr.heap.size, 0, none⟩ 1 1 [.int .u8 (16 * x + y)] rfl rfl (World.news_of_block (cs := #[.int .u8 (16 * x + y)]) (t := 5) (fr := (0, 0)) (heap_alloc_new wr _)) (by simp [Value.oneCell']) (by decide) (by unfold maxLen; omega) (by omega) (by simp; omega) (wr.heap.size + 1) (by simp) ?_; intro gg cap1 w1 hown1 hgrow hat hlt1)
              have hp' := hp.out
              have R := get_step' s j (by omega) h1 (by rw [← HX.out]; omega) (by rw [← HY.out]; omega) (16 * x + y) (by rw [← HX.out, ← HY.out]; omega) (by omega) (by omega)
              have R1 := Lib.hid (R.symm ▸ hown1)
              have R2 := Lib.hid (Below.grown (hbel.alloc hbs _) hgrow (by simp; omega) (fun k hk => (hown.lt k hk).1))
              have R3 := Lib.hid (valid_step s j h1 hval.out (by rw [← HX.out]; omega) (by rw [← HY.out]; omega))
              clear hown1 hgrow hown hbel hat hlt1 R hp'
              go_wp2
              go_roundw
              case rel => exact ⟨j + 2, by omega, by go_num, by have := hp.out; show (j + 2) % 2 = 0; omega, ⟨gg, cap1, n + 1, by have := hn.out; show 2 * (n + 1) = j + 2; omega, rfl, R1.out⟩, R3.out, R2.out⟩
              case measure => simp [intOf]; omega
        · have htk : s.data.toList.take j = s.data.toList := List.take_of_length_le (by simp; omega)
          rw [htk] at hval hown
          have hok : hexOk s.data.toList := ⟨by rw [HL.out]; exact HE.out, by rw [HL.out]; exact hle, hval.out⟩
          have hnl : n = (unhex s.data.toList).length := by rw [unhex_length n _ (by have := hn.out; rw [HL.out]; omega)]
          have hc1 := conv_row (P := Try.prog) (w := wr) 22 Try.underlying22 Try.underlying5 9 Try.underlying9 (unhex s.data.toList) hnl hown
          clear hnl htk
          go_wp2
          go_ret2
          exact ⟨g_ret (hexGetR_yes _ hok).symm, hbel⟩
    · have hno : ¬ hexOk s.data.toList := fun h => hle (by have := h.2.1; omega)
      have h80 : (80 : Int) < (s.size : Int) := by omega
      clear hle hlen
      by_cases ht : ((s.size : Int) % 2 != 0) = true
      all_goals
        go_enter Try.func10, Try.ntmps10
        go_wp2
        go_ret2
        exact ⟨g_ret (hexGetR_no _ hno).symm, Below.refl _ _⟩
  · have hno : ¬ hexOk s.data.toList := fun h => he (by have := h.1; omega)
    have ht : ((s.size : Int) % 2 != 0) = true := by rw [bne_iff_ne]; omega
    clear he hlen
    go_enter Try.func10, Try.ntmps10
    go_wp2
    go_ret2
    exact ⟨g_ret (hexGetR_no _ hno).symm, Below.refl _ _⟩
set_option maxRecDepth 100000 in
theorem hexGetI_any (s : ByteArray) (w : World) (hs : s.size ≤ 9223372036854775807) :
    Calls Try.prog 9 #[.string s] w fun e w' => e = .returned (hexGetR s.data.toList) ∧ Below w.heap.size w w' := by
  have hlen : s.data.toList.length = s.size := by simp
  by_cases he : s.size % 2 = 0
  · by_cases hle : s.size ≤ 80
    · obtain ⟨i0, hi, hz0, hz1, hz2⟩ := info_parts Try.info5
      have ht : ((s.size : Int) % 2 != 0) = false := by rw [bne_eq_false_iff_eq]; omega
      have HE := Lib.hid he
      have HL := Lib.hid hlen
      clear he hlen
      go_enter Try.func9, Try.ntmps9
      have hq : (s.size : Int) / 2 = ((s.size / 2 : Nat) : Int) := by omega
      have HQ := Lib.hid hq
      clear hq
      go_wp2_with (at_make; refine wpList_make_own _ rfl _ _ 22 rfl w.heap.size 5 i0 (.int .u8 0) 1 Try.underlying22 hi hz0 hz1 _ _ _ (s.size / 2) rfl rfl (by omega) (by rw [hz2]; omega) (by unfold maxLen; omega) (Nat.le_refl _) ?_; intro w0 hown0 hgrow0)
      have hb0 := Below.grown (Below.refl w.heap.size w) hgrow0 (Nat.le_refl _) (fun j hj => by cases hj)
      clear hgrow0
      go_loopw [4, 5] (fun v i wr => ∃ j : Nat, j ≤ s.size ∧ i = .int .i64 j ∧ Hid (j % 2 = 0) ∧ (∃ g cap n, Hid (2 * n = j) ∧ v = .slice (some ⟨g, 0, none⟩) n cap ∧ wr.ownsRow w.heap.size 5 1 v n (cellsB (unhex (s.data.toList.take j)))) ∧ Hid (∀ c ∈ s.data.toList.take j, 0 ≤ hexV c) ∧ Below w.heap.size w wr) (fun _ i _ => s.size - (intOf i).toNat)
      case atStart => exact ⟨0, Nat.zero_le _, rfl, rfl, ⟨w.heap.size, _, 0, rfl, rfl, hown0⟩, (fun c hc => by simp at hc), hb0⟩
      case round =>
        obtain ⟨j, hj, rfl, hp, ⟨g, cap, n, hn, rfl, hown⟩, hval, hbel⟩ := hrel
        have hbs := hbel.size
        have hn2 : n ≤ j := by have := hn.out; omega
        by_cases hlt : j < s.size
        · have h1 : j + 1 < s.size := by have := hp.out; have := HE.out; omega
          have p1 : IntKind.i64.wrap ((j : Int) + 1) = (j : Int) + 1 := IntWalk.i64_in _ (by omega)
          have q1 : ((j : Int) + 1).toNat = j + 1 := by omega
          have r1 : (0 : Int) ≤ (j : Int) + 1 := by omega
          have t1 : ((j : Int) + 1) < (s.size : Int) := by omega
          go_wp2_with fail
          go_quiet ((go_at_call 20; exact Calls.quiet_of_same ((hexDigit_any _ _).mono fun _ _ h => ⟨h.1, h.2.symm⟩)))
          clear p1
          replace hown : (wr.drewN nq).ownsRow w.heap.size 5 1 (.slice (some ⟨g, 0, none⟩) n cap) n (cellsB (unhex (s.data.toList.take j))) := hown
          replace hbel : Below w.heap.size w (wr.drewN nq) := below_drewN hbel nq
          replace hbs : w.heap.size ≤ (wr.drewN nq).heap.size := hbs
          generalize wr.drewN nq = wq at hown hbel hbs ⊢
          obtain ⟨x, hx⟩ : ∃ x, x = hexV (s[j]'hlt) := ⟨_, rfl⟩
          rw [← hx]
          have HX := Lib.hid hx; clear hx
          obtain ⟨y, hy⟩ : ∃ y, y = hexV (s[j + 1]'h1) := ⟨_, rfl⟩
          rw [← hy]
          have HY := Lib.hid hy; clear hy
          by_cases hx0 : x < 0
          · go_wp2_with fail
            go_ret2
            exact ⟨g_ret (hexGetR_no _ (hexBad_at s j hlt (by rw [← HX.out]; exact hx0))).symm, hbel⟩
          · by_cases hy0 : y < 0
            · go_wp2_with fail
              go_ret2
              exact ⟨g_ret (hexGetR_no _ (hexBad_at s (j + 1) h1 (by rw [← HY.out]; exact hy0))).symm, hbel⟩
            · have bx : x < 16 := by have := hexV_bd (s[j]'hlt); rw [← HX.out] at this; omega
              have bv : y < 16 := by have := hexV_bd (s[j + 1]'h1); rw [← HY.out] at this; omega
              have hx1 : 0 ≤ x := by omega
              have hy1 : 0 ≤ y := by omega
              go_wp2_with (at_builtin; refine wpList_append_lies _ rfl _ _ 22 rfl w.heap.size 5 i0 (.int .u8 0) 1 1 Try.underlying22 hi hz0 hz1 hz2 rfl (by decide) _ n _ rfl (hown.alloc _) ⟨wq.heap.size, 0, none⟩ 1 1 [.int .u8 (x * 16 + y)] rfl rfl (World.news_of_block (cs := #[.int .u8 (x * 16 + y)]) (t := 5) (fr := (0, 0)) (heap_alloc_new wq _)) (by simp [Value.oneCell']) (by decide) (by unfold maxLen; omega) (by omega) (by simp; omega) (wq.heap.size + 1) (by simp) ?_; intro gg cap1 w1 hown1 hgrow hat hlt1)
              have hp' := hp.out
              have R := get_step' s j (by omega) h1 (by rw [← HX.out]; omega) (by rw [← HY.out]; omega) (x * 16 + y) (by rw [← HX.out, ← HY.out]) (by omega) (by omega)
              have R1 := Lib.hid (R.symm ▸ hown1)
              have R2 := Lib.hid (Below.grown (hbel.alloc hbs _) hgrow (by simp; omega) (fun k hk => (hown.lt k hk).1))
              have R3 := Lib.hid (valid_step s j h1 hval.out (by rw [← HX.out]; omega) (by rw [← HY.out]; omega))
              clear hown1 hgrow hown hbel hat hlt1 R hp'
              go_wp2
              go_roundw
              case rel => exact ⟨j + 2, by omega, by go_num, by have := hp.out; show (j + 2) % 2 = 0; omega, ⟨gg, cap1, n + 1, by have := hn.out; show 2 * (n + 1) = j + 2; omega, rfl, R1.out⟩, R3.out, R2.out⟩
              case measure => simp [intOf]; omega
        · have htk : s.data.toList.take j = s.data.toList := List.take_of_length_le (by simp; omega)
          rw [htk] at hval hown
          have hok : hexOk s.data.toList := ⟨by rw [HL.out]; exact HE.out, by rw [HL.out]; exact hle, hval.out⟩
          have hnl : n = (unhex s.data.toList).length := by rw [unhex_length n _ (by have := hn.out; rw [HL.out]; omega)]
          have hc1 := conv_row (P := Try.prog) (w := wr) 22 Try.underlying22 Try.underlying5 9 Try.underlying9 (unhex s.data.toList) hnl hown
          clear hnl htk
          go_wp2
          go_ret2
          exact ⟨g_ret (hexGetR_yes _ hok).symm, hbel⟩
    · have hno : ¬ hexOk s.data.toList := fun h => hle (by have := h.2.1; omega)
      have h80 : (80 : Int) < (s.size : Int) := by omega
      clear hle hlen
      by_cases ht : ((s.size : Int) % 2 != 0) = true
      all_goals
        go_enter Try.func9, Try.ntmps9
        go_wp2
        go_ret2
        exact ⟨g_ret (hexGetR_no _ hno).symm, Below.refl _ _⟩
  · have hno : ¬ hexOk s.data.toList := fun h => he (by have := h.1; omega)
    have ht : ((s.size : Int) % 2 != 0) = true := by rw [bne_iff_ne]; omega
    clear he hlen
    go_enter Try.func9, Try.ntmps9
    go_wp2
    go_ret2
    exact ⟨g_ret (hexGetR_no _ hno).symm, Below.refl _ _⟩
end Go.Proofs.Ytmnclonmamcplaa
