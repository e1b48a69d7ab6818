/- What the drawing functions give: a number of a range, or a text of at most so many bytes; nothing that was there turns. -/
import Derived.Test.YtldiamafbcopmaaRows
import Derived.Test.YtldiamafbcopmaaWalkD
import Derived.Deep.AppendLies
namespace Go.Proofs.Ytldiamafbcopmaa
open Go.ChangeShapes Go.WideShapes Go.ChangeAt Go.RowKit
set_option linter.unusedVariables false
/-- The argument of a law, as the walk wants it. -/
def CodeOf (w : World) (a : Option Addr) (len cap : Nat) : Prop :=
  len ≤ cap ∧ cap ≤ maxLen ∧ (len = 0 ∨ ∃ sb so, a = some ⟨sb, so, none⟩ ∧ sb < w.heap.size ∧ ∀ i, i < len → ∃ z : Int, 0 ≤ z ∧ z ≤ 255 ∧ w.cell? ⟨sb, so + i, none⟩ = some (.int .u8 z))
def Opened (w : World) (e : Ending) (w' : World) : Prop := ∃ B, e = .returned (.pointer (some ⟨B, 0, none⟩)) ∧ Rdr w w' B 0
theorem opened_post (w : World) (a : Option Addr) (len cap : Nat) (T : TypeId) (hc : CodeIn w a len) : Opened w (.returned (.pointer (some ⟨w.heap.size, 0, none⟩))) (w.alloc (.cells #[.slice a len cap, .int .i64 0] T)) :=
  ⟨w.heap.size, rfl, (Below.refl _ _).alloc (Nat.le_refl _) _, Nat.le_refl _, by simp, a, len, cap, 0, hc, Nat.le_refl _, by rw [World.cell?_alloc_new]; rfl, by rw [World.cell?_alloc_new]; rfl, by simp [go_sem]⟩
set_option maxRecDepth 100000 in
theorem open_any (a : Option Addr) (len cap : Nat) (w : World) (hc : CodeOf w a len cap) :
    Calls Try.prog 24 #[.slice a len cap] w (Opened w) := by
  obtain ⟨h1, h2, h3⟩ := hc
  unfold maxLen at h2
  by_cases hl : 2000 < len
  · rcases h3 with h3 | ⟨sb, so, rfl, hsb, hz⟩
    · omega
    have hcode : CodeIn w (some ⟨sb, so, none⟩) 2000 := ⟨Nat.le_refl _, .inr ⟨sb, so, rfl, hsb, fun i hi => hz i (by omega)⟩⟩
    have P := opened_post w (some ⟨sb, so, none⟩) 2000 cap 42 hcode
    have PP := Lib.hid P
    clear P hz hcode
    have hl' : (2000 : Int) < (len : Int) := by omega
    have hl2 : (2000 : Int) ≤ (cap : Int) := by omega
    have hl3 : 2000 < cap := by omega
    go_enter Try.func24, Try.ntmps24
    go_wp2
    go_ret
    exact PP.out
  · have hcode : CodeIn w a len := ⟨by omega, h3⟩
    have P := opened_post w a len cap 42 hcode
    have PP := Lib.hid P
    clear P h3 hcode
    go_enter Try.func24, Try.ntmps24
    go_wp2
    go_ret
    exact PP.out
theorem Rdr.alloc {base w : World} {B N : Nat} (h : Rdr base w B N) (o : Obj) : Rdr base (w.alloc o) B N := h.grown (r := none) (grownBy_alloc w o none) (fun _ h => by cases h)
/-- A text that was drawn. -/
def DrawnS (base : World) (B N n : Nat) (w : World) (e : Ending) (w' : World) : Prop :=
  ∃ s : ByteArray, e = .returned (.string s) ∧ s.size ≤ n ∧ Rdr base w' B N ∧ w.grownBy w' (some B)
theorem cellsB_snoc (l : List UInt8) (x : Int) (h0 : 0 ≤ x) (h1 : x ≤ 255) : cellsB (l ++ [UInt8.ofNat x.toNat]) = cellsB l ++ [.int .u8 x] := by
  have : ((UInt8.ofNat x.toNat).toNat : Int) = x := by rw [UInt8.toNat_ofNat']; omega
  rw [cellsB_append]; unfold cellsB cellB; rw [List.map_singleton, this]
theorem grown_own {w wr w1 : World} {v : Value} {B : Nat} (h : w.grownBy wr (some B)) (hg : wr.grownBy w1 v.ownBlock) (hv : ∀ k, v.ownBlock = some k → w.heap.size ≤ k) : w.grownBy w1 (some B) :=
  ⟨hg.os.trans h.os, hg.tape.trans h.tape, hg.output.trans h.output, Nat.le_trans h.size hg.size, fun i hi hr => (hg.block i (Nat.lt_of_lt_of_le hi h.size) (fun e => by have := hv i e.symm; omega)).trans (h.block i hi hr)⟩
theorem grown_row {w wr w1 : World} {g n cap B : Nat} (h : w.grownBy wr (some B)) (hg : wr.grownBy w1 (Value.slice (some ⟨g, 0, none⟩) n cap).ownBlock) (hv : w.heap.size ≤ g) : w.grownBy w1 (some B) :=
  grown_own h hg (fun k hk => by cases hk; exact hv)
theorem Rdr.grown_row {base w w' : World} {B N g n cap : Nat} (h : Rdr base w B N) (hg : w.grownBy w' (Value.slice (some ⟨g, 0, none⟩) n cap).ownBlock) (hgb : base.heap.size ≤ g) (hne : g ≠ B) : Rdr base w' B N :=
  h.grown hg (fun k hk => by cases hk; exact ⟨hgb, hne⟩)
theorem Try.info5' : (Try.prog.info? 5).map (fun i => (i.zero, i.size, i.bytes)) = some (some (.int .u8 0), 1, 1) := by kernel_rfl
set_option maxRecDepth 100000 in
theorem bytes_any (base w : World) (B N n : Nat) (hR : Rdr base w B N) (hN : N ≤ 50000) (hn : n ≤ 1000) :
    Calls Try.prog 25 #[.pointer (some ⟨B, 0, none⟩), .int .i64 (n : Int)] w (DrawnS base B (N + 2 * n + 1) n w) := by
  obtain ⟨i0, hi, hz0, hz1, hz2⟩ := info_parts Try.info5'
  have hBw := hR.hi
  have hlo := hR.lo
  go_enter Try.func25, Try.ntmps25
  go_wp2_with fail
  refine (pick_any base _ B N _ (hR.alloc _) (by omega) (by omega) (by omega)).mono ?_
  rintro e w1 ⟨m, rfl, hm0, hm1, hR1, hg1⟩
  have hg : w.grownBy w1 (some B) := grownBy_trans (grownBy_alloc w _ _) hg1
  have hown0 : w1.ownsRow w.heap.size 5 1 (.slice (some ⟨w.heap.size, 0, none⟩) 0 0) 0 (cellsB []) :=
    (World.ownsRow_made w #[] 0 (Nat.le_refl _) (by unfold maxLen; omega) rfl).kept hg1 (.inr (by show some w.heap.size ≠ some B; intro h; cases h; omega))
  clear hg1
  obtain ⟨m, rfl⟩ := Int.eq_ofNat_of_zero_le hm0
  have hm2 : m ≤ n := by omega
  clear hm0 hm1
  go_wp2_with fail
  go_loopw [5, 7] (fun v i wr => ∃ k : Nat, k ≤ m ∧ i = .int .i64 k ∧ (∃ g cap n1 l, Hid (n1 = k ∧ l.length = k) ∧ v = .slice (some ⟨g, 0, none⟩) n1 cap ∧ wr.ownsRow w.heap.size 5 1 v n1 (cellsB l)) ∧ Rdr base wr B (N + 1 + 2 * k) ∧ w.grownBy wr (some B)) (fun _ i _ => m - (intOf i).toNat)
  case atStart => exact ⟨0, Nat.zero_le _, rfl, ⟨w.heap.size, 0, 0, [], ⟨rfl, rfl⟩, rfl, hown0⟩, hR1, hg⟩
  case round =>
    obtain ⟨k, hk, rfl, ⟨g, cap, n1, l, hl, rfl, hown⟩, hRr, hgr⟩ := hrel
    clear hown0
    have hn1 : n1 ≤ k := by have := hl.out; omega
    have hgb : w.heap.size ≤ g := (hown.lt g rfl).1
    by_cases hlt : k < m
    · go_wp2_with fail
      refine (pick_any base _ B (N + 1 + 2 * k) _ hRr (by omega) (by omega) (by omega)).mono ?_
      rintro e w2 ⟨x, rfl, hx0, hx1, hR2, hg2⟩
      have hown2 := hown.kept hg2 (.inr (by show some g ≠ some B; intro h; cases h; omega))
      go_wp2_with fail
      refine (pick_any base _ B (N + 1 + 2 * k + 1) _ hR2 (by omega) (by omega) (by omega)).mono ?_
      rintro e w3 ⟨y, rfl, hy0, hy1, hR3, hg3⟩
      have hown3 := hown2.kept hg3 (.inr (by show some g ≠ some B; intro h; cases h; omega))
      have hg4 := grownBy_trans (grownBy_trans hgr hg2) hg3
      have hs3 := hg4.size
      have hp0 : 0 ≤ x * y := Int.mul_nonneg hx0 hy0
      have hp1 : x * y ≤ 255 := by
        have h1 : x * y ≤ 15 * y := Int.mul_le_mul_of_nonneg_right (by omega) hy0
        omega
      clear hown hown2 hg2 hg3 hR2 hRr hgr
      go_wp2_with (at_builtin; refine wpList_append_lies _ rfl _ _ 22 rfl w.heap.size 5 i0 (.int .u8 0) 1 1 Try.underlying22 hi hz0 hz1 hz2 rfl (by decide) _ n1 _ rfl (hown3.alloc _) ⟨w3.heap.size, 0, none⟩ 1 1 [.int .u8 (x * y)] rfl rfl (World.news_of_block (cs := #[.int .u8 (x * y)]) (t := 5) (fr := (0, 0)) (heap_alloc_new w3 _)) (by simp [Value.oneCell']) (by decide) (by unfold maxLen; omega) (by omega) (by simp; omega) (w3.heap.size + 1) (by simp) ?_; intro gg cap1 w4 hown4 hgrow hat hlt1)
      have R1 := Lib.hid ((cellsB_snoc l (x * y) hp0 hp1).symm ▸ hown4)
      have R2 := Lib.hid (Rdr.grown_row (hR3.alloc (.cells #[.int .u8 (x * y)] 5)) hgrow (by omega) (by omega))
      have R3 := Lib.hid (grown_row (grownBy_trans hg4 (grownBy_alloc w3 (.cells #[.int .u8 (x * y)] 5) _)) hgrow hgb)
      clear hown4 hgrow hown3 hat hlt1 hR3 hg4
      go_wp2
      go_roundw
      case rel => exact ⟨k + 1, by omega, by go_num, ⟨gg, cap1, n1 + 1, l ++ [UInt8.ofNat (x * y).toNat], ⟨by have := hl.out; omega, by have := hl.out; simp; omega⟩, rfl, R1.out⟩, R2.out, R3.out⟩
      case measure => simp [intOf]; omega
    · have hc1 := conv_row (P := Try.prog) (w := wr) 22 Try.underlying22 Try.underlying5 9 Try.underlying9 l (by have := hl.out; omega) hown
      have hsz : (⟨l.toArray⟩ : ByteArray).size ≤ n := by have := hl.out; show l.toArray.size ≤ n; simp; omega
      have HS := Lib.hid hsz
      clear hsz
      go_wp2
      go_ret
      exact ⟨_, rfl, HS.out, hRr.more (by omega), hgr⟩
/-- The i-th number of a list that was laid before a draw. -/
theorem lit_load {w1 w2 : World} {B : Nat} {T : TypeId} (xs : List Int) (hg : (w1.alloc (.cells (xs.map (Value.int .i64)).toArray T)).grownBy w2 (some B)) (hB : B < w1.heap.size) (lo hi : Int) (hx : ∀ x ∈ xs, lo ≤ x ∧ x ≤ hi) (i : Nat) (h : i < xs.length) :
    ∃ u : Int, lo ≤ u ∧ u ≤ hi ∧ w2.cell? ⟨w1.heap.size, i, none⟩ = some (.int .i64 u) := by
  refine ⟨xs[i], (hx _ (List.getElem_mem h)).1, (hx _ (List.getElem_mem h)).2, ?_⟩
  have hc : (w1.alloc (.cells (xs.map (Value.int .i64)).toArray T)).cell? ⟨w1.heap.size, i, none⟩ = some (.int .i64 xs[i]) := by
    rw [World.cell?_alloc_new]; simp [h]
  exact hg.cell hc (by show some w1.heap.size ≠ some B; intro e; cases e; omega)
theorem drawn_of {base w w'' : World} {B N M : Nat} {lo hi v : Int} (hR : Rdr base w'' B M) (hM : M ≤ N) (hg : w.grownBy w'' (some B)) (h1 : lo ≤ v) (h2 : v ≤ hi) : Drawn base B N lo hi w (.returned (.int .i64 v)) w'' :=
  ⟨v, rfl, h1, h2, hR.more hM, hg⟩
set_option maxRecDepth 100000 in
theorem word_any (base w : World) (B N : Nat) (hR : Rdr base w B N) (hN : N ≤ 50000) :
    Calls Try.prog 28 #[.pointer (some ⟨B, 0, none⟩)] w (Drawn base B (N + 3) (-1) 65536 w) := by
  go_enter Try.func28, Try.ntmps28
  go_wp2_with fail
  refine (pick_any base _ B N _ hR (by omega) (by omega) (by omega)).mono ?_
  rintro e w1 ⟨m, rfl, hm0, hm1, hR1, hg1⟩
  have hB1 := hR1.hi
  by_cases e0 : m = 0
  · subst e0
    go_wp2_with fail
    refine (pick_any base _ B (N + 1) _ (hR1.alloc _) (by omega) (by omega) (by omega)).mono ?_
    rintro e w2 ⟨k, rfl, hk0, hk1, hR2, hg2⟩
    obtain ⟨k, rfl⟩ := Int.eq_ofNat_of_zero_le hk0
    have hk : k < 6 := by omega
    obtain ⟨u, u0, u1, hu⟩ := lit_load [-1, 0, 65535, 65536, 256, 255] hg2 hB1 (-1) 65536 (by decide) k hk
    have R := Lib.hid (grownBy_trans hg1 (grownBy_trans (grownBy_alloc w1 _ _) hg2))
    clear hg2 hg1
    have hk' : (k : Int) < 6 := by omega
    go_wp2_with fail
    go_ret
    exact drawn_of hR2 (by omega) R.out (by omega) (by omega)
  · by_cases e12 : m = 1 ∨ m = 2
    · have f0 : (m == 0) = false := beq_eq_false_iff_ne.2 e0
      rcases e12 with e1 | e1
      all_goals
        subst e1
        go_wp2_with fail
        refine (pick_any base _ B (N + 1) _ hR1 (by omega) (by omega) (by omega)).mono ?_
        rintro e w2 ⟨k, rfl, hk0, hk1, hR2, hg2⟩
        have R := Lib.hid (grownBy_trans hg1 hg2)
        clear hg2 hg1
        go_wp2_with fail
        go_ret
        exact drawn_of hR2 (by omega) R.out (by omega) (by omega)
    · by_cases e3 : m = 3
      · subst e3
        go_wp2_with fail
        refine (pick_any base _ B (N + 1) _ hR1 (by omega) (by omega) (by omega)).mono ?_
        rintro e w2 ⟨k, rfl, hk0, hk1, hR2, hg2⟩
        go_wp2_with fail
        refine (pick_any base _ B (N + 2) _ hR2 (by omega) (by omega) (by omega)).mono ?_
        rintro e w3 ⟨j, rfl, hj0, hj1, hR3, hg3⟩
        have R := Lib.hid (grownBy_trans hg1 (grownBy_trans hg2 hg3))
        clear hg3 hg2 hg1
        go_wp2_with fail
        go_ret
        exact drawn_of hR3 (by omega) R.out (by omega) (by omega)
      · have f0 : (m == 0) = false := beq_eq_false_iff_ne.2 e0
        have f1 : (m == 1) = false := beq_eq_false_iff_ne.2 (fun h => e12 (.inl h))
        have f2 : (m == 2) = false := beq_eq_false_iff_ne.2 (fun h => e12 (.inr h))
        have f3 : (m == 3) = false := beq_eq_false_iff_ne.2 e3
        clear e0 e12 e3
        go_wp2_with fail
        refine (pick_any base _ B (N + 1) _ hR1 (by omega) (by omega) (by omega)).mono ?_
        rintro e w2 ⟨k, rfl, hk0, hk1, hR2, hg2⟩
        have R := Lib.hid (grownBy_trans hg1 hg2)
        clear hg2 hg1
        go_wp2_with fail
        go_ret
        exact drawn_of hR2 (by omega) R.out (by omega) (by omega)
set_option maxRecDepth 100000 in
theorem good_any (base w : World) (B N : Nat) (hR : Rdr base w B N) (hN : N ≤ 50000) :
    Calls Try.prog 33 #[.pointer (some ⟨B, 0, none⟩)] w (Drawn base B (N + 3) 0 65535 w) := by
  go_enter Try.func33, Try.ntmps33
  go_wp2_with fail
  refine (word_any base _ B N hR (by omega)).mono ?_
  rintro e w1 ⟨m, rfl, hm0, hm1, hR1, hg1⟩
  have R := Lib.hid hg1
  clear hg1
  go_wp2_with fail
  all_goals go_ret
  all_goals exact drawn_of hR1 (by omega) R.out (by omega) (by omega)
set_option maxRecDepth 100000 in
theorem long_any (base w : World) (B N : Nat) (hR : Rdr base w B N) (hN : N ≤ 40000) :
    Calls Try.prog 31 #[.pointer (some ⟨B, 0, none⟩)] w (Drawn base B (N + 8) (-1) 4294967296 w) := by
  go_enter Try.func31, Try.ntmps31
  go_wp2_with fail
  refine (pick_any base _ B N _ hR (by omega) (by omega) (by omega)).mono ?_
  rintro e w1 ⟨m, rfl, hm0, hm1, hR1, hg1⟩
  have hB1 := hR1.hi
  by_cases e0 : m = 0
  · subst e0
    go_wp2_with fail
    refine (pick_any base _ B (N + 1) _ (hR1.alloc _) (by omega) (by omega) (by omega)).mono ?_
    rintro e w2 ⟨k, rfl, hk0, hk1, hR2, hg2⟩
    obtain ⟨k, rfl⟩ := Int.eq_ofNat_of_zero_le hk0
    have hk : k < 4 := by omega
    obtain ⟨u, u0, u1, hu⟩ := lit_load [-1, 0, 4294967295, 4294967296] hg2 hB1 (-1) 4294967296 (by decide) k hk
    have R := Lib.hid (grownBy_trans hg1 (grownBy_trans (grownBy_alloc w1 _ _) hg2))
    clear hg2 hg1
    have hk' : (k : Int) < 4 := by omega
    go_wp2_with fail
    go_ret
    exact drawn_of hR2 (by omega) R.out (by omega) (by omega)
  · have f0 : (m == 0) = false := beq_eq_false_iff_ne.2 e0
    clear e0
    go_wp2_with fail
    refine (good_any base _ B (N + 1) hR1 (by omega)).mono ?_
    rintro e w2 ⟨k, rfl, hk0, hk1, hR2, hg2⟩
    go_wp2_with fail
    refine (good_any base _ B (N + 4) (hR2.more (by omega)) (by omega)).mono ?_
    rintro e w3 ⟨j, rfl, hj0, hj1, hR3, hg3⟩
    have R := Lib.hid (grownBy_trans hg1 (grownBy_trans hg2 hg3))
    clear hg3 hg2 hg1
    go_wp2_with fail
    go_ret
    exact drawn_of hR3 (by omega) R.out (by omega) (by omega)
end Go.Proofs.Ytldiamafbcopmaa
