/- What the drawing functions give: a number of a range, or a text of at most so many bytes; nothing that was there turns. -/
import Derived.Test.YtekcnebcflpibaaRows
import Derived.Test.YtekcnebcflpibaaWalkD
import Derived.Deep.AppendLies
namespace Go.Proofs.Ytekcnebcflpibaa
open Go.ChangeShapes Go.WideShapes Go.ChangeAt Go.RowKit
set_option linter.unusedVariables false
/-- The argument of a law, as the walk wants it. -/
def CodeOf (w : World) (a : Option Addr) (len cap : Nat) : Prop :=
  len ≤ cap ∧ cap ≤ maxLen ∧ (len = 0 ∨ ∃ sb so, a = some ⟨sb, so, none⟩ ∧ sb < w.heap.size ∧ ∀ i, i < len → ∃ z : Int, 0 ≤ z ∧ z ≤ 255 ∧ w.cell? ⟨sb, so + i, none⟩ = some (.int .u8 z))
def Opened (w : World) (e : Ending) (w' : World) : Prop := ∃ B, e = .returned (.pointer (some ⟨B, 0, none⟩)) ∧ Rdr w w' B 0
theorem opened_post (w : World) (a : Option Addr) (len cap : Nat) (T : TypeId) (hc : CodeIn w a len) : Opened w (.returned (.pointer (some ⟨w.heap.size, 0, none⟩))) (w.alloc (.cells #[.slice a len cap, .int .i64 0] T)) :=
  ⟨w.heap.size, rfl, (Below.refl _ _).alloc (Nat.le_refl _) _, Nat.le_refl _, by simp, a, len, cap, 0, hc, Nat.le_refl _, by rw [World.cell?_alloc_new]; rfl, by rw [World.cell?_alloc_new]; rfl, by simp [go_sem]⟩
set_option maxRecDepth 100000 in
theorem open_any (a : Option Addr) (len cap : Nat) (w : World) (hc : CodeOf w a len cap) :
    Calls Try.prog 18 #[.slice a len cap] w (Opened w) := by
  obtain ⟨h1, h2, h3⟩ := hc
  unfold maxLen at h2
  by_cases hl : 2000 < len
  · rcases h3 with h3 | ⟨sb, so, rfl, hsb, hz⟩
    · omega
    have hcode : CodeIn w (some ⟨sb, so, none⟩) 2000 := ⟨Nat.le_refl _, .inr ⟨sb, so, rfl, hsb, fun i hi => hz i (by omega)⟩⟩
    have P := opened_post w (some ⟨sb, so, none⟩) 2000 cap 36 hcode
    have PP := Lib.hid P
    clear P hz hcode
    have hl' : (2000 : Int) < (len : Int) := by omega
    have hl2 : (2000 : Int) ≤ (cap : Int) := by omega
    have hl3 : 2000 < cap := by omega
    go_enter Try.func18, Try.ntmps18
    go_wp2
    go_ret
    exact PP.out
  · have hcode : CodeIn w a len := ⟨by omega, h3⟩
    have P := opened_post w a len cap 36 hcode
    have PP := Lib.hid P
    clear P h3 hcode
    go_enter Try.func18, Try.ntmps18
    go_wp2
    go_ret
    exact PP.out
theorem Rdr.alloc {base w : World} {B N : Nat} (h : Rdr base w B N) (o : Obj) : Rdr base (w.alloc o) B N := h.grown (r := none) (grownBy_alloc w o none) (fun _ h => by cases h)
/-- A text that was drawn. -/
def DrawnS (base : World) (B N n : Nat) (w : World) (e : Ending) (w' : World) : Prop :=
  ∃ s : ByteArray, e = .returned (.string s) ∧ s.size ≤ n ∧ Rdr base w' B N ∧ w.grownBy w' (some B)
theorem cellsB_snoc (l : List UInt8) (x : Int) (h0 : 0 ≤ x) (h1 : x ≤ 255) : cellsB (l ++ [UInt8.ofNat x.toNat]) = cellsB l ++ [.int .u8 x] := by
  have : ((UInt8.ofNat x.toNat).toNat : Int) = x := by rw [UInt8.toNat_ofNat']; omega
  rw [cellsB_append]; unfold cellsB cellB; rw [List.map_singleton, this]
theorem grown_own {w wr w1 : World} {v : Value} {B : Nat} (h : w.grownBy wr (some B)) (hg : wr.grownBy w1 v.ownBlock) (hv : ∀ k, v.ownBlock = some k → w.heap.size ≤ k) : w.grownBy w1 (some B) :=
  ⟨hg.os.trans h.os, hg.tape.trans h.tape, hg.output.trans h.output, Nat.le_trans h.size hg.size, fun i hi hr => (hg.block i (Nat.lt_of_lt_of_le hi h.size) (fun e => by have := hv i e.symm; omega)).trans (h.block i hi hr)⟩
theorem grown_row {w wr w1 : World} {g n cap B : Nat} (h : w.grownBy wr (some B)) (hg : wr.grownBy w1 (Value.slice (some ⟨g, 0, none⟩) n cap).ownBlock) (hv : w.heap.size ≤ g) : w.grownBy w1 (some B) :=
  grown_own h hg (fun k hk => by cases hk; exact hv)
theorem Rdr.grown_row {base w w' : World} {B N g n cap : Nat} (h : Rdr base w B N) (hg : w.grownBy w' (Value.slice (some ⟨g, 0, none⟩) n cap).ownBlock) (hgb : base.heap.size ≤ g) (hne : g ≠ B) : Rdr base w' B N :=
  h.grown hg (fun k hk => by cases hk; exact ⟨hgb, hne⟩)
theorem Try.info5' : (Try.prog.info? 5).map (fun i => (i.zero, i.size, i.bytes)) = some (some (.int .u8 0), 1, 1) := by kernel_rfl
/-- The i-th number of a list that was laid before a draw. -/
theorem lit_load {w1 w2 : World} {B : Nat} {T : TypeId} (xs : List Int) (hg : (w1.alloc (.cells (xs.map (Value.int .i64)).toArray T)).grownBy w2 (some B)) (hB : B < w1.heap.size) (lo hi : Int) (hx : ∀ x ∈ xs, lo ≤ x ∧ x ≤ hi) (i : Nat) (h : i < xs.length) :
    ∃ u : Int, lo ≤ u ∧ u ≤ hi ∧ w2.cell? ⟨w1.heap.size, i, none⟩ = some (.int .i64 u) := by
  refine ⟨xs[i], (hx _ (List.getElem_mem h)).1, (hx _ (List.getElem_mem h)).2, ?_⟩
  have hc : (w1.alloc (.cells (xs.map (Value.int .i64)).toArray T)).cell? ⟨w1.heap.size, i, none⟩ = some (.int .i64 xs[i]) := by
    rw [World.cell?_alloc_new]; simp [h]
  exact hg.cell hc (by show some w1.heap.size ≠ some B; intro e; cases e; omega)
theorem drawn_of {base w w'' : World} {B N M : Nat} {lo hi v : Int} (hR : Rdr base w'' B M) (hM : M ≤ N) (hg : w.grownBy w'' (some B)) (h1 : lo ≤ v) (h2 : v ≤ hi) : Drawn base B N lo hi w (.returned (.int .i64 v)) w'' :=
  ⟨v, rfl, h1, h2, hR.more hM, hg⟩
set_option maxRecDepth 100000 in
theorem word_any (base w : World) (B N : Nat) (hR : Rdr base w B N) (hN : N ≤ 50000) :
    Calls Try.prog 19 #[.pointer (some ⟨B, 0, none⟩)] w (Drawn base B (N + 3) (-1) 65536 w) := by
  go_enter Try.func19, Try.ntmps19
  go_wp2_with fail
  refine (pick_any base _ B N _ hR (by omega) (by omega) (by omega)).mono ?_
  rintro e w1 ⟨m, rfl, hm0, hm1, hR1, hg1⟩
  have hB1 := hR1.hi
  by_cases e0 : m = 0
  · subst e0
    go_wp2_with fail
    refine (pick_any base _ B (N + 1) _ (hR1.alloc _) (by omega) (by omega) (by omega)).mono ?_
    rintro e w2 ⟨k, rfl, hk0, hk1, hR2, hg2⟩
    obtain ⟨k, rfl⟩ := Int.eq_ofNat_of_zero_le hk0
    have hk : k < 6 := by omega
    obtain ⟨u, u0, u1, hu⟩ := lit_load [-1, 0, 65535, 65536, 256, 255] hg2 hB1 (-1) 65536 (by decide) k hk
    have R := Lib.hid (grownBy_trans hg1 (grownBy_trans (grownBy_alloc w1 _ _) hg2))
    clear hg2 hg1
    have hk' : (k : Int) < 6 := by omega
    go_wp2_with fail
    go_ret
    exact drawn_of hR2 (by omega) R.out (by omega) (by omega)
  · by_cases e12 : m = 1 ∨ m = 2
    · have f0 : (m == 0) = false := beq_eq_false_iff_ne.2 e0
      rcases e12 with e1 | e1
      all_goals
        subst e1
        go_wp2_with fail
        refine (pick_any base _ B (N + 1) _ hR1 (by omega) (by omega) (by omega)).mono ?_
        rintro e w2 ⟨k, rfl, hk0, hk1, hR2, hg2⟩
        have R := Lib.hid (grownBy_trans hg1 hg2)
        clear hg2 hg1
        go_wp2_with fail
        go_ret
        exact drawn_of hR2 (by omega) R.out (by omega) (by omega)
    · by_cases e3 : m = 3
      · subst e3
        go_wp2_with fail
        refine (pick_any base _ B (N + 1) _ hR1 (by omega) (by omega) (by omega)).mono ?_
        rintro e w2 ⟨k, rfl, hk0, hk1, hR2, hg2⟩
        go_wp2_with fail
        refine (pick_any base _ B (N + 2) _ hR2 (by omega) (by omega) (by omega)).mono ?_
        rintro e w3 ⟨j, rfl, hj0, hj1, hR3, hg3⟩
        have R := Lib.hid (grownBy_trans hg1 (grownBy_trans hg2 hg3))
        clear hg3 hg2 hg1
        go_wp2_with fail
        go_ret
        exact drawn_of hR3 (by omega) R.out (by omega) (by omega)
      · have f0 : (m == 0) = false := beq_eq_false_iff_ne.2 e0
        have f1 : (m == 1) = false := beq_eq_false_iff_ne.2 (fun h => e12 (.inl h))
        have f2 : (m == 2) = false := beq_eq_false_iff_ne.2 (fun h => e12 (.inr h))
        have f3 : (m == 3) = false := beq_eq_false_iff_ne.2 e3
        clear e0 e12 e3
        go_wp2_with fail
        refine (pick_any base _ B (N + 1) _ hR1 (by omega) (by omega) (by omega)).mono ?_
        rintro e w2 ⟨k, rfl, hk0, hk1, hR2, hg2⟩
        have R := Lib.hid (grownBy_trans hg1 hg2)
        clear hg2 hg1
        go_wp2_with fail
        go_ret
        exact drawn_of hR2 (by omega) R.out (by omega) (by omega)
end Go.Proofs.Ytekcnebcflpibaa
