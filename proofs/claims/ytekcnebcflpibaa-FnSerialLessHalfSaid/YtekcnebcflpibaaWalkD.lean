/- The reader of the drawn code: what its box holds, and what 'pick' does to it. -/
import Derived.Test.YtekcnebcflpibaaRows
import Derived.Test.YtekcnebcflpibaaMathB
import Derived.Test.YtekcnebcflpibaaMathH
import Derived.WalkKit
import Derived.ProofKit
import Derived.Outline
import Derived.Lib.Hide
import Derived.Below
import Derived.WalkSmall
import Derived.OwnWalk
import Derived.Deep.QuietTactic
import Derived.BigQuiet
import Derived.Deep.DeepCutAuto
import Derived.WalkSpells
import Derived.WalkLawsBesides
namespace Go.Proofs.Ytekcnebcflpibaa
open Go.ChangeShapes Go.WideShapes Go.ChangeAt Go.RowKit
set_option linter.unusedVariables false
/-- The bytes of the code, as they lay at the call. -/
def CodeIn (base : World) (a : Option Addr) (len : Nat) : Prop :=
  len ≤ 2000 ∧ (len = 0 ∨ ∃ sb so, a = some ⟨sb, so, none⟩ ∧ sb < base.heap.size ∧ ∀ i, i < len → ∃ z : Int, 0 ≤ z ∧ z ≤ 255 ∧ base.cell? ⟨sb, so + i, none⟩ = some (.int .u8 z))
/-- The reader's box lies in block B; it has read at most N times; nothing that was there at the call has turned. -/
structure Rdr (base w : World) (B N : Nat) : Prop where
  below : Below base.heap.size base w
  lo : base.heap.size ≤ B
  hi : B < w.heap.size
  box : ∃ a len cap p, CodeIn base a len ∧ p ≤ N ∧ w.cell? ⟨B, 0, none⟩ = some (.slice a len cap) ∧ w.cell? ⟨B, 1, none⟩ = some (.int .i64 ((p : Nat) : Int)) ∧ w.frozen? ⟨B, 1, none⟩ = false
theorem grownBy_refl (w : World) (r : Option Nat) : w.grownBy w r := ⟨rfl, rfl, rfl, Nat.le_refl _, fun _ _ _ => rfl⟩
theorem grownBy_trans {a b c : World} {r : Option Nat} (h : a.grownBy b r) (k : b.grownBy c r) : a.grownBy c r :=
  ⟨k.os.trans h.os, k.tape.trans h.tape, k.output.trans h.output, Nat.le_trans h.size k.size, fun i hi hr => (k.block i (Nat.lt_of_lt_of_le hi h.size) hr).trans (h.block i hi hr)⟩
theorem grownBy_drewN (w : World) (n : Nat) (r : Option Nat) : w.grownBy (w.drewN n) r := ⟨rfl, rfl, rfl, Nat.le_refl _, fun _ _ _ => rfl⟩
theorem grownBy_alloc (w : World) (o : Obj) (r : Option Nat) : w.grownBy (w.alloc o) r :=
  ⟨rfl, rfl, rfl, by simp, fun k hk _ => Below.heap_alloc w o k hk⟩
theorem grownBy_setCell (w : World) (B off : Nat) (u : Value) : w.grownBy (w.setCell ⟨B, off, none⟩ u) (some B) := by
  have hb := (Below.refl 0 w).setCell (p := ⟨B, off, none⟩) (Nat.zero_le _) u
  exact ⟨hb.os, hb.tape, hb.output, hb.size, fun k _ hr => Below.heap_setCell w ⟨B, off, none⟩ u k (fun e => hr (by rw [e]))⟩
/-- What stays of the reader where another block alone was written. -/
theorem Rdr.grown {base w w' : World} {B N : Nat} {r : Option Nat} (h : Rdr base w B N) (hg : w.grownBy w' r) (hr : ∀ k, r = some k → base.heap.size ≤ k ∧ k ≠ B) : Rdr base w' B N := by
  obtain ⟨hb, hlo, hhi, a, len, cap, p, hc, hp, h0, h1, hf⟩ := h
  have hB : w'.heap[B]? = w.heap[B]? := hg.block B hhi (fun e => (hr B e.symm).2 rfl)
  exact ⟨hb.grown hg hb.size (fun k hk => (hr k hk).1), hlo, Nat.lt_of_lt_of_le hhi hg.size, a, len, cap, p, hc, hp,
    (World.cell?_of_block (a := ⟨B, 0, none⟩) hB).trans h0, (World.cell?_of_block (a := ⟨B, 1, none⟩) hB).trans h1, (World.frozen?_of_block (a := ⟨B, 1, none⟩) hB).trans hf⟩
theorem Rdr.more {base w : World} {B N M : Nat} (h : Rdr base w B N) (hNM : N ≤ M) : Rdr base w B M := by
  obtain ⟨hb, hlo, hhi, a, len, cap, p, hc, hp, h0, h1, hf⟩ := h
  exact ⟨hb, hlo, hhi, a, len, cap, p, hc, Nat.le_trans hp hNM, h0, h1, hf⟩
/-- What a draw leaves: a number of the range; the box, read at most N times; nothing else turned. -/
def Drawn (base : World) (B N : Nat) (lo hi : Int) (w : World) (e : Ending) (w' : World) : Prop :=
  ∃ v : Int, e = .returned (.int .i64 v) ∧ lo ≤ v ∧ v ≤ hi ∧ Rdr base w' B N ∧ w.grownBy w' (some B)
theorem pick_post {base w w1 : World} {B N p len cap : Nat} {a : Option Addr} {lo hi v : Int} (nq : Nat) (h : Rdr base w B N) (hc : CodeIn base a len) (hp : p ≤ N)
    (h0 : w1.cell? ⟨B, 0, none⟩ = some (.slice a len cap)) (h1 : w1.cell? ⟨B, 1, none⟩ = some (.int .i64 ((p : Int) + 1))) (hf : w1.frozen? ⟨B, 1, none⟩ = false) (hg : w.grownBy w1 (some B))
    (hv : lo ≤ v) (hv1 : v ≤ hi) : Drawn base B (N + 1) lo hi w (.returned (.int .i64 v)) (w1.drewN nq) :=
  ⟨v, rfl, hv, hv1, ⟨below_drewN (h.below.grown hg h.below.size (fun k hk => by cases hk; exact h.lo)) nq, h.lo, Nat.lt_of_lt_of_le h.hi hg.size, a, len, cap, p + 1, hc, by omega, h0, by simpa using h1, hf⟩,
    grownBy_trans hg (grownBy_drewN _ _ _)⟩
theorem mod_bd (x n : Int) (h : 1 ≤ n) : 0 ≤ x % n ∧ x % n ≤ n - 1 := ⟨Int.emod_nonneg _ (by omega), by have := Int.emod_lt_of_pos x (b := n) (by omega); omega⟩
theorem d_ret {k : IntKind} {a b : Int} (h : a = b) : Ending.returned (.int k a) = .returned (.int k b) := by rw [h]
set_option maxRecDepth 100000 in
theorem pick_any (base w : World) (B N : Nat) (n : Int) (hR : Rdr base w B N) (hN : N ≤ 100000) (hn : 1 ≤ n) (hn1 : n ≤ 1000000) :
    Calls Try.prog 27 #[.pointer (some ⟨B, 0, none⟩), .int .i64 n] w (Drawn base B (N + 1) 0 (n - 1) w) := by
  obtain ⟨a, len, cap, p, hc, hp, h0, h1, hf⟩ := hR.box
  have k0 : (w.setCell ⟨B, 1, none⟩ (.int .i64 ((p : Int) + 1))).cell? ⟨B, 0, none⟩ = some (.slice a len cap) := by
    rw [World.cell?_setCell_other _ _ _ _ (by simp)]; exact h0
  have k1 : (w.setCell ⟨B, 1, none⟩ (.int .i64 ((p : Int) + 1))).cell? ⟨B, 1, none⟩ = some (.int .i64 ((p : Int) + 1)) := World.cell?_setCell_same _ _ _ h1
  have kf : (w.setCell ⟨B, 1, none⟩ (.int .i64 ((p : Int) + 1))).frozen? ⟨B, 1, none⟩ = false := by rw [World.frozen?_setCell]; exact hf
  have kg := grownBy_setCell w B 1 (.int .i64 ((p : Int) + 1))
  go_enter Try.func27, Try.ntmps27
  go_upto_region 2 with fail
  generalize w.setCell ⟨B, 1, none⟩ (.int .i64 ((p : Int) + 1)) = w1 at *
  have K := fun (v : Int) (nq : Nat) => pick_post (v := v) (lo := 0) (hi := n - 1) nq hR hc hp k0 k1 kf kg
  have KK := Lib.hid K
  clear K h0 h1 hf kg
  by_cases hl : len = 0
  · subst hl
    have hlt : decide (n < 1) = false := by simp; omega
    go_wp2
    go_ret
    exact KK.out 0 0 (by omega) (by omega)
  · obtain ⟨hl2, hz⟩ := hc
    rcases hz with hz | ⟨sb, so, rfl, hsb, hz⟩
    · exact absurd hz hl
    have hlt : decide (n < 1) = false := by simp; omega
    have hl0 : ((len : Int) == 0) = false := by simp; omega
    have hlp : 1 ≤ len := by omega
    have cells : ∀ i, i < len → ∃ z : Int, 0 ≤ z ∧ z ≤ 255 ∧ w1.cell? ⟨sb, so + i, none⟩ = some (.int .u8 z) := by
      intro i hi
      obtain ⟨z, z0, z1, hzc⟩ := hz i hi
      refine ⟨z, z0, z1, ?_⟩
      have hb1 := hR.below
      have hlo := hR.lo
      have hbl := (KK.out 0 0 (by omega) (by omega)).choose_spec.2.2.2.1.below
      exact (hbl.cell (p := ⟨sb, so + i, none⟩) hsb).trans hzc
    clear hz hl
    by_cases hpl : p < len
    · obtain ⟨z, z0, z1, hzc⟩ := cells p hpl
      clear cells
      go_wp2
      go_ret
      exact KK.out _ 0 (mod_bd _ _ hn).1 (mod_bd _ _ hn).2
    · obtain ⟨x1, ex1⟩ : ∃ x, x = p % len := ⟨_, rfl⟩
      obtain ⟨x2, ex2⟩ : ∃ x, x = (p * 7 + 3) % len := ⟨_, rfl⟩
      obtain ⟨x3, ex3⟩ : ∃ x, x = p / len := ⟨_, rfl⟩
      have l1 : x1 < len := by rw [ex1]; exact Nat.mod_lt _ (by omega)
      have l2 : x2 < len := by rw [ex2]; exact Nat.mod_lt _ (by omega)
      have l3 : x3 ≤ p := by rw [ex3]; exact Nat.div_le_self _ _
      obtain ⟨za, a0, a1, hza⟩ := cells x1 l1
      obtain ⟨zb, b0, b1, hzb⟩ := cells x2 l2
      clear cells
      have m0 : IntKind.i64.wrap ((p : Int) * 7) = (p : Int) * 7 := wrap_in _ (by omega)
      have m1 : IntKind.i64.wrap ((p : Int) * 7 + 3) = (p : Int) * 7 + 3 := wrap_in _ (by omega)
      have m2 : ((p : Int)).tmod (len : Int) = (x1 : Int) := by rw [ex1, Int.tmod_eq_emod_of_nonneg (by omega)]; simp
      have m3 : ((p : Int) * 7 + 3).tmod (len : Int) = (x2 : Int) := by rw [ex2, Int.tmod_eq_emod_of_nonneg (by omega)]; simp
      have m4 : ((p : Int)).tdiv (len : Int) = (x3 : Int) := by rw [ex3, Int.tdiv_eq_ediv_of_nonneg (by omega)]; simp
      have m5 : IntKind.i64.wrap (x1 : Int) = (x1 : Int) := wrap_in _ (by omega)
      have m6 : IntKind.i64.wrap (x2 : Int) = (x2 : Int) := wrap_in _ (by omega)
      have m7 : IntKind.i64.wrap (x3 : Int) = (x3 : Int) := wrap_in _ (by omega)
      have m8 : IntKind.i64.wrap za = za := wrap_in _ (by omega)
      have m9 : IntKind.i64.wrap zb = zb := wrap_in _ (by omega)
      have n0 : IntKind.i64.wrap (za * 131) = za * 131 := wrap_in _ (by omega)
      have n1 : IntKind.i64.wrap (zb * 1117) = zb * 1117 := wrap_in _ (by omega)
      have n2 : IntKind.i64.wrap (za * 131 + zb * 1117) = za * 131 + zb * 1117 := wrap_in _ (by omega)
      have n3 : IntKind.i64.wrap ((p : Int) * 29) = (p : Int) * 29 := wrap_in _ (by omega)
      have n4 : IntKind.i64.wrap (za * 131 + zb * 1117 + (p : Int) * 29) = za * 131 + zb * 1117 + (p : Int) * 29 := wrap_in _ (by omega)
      have n5 : IntKind.i64.wrap ((x3 : Int) * 53) = (x3 : Int) * 53 := wrap_in _ (by omega)
      have n6 : IntKind.i64.wrap (za * 131 + zb * 1117 + (p : Int) * 29 + (x3 : Int) * 53) = za * 131 + zb * 1117 + (p : Int) * 29 + (x3 : Int) * 53 := wrap_in _ (by omega)
      clear ex1 ex2 ex3
      go_wp2
      go_quiet (fail)
      obtain ⟨X, hX⟩ : ∃ X : Nat, za * 131 + zb * 1117 + (p : Int) * 29 + (x3 : Int) * 53 = (X : Int) := ⟨(za * 131 + zb * 1117 + (p : Int) * 29 + (x3 : Int) * 53).toNat, by omega⟩
      have bX : X < 4611686018427387904 := by omega
      rw [hX]
      clear hX n6 n5 n4 n3 n2 n1 n0 m9 m8 m7 m6 m5 m4 m3 m2 m1 m0
      have hxor := xor_i64 X (X / 64) bX (by omega)
      rw [show ((X / 64 : Nat) : Int) = (X : Int) / 64 by omega] at hxor
      go_wp2
      go_ret
      exact KK.out _ _ (mod_bd _ _ hn).1 (mod_bd _ _ hn).2
end Go.Proofs.Ytekcnebcflpibaa
