/- Plain functions of the checksums, and facts on them. Nothing of the program stands here. -/
import Init
namespace Go.Proofs.Ytfmgigmijifnjaa
def sumValidB (n : Int) : Bool := decide (0 ≤ n ∧ n % 65536 < 65521 ∧ n / 65536 < 65521)
/-- Both parts of a checksum behind further bytes. -/
def adl (p : Int × Int) (l : List UInt8) : Int × Int := l.foldl (fun p c => ((p.1 + (c.toNat : Int)) % 65521, (p.2 + (p.1 + (c.toNat : Int)) % 65521) % 65521)) p
def adlA (a b : Int) (l : List UInt8) : Int := (adl (a, b) l).1
def adlB (a b : Int) (l : List UInt8) : Int := (adl (a, b) l).2
def sumOnV (a b : Int) (l : List UInt8) : Int := adlB a b l * 65536 + adlA a b l
def sumNextV (n : Int) (l : List UInt8) : Int := if sumValidB n = true then sumOnV (n % 65536) (n / 65536) l else -1
theorem adlA_nil (a b : Int) : adlA a b [] = a := rfl
theorem adlB_nil (a b : Int) : adlB a b [] = b := rfl
theorem adlA_snoc (a b : Int) (l : List UInt8) (c : UInt8) : adlA a b (l ++ [c]) = (adlA a b l + (c.toNat : Int)) % 65521 := by
  simp [adlA, adl, List.foldl_append]
theorem adlB_snoc (a b : Int) (l : List UInt8) (c : UInt8) : adlB a b (l ++ [c]) = (adlB a b l + (adlA a b l + (c.toNat : Int)) % 65521) % 65521 := by
  simp [adlA, adlB, adl, List.foldl_append]
theorem adl_pair (a b : Int) (l : List UInt8) : adl (a, b) l = (adlA a b l, adlB a b l) := rfl
theorem adl_cons (p : Int × Int) (c : UInt8) (l : List UInt8) : adl p (c :: l) = adl ((p.1 + (c.toNat : Int)) % 65521, (p.2 + (p.1 + (c.toNat : Int)) % 65521) % 65521) l := rfl
theorem adl_append (p : Int × Int) (l m : List UInt8) : adl p (l ++ m) = adl (adl p l) m := by simp [adl, List.foldl_append]
theorem adl_bd (l : List UInt8) : ∀ p : Int × Int, (0 ≤ p.1 ∧ p.1 < 65521) → (0 ≤ p.2 ∧ p.2 < 65521) → (0 ≤ (adl p l).1 ∧ (adl p l).1 < 65521) ∧ (0 ≤ (adl p l).2 ∧ (adl p l).2 < 65521) := by
  induction l with
  | nil => intro p h1 h2; exact ⟨h1, h2⟩
  | cons c l ih => intro p h1 h2; rw [adl_cons]; exact ih _ (by dsimp only; omega) (by dsimp only; omega)
theorem adlA_bd (a b : Int) (l : List UInt8) (ha : 0 ≤ a ∧ a < 65521) (hb : 0 ≤ b ∧ b < 65521) : 0 ≤ adlA a b l ∧ adlA a b l < 65521 := (adl_bd l (a, b) ha hb).1
theorem adlB_bd (a b : Int) (l : List UInt8) (ha : 0 ≤ a ∧ a < 65521) (hb : 0 ≤ b ∧ b < 65521) : 0 ≤ adlB a b l ∧ adlB a b l < 65521 := (adl_bd l (a, b) ha hb).2
theorem byte_take_snoc (s : ByteArray) (k : Nat) (h : k < s.size) : s.data.toList.take (k + 1) = s.data.toList.take k ++ [s[k]] := by
  rw [List.take_succ_eq_append_getElem (by simpa using h)]; rfl
theorem valid_yes (n : Int) (h : sumValidB n = true) : 0 ≤ n ∧ n % 65536 < 65521 ∧ n / 65536 < 65521 := of_decide_eq_true h
end Go.Proofs.Ytfmgigmijifnjaa
