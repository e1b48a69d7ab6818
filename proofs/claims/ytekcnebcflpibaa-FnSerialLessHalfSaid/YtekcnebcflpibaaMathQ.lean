/- Plain functions of the serial numbers, and facts on them. Nothing of the program stands here. -/
import Init
namespace Go.Proofs.Ytekcnebcflpibaa
/-- a + n, going round at 65536; -1 where a is no serial number. -/
def sAdd (a n : Int) : Int := if 0 ≤ a ∧ a < 65536 then (a + n) % 65536 else -1
def sRaw (a b : Int) : Int := if 32768 < (b - a) % 65536 then (b - a) % 65536 - 65536 else (b - a) % 65536
def sDiff (a b : Int) : Int := if (0 ≤ a ∧ a < 65536) ∧ (0 ≤ b ∧ b < 65536) then sRaw a b else -65536
def sLess (a b : Int) : Bool := decide (1 ≤ sDiff a b ∧ sDiff a b < 32768)
def sLast (a b : Int) : Int := if (0 ≤ a ∧ a < 65536) ∧ (0 ≤ b ∧ b < 65536) then (if sLess a b = true then b else a) else -1
def sIn (n f m : Int) : Bool := decide (((0 ≤ n ∧ n < 65536) ∧ (0 ≤ f ∧ f < 65536)) ∧ (0 ≤ m ∧ m ≤ 32768) ∧ (n - f) % 65536 < m)
theorem tm_bd (x : Int) : -65536 < x.tmod 65536 ∧ x.tmod 65536 < 65536 := by
  have h1 := Int.tmod_lt_of_pos x (b := 65536) (by omega)
  have h2 := Int.lt_tmod_of_pos x (b := 65536) (by omega)
  omega
theorem tm_mod (x : Int) : (x.tmod 65536) % 65536 = x % 65536 := by
  have h := Int.mul_tdiv_add_tmod x 65536
  omega
theorem add_shape (a n : Int) : ((a + n.tmod 65536).tmod 65536 + 65536) % 65536 = (a + n) % 65536 := by
  have h1 := tm_mod (a + n.tmod 65536)
  have h2 := tm_mod n
  omega
theorem add_shape' (a n : Int) : (a + n.tmod 65536 + 65536) % 65536 = (a + n) % 65536 := by
  have h2 := tm_mod n
  omega
theorem neg_shape (a b : Int) : (b + (-a).tmod 65536 + 65536) % 65536 = (b - a) % 65536 := by
  have h2 := tm_mod (-a)
  omega
end Go.Proofs.Ytekcnebcflpibaa
