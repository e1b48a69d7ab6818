/- Plain functions of the checksums, and facts on them. Nothing of the program stands here. -/
import Init
namespace Go.Proofs.Ytgbdcpeljbeinaa
def sumValidB (n : Int) : Bool := decide (0 ≤ n ∧ n % 65536 < 65521 ∧ n / 65536 < 65521)
/-- Both parts of a checksum behind further bytes. -/
def adl (p : Int × Int) (l : List UInt8) : Int × Int := l.foldl (fun p c => ((p.1 + (c.toNat : Int)) % 65521, (p.2 + (p.1 + (c.toNat : Int)) % 65521) % 65521)) p
def adlA (a b : Int) (l : List UInt8) : Int := (adl (a, b) l).1
def adlB (a b : Int) (l : List UInt8) : Int := (adl (a, b) l).2
def sumOnV (a b : Int) (l : List UInt8) : Int := adlB a b l * 65536 + adlA a b l
def sumNextV (n : Int) (l : List UInt8) : Int := if sumValidB n = true then sumOnV (n % 65536) (n / 65536) l else -1
theorem adlA_nil (a b : Int) : adlA a b [] = a := rfl
theorem adlB_nil (a b : Int) : adlB a b [] = b := rfl
theorem adlA_snoc (a b : Int) (l : List UInt8) (c : UInt8) : adlA a b (l ++ [c]) = (adlA a b l + (c.toNat : Int)) % 65521 := by
  simp [adlA, adl, List.foldl_append]
theorem adlB_snoc (a b : Int) (l : List UInt8) (c : UInt8) : adlB a b (l ++ [c]) = (adlB a b l + (adlA a b l + (c.toNat : Int)) % 65521) % 65521 := by
  simp [adlA, adlB, adl, List.foldl_append]
theorem adl_pair (a b : Int) (l : List UInt8) : adl (a, b) l = (adlA a b l, adlB a b l) := rfl
theorem adl_cons (p : Int × Int) (c : UInt8) (l : List UInt8) : adl p (c :: l) = adl ((p.1 + (c.toNat : Int)) % 65521, (p.2 + (p.1 + (c.toNat : Int)) % 65521) % 65521) l := rfl
theorem adl_append (p : Int × Int) (l m : List UInt8) : adl p (l ++ m) = adl (adl p l) m := by simp [adl, List.foldl_append]
theorem adl_bd (l : List UInt8) : ∀ p : Int × Int, (0 ≤ p.1 ∧ p.1 < 65521) → (0 ≤ p.2 ∧ p.2 < 65521) → (0 ≤ (adl p l).1 ∧ (adl p l).1 < 65521) ∧ (0 ≤ (adl p l).2 ∧ (adl p l).2 < 65521) := by
  induction l with
  | nil => intro p h1 h2; exact ⟨h1, h2⟩
  | cons c l ih => intro p h1 h2; rw [adl_cons]; exact ih _ (by dsimp only; omega) (by dsimp only; omega)
theorem adlA_bd (a b : Int) (l : List UInt8) (ha : 0 ≤ a ∧ a < 65521) (hb : 0 ≤ b ∧ b < 65521) : 0 ≤ adlA a b l ∧ adlA a b l < 65521 := (adl_bd l (a, b) ha hb).1
theorem adlB_bd (a b : Int) (l : List UInt8) (ha : 0 ≤ a ∧ a < 65521) (hb : 0 ≤ b ∧ b < 65521) : 0 ≤ adlB a b l ∧ adlB a b l < 65521 := (adl_bd l (a, b) ha hb).2
theorem byte_take_snoc (s : ByteArray) (k : Nat) (h : k < s.size) : s.data.toList.take (k + 1) = s.data.toList.take k ++ [s[k]] := by
  rw [List.take_succ_eq_append_getElem (by simpa using h)]; rfl
theorem valid_yes (n : Int) (h : sumValidB n = true) : 0 ≤ n ∧ n % 65536 < 65521 ∧ n / 65536 < 65521 := of_decide_eq_true h
theorem sumOnV_parts (a b : Int) (l : List UInt8) (ha : 0 ≤ a ∧ a < 65521) (hb : 0 ≤ b ∧ b < 65521) :
    sumOnV a b l % 65536 = adlA a b l ∧ sumOnV a b l / 65536 = adlB a b l ∧ 0 ≤ sumOnV a b l ∧ sumOnV a b l ≤ 4294967296 := by
  have h1 := adlA_bd a b l ha hb
  have h2 := adlB_bd a b l ha hb
  unfold sumOnV; omega
theorem valid_sumOn (a b : Int) (l : List UInt8) (ha : 0 ≤ a ∧ a < 65521) (hb : 0 ≤ b ∧ b < 65521) : sumValidB (sumOnV a b l) = true := by
  have h1 := adlA_bd a b l ha hb
  have h2 := adlB_bd a b l ha hb
  obtain ⟨p1, p2, p3, _⟩ := sumOnV_parts a b l ha hb
  unfold sumValidB; rw [decide_eq_true_eq]; omega
theorem sumOnV_append (a b : Int) (l m : List UInt8) : sumOnV a b (l ++ m) = sumOnV (adlA a b l) (adlB a b l) m := by
  unfold sumOnV adlA adlB; rw [adl_append]
theorem next_sumOn (a b : Int) (l m : List UInt8) (ha : 0 ≤ a ∧ a < 65521) (hb : 0 ≤ b ∧ b < 65521) : sumNextV (sumOnV a b l) m = sumOnV a b (l ++ m) := by
  obtain ⟨p1, p2, p3, _⟩ := sumOnV_parts a b l ha hb
  rw [sumOnV_append]
  unfold sumNextV
  rw [if_pos (valid_sumOn a b l ha hb), p1, p2]
theorem next_yes (n : Int) (l : List UInt8) (hv : sumValidB n = true) : sumNextV n l = sumOnV (n % 65536) (n / 65536) l := if_pos hv
theorem next_no (n : Int) (l : List UInt8) (hv : ¬ sumValidB n = true) : sumNextV n l = -1 := if_neg hv
theorem valid_bds (n : Int) (hv : sumValidB n = true) : (0 ≤ n % 65536 ∧ n % 65536 < 65521) ∧ (0 ≤ n / 65536 ∧ n / 65536 < 65521) := by
  obtain ⟨h0, h1, h2⟩ := valid_yes n hv; omega
theorem next_valid (n : Int) (l : List UInt8) (hv : sumValidB n = true) : sumValidB (sumNextV n l) = true := by
  rw [next_yes n l hv]; exact valid_sumOn _ _ l (valid_bds n hv).1 (valid_bds n hv).2
theorem next_nonneg (n : Int) (l : List UInt8) (hv : sumValidB n = true) : 0 ≤ sumNextV n l ∧ sumNextV n l ≤ 4294967296 := by
  rw [next_yes n l hv]; exact (sumOnV_parts _ _ l (valid_bds n hv).1 (valid_bds n hv).2).2.2
theorem next_bd (n : Int) (l : List UInt8) : -1 ≤ sumNextV n l ∧ sumNextV n l ≤ 4294967296 := by
  by_cases hv : sumValidB n = true
  · have := next_nonneg n l hv; omega
  · rw [next_no n l hv]; omega
theorem next_next (n : Int) (l m : List UInt8) (hv : sumValidB n = true) : sumNextV (sumNextV n l) m = sumNextV n (l ++ m) := by
  rw [next_yes n l hv, next_yes n (l ++ m) hv, next_sumOn _ _ l m (valid_bds n hv).1 (valid_bds n hv).2]
theorem next_neg (n : Int) (l : List UInt8) (h : 0 ≤ sumNextV n l) : sumValidB n = true := by
  by_cases hv : sumValidB n = true
  · exact hv
  · rw [next_no n l hv] at h; omega
/-- The bytes added up. -/
def addUp (l : List UInt8) : Int := (l.map fun c => (c.toNat : Int)).sum
theorem addUp_append (l m : List UInt8) : addUp (l ++ m) = addUp l + addUp m := by simp [addUp]
theorem addUp_cons (c : UInt8) (l : List UInt8) : addUp (c :: l) = (c.toNat : Int) + addUp l := by simp [addUp]
theorem addUp_bd (l : List UInt8) : 0 ≤ addUp l ∧ addUp l ≤ 255 * l.length := by
  induction l with
  | nil => simp [addUp]
  | cons c l ih => rw [addUp_cons, List.length_cons]; have := c.toNat_lt; omega
theorem adl_one (l : List UInt8) : ∀ p : Int × Int, (adl p l).1 % 65521 = (p.1 + addUp l) % 65521 := by
  induction l with
  | nil => intro p; simp [adl, addUp]
  | cons c l ih => intro p; rw [adl_cons, ih, addUp_cons]; dsimp only; omega
theorem adlA_sum (a b : Int) (l : List UInt8) (ha : 0 ≤ a ∧ a < 65521) (hb : 0 ≤ b ∧ b < 65521) : adlA a b l = (a + addUp l) % 65521 := by
  have h := adl_one l (a, b)
  have h1 := adlA_bd a b l ha hb
  have e : (adl (a, b) l).1 = adlA a b l := rfl
  rw [e] at h
  dsimp only at h
  omega
theorem adl_two (l : List UInt8) : ∀ a b : Int, (adl (a, b) l).2 % 65521 = (b + (adl (a, 0) l).2) % 65521 ∧ (adl (a, b) l).1 = (adl (a, 0) l).1 := by
  induction l with
  | nil => intro a b; simp [adl]
  | cons c l ih =>
    intro a b
    rw [adl_cons, adl_cons]
    dsimp only
    have h1 := ih ((a + (c.toNat : Int)) % 65521) ((b + (a + (c.toNat : Int)) % 65521) % 65521)
    have h2 := ih ((a + (c.toNat : Int)) % 65521) ((0 + (a + (c.toNat : Int)) % 65521) % 65521)
    refine ⟨?_, by rw [h1.2, h2.2]⟩
    have e1 := h1.1
    have e2 := h2.1
    omega
/-- Equal checksums have equal parts. -/
theorem sumOnV_inj (a b : Int) (l m : List UInt8) (ha : 0 ≤ a ∧ a < 65521) (hb : 0 ≤ b ∧ b < 65521) (h : sumOnV a b l = sumOnV a b m) : adlA a b l = adlA a b m ∧ adlB a b l = adlB a b m := by
  have h1 := sumOnV_parts a b l ha hb
  have h2 := sumOnV_parts a b m ha hb
  rw [h] at h1
  exact ⟨h1.1.symm.trans h2.1, h1.2.1.symm.trans h2.2.1⟩
theorem byte_changed (p q : List UInt8) (x y : UInt8) (hxy : x ≠ y) : sumOnV 1 0 (p ++ [x] ++ q) ≠ sumOnV 1 0 (p ++ [y] ++ q) := by
  intro h
  have h1 := (sumOnV_inj 1 0 _ _ (by omega) (by omega) h).1
  rw [adlA_sum _ _ _ (by omega) (by omega), adlA_sum _ _ _ (by omega) (by omega), addUp_append, addUp_append, addUp_append, addUp_append, addUp_cons, addUp_cons] at h1
  have hx := x.toNat_lt
  have hy := y.toNat_lt
  have : x.toNat = y.toNat := by omega
  exact hxy (UInt8.toNat_inj.1 this)
theorem bytes_swapped (p q : List UInt8) (x y : UInt8) (h : sumOnV 1 0 (p ++ [y, x] ++ q) = sumOnV 1 0 (p ++ [x, y] ++ q)) : x = y := by
  have h1 := (sumOnV_inj 1 0 _ _ (by omega) (by omega) h).2
  have hx := x.toNat_lt
  have hy := y.toNat_lt
  have key : ∀ u v : UInt8, adlB 1 0 (p ++ [u, v] ++ q) % 65521 = (adlB 1 0 p + adlA 1 0 p + (u.toNat : Int) + (adlA 1 0 p + (u.toNat : Int) + (v.toNat : Int)) + (adl ((adlA 1 0 p + (u.toNat : Int) + (v.toNat : Int)) % 65521, 0) q).2) % 65521 := by
    intro u v
    have e : adlB 1 0 (p ++ [u, v] ++ q) = (adl (adl (adl (1, 0) p) [u, v]) q).2 := by unfold adlB; rw [adl_append, adl_append]
    rw [e, adl_pair 1 0 p, adl_cons, adl_cons]
    dsimp only
    have h2 := (adl_two q (((adlA 1 0 p + (u.toNat : Int)) % 65521 + (v.toNat : Int)) % 65521) (((adlB 1 0 p + (adlA 1 0 p + (u.toNat : Int)) % 65521) % 65521 + ((adlA 1 0 p + (u.toNat : Int)) % 65521 + (v.toNat : Int)) % 65521) % 65521)).1
    have e2 : ((adlA 1 0 p + (u.toNat : Int)) % 65521 + (v.toNat : Int)) % 65521 = (adlA 1 0 p + (u.toNat : Int) + (v.toNat : Int)) % 65521 := by omega
    have e3 : adl ((((adlA 1 0 p + (u.toNat : Int)) % 65521 + (v.toNat : Int)) % 65521), ((adlB 1 0 p + (adlA 1 0 p + (u.toNat : Int)) % 65521) % 65521 + ((adlA 1 0 p + (u.toNat : Int)) % 65521 + (v.toNat : Int)) % 65521) % 65521) [] = ((((adlA 1 0 p + (u.toNat : Int)) % 65521 + (v.toNat : Int)) % 65521), ((adlB 1 0 p + (adlA 1 0 p + (u.toNat : Int)) % 65521) % 65521 + ((adlA 1 0 p + (u.toNat : Int)) % 65521 + (v.toNat : Int)) % 65521) % 65521) := rfl
    rw [e3]
    rw [e2] at h2 ⊢
    omega
  have k1 := key y x
  have k2 := key x y
  rw [h1] at k1
  have e4 : adlA 1 0 p + (y.toNat : Int) + (x.toNat : Int) = adlA 1 0 p + (x.toNat : Int) + (y.toNat : Int) := by omega
  rw [e4] at k1
  have : x.toNat = y.toNat := by omega
  exact UInt8.toNat_inj.1 this
theorem byte_zero (l : List UInt8) (hl : l.length ≤ 200) : sumOnV 1 0 (l ++ [0]) ≠ sumOnV 1 0 l := by
  intro h
  have h1 := (sumOnV_inj 1 0 _ _ (by omega) (by omega) h).2
  rw [adlB_snoc] at h1
  have hb := adlB_bd 1 0 l (by omega) (by omega)
  have ha := adlA_sum 1 0 l (by omega) (by omega)
  have hs := addUp_bd l
  have hz : ((0 : UInt8).toNat : Int) = 0 := rfl
  rw [hz] at h1
  omega
theorem ext_first (s : ByteArray) (k : Nat) : (s.extract 0 k).data.toList = s.data.toList.take k := by simp
theorem ext_rest (s : ByteArray) (k : Nat) : (s.extract k s.size).data.toList = s.data.toList.drop k := by
  simp only [ByteArray.data_extract, Array.toList_extract, List.extract_eq_take_drop]
  exact List.take_of_length_le (by simp)
end Go.Proofs.Ytgbdcpeljbeinaa
