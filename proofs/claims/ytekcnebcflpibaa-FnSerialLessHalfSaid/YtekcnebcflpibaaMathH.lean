/- Plain functions of the hexadecimal digits, and facts on them. -/
import Derived.Laws.BitsLemmas
import Derived.Laws.BytesArg
import Derived.Laws.AppendOwn
import Derived.Laws.BytesString
import Derived.Laws.IdiomStrings
import Derived.Laws.Rows
import Derived.Laws.Strings
import Derived.IntWalk
namespace Go.Proofs.Ytekcnebcflpibaa
/-- The digit of a number below 16. -/
def hexC (n : Nat) : UInt8 := if n < 10 then UInt8.ofNat (48 + n) else UInt8.ofNat (87 + n)
def hexL : List UInt8 → List UInt8
  | [] => []
  | b :: l => hexC (b.toNat / 16) :: hexC (b.toNat % 16) :: hexL l
theorem hexL_append (l m : List UInt8) : hexL (l ++ m) = hexL l ++ hexL m := by
  induction l with
  | nil => rfl
  | cons b l ih => simp [hexL, ih]
theorem hexL_length (l : List UInt8) : (hexL l).length = 2 * l.length := by
  induction l with
  | nil => rfl
  | cons b l ih => simp only [hexL, List.length_cons, ih]; omega
def hexS (s : ByteArray) : ByteArray := ⟨(hexL s.data.toList).toArray⟩
/-- A byte as a cell holds it. -/
def cellB (b : UInt8) : Value := .int .u8 (b.toNat : Int)
def cellsB (l : List UInt8) : List Value := l.map cellB
theorem cellsB_append (l m : List UInt8) : cellsB (l ++ m) = cellsB l ++ cellsB m := by simp [cellsB]
theorem cellsB_length (l : List UInt8) : (cellsB l).length = l.length := by simp [cellsB]
/-- 'string(v)' of a slice of the call's own. -/
theorem conv_row {P : Program} {w : World} {base g cap n : Nat} {e : TypeId} (src : TypeId) (hs : P.underlying src = some (.slice e)) (he : P.underlying e = some (.int .u8)) (dst : TypeId) (hd : P.underlying dst = some .string)
    (l : List UInt8) (hn : n = l.length) (h : w.ownsRow base e 1 (.slice (some ⟨g, 0, none⟩) n cap) n (cellsB l)) : (convert src dst (.slice (some ⟨g, 0, none⟩) n cap)).run P w = .ok (.string ⟨l.toArray⟩) w := by
  subst hn
  obtain ⟨_, h⟩ := h
  rcases h with ⟨h, _⟩ | ⟨g', cap', cur, hv, _, hb, _, _, _, hcur⟩
  · cases h
  · cases hv
    refine run_convert_bytes_back w src dst e ⟨g, 0, none⟩ cap l hs he hd ?_
    intro j hj
    have hadd : (⟨g, 0, none⟩ : Addr).add j = ⟨g, j, none⟩ := by unfold Addr.add; split <;> simp_all
    rw [hadd, cell_of_row w g j cur e (0, 0) hb]
    have h1 : (cellsB l)[j]? = some (cellB l[j]) := by simp [cellsB, hj]
    rw [← hcur, List.getElem?_take_of_lt (by omega)] at h1
    simpa [cellB] using h1
/-- The value of a digit, or -1. -/
def hexV (c : UInt8) : Int := if 48 ≤ (c.toNat : Int) ∧ (c.toNat : Int) ≤ 57 then (c.toNat : Int) - 48 else if 97 ≤ (c.toNat : Int) ∧ (c.toNat : Int) ≤ 102 then (c.toNat : Int) - 87 else -1
theorem hexV_bd (c : UInt8) : -1 ≤ hexV c ∧ hexV c < 16 := by unfold hexV; split <;> (try split) <;> omega
theorem hexC_toNat (k : Nat) (hk : k < 16) : ((hexC k).toNat : Int) = if k < 10 then (48 + k : Int) else (87 + k : Int) := by
  unfold hexC
  by_cases h : k < 10
  · rw [if_pos h, if_pos h, UInt8.toNat_ofNat']; omega
  · rw [if_neg h, if_neg h, UInt8.toNat_ofNat']; omega
theorem hexV_hexC (k : Nat) (hk : k < 16) : hexV (hexC k) = k := by
  have h := hexC_toNat k hk
  unfold hexV
  by_cases h10 : k < 10
  · rw [if_pos h10] at h; rw [if_pos (by omega)]; omega
  · rw [if_neg h10] at h; rw [if_neg (by omega), if_pos (by omega)]; omega
theorem hexC_hexV (c : UInt8) (h : 0 ≤ hexV c) : hexC (hexV c).toNat = c := by
  have hv : ((hexC (hexV c).toNat).toNat : Int) = (c.toNat : Int) := by
    have hb := hexV_bd c
    rw [hexC_toNat _ (by omega)]
    unfold hexV at *
    by_cases h1 : 48 ≤ (c.toNat : Int) ∧ (c.toNat : Int) ≤ 57
    · simp only [if_pos h1] at *; rw [if_pos (by omega)]; omega
    · by_cases h2 : 97 ≤ (c.toNat : Int) ∧ (c.toNat : Int) ≤ 102
      · simp only [if_neg h1, if_pos h2] at *; rw [if_neg (by omega)]; omega
      · simp only [if_neg h1, if_neg h2] at *; omega
  exact UInt8.toNat_inj.1 (by omega)
theorem hexV_none (c : UInt8) (h : ∀ j, j < 16 → hexC j ≠ c) : hexV c = -1 := by
  have hb := hexV_bd c
  by_cases h0 : 0 ≤ hexV c
  · exact absurd (hexC_hexV c h0) (h _ (by omega))
  · omega
/-- Two digits a byte. -/
def unhex : List UInt8 → List UInt8
  | a :: b :: l => UInt8.ofNat (hexV a * 16 + hexV b).toNat :: unhex l
  | _ => []
theorem unhex_append (m : List UInt8) : ∀ (n : Nat) (l : List UInt8), l.length = 2 * n → unhex (l ++ m) = unhex l ++ unhex m := by
  intro n
  induction n with
  | zero => intro l h; have : l = [] := List.eq_nil_of_length_eq_zero (by omega); subst this; rfl
  | succ n ih =>
    intro l h
    match l, h with
    | a :: b :: l, h => simp only [List.cons_append, unhex]; rw [ih l (by simp at h; omega)]
theorem unhex_length : ∀ (n : Nat) (l : List UInt8), l.length = 2 * n → (unhex l).length = n := by
  intro n
  induction n with
  | zero => intro l h; have : l = [] := List.eq_nil_of_length_eq_zero (by omega); subst this; rfl
  | succ n ih =>
    intro l h
    match l, h with
    | a :: b :: l, h => simp only [unhex, List.length_cons]; rw [ih l (by simp at h; omega)]
/-- What HexGet returns. -/
def hexOk (l : List UInt8) : Prop := l.length % 2 = 0 ∧ l.length ≤ 80 ∧ ∀ c ∈ l, 0 ≤ hexV c
instance (l : List UInt8) : Decidable (hexOk l) := by unfold hexOk; infer_instance
def hexGetR (l : List UInt8) : Value := if hexOk l then .tuple #[.string ⟨(unhex l).toArray⟩, .bool true] else .tuple #[.string ⟨#[]⟩, .bool false]
theorem hexGetR_yes (l : List UInt8) (h : hexOk l) : hexGetR l = .tuple #[.string ⟨(unhex l).toArray⟩, .bool true] := if_pos h
theorem hexGetR_no (l : List UInt8) (h : ¬ hexOk l) : hexGetR l = .tuple #[.string ⟨#[]⟩, .bool false] := if_neg h
theorem hexBad_at (s : ByteArray) (k : Nat) (h : k < s.size) (hv : hexV s[k] < 0) : ¬ hexOk s.data.toList := by
  intro ⟨_, _, ha⟩
  have hm : s[k] ∈ s.data.toList := by
    have h' : k < s.data.toList.length := by simpa using h
    have := List.getElem_mem h'
    exact this
  have := ha _ hm
  omega
theorem take_two (s : ByteArray) (k : Nat) (h : k + 1 < s.size) : s.data.toList.take (k + 2) = s.data.toList.take k ++ [s[k]'(by omega), s[k + 1]'h] := by
  have h1 : s.data.toList.take (k + 1 + 1) = s.data.toList.take (k + 1) ++ [s[k + 1]'h] := by
    rw [List.take_succ_eq_append_getElem (by simpa using h)]; rfl
  have h2 : s.data.toList.take (k + 1) = s.data.toList.take k ++ [s[k]'(by omega)] := by
    rw [List.take_succ_eq_append_getElem (by have : k < s.size := by omega
                                             simpa using this)]; rfl
  rw [h2, List.append_assoc] at h1
  exact h1
theorem get_step (s : ByteArray) (i : Nat) (h : 2 * i + 1 < s.size) (ha : 0 ≤ hexV (s[2 * i]'(by omega))) (hb : 0 ≤ hexV (s[2 * i + 1]'h)) (x : Int) (hx : x % 256 = (hexV (s[2 * i]'(by omega)) * 16 + hexV (s[2 * i + 1]'h)) % 256) (hx0 : 0 ≤ x) (hx1 : x < 256) :
    cellsB (unhex (s.data.toList.take (2 * i + 2))) = cellsB (unhex (s.data.toList.take (2 * i))) ++ [.int .u8 x] := by
  rw [take_two s (2 * i) h, unhex_append _ i _ (by rw [List.length_take]; simp; omega), cellsB_append]
  have b1 := hexV_bd (s[2 * i]'(by omega))
  have b2 := hexV_bd (s[2 * i + 1]'h)
  have he : ((UInt8.ofNat (hexV (s[2 * i]'(by omega)) * 16 + hexV (s[2 * i + 1]'h)).toNat).toNat : Int) = x := by
    rw [UInt8.toNat_ofNat']; omega
  simp only [unhex, cellsB, List.map_cons, List.map_nil, cellB, he]
theorem get_step' (s : ByteArray) (j : Nat) (hj : j % 2 = 0) (h : j + 1 < s.size) (ha : 0 ≤ hexV (s[j]'(by omega))) (hb : 0 ≤ hexV (s[j + 1]'h)) (x : Int) (hx : x % 256 = (hexV (s[j]'(by omega)) * 16 + hexV (s[j + 1]'h)) % 256) (hx0 : 0 ≤ x) (hx1 : x < 256) :
    cellsB (unhex (s.data.toList.take (j + 2))) = cellsB (unhex (s.data.toList.take j)) ++ [.int .u8 x] := by
  obtain ⟨i, rfl⟩ : ∃ i, j = 2 * i := ⟨j / 2, by omega⟩
  exact get_step s i h ha hb x hx hx0 hx1
theorem valid_step (s : ByteArray) (j : Nat) (h : j + 1 < s.size) (hv : ∀ c ∈ s.data.toList.take j, 0 ≤ hexV c) (ha : 0 ≤ hexV (s[j]'(by omega))) (hb : 0 ≤ hexV (s[j + 1]'h)) :
    ∀ c ∈ s.data.toList.take (j + 2), 0 ≤ hexV c := by
  intro c hc
  rw [take_two s j h, List.mem_append] at hc
  rcases hc with hc | hc
  · exact hv c hc
  · simp only [List.mem_cons, List.not_mem_nil, or_false] at hc
    rcases hc with rfl | rfl
    · exact ha
    · exact hb
theorem take_snoc_b (s : ByteArray) (k : Nat) (h : k < s.size) : s.data.toList.take (k + 1) = s.data.toList.take k ++ [s[k]] := by
  rw [List.take_succ_eq_append_getElem (by simpa using h)]; rfl
theorem hex_step (s : ByteArray) (k : Nat) (h : k < s.size) : cellsB (hexL (s.data.toList.take (k + 1))) = cellsB (hexL (s.data.toList.take k)) ++ [.int .u8 ((hexC (s[k].toNat / 16)).toNat : Int), .int .u8 ((hexC (s[k].toNat % 16)).toNat : Int)] := by
  rw [take_snoc_b s k h, hexL_append, cellsB_append]; rfl
theorem wrap_b8 (b : UInt8) : IntKind.u8.wrap (b.toNat : Int) = (b.toNat : Int) := by rw [IntKind.wrap_u8]; have := b.toNat_lt; omega
theorem and15_b (b : UInt8) : bits .and .u8 (b.toNat : Int) 15 = (b.toNat : Int) % 16 := u8_and15 _ (by omega) (by have := b.toNat_lt; omega)
theorem wrap_q16 (b : UInt8) : IntKind.u8.wrap ((b.toNat : Int) / 16) = (b.toNat : Int) / 16 := by rw [IntKind.wrap_u8]; have := b.toNat_lt; omega
theorem tmod_16 (b : UInt8) : ((b.toNat : Int)).tmod 16 = (b.toNat : Int) % 16 := Int.tmod_eq_emod_of_nonneg (by omega)
theorem wrap_r16 (b : UInt8) : IntKind.u8.wrap ((b.toNat : Int) % 16) = (b.toNat : Int) % 16 := by rw [IntKind.wrap_u8]; have := b.toNat_lt; omega
theorem digits_at {P : Program} (t : TypeId) (ht : P.underlying t = some .string) (n : Nat) (hn : n < 16) (w : World) :
    (Instr.index t (.string ⟨#[48, 49, 50, 51, 52, 53, 54, 55, 56, 57, 97, 98, 99, 100, 101, 102]⟩) (.int .u8 (n : Int))).run P w = .ok (.int .u8 ((hexC n).toNat : Int)) w := by
  rw [run_index_string w t _ _ _ ht]
  match n, hn with
  | 0, _ => rfl
  | 1, _ => rfl
  | 2, _ => rfl
  | 3, _ => rfl
  | 4, _ => rfl
  | 5, _ => rfl
  | 6, _ => rfl
  | 7, _ => rfl
  | 8, _ => rfl
  | 9, _ => rfl
  | 10, _ => rfl
  | 11, _ => rfl
  | 12, _ => rfl
  | 13, _ => rfl
  | 14, _ => rfl
  | 15, _ => rfl
  | _ + 16, hn => exact absurd hn (by omega)
theorem digits_i {P : Program} (t : TypeId) (ht : P.underlying t = some .string) (n : Nat) (hn : n < 16) (w : World) :
    (Instr.index t (.string ⟨#[48, 49, 50, 51, 52, 53, 54, 55, 56, 57, 97, 98, 99, 100, 101, 102]⟩) (.int .i64 (n : Int))).run P w = .ok (.int .u8 ((hexC n).toNat : Int)) w := by
  rw [run_index_string w t _ _ _ ht]
  match n, hn with
  | 0, _ => rfl
  | 1, _ => rfl
  | 2, _ => rfl
  | 3, _ => rfl
  | 4, _ => rfl
  | 5, _ => rfl
  | 6, _ => rfl
  | 7, _ => rfl
  | 8, _ => rfl
  | 9, _ => rfl
  | 10, _ => rfl
  | 11, _ => rfl
  | 12, _ => rfl
  | 13, _ => rfl
  | 14, _ => rfl
  | 15, _ => rfl
  | _ + 16, hn => exact absurd hn (by omega)
theorem digits_q {P : Program} (t : TypeId) (ht : P.underlying t = some .string) (b : UInt8) (w : World) :
    (Instr.index t (.string ⟨#[48, 49, 50, 51, 52, 53, 54, 55, 56, 57, 97, 98, 99, 100, 101, 102]⟩) (.int .u8 ((b.toNat : Int) / 16))).run P w = .ok (.int .u8 ((hexC (b.toNat / 16)).toNat : Int)) w := by
  have h := digits_at (P := P) t ht (b.toNat / 16) (by have := b.toNat_lt; omega) w
  rwa [show ((b.toNat / 16 : Nat) : Int) = (b.toNat : Int) / 16 by omega] at h
theorem digits_r {P : Program} (t : TypeId) (ht : P.underlying t = some .string) (b : UInt8) (w : World) :
    (Instr.index t (.string ⟨#[48, 49, 50, 51, 52, 53, 54, 55, 56, 57, 97, 98, 99, 100, 101, 102]⟩) (.int .u8 ((b.toNat : Int) % 16))).run P w = .ok (.int .u8 ((hexC (b.toNat % 16)).toNat : Int)) w := by
  have h := digits_at (P := P) t ht (b.toNat % 16) (by omega) w
  rwa [show ((b.toNat % 16 : Nat) : Int) = (b.toNat : Int) % 16 by omega] at h
theorem unhex_hexL (l : List UInt8) : unhex (hexL l) = l := by
  induction l with
  | nil => rfl
  | cons b l ih =>
    have hb := b.toNat_lt
    have e : UInt8.ofNat (hexV (hexC (b.toNat / 16)) * 16 + hexV (hexC (b.toNat % 16))).toNat = b := by
      rw [hexV_hexC _ (by omega), hexV_hexC _ (by omega)]
      apply UInt8.toNat_inj.1
      rw [UInt8.toNat_ofNat']; omega
    simp only [hexL, unhex, ih, e]
theorem hexL_valid (l : List UInt8) : ∀ c ∈ hexL l, 0 ≤ hexV c := by
  induction l with
  | nil => intro c hc; simp [hexL] at hc
  | cons b l ih =>
    intro c hc
    have hb := b.toNat_lt
    simp only [hexL, List.mem_cons] at hc
    rcases hc with rfl | rfl | hc
    · rw [hexV_hexC _ (by omega)]; omega
    · rw [hexV_hexC _ (by omega)]; omega
    · exact ih c hc
theorem hexOk_hexL (l : List UInt8) (h : l.length ≤ 40) : hexOk (hexL l) := by
  refine ⟨?_, ?_, hexL_valid l⟩ <;> rw [hexL_length] <;> omega
theorem hexL_unhex : ∀ (n : Nat) (l : List UInt8), l.length = 2 * n → (∀ c ∈ l, 0 ≤ hexV c) → hexL (unhex l) = l := by
  intro n
  induction n with
  | zero => intro l h _; have : l = [] := List.eq_nil_of_length_eq_zero (by omega); subst this; rfl
  | succ n ih =>
    intro l h hv
    match l, h, hv with
    | a :: b :: l, h, hv =>
      have ha := hv a (by simp)
      have hb := hv b (by simp)
      have ba := hexV_bd a
      have bb := hexV_bd b
      have e : (UInt8.ofNat (hexV a * 16 + hexV b).toNat).toNat = (hexV a).toNat * 16 + (hexV b).toNat := by
        rw [UInt8.toNat_ofNat']; omega
      have e1 : hexC ((UInt8.ofNat (hexV a * 16 + hexV b).toNat).toNat / 16) = a := by
        rw [e, show ((hexV a).toNat * 16 + (hexV b).toNat) / 16 = (hexV a).toNat by omega]; exact hexC_hexV a ha
      have e2 : hexC ((UInt8.ofNat (hexV a * 16 + hexV b).toNat).toNat % 16) = b := by
        rw [e, show ((hexV a).toNat * 16 + (hexV b).toNat) % 16 = (hexV b).toNat by omega]; exact hexC_hexV b hb
      simp only [unhex, hexL, e1, e2]
      rw [ih l (by simp at h; omega) (fun c hc => hv c (by simp [hc]))]
theorem hexS_unhex (s : ByteArray) (h : hexOk s.data.toList) : hexS ⟨(unhex s.data.toList).toArray⟩ = s := by
  unfold hexS
  rw [show (⟨(unhex s.data.toList).toArray⟩ : ByteArray).data.toList = unhex s.data.toList from rfl, hexL_unhex (s.data.toList.length / 2) s.data.toList (by have := h.1; omega) h.2.2]
theorem hexS_size (s : ByteArray) : (hexS s).size = 2 * s.size := by
  show (hexL s.data.toList).toArray.size = _; rw [List.size_toArray, hexL_length]; simp
theorem hexS_list (s : ByteArray) : (hexS s).data.toList = hexL s.data.toList := rfl
theorem back_hexS (s : ByteArray) : (⟨(unhex (hexS s).data.toList).toArray⟩ : ByteArray) = s := by
  rw [hexS_list, unhex_hexL]
theorem hexS_append (s t : ByteArray) : hexS (s ++ t) = hexS s ++ hexS t := by
  apply ByteArray.ext
  apply Array.toList_inj.1
  rw [hexS_list, ByteArray.data_append, Array.toList_append, hexL_append, ByteArray.data_append, Array.toList_append, hexS_list, hexS_list]
theorem unhex_size (s : ByteArray) (h : hexOk s.data.toList) : (⟨(unhex s.data.toList).toArray⟩ : ByteArray).size ≤ 40 := by
  show (unhex s.data.toList).toArray.size ≤ 40
  rw [List.size_toArray, unhex_length (s.data.toList.length / 2) _ (by have := h.1; omega)]
  have := h.2.1; omega
end Go.Proofs.Ytekcnebcflpibaa
