/- Facts on the bytes of the numbers of two and of four bytes. -/
import Derived.Test.YtldiamafbcopmaaMathB
namespace Go.Proofs.Ytldiamafbcopmaa
theorem byteV_list (l : List UInt8) (k : Nat) : byteV ⟨l.toArray⟩ k = ((l.getD k 0).toNat : Int) := rfl
theorem byte_nat (x : Int) (h0 : 0 ≤ x) (h1 : x ≤ 255) : ((UInt8.ofNat x.toNat).toNat : Int) = x := by rw [UInt8.toNat_ofNat']; omega
theorem wordS_bytes (n : Int) (h0 : 0 ≤ n) (h1 : n ≤ 65535) : byteV (wordS n) 0 = n / 256 ∧ byteV (wordS n) 1 = n % 256 :=
  ⟨byte_nat (n / 256) (by omega) (by omega), byte_nat (n % 256) (by omega) (by omega)⟩
theorem wordS_sz (n : Int) : (wordS n).size = 2 := rfl
theorem longS_sz (n : Int) : (longS n).size = 4 := by unfold longS; rw [ByteArray.size_append, wordS_sz, wordS_sz]
theorem longS_bytes (n : Int) (h0 : 0 ≤ n) (h1 : n ≤ 4294967295) : byteV (longS n) 0 = n / 16777216 ∧ byteV (longS n) 1 = n / 65536 % 256 ∧ byteV (longS n) 2 = n / 256 % 256 ∧ byteV (longS n) 3 = n % 256 := by
  rw [longS_eq]
  exact ⟨byte_nat (n / 16777216) (by omega) (by omega), byte_nat (n / 65536 % 256) (by omega) (by omega), byte_nat (n / 256 % 256) (by omega) (by omega), byte_nat (n % 256) (by omega) (by omega)⟩
theorem byte_back (s : ByteArray) (k : Nat) (h : k < s.size) : UInt8.ofNat (byteV s k).toNat = s[k] := by
  rw [← byteV_of s k h]
  apply UInt8.toNat_inj.1
  rw [UInt8.toNat_ofNat']
  have := s[k].toNat_lt
  omega
theorem two_at (s : ByteArray) (k : Nat) (h : k + 2 ≤ s.size) : (s.extract k (k + 2)).data.toList = [s[k]'(by omega), s[k + 1]'(by omega)] := by
  have h1 : k < s.data.toList.length := by simp; omega
  have h2 : k + 1 < s.data.toList.length := by simp; omega
  simp only [ByteArray.data_extract, Array.toList_extract, List.extract_eq_take_drop]
  rw [show k + 2 - k = 2 by omega, List.drop_eq_getElem_cons h1, List.take_succ_cons, List.drop_eq_getElem_cons h2, List.take_succ_cons, List.take_zero]
  rfl
theorem word_back (s : ByteArray) (k : Nat) (h : k + 2 ≤ s.size) : wordS (byteV s k * 256 + byteV s (k + 1)) = s.extract k (k + 2) := by
  have b0 := byteV_bd s k
  have b1 := byteV_bd s (k + 1)
  apply ByteArray.ext
  apply Array.toList_inj.1
  rw [two_at s k h]
  unfold wordS
  rw [show (byteV s k * 256 + byteV s (k + 1)) / 256 = byteV s k by omega, show (byteV s k * 256 + byteV s (k + 1)) % 256 = byteV s (k + 1) by omega]
  show [UInt8.ofNat (byteV s k).toNat, UInt8.ofNat (byteV s (k + 1)).toNat] = _
  rw [byte_back s k (by omega), byte_back s (k + 1) (by omega)]
theorem byteV_mid (x s : ByteArray) (k : Nat) (h : k < s.size) : byteV (x ++ s ++ x) (k + x.size) = byteV s k := by
  unfold byteV
  rw [ByteArray.data_append, ByteArray.data_append, Array.toList_append, Array.toList_append, List.getD_eq_getElem?_getD, List.getD_eq_getElem?_getD, List.append_assoc, List.getElem?_append_right (by simp), List.getElem?_append_left (by simp; omega)]
  simp
end Go.Proofs.Ytldiamafbcopmaa
