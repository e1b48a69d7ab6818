/- Facts on bits of 64-bit integers, on bytes of strings, and on the conversion of bytes to a string. -/
import Derived.Laws.BitsLemmas
import Derived.Laws.BytesArg
import Derived.Laws.World
import Derived.IntWalk
namespace Go.Proofs.Ytekcnebcflpibaa
/-- The byte at a place, as a number. -/
def byteV (s : ByteArray) (k : Nat) : Int := ((s.data.toList.getD k 0).toNat : Int)
theorem byteV_of (s : ByteArray) (k : Nat) (h : k < s.size) : ((s[k]'h).toNat : Int) = byteV s k := by
  have h' : k < s.data.toList.length := by simpa using h
  unfold byteV
  rw [List.getD_eq_getElem?_getD, List.getElem?_eq_getElem h']
  rfl
theorem byteV_bd (s : ByteArray) (k : Nat) : 0 ≤ byteV s k ∧ byteV s k < 256 := by
  unfold byteV
  have := (s.data.toList.getD k 0).toNat_lt
  omega
theorem wraps_i64 (n : Int) (h₀ : 0 ≤ n) (h₁ : n < 2 ^ 62) : IntKind.i64.wrap n = n := by rw [IntKind.wrap_i64]; omega
theorem wrap_in (n : Int) (h : -9223372036854775808 ≤ n ∧ n ≤ 9223372036854775807) : IntKind.i64.wrap n = n := IntWalk.i64_in n h
theorem or_i64 (i : Nat) (x y : Int) (hx₀ : 0 ≤ x) (hx : x % 2 ^ i = 0) (hx₁ : x < 2 ^ 62) (hy₀ : 0 ≤ y) (hy : y < 2 ^ i) (hy₁ : y < 2 ^ 62) : bits .or .i64 x y = x + y :=
  bits_join .i64 62 (by decide) wraps_i64 i x y hx₀ hx hx₁ hy₀ hy hy₁
theorem or8_i64 (x y : Int) (hx₀ : 0 ≤ x) (hx : x % 256 = 0) (hx₁ : x < 4611686018427387904) (hy₀ : 0 ≤ y) (hy : y < 256) : bits .or .i64 x y = x + y :=
  or_i64 8 x y hx₀ hx hx₁ hy₀ hy (by omega)
theorem or16_i64 (x y : Int) (hx₀ : 0 ≤ x) (hx : x % 65536 = 0) (hx₁ : x < 4611686018427387904) (hy₀ : 0 ≤ y) (hy : y < 65536) : bits .or .i64 x y = x + y :=
  or_i64 16 x y hx₀ hx hx₁ hy₀ hy (by omega)
theorem or24_i64 (x y : Int) (hx₀ : 0 ≤ x) (hx : x % 16777216 = 0) (hx₁ : x < 4611686018427387904) (hy₀ : 0 ≤ y) (hy : y < 16777216) : bits .or .i64 x y = x + y :=
  or_i64 24 x y hx₀ hx hx₁ hy₀ hy (by omega)
theorem xor_i64 (a b : Nat) (ha : a < 4611686018427387904) (hb : b < 4611686018427387904) : bits .xor .i64 (a : Int) (b : Int) = ((a ^^^ b : Nat) : Int) := by
  have h1 : (BitVec.ofInt 64 (a : Int)).toNat = a := by
    rw [BitVec.ofInt_natCast, BitVec.toNat_ofNat]; exact Nat.mod_eq_of_lt (by omega)
  have h2 : (BitVec.ofInt 64 (b : Int)).toNat = b := by
    rw [BitVec.ofInt_natCast, BitVec.toNat_ofNat]; exact Nat.mod_eq_of_lt (by omega)
  have hx : a ^^^ b < 2 ^ 62 := Nat.xor_lt_two_pow (by omega) (by omega)
  show IntKind.i64.wrap ((BitVec.ofInt 64 (a : Int) ^^^ BitVec.ofInt 64 (b : Int)).toNat : Int) = _
  rw [BitVec.toNat_xor, h1, h2]
  exact wrap_in _ (by omega)
theorem wrap_byte (b : UInt8) : IntKind.i64.wrap (b.toNat : Int) = (b.toNat : Int) := wrap_in _ (by have := b.toNat_lt; omega)
theorem wrap_byte8 (b : UInt8) : IntKind.i64.wrap ((b.toNat : Int) * 256) = (b.toNat : Int) * 256 := wrap_in _ (by have := b.toNat_lt; omega)
theorem wrap_byte8' (b : UInt8) : IntKind.i64.wrap (256 * (b.toNat : Int)) = 256 * (b.toNat : Int) := wrap_in _ (by have := b.toNat_lt; omega)
theorem wrap_sum (b c : UInt8) : IntKind.i64.wrap (256 * (b.toNat : Int) + (c.toNat : Int)) = 256 * (b.toNat : Int) + (c.toNat : Int) := wrap_in _ (by have := b.toNat_lt; have := c.toNat_lt; omega)
theorem wrap_byte16 (b : UInt8) : IntKind.i64.wrap ((b.toNat : Int) * 65536) = (b.toNat : Int) * 65536 := wrap_in _ (by have := b.toNat_lt; omega)
theorem wrap_byte24 (b : UInt8) : IntKind.i64.wrap ((b.toNat : Int) * 16777216) = (b.toNat : Int) * 16777216 := wrap_in _ (by have := b.toNat_lt; omega)
theorem or_byte (b c : UInt8) : bits .or .i64 ((b.toNat : Int) * 256) (c.toNat : Int) = (b.toNat : Int) * 256 + (c.toNat : Int) :=
  or8_i64 _ _ (by omega) (by omega) (by have := b.toNat_lt; omega) (by omega) (by have := c.toNat_lt; omega)
theorem or_byte1 (b c : UInt8) : bits .or .i64 ((b.toNat : Int) * 16777216) ((c.toNat : Int) * 65536) = (b.toNat : Int) * 16777216 + (c.toNat : Int) * 65536 :=
  or24_i64 _ _ (by omega) (by omega) (by have := b.toNat_lt; omega) (by omega) (by have := c.toNat_lt; omega)
theorem or_byte2 (b c d : UInt8) : bits .or .i64 ((b.toNat : Int) * 16777216 + (c.toNat : Int) * 65536) ((d.toNat : Int) * 256) = (b.toNat : Int) * 16777216 + (c.toNat : Int) * 65536 + (d.toNat : Int) * 256 :=
  or16_i64 _ _ (by omega) (by omega) (by have := b.toNat_lt; have := c.toNat_lt; omega) (by omega) (by have := d.toNat_lt; omega)
theorem or_byte3 (b c d e : UInt8) : bits .or .i64 ((b.toNat : Int) * 16777216 + (c.toNat : Int) * 65536 + (d.toNat : Int) * 256) (e.toNat : Int) = (b.toNat : Int) * 16777216 + (c.toNat : Int) * 65536 + (d.toNat : Int) * 256 + (e.toNat : Int) :=
  or8_i64 _ _ (by omega) (by omega) (by have := b.toNat_lt; have := c.toNat_lt; have := d.toNat_lt; omega) (by omega) (by have := e.toNat_lt; omega)
/-- The bytes of a list of numbers. -/
def strNums (xs : List Int) : ByteArray := ⟨(xs.map fun n => UInt8.ofNat n.toNat).toArray⟩
theorem strNums_eq (xs : List Int) : strOfNums xs = strNums xs := rfl
theorem conv_one {P : Program} (w : World) (src e : TypeId) (hs : P.underlying src = some (.slice e)) (he : P.underlying e = some (.int .u8)) (dst : TypeId) (hd : P.underlying dst = some .string) (x : Int) :
    (convert src dst (.slice (some ⟨w.heap.size, 0, none⟩) 1 1)).run P (w.alloc (.cells #[.int .u8 x] e)) = .ok (.string (strNums [x])) (w.alloc (.cells #[.int .u8 x] e)) := by
  refine run_convert_bytes_arg (P := P) (w.alloc (.cells #[.int .u8 x] e)) src e hs he w.heap.size 0 1 1 [x] rfl ?_ dst hd
  intro i hi
  rw [World.cell?_alloc_new, Nat.zero_add]
  match i, hi with
  | 0, _ => rfl
theorem conv_one_drew {P : Program} (w : World) (src e : TypeId) (hs : P.underlying src = some (.slice e)) (he : P.underlying e = some (.int .u8)) (dst : TypeId) (hd : P.underlying dst = some .string) (x : Int) :
    (convert src dst (.slice (some ⟨w.heap.size, 0, none⟩) 1 1)).run P (w.alloc (.cells #[.int .u8 x] e)).drew = .ok (.string (strNums [x])) (w.alloc (.cells #[.int .u8 x] e)).drew :=
  conv_one w.drew src e hs he dst hd x
theorem conv_two {P : Program} (w : World) (src e : TypeId) (hs : P.underlying src = some (.slice e)) (he : P.underlying e = some (.int .u8)) (dst : TypeId) (hd : P.underlying dst = some .string) (x y : Int) :
    (convert src dst (.slice (some ⟨w.heap.size, 0, none⟩) 2 2)).run P (w.alloc (.cells #[.int .u8 x, .int .u8 y] e)) = .ok (.string (strNums [x, y])) (w.alloc (.cells #[.int .u8 x, .int .u8 y] e)) := by
  refine run_convert_bytes_arg (P := P) (w.alloc (.cells #[.int .u8 x, .int .u8 y] e)) src e hs he w.heap.size 0 2 2 [x, y] rfl ?_ dst hd
  intro i hi
  rw [World.cell?_alloc_new, Nat.zero_add]
  match i, hi with
  | 0, _ => rfl
  | 1, _ => rfl
theorem conv_four {P : Program} (w : World) (src e : TypeId) (hs : P.underlying src = some (.slice e)) (he : P.underlying e = some (.int .u8)) (dst : TypeId) (hd : P.underlying dst = some .string) (x y z u : Int) :
    (convert src dst (.slice (some ⟨w.heap.size, 0, none⟩) 4 4)).run P (w.alloc (.cells #[.int .u8 x, .int .u8 y, .int .u8 z, .int .u8 u] e)) = .ok (.string (strNums [x, y, z, u])) (w.alloc (.cells #[.int .u8 x, .int .u8 y, .int .u8 z, .int .u8 u] e)) := by
  refine run_convert_bytes_arg (P := P) (w.alloc (.cells #[.int .u8 x, .int .u8 y, .int .u8 z, .int .u8 u] e)) src e hs he w.heap.size 0 4 4 [x, y, z, u] rfl ?_ dst hd
  intro i hi
  rw [World.cell?_alloc_new, Nat.zero_add]
  match i, hi with
  | 0, _ => rfl
  | 1, _ => rfl
  | 2, _ => rfl
  | 3, _ => rfl
/-- The two bytes of a number. -/
def wordS (n : Int) : ByteArray := strNums [n / 256, n % 256]
theorem wordS_size (n : Int) : (wordS n).size ≤ 2 := by simp [wordS, strNums, ByteArray.size]
/-- The four bytes of a number. -/
def longS (n : Int) : ByteArray := wordS (n / 65536) ++ wordS (n % 65536)
theorem longS_eq (n : Int) : longS n = strNums [n / 16777216, n / 65536 % 256, n / 256 % 256, n % 256] := by
  have h : longS n = strNums [n / 65536 / 256, n / 65536 % 256, n % 65536 / 256, n % 65536 % 256] := by
    apply ByteArray.ext; simp [longS, wordS, strNums]
  rw [h, show n / 65536 / 256 = n / 16777216 by omega, show n % 65536 / 256 = n / 256 % 256 by omega, show n % 65536 % 256 = n % 256 by omega]
end Go.Proofs.Ytekcnebcflpibaa
