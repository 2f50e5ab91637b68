/- Plain arithmetic on lists of bytes and numbers. No program is in sight. -/
import Derived.Test.YticchchcobjpdaaBase
namespace Go.Proofs.Yticchchcobjpdaa
set_option linter.unusedVariables false
open Go.RowKit

/-- the number of bytes, the highest one first -/
def bigv (l : List UInt8) : Nat := l.foldl (fun x b => x * 256 + b.toNat) 0

theorem bigv_snoc (l : List UInt8) (b : UInt8) : bigv (l ++ [b]) = bigv l * 256 + b.toNat := by simp [bigv, List.foldl_append]

theorem snoc_ind {p : List UInt8 → Prop} (nil : p []) (snoc : ∀ l b, p l → p (l ++ [b])) (l : List UInt8) : p l := by
  have h : ∀ r : List UInt8, p r.reverse := by
    intro r
    induction r with
    | nil => simpa using nil
    | cons a r ih => simpa using snoc _ a ih
  simpa using h l.reverse

theorem bigv_lt (l : List UInt8) : bigv l < 256 ^ l.length := by
  induction l using snoc_ind with
  | nil => simp [bigv]
  | snoc l b ih =>
    rw [bigv_snoc, List.length_append, List.length_singleton, Nat.pow_succ]
    have := b.toNat_lt
    omega

theorem take_snoc (l : List UInt8) (k : Nat) (h : k < l.length) : l.take (k + 1) = l.take k ++ [l[k]] := by
  rw [List.take_succ_eq_append_getElem h]

theorem bigv_step (l : List UInt8) (k : Nat) (h : k < l.length) : bigv (l.take (k + 1)) = bigv (l.take k) * 256 + l[k].toNat := by
  rw [take_snoc l k h, bigv_snoc]

theorem pow_le8 (k : Nat) (h : k ≤ 8) : 256 ^ k ≤ 18446744073709551616 := by
  have := Nat.pow_le_pow_right (n := 256) (by omega) h
  simpa using this
theorem pow_le7 (k : Nat) (h : k ≤ 7) : 256 ^ k ≤ 72057594037927936 := by
  have := Nat.pow_le_pow_right (n := 256) (by omega) h
  simpa using this

theorem bigv_take_lt (l : List UInt8) (k : Nat) (hk : k < 8) : bigv (l.take k) < 72057594037927936 := by
  have h1 := bigv_lt (l.take k)
  have h2 : (l.take k).length ≤ k := List.length_take_le _ _
  have h3 := pow_le7 (l.take k).length (by omega)
  omega

theorem bigv_lt8 (l : List UInt8) (h : l.length ≤ 8) : bigv l < 18446744073709551616 := by
  have h1 := bigv_lt l
  have h3 := pow_le8 l.length h
  omega

/-- 'x<<8 | b' -/
theorem or_step (x b : Nat) (hx : x < 72057594037927936) (hb : b < 256) :
    bits .or .u64 (IntKind.u64.wrap ((x : Int) * 256)) (IntKind.u64.wrap (b : Int)) = ((x * 256 + b : Nat) : Int) := by
  rw [IntWalk.u64_in _ (by omega), IntWalk.u64_in _ (by omega)]
  rw [show ((x : Int) * 256) = ((x * 256 : Nat) : Int) by omega]
  rw [u64_or_nat _ _ (by omega) (by omega)]
  rw [nat_join 8 (x * 256) b (by omega) (by omega)]

/-- 'x*256 + b' -/
theorem mul_step (x b : Nat) (hx : x < 72057594037927936) (hb : b < 256) :
    IntKind.u64.wrap (IntKind.u64.wrap ((x : Int) * 256) + IntKind.u64.wrap (b : Int)) = ((x * 256 + b : Nat) : Int) := by
  rw [IntWalk.u64_in (b : Int) (by omega), IntWalk.u64_in ((x : Int) * 256) (by omega), IntWalk.u64_in _ (by omega)]
  omega

/-- a number's bytes, the lowest one first -/
def lit (x n : Nat) : List UInt8 := (List.range n).map fun i => UInt8.ofNat (x / 256 ^ i)
theorem lit_len (x n : Nat) : (lit x n).length = n := by simp [lit]
theorem lit_succ (x n : Nat) : lit x (n + 1) = lit x n ++ [UInt8.ofNat (x / 256 ^ n)] := by simp [lit, List.range_succ]

/-- 'byte(x >> (8 * i))' -/
theorem shr_step (x k : Nat) : (x : Int) / 2 ^ (8 * k) % 256 = ((UInt8.ofNat (x / 256 ^ k)).toNat : Int) := by
  have h : ((2 : Int) ^ (8 * k)) = ((256 ^ k : Nat) : Int) := by
    rw [Int.pow_mul]; simp
  rw [h, ← Int.natCast_ediv, UInt8.toNat_ofNat']
  omega

/-- a number without its k lowest bytes -/
def sh (x k : Nat) : Nat := x / 256 ^ k
theorem sh_zero (x : Nat) : sh x 0 = x := by simp [sh]
theorem sh_succ (x k : Nat) : sh x (k + 1) = sh x k / 256 := by simp [sh, Nat.pow_succ, Nat.div_div_eq_div_mul]
theorem sh_lt (x k : Nat) (h : x < 18446744073709551616) : sh x k < 18446744073709551616 := Nat.lt_of_le_of_lt (Nat.div_le_self _ _) h
theorem lit_snoc (x n : Nat) : lit x (n + 1) = lit x n ++ [UInt8.ofNat (sh x n)] := lit_succ x n

theorem mod256 (n : Nat) : (n : Int) % 256 = ((UInt8.ofNat n).toNat : Int) := by rw [UInt8.toNat_ofNat']; omega

theorem div256 (n : Nat) (h : n < 65536) : (n : Int) / 256 = ((UInt8.ofNat (n / 256)).toNat : Int) := by rw [UInt8.toNat_ofNat']; omega
theorem lit_two (n : Nat) : (lit n 2).reverse = [UInt8.ofNat (n / 256), UInt8.ofNat n] := by
  simp [lit, List.range_succ]

/-- a text's byte at a place -/
def bat (s : ByteArray) (i : Nat) : UInt8 := s.data.toList.getD i 0

theorem size_list (s : ByteArray) : s.data.toList.length = s.size := by simp

theorem take_from (s : ByteArray) (a n : Nat) (h : a + n ≤ s.size) : (s.data.toList.drop a).take n = (List.range n).map fun i => bat s (a + i) := by
  apply List.ext_getElem
  · rw [List.length_take, List.length_drop, size_list]; simp; omega
  · intro i h1 h2
    have hi : i < n := by simpa using h2
    have : a + i < s.data.toList.length := by rw [size_list]; omega
    simp only [List.getElem_take, List.getElem_drop, List.getElem_map, List.getElem_range, bat]
    rw [List.getD_eq_getElem?_getD, List.getElem?_eq_getElem this]
    rfl

theorem bat_get (s : ByteArray) (i : Nat) (h : i < s.size) : s[i] = bat s i := by
  have : i < s.data.toList.length := by rw [size_list]; exact h
  unfold bat
  rw [List.getD_eq_getElem?_getD, List.getElem?_eq_getElem this]
  rfl

end Go.Proofs.Yticchchcobjpdaa
