/- Plain facts for parity: texts that are xored, byte by byte. No walk is in sight. -/
import Derived.Test.YtlocjjaipahhoaaBase
namespace Go.Proofs.Ytlocjjaipahhoaa
set_option linter.unusedVariables false
open Go.RowKit

def xorL (a b : List UInt8) : List UInt8 := List.zipWith (fun x y => x ^^^ y) a b
def z64 : List UInt8 := List.replicate 64 0
def paOk (l : List (List UInt8)) : Bool := l.all (fun s => s.length == 64)
def paS (l : List (List UInt8)) : List UInt8 := l.foldl xorL z64
/-- the sum of texts, or that one is no sector -/
def paV (l : List (List UInt8)) : List UInt8 × Int := if paOk l then (paS l, 0) else ([], 1)

theorem xorL_len (a b : List UInt8) (h : a.length = b.length) : (xorL a b).length = a.length := by
  rw [xorL, List.length_zipWith]; omega
theorem xorL_get (a b : List UInt8) (k : Nat) (ha : k < a.length) (hb : k < b.length) : (xorL a b)[k]? = some (a[k] ^^^ b[k]) := by
  rw [xorL, List.getElem?_zipWith, List.getElem?_eq_getElem ha, List.getElem?_eq_getElem hb]
def mix (a b : List UInt8) (k : Nat) : List UInt8 := (xorL a b).take k ++ a.drop k
theorem mix_len (a b : List UInt8) (k : Nat) (h : a.length = b.length) (hk : k ≤ a.length) : (mix a b k).length = a.length := by
  rw [mix, List.length_append, List.length_take, List.length_drop, xorL_len a b h]; omega
theorem mix_zero (a b : List UInt8) : mix a b 0 = a := by simp [mix]
theorem mix_all (a b : List UInt8) (k : Nat) (h : a.length = b.length) (hk : a.length ≤ k) : mix a b k = xorL a b := by
  rw [mix, List.drop_eq_nil_of_le hk, List.append_nil, List.take_of_length_le (by rw [xorL_len a b h]; exact hk)]
theorem mix_get (a b : List UInt8) (k : Nat) (h : a.length = b.length) (hk : k < a.length) : (mix a b k)[k]? = some a[k] := by
  have hx := xorL_len a b h
  rw [mix, List.getElem?_append_right (by rw [List.length_take]; omega), List.length_take, List.getElem?_drop]
  have e : k + (k - min k (xorL a b).length) = k := by omega
  rw [e, List.getElem?_eq_getElem hk]
theorem mix_step (a b : List UInt8) (k : Nat) (h : a.length = b.length) (hk : k < a.length) : (mix a b k).set k (a[k] ^^^ b[k]'(by omega)) = mix a b (k + 1) := by
  have hx := xorL_len a b h
  apply List.ext_getElem?
  intro j
  rw [List.getElem?_set]
  have hl : (mix a b k).length = a.length := mix_len a b k h (by omega)
  by_cases hj : k = j
  · subst hj
    rw [if_pos rfl, if_pos (by omega), mix, List.getElem?_append_left (by rw [List.length_take]; omega), List.getElem?_take, if_pos (by omega), xorL_get a b k hk (by omega)]
  · rw [if_neg hj, mix, mix]
    by_cases hlt : j < k
    · rw [List.getElem?_append_left (by rw [List.length_take]; omega), List.getElem?_append_left (by rw [List.length_take]; omega), List.getElem?_take, List.getElem?_take, if_pos hlt, if_pos (by omega)]
    · rw [List.getElem?_append_right (by rw [List.length_take]; omega), List.getElem?_append_right (by rw [List.length_take]; omega), List.getElem?_drop, List.getElem?_drop, List.length_take, List.length_take]
      congr 1
      omega

theorem xor_u8 (a b : UInt8) : bits .xor .u8 (a.toNat : Int) (b.toNat : Int) = ((a ^^^ b).toNat : Int) := by
  have ha := a.toNat_lt
  have hb := b.toNat_lt
  have e1 : (BitVec.ofInt 8 (a.toNat : Int)).toNat = a.toNat := by rw [BitVec.ofInt_natCast, BitVec.toNat_ofNat]; omega
  have e2 : (BitVec.ofInt 8 (b.toNat : Int)).toNat = b.toNat := by rw [BitVec.ofInt_natCast, BitVec.toNat_ofNat]; omega
  have hc := (a ^^^ b).toNat_lt
  show IntKind.u8.wrap ((BitVec.ofInt 8 (a.toNat : Int) ^^^ BitVec.ofInt 8 (b.toNat : Int)).toNat : Int) = _
  rw [BitVec.toNat_xor, e1, e2, ← UInt8.toNat_xor]
  generalize (a ^^^ b).toNat = m at hc ⊢
  simp [IntKind.wrap, IntKind.bits, IntKind.signed]
  omega

theorem paS_snoc (l : List (List UInt8)) (s : List UInt8) : paS (l ++ [s]) = xorL (paS l) s := by simp [paS]
theorem paS_len : ∀ (l : List (List UInt8)) (c : List UInt8), c.length = 64 → (∀ s ∈ l, s.length = 64) → (l.foldl xorL c).length = 64
  | [], c, hc, _ => hc
  | s :: r, c, hc, h => paS_len r _ (by rw [xorL_len c s (by rw [hc, h s (by simp)])]; exact hc) (fun x hx => h x (by simp [hx]))
theorem paOk_mem {l : List (List UInt8)} (h : paOk l = true) : ∀ s ∈ l, s.length = 64 := by
  intro s hs
  have := List.all_eq_true.1 h s hs
  simpa using this
end Go.Proofs.Ytlocjjaipahhoaa
