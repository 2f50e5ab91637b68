/- Plain facts on numbers and their bytes. No program is in sight. -/
import Derived.Test.YteinnindnijdiaaMemZ
namespace Go.Proofs.Yteinnindnijdiaa
set_option linter.unusedVariables false
open Go.RowKit

theorem foldl_big : ∀ (l : List UInt8) (a : Nat), l.foldl (fun x b => x * 256 + b.toNat) a = a * 256 ^ l.length + bigv l
  | [], a => by simp [bigv]
  | b :: r, a => by
    have h1 := foldl_big r (a * 256 + b.toNat)
    have h2 := foldl_big r (0 * 256 + b.toNat)
    show r.foldl (fun x b => x * 256 + b.toNat) (a * 256 + b.toNat) = a * 256 ^ (r.length + 1) + r.foldl (fun x b => x * 256 + b.toNat) (0 * 256 + b.toNat)
    rw [h1, h2, Nat.pow_succ, Nat.zero_mul, Nat.zero_add, Nat.add_mul, Nat.mul_assoc, Nat.mul_comm 256, Nat.add_assoc]
theorem bigv_cons (b : UInt8) (l : List UInt8) : bigv (b :: l) = b.toNat * 256 ^ l.length + bigv l := by
  rw [bigv, List.foldl_cons, foldl_big, Nat.zero_mul, Nat.zero_add]
theorem bigv_lit (x n : Nat) : bigv (lit x n).reverse = x % 256 ^ n := by
  induction n with
  | zero => simp [lit, bigv, Nat.mod_one]
  | succ n ih =>
    rw [lit_succ, List.reverse_append, List.reverse_singleton, List.singleton_append, bigv_cons, List.length_reverse, lit_len, ih, UInt8.toNat_ofNat', Nat.mod_pow_succ (b := 256) (k := n), Nat.mul_comm, Nat.add_comm]
theorem bigv_inj : ∀ (l m : List UInt8), l.length = m.length → bigv l = bigv m → l = m
  | [], [], _, _ => rfl
  | [], _ :: _, h, _ => by simp at h
  | _ :: _, [], h, _ => by simp at h
  | a :: r, b :: s, h, hv => by
    have hl : r.length = s.length := by simpa using h
    rw [bigv_cons, bigv_cons, hl] at hv
    have h1 := bigv_lt r
    have h2 := bigv_lt s
    rw [hl] at h1
    have hp : 0 < 256 ^ s.length := Nat.pos_of_ne_zero (by simp)
    have e1 : (a.toNat * 256 ^ s.length + bigv r) / 256 ^ s.length = a.toNat := by
      rw [Nat.add_comm, Nat.add_mul_div_right _ _ hp, Nat.div_eq_of_lt h1, Nat.zero_add]
    have e2 : (b.toNat * 256 ^ s.length + bigv s) / 256 ^ s.length = b.toNat := by
      rw [Nat.add_comm, Nat.add_mul_div_right _ _ hp, Nat.div_eq_of_lt h2, Nat.zero_add]
    rw [hv, e2] at e1
    have hab : a = b := UInt8.toNat_inj.1 e1.symm
    subst hab
    have hrs : bigv r = bigv s := by omega
    rw [bigv_inj r s hl hrs]
/-- two numbers have one text just if they are the same modulo 256^n -/
theorem lit_inj (x y n : Nat) : (lit y n == lit x n) = decide (x % 256 ^ n = y % 256 ^ n) := by
  rw [Bool.eq_iff_iff, beq_iff_eq, decide_eq_true_eq]
  constructor
  · intro h
    rw [← bigv_lit, ← bigv_lit, h]
  · intro h
    have := bigv_inj (lit y n).reverse (lit x n).reverse (by rw [List.length_reverse, List.length_reverse, lit_len, lit_len]) (by rw [bigv_lit, bigv_lit, h])
    exact List.reverse_inj.1 this

theorem spl_take (l : List UInt8) (a : Nat) (s : List UInt8) (h : a + s.length ≤ l.length) : (spl l a s).take a = l.take a := by
  have hl : (l.take a).length = a := by rw [List.length_take]; omega
  unfold spl
  rw [List.append_assoc]
  conv => lhs; arg 1; rw [← hl]
  rw [List.take_left]
theorem spl_mid (l : List UInt8) (a : Nat) (s : List UInt8) (h : a + s.length ≤ l.length) : ((spl l a s).drop a).take s.length = s := by
  have hl : (l.take a).length = a := by rw [List.length_take]; omega
  unfold spl
  rw [List.append_assoc]
  conv => lhs; arg 2; arg 1; rw [← hl]
  rw [List.drop_left, List.take_left]
theorem spl_drop (l : List UInt8) (a : Nat) (s : List UInt8) (h : a + s.length ≤ l.length) : (spl l a s).drop (a + s.length) = l.drop (a + s.length) := by
  have hl : (l.take a ++ s).length = a + s.length := by rw [List.length_append, List.length_take]; omega
  unfold spl
  conv => lhs; arg 1; rw [← hl]
  rw [List.drop_left]

/-- what is put is got -/
theorem got_put (l : List UInt8) (a m X : Nat) (h1 : 1 ≤ m) (h8 : m ≤ 8) (h : a + m ≤ l.length) : gotE (putL l a m X) a m = ((X % 256 ^ m : Nat) : Int) := by
  have hE : numE (l.length : Int) a m = 0 := by rw [numE, if_neg (by omega), roomE, if_pos (by omega)]
  have hs : litN (X : Int) (m : Int) = lit X m := by rw [litN, if_pos (by omega)]; rfl
  have hp : putL l a m X = spl l a (lit X m) := by rw [putL, if_pos hE, hs]; rfl
  have hl := lit_len X m
  rw [hp, gotE, spl_len l a _ (by rw [hl]; exact h), if_pos hE]
  have hm := spl_mid l a (lit X m) (by rw [hl]; exact h)
  rw [hl] at hm
  have : (((spl l a (lit X m)).drop (a : Int).toNat).take (m : Int).toNat) = lit X m := hm
  rw [this, bigv_lit]
end Go.Proofs.Yteinnindnijdiaa
