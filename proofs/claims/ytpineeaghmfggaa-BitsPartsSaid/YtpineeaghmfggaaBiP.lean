/- Plain facts for rows of bits: numbers of 64 bits. No walk is in sight. -/
import Derived.Test.YtpineeaghmfggaaBiO
import Derived.Laws.BitsAllLaws
namespace Go.Proofs.Ytpineeaghmfggaa
set_option linter.unusedVariables false

/-- a row's bit; 0: it is none -/
def rowN (r : Int) : Nat := if r < 0 ∨ 64 ≤ r then 0 else 2 ^ r.toNat
/-- n without m -/
def anN (n m : Nat) : Nat := n &&& (18446744073709551615 - m)
def B64 (n : Nat) : Prop := n < 18446744073709551616
theorem b64_pow (n : Nat) : B64 n ↔ n < 2 ^ 64 := Iff.rfl

theorem rowN_b (r : Int) : B64 (rowN r) := by
  unfold rowN B64
  split
  · omega
  · have : r.toNat ≤ 63 := by omega
    have := Nat.pow_le_pow_right (n := 2) (by omega) this
    omega
theorem or_b {n m : Nat} (h : B64 n) (k : B64 m) : B64 (n ||| m) := Nat.or_lt_two_pow (n := 64) h k
theorem an_b {n : Nat} (m : Nat) (h : B64 n) : B64 (anN n m) := Nat.lt_of_le_of_lt Nat.and_le_left h
theorem and_b {n : Nat} (m : Nat) (h : B64 n) : B64 (n &&& m) := Nat.lt_of_le_of_lt Nat.and_le_left h

theorem tb_row (r : Int) (i : Nat) (hi : i < 64) : (rowN r).testBit i = (r == (i : Int)) := by
  unfold rowN
  split
  · rename_i h
    rw [Nat.zero_testBit]
    exact (beq_eq_false_iff_ne.2 (by omega)).symm
  · rw [Nat.testBit_two_pow, Bool.eq_iff_iff, decide_eq_true_iff, beq_iff_eq]; omega
theorem tb_an (n m i : Nat) (hm : B64 m) (hi : i < 64) : (anN n m).testBit i = (n.testBit i && !m.testBit i) := by
  have e : 18446744073709551615 - m = 2 ^ 64 - (m + 1) := by unfold B64 at hm; omega
  rw [anN, Nat.testBit_and, e, Nat.testBit_two_pow_sub_succ hm]
  simp [hi]
theorem tb_ext {n m : Nat} (h : B64 n) (k : B64 m) (hb : ∀ i, i < 64 → n.testBit i = m.testBit i) : n = m := by
  apply Nat.eq_of_testBit_eq
  intro i
  by_cases hi : i < 64
  · exact hb i hi
  · have hp : 2 ^ 64 ≤ 2 ^ i := Nat.pow_le_pow_right (by omega) (by omega)
    rw [Nat.testBit_lt_two_pow (Nat.lt_of_lt_of_le h hp), Nat.testBit_lt_two_pow (Nat.lt_of_lt_of_le k hp)]

/-- is a row set? -/
def hasN (n : Nat) (r : Int) : Bool := (((n &&& rowN r : Nat) : Int) != 0)
theorem has_row (n : Nat) (i : Nat) (hi : i < 64) : hasN n (i : Int) = n.testBit i := by
  have e : rowN (i : Int) = 2 ^ i := by unfold rowN; rw [if_neg (by omega), Int.toNat_natCast]
  rw [hasN, e]
  have hj : ∀ j, (n &&& 2 ^ i).testBit j = (n.testBit j && decide (i = j)) := fun j => by rw [Nat.testBit_and, Nat.testBit_two_pow]
  cases hb : n.testBit i
  · have h0 : n &&& 2 ^ i = 0 := by
      apply Nat.eq_of_testBit_eq
      intro j
      rw [hj, Nat.zero_testBit]
      by_cases h : i = j
      · rw [← h, hb]; rfl
      · simp [h]
    rw [h0]; rfl
  · have h1 : n &&& 2 ^ i ≠ 0 := by
      intro h
      have := hj i
      rw [h, Nat.zero_testBit, hb] at this
      simp at this
    rw [bne_iff_ne]
    omega
theorem has_none (n : Nat) (r : Int) (h : r < 0 ∨ 64 ≤ r) : hasN n r = false := by
  have e : rowN r = 0 := by unfold rowN; rw [if_pos h]
  rw [hasN, e]; simp

/-- some rows -/
def ofN (L : List Int) : Nat := L.foldl (fun b r => b ||| rowN r) 0
theorem fold_b : ∀ (L : List Int) (c : Nat), B64 c → B64 (L.foldl (fun b r => b ||| rowN r) c)
  | [], c, h => h
  | r :: L, c, h => fold_b L _ (or_b h (rowN_b r))
theorem of_b (L : List Int) : B64 (ofN L) := fold_b L 0 (by unfold B64; omega)
theorem tb_fold : ∀ (L : List Int) (c i : Nat), i < 64 → (L.foldl (fun b r => b ||| rowN r) c).testBit i = (c.testBit i || L.any (· == (i : Int)))
  | [], c, i, _ => by simp
  | r :: L, c, i, hi => by
    rw [List.foldl_cons, tb_fold L _ i hi, Nat.testBit_or, tb_row r i hi, List.any_cons, Bool.or_assoc]
theorem tb_of (L : List Int) (i : Nat) (hi : i < 64) : (ofN L).testBit i = L.any (· == (i : Int)) := by
  rw [ofN, tb_fold L 0 i hi, Nat.zero_testBit, Bool.false_or]
theorem of_snoc (L : List Int) (r : Int) : ofN (L ++ [r]) = ofN L ||| rowN r := by simp [ofN]

/-- the rows that are set -/
def rowsN (n : Nat) : List Int := List.map (fun (i : Nat) => (i : Int)) ((List.range 64).filter (fun i => n.testBit i))
theorem of_rows (n : Nat) (h : B64 n) : ofN (rowsN n) = n := by
  refine tb_ext (of_b _) h (fun i hi => ?_)
  rw [tb_of _ i hi, Bool.eq_iff_iff, List.any_eq_true]
  simp only [rowsN, List.mem_map, List.mem_filter, List.mem_range]
  constructor
  · rintro ⟨x, ⟨j, ⟨_, hj⟩, rfl⟩, he⟩
    have : j = i := by have := beq_iff_eq.1 he; omega
    rw [← this]; exact hj
  · intro hb
    exact ⟨(i : Int), ⟨i, ⟨hi, hb⟩, rfl⟩, by simp⟩
/-- how many of the first k bits are set, counted -/
theorem pcn_range : ∀ (k n : Nat), pcn k n = ((List.range k).filter (fun i => n.testBit i)).length
  | 0, _ => rfl
  | k + 1, n => by
    rw [pcn, pcn_range k (n / 2), List.range_succ_eq_map, List.filter_cons, List.filter_map, Nat.testBit_zero]
    have e : ((fun i => n.testBit i) ∘ Nat.succ) = (fun i => (n / 2).testBit i) := by
      funext i
      show n.testBit (i + 1) = _
      rw [Nat.testBit_succ]
    rw [e]
    by_cases hb : n % 2 = 1
    · simp [hb]; omega
    · have : n % 2 = 0 := by omega
      simp [this]
theorem rows_len (n : Nat) : (rowsN n).length = pcn 64 n := by rw [rowsN, List.length_map, pcn_range]
end Go.Proofs.Ytpineeaghmfggaa
