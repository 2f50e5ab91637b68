/- What six sectors are read as: plain facts. No walk is in sight. -/
import Derived.Test.YtccbohjcbhibkaaJnE
namespace Go.Proofs.Ytccbohjcbhibkaa
set_option linter.unusedVariables false
set_option linter.unusedSimpArgs false
open Go.RowKit

theorem bit_val (x m : Nat) : ((((x / 2 ^ m % 2 : Nat) : Int)) == 1) = x.testBit m := by
  rw [← Nat.shiftRight_eq_div_pow, Nat.testBit, Nat.and_comm, Nat.and_one_is_mod]
  rcases Nat.mod_two_eq_zero_or_one (x >>> m) with h | h <;> rw [h] <;> rfl
theorem i64_and_one (a : Nat) (ha : a < 4611686018427387904) : bits .and .i64 (a : Int) 1 = ((a % 2 : Nat) : Int) := by
  have e1 : (BitVec.ofInt 64 (a : Int)).toNat = a := by rw [BitVec.ofInt_natCast, BitVec.toNat_ofNat]; omega
  have e2 : (BitVec.ofInt 64 1).toNat = 1 := by decide
  show IntKind.i64.wrap ((BitVec.ofInt 64 (a : Int) &&& BitVec.ofInt 64 1).toNat : Int) = _
  rw [BitVec.toNat_and, e1, e2, Nat.and_one_is_mod]
  exact IntWalk.i64_in _ ⟨by omega, by omega⟩
/-- the mask in a head -/
def slM (P : Nat → List UInt8) : Nat := nmA (P 0) 20
theorem slM_lt (P : Nat → List UInt8) : slM P < 4294967296 := nm4_lt _ _ _ _
def selD (P : Nat → List UInt8) (k j : Nat) : List UInt8 := if j < k ∧ (slM P).testBit j = true then P (1 + j) else []
/-- the record of a head, with the first k members that it has -/
def slK (P : Nat → List UInt8) (k : Nat) : Rc := ⟨nmA (P 0) 8, nmA (P 0) 12, nmA (P 0) 16, selD P k 0, selD P k 1, selD P k 2, selD P k 3⟩
def slR (P : Nat → List UInt8) : Rc := slK P 4
theorem slK_yes (P : Nat → List UInt8) (k : Nat) (hk : k < 4) (h : (slM P).testBit k = true) : (rcC (slK P k)).setIfInBounds (3 + k) (sv (P (1 + k))) = rcC (slK P (k + 1)) := by
  obtain rfl | rfl | rfl | rfl : k = 0 ∨ k = 1 ∨ k = 2 ∨ k = 3 := by omega
  all_goals simp [rcC, slK, selD, h]
theorem slK_no (P : Nat → List UInt8) (k : Nat) (hk : k < 4) (h : (slM P).testBit k = false) : slK P (k + 1) = slK P k := by
  obtain rfl | rfl | rfl | rfl : k = 0 ∨ k = 1 ∨ k = 2 ∨ k = 3 := by omega
  all_goals simp [slK, selD, h]
theorem slK_zero (P : Nat → List UInt8) : rcC (slK P 0) = #[.int .i64 (nmA (P 0) 8 : Int), .int .i64 (nmA (P 0) 12 : Int), .int .i64 (nmA (P 0) 16 : Int), sv [], sv [], sv [], sv []] := by
  simp [rcC, slK, selD]
theorem slR_data (P : Nat → List UInt8) (hP : ∀ j, j < 6 → (P j).length = 64) : Data (slR P) := by
  intro k
  have e : ∀ j, j < 4 → (selD P 4 j).length ≤ maxLen := by
    intro j hj
    unfold selD
    split
    · rw [hP (1 + j) (by omega)]; decide
    · decide
  unfold slR slK dk
  split
  · exact e 0 (by decide)
  · exact e 1 (by decide)
  · exact e 2 (by decide)
  · exact e 3 (by decide)
def rc0 : Rc := ⟨0, 0, 0, [], [], [], []⟩
/-- are six sectors a record's, of an array and an epoch? -/
def slOk (arr ep : Int) (P : Nat → List UInt8) : Bool :=
  okA arr && (rightB (slR P) && ((secV mgH arr (slR P) == P 0) && ((P 5 == secV mgC arr (slR P)) && ((slR P).ep == ep))))
def slRc (arr ep : Int) (P : Nat → List UInt8) : Rc := if slOk arr ep P then slR P else rc0
theorem slot_may (arr ep : Int) (P : Nat → List UInt8) (h : ¬ (mayV mgH arr (slR P)).2 = 0) : slOk arr ep P = false := by
  unfold mayV at h
  unfold slOk
  cases h1 : okA arr
  · rfl
  · cases h2 : rightB (slR P)
    · rfl
    · rw [h1, h2] at h; exact absurd rfl h
theorem slot_two (arr : Int) (P : Nat → List UInt8) (h : (mayV mgH arr (slR P)).2 = 0) : okA arr = true ∧ rightB (slR P) = true ∧ (mayV mgH arr (slR P)).1 = secV mgH arr (slR P) := by
  unfold mayV at h ⊢
  cases h1 : okA arr
  · rw [h1] at h; cases h
  · cases h2 : rightB (slR P)
    · rw [h1, h2] at h; cases h
    · exact ⟨rfl, rfl, rfl⟩
theorem slot_head (arr ep : Int) (P : Nat → List UInt8) (h : (mayV mgH arr (slR P)).2 = 0) (hh : ¬ (mayV mgH arr (slR P)).1 = P 0) : slOk arr ep P = false := by
  obtain ⟨h1, h2, h3⟩ := slot_two arr P h
  unfold slOk
  rw [h1, h2, ← h3, beq_eq_false_iff_ne.2 hh]; rfl
theorem slot_commit (arr ep : Int) (P : Nat → List UInt8) (h : (mayV mgH arr (slR P)).2 = 0) (hc : ¬ P 5 = secV mgC arr (slR P)) : slOk arr ep P = false := by
  obtain ⟨h1, h2, h3⟩ := slot_two arr P h
  unfold slOk
  rw [h1, h2, beq_eq_false_iff_ne.2 hc]; simp
theorem slot_epoch (arr ep : Int) (P : Nat → List UInt8) (he : ¬ (slR P).ep = ep) : slOk arr ep P = false := by
  unfold slOk
  rw [beq_eq_false_iff_ne.2 he]; simp
theorem slot_ok (arr ep : Int) (P : Nat → List UInt8) (h : (mayV mgH arr (slR P)).2 = 0) (hh : (mayV mgH arr (slR P)).1 = P 0) (hc : P 5 = secV mgC arr (slR P)) (he : (slR P).ep = ep) : slOk arr ep P = true := by
  obtain ⟨h1, h2, h3⟩ := slot_two arr P h
  unfold slOk
  rw [h1, h2, ← h3, beq_iff_eq.2 hh, beq_iff_eq.2 hc, beq_iff_eq.2 he]; rfl
theorem slRc_no {arr ep : Int} {P : Nat → List UInt8} (h : slOk arr ep P = false) : slRc arr ep P = rc0 := by unfold slRc; rw [h]; rfl
theorem slRc_yes {arr ep : Int} {P : Nat → List UInt8} (h : slOk arr ep P = true) : slRc arr ep P = slR P := by unfold slRc; rw [h]; rfl
end Go.Proofs.Ytccbohjcbhibkaa
