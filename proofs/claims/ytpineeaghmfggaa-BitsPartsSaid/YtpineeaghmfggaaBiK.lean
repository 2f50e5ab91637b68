/- Plain facts on sectors of bits, and loads of 64 rows by name. No walk is in sight. -/
import Derived.Test.YtpineeaghmfggaaBiH
namespace Go.Proofs.Ytpineeaghmfggaa
set_option linter.unusedVariables false
set_option linter.unusedSimpArgs false
set_option maxRecDepth 100000
open Go.RowKit

theorem headN8_len (n : Nat) : (headN n 8).length = 12 := headN_len n 8
theorem bytesV_len (n : Nat) : (bytesV n).length = 64 := by rw [bytesV_rep, List.length_append, headN8_len, List.length_replicate]
theorem bytesV_nz (n : Nat) : ¬ bytesV n = z64 := by
  intro h
  have h2 := congrArg (fun l => l.getD 0 0) h
  have e : z64.getD 0 0 = 0 := by decide
  rw [e] at h2
  exact absurd h2 (by show ¬ (66 : UInt8) = 0; decide)
theorem atB_bytes (n i : Nat) (hi : i < 8) : atB (bytesV n) i = (byN n i).toNat := by
  unfold atB
  have e : (bytesV n).getD (4 + i) 0 = byN n i := by
    rw [bytesV_rep, List.getD_eq_getElem?_getD, List.getElem?_append_left (by rw [headN8_len]; omega)]
    rw [headN, List.getElem?_append_right (by simp)]
    simp [List.getElem?_range hi]
  rw [e]
theorem tb_by (n i k : Nat) (hk : k < 8) : (byN n i).toNat.testBit k = n.testBit (8 * i + k) := by
  have e : (byN n i).toNat = n / 2 ^ (8 * i) % 2 ^ 8 := by simp [byN]
  rw [e, Nat.testBit_mod_two_pow, ← Nat.shiftRight_eq_div_pow, Nat.testBit_shiftRight]
  simp [hk]
theorem rd_bytes (n : Nat) (hn : B64 n) : rdN (bytesV n) 8 = n := by
  refine tb_ext (rdN_b _ 8 (Nat.le_refl _)) hn (fun j hj => ?_)
  rw [tb_rd, bitB, atB_bytes n (j / 8) (by omega), tb_by n (j / 8) (j % 8) (by omega)]
  have e : 8 * (j / 8) + j % 8 = j := by omega
  rw [e]
  simp [hj]
theorem read_bytes (n : Nat) (hn : B64 n) : readV (bytesV n) = (n, 0) := by
  have h := rd_bytes n hn
  rw [readV_ok (bytesV n) (bytesV_nz n) (bytesV_len n) (by rw [h]), h]
theorem readV_b (s : List UInt8) : B64 (readV s).1 := by
  unfold readV
  split
  · unfold B64; decide
  · split
    · unfold B64; decide
    · split
      · exact rdN_b s 8 (Nat.le_refl _)
      · unfold B64; decide
/-- what is read: the bits of the sector; or none, of noughts alone; or it is no sector -/
theorem readV_three (s : List UInt8) : (∃ n, readV s = (n, 0) ∧ bytesV n = s) ∨ (s = z64 ∧ readV s = (0, 0)) ∨ readV s = (0, 8) := by
  by_cases h0 : s = z64
  · right; left; subst h0; exact ⟨rfl, readV_z⟩
  · by_cases h1 : s.length = 64
    · by_cases h2 : bytesV (rdN s 8) = s
      · left; exact ⟨_, readV_ok s h0 h1 h2, h2⟩
      · right; right; exact readV_bad s h0 h1 h2
    · right; right; exact readV_len s h0 h1

/-- the load of a whole array, under a name of its own -/
noncomputable def Ld (ty : TypeId) (v : Value) : Sem Value := Instr.loadAt ty v
theorem ld_rw (v : Value) : Instr.loadAt 30 v = Ld 30 v := rfl
theorem Blk.ld {w : World} {b : Nat} {e : TypeId} {n : Nat} (h : Blk w b e (rwC n)) : (Ld 30 (.pointer (some ⟨b, 0, none⟩))).run Try.prog w = .ok (.agg (rwC n)) w := by
  have hr := h.range
  unfold Ld
  have hl := run_loadVar_mid (P := Try.prog) w b 0 30 (rwC n).toList _ hr Try.underlying30 rfl (by rw [Array.length_toList, rwC_size]; exact size_rows)
  simp only [Array.toArray_toList] at hl
  simp only [Instr.loadAt, Instr.sureAddr, Sem.run_bind, Sem.run_pure, Result.andThen_ok, hl]
theorem rw_cell {w : World} {b : Nat} {e : TypeId} {n i : Nat} {v : Bool} (h : Blk w b e (rwC n)) (hi : i < 64) (hv : n.testBit i = v) : w.cell? ⟨b, i, none⟩ = some (.bool v) := by
  rw [h.cell, rwC_get n i hi, hv]
theorem an_zero (n : Nat) (h : B64 n) : anN n 0 = n := tb_ext (an_b 0 h) h (fun i hi => by rw [tb_an n 0 i (by unfold B64; decide) hi, Nat.zero_testBit]; simp)
theorem row_out (r : Int) (h : ¬ (0 ≤ r ∧ r < 64)) : rowN r = 0 := by
  unfold rowN
  rw [if_pos (by omega)]
theorem rowsN_max (n : Nat) : (rowsN n).length ≤ maxLen := by
  have h := rowsK_le n 64
  rw [rowsK_all] at h
  unfold maxLen
  omega
end Go.Proofs.Ytpineeaghmfggaa
