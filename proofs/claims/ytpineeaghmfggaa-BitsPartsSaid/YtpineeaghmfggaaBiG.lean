/- The reference of package bits: Bytes. Condition: numbers of 64 bits. -/
import Derived.Test.YtpineeaghmfggaaBiF
namespace Go.Proofs.Ytpineeaghmfggaa
set_option linter.unusedVariables false
set_option linter.unusedSimpArgs false
set_option maxRecDepth 100000
open Go.RowKit
attribute [local go_sem ↓] Go.wp_at_zero Go.wp_at_succ

/-- byte i of a number without its k small bits -/
def hrN (n i k : Nat) : Nat := n / 2 ^ (8 * i) % 256 / 2 ^ k
theorem hr_top (n i : Nat) : hrN n i 8 = 0 := by unfold hrN; exact Nat.div_eq_of_lt (Nat.mod_lt _ (by decide))
theorem hr_low (n i k : Nat) (hk : k < 8) : hrN n i (k + 1) < 128 := by
  unfold hrN
  have h := Nat.mod_lt (n / 2 ^ (8 * i)) (show 0 < 256 by decide)
  rw [Nat.pow_succ', ← Nat.div_div_eq_div_mul]
  have : n / 2 ^ (8 * i) % 256 / 2 < 128 := by omega
  exact Nat.lt_of_le_of_lt (Nat.div_le_self _ _) this
theorem hr_bit (n i k : Nat) (hk : k < 8) : hrN n i k = hrN n i (k + 1) * 2 + (if n.testBit (8 * i + k) then 1 else 0) := by
  have e1 : hrN n i (k + 1) = hrN n i k / 2 := by
    unfold hrN
    rw [Nat.pow_succ, ← Nat.div_div_eq_div_mul]
  have e2 : (hrN n i k).testBit 0 = n.testBit (8 * i + k) := by
    unfold hrN
    rw [← Nat.shiftRight_eq_div_pow, Nat.testBit_shiftRight, show (256 : Nat) = 2 ^ 8 from rfl, Nat.testBit_mod_two_pow, ← Nat.shiftRight_eq_div_pow, Nat.testBit_shiftRight]
    simp [hk]
  rw [Nat.testBit_zero] at e2
  rw [e1, ← e2]
  by_cases h : hrN n i k % 2 = 1
  · simp [h]; omega
  · have : hrN n i k % 2 = 0 := by omega
    simp [this]; omega
theorem hr_end (n i : Nat) : hrN n i 0 = (byN n i).toNat := by
  unfold hrN byN
  rw [Nat.pow_zero, Nat.div_one]
  simp
def strLn : Value → Nat
  | .string s => s.size
  | _ => 0
theorem bytesV_rep (n : Nat) : bytesV n = headN n 8 ++ List.replicate 52 0 := rfl
theorem rep_next (X : List UInt8) (j : Nat) : X ++ List.replicate (j + 1) 0 = (X ++ List.replicate j 0) ++ [(0 : UInt8)] := by
  rw [List.replicate_succ', List.append_assoc]

set_option maxHeartbeats 2000000 in
theorem refBytes_any (n : Nat) (w : World) : Calls Try.prog 19 #[.agg (rwC n)] w fun e w' => e = .returned (.string ⟨(bytesV n).toArray⟩) ∧ Below w.heap.size w w' := by
  go_enter Try.func19, Try.ntmps19
  go_upto_region 2 with fail
  have HK0 := Lib.hid (Blk.new w 30 (rwC n) 0 0 (Or.inl (Nat.le_refl _)))
  have HB0 := Lib.hid ((Below.refl _ w).alloc (Nat.le_refl _) (.cells (rwC n) 30))
  generalize World.alloc _ _ = w1 at HK0 HB0 ⊢
  go_wp2
  go_loopw [4, 3] (fun i v wr => ∃ k : Nat, k ≤ 8 ∧ i = .int .i64 k ∧ v = .string ⟨(headN n k).toArray⟩ ∧ Blk wr w.heap.size 30 (rwC n) ∧ Below w.heap.size w wr) (fun i _ _ => 8 - (intOf i).toNat)
  case atStart => exact ⟨0, by omega, rfl, rfl, HK0.out, HB0.out⟩
  case round =>
    obtain ⟨i, hi, rfl, rfl, hbk, hbel⟩ := hrel
    have HK := Lib.hid hbk
    have HB := Lib.hid hbel
    clear HK0 HB0 hbk hbel
    by_cases hlt : i < 8
    · have hlt' : (i : Int) < 8 := by omega
      obtain ⟨wo, rfl⟩ : ∃ wo : World, wo = wr := ⟨_, rfl⟩
      go_wp2
      go_loopw [6, 5] (fun j v wr => ∃ k : Nat, k ≤ 8 ∧ j = .int .i64 ((k : Int) - 1) ∧ v = .int .u8 (hrN n i k : Int) ∧ wr = wo) (fun j _ _ => (intOf j + 1).toNat)
      case atStart => exact ⟨8, by omega, rfl, by rw [hr_top]; rfl, rfl⟩
      case round =>
        obtain ⟨k, hk, rfl, rfl, rfl⟩ := hrel
        rcases k with _ | k
        · have hone := run_one Try.prog wr 39 9 5 (byN n i) (hrN n i 0 : Int) (by rw [hr_end]) Try.underlying39 Try.underlying5 Try.underlying9
          have hm1 : (((0 : Nat) : Int) - 1) = -1 := rfl
          rw [hm1]
          have HN := Lib.hid (headN_next n i)
          have hlen := headN_len n i
          have hsum : ¬ 9223372036854775807 < (headN n i).length + 1 := by rw [hlen]; omega
          have HK2 := Lib.hid (HK.out.alloc (.cells #[.int .u8 (hrN n i 0 : Int)] 5))
          have HB2 := Lib.hid (HB.out.alloc (by have := HK.out.lt; omega) (.cells #[.int .u8 (hrN n i 0 : Int)] 5))
          clear hm1 hlen
          generalize hrN n i 0 = a at hone HK2 HB2 ⊢
          generalize byN n i = x at hone HN
          generalize headN n i = X at hsum HN ⊢
          go_wp2
          go_roundw
          case rel => exact ⟨i + 1, by omega, by go_num, by rw [HN.out, str_snoc], HK2.out, HB2.out⟩
          case measure => simp [intOf] <;> omega
        · have hk8 : k < 8 := by omega
          have e6 : ((k + 1 : Nat) : Int) - 1 = (k : Int) := by omega
          rw [e6]
          have hb := hr_bit n i k hk8
          have hl := hr_low n i k hk8
          have HBIT := Lib.hid hb
          have hc := HK.out.cell (8 * i + k)
          rw [rwC_get n _ (by omega)] at hc
          clear hb
          generalize hrN n i (k + 1) = a at hl HBIT ⊢
          have hw1 : IntKind.u8.wrap ((a : Int) * 2) = (a : Int) * 2 := IntWalk.u8_in _ ⟨by omega, by omega⟩
          have hw2 : IntKind.u8.wrap ((a : Int) * 2 + 1) = (a : Int) * 2 + 1 := IntWalk.u8_in _ ⟨by omega, by omega⟩
          have hk0 : (0 : Int) ≤ (k : Int) := by omega
          have hix : 8 * (i : Int) + (k : Int) < 64 := by omega
          have hix0 : 0 ≤ 8 * (i : Int) + (k : Int) := by omega
          have hix1 : (8 * (i : Int) + (k : Int)).toNat = 8 * i + k := by omega
          have ha7 : (a : Int) ≤ 127 := by omega
          cases hbit : n.testBit (8 * i + k)
          · rw [hbit] at hc
            have HE : Hid (hrN n i k = a * 2) := by have h := HBIT.out; rw [hbit] at h; exact h
            clear HBIT hbit
            go_wp2
            go_roundw
            case rel => exact ⟨k, by omega, by go_num, by rw [HE.out]; simp, by trivial⟩
            case measure => simp [intOf] <;> omega
          · rw [hbit] at hc
            have HE : Hid (hrN n i k = a * 2 + 1) := by have h := HBIT.out; rw [hbit] at h; exact h
            clear HBIT hbit
            go_wp2
            go_roundw
            case rel => exact ⟨k, by omega, by go_num, by rw [HE.out]; simp, by trivial⟩
            case measure => simp [intOf] <;> omega
    · have h8 : i = 8 := by omega
      subst h8
      have hlen := headN_len n 8
      have HV := Lib.hid (bytesV_rep n)
      generalize headN n 8 = X at hlen HV ⊢
      go_wp2
      go_loopw [3] (fun v w2 => ∃ j : Nat, j ≤ 52 ∧ v = .string ⟨(X ++ List.replicate j 0).toArray⟩ ∧ w2 = wr) (fun v _ => 64 - strLn v)
      case atStart => exact ⟨0, by omega, by simp, rfl⟩
      case round =>
        obtain ⟨j, hj, rfl, rfl⟩ := hrel
        by_cases hlt2 : j < 52
        · have hl1 : (X ++ List.replicate j (0 : UInt8)).length = 12 + j := by rw [List.length_append, hlen, List.length_replicate]
          have hl2 : ((X ++ List.replicate j (0 : UInt8)).length : Int) < 64 := by omega
          have hsum : ¬ 9223372036854775807 < (X ++ List.replicate j (0 : UInt8)).length + 1 := by omega
          have HN := Lib.hid (rep_next X j)
          have HL := Lib.hid hl1
          clear hl1
          generalize X ++ List.replicate j (0 : UInt8) = Y at hl2 hsum HN HL ⊢
          go_wp2
          go_roundw
          case rel => exact ⟨j + 1, by omega, by rw [HN.out, str_snoc], by trivial⟩
          case measure =>
            have h1 := HL.out
            have h2 : strLn (.string (⟨Y.toArray⟩ ++ ⟨#[0]⟩)) = Y.length + 1 := by rw [str_snoc]; show (Y ++ [0]).length = _; simp
            have h3 : strLn (.string ⟨Y.toArray⟩) = Y.length := rfl
            simp only [h2, h3]
            omega
        · have hj2 : j = 52 := by omega
          subst hj2
          rw [← HV.out]
          have hl2 : ((bytesV n).length : Int) = 64 := by rw [HV.out, List.length_append, hlen, List.length_replicate]; rfl
          obtain ⟨Y, hY⟩ : ∃ Y, bytesV n = Y := ⟨_, rfl⟩
          rw [hY] at hl2 ⊢
          have HY := Lib.hid hY
          clear hY
          go_wp2
          go_ret
          exact ⟨by rw [HY.out]; rfl, HB.out⟩
end Go.Proofs.Ytpineeaghmfggaa
