/- What package icmp's Unreachable computes. -/
import Derived.Test.YtpnhopgfoakgnaaIcmpA
namespace Go.Proofs.Ytpnhopgfoakgnaa
set_option linter.unusedVariables false
open Go.RowKit
attribute [local go_sem ↓] Go.wp_at_zero Go.wp_at_succ

theorem and_255 (x : Int) : bits .and .i64 x 255 = x % 256 := by
  have e : (BitVec.ofInt 64 255).toNat = 2 ^ 8 - 1 := rfl
  have h : bits .and .i64 x 255 = IntKind.i64.wrap ((BitVec.ofInt 64 x &&& BitVec.ofInt 64 255).toNat : Int) := rfl
  rw [h, BitVec.toNat_and, e, Nat.and_two_pow_sub_one_eq_mod, BitVec.toNat_ofInt, IntKind.wrap_i64]
  omega

theorem and_15 (b : UInt8) : bits .and .u8 (b.toNat : Int) 15 = ((b.toNat % 16 : Nat) : Int) := by
  have h := b.toNat_lt
  have := bits_mask .u8 8 (by decide) wraps_u8 4 (by omega) (b.toNat : Int) (by omega) (by omega)
  rw [show ((15 : Int)) = 2 ^ 4 - 1 by decide, this]
  omega

/-- how many bytes of a packet are quoted -/
def icN (s : ByteArray) : Nat := if s.size = 0 then 0 else min s.size (4 * ((bat s 0).toNat % 16) + 8)
theorem icN_le (s : ByteArray) : icN s ≤ 68 ∧ icN s ≤ s.size ∧ (8 ≤ icN s ∨ icN s = s.size) := by
  unfold icN
  split <;> omega

set_option maxHeartbeats 400000 in
theorem icu_any (c : Int) (s : ByteArray) (w : World) (hc : -9223372036854775808 ≤ c ∧ c ≤ 9223372036854775807) (hs : s.size ≤ 9223372036854775807) :
    Calls Try.prog 26 #[.int .i64 c, .string s] w fun e w' => e = .returned (icV 3 (c % 256) 0 (s.extract 0 (icN s))) ∧ Below w.heap.size w w' := by
  obtain ⟨hca, hcb⟩ := hc
  have ha := and_255 c
  by_cases h0 : s.size = 0
  · have hse : s = ⟨#[]⟩ := by
      apply ByteArray.ext
      exact Array.eq_empty_of_size_eq_zero h0
    subst hse
    go_enter Try.func26, Try.ntmps26
    go_wp2
    refine bodyPost_ret (results_cell1 Try.results26 _ _ w.heap.size _ _ _ rfl (Blk.new w _ _ 0 0 (Or.inl (Nat.le_refl _))) Try.underlying24 rfl size_ic) rfl ⟨?_, (Below.refl _ _).alloc (Nat.le_refl _) _⟩
    rfl
  · have b0 : s[0]'(by omega) = bat s 0 := bat_get s 0 (by omega)
    have hb := and_15 (bat s 0)
    have hne : s.toList.isEmpty = false := by
      rw [List.isEmpty_eq_false_iff, ByteArray.toList_eq]
      intro h
      apply h0
      rw [← size_list, h]
      rfl
    obtain ⟨m, hm⟩ : ∃ m : Nat, m = (bat s 0).toNat % 16 := ⟨_, rfl⟩
    have hm16 : m < 16 := by omega
    have hN : icN s = min s.size (4 * m + 8) := by rw [icN, if_neg h0, hm]
    rw [← hm] at hb
    have HN := Lib.hid hN
    clear hN hm
    by_cases hq : (s.size : Int) ≤ 4 * (m : Int) + 8
    · have hq2 : ¬ 4 * (m : Int) + 8 < (s.size : Int) := by omega
      go_enter Try.func26, Try.ntmps26
      go_wp2
      refine bodyPost_ret (results_cell1 Try.results26 _ _ w.heap.size _ _ _ rfl (Blk.new w _ _ 0 0 (Or.inl (Nat.le_refl _))) Try.underlying24 rfl size_ic) rfl ⟨?_, (Below.refl _ _).alloc (Nat.le_refl _) _⟩
      have e1 : s.extract 0 s.size = s := by simp
      rw [HN.out, Nat.min_eq_left (by omega), e1]
    · have hq2 : 4 * (m : Int) + 8 < (s.size : Int) := by omega
      go_enter Try.func26, Try.ntmps26
      go_wp2
      refine bodyPost_ret (results_cell1 Try.results26 _ _ w.heap.size _ _ _ rfl (Blk.new w _ _ 0 0 (Or.inl (Nat.le_refl _))) Try.underlying24 rfl size_ic) rfl ⟨?_, (Below.refl _ _).alloc (Nat.le_refl _) _⟩
      have e1 : (4 * (m : Int) + 8).toNat = 4 * m + 8 := by omega
      rw [HN.out, Nat.min_eq_right (by omega)]
end Go.Proofs.Ytpnhopgfoakgnaa
