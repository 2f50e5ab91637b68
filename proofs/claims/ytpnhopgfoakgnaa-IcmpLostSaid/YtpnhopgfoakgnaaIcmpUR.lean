/- What the reference's Unreachable computes. -/
import Derived.Test.YtpnhopgfoakgnaaIcmpU
namespace Go.Proofs.Ytpnhopgfoakgnaa
set_option linter.unusedVariables false
open Go.RowKit
attribute [local go_sem ↓] Go.wp_at_zero Go.wp_at_succ

set_option maxRecDepth 100000 in
set_option maxHeartbeats 400000 in
theorem refu_any (c : Int) (s : ByteArray) (w : World) (hc : -9223372036854775808 ≤ c ∧ c ≤ 9223372036854775807) (hs : s.size ≤ 9223372036854775807) :
    Calls Try.prog 27 #[.int .i64 c, .string s] w fun e w' => e = .returned (icV 3 (c % 256) 0 (s.extract 0 (icN s))) ∧ Below w.heap.size w w' := by
  obtain ⟨hca, hcb⟩ := hc
  obtain ⟨q, hq⟩ : ∃ q, c.tmod 256 = q := ⟨_, rfl⟩
  have hqe : q = if 0 ≤ c then c % 256 else -((-c) % 256) := by
    rw [← hq]
    by_cases h : 0 ≤ c
    · rw [if_pos h, Int.tmod_eq_emod_of_nonneg h]
    · have e := Int.neg_tmod (-c) 256
      rw [Int.neg_neg] at e
      rw [if_neg h, e, Int.tmod_eq_emod_of_nonneg (by omega)]
  have hq1 : -256 < q ∧ q < 256 := by rw [hqe]; split <;> omega
  have hq5 := Lib.hid (show q < 0 → q + 256 = c % 256 by rw [hqe]; split <;> omega)
  have hq6 := Lib.hid (show ¬ q < 0 → q = c % 256 by rw [hqe]; split <;> omega)
  clear hqe
  obtain ⟨hq2, hq3⟩ := hq1
  by_cases h0 : s.size = 0
  · have hse : s = ⟨#[]⟩ := by
      apply ByteArray.ext
      exact Array.eq_empty_of_size_eq_zero h0
    subst hse
    by_cases hs0 : q < 0
    · go_enter Try.func27, Try.ntmps27
      go_wp2
      refine bodyPost_ret (results_cell1 Try.results27 _ _ w.heap.size _ _ _ rfl (Blk.new w _ _ 0 0 (Or.inl (Nat.le_refl _))) Try.underlying24 rfl size_ic) rfl ⟨?_, (Below.refl _ _).alloc (Nat.le_refl _) _⟩
      rw [← hq5.out hs0]
      rfl
    · go_enter Try.func27, Try.ntmps27
      go_wp2
      refine bodyPost_ret (results_cell1 Try.results27 _ _ w.heap.size _ _ _ rfl (Blk.new w _ _ 0 0 (Or.inl (Nat.le_refl _))) Try.underlying24 rfl size_ic) rfl ⟨?_, (Below.refl _ _).alloc (Nat.le_refl _) _⟩
      rw [← hq6.out hs0]
      rfl
  · have b0 : s[0]'(by omega) = bat s 0 := bat_get s 0 (by omega)
    have hpos : 0 < (s.size : Int) := by omega
    have l0 := (bat s 0).toNat_lt
    obtain ⟨m, hm⟩ : ∃ m : Nat, m = (bat s 0).toNat % 16 := ⟨_, rfl⟩
    have hm16 : m < 16 := by omega
    have hmi : ((bat s 0).toNat : Int) % 16 = (m : Int) := by omega
    have hN : icN s = min s.size (4 * m + 8) := by rw [icN, if_neg h0, hm]
    have HN := Lib.hid hN
    clear hN hm
    by_cases hg : (s.size : Int) < 4 * (m : Int) + 8
    · have e1 : s.extract 0 s.size = s := by simp
      have HE := Lib.hid e1
      clear e1
      by_cases hs0 : q < 0
      · go_enter Try.func27, Try.ntmps27
        go_wp2
        refine bodyPost_ret (results_cell1 Try.results27 _ _ w.heap.size _ _ _ rfl (Blk.new w _ _ 0 0 (Or.inl (Nat.le_refl _))) Try.underlying24 rfl size_ic) rfl ⟨?_, (Below.refl _ _).alloc (Nat.le_refl _) _⟩
        rw [← hq5.out hs0, HN.out, Nat.min_eq_left (by omega), HE.out]
      · go_enter Try.func27, Try.ntmps27
        go_wp2
        refine bodyPost_ret (results_cell1 Try.results27 _ _ w.heap.size _ _ _ rfl (Blk.new w _ _ 0 0 (Or.inl (Nat.le_refl _))) Try.underlying24 rfl size_ic) rfl ⟨?_, (Below.refl _ _).alloc (Nat.le_refl _) _⟩
        rw [← hq6.out hs0, HN.out, Nat.min_eq_left (by omega), HE.out]
    · have e1 : (4 * (m : Int) + 8).toNat = 4 * m + 8 := by omega
      have hg2 : 4 * (m : Int) + 8 ≤ (s.size : Int) := by omega
      by_cases hs0 : q < 0
      · go_enter Try.func27, Try.ntmps27
        go_wp2
        refine bodyPost_ret (results_cell1 Try.results27 _ _ w.heap.size _ _ _ rfl (Blk.new w _ _ 0 0 (Or.inl (Nat.le_refl _))) Try.underlying24 rfl size_ic) rfl ⟨?_, (Below.refl _ _).alloc (Nat.le_refl _) _⟩
        rw [← hq5.out hs0, HN.out, Nat.min_eq_right (by omega)]
      · go_enter Try.func27, Try.ntmps27
        go_wp2
        refine bodyPost_ret (results_cell1 Try.results27 _ _ w.heap.size _ _ _ rfl (Blk.new w _ _ 0 0 (Or.inl (Nat.le_refl _))) Try.underlying24 rfl size_ic) rfl ⟨?_, (Below.refl _ _).alloc (Nat.le_refl _) _⟩
        rw [← hq6.out hs0, HN.out, Nat.min_eq_right (by omega)]
end Go.Proofs.Ytpnhopgfoakgnaa
