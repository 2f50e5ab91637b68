/- What package mem's ReadLittle computes. -/
import Derived.Test.YteinnindnijdiaaMemB
namespace Go.Proofs.Yteinnindnijdiaa
set_option linter.unusedVariables false
open Go.RowKit

theorem readLittle_any (w : World) (s : ByteArray) (at' n : Int) (hs : s.size ≤ 9223372036854775807) (h1 : -9223372036854775808 ≤ at' ∧ at' ≤ 9223372036854775807)
    (h2 : -9223372036854775808 ≤ n ∧ n ≤ 9223372036854775807) :
    Calls Try.prog 35 #[.string s, .int .i64 at', .int .i64 n] w fun e w' => e = .returned (.tuple #[.int .u64 (rdLittle s at' n), .bool (rdOk s at' n)]) ∧ Below w.heap.size w w' := by
  by_cases h : rdOk s at' n = true
  · have hv : rdLittle s at' n = (bigv (pieceL s at'.toNat n.toNat).reverse : Int) := by simp [rdLittle, h]
    rw [hv, h]
    simp only [rdOk, decide_eq_true_eq] at h
    obtain ⟨ha, hb, hc, hd⟩ := h
    obtain ⟨a, rfl⟩ := Int.eq_ofNat_of_zero_le hc
    obtain ⟨m, rfl⟩ := Int.eq_ofNat_of_zero_le (show 0 ≤ n by omega)
    simp only [Int.toNat_natCast]
    clear hv
    have hlen := Lib.hid (pieceL_len s a m (by omega))
    go_enter Try.func35, Try.ntmps35
    go_wp2_with fail
    refine (piece_yes _ s a m hs (by omega) (by omega) (by omega)).mono ?_
    rintro e w1 ⟨c, rfl, hby, hbel⟩
    go_wp2_with fail
    refine (reverse_any _ _ c m (pieceL s a m) (by rw [hlen.out]; omega) hlen.out hby).mono ?_
    rintro e w2 ⟨rfl, hby2, honly⟩
    go_wp2_with fail
    refine (value_any _ _ c m (pieceL s a m).reverse (by rw [List.length_reverse, hlen.out]; omega) (by rw [List.length_reverse, hlen.out]) hby2.at).mono ?_
    rintro e w3 ⟨rfl, rfl⟩
    go_wp2
    go_ret2
    exact ⟨rfl, hbel.trans (honly.toBelow (Nat.le_refl _))⟩
  · have h' : rdOk s at' n = false := by simpa using h
    have hv : rdLittle s at' n = 0 := by simp [rdLittle, h']
    rw [hv, h']
    simp only [rdOk, decide_eq_true_eq] at h
    clear hv h'
    go_enter Try.func35, Try.ntmps35
    go_wp2_with fail
    refine (piece_no _ s at' n hs h1 h2 (by omega)).mono ?_
    rintro e w1 ⟨rfl, rfl⟩
    go_wp2_with fail
    refine (reverse_nil _).mono ?_
    rintro e w2 ⟨rfl, rfl⟩
    go_wp2_with fail
    refine (value_nil _).mono ?_
    rintro e w2 ⟨rfl, rfl⟩
    go_wp2
    go_ret2
    exact ⟨rfl, Below.refl _ _⟩

end Go.Proofs.Yteinnindnijdiaa
