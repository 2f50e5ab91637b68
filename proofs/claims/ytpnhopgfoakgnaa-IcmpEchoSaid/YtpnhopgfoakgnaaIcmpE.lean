/- What package icmp's Echo computes. -/
import Derived.Test.YtpnhopgfoakgnaaIcmpA
namespace Go.Proofs.Ytpnhopgfoakgnaa
set_option linter.unusedVariables false
open Go.RowKit
attribute [local go_sem ↓] Go.wp_at_zero Go.wp_at_succ

theorem echo_no (k c r : Int) (d : ByteArray) (w : World) (h : k ≠ 8 ∨ c ≠ 0) :
    Calls Try.prog 28 #[icV k c r d] w fun e w' => e = .returned (.tuple #[ic0, .bool false]) ∧ Below w.heap.size w w' := by
  have hK := Blk.new (w.alloc (.cells (icV k c r d).cells 24)) 24 ic0.cells 0 0 (Or.inl (Nat.le_refl _))
  rw [size_alloc] at hK
  have HK := Lib.hid hK
  clear hK
  by_cases h1 : k = 8
  · subst h1
    have h2 : ¬ c = 0 := by rcases h with h | h
                            · exact absurd rfl h
                            · exact h
    clear h
    go_enter Try.func28, Try.ntmps28
    go_wp2
    exact bodyPost_ret (results_blk Try.results28 _ _ (w.heap.size + 1) _ _ _ rfl HK.out Try.underlying24 rfl size_ic) rfl ⟨rfl, ((Below.refl _ _).alloc (Nat.le_refl _) _).alloc (by simp) _⟩
  · clear h
    go_enter Try.func28, Try.ntmps28
    go_wp2
    exact bodyPost_ret (results_blk Try.results28 _ _ (w.heap.size + 1) _ _ _ rfl HK.out Try.underlying24 rfl size_ic) rfl ⟨rfl, ((Below.refl _ _).alloc (Nat.le_refl _) _).alloc (by simp) _⟩

theorem echo_yes (r : Int) (d : ByteArray) (w : World) :
    Calls Try.prog 28 #[icV 8 0 r d] w fun e w' => e = .returned (.tuple #[icV 0 0 r d, .bool true]) ∧ Below w.heap.size w w' := by
  have hK := Blk.new (w.alloc (.cells (icV 0 0 r d).cells 24)) 24 (icV 0 0 r d).cells 0 0 (Or.inl (Nat.le_refl _))
  rw [size_alloc] at hK
  have HK := Lib.hid hK
  clear hK
  go_enter Try.func28, Try.ntmps28
  go_wp2
  exact bodyPost_ret (results_blk Try.results28 _ _ (w.heap.size + 1) _ _ _ rfl HK.out Try.underlying24 rfl size_ic) rfl ⟨rfl, ((Below.refl _ _).alloc (Nat.le_refl _) _).alloc (by simp) _⟩
end Go.Proofs.Ytpnhopgfoakgnaa
