/- The walks through the laws of layer 6 (ether): each answers true. -/
import Derived.Test.YteinnindnijdiaaEtherW
namespace Go.Proofs.Yteinnindnijdiaa
set_option linter.unusedVariables false
open Go.RowKit
attribute [local go_sem ↓] Go.wp_at_zero Go.wp_at_succ
attribute [local go_sem ↓] run_fr_eql run_fr_neq run_mac_eql

theorem rdFr_form (s : ByteArray) : ∃ (t0 t1 t2 t3 t4 t5 f0 f1 f2 f3 f4 f5 : UInt8) (ty : Int) (d : List UInt8), (rdFr s).1 = frV t0 t1 t2 t3 t4 t5 f0 f1 f2 f3 f4 f5 ty ⟨d.toArray⟩ := by
  unfold rdFr
  by_cases h1 : s.size < 14
  · rw [if_pos h1]
    exact ⟨0, 0, 0, 0, 0, 0, 0, 0, 0, 0, 0, 0, 0, [], rfl⟩
  · rw [if_neg h1]
    by_cases h2 : 600 < s.size
    · rw [if_pos h2]
      exact ⟨0, 0, 0, 0, 0, 0, 0, 0, 0, 0, 0, 0, 0, [], rfl⟩
    · rw [if_neg h2]
      exact ⟨_, _, _, _, _, _, _, _, _, _, _, _, _, (s.extract 14 s.size).data.toList, rfl⟩

set_option maxRecDepth 100000 in
set_option maxHeartbeats 1000000 in
theorem etherReads_walk (l : List UInt8) (hl : l.length ≤ 9223372036854775807) (w : World) :
    Calls Try.prog 3 #[.string ⟨l.toArray⟩] w fun e w' => e = .returned (.bool true) ∧ Below w.heap.size w w' := by
  by_cases h : 2000 < l.length
  · go_enter Try.func3, Try.ntmps3
    go_wp2_with fail
    refine (awake_any _).mono ?_
    rintro e w1 ⟨rfl, hb1⟩
    go_wp2
    go_ret
    exact ⟨rfl, hb1⟩
  · obtain ⟨t0, t1, t2, t3, t4, t5, f0, f1, f2, f3, f4, f5, ty, d, hfr⟩ := rdFr_form ⟨l.toArray⟩
    have hR := fun w => read_any ⟨l.toArray⟩ w hl
    have hS := fun w => refRead_any ⟨l.toArray⟩ w hl
    rw [hfr] at hR hS
    generalize (rdFr ⟨l.toArray⟩).2 = err at hR hS
    have HR := Lib.hid hR
    have HS := Lib.hid hS
    clear hR hS hfr
    have hself := frEq_self
    go_enter Try.func3, Try.ntmps3
    go_wp2_with fail
    refine (awake_any _).mono ?_
    rintro e w1 ⟨rfl, hb1⟩
    go_wp2_with fail
    refine (HR.out _).mono ?_
    rintro e w2 ⟨rfl, hb2⟩
    go_wp2_with fail
    refine (HS.out _).mono ?_
    rintro e w3 ⟨rfl, hb3⟩
    have hK1 := Lib.hid (((Blk.new w2 26 (frV t0 t1 t2 t3 t4 t5 f0 f1 f2 f3 f4 f5 ty ⟨d.toArray⟩).cells 0 0 (Or.inl (Nat.le_refl _))).below hb3 (by simp)).alloc (.cells (frV t0 t1 t2 t3 t4 t5 f0 f1 f2 f3 f4 f5 ty ⟨d.toArray⟩).cells 26))
    have hK2 := Lib.hid (Blk.new w3 26 (frV t0 t1 t2 t3 t4 t5 f0 f1 f2 f3 f4 f5 ty ⟨d.toArray⟩).cells 0 0 (Or.inl (Nat.le_refl _)))
    have h12 := hb1.size
    have h23 := hb2.size
    have h3 := hb3.size
    simp only [size_alloc] at h3
    have HB := Lib.hid ((((hb1.trans (hb2.mono h12)).alloc (by omega) (.cells (frV t0 t1 t2 t3 t4 t5 f0 f1 f2 f3 f4 f5 ty ⟨d.toArray⟩).cells 26)).trans (hb3.mono (by rw [size_alloc]; omega))).alloc (by omega) (.cells (frV t0 t1 t2 t3 t4 t5 f0 f1 f2 f3 f4 f5 ty ⟨d.toArray⟩).cells 26))
    clear hb1 hb2 hb3
    go_wp2_with (first
      | (refine wpList_load_blk rfl 26 (.tmp 3) rfl _ rfl _ _ _ hK1.out Try.underlying26 rfl size_fr ?_)
      | (refine wpList_load_blk rfl 26 (.tmp 5) rfl _ rfl _ _ _ hK2.out Try.underlying26 rfl size_fr ?_))
    go_ret
    exact ⟨rfl, HB.out⟩
end Go.Proofs.Yteinnindnijdiaa
