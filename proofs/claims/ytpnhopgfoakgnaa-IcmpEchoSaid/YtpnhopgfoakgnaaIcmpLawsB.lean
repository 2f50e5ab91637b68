/- The walk through the law IcmpEcho: it answers true. -/
import Derived.Test.YtpnhopgfoakgnaaIcmpE
namespace Go.Proofs.Ytpnhopgfoakgnaa
set_option linter.unusedVariables false
open Go.RowKit
attribute [local go_sem ↓] Go.wp_at_zero Go.wp_at_succ
attribute [local go_sem ↓] run_ic_eql run_ic_neq

set_option maxRecDepth 100000 in
set_option maxHeartbeats 1000000 in
theorem icmpEcho_walk (k c r : Int) (hk : -9223372036854775808 ≤ k ∧ k ≤ 9223372036854775807) (hc : -9223372036854775808 ≤ c ∧ c ≤ 9223372036854775807) (hr : 0 ≤ r ∧ r ≤ 4294967295)
    (l : List UInt8) (hl : l.length ≤ 9223372036854775807) (w : World) :
    Calls Try.prog 8 #[icV k c r ⟨l.toArray⟩] w fun e w' => e = .returned (.bool true) ∧ Below w.heap.size w w' := by
  have hself := icEq_self
  have hB := (Below.refl w.heap.size w).alloc (Nat.le_refl _) (.cells (icV k c r ⟨l.toArray⟩).cells 24)
  have hK := Blk.new w 24 (icV k c r ⟨l.toArray⟩).cells 0 0 (Or.inl (Nat.le_refl _))
  have HB := Lib.hid hB
  have HK := Lib.hid hK
  clear hB hK
  by_cases h : 2000 < l.length
  · go_enter Try.func8, Try.ntmps8
    go_wp2_with fail
    refine (icawake_any _).mono ?_
    rintro e w1 ⟨rfl, hb1⟩
    have hK1 := HK.out.below hb1 (by simp)
    have c3 : w1.cell? ⟨w.heap.size, 3, none⟩ = some (.string ⟨l.toArray⟩) := by rw [hK1.cell]; rfl
    have HB1 := Lib.hid (HB.out.trans (hb1.mono (by simp)))
    clear hb1 hK1
    go_wp2
    go_ret
    exact ⟨rfl, HB1.out⟩
  · by_cases hy : k = 8 ∧ c = 0
    · obtain ⟨rfl, rfl⟩ := hy
      go_enter Try.func8, Try.ntmps8
      go_wp2_with fail
      refine (icawake_any _).mono ?_
      rintro e w1 ⟨rfl, hb1⟩
      have hK1 := HK.out.below hb1 (by simp)
      have c0 : w1.cell? ⟨w.heap.size, 0, none⟩ = some (.int .i64 8) := by rw [hK1.cell]; rfl
      have c1 : w1.cell? ⟨w.heap.size, 1, none⟩ = some (.int .i64 0) := by rw [hK1.cell]; rfl
      have c2 : w1.cell? ⟨w.heap.size, 2, none⟩ = some (.int .u32 r) := by rw [hK1.cell]; rfl
      have c3 : w1.cell? ⟨w.heap.size, 3, none⟩ = some (.string ⟨l.toArray⟩) := by rw [hK1.cell]; rfl
      have HK1 := Lib.hid hK1
      have HB1 := Lib.hid (HB.out.trans (hb1.mono (by simp)))
      have hlt := hK1.lt
      clear hb1 hK1
      go_wp2_with fail
      refine (echo_yes r ⟨l.toArray⟩ _).mono ?_
      rintro e w2 ⟨rfl, hb2⟩
      have hK2 := (HK1.out.below hb2 hlt).alloc (.cells (icV 0 0 r ⟨l.toArray⟩).cells 24)
      have hX2 := Blk.new w2 24 (icV 0 0 r ⟨l.toArray⟩).cells 0 0 (Or.inl (Nat.le_refl _))
      have h01 := HB1.out.size
      have h12 := hb2.size
      have HB2 := Lib.hid ((HB1.out.trans (hb2.mono h01)).alloc (Nat.le_trans h01 h12) (.cells (icV 0 0 r ⟨l.toArray⟩).cells 24))
      have d0 : w2.cell? ⟨w.heap.size, 0, none⟩ = some (.int .i64 8) := by rw [(HK1.out.below hb2 hlt).cell]; rfl
      have d1 : w2.cell? ⟨w.heap.size, 1, none⟩ = some (.int .i64 0) := by rw [(HK1.out.below hb2 hlt).cell]; rfl
      have hlt2 : w.heap.size < w2.heap.size := by omega
      have HK2 := Lib.hid hK2
      have HX2 := Lib.hid hX2
      clear hK2 hX2 hb2 c0 c1 c2 c3
      go_wp2_with fail
      refine (echo_no 0 0 r ⟨l.toArray⟩ _ (Or.inl (by decide))).mono ?_
      rintro e w3 ⟨rfl, hb3⟩
      have hK3 := HK2.out.below hb3 (by simp; omega)
      have hX3 := HX2.out.below hb3 (by simp)
      have e2 : w3.cell? ⟨w.heap.size, 2, none⟩ = some (.int .u32 r) := by rw [hK3.cell]; rfl
      have e3 : w3.cell? ⟨w.heap.size, 3, none⟩ = some (.string ⟨l.toArray⟩) := by rw [hK3.cell]; rfl
      have x0 : w3.cell? ⟨w2.heap.size, 0, none⟩ = some (.int .i64 0) := by rw [hX3.cell]; rfl
      have x1 : w3.cell? ⟨w2.heap.size, 1, none⟩ = some (.int .i64 0) := by rw [hX3.cell]; rfl
      have x2 : w3.cell? ⟨w2.heap.size, 2, none⟩ = some (.int .u32 r) := by rw [hX3.cell]; rfl
      have x3 : w3.cell? ⟨w2.heap.size, 3, none⟩ = some (.string ⟨l.toArray⟩) := by rw [hX3.cell]; rfl
      have h23 := hb3.size
      have HB3 := Lib.hid ((HB2.out.trans (hb3.mono HB2.out.size)).alloc (Nat.le_trans HB2.out.size h23) (.cells ic0.cells 24))
      have hlt3 : w2.heap.size < w3.heap.size := by have := h23; simp only [size_alloc] at this; omega
      have hlt4 : w.heap.size < w3.heap.size := Nat.lt_trans hlt2 hlt3
      clear hb3 hK3 hX3 d0 d1 h01 h12
      go_wp2
      go_ret
      exact ⟨rfl, HB3.out⟩
    · have HY := Lib.hid (show k ≠ 8 ∨ c ≠ 0 by omega)
      by_cases h8 : k = 8
      · subst h8
        have hc0 : ¬ c = 0 := fun e => hy ⟨rfl, e⟩
        clear hy hk
        go_enter Try.func8, Try.ntmps8
        go_wp2_with fail
        refine (icawake_any _).mono ?_
        rintro e w1 ⟨rfl, hb1⟩
        have hK1 := HK.out.below hb1 (by simp)
        have c0 : w1.cell? ⟨w.heap.size, 0, none⟩ = some (.int .i64 8) := by rw [hK1.cell]; rfl
        have c1 : w1.cell? ⟨w.heap.size, 1, none⟩ = some (.int .i64 c) := by rw [hK1.cell]; rfl
        have c2 : w1.cell? ⟨w.heap.size, 2, none⟩ = some (.int .u32 r) := by rw [hK1.cell]; rfl
        have c3 : w1.cell? ⟨w.heap.size, 3, none⟩ = some (.string ⟨l.toArray⟩) := by rw [hK1.cell]; rfl
        have HK1 := Lib.hid hK1
        have HB1 := Lib.hid (HB.out.trans (hb1.mono (by simp)))
        have hlt := hK1.lt
        clear hb1 hK1
        go_wp2_with fail
        refine (echo_no 8 c r ⟨l.toArray⟩ _ HY.out).mono ?_
        rintro e w2 ⟨rfl, hb2⟩
        have h01 := HB1.out.size
        have h12 := hb2.size
        have HB2 := Lib.hid ((HB1.out.trans (hb2.mono h01)).alloc (Nat.le_trans h01 h12) (.cells ic0.cells 24))
        have d0 : w2.cell? ⟨w.heap.size, 0, none⟩ = some (.int .i64 8) := by rw [(HK1.out.below hb2 hlt).cell]; rfl
        have d1 : w2.cell? ⟨w.heap.size, 1, none⟩ = some (.int .i64 c) := by rw [(HK1.out.below hb2 hlt).cell]; rfl
        have hlt2 : w.heap.size < w2.heap.size := by omega
        clear hb2 c0 c1 c2 c3 h01 h12
        go_wp2
        go_ret
        exact ⟨rfl, HB2.out⟩
      · clear hy
        go_enter Try.func8, Try.ntmps8
        go_wp2_with fail
        refine (icawake_any _).mono ?_
        rintro e w1 ⟨rfl, hb1⟩
        have hK1 := HK.out.below hb1 (by simp)
        have c0 : w1.cell? ⟨w.heap.size, 0, none⟩ = some (.int .i64 k) := by rw [hK1.cell]; rfl
        have c1 : w1.cell? ⟨w.heap.size, 1, none⟩ = some (.int .i64 c) := by rw [hK1.cell]; rfl
        have c2 : w1.cell? ⟨w.heap.size, 2, none⟩ = some (.int .u32 r) := by rw [hK1.cell]; rfl
        have c3 : w1.cell? ⟨w.heap.size, 3, none⟩ = some (.string ⟨l.toArray⟩) := by rw [hK1.cell]; rfl
        have HK1 := Lib.hid hK1
        have HB1 := Lib.hid (HB.out.trans (hb1.mono (by simp)))
        have hlt := hK1.lt
        clear hb1 hK1
        go_wp2_with fail
        refine (echo_no k c r ⟨l.toArray⟩ _ HY.out).mono ?_
        rintro e w2 ⟨rfl, hb2⟩
        have h01 := HB1.out.size
        have h12 := hb2.size
        have HB2 := Lib.hid ((HB1.out.trans (hb2.mono h01)).alloc (Nat.le_trans h01 h12) (.cells ic0.cells 24))
        have d0 : w2.cell? ⟨w.heap.size, 0, none⟩ = some (.int .i64 k) := by rw [(HK1.out.below hb2 hlt).cell]; rfl
        have d1 : w2.cell? ⟨w.heap.size, 1, none⟩ = some (.int .i64 c) := by rw [(HK1.out.below hb2 hlt).cell]; rfl
        have hlt2 : w.heap.size < w2.heap.size := by omega
        clear hb2 c0 c1 c2 c3 h01 h12
        go_wp2
        go_ret
        exact ⟨rfl, HB2.out⟩
end Go.Proofs.Ytpnhopgfoakgnaa
