/- The walk through the law IcmpCodes: it answers true. -/
import Derived.Test.YtpnhopgfoakgnaaIcmpB
import Derived.Test.YtpnhopgfoakgnaaIcmpRR
namespace Go.Proofs.Ytpnhopgfoakgnaa
set_option linter.unusedVariables false
open Go.RowKit
attribute [local go_sem ↓] Go.wp_at_zero Go.wp_at_succ
attribute [local go_sem ↓] run_ic_eql run_ic_neq

theorem rdIc_form (s : ByteArray) : ∃ (k c r : Int) (d : ByteArray), (rdIc s).1 = icV k c r d := by
  unfold rdIc
  split
  · exact ⟨_, _, _, _, rfl⟩
  · split
    · exact ⟨_, _, _, _, rfl⟩
    · split
      · exact ⟨_, _, _, _, rfl⟩
      · exact ⟨_, _, _, _, rfl⟩

theorem blk_ic {w : World} {b : Nat} {e : TypeId} {k c r : Int} {d : ByteArray} (h : Blk w b e (icV k c r d).cells) :
    w.cell? ⟨b, 0, none⟩ = some (.int .i64 k) ∧ w.cell? ⟨b, 1, none⟩ = some (.int .i64 c) ∧ w.cell? ⟨b, 2, none⟩ = some (.int .u32 r) ∧ w.cell? ⟨b, 3, none⟩ = some (.string d) := by
  refine ⟨?_, ?_, ?_, ?_⟩ <;> (rw [h.cell]; rfl)

set_option maxRecDepth 100000 in
set_option maxHeartbeats 1000000 in
theorem icmpCodes_walk (k c r : Int) (hk : -9223372036854775808 ≤ k ∧ k ≤ 9223372036854775807) (hc : -9223372036854775808 ≤ c ∧ c ≤ 9223372036854775807) (hr : 0 ≤ r ∧ r ≤ 4294967295)
    (l : List UInt8) (hl : l.length ≤ 9223372036854775807) (s : List UInt8) (hs : s.length ≤ 9223372036854775807) (w : World) :
    Calls Try.prog 3 #[icV k c r ⟨l.toArray⟩, .string ⟨s.toArray⟩] w fun e w' => e = .returned (.bool true) ∧ Below w.heap.size w w' := by
  have hself := icEq_self
  have HB := Lib.hid ((Below.refl w.heap.size w).alloc (Nat.le_refl _) (.cells (icV k c r ⟨l.toArray⟩).cells 24))
  have HK := Lib.hid (Blk.new w 24 (icV k c r ⟨l.toArray⟩).cells 0 0 (Or.inl (Nat.le_refl _)))
  by_cases h : 2000 < l.length
  · go_enter Try.func3, Try.ntmps3
    go_wp2_with fail
    refine (icawake_any _).mono ?_
    rintro e w1 ⟨rfl, hb1⟩
    obtain ⟨c0, c1, c2, c3⟩ := blk_ic (HK.out.below hb1 (by simp))
    have HB1 := Lib.hid (Below.step HB.out hb1)
    clear hb1
    go_wp2
    go_ret
    exact ⟨rfl, HB1.out⟩
  by_cases h2 : 2000 < s.length
  · go_enter Try.func3, Try.ntmps3
    go_wp2_with fail
    refine (icawake_any _).mono ?_
    rintro e w1 ⟨rfl, hb1⟩
    obtain ⟨c0, c1, c2, c3⟩ := blk_ic (HK.out.below hb1 (by simp))
    have HB1 := Lib.hid (Below.step HB.out hb1)
    clear hb1
    go_wp2
    go_ret
    exact ⟨rfl, HB1.out⟩
  · have hA := fun w => ic_any k c r l w hk hc hr hl
    have hA' := fun w => refic_any k c r l w hk hc hr hl
    have hR := fun w => icr_any ⟨s.toArray⟩ w hs
    have hR' := fun w => refr_any s w hs
    obtain ⟨x0, x1, x2, x3, hx⟩ := rdIc_form ⟨s.toArray⟩
    rw [hx] at hR hR'
    generalize (icBytes k c r l).1 = A at hA hA'
    generalize (icBytes k c r l).2 = E at hA hA'
    generalize (rdIc ⟨s.toArray⟩).2 = F at hR hR'
    have HA := Lib.hid hA
    have HA' := Lib.hid hA'
    have HR := Lib.hid hR
    have HR' := Lib.hid hR'
    clear hA hA' hR hR' hx hk hc hr
    go_enter Try.func3, Try.ntmps3
    go_wp2_with fail
    refine (icawake_any _).mono ?_
    rintro e w1 ⟨rfl, hb1⟩
    have hK1 := HK.out.step (Below.trans (by exact (Below.refl _ _)) hb1)
    obtain ⟨c0, c1, c2, c3⟩ := blk_ic hK1
    have HK1 := Lib.hid hK1
    have HB1 := Lib.hid (Below.step HB.out hb1)
    clear hb1 hK1
    go_wp2_with fail
    refine (HA.out _).mono ?_
    rintro e w2 ⟨rfl, hb2⟩
    have hK2 := HK1.out.step hb2
    obtain ⟨d0, d1, d2, d3⟩ := blk_ic hK2
    have HK2 := Lib.hid hK2
    have HB2 := Lib.hid (Below.step HB1.out hb2)
    clear hb2 hK2 c0 c1 c2 c3
    go_wp2_with fail
    refine (HA'.out _).mono ?_
    rintro e w3 ⟨rfl, hb3⟩
    have HB3 := Lib.hid (Below.step HB2.out hb3)
    clear hb3 d0 d1 d2 d3
    go_wp2_with fail
    refine (HR.out _).mono ?_
    rintro e w4 ⟨rfl, hb4⟩
    have HB4 := Lib.hid (Below.step HB3.out hb4)
    have hX := Blk.new w4 24 (icV x0 x1 x2 x3).cells 0 0 (Or.inl (Nat.le_refl _))
    have HX := Lib.hid hX
    clear hb4 hX
    go_wp2_with fail
    refine (HR'.out _).mono ?_
    rintro e w5 ⟨rfl, hb5⟩
    obtain ⟨c0, c1, c2, c3⟩ := blk_ic (HX.out.step hb5)
    have hlt := (HX.out.step hb5).lt
    have HB5 := Lib.hid (Below.step (HB4.out.alloc HB4.out.size (.cells (icV x0 x1 x2 x3).cells 24)) hb5)
    clear hb5
    go_wp2
    go_ret
    exact ⟨rfl, HB5.out.alloc HB5.out.size _⟩
end Go.Proofs.Ytpnhopgfoakgnaa
