/- The walk through the law IcmpLost: it answers true. -/
import Derived.Test.YtpnhopgfoakgnaaIcmpUR
namespace Go.Proofs.Ytpnhopgfoakgnaa
set_option linter.unusedVariables false
open Go.RowKit
attribute [local go_sem ↓] Go.wp_at_zero Go.wp_at_succ
attribute [local go_sem ↓] run_ic_eql run_ic_neq

set_option maxRecDepth 100000 in
set_option maxHeartbeats 1000000 in
theorem icmpLost_walk (c : Int) (hc : -9223372036854775808 ≤ c ∧ c ≤ 9223372036854775807) (t : List UInt8) (ht : t.length ≤ 9223372036854775807) (w : World) :
    Calls Try.prog 7 #[.int .i64 c, .string ⟨t.toArray⟩] w fun e w' => e = .returned (.bool true) ∧ Below w.heap.size w w' := by
  by_cases h : 2000 < t.length
  · go_enter Try.func7, Try.ntmps7
    go_wp2_with fail
    refine (icawake_any _).mono ?_
    rintro e w1 ⟨rfl, hb1⟩
    go_wp2
    go_ret
    exact ⟨rfl, hb1⟩
  · have hself := icEq_self
    have HU := Lib.hid (fun w => icu_any c ⟨t.toArray⟩ w hc ht)
    have HR := Lib.hid (fun w => refu_any c ⟨t.toArray⟩ w hc ht)
    clear hc
    go_enter Try.func7, Try.ntmps7
    go_wp2_with fail
    refine (icawake_any _).mono ?_
    rintro e w1 ⟨rfl, hb1⟩
    go_wp2_with fail
    refine (HU.out _).mono ?_
    rintro e w2 ⟨rfl, hb2⟩
    go_wp2_with fail
    refine (HR.out _).mono ?_
    rintro e w3 ⟨rfl, hb3⟩
    have HB := Lib.hid (Below.step (Below.step hb1 hb2) hb3)
    clear hb1 hb2 hb3
    go_wp2
    go_ret
    exact ⟨rfl, HB.out⟩
end Go.Proofs.Ytpnhopgfoakgnaa
