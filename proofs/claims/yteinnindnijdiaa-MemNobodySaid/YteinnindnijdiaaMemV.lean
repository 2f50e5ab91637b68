/- The walk through the law MemNobody: it answers true. -/
import Derived.Test.YteinnindnijdiaaMemU
namespace Go.Proofs.Yteinnindnijdiaa
set_option linter.unusedVariables false
set_option maxRecDepth 100000
open Go.RowKit
attribute [local go_sem ↓] Go.wp_at_zero Go.wp_at_succ

set_option maxHeartbeats 1000000 in
theorem memNobody_walk (at' n x : Int) (s : List UInt8) (hs : s.length ≤ 9223372036854775807) (w : World) :
    Calls Try.prog 8 #[.int .i64 at', .int .i64 n, .int .u64 x, .string ⟨s.toArray⟩] w fun e w' => e = .returned (.bool true) ∧ Below w.heap.size w w' := by
  by_cases h : 1000 < s.length
  · go_enter Try.func8, Try.ntmps8
    go_wp2_with fail
    refine (memawake_any _).mono ?_
    rintro e w1 ⟨rfl, hb1⟩
    go_wp2
    go_ret
    exact ⟨rfl, hb1⟩
  · go_enter Try.func8, Try.ntmps8
    go_wp2_with fail
    refine (memawake_any _).mono ?_
    rintro e w1 ⟨rfl, hb1⟩
    have HC := Lib.hid (show (w1.alloc (.cells #[.slice none 0 0] 63)).cell? ⟨w1.heap.size, 0, none⟩ = some (.slice none 0 0) by
      rw [(Blk.new w1 63 #[.slice none 0 0] 0 0 (Or.inl (Nat.le_refl _))).cell]; rfl)
    have HB := Lib.hid (hb1.alloc hb1.size (.cells #[.slice none 0 0] 63))
    clear hb1
    go_wp2_with fail
    refine (get_nil _ _ _).mono ?_
    rintro e w2 ⟨rfl, rfl⟩
    go_wp2_with fail
    refine (text_nil _ _ _).mono ?_
    rintro e w2 ⟨rfl, rfl⟩
    go_wp2_with fail
    refine (get_bare HC.out _ _).mono ?_
    rintro e w2 ⟨rfl, rfl⟩
    go_wp2_with fail
    refine (put_nil _ _ _ _).mono ?_
    rintro e w2 ⟨rfl, rfl⟩
    go_wp2_with fail
    refine (write_nil _ _ s).mono ?_
    rintro e w2 ⟨rfl, rfl⟩
    go_wp2_with fail
    refine (write_bare HC.out _ s).mono ?_
    rintro e w2 ⟨rfl, rfl⟩
    go_wp2_with fail
    refine (size_nil _).mono ?_
    rintro e w2 ⟨rfl, rfl⟩
    go_wp2_with fail
    refine (size_bare HC.out).mono ?_
    rintro e w2 ⟨rfl, rfl⟩
    go_wp2
    go_ret
    exact ⟨rfl, HB.out⟩
end Go.Proofs.Yteinnindnijdiaa
