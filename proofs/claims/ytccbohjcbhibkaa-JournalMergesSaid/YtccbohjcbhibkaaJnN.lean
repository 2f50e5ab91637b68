/- The walk through the law JournalPlaces: it answers true. No condition. -/
import Derived.Test.YtccbohjcbhibkaaJnW
namespace Go.Proofs.Ytccbohjcbhibkaa
set_option linter.unusedVariables false
set_option linter.unusedSimpArgs false
set_option maxRecDepth 100000
open Go.RowKit
attribute [local go_sem ↓] Go.wp_at_zero Go.wp_at_succ ix_dat ld_rec

theorem place_in (s p : Int) (h0 : 0 ≤ s) (h1 : s < 8) (h2 : 0 ≤ p) (h3 : p < 6) (w : World) : Calls Try.prog 25 #[.int .i64 s, .int .i64 p] w fun e w' => e = .returned (.tuple #[.int .i64 (3 + 6 * s + p), .bool true]) ∧ w' = w := by
  have HV : Hid (3 + s * 6 + p = 3 + 6 * s + p) := Lib.hid (by omega)
  have w1 : IntKind.i64.wrap (s * 6) = s * 6 := IntWalk.i64_in _ ⟨by omega, by omega⟩
  have w2 : IntKind.i64.wrap (3 + s * 6) = 3 + s * 6 := IntWalk.i64_in _ ⟨by omega, by omega⟩
  have w3 : IntKind.i64.wrap (3 + s * 6 + p) = 3 + s * 6 + p := IntWalk.i64_in _ ⟨by omega, by omega⟩
  go_enter Try.func25, Try.ntmps25
  go_wp2
  go_ret2
  exact ⟨ret2_int HV.out, rfl⟩
theorem place_out (s p : Int) (h : s < 0 ∨ (0 ≤ s ∧ 8 ≤ s) ∨ (0 ≤ s ∧ s < 8 ∧ p < 0) ∨ (0 ≤ s ∧ s < 8 ∧ 0 ≤ p ∧ 6 ≤ p)) (w : World) : Calls Try.prog 25 #[.int .i64 s, .int .i64 p] w fun e w' => e = .returned (.tuple #[.int .i64 0, .bool false]) ∧ w' = w := by
  rcases h with h | ⟨h, h1⟩ | ⟨h, h1, h2⟩ | ⟨h, h1, h2, h3⟩
  all_goals
    go_enter Try.func25, Try.ntmps25
    go_wp2
    go_ret2
    exact ⟨rfl, rfl⟩

set_option maxHeartbeats 4000000 in
theorem journalPlaces_walk (s p r : Int) (w : World) : Calls Try.prog 8 #[.int .i64 s, .int .i64 p, .int .i64 r] w fun e w' => e = .returned (.bool true) ∧ Below w.heap.size w w' := by
  have WK := Lib.hid wakes_any
  have hr : (0 ≤ r ∧ r < 64) ∨ r < 0 ∨ (0 ≤ r ∧ 64 ≤ r) := by omega
  have hs : (0 ≤ s ∧ s < 8 ∧ 0 ≤ p ∧ p < 6) ∨ s < 0 ∨ (0 ≤ s ∧ 8 ≤ s) ∨ (0 ≤ s ∧ s < 8 ∧ p < 0) ∨ (0 ≤ s ∧ s < 8 ∧ 0 ≤ p ∧ 6 ≤ p) := by omega
  rcases hs with ⟨s1, s2, s3, s4⟩ | hs
  · have PL := Lib.hid (fun w => place_in s p s1 s2 s3 s4 w)
    have w1 : IntKind.i64.wrap (6 * s) = 6 * s := IntWalk.i64_in _ ⟨by omega, by omega⟩
    have w2 : IntKind.i64.wrap (3 + 6 * s) = 3 + 6 * s := IntWalk.i64_in _ ⟨by omega, by omega⟩
    have w3 : IntKind.i64.wrap (3 + 6 * s + p) = 3 + 6 * s + p := IntWalk.i64_in _ ⟨by omega, by omega⟩
    rcases hr with ⟨r1, r2⟩ | hr
    · have RW := Lib.hid (fun w => rowAt_in r r1 r2 w)
      have w4 : IntKind.i64.wrap (51 + r) = 51 + r := IntWalk.i64_in _ ⟨by omega, by omega⟩
      go_enter Try.func8, Try.ntmps8
      go_wp2_with fail
      refine (PL.out _).mono ?_
      rintro e v1 ⟨rfl, hv⟩
      subst hv
      go_wp2_with fail
      refine (RW.out _).mono ?_
      rintro e v2 ⟨rfl, hv⟩
      subst hv
      go_wp2_with fail
      refine (WK.out _).mono ?_
      rintro e v3 ⟨rfl, hb⟩
      have HB := Lib.hid hb
      clear hb
      go_wp2
      go_ret
      exact ⟨rfl, HB.out⟩
    · have RW := Lib.hid (fun w => rowAt_out r (by omega) w)
      rcases hr with r1 | ⟨r1, r2⟩
      all_goals
        go_enter Try.func8, Try.ntmps8
        go_wp2_with fail
        refine (PL.out _).mono ?_
        rintro e v1 ⟨rfl, hv⟩
        subst hv
        go_wp2_with fail
        refine (RW.out _).mono ?_
        rintro e v2 ⟨rfl, hv⟩
        subst hv
        go_wp2_with fail
        refine (WK.out _).mono ?_
        rintro e v3 ⟨rfl, hb⟩
        have HB := Lib.hid hb
        clear hb
        go_wp2
        go_ret
        exact ⟨rfl, HB.out⟩
  · have PL := Lib.hid (fun w => place_out s p hs w)
    rcases hs with s1 | ⟨s1, s2⟩ | ⟨s1, s2, s3⟩ | ⟨s1, s2, s3, s4⟩
    all_goals
      rcases hr with ⟨r1, r2⟩ | hr
      · have RW := Lib.hid (fun w => rowAt_in r r1 r2 w)
        have w4 : IntKind.i64.wrap (51 + r) = 51 + r := IntWalk.i64_in _ ⟨by omega, by omega⟩
        go_enter Try.func8, Try.ntmps8
        go_wp2_with fail
        refine (PL.out _).mono ?_
        rintro e v1 ⟨rfl, hv⟩
        subst hv
        go_wp2_with fail
        refine (RW.out _).mono ?_
        rintro e v2 ⟨rfl, hv⟩
        subst hv
        go_wp2_with fail
        refine (WK.out _).mono ?_
        rintro e v3 ⟨rfl, hb⟩
        have HB := Lib.hid hb
        clear hb
        go_wp2
        go_ret
        exact ⟨rfl, HB.out⟩
      · have RW := Lib.hid (fun w => rowAt_out r (by omega) w)
        rcases hr with r1 | ⟨r1, r2⟩
        all_goals
          go_enter Try.func8, Try.ntmps8
          go_wp2_with fail
          refine (PL.out _).mono ?_
          rintro e v1 ⟨rfl, hv⟩
          subst hv
          go_wp2_with fail
          refine (RW.out _).mono ?_
          rintro e v2 ⟨rfl, hv⟩
          subst hv
          go_wp2_with fail
          refine (WK.out _).mono ?_
          rintro e v3 ⟨rfl, hb⟩
          have HB := Lib.hid hb
          clear hb
          go_wp2
          go_ret
          exact ⟨rfl, HB.out⟩
end Go.Proofs.Ytccbohjcbhibkaa
