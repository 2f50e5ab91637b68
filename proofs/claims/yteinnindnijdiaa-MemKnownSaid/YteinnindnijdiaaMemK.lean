/- The walk through the law MemKnown: it answers true. -/
import Derived.Test.YteinnindnijdiaaMemZ
namespace Go.Proofs.Yteinnindnijdiaa
set_option linter.unusedVariables false
set_option maxRecDepth 100000
open Go.RowKit
attribute [local go_sem ↓] Go.wp_at_zero Go.wp_at_succ

def knL : List UInt8 := [0, 0, 2, 1, 0, 0, 0, 0, 0, 0, 0, 0, 0, 0, 97, 98]

theorem known_rb (w : World) (l : List UInt8) (v : Int) (ok : Bool) (hl : l.length ≤ 100) (h1 : rdBig ⟨l.toArray⟩ 0 2 = v) (h2 : rdOk ⟨l.toArray⟩ 0 2 = ok) :
    Calls Try.prog 36 #[.string ⟨l.toArray⟩, .int .i64 0, .int .i64 2] w fun e w' => e = .returned (.tuple #[.int .u64 v, .bool ok]) ∧ Below w.heap.size w w' := by
  have h := readBig_any w ⟨l.toArray⟩ 0 2 (by show l.length ≤ _; omega) (by omega) (by omega)
  rw [h1, h2] at h
  exact h
theorem known_little (w : World) (x n : Int) (v : List UInt8) (hx : 0 ≤ x ∧ x ≤ 18446744073709551615) (h : litN x n = v) :
    Calls Try.prog 39 #[.int .u64 x, .int .i64 n] w fun e w' => e = .returned (.string ⟨v.toArray⟩) ∧ Below w.heap.size w w' := by
  have := little_any w x n hx
  rw [h] at this
  exact this
theorem known_big (w : World) (x n : Int) (v : List UInt8) (hx : 0 ≤ x ∧ x ≤ 18446744073709551615) (h : (litN x n).reverse = v) :
    Calls Try.prog 41 #[.int .u64 x, .int .i64 n] w fun e w' => e = .returned (.string ⟨v.toArray⟩) ∧ Below w.heap.size w w' := by
  have := big_any w x n hx
  rw [h] at this
  exact this

set_option maxHeartbeats 4000000 in
theorem memKnown_walk (w : World) : Calls Try.prog 13 #[] w fun e w' => e = .returned (.bool true) ∧ Below w.heap.size w w' := by
  have HN := Lib.hid (new_ok w 16 (by omega) (by omega))
  go_enter Try.func13, Try.ntmps13
  go_wp2_with fail
  refine Calls.mono HN.out ?_
  rintro e w1 ⟨rfl, hm1, hb1⟩
  have hC := put_any hm1 2 4 258 (by omega) (by omega) (by omega)
  have q0 : numE ((List.replicate 16 (0 : UInt8)).length : Int) (2) 4 = 0 := by decide +kernel
  have q1 : putL (List.replicate 16 (0 : UInt8)) 2 4 258 = awL := by decide +kernel
  rw [q0, q1] at hC
  have HC := Lib.hid hC
  have HBx := Lib.hid hb1
  clear hC q0 q1 hm1 hb1
  go_wp2_with fail
  refine (HC.out).mono ?_
  rintro e w2 ⟨rfl, hm, hg⟩
  have HM2 := Lib.hid hm
  have HB2 := Lib.hid (below_grown HBx.out HBx.out.size hg (by omega))
  clear hm hg HC HBx
  have hC := get_any HM2.out (13) 4 (by omega) (by omega)
  have q0 : gotE awL (13) 4 = 0 := by decide +kernel
  have q1 : numE (awL.length : Int) (13) 4 = 13 := by decide +kernel
  rw [q0, q1] at hC
  have HC := Lib.hid hC
  clear hC q0 q1
  go_wp2_with fail
  refine (HC.out).mono ?_
  rintro e w3 ⟨rfl, hb⟩
  have HM3 := Lib.hid ((HM2.out).step hb)
  have HB3 := Lib.hid (Below.step HB2.out hb)
  clear hb HC
  have hC := get_any HM3.out (0) 9 (by omega) (by omega)
  have q0 : gotE awL (0) 9 = 0 := by decide +kernel
  have q1 : numE (awL.length : Int) (0) 9 = 1 := by decide +kernel
  rw [q0, q1] at hC
  have HC := Lib.hid hC
  clear hC q0 q1
  go_wp2_with fail
  refine (HC.out).mono ?_
  rintro e w4 ⟨rfl, hb⟩
  have HM4 := Lib.hid ((HM3.out).step hb)
  have HB4 := Lib.hid (Below.step HB3.out hb)
  clear hb HC
  have hC := get_any HM4.out (-1) 1 (by omega) (by omega)
  have q0 : gotE awL (-1) 1 = 0 := by decide +kernel
  have q1 : numE (awL.length : Int) (-1) 1 = 13 := by decide +kernel
  rw [q0, q1] at hC
  have HC := Lib.hid hC
  clear hC q0 q1
  go_wp2_with fail
  refine (HC.out).mono ?_
  rintro e w5 ⟨rfl, hb⟩
  have HM5 := Lib.hid ((HM4.out).step hb)
  have HB5 := Lib.hid (Below.step HB4.out hb)
  clear hb HC
  have hC := write_any HM5.out 14 [97, 98] (by omega) (by decide)
  have q0 : roomE (awL.length : Int) 14 (([97, 98] : List UInt8).length : Int) = 0 := by decide +kernel
  have q1 : wrL awL 14 [97, 98] = knL := by decide +kernel
  rw [q0, q1] at hC
  have HC := Lib.hid hC
  have HBx := Lib.hid HB5.out
  clear hC q0 q1 
  go_wp2_with fail
  refine (HC.out).mono ?_
  rintro e w6 ⟨rfl, hm, hg⟩
  have HM6 := Lib.hid hm
  have HB6 := Lib.hid (below_grown HBx.out HBx.out.size hg (by omega))
  clear hm hg HC HBx
  have hC := write_any HM6.out 15 [97, 98] (by omega) (by decide)
  have q0 : roomE (knL.length : Int) 15 (([97, 98] : List UInt8).length : Int) = 13 := by decide +kernel
  have q1 : wrL knL 15 [97, 98] = knL := by decide +kernel
  rw [q0, q1] at hC
  have HC := Lib.hid hC
  have HBx := Lib.hid HB6.out
  clear hC q0 q1 
  go_wp2_with fail
  refine (HC.out).mono ?_
  rintro e w7 ⟨rfl, hm, hg⟩
  have HM7 := Lib.hid hm
  have HB7 := Lib.hid (below_grown HBx.out HBx.out.size hg (by omega))
  clear hm hg HC HBx
  have hC := text_any HM7.out 14 2 (by omega) (by omega)
  have q0 : txtL knL 14 2 = [97, 98] := by decide +kernel
  have q1 : roomE (knL.length : Int) 14 2 = 0 := by decide +kernel
  rw [q0, q1] at hC
  have HC := Lib.hid hC
  clear hC q0 q1
  go_wp2_with fail
  refine (HC.out).mono ?_
  rintro e wz ⟨rfl, rfl⟩
  clear HC
  have hC := text_any HM7.out 16 0 (by omega) (by omega)
  have q0 : txtL knL 16 0 = [] := by decide +kernel
  have q1 : roomE (knL.length : Int) 16 0 = 0 := by decide +kernel
  rw [q0, q1] at hC
  have HC := Lib.hid hC
  clear hC q0 q1
  go_wp2_with fail
  refine (HC.out).mono ?_
  rintro e wz ⟨rfl, rfl⟩
  clear HC
  have hC := text_any HM7.out 9223372036854775807 1 (by omega) (by omega)
  have q0 : txtL knL 9223372036854775807 1 = [] := by decide +kernel
  have q1 : roomE (knL.length : Int) 9223372036854775807 1 = 13 := by decide +kernel
  rw [q0, q1] at hC
  have HC := Lib.hid hC
  clear hC q0 q1
  go_wp2_with fail
  refine (HC.out).mono ?_
  rintro e wz ⟨rfl, rfl⟩
  clear HC
  have hC := get_any HM7.out (9223372036854775807) 8 (by omega) (by omega)
  have q0 : gotE knL (9223372036854775807) 8 = 0 := by decide +kernel
  have q1 : numE (knL.length : Int) (9223372036854775807) 8 = 13 := by decide +kernel
  rw [q0, q1] at hC
  have HC := Lib.hid hC
  clear hC q0 q1
  go_wp2_with fail
  refine (HC.out).mono ?_
  rintro e w8 ⟨rfl, hb⟩
  have HM8 := Lib.hid ((HM7.out).step hb)
  have HB8 := Lib.hid (Below.step HB7.out hb)
  clear hb HC
  have HC := Lib.hid (fun w => known_rb w [97, 98] 24930 true (by decide) (by decide +kernel) (by decide +kernel))
  go_wp2_with fail
  refine (HC.out _).mono ?_
  rintro e w9 ⟨rfl, hb⟩
  have HB9 := Lib.hid (Below.step HB8.out hb)
  clear hb HC
  have HC := Lib.hid (fun w => known_rb w [97] 0 false (by decide) (by decide +kernel) (by decide +kernel))
  go_wp2_with fail
  refine (HC.out _).mono ?_
  rintro e w10 ⟨rfl, hb⟩
  have HB10 := Lib.hid (Below.step HB9.out hb)
  clear hb HC
  go_wp2_with fail
  refine (memawake_any _).mono ?_
  rintro e w11 ⟨rfl, hb⟩
  have HB11 := Lib.hid (Below.step HB10.out hb)
  clear hb
  go_wp2_with fail
  refine (known_little _ 258 2 [2, 1] (by omega) (by decide +kernel)).mono ?_
  rintro e w12 ⟨rfl, hb⟩
  have HB12 := Lib.hid (Below.step HB11.out hb)
  clear hb
  go_wp2_with fail
  refine (known_big _ 258 2 [1, 2] (by omega) (by decide +kernel)).mono ?_
  rintro e w13 ⟨rfl, hb⟩
  have HB13 := Lib.hid (Below.step HB12.out hb)
  clear hb
  go_wp2_with fail
  refine (known_big _ 258 1 [2] (by omega) (by decide +kernel)).mono ?_
  rintro e w14 ⟨rfl, hb⟩
  have HB14 := Lib.hid (Below.step HB13.out hb)
  clear hb
  go_wp2_with fail
  refine (known_big _ 1 0 [] (by omega) (by decide +kernel)).mono ?_
  rintro e w15 ⟨rfl, hb⟩
  have HB15 := Lib.hid (Below.step HB14.out hb)
  clear hb
  go_wp2_with fail
  refine (known_little _ 1 9 [] (by omega) (by decide +kernel)).mono ?_
  rintro e w16 ⟨rfl, hb⟩
  have HB16 := Lib.hid (Below.step HB15.out hb)
  clear hb
  go_wp2
  go_ret
  exact ⟨rfl, HB16.out⟩
end Go.Proofs.Yteinnindnijdiaa
