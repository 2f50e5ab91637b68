/- What the statements of this layer ask first, 'awake', is true. -/
import Derived.Test.YteinnindnijdiaaMemT
namespace Go.Proofs.Yteinnindnijdiaa
set_option linter.unusedVariables false
set_option maxRecDepth 100000
open Go.RowKit
attribute [local go_sem ↓] Go.wp_at_zero Go.wp_at_succ

theorem MemAt.below {w w' : World} {p g : Nat} {l : List UInt8} (h : MemAt w p g l) (k : Below w.heap.size w w') : MemAt w' p g l := h.step k

def awL : List UInt8 := [0, 0, 2, 1, 0, 0, 0, 0, 0, 0, 0, 0, 0, 0, 0, 0]

set_option maxHeartbeats 1000000 in
theorem memawake_any (w : World) : Calls Try.prog 23 #[] w fun e w' => e = .returned (.bool true) ∧ Below w.heap.size w w' := by
  have HN := Lib.hid (new_ok w 16 (by omega) (by omega))
  go_enter Try.func23, Try.ntmps23
  go_wp2_with fail
  refine Calls.mono HN.out ?_
  rintro e w1 ⟨rfl, hm1, hb1⟩
  have hP := put_any hm1 2 4 258 (by omega) (by omega) (by omega)
  have e1 : numE ((List.replicate 16 (0 : UInt8)).length : Int) 2 4 = 0 := by decide
  have e2 : putL (List.replicate 16 (0 : UInt8)) 2 4 258 = awL := by decide +kernel
  rw [e1, e2] at hP
  have HP := Lib.hid hP
  have HB1 := Lib.hid hb1
  clear hP e1 e2 hm1 hb1
  go_wp2_with fail
  refine (HP.out).mono ?_
  rintro e w2 ⟨rfl, hm2, hg2⟩
  have hT := text_any hm2 0 8 (by omega) (by omega)
  have e1 : roomE (awL.length : Int) 0 8 = 0 := by decide
  have e2 : txtL awL 0 8 = [0, 0, 2, 1, 0, 0, 0, 0] := by decide +kernel
  rw [e1, e2] at hT
  have HT := Lib.hid hT
  have HM2 := Lib.hid hm2
  have HB2 := Lib.hid (HB1.out.grown hg2 HB1.out.size (fun q hq => by have : w.heap.size = q := Option.some.inj hq; omega))
  clear hT e1 e2 hm2 hg2
  go_wp2_with fail
  refine (HT.out).mono ?_
  rintro e w3 ⟨rfl, rfl⟩
  have hG := get_any HM2.out 3 2 (by omega) (by omega)
  have e1 : numE (awL.length : Int) 3 2 = 0 := by decide
  have e2 : gotE awL 3 2 = 1 := by decide +kernel
  rw [e1, e2] at hG
  have HG := Lib.hid hG
  clear hG e1 e2
  go_wp2_with fail
  refine (HG.out).mono ?_
  rintro e w4 ⟨rfl, hb4⟩
  have HB4 := Lib.hid (Below.step HB2.out hb4)
  clear hb4
  go_wp2
  go_ret
  exact ⟨rfl, HB4.out⟩

set_option maxHeartbeats 1000000 in
theorem memNumbers_walk (x n : Int) (s : List UInt8) (at' : Int) (hx : 0 ≤ x ∧ x ≤ 18446744073709551615) (hn : -9223372036854775808 ≤ n ∧ n ≤ 9223372036854775807) (hs : s.length ≤ 9223372036854775807)
    (hat : -9223372036854775808 ≤ at' ∧ at' ≤ 9223372036854775807) (w : World) :
    Calls Try.prog 11 #[.int .u64 x, .int .i64 n, .string ⟨s.toArray⟩, .int .i64 at'] w fun e w' => e = .returned (.bool true) ∧ Below w.heap.size w w' := by
  by_cases h : 1000 < s.length
  · go_enter Try.func11, Try.ntmps11
    go_wp2_with fail
    refine (memawake_any _).mono ?_
    rintro e w1 ⟨rfl, hb1⟩
    go_wp2
    go_ret
    exact ⟨rfl, hb1⟩
  · have H1 := Lib.hid (fun w => readLittle_any w ⟨s.toArray⟩ at' n hs hat hn)
    have H2 := Lib.hid (fun w => readBig_any w ⟨s.toArray⟩ at' n hs hat hn)
    have H3 := Lib.hid (fun w => refReadLittle_any w ⟨s.toArray⟩ at' n hs hat hn)
    have H4 := Lib.hid (fun w => refReadBig_any w ⟨s.toArray⟩ at' n hs hat hn)
    have H5 := Lib.hid (fun w => little_any w x n hx)
    have H6 := Lib.hid (fun w => refLittle_any w x n hx)
    have H7 := Lib.hid (fun w => big_any w x n hx)
    have H8 := Lib.hid (fun w => refBig_any w x n hx)
    clear hx hn hat
    generalize rdLittle ⟨s.toArray⟩ at' n = a at H1 H3
    generalize rdBig ⟨s.toArray⟩ at' n = b at H2 H4
    generalize rdOk ⟨s.toArray⟩ at' n = c at H1 H2 H3 H4
    generalize litN x n = d at H5 H6 H7 H8
    go_enter Try.func11, Try.ntmps11
    go_wp2_with fail
    refine (memawake_any _).mono ?_
    rintro e w1 ⟨rfl, hb1⟩
    go_wp2_with fail
    refine (H1.out _).mono ?_
    rintro e w2 ⟨rfl, hb2⟩
    have HB2 := Lib.hid (Below.step hb1 hb2)
    clear hb1 hb2
    go_wp2_with fail
    refine (H2.out _).mono ?_
    rintro e w3 ⟨rfl, hb3⟩
    have HB3 := Lib.hid (Below.step HB2.out hb3)
    clear hb3
    go_wp2_with fail
    refine (H3.out _).mono ?_
    rintro e w4 ⟨rfl, rfl⟩
    go_wp2_with fail
    refine (H4.out _).mono ?_
    rintro e w5 ⟨rfl, rfl⟩
    go_wp2_with fail
    refine (H5.out _).mono ?_
    rintro e w6 ⟨rfl, hb6⟩
    have HB6 := Lib.hid (Below.step HB3.out hb6)
    clear hb6
    go_wp2_with fail
    refine (H6.out _).mono ?_
    rintro e w7 ⟨rfl, hb7⟩
    have HB7 := Lib.hid (Below.step HB6.out hb7)
    clear hb7
    go_wp2_with fail
    refine (H7.out _).mono ?_
    rintro e w8 ⟨rfl, hb8⟩
    have HB8 := Lib.hid (Below.step HB7.out hb8)
    clear hb8
    go_wp2_with fail
    refine (H8.out _).mono ?_
    rintro e w9 ⟨rfl, hb9⟩
    have HB9 := Lib.hid (Below.step HB8.out hb9)
    clear hb9
    go_wp2
    go_ret
    exact ⟨rfl, HB9.out⟩
end Go.Proofs.Yteinnindnijdiaa
