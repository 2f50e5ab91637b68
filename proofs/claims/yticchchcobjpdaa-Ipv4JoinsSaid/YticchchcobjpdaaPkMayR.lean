/- Whether a packet may be: what the reference says; and two small functions of package ipv4. -/
import Derived.Test.YticchchcobjpdaaPkMay
namespace Go.Proofs.Yticchchcobjpdaa
set_option linter.unusedVariables false
set_option maxRecDepth 100000
open Go.RowKit
attribute [local go_sem ↓] Go.wp_at_zero Go.wp_at_succ
attribute [local go_sem ↓] ld_pk ld_ip

theorem two_any (x : Int) (w : World) (h : 0 ≤ x ∧ x ≤ 9223372036854775807) : Calls Try.prog 29 #[.int .i64 x] w fun e w' => e = .returned (.string ⟨(litN x 2).reverse.toArray⟩) ∧ Below w.heap.size w w' := by
  obtain ⟨h1, h2⟩ := h
  have hu := IntWalk.u64_in x ⟨h1, by omega⟩
  have HB := Lib.hid (fun w => big_any w x 2 ⟨h1, by omega⟩)
  go_enter Try.func29, Try.ntmps29
  go_wp2_with fail
  refine (HB.out _).mono ?_
  rintro e w1 ⟨rfl, hb⟩
  go_wp2
  go_ret
  exact ⟨rfl, hb⟩

set_option maxHeartbeats 2000000 in
theorem refMay_any (id : Int) (f t : List UInt8) (pr tt a : Int) (mo : Bool) (d : List UInt8) (hL : PkL f t) (hid : -9223372036854775808 ≤ id ∧ id ≤ 9223372036854775807) (hpr : -9223372036854775808 ≤ pr ∧ pr ≤ 9223372036854775807)
    (htt : -9223372036854775808 ≤ tt ∧ tt ≤ 9223372036854775807) (ha : -9223372036854775808 ≤ a ∧ a ≤ 9223372036854775807) (hd : d.length ≤ 9223372036854000000) (w : World) :
    Calls Try.prog 31 #[.agg (pkC id f t pr tt a mo d)] w fun e w' => e = .returned (.bool (mayB id pr tt a mo d.length)) ∧ Below w.heap.size w w' := by
  obtain ⟨c0, c9, c10, c11, c12, c13⟩ := pk_at (Blk.new w 25 (pkC id f t pr tt a mo d) 0 0 (Or.inl (Nat.le_refl _))) hL
  have HB := Lib.hid ((Below.refl _ w).alloc (Nat.le_refl _) (.cells (pkC id f t pr tt a mo d) 25))
  clear hL hid hpr htt
  obtain ⟨ha1, ha2⟩ := ha
  by_cases h0 : id < 0
  · have HM := Lib.hid (mayB_no1 (id := id) (pr := pr) (tt := tt) (a := a) (n := d.length) mo (by omega))
    go_enter Try.func31, Try.ntmps31
    go_wp2
    go_ret
    exact ⟨ret_bool (HM.out.symm), HB.out⟩
  by_cases h1 : 65535 < id
  · have HM := Lib.hid (mayB_no1 (id := id) (pr := pr) (tt := tt) (a := a) (n := d.length) mo (by omega))
    go_enter Try.func31, Try.ntmps31
    go_wp2
    go_ret
    exact ⟨ret_bool (HM.out.symm), HB.out⟩
  by_cases h2 : pr < 0
  · have HM := Lib.hid (mayB_no1 (id := id) (pr := pr) (tt := tt) (a := a) (n := d.length) mo (by omega))
    go_enter Try.func31, Try.ntmps31
    go_wp2
    go_ret
    exact ⟨ret_bool (HM.out.symm), HB.out⟩
  by_cases h3 : 255 < pr
  · have HM := Lib.hid (mayB_no1 (id := id) (pr := pr) (tt := tt) (a := a) (n := d.length) mo (by omega))
    go_enter Try.func31, Try.ntmps31
    go_wp2
    go_ret
    exact ⟨ret_bool (HM.out.symm), HB.out⟩
  by_cases h4 : tt < 0
  · have HM := Lib.hid (mayB_no1 (id := id) (pr := pr) (tt := tt) (a := a) (n := d.length) mo (by omega))
    go_enter Try.func31, Try.ntmps31
    go_wp2
    go_ret
    exact ⟨ret_bool (HM.out.symm), HB.out⟩
  by_cases h5 : 255 < tt
  · have HM := Lib.hid (mayB_no1 (id := id) (pr := pr) (tt := tt) (a := a) (n := d.length) mo (by omega))
    go_enter Try.func31, Try.ntmps31
    go_wp2
    go_ret
    exact ⟨ret_bool (HM.out.symm), HB.out⟩
  by_cases h6 : a < 0
  · have HM := Lib.hid (mayB_no1 (id := id) (pr := pr) (tt := tt) (a := a) (n := d.length) mo (by omega))
    go_enter Try.func31, Try.ntmps31
    go_wp2
    go_ret
    exact ⟨ret_bool (HM.out.symm), HB.out⟩
  by_cases h7 : 65528 < a
  · have HM := Lib.hid (mayB_no1 (id := id) (pr := pr) (tt := tt) (a := a) (n := d.length) mo (by omega))
    go_enter Try.func31, Try.ntmps31
    go_wp2
    go_ret
    exact ⟨ret_bool (HM.out.symm), HB.out⟩
  by_cases h8 : ¬ a % 8 = 0
  · have HM := Lib.hid (mayB_no1 (id := id) (pr := pr) (tt := tt) (a := a) (n := d.length) mo (by omega))
    have q1 : (a % 8 != 0) = true := by rw [bne_iff_ne]; exact h8
    clear h8
    go_enter Try.func31, Try.ntmps31
    go_wp2
    go_ret
    exact ⟨ret_bool (HM.out.symm), HB.out⟩
  have q1 : (a % 8 != 0) = false := by rw [bne_eq_false_iff_eq]; omega
  by_cases h9 : 65515 < a + (d.length : Int)
  · have HM := Lib.hid (mayB_no1 (id := id) (pr := pr) (tt := tt) (a := a) (n := d.length) mo (by omega))
    go_enter Try.func31, Try.ntmps31
    go_wp2
    go_ret
    exact ⟨ret_bool (HM.out.symm), HB.out⟩
  have hall : 0 ≤ id ∧ id ≤ 65535 ∧ 0 ≤ pr ∧ pr ≤ 255 ∧ 0 ≤ tt ∧ tt ≤ 255 ∧ 0 ≤ a ∧ a ≤ 65528 ∧ a % 8 = 0 ∧ a + d.length ≤ 65515 := by omega
  have HALL := Lib.hid hall
  clear hall h8
  cases mo
  · have HM := Lib.hid (mayB_ok1 HALL.out)
    go_enter Try.func31, Try.ntmps31
    go_wp2
    go_ret
    exact ⟨ret_bool (HM.out.symm), HB.out⟩
  · by_cases h10 : d.length = 0
    · have HM := Lib.hid (mayB_no2 (id := id) (pr := pr) (tt := tt) (a := a) (n := d.length) (by omega))
      have g2 : ¬ 0 < (d.length : Int) := by omega
      clear h10
      go_enter Try.func31, Try.ntmps31
      go_wp2
      go_ret
      exact ⟨ret_bool (HM.out.symm), HB.out⟩
    · have g2 : 0 < (d.length : Int) := by omega
      by_cases h11 : d.length % 8 = 0
      · have HM := Lib.hid (mayB_ok2 HALL.out ⟨by omega, h11⟩)
        have g3 : ((d.length : Int) % 8 == 0) = true := by rw [beq_iff_eq]; omega
        clear h10 h11
        go_enter Try.func31, Try.ntmps31
        go_wp2
        go_ret
        exact ⟨ret_bool (HM.out.symm), HB.out⟩
      · have HM := Lib.hid (mayB_no2 (id := id) (pr := pr) (tt := tt) (a := a) (n := d.length) (by omega))
        have g3 : ((d.length : Int) % 8 == 0) = false := by rw [beq_eq_false_iff_ne]; omega
        clear h10 h11
        go_enter Try.func31, Try.ntmps31
        go_wp2
        go_ret
        exact ⟨ret_bool (HM.out.symm), HB.out⟩
end Go.Proofs.Yticchchcobjpdaa
