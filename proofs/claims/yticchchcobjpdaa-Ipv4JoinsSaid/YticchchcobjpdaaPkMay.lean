/- Whether a packet may be: what package ipv4 says and what the reference says. -/
import Derived.Test.YticchchcobjpdaaPk
namespace Go.Proofs.Yticchchcobjpdaa
set_option linter.unusedVariables false
set_option maxRecDepth 100000
open Go.RowKit
attribute [local go_sem ↓] Go.wp_at_zero Go.wp_at_succ
attribute [local go_sem ↓] ld_pk ld_ip

def byB (x : Int) : Bool := decide (0 ≤ x ∧ x ≤ 255)

theorem byteful_any (x : Int) (w : World) : Calls Try.prog 52 #[.int .i64 x] w fun e w' => e = .returned (.bool (byB x)) ∧ w = w' := by
  by_cases h1 : 0 ≤ x
  · by_cases h2 : x ≤ 255
    · go_enter Try.func52, Try.ntmps52
      go_wp2
      go_ret
      exact ⟨by simp [byB, h1, h2], rfl⟩
    · go_enter Try.func52, Try.ntmps52
      go_wp2
      go_ret
      exact ⟨by simp [byB, h2], rfl⟩
  · go_enter Try.func52, Try.ntmps52
    go_wp2
    go_ret
    exact ⟨by simp [byB]; omega, rfl⟩

theorem mayB_yes {id pr tt a : Int} {mo : Bool} {n : Nat} (h : mayB id pr tt a mo n = true) : 0 ≤ id ∧ id ≤ 65535 ∧ 0 ≤ pr ∧ pr ≤ 255 ∧ 0 ≤ tt ∧ tt ≤ 255 ∧ 0 ≤ a ∧ a ≤ 65528 ∧ a % 8 = 0 ∧ a + n ≤ 65515 ∧ (mo = true → 0 < n ∧ n % 8 = 0) := by
  unfold mayB at h
  rw [Bool.and_eq_true, decide_eq_true_eq] at h
  obtain ⟨⟨h1, h2, h3, h4, h5, h6, h7, h8, h9, h10⟩, h11⟩ := h
  refine ⟨h1, h2, h3, h4, h5, h6, h7, h8, h9, h10, fun hm => ?_⟩
  subst hm
  simpa using h11
theorem mayB_no1 {id pr tt a : Int} (mo : Bool) {n : Nat} (h : ¬ (0 ≤ id ∧ id ≤ 65535 ∧ 0 ≤ pr ∧ pr ≤ 255 ∧ 0 ≤ tt ∧ tt ≤ 255 ∧ 0 ≤ a ∧ a ≤ 65528 ∧ a % 8 = 0 ∧ a + n ≤ 65515)) : mayB id pr tt a mo n = false := by
  rw [mayB, decide_eq_false h, Bool.false_and]
theorem mayB_no2 {id pr tt a : Int} {n : Nat} (h : ¬ (0 < n ∧ n % 8 = 0)) : mayB id pr tt a true n = false := by
  rw [mayB, decide_eq_false h]
  simp
theorem mayB_ok1 {id pr tt a : Int} {n : Nat} (h : 0 ≤ id ∧ id ≤ 65535 ∧ 0 ≤ pr ∧ pr ≤ 255 ∧ 0 ≤ tt ∧ tt ≤ 255 ∧ 0 ≤ a ∧ a ≤ 65528 ∧ a % 8 = 0 ∧ a + n ≤ 65515) : mayB id pr tt a false n = true := by
  rw [mayB, decide_eq_true h]; rfl
theorem mayB_ok2 {id pr tt a : Int} {n : Nat} (h : 0 ≤ id ∧ id ≤ 65535 ∧ 0 ≤ pr ∧ pr ≤ 255 ∧ 0 ≤ tt ∧ tt ≤ 255 ∧ 0 ≤ a ∧ a ≤ 65528 ∧ a % 8 = 0 ∧ a + n ≤ 65515) (h2 : 0 < n ∧ n % 8 = 0) : mayB id pr tt a true n = true := by
  rw [mayB, decide_eq_true h, decide_eq_true h2]; rfl

set_option maxHeartbeats 2000000 in
theorem may_any (id : Int) (f t : List UInt8) (pr tt a : Int) (mo : Bool) (d : List UInt8) (hL : PkL f t) (hid : -9223372036854775808 ≤ id ∧ id ≤ 9223372036854775807) (hpr : -9223372036854775808 ≤ pr ∧ pr ≤ 9223372036854775807)
    (htt : -9223372036854775808 ≤ tt ∧ tt ≤ 9223372036854775807) (ha : -9223372036854775808 ≤ a ∧ a ≤ 9223372036854775807) (hd : d.length ≤ 9223372036854775807) (w : World) :
    Calls Try.prog 28 #[.agg (pkC id f t pr tt a mo d)] w fun e w' => e = .returned (.bool (mayB id pr tt a mo d.length)) ∧ Below w.heap.size w w' := by
  obtain ⟨c0, c9, c10, c11, c12, c13⟩ := pk_at (Blk.new w 25 (pkC id f t pr tt a mo d) 0 0 (Or.inl (Nat.le_refl _))) hL
  have HB := Lib.hid ((Below.refl _ w).alloc (Nat.le_refl _) (.cells (pkC id f t pr tt a mo d) 25))
  clear hL hid hpr htt
  obtain ⟨ha1, ha2⟩ := ha
  by_cases h1 : id < 0
  · have HM := Lib.hid (mayB_no1 (id := id) (pr := pr) (tt := tt) (a := a) (n := d.length) mo (by omega))
    go_enter Try.func28, Try.ntmps28
    go_wp2
    go_ret
    exact ⟨ret_bool (HM.out.symm), HB.out⟩
  by_cases h2 : 65535 < id
  · have HM := Lib.hid (mayB_no1 (id := id) (pr := pr) (tt := tt) (a := a) (n := d.length) mo (by omega))
    go_enter Try.func28, Try.ntmps28
    go_wp2
    go_ret
    exact ⟨ret_bool (HM.out.symm), HB.out⟩
  by_cases h3 : pr < 0 ∨ 255 < pr
  · have HM := Lib.hid (mayB_no1 (id := id) (pr := pr) (tt := tt) (a := a) (n := d.length) mo (by omega))
    have p1 : byB pr = false := by simp [byB]; omega
    go_enter Try.func28, Try.ntmps28
    go_wp2_with fail
    refine (byteful_any pr _).mono ?_
    rintro e w1 ⟨rfl, rfl⟩
    rw [p1]
    go_wp2
    go_ret
    exact ⟨ret_bool (HM.out.symm), HB.out⟩
  have p1 : byB pr = true := by simp [byB]; omega
  by_cases h4 : tt < 0 ∨ 255 < tt
  · have HM := Lib.hid (mayB_no1 (id := id) (pr := pr) (tt := tt) (a := a) (n := d.length) mo (by omega))
    have p2 : byB tt = false := by simp [byB]; omega
    have P1 := Lib.hid p1
    have P2 := Lib.hid p2
    clear p1 p2
    go_enter Try.func28, Try.ntmps28
    go_wp2_with fail
    refine (byteful_any pr _).mono ?_
    rintro e w1 ⟨rfl, rfl⟩
    rw [P1.out]
    go_wp2_with fail
    refine (byteful_any tt _).mono ?_
    rintro e w1 ⟨rfl, rfl⟩
    rw [P2.out]
    go_wp2
    go_ret
    exact ⟨ret_bool (HM.out.symm), HB.out⟩
  have p2 : byB tt = true := by simp [byB]; omega
  have P1 := Lib.hid p1
  have P2 := Lib.hid p2
  have h3' : 0 ≤ pr ∧ pr ≤ 255 := by omega
  have h4' : 0 ≤ tt ∧ tt ≤ 255 := by omega
  have H3 := Lib.hid h3'
  have H4 := Lib.hid h4'
  clear p1 p2 h3 h4 h3' h4'
  by_cases h5 : a < 0
  · have HM := Lib.hid (mayB_no1 (id := id) (pr := pr) (tt := tt) (a := a) (n := d.length) mo (by omega))
    go_enter Try.func28, Try.ntmps28
    go_wp2_with fail
    refine (byteful_any pr _).mono ?_
    rintro e w1 ⟨rfl, rfl⟩
    rw [P1.out]
    go_wp2_with fail
    refine (byteful_any tt _).mono ?_
    rintro e w1 ⟨rfl, rfl⟩
    rw [P2.out]
    go_wp2
    go_ret
    exact ⟨ret_bool (HM.out.symm), HB.out⟩
  by_cases h6 : 65528 < a
  · have HM := Lib.hid (mayB_no1 (id := id) (pr := pr) (tt := tt) (a := a) (n := d.length) mo (by omega))
    go_enter Try.func28, Try.ntmps28
    go_wp2_with fail
    refine (byteful_any pr _).mono ?_
    rintro e w1 ⟨rfl, rfl⟩
    rw [P1.out]
    go_wp2_with fail
    refine (byteful_any tt _).mono ?_
    rintro e w1 ⟨rfl, rfl⟩
    rw [P2.out]
    go_wp2
    go_ret
    exact ⟨ret_bool (HM.out.symm), HB.out⟩
  by_cases h7 : ¬ a % 8 = 0
  · have HM := Lib.hid (mayB_no1 (id := id) (pr := pr) (tt := tt) (a := a) (n := d.length) mo (by omega))
    have q1 : (a % 8 != 0) = true := by rw [bne_iff_ne]; exact h7
    clear h7
    go_enter Try.func28, Try.ntmps28
    go_wp2_with fail
    refine (byteful_any pr _).mono ?_
    rintro e w1 ⟨rfl, rfl⟩
    rw [P1.out]
    go_wp2_with fail
    refine (byteful_any tt _).mono ?_
    rintro e w1 ⟨rfl, rfl⟩
    rw [P2.out]
    go_wp2
    go_ret
    exact ⟨ret_bool (HM.out.symm), HB.out⟩
  have q1 : (a % 8 != 0) = false := by rw [bne_eq_false_iff_eq]; omega
  by_cases h8 : 65515 < a + d.length
  · have HM := Lib.hid (mayB_no1 (id := id) (pr := pr) (tt := tt) (a := a) (n := d.length) mo (by omega))
    have g1 : ¬ (d.length : Int) ≤ 65515 - a := by omega
    go_enter Try.func28, Try.ntmps28
    go_wp2_with fail
    refine (byteful_any pr _).mono ?_
    rintro e w1 ⟨rfl, rfl⟩
    rw [P1.out]
    go_wp2_with fail
    refine (byteful_any tt _).mono ?_
    rintro e w1 ⟨rfl, rfl⟩
    rw [P2.out]
    go_wp2
    go_ret
    exact ⟨ret_bool (HM.out.symm), HB.out⟩
  have g1 : (d.length : Int) ≤ 65515 - a := by omega
  have hall : 0 ≤ id ∧ id ≤ 65535 ∧ 0 ≤ pr ∧ pr ≤ 255 ∧ 0 ≤ tt ∧ tt ≤ 255 ∧ 0 ≤ a ∧ a ≤ 65528 ∧ a % 8 = 0 ∧ a + d.length ≤ 65515 := by have := H3.out; have := H4.out; omega
  have HALL := Lib.hid hall
  clear hall h7
  cases mo
  · have HM := Lib.hid (mayB_ok1 HALL.out)
    go_enter Try.func28, Try.ntmps28
    go_wp2_with fail
    refine (byteful_any pr _).mono ?_
    rintro e w1 ⟨rfl, rfl⟩
    rw [P1.out]
    go_wp2_with fail
    refine (byteful_any tt _).mono ?_
    rintro e w1 ⟨rfl, rfl⟩
    rw [P2.out]
    go_wp2
    go_ret
    exact ⟨ret_bool (HM.out.symm), HB.out⟩
  · by_cases h9 : d.length = 0
    · have HM := Lib.hid (mayB_no2 (id := id) (pr := pr) (tt := tt) (a := a) (n := d.length) (by omega))
      have g2 : ¬ 0 < (d.length : Int) := by omega
      clear h9
      go_enter Try.func28, Try.ntmps28
      go_wp2_with fail
      refine (byteful_any pr _).mono ?_
      rintro e w1 ⟨rfl, rfl⟩
      rw [P1.out]
      go_wp2_with fail
      refine (byteful_any tt _).mono ?_
      rintro e w1 ⟨rfl, rfl⟩
      rw [P2.out]
      go_wp2
      go_ret
      exact ⟨ret_bool (HM.out.symm), HB.out⟩
    · have g2 : 0 < (d.length : Int) := by omega
      by_cases h10 : d.length % 8 = 0
      · have HM := Lib.hid (mayB_ok2 HALL.out ⟨by omega, h10⟩)
        have g3 : ((d.length : Int) % 8 == 0) = true := by rw [beq_iff_eq]; omega
        clear h9 h10
        go_enter Try.func28, Try.ntmps28
        go_wp2_with fail
        refine (byteful_any pr _).mono ?_
        rintro e w1 ⟨rfl, rfl⟩
        rw [P1.out]
        go_wp2_with fail
        refine (byteful_any tt _).mono ?_
        rintro e w1 ⟨rfl, rfl⟩
        rw [P2.out]
        go_wp2
        go_ret
        exact ⟨ret_bool (HM.out.symm), HB.out⟩
      · have HM := Lib.hid (mayB_no2 (id := id) (pr := pr) (tt := tt) (a := a) (n := d.length) (by omega))
        have g3 : ((d.length : Int) % 8 == 0) = false := by rw [beq_eq_false_iff_ne]; omega
        clear h9 h10
        go_enter Try.func28, Try.ntmps28
        go_wp2_with fail
        refine (byteful_any pr _).mono ?_
        rintro e w1 ⟨rfl, rfl⟩
        rw [P1.out]
        go_wp2_with fail
        refine (byteful_any tt _).mono ?_
        rintro e w1 ⟨rfl, rfl⟩
        rw [P2.out]
        go_wp2
        go_ret
        exact ⟨ret_bool (HM.out.symm), HB.out⟩
end Go.Proofs.Yticchchcobjpdaa
