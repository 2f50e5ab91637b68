/- may, Head, Commit of the journal. Condition: texts and numbers that a memory can hold. -/
import Derived.Test.YtccbohjcbhibkaaJnC
namespace Go.Proofs.Ytccbohjcbhibkaa
set_option linter.unusedVariables false
set_option linter.unusedSimpArgs false
set_option maxRecDepth 100000
open Go.RowKit
attribute [local go_sem ↓] Go.wp_at_zero Go.wp_at_succ ix_dat ld_rec

def okA (arr : Int) : Bool := decide (1 ≤ arr) && decide (arr ≤ 255)
/-- a head or a commit, if there may be one -/
def mayV (M : List UInt8) (arr : Int) (r : Rc) : List UInt8 × Int := if okA arr && rightB r then (secV M arr r, 0) else ([], 1)
theorem may_yes (M : List UInt8) (arr : Int) (r : Rc) (h1 : 1 ≤ arr) (h2 : arr ≤ 255) (hr : rightB r = true) : mayV M arr r = (secV M arr r, 0) := by
  unfold mayV okA
  rw [decide_eq_true h1, decide_eq_true h2, hr]; rfl
theorem may_no (M : List UInt8) (arr : Int) (r : Rc) (hr : rightB r = false) : mayV M arr r = ([], 1) := by
  unfold mayV
  rw [hr, Bool.and_false]; rfl
theorem may_out (M : List UInt8) (arr : Int) (r : Rc) (h : arr < 1 ∨ 255 < arr) : mayV M arr r = ([], 1) := by
  unfold mayV okA
  have e : (decide (1 ≤ arr) && decide (arr ≤ 255)) = false := by
    rw [Bool.and_eq_false_iff, decide_eq_false_iff_not, decide_eq_false_iff_not]; omega
  rw [e]; rfl
def Data (r : Rc) : Prop := ∀ k, (dk r k).length ≤ maxLen

set_option maxHeartbeats 1000000 in
theorem may_any (M : List UInt8) (hM : M.length = 4) (arr : Int) (r : Rc) (hs : Data r) (w : World) : Calls Try.prog 36 #[sv M, .int .i64 arr, .agg (rcC r)] w fun e w' => e = .returned (.tuple #[sv (mayV M arr r).1, .int .i64 (mayV M arr r).2]) ∧ Below w.heap.size w w' := by
  have RT := Lib.hid (fun w => right_any r hs w)
  have SC := Lib.hid (fun w => sector_any M hM arr r w)
  have HK := Lib.hid (Blk.new w 29 (rcC r) 0 0 (Or.inl (Nat.le_refl _)))
  have HB := Lib.hid ((Below.refl _ w).alloc (Nat.le_refl _) (.cells (rcC r) 29))
  by_cases h0 : arr < 1 ∨ 255 < arr
  · have HV := Lib.hid (may_out M arr r h0)
    have h1 : arr < 1 ∨ (1 ≤ arr ∧ 255 < arr) := by omega
    clear h0
    rcases h1 with h1 | ⟨h1, h2⟩
    all_goals
      go_enter Try.func36, Try.ntmps36
      go_wp2
      go_ret2
      exact ⟨by rw [HV.out]; rfl, HB.out⟩
  · have h1 : 1 ≤ arr := by omega
    have h2 : arr ≤ 255 := by omega
    have HA := Lib.hid (fun (hr : rightB r = true) => may_yes M arr r h1 h2 hr)
    have HN := Lib.hid (may_no M arr r)
    generalize rightB r = b at RT HA HN
    clear h0
    go_enter Try.func36, Try.ntmps36
    go_upto_region 1 with fail
    generalize World.alloc _ _ = w1 at HK HB ⊢
    have hld := HK.out.ldR
    go_wp2_with fail
    refine (RT.out _).mono ?_
    rintro e w2 ⟨rfl, hb⟩
    have HK2 := Lib.hid (HK.out.step hb)
    have HB2 := Lib.hid (Below.step HB.out hb)
    clear hb hld HK HB
    cases b
    · have HV := Lib.hid (HN.out rfl)
      go_wp2
      go_ret2
      exact ⟨by rw [HV.out]; rfl, HB2.out⟩
    · have HV := Lib.hid (HA.out rfl)
      have hld := HK2.out.ldR
      go_wp2_with fail
      refine (SC.out _).mono ?_
      rintro e w3 ⟨rfl, hb⟩
      have HB3 := Lib.hid (Below.step HB2.out hb)
      clear hb hld
      go_wp2
      go_ret2
      exact ⟨by rw [HV.out]; rfl, HB3.out⟩
def mgH : List UInt8 := [74, 72, 68, 1]
def mgC : List UInt8 := [74, 67, 77, 1]
theorem head_any (arr : Int) (r : Rc) (hs : Data r) (w : World) : Calls Try.prog 14 #[.int .i64 arr, .agg (rcC r)] w fun e w' => e = .returned (.tuple #[sv (mayV mgH arr r).1, .int .i64 (mayV mgH arr r).2]) ∧ Below w.heap.size w w' := by
  have MY := Lib.hid (fun w => (may_any mgH rfl arr r hs w : Calls Try.prog 36 #[.string ⟨#[74, 72, 68, 1]⟩, .int .i64 arr, .agg (rcC r)] w _))
  have HK := Lib.hid (Blk.new w 29 (rcC r) 0 0 (Or.inl (Nat.le_refl _)))
  have HB := Lib.hid ((Below.refl _ w).alloc (Nat.le_refl _) (.cells (rcC r) 29))
  generalize mayV mgH arr r = V at MY ⊢
  go_enter Try.func14, Try.ntmps14
  go_upto_region 1 with fail
  generalize World.alloc _ _ = w1 at HK HB ⊢
  have hld := HK.out.ldR
  go_wp2_with fail
  refine (MY.out _).mono ?_
  rintro e w2 ⟨rfl, hb⟩
  have HB2 := Lib.hid (Below.step HB.out hb)
  clear hb
  go_wp2
  go_ret2
  exact ⟨rfl, HB2.out⟩
theorem commit_any (arr : Int) (r : Rc) (hs : Data r) (w : World) : Calls Try.prog 15 #[.int .i64 arr, .agg (rcC r)] w fun e w' => e = .returned (.tuple #[sv (mayV mgC arr r).1, .int .i64 (mayV mgC arr r).2]) ∧ Below w.heap.size w w' := by
  have MY := Lib.hid (fun w => (may_any mgC rfl arr r hs w : Calls Try.prog 36 #[.string ⟨#[74, 67, 77, 1]⟩, .int .i64 arr, .agg (rcC r)] w _))
  have HK := Lib.hid (Blk.new w 29 (rcC r) 0 0 (Or.inl (Nat.le_refl _)))
  have HB := Lib.hid ((Below.refl _ w).alloc (Nat.le_refl _) (.cells (rcC r) 29))
  generalize mayV mgC arr r = V at MY ⊢
  go_enter Try.func15, Try.ntmps15
  go_upto_region 1 with fail
  generalize World.alloc _ _ = w1 at HK HB ⊢
  have hld := HK.out.ldR
  go_wp2_with fail
  refine (MY.out _).mono ?_
  rintro e w2 ⟨rfl, hb⟩
  have HB2 := Lib.hid (Below.step HB.out hb)
  clear hb
  go_wp2
  go_ret2
  exact ⟨rfl, HB2.out⟩
end Go.Proofs.Ytccbohjcbhibkaa
