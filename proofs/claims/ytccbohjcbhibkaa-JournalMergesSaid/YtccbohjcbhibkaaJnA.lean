/- The small functions of the journal: Is, Zero, count, Sector, Place, mask. Condition: numbers and texts that a memory can hold. -/
import Derived.Test.YtccbohjcbhibkaaJnP
import Derived.Test.YtccbohjcbhibkaaLaw
import Derived.Test.YtccbohjcbhibkaaRep
import Derived.Deep.RegionHeld3
import Derived.Deep.DeepCutAuto
import Derived.Deep.CutRange
import Derived.Deep.DrawnRows
import Derived.BigRegion
import Derived.BigQuiet
import Derived.IntWalk
namespace Go.Proofs.Ytccbohjcbhibkaa
set_option linter.unusedVariables false
set_option linter.unusedSimpArgs false
set_option maxRecDepth 100000
open Go.RowKit
attribute [local go_sem ↓] Go.wp_at_zero Go.wp_at_succ

theorem is_any (s : List UInt8) (w : World) : Calls Try.prog 37 #[sv s] w fun e w' => e = .returned (.bool (s.length == 64)) ∧ w' = w := by
  have hb : ((s.length : Int) == 64) = (s.length == 64) := by
    rw [Bool.eq_iff_iff, beq_iff_eq, beq_iff_eq]; omega
  go_enter Try.func37, Try.ntmps37
  go_wp2
  go_ret
  exact ⟨by first | rfl | exact congrArg (fun b => Ending.returned (.bool b)) hb | simp, rfl⟩
def z64 : List UInt8 := Lib.repeatL [0] 64
theorem rep_0 (c : Nat) (hc : c ≤ 1000) (w : World) : Calls Try.prog 28 #[.string ⟨#[0]⟩, .int .i64 (c : Int)] w fun e w' => e = .returned (.string ⟨(Lib.repeatL [0] c).toArray⟩) ∧ Below w.heap.size w w' :=
  repeat_any ⟨#[0]⟩ c w (by omega) (by show 1 * c ≤ _; omega)
theorem zero_any (w : World) : Calls Try.prog 41 #[] w fun e w' => e = .returned (sv z64) ∧ Below w.heap.size w w' := by
  have R := Lib.hid (fun w => (rep_0 64 (by decide) w : Calls Try.prog 28 #[.string ⟨#[0]⟩, .int .i64 64] w fun e w' => e = .returned (sv z64) ∧ Below w.heap.size w w'))
  go_enter Try.func41, Try.ntmps41
  go_wp2_with fail
  refine (R.out _).mono ?_
  rintro e w1 ⟨rfl, hb⟩
  go_wp2
  go_ret
  exact ⟨rfl, hb⟩
theorem count_any (n : Int) (w : World) : Calls Try.prog 38 #[.int .i64 n] w fun e w' => e = .returned (.bool (cntB n)) ∧ w' = w := by
  unfold cntB
  by_cases h1 : 1 ≤ n
  · by_cases h2 : n ≤ 2147483647
    · go_enter Try.func38, Try.ntmps38
      go_wp2
      go_ret
      exact ⟨by simp [h1, h2], rfl⟩
    · go_enter Try.func38, Try.ntmps38
      go_wp2
      go_ret
      exact ⟨by simp [h1, h2], rfl⟩
  · go_enter Try.func38, Try.ntmps38
    go_wp2
    go_ret
    exact ⟨by rw [decide_eq_false (show ¬ (1 : Int) ≤ n by omega)]; rfl, rfl⟩
theorem rowAt_in (n : Int) (h0 : 0 ≤ n) (h1 : n < 64) (w : World) : Calls Try.prog 26 #[.int .i64 n] w fun e w' => e = .returned (.tuple #[.int .i64 (51 + n), .bool true]) ∧ w' = w := by
  have hw : IntKind.i64.wrap (51 + n) = 51 + n := IntWalk.i64_in _ ⟨by omega, by omega⟩
  go_enter Try.func26, Try.ntmps26
  go_wp2
  go_ret2
  exact ⟨rfl, rfl⟩
theorem rowAt_out (n : Int) (h : n < 0 ∨ 64 ≤ n) (w : World) : Calls Try.prog 26 #[.int .i64 n] w fun e w' => e = .returned (.tuple #[.int .i64 0, .bool false]) ∧ w' = w := by
  have h2 : n < 0 ∨ (0 ≤ n ∧ 64 ≤ n) := by omega
  clear h
  rcases h2 with h2 | ⟨h2, h3⟩
  all_goals
    go_enter Try.func26, Try.ntmps26
    go_wp2
    go_ret2
    exact ⟨rfl, rfl⟩

theorem size_rec : (Try.prog.info? 29).map (·.size) = some 7 := by kernel_rfl
theorem size_dat : (Try.prog.info? 27).map (·.size) = some 4 := by kernel_rfl

/-- the load of a whole record, under a name of its own -/
noncomputable def Ld (ty : TypeId) (v : Value) : Sem Value := Instr.loadAt ty v
theorem ld_rec (v : Value) : Instr.loadAt 29 v = Ld 29 v := rfl
theorem Blk.ldR {w : World} {b : Nat} {e : TypeId} {r : Rc} (h : Blk w b e (rcC r)) : (Ld 29 (.pointer (some ⟨b, 0, none⟩))).run Try.prog w = .ok (.agg (rcC r)) w := by
  have hr := h.range
  unfold Ld
  have hl := run_loadVar_mid (P := Try.prog) w b 0 29 (rcC r).toList _ hr Try.underlying29 rfl (by rw [Array.length_toList, rcC_size]; exact size_rec)
  simp only [Array.toArray_toList] at hl
  simp only [Instr.loadAt, Instr.sureAddr, Sem.run_bind, Sem.run_pure, Result.andThen_ok, hl]
/-- an array's element, under a name of its own -/
noncomputable def Ix (ty : TypeId) (x i : Value) : Sem Value := Instr.index ty x i
theorem ix_dat (x i : Value) : Instr.index 27 x i = Ix 27 x i := rfl
theorem ix_d (r : Rc) (k : Nat) (hk : k < 4) (w : World) : (Ix 27 (.agg (rcD r)) (.int .i64 (k : Int))).run Try.prog w = .ok (sv (dk r k)) w := by
  obtain rfl | rfl | rfl | rfl : k = 0 ∨ k = 1 ∨ k = 2 ∨ k = 3 := by omega
  · exact (by kernel_rfl : (Ix 27 (.agg (rcD r)) (.int .i64 0)).run Try.prog w = .ok (sv r.d0) w)
  · exact (by kernel_rfl : (Ix 27 (.agg (rcD r)) (.int .i64 1)).run Try.prog w = .ok (sv r.d1) w)
  · exact (by kernel_rfl : (Ix 27 (.agg (rcD r)) (.int .i64 2)).run Try.prog w = .ok (sv r.d2) w)
  · exact (by kernel_rfl : (Ix 27 (.agg (rcD r)) (.int .i64 3)).run Try.prog w = .ok (sv r.d3) w)
attribute [local go_sem ↓] ix_dat

set_option maxHeartbeats 1000000 in
theorem mask_any (r : Rc) (w : World) : Calls Try.prog 39 #[.agg (rcC r)] w fun e w' => e = .returned (.int .i64 (maskR r : Int)) ∧ Below w.heap.size w w' := by
  have HK := Lib.hid (Blk.new w 29 (rcC r) 0 0 (Or.inl (Nat.le_refl _)))
  have HB := Lib.hid ((Below.refl _ w).alloc (Nat.le_refl _) (.cells (rcC r) 29))
  go_enter Try.func39, Try.ntmps39
  go_upto_region 2 with fail
  generalize World.alloc _ _ = w1 at HK HB ⊢
  have hD : ((rcC r).toList.drop 3).take (rcD r).size = (rcD r).toList := rfl
  have tokA : True := trivial
  go_wp2_with (have _t := tokA; refine wpList_load_part rfl 27 _ rfl w.heap.size 3 rfl (rcC r) (rcD r) 29 _ HK.out hD Try.underlying27 rfl size_dat ?_; clear tokA)
  clear hD
  go_loopw [8, 3] (fun i v wr => ∃ k : Nat, k ≤ 4 ∧ i = .int .i64 k ∧ v = .int .i64 (maskK r k : Int) ∧ wr = w1) (fun i _ _ => 4 - (intOf i).toNat)
  case atStart => exact ⟨0, by omega, rfl, rfl, rfl⟩
  case round =>
    obtain ⟨k, hk, rfl, rfl, rfl⟩ := hrel
    by_cases hlt : k < 4
    · have hlt' : (k : Int) < 4 := by omega
      have hix := ix_d r k hlt wr
      have HM0 := Lib.hid (mask_no r k hlt)
      have HM1 := Lib.hid (mask_yes r k hlt)
      have hw : IntKind.i64.wrap (2 ^ k) = (2 : Int) ^ k := by
        match k, hlt with
        | 0, _ | 1, _ | 2, _ | 3, _ => rfl
      generalize dk r k = s at hix HM0 HM1
      by_cases he : s = []
      · subst he
        have HE := Lib.hid (HM0.out rfl)
        clear HM0 HM1 hw
        go_wp2
        go_roundw
        case rel => exact ⟨k + 1, by omega, by go_num, by rw [HE.out], by trivial⟩
        case measure => simp [intOf] <;> omega
      · have he1 : (s == []) = false := beq_eq_false_iff_ne.2 he
        have he2 : (s != []) = true := by rw [bne_iff_ne]; exact he
        have hor := HM1.out (em_ne he)
        clear HM0 HM1
        go_wp2
        go_roundw
        case rel => exact ⟨k + 1, by omega, by go_num, rfl, by trivial⟩
        case measure => simp [intOf] <;> omega
    · have h4 : k = 4 := by omega
      subst h4
      go_wp2
      go_ret
      exact ⟨rfl, HB.out⟩
end Go.Proofs.Ytccbohjcbhibkaa
