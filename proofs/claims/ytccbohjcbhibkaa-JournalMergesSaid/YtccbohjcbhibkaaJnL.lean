/- slot of the law: a record's six sectors, or six texts that are none. Condition: texts that a memory can hold. -/
import Derived.Test.YtccbohjcbhibkaaJnK
namespace Go.Proofs.Ytccbohjcbhibkaa
set_option linter.unusedVariables false
set_option linter.unusedSimpArgs false
set_option maxRecDepth 100000
open Go.RowKit
attribute [local go_sem ↓] Go.wp_at_zero Go.wp_at_succ ix_dat ld_rec

/-- a record's six sectors; none: it is not right -/
def sixV (arr : Int) (r : Rc) : List (List UInt8) := if okA arr && rightB r then [secV mgH arr r, r.d0, r.d1, r.d2, r.d3, secV mgC arr r] else [[], [], [], [], [], []]
theorem sixV_len (arr : Int) (r : Rc) : (sixV arr r).length = 6 := by unfold sixV; split <;> rfl
theorem made_six : madeCells #[Value.string ⟨#[]⟩] 6 = (([[], [], [], [], [], []] : List (List UInt8)).map encStr).toArray := by kernel_rfl
theorem Blk.dat {w : World} {b : Nat} {e : TypeId} {r : Rc} (h : Blk w b e (rcC r)) : w.cell? ⟨b, 3, none⟩ = some (sv r.d0) ∧ w.cell? ⟨b, 4, none⟩ = some (sv r.d1) ∧ w.cell? ⟨b, 5, none⟩ = some (sv r.d2) ∧ w.cell? ⟨b, 6, none⟩ = some (sv r.d3) :=
  ⟨h.cell 3, h.cell 4, h.cell 5, h.cell 6⟩

set_option maxHeartbeats 1000000 in
theorem six_any (arr : Int) (r : Rc) (hs : Data r) (w : World) : Calls Try.prog 20 #[.int .i64 arr, .agg (rcC r)] w fun e w' => ∃ v, e = .returned v ∧ w'.ownsRow w.heap.size 9 1 v 6 ((sixV arr r).map encStr) ∧ Below w.heap.size w w' := by
  have HD := Lib.hid (fun w => head_any arr r hs w)
  have CM := Lib.hid (fun w => commit_any arr r hs w)
  have hk0 := Blk.new w 29 (rcC r) 0 0 (Or.inl (Nat.le_refl _))
  have hb0 := (Below.refl _ w).alloc (Nat.le_refl _) (.cells (rcC r) 29)
  have HV : Hid (sixV arr r = if okA arr && rightB r then [secV mgH arr r, r.d0, r.d1, r.d2, r.d3, secV mgC arr r] else [[], [], [], [], [], []]) := rfl
  unfold mayV at HD CM
  generalize secV mgH arr r = h at HD HV
  generalize secV mgC arr r = c at CM HV
  generalize (okA arr && rightB r) = b at HD CM HV
  obtain ⟨i0, hi, hz0, hz1, hz2⟩ := info_parts str_info
  have hmk := fun w => run_make (P := Try.prog) w 41 9 i0 (.string ⟨#[]⟩) Try.underlying41 hi hz0 .i64 .i64 6 6 (by omega) (by omega) (by rw [hz2]; omega) (by omega)
  rw [hz1] at hmk
  have e64 : (6 : Int).toNat = 6 := rfl
  simp only [e64] at hmk
  clear hi hz0 hz1 hz2 e64
  go_enter Try.func20, Try.ntmps20
  go_upto_region 1 with fail
  generalize World.alloc _ _ = w1 at hk0 hb0 ⊢
  have HK0 := Lib.hid hk0
  have HB0 := Lib.hid hb0
  clear hk0 hb0
  have hld := HK0.out.ldR
  cases b
  all_goals
    go_wp2_with fail
    refine (HD.out _).mono ?_
    rintro e w2 ⟨rfl, hb⟩
    have HK2 := Lib.hid (HK0.out.step hb)
    have HB2 := Lib.hid (Below.step HB0.out hb)
    clear hb hld HK0 HB0
    have hld := HK2.out.ldR
    go_wp2_with fail
    refine (CM.out _).mono ?_
    rintro e w3 ⟨rfl, hb⟩
    have HK3 := Lib.hid (HK2.out.step hb)
    have HB3 := Lib.hid (Below.step HB2.out hb)
    clear hb hld HK2 HB2
  · have HO := Lib.hid (own_new w3 w.heap.size (madeCells #[Value.string ⟨#[]⟩] 6) [[], [], [], [], [], []] made_six 6 rfl (by decide) HB3.out.size)
    have HB4 := Lib.hid (HB3.out.alloc HB3.out.size (.cells (madeCells #[Value.string ⟨#[]⟩] 6) 9))
    go_wp2
    go_ret
    exact ⟨_, rfl, by rw [HV.out]; exact HO.out, HB4.out⟩
  · have HO := Lib.hid (own_new w3 w.heap.size #[sv h, sv r.d0, sv r.d1, sv r.d2, sv r.d3, sv c] [h, r.d0, r.d1, r.d2, r.d3, c] rfl 6 rfl (by simp [maxLen]) HB3.out.size)
    have HB4 := Lib.hid (HB3.out.alloc HB3.out.size (.cells #[sv h, sv r.d0, sv r.d1, sv r.d2, sv r.d3, sv c] 9))
    obtain ⟨hc0, hc1, hc2, hc3⟩ := HK3.out.dat
    go_wp2
    go_ret
    exact ⟨_, rfl, by rw [HV.out]; exact HO.out, HB4.out⟩
end Go.Proofs.Ytccbohjcbhibkaa
