/- The walk through the law ParityKnown: it answers true. No condition. -/
import Derived.Test.YtlocjjaipahhoaaPaM
namespace Go.Proofs.Ytlocjjaipahhoaa
set_option linter.unusedVariables false
set_option linter.unusedSimpArgs false
set_option maxRecDepth 100000
open Go.RowKit
attribute [local go_sem ↓] Go.wp_at_zero Go.wp_at_succ

set_option maxHeartbeats 2000000 in
theorem parityKnown_walk (w : World) : Calls Try.prog 8 #[] w fun e w' => e = .returned (.bool true) ∧ Below w.heap.size w w' := by
  have fa := Lib.hid (fun w => full_any 1 w)
  have fb := Lib.hid (fun w => full_any 3 w)
  have fs := Lib.hid (fun w => full_any 2 w)
  have fz := Lib.hid (fun w => full_any 0 w)
  have s1 := Lib.hid (fun w => sum_new [full 1, full 3] (by decide) (by decide +kernel) #[.string ⟨(full 1).toArray⟩, .string ⟨(full 3).toArray⟩] rfl 2 rfl w)
  have s2 := Lib.hid (fun w => sum_new [full 1, full 1] (by decide) (by decide +kernel) #[.string ⟨(full 1).toArray⟩, .string ⟨(full 1).toArray⟩] rfl 2 rfl w)
  have s3 := Lib.hid (fun w => sum_new [full 1, [120]] (by decide) (by decide +kernel) #[.string ⟨(full 1).toArray⟩, .string ⟨#[120]⟩] rfl 2 rfl w)
  have z0 := Lib.hid (fun w => zero_any w)
  have s0 := Lib.hid (fun w => paSum_any none 0 [] (by decide) (by simp) w (Or.inl rfl))
  have d0 := Lib.hid (fun w => delta_any (full 2) (full 1) (full 0) (by decide +kernel) (by decide +kernel) (by decide +kernel) w)
  have m1 := Lib.hid (fun w => miss_new [full 1, [63], full 2] (1) (by decide) (by decide) (by decide +kernel) #[.string ⟨(full 1).toArray⟩, .string ⟨#[63]⟩, .string ⟨(full 2).toArray⟩] rfl 3 rfl w)
  have m2 := Lib.hid (fun w => miss_new [full 1] (1) (by decide) (by decide) (by decide +kernel) #[.string ⟨(full 1).toArray⟩] rfl 1 rfl w)
  have m3 := Lib.hid (fun w => miss_new [full 1] (-1) (by decide) (by decide) (by decide +kernel) #[.string ⟨(full 1).toArray⟩] rfl 1 rfl w)
  have m4 := Lib.hid (fun w => miss_new [[63]] (0) (by decide) (by decide) (by decide +kernel) #[.string ⟨#[63]⟩] rfl 1 rfl w)
  have r1 := Lib.hid (fun w => right_new [full 1, full 3, full 2] (by decide) (by decide +kernel) #[.string ⟨(full 1).toArray⟩, .string ⟨(full 3).toArray⟩, .string ⟨(full 2).toArray⟩] rfl 3 rfl w)
  have r3 := Lib.hid (fun w => right_new [full 1] (by decide) (by decide +kernel) #[.string ⟨(full 1).toArray⟩] rfl 1 rfl w)
  have r4 := Lib.hid (fun w => right_new [[]] (by decide) (by decide +kernel) #[.string ⟨#[]⟩] rfl 1 rfl w)
  have r2 := Lib.hid (fun w => right_any none 0 [] (by decide) (by simp) w (Or.inl rfl))
  have k := Lib.hid (fun w => wakes_any w)
  have i1 := Lib.hid (fun w => pa_is (full 1) w)
  have i2 := Lib.hid (fun w => pa_is [] w)
  have e_s1 : paV [full 1, full 3] = (full 2, 0) := by decide +kernel
  rw [e_s1] at s1
  have e_s2 : paV [full 1, full 1] = (full 0, 0) := by decide +kernel
  rw [e_s2] at s2
  have e_s3 : paV [full 1, [120]] = ([], 1) := by decide +kernel
  rw [e_s3] at s3
  have e_d0 : paV [full 2, full 1, full 0] = (full 3, 0) := by decide +kernel
  rw [e_d0] at d0
  have e_m1 : miV [full 1, [63], full 2] (1) = (full 3, 0) := by decide +kernel
  rw [e_m1] at m1
  have e_m2 : miV [full 1] (1) = ([], 1) := by decide +kernel
  rw [e_m2] at m2
  have e_m3 : miV [full 1] (-1) = ([], 1) := by decide +kernel
  rw [e_m3] at m3
  have e_m4 : miV [[63]] (0) = (full 0, 0) := by decide +kernel
  rw [e_m4] at m4
  have e_r1 : riV [full 1, full 3, full 2] = true := by decide +kernel
  rw [e_r1] at r1
  have e_r3 : riV [full 1] = false := by decide +kernel
  rw [e_r3] at r3
  have e_r4 : riV [[]] = false := by decide +kernel
  rw [e_r4] at r4
  have e_r2 : riV [] = true := by decide +kernel
  rw [e_r2] at r2
  have e_s0 : paV [] = (full 0, 0) := by decide +kernel
  rw [e_s0] at s0
  have e_z0 : z64 = full 0 := by decide +kernel
  rw [e_z0] at z0
  have e_i1 : ((full 1).length == 64) = true := by decide +kernel
  have e_i2 : (([] : List UInt8).length == 64) = false := by decide +kernel
  rw [e_i1] at i1
  rw [e_i2] at i2
  clear e_s1 e_s2 e_s3 e_d0 e_m1 e_m2 e_m3 e_m4 e_r1 e_r3 e_r4 e_r2 e_s0 e_z0 e_i1 e_i2
  obtain ⟨xa, ea⟩ : ∃ x, full 1 = x := ⟨_, rfl⟩
  obtain ⟨xb, eb⟩ : ∃ x, full 3 = x := ⟨_, rfl⟩
  obtain ⟨xs, es⟩ : ∃ x, full 2 = x := ⟨_, rfl⟩
  obtain ⟨xz, ez⟩ : ∃ x, full 0 = x := ⟨_, rfl⟩
  (try rw [ea] at fa); (try rw [eb] at fa); (try rw [es] at fa); (try rw [ez] at fa)
  (try rw [ea] at fb); (try rw [eb] at fb); (try rw [es] at fb); (try rw [ez] at fb)
  (try rw [ea] at fs); (try rw [eb] at fs); (try rw [es] at fs); (try rw [ez] at fs)
  (try rw [ea] at fz); (try rw [eb] at fz); (try rw [es] at fz); (try rw [ez] at fz)
  (try rw [ea] at s1); (try rw [eb] at s1); (try rw [es] at s1); (try rw [ez] at s1)
  (try rw [ea] at s2); (try rw [eb] at s2); (try rw [es] at s2); (try rw [ez] at s2)
  (try rw [ea] at s3); (try rw [eb] at s3); (try rw [es] at s3); (try rw [ez] at s3)
  (try rw [ea] at z0); (try rw [eb] at z0); (try rw [es] at z0); (try rw [ez] at z0)
  (try rw [ea] at s0); (try rw [eb] at s0); (try rw [es] at s0); (try rw [ez] at s0)
  (try rw [ea] at d0); (try rw [eb] at d0); (try rw [es] at d0); (try rw [ez] at d0)
  (try rw [ea] at m1); (try rw [eb] at m1); (try rw [es] at m1); (try rw [ez] at m1)
  (try rw [ea] at m2); (try rw [eb] at m2); (try rw [es] at m2); (try rw [ez] at m2)
  (try rw [ea] at m3); (try rw [eb] at m3); (try rw [es] at m3); (try rw [ez] at m3)
  (try rw [ea] at m4); (try rw [eb] at m4); (try rw [es] at m4); (try rw [ez] at m4)
  (try rw [ea] at r1); (try rw [eb] at r1); (try rw [es] at r1); (try rw [ez] at r1)
  (try rw [ea] at r3); (try rw [eb] at r3); (try rw [es] at r3); (try rw [ez] at r3)
  (try rw [ea] at r4); (try rw [eb] at r4); (try rw [es] at r4); (try rw [ez] at r4)
  (try rw [ea] at r2); (try rw [eb] at r2); (try rw [es] at r2); (try rw [ez] at r2)
  (try rw [ea] at k); (try rw [eb] at k); (try rw [es] at k); (try rw [ez] at k)
  (try rw [ea] at i1); (try rw [eb] at i1); (try rw [es] at i1); (try rw [ez] at i1)
  (try rw [ea] at i2); (try rw [eb] at i2); (try rw [es] at i2); (try rw [ez] at i2)
  clear ea eb es ez
  go_enter Try.func8, Try.ntmps8
  go_wp2_with fail
  refine (fa.out _).mono ?_
  rintro e u0 ⟨rfl, hb⟩
  have HB0 := Lib.hid (hb)
  clear hb
  go_wp2_with fail
  refine (fb.out _).mono ?_
  rintro e u1 ⟨rfl, hb⟩
  have HB1 := Lib.hid (Below.step HB0.out hb)
  clear hb HB0
  go_wp2_with fail
  refine (s0.out _).mono ?_
  rintro e u2 ⟨rfl, hb⟩
  have HB2 := Lib.hid (Below.step HB1.out hb)
  clear hb HB1
  go_wp2_with fail
  refine (s1.out _).mono ?_
  rintro e u3 ⟨rfl, hb⟩
  have HB3 := Lib.hid (Below.step HB2.out hb)
  clear hb HB2
  go_wp2_with fail
  refine (s2.out _).mono ?_
  rintro e u4 ⟨rfl, hb⟩
  have HB4 := Lib.hid (Below.step HB3.out hb)
  clear hb HB3
  go_wp2_with fail
  refine (s3.out _).mono ?_
  rintro e u5 ⟨rfl, hb⟩
  have HB5 := Lib.hid (Below.step HB4.out hb)
  clear hb HB4
  go_wp2_with fail
  refine (z0.out _).mono ?_
  rintro e u6 ⟨rfl, hb⟩
  have HB6 := Lib.hid (Below.step HB5.out hb)
  clear hb HB5
  go_wp2_with fail
  refine (d0.out _).mono ?_
  rintro e u7 ⟨rfl, hb⟩
  have HB7 := Lib.hid (Below.step HB6.out hb)
  clear hb HB6
  go_wp2_with fail
  refine (m1.out _).mono ?_
  rintro e u8 ⟨rfl, hb⟩
  have HB8 := Lib.hid (Below.step HB7.out hb)
  clear hb HB7
  go_wp2_with fail
  refine (m2.out _).mono ?_
  rintro e u9 ⟨rfl, hb⟩
  have HB9 := Lib.hid (Below.step HB8.out hb)
  clear hb HB8
  go_wp2_with fail
  refine (m3.out _).mono ?_
  rintro e u10 ⟨rfl, hb⟩
  have HB10 := Lib.hid (Below.step HB9.out hb)
  clear hb HB9
  go_wp2_with fail
  refine (m4.out _).mono ?_
  rintro e u11 ⟨rfl, hb⟩
  have HB11 := Lib.hid (Below.step HB10.out hb)
  clear hb HB10
  go_wp2_with fail
  refine (fz.out _).mono ?_
  rintro e u12 ⟨rfl, hb⟩
  have HB12 := Lib.hid (Below.step HB11.out hb)
  clear hb HB11
  go_wp2_with fail
  refine (fs.out _).mono ?_
  rintro e u13 ⟨rfl, hb⟩
  have HB13 := Lib.hid (Below.step HB12.out hb)
  clear hb HB12
  go_wp2_with fail
  refine (fz.out _).mono ?_
  rintro e u14 ⟨rfl, hb⟩
  have HB14 := Lib.hid (Below.step HB13.out hb)
  clear hb HB13
  go_wp2_with fail
  refine (fz.out _).mono ?_
  rintro e u15 ⟨rfl, hb⟩
  have HB15 := Lib.hid (Below.step HB14.out hb)
  clear hb HB14
  go_wp2_with fail
  refine (r1.out _).mono ?_
  rintro e u16 ⟨rfl, hb⟩
  have HB16 := Lib.hid (Below.step HB15.out hb)
  clear hb HB15
  go_wp2_with fail
  refine (r2.out _).mono ?_
  rintro e u17 ⟨rfl, hb⟩
  have HB17 := Lib.hid (Below.step HB16.out hb)
  clear hb HB16
  go_wp2_with fail
  refine (r3.out _).mono ?_
  rintro e u18 ⟨rfl, hb⟩
  have HB18 := Lib.hid (Below.step HB17.out hb)
  clear hb HB17
  go_wp2_with fail
  refine (r4.out _).mono ?_
  rintro e u19 ⟨rfl, hb⟩
  have HB19 := Lib.hid (Below.step HB18.out hb)
  clear hb HB18
  go_wp2_with fail
  refine (i1.out _).mono ?_
  rintro e u20 ⟨rfl, hw⟩
  subst hw
  go_wp2_with fail
  refine (i2.out _).mono ?_
  rintro e u21 ⟨rfl, hw⟩
  subst hw
  go_wp2_with fail
  refine (k.out _).mono ?_
  rintro e u22 ⟨rfl, hb⟩
  have HB22 := Lib.hid (Below.step HB19.out hb)
  clear hb HB19
  go_wp2
  go_ret
  exact ⟨rfl, HB22.out⟩
end Go.Proofs.Ytlocjjaipahhoaa
