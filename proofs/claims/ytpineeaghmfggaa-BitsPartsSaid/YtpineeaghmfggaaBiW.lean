/- The examples of the law (wakes): true. No condition. -/
import Derived.Test.YtpineeaghmfggaaBiK
namespace Go.Proofs.Ytpineeaghmfggaa
set_option linter.unusedVariables false
set_option linter.unusedSimpArgs false
set_option maxRecDepth 100000
open Go.RowKit
attribute [local go_sem ↓] Go.wp_at_zero Go.wp_at_succ

theorem rows_514 : rowsN 514 = [1, 9] := by decide +kernel
theorem rows_2 : rowsN 2 = [1] := by decide +kernel
theorem of_four : ofN [1, 9, 64, -1] = 514 := by decide +kernel
theorem an_514 : anN 514 (rowN 9) = 2 := by decide +kernel
theorem b64_514 : B64 514 := by unfold B64; decide
theorem b64_2 : B64 2 := by unfold B64; decide

set_option maxHeartbeats 2000000 in
theorem wakes_any (w : World) : Calls Try.prog 9 #[] w fun e w' => e = .returned (.bool true) ∧ Below w.heap.size w w' := by
  have OF := Lib.hid (fun w => of_new [1, 9, 64, -1] (by decide) #[.int .i64 1, .int .i64 9, .int .i64 64, .int .i64 (-1)] rfl 4 rfl w)
  rw [of_four] at OF
  have BY := Lib.hid (fun w => bytes_any 514 b64_514 w)
  have RD := Lib.hid (fun w => read_any (bytesV 514) (by rw [bytesV_len]; decide) w)
  rw [read_bytes 514 b64_514] at RD
  have RW := Lib.hid (fun w => rows_any 514 b64_514 w)
  rw [rows_514] at RW
  have h9 : hasN 514 9 = true := by decide +kernel
  have h64 : hasN 514 64 = false := by decide +kernel
  have H9 := Lib.hid (fun w => has_any 514 b64_514 9 w)
  rw [h9] at H9
  have H64 := Lib.hid (fun w => has_any 514 b64_514 64 w)
  rw [h64] at H64
  have WO := Lib.hid (fun w => without_any 514 b64_514 9 w)
  rw [an_514] at WO
  have LN := Lib.hid (fun w => len_any 2 b64_2 w)
  rw [rows_2] at LN
  clear h9 h64
  generalize bytesV 514 = Y at BY RD
  go_enter Try.func9, Try.ntmps9
  go_wp2_with fail
  refine (OF.out _).mono ?_
  rintro e w1 ⟨rfl, hb⟩
  have HB2 := Lib.hid (hb)
  clear hb 
  go_upto_region 2 with fail
  have HKb4 := Lib.hid (Blk.new w1 25 #[.int .u64 514] 0 0 (Or.inl (Nat.le_refl _)))
  have HB4 := Lib.hid (HB2.out.alloc HB2.out.size (.cells #[.int .u64 514] 25))
  have hge_b : w.heap.size ≤ w1.heap.size := HB2.out.size
  generalize w1.heap.size = pb at HKb4 hge_b ⊢
  generalize World.alloc _ _ = w3 at HKb4 HB4 ⊢
  clear HB2
  have hc_b := HKb4.out.cell 0
  go_wp2_with fail
  refine (BY.out _).mono ?_
  rintro e w5 ⟨rfl, hb⟩
  (try clear hc_b)
  have HKb6 := Lib.hid (HKb4.out.step hb)
  have HB6 := Lib.hid (Below.step HB4.out hb)
  clear hb HKb4 HB4
  have hc_b := HKb6.out.cell 0
  go_wp2_with fail
  refine (RD.out _).mono ?_
  rintro e w7 ⟨rfl, hb⟩
  (try clear hc_b)
  have HKb8 := Lib.hid (HKb6.out.step hb)
  have HB8 := Lib.hid (Below.step HB6.out hb)
  clear hb HKb6 HB6
  have hc_b := HKb8.out.cell 0
  go_upto_region 3 with fail
  (try clear hc_b)
  have HKb10 := Lib.hid (HKb8.out.alloc (.cells #[.int .u64 514] 25))
  have HKc10 := Lib.hid (Blk.new w7 25 #[.int .u64 514] 0 0 (Or.inl (Nat.le_refl _)))
  have HB10 := Lib.hid (HB8.out.alloc HB8.out.size (.cells #[.int .u64 514] 25))
  have hge_c : w.heap.size ≤ w7.heap.size := HB8.out.size
  have hne_b_c : pb ≠ w7.heap.size := Nat.ne_of_lt HKb8.out.lt
  generalize w7.heap.size = pc at HKb10 HKc10 hge_c hne_b_c ⊢
  generalize World.alloc _ _ = w9 at HKb10 HKc10 HB10 ⊢
  clear HKb8 HB8
  have hc_b := HKb10.out.cell 0
  have hc_c := HKc10.out.cell 0
  go_wp2_with fail
  refine (RW.out _).mono ?_
  rintro e w11 ⟨v, rfl, hown, hb⟩
  (try clear hc_b)
  (try clear hc_c)
  have HKb12 := Lib.hid (HKb10.out.step hb)
  have HKc12 := Lib.hid (HKc10.out.step hb)
  have HB12 := Lib.hid (Below.step HB10.out hb)
  obtain ⟨Ar, cr, rfl, _, hst, _, _, _⟩ := own_ints hown
  have HIr := Lib.hid hst
  clear hst hown
  clear hb HKb10 HKc10 HB10
  have hc_b := HKb12.out.cell 0
  have hc_c := HKc12.out.cell 0
  go_wp2_with fail
  refine (H9.out _).mono ?_
  rintro e w13 ⟨rfl, hb⟩
  (try clear hc_b)
  (try clear hc_c)
  have HKb14 := Lib.hid (HKb12.out.step hb)
  have HKc14 := Lib.hid (HKc12.out.step hb)
  have HIr14 := Lib.hid (HIr.out.up hb)
  have HB14 := Lib.hid (Below.step HB12.out hb)
  clear hb HKb12 HKc12 HIr HB12
  have hc_b := HKb14.out.cell 0
  have hc_c := HKc14.out.cell 0
  go_wp2_with fail
  refine (H64.out _).mono ?_
  rintro e w15 ⟨rfl, hb⟩
  (try clear hc_b)
  (try clear hc_c)
  have HKb16 := Lib.hid (HKb14.out.step hb)
  have HKc16 := Lib.hid (HKc14.out.step hb)
  have HIr16 := Lib.hid (HIr14.out.up hb)
  have HB16 := Lib.hid (Below.step HB14.out hb)
  clear hb HKb14 HKc14 HIr14 HB14
  have hc_b := HKb16.out.cell 0
  have hc_c := HKc16.out.cell 0
  go_wp2_with fail
  refine (WO.out _).mono ?_
  rintro e w17 ⟨rfl, hb⟩
  (try clear hc_b)
  (try clear hc_c)
  have HKb18 := Lib.hid (HKb16.out.step hb)
  have HKc18 := Lib.hid (HKc16.out.step hb)
  have HIr18 := Lib.hid (HIr16.out.up hb)
  have HB18 := Lib.hid (Below.step HB16.out hb)
  clear hb HKb16 HKc16 HIr16 HB16
  have hc_b := HKb18.out.cell 0
  have hc_c := HKc18.out.cell 0
  go_wp2_with fail
  refine (LN.out _).mono ?_
  rintro e w19 ⟨rfl, hb⟩
  (try clear hc_b)
  (try clear hc_c)
  have HKb20 := Lib.hid (HKb18.out.step hb)
  have HKc20 := Lib.hid (HKc18.out.step hb)
  have HIr20 := Lib.hid (HIr18.out.up hb)
  have HB20 := Lib.hid (Below.step HB18.out hb)
  clear hb HKb18 HKc18 HIr18 HB18
  have hc_b := HKb20.out.cell 0
  have hc_c := HKc20.out.cell 0
  go_wp2
  go_ret
  exact ⟨rfl, HB20.out⟩
end Go.Proofs.Ytpineeaghmfggaa
