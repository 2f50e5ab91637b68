/- The walk through the law ArpAnswers: it answers true. -/
import Derived.Test.YtpnhopgfoakgnaaArpL
import Derived.Test.YtpnhopgfoakgnaaArpM
import Derived.Test.YtpnhopgfoakgnaaArpE
namespace Go.Proofs.Ytpnhopgfoakgnaa
set_option linter.unusedVariables false
open Go.RowKit
attribute [local go_sem ↓] Go.wp_at_zero Go.wp_at_succ
attribute [local go_sem ↓] ld_arp ld_mac ld_ip

set_option maxRecDepth 100000 in
set_option maxHeartbeats 1000000 in
theorem arpAnswers_no (op : Int) (m i tm ti : List UInt8) (hL : ArL m i tm ti) (ip mac : List UInt8) (hip : ip.length = 4) (hmac : mac.length = 6) (h : (op == 1 && ti == ip) = false) (w : World) :
    Calls Try.prog 10 #[.agg (arC op m i tm ti), arrV ip, arrV mac] w fun e w' => e = .returned (.bool true) ∧ Below w.heap.size w w' := by
  have HK := Lib.hid (((Blk.new w 42 (arC op m i tm ti) 0 0 (Or.inl (Nat.le_refl _))).alloc (.cells (ip.map ubv).toArray 40)).alloc (.cells (mac.map ubv).toArray 38))
  have hI := (Blk.new (w.alloc (.cells (arC op m i tm ti) 42)) 40 (ip.map ubv).toArray 0 0 (Or.inl (Nat.le_refl _))).alloc (.cells (mac.map ubv).toArray 38)
  have hM := Blk.new ((w.alloc (.cells (arC op m i tm ti) 42)).alloc (.cells (ip.map ubv).toArray 40)) 38 (mac.map ubv).toArray 0 0 (Or.inl (Nat.le_refl _))
  have HB := Lib.hid ((((Below.refl w.heap.size w).alloc (Nat.le_refl _) (.cells (arC op m i tm ti) 42)).alloc (by simp) (.cells (ip.map ubv).toArray 40)).alloc (by simp; omega) (.cells (mac.map ubv).toArray 38))
  simp only [size_alloc] at hI hM
  have HI := Lib.hid hI
  have HM := Lib.hid hM
  have HA := Lib.hid (fun w => answer_no op m i tm ti ip mac hL hip hmac h w)
  have q := fun w => run_ip_eql w ti ip hL.ti hip
  have hself := fun w => run_ar_eql w 0 z6 z4 z6 z4 0 z6 z4 z6 z4 ⟨rfl, rfl, rfl, rfl⟩ ⟨rfl, rfl, rfl, rfl⟩
  rw [arEq_self, ← ar0_eq] at hself
  have hh : (op == 1) = false ∨ ((op == 1) = true ∧ (ti == ip) = false) := by
    cases h1 : (op == 1)
    · exact Or.inl rfl
    · right; rw [h1] at h; exact ⟨rfl, by simpa using h⟩
  have HL := Lib.hid hL
  have HIL := Lib.hid hip
  have HML := Lib.hid hmac
  clear hI hM hL hip hmac h
  rcases hh with h1 | ⟨h1, h2⟩
  all_goals
    try rw [h2] at q
    try clear h2
    go_enter Try.func10, Try.ntmps10
    go_wp2_with fail
    refine (arawake_any _).mono ?_
    rintro e w1 ⟨rfl, hb1⟩
    have HK1 := Lib.hid (HK.out.step hb1)
    have HI1 := Lib.hid (HI.out.step hb1)
    have HM1 := Lib.hid (HM.out.step hb1)
    have d1 := HK1.out.ld_ar HL.out
    have d2 := HI1.out.ld_arr4 HIL.out
    have d3 := HM1.out.ld_arr6 HML.out
    have HB1 := Lib.hid (Below.step HB.out hb1)
    clear hb1
    go_wp2_with fail
    refine (HA.out _).mono ?_
    rintro e w2 ⟨rfl, hb2⟩
    have HK2 := Lib.hid (HK1.out.step hb2)
    have HI2 := Lib.hid (HI1.out.step hb2)
    have hk2 := HK2.out.lt
    have hi2 := HI2.out.lt
    have HB2 := Lib.hid (Below.step HB1.out hb2)
    have HN2 := Lib.hid (Blk.new w2 42 ar0C 0 0 (Or.inl (Nat.le_refl _)))
    have HX2 := Lib.hid (HN2.out.setAll (cs := ar0C) rfl)
    have HK3 := Lib.hid ((HK2.out.alloc (.cells ar0C 42)).setCells_other w2.heap.size 0 ar0C.toList (by omega))
    have HI3 := Lib.hid ((HI2.out.alloc (.cells ar0C 42)).setCells_other w2.heap.size 0 ar0C.toList (by omega))
    have HB3 := Lib.hid (Below.setCells (HB2.out.alloc HB2.out.size (.cells ar0C 42)) HB2.out.size 0 ar0C.toList)
    have tokA : True := trivial
    clear hb2 d1 d2 d3
    go_wp2_with (have _t := tokA; refine wpList_store_blk rfl 42 _ _ rfl w2.heap.size ar0C rfl rfl ar0C 42 HN2.out rfl size_ar rfl ?_; clear tokA HN2; generalize World.setCells _ _ _ _ = W3 at HX2 HK3 HI3 HB3 ⊢; have c0 := arC_cell HK3.out; have e1 := HK3.out.ld_ti HL.out; have e2 := HI3.out.ld_arr4 HIL.out; have e3 := Blk.ld_ar (op := 0) (m := z6) (i := z4) (tm := z6) (ti := z4) HX2.out ⟨rfl, rfl, rfl, rfl⟩; rw [← ar0_eq] at e3)
    go_ret
    exact ⟨rfl, HB3.out⟩

set_option maxRecDepth 100000 in
set_option maxHeartbeats 1000000 in
theorem arpAnswers_yes (m i tm ti : List UInt8) (hL : ArL m i tm ti) (ip mac : List UInt8) (hip : ip.length = 4) (hmac : mac.length = 6) (h : (ti == ip) = true) (w : World) :
    Calls Try.prog 10 #[.agg (arC 1 m i tm ti), arrV ip, arrV mac] w fun e w' => e = .returned (.bool true) ∧ Below w.heap.size w w' := by
  have HK := Lib.hid (((Blk.new w 42 (arC 1 m i tm ti) 0 0 (Or.inl (Nat.le_refl _))).alloc (.cells (ip.map ubv).toArray 40)).alloc (.cells (mac.map ubv).toArray 38))
  have hI := (Blk.new (w.alloc (.cells (arC 1 m i tm ti) 42)) 40 (ip.map ubv).toArray 0 0 (Or.inl (Nat.le_refl _))).alloc (.cells (mac.map ubv).toArray 38)
  have hM := Blk.new ((w.alloc (.cells (arC 1 m i tm ti) 42)).alloc (.cells (ip.map ubv).toArray 40)) 38 (mac.map ubv).toArray 0 0 (Or.inl (Nat.le_refl _))
  have HB := Lib.hid ((((Below.refl w.heap.size w).alloc (Nat.le_refl _) (.cells (arC 1 m i tm ti) 42)).alloc (by simp) (.cells (ip.map ubv).toArray 40)).alloc (by simp; omega) (.cells (mac.map ubv).toArray 38))
  simp only [size_alloc] at hI hM
  have HI := Lib.hid hI
  have HM := Lib.hid hM
  have HA := Lib.hid (fun w => answer_yes m i tm ti ip mac hL hip hmac h w)
  have hXL : ArL mac ip m i := ⟨hmac, hip, hL.m, hL.i⟩
  have HA2 := Lib.hid (fun w => answer_no 2 mac ip m i i mac hXL hL.i hmac rfl w)
  have q := fun w => run_ip_eql w ti ip hL.ti hip
  rw [h] at q
  have s1 := fun w => run_mac_eql w mac mac hmac hmac
  have s2 := fun w => run_ip_eql w ip ip hip hip
  have s3 := fun w => run_mac_eql w m m hL.m hL.m
  have s4 := fun w => run_ip_eql w i i hL.i hL.i
  rw [beq_self_eq_true] at s1 s2 s3 s4
  have HL := Lib.hid hL
  have HXL := Lib.hid hXL
  have HIL := Lib.hid hip
  have HML := Lib.hid hmac
  clear hI hM hL hip hmac h hXL
  go_enter Try.func10, Try.ntmps10
  go_wp2_with fail
  refine (arawake_any _).mono ?_
  rintro e w1 ⟨rfl, hb1⟩
  have HK1 := Lib.hid (HK.out.step hb1)
  have HI1 := Lib.hid (HI.out.step hb1)
  have HM1 := Lib.hid (HM.out.step hb1)
  have d1 := HK1.out.ld_ar HL.out
  have d2 := HI1.out.ld_arr4 HIL.out
  have d3 := HM1.out.ld_arr6 HML.out
  have HB1 := Lib.hid (Below.step HB.out hb1)
  clear hb1
  go_wp2_with fail
  refine (HA.out _).mono ?_
  rintro e w2 ⟨rfl, hb2⟩
  have HK2 := Lib.hid (HK1.out.step hb2)
  have HI2 := Lib.hid (HI1.out.step hb2)
  have HM2 := Lib.hid (HM1.out.step hb2)
  have hk2 := HK2.out.lt
  have hi2 := HI2.out.lt
  have hm2 := HM2.out.lt
  have HB2 := Lib.hid (Below.step HB1.out hb2)
  have HN2 := Lib.hid (Blk.new w2 42 ar0C 0 0 (Or.inl (Nat.le_refl _)))
  have HX3 := Lib.hid (HN2.out.put_ar (op := 2) HXL.out)
  have HK3 := Lib.hid ((HK2.out.alloc (.cells ar0C 42)).setCells_other w2.heap.size 0 (arC 2 mac ip m i).toList (by omega))
  have HI3 := Lib.hid ((HI2.out.alloc (.cells ar0C 42)).setCells_other w2.heap.size 0 (arC 2 mac ip m i).toList (by omega))
  have HM3 := Lib.hid ((HM2.out.alloc (.cells ar0C 42)).setCells_other w2.heap.size 0 (arC 2 mac ip m i).toList (by omega))
  have HB3 := Lib.hid (Below.setCells (HB2.out.alloc HB2.out.size (.cells ar0C 42)) HB2.out.size 0 (arC 2 mac ip m i).toList)
  have tokA : True := trivial
  clear hb2 d1 d2 d3
  go_wp2_with (have _t := tokA; refine wp_st_ar rfl _ _ rfl w2.heap.size 2 mac ip m i HXL.out HN2 rfl rfl ?_; clear tokA HN2; generalize World.setCells _ _ _ _ = W3 at HX3 HK3 HI3 HM3 HB3 ⊢; have c0 := arC_cell HK3.out; have e1 := HK3.out.ld_ti HL.out; have e2 := HI3.out.ld_arr4 HIL.out; have e3 := HX3.out.ld_ar HXL.out; have e4 := HX3.out.ld_ti HXL.out; have e5 := HM3.out.ld_arr6 HML.out)
  refine (HA2.out _).mono ?_
  rintro e w4 ⟨rfl, hb4⟩
  have HK4 := Lib.hid (HK3.out.step hb4)
  have HI4 := Lib.hid (HI3.out.step hb4)
  have HM4 := Lib.hid (HM3.out.step hb4)
  have HX4 := Lib.hid (HX3.out.step hb4)
  have hk4 := HK4.out.lt
  have hi4 := HI4.out.lt
  have hm4 := HM4.out.lt
  have hx4 := HX4.out.lt
  have HB4 := Lib.hid (Below.step HB3.out hb4)
  have HN4 := Lib.hid (Blk.new w4 42 ar0C 0 0 (Or.inl (Nat.le_refl _)))
  have HK5 := Lib.hid ((HK4.out.alloc (.cells ar0C 42)).setCells_other w4.heap.size 0 ar0C.toList (by omega))
  have HI5 := Lib.hid ((HI4.out.alloc (.cells ar0C 42)).setCells_other w4.heap.size 0 ar0C.toList (by omega))
  have HM5 := Lib.hid ((HM4.out.alloc (.cells ar0C 42)).setCells_other w4.heap.size 0 ar0C.toList (by omega))
  have HX5 := Lib.hid ((HX4.out.alloc (.cells ar0C 42)).setCells_other w4.heap.size 0 ar0C.toList (by omega))
  have HB5 := Lib.hid (Below.setCells (HB4.out.alloc HB4.out.size (.cells ar0C 42)) HB4.out.size 0 ar0C.toList)
  have tokB : True := trivial
  clear hb4 e1 e2 e3 e4 e5 c0
  go_wp2_with (have _t := tokB; refine wpList_store_blk rfl 42 _ _ rfl w4.heap.size ar0C rfl rfl ar0C 42 HN4.out rfl size_ar rfl ?_; clear tokB HN4; generalize World.setCells _ _ _ _ = W5 at HX5 HK5 HI5 HM5 HB5 ⊢; have c0 := arC_cell HX5.out; have g1 := HX5.out.ld_m HXL.out; have g2 := HX5.out.ld_i HXL.out; have g3 := HX5.out.ld_tm HXL.out; have g4 := HX5.out.ld_ti HXL.out; have g5 := HI5.out.ld_arr4 HIL.out; have g6 := HM5.out.ld_arr6 HML.out; have g7 := HK5.out.ld_m HL.out; have g8 := HK5.out.ld_i HL.out)
  go_ret
  exact ⟨rfl, HB5.out⟩

theorem arpAnswers_walk (op : Int) (m i tm ti : List UInt8) (hL : ArL m i tm ti) (ip mac : List UInt8) (hip : ip.length = 4) (hmac : mac.length = 6) (w : World) :
    Calls Try.prog 10 #[.agg (arC op m i tm ti), arrV ip, arrV mac] w fun e w' => e = .returned (.bool true) ∧ Below w.heap.size w w' := by
  cases h : (op == 1 && ti == ip)
  · exact arpAnswers_no op m i tm ti hL ip mac hip hmac h w
  · rw [Bool.and_eq_true] at h
    obtain rfl : op = 1 := by simpa using h.1
    exact arpAnswers_yes m i tm ti hL ip mac hip hmac h.2 w
end Go.Proofs.Ytpnhopgfoakgnaa
