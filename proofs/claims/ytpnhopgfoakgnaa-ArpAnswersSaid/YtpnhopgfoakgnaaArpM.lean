/- The walk through the law ArpBack: it answers true. -/
import Derived.Test.YtpnhopgfoakgnaaArpL
namespace Go.Proofs.Ytpnhopgfoakgnaa
set_option linter.unusedVariables false
open Go.RowKit
attribute [local go_sem ↓] Go.wp_at_zero Go.wp_at_succ
attribute [local go_sem ↓] ld_arp ld_mac ld_ip

theorem arC_cell {w : World} {b : Nat} {e : TypeId} {op : Int} {m i tm ti : List UInt8} (h : Blk w b e (arC op m i tm ti)) : w.cell? ⟨b, 0, none⟩ = some (.int .i64 op) := by rw [h.cell]; exact arC_op _ _ _ _ _

theorem arBytes_yes {op : Int} (m i tm ti : List UInt8) (h : knB op = true) : arBytes op m i tm ti = ([0, 1, 8, 0, 6, 4, 0, UInt8.ofNat op.toNat] ++ m ++ i ++ tm ++ ti, 0) := by rw [arBytes, if_pos h]
theorem arBytes_no {op : Int} (m i tm ti : List UInt8) (h : knB op = false) : arBytes op m i tm ti = ([], 10) := by rw [arBytes, if_neg (by simp [h])]
theorem arBytes_len {op : Int} {m i tm ti : List UInt8} (hL : ArL m i tm ti) (h : knB op = true) : (arBytes op m i tm ti).1.length = 28 := by
  rw [arBytes_yes _ _ _ _ h]
  simp only [List.length_append, hL.m, hL.i, hL.tm, hL.ti, List.length_cons, List.length_nil]

/-- two packets have one text just if they are the same -/
theorem arBytes_inj {op op' : Int} {m i tm ti m' i' tm' ti' : List UInt8} (hL : ArL m i tm ti) (hL' : ArL m' i' tm' ti') (h : knB op = true) (h' : knB op' = true) :
    ((arBytes op m i tm ti).1 == (arBytes op' m' i' tm' ti').1) = arEq op m i tm ti op' m' i' tm' ti' := by
  rw [arBytes_yes _ _ _ _ h, arBytes_yes _ _ _ _ h']
  rw [Bool.eq_iff_iff, beq_iff_eq]
  unfold arEq
  simp only [Bool.and_eq_true, beq_iff_eq]
  constructor
  · intro e
    have e1 := List.append_inj e (by simp only [List.length_append, hL.m, hL'.m, hL.i, hL'.i, hL.tm, hL'.tm, List.length_cons])
    have e2 := List.append_inj e1.1 (by simp only [List.length_append, hL.m, hL'.m, hL.i, hL'.i, List.length_cons])
    have e3 := List.append_inj e2.1 (by simp only [List.length_append, hL.m, hL'.m, List.length_cons])
    have e4 := List.append_inj e3.1 (by simp only [List.length_cons])
    refine ⟨?_, e4.2, e3.2, e2.2, e1.2⟩
    have e5 : UInt8.ofNat op.toNat = UInt8.ofNat op'.toNat := by simpa using e4.1
    have g : op = 1 ∨ op = 2 := by simpa [knB] using h
    have g' : op' = 1 ∨ op' = 2 := by simpa [knB] using h'
    rcases g with rfl | rfl <;> rcases g' with rfl | rfl <;> first | rfl | exact absurd e5 (by decide)
  · rintro ⟨rfl, rfl, rfl, rfl, rfl⟩
    rfl

/-- what has bytes is read from them, whatever stands behind -/
theorem ar_reads {op : Int} {m i tm ti : List UInt8} (hL : ArL m i tm ti) (h : knB op = true) (z : List UInt8) (hz : z.length ≤ 1000) (w : World) :
    Calls Try.prog 24 #[.string ⟨((arBytes op m i tm ti).1 ++ z).toArray⟩] w fun e w' => e = .returned (.tuple #[.agg (arC op m i tm ti), .int .i64 0]) ∧ Below w.heap.size w w' := by
  have g : op = 1 ∨ op = 2 := by simpa [knB] using h
  have hl := arBytes_len hL h
  have e : (arBytes op m i tm ti).1 ++ z = arH ++ (0 :: UInt8.ofNat op.toNat :: (m ++ (i ++ (tm ++ (ti ++ z))))) := by
    rw [arBytes_yes _ _ _ _ h]
    simp [arH]
  have eop : (((0 : UInt8).toNat * 256 + (UInt8.ofNat op.toNat).toNat : Nat) : Int) = op := by
    rcases g with rfl | rfl <;> rfl
  have := arr_ok ((arBytes op m i tm ti).1 ++ z) 0 (UInt8.ofNat op.toNat) m i tm ti z hL w (by rw [List.length_append]; omega) (by rw [e]; simp [hdB, arH]) e (by rw [eop]; exact h)
  rw [eop] at this
  exact this

set_option maxRecDepth 100000 in
set_option maxHeartbeats 1000000 in
theorem arpBack_big (op : Int) (m i tm ti : List UInt8) (op' : Int) (m' i' tm' ti' : List UInt8) (s : List UInt8) (hs : s.length ≤ 9223372036854775807) (h : 1000 < s.length) (w : World) :
    Calls Try.prog 6 #[.agg (arC op m i tm ti), .agg (arC op' m' i' tm' ti'), .string ⟨s.toArray⟩] w fun e w' => e = .returned (.bool true) ∧ Below w.heap.size w w' := by
  have HB := Lib.hid (((Below.refl w.heap.size w).alloc (Nat.le_refl _) (.cells (arC op m i tm ti) 42)).alloc (by simp) (.cells (arC op' m' i' tm' ti') 42))
  go_enter Try.func6, Try.ntmps6
  go_wp2_with fail
  refine (arawake_any _).mono ?_
  rintro e w1 ⟨rfl, hb1⟩
  have HB1 := Lib.hid (Below.step HB.out hb1)
  clear hb1
  go_wp2
  go_ret
  exact ⟨rfl, HB1.out⟩

set_option maxRecDepth 100000 in
set_option maxHeartbeats 1000000 in
theorem arpBack_no (op : Int) (m i tm ti : List UInt8) (hL : ArL m i tm ti) (op' : Int) (m' i' tm' ti' : List UInt8) (hL' : ArL m' i' tm' ti') (s : List UInt8) (hs : ¬ 1000 < s.length) (h : knB op = false) (w : World) :
    Calls Try.prog 6 #[.agg (arC op m i tm ti), .agg (arC op' m' i' tm' ti'), .string ⟨s.toArray⟩] w fun e w' => e = .returned (.bool true) ∧ Below w.heap.size w w' := by
  have HB := Lib.hid (((Below.refl w.heap.size w).alloc (Nat.le_refl _) (.cells (arC op m i tm ti) 42)).alloc (by simp) (.cells (arC op' m' i' tm' ti') 42))
  have HK := Lib.hid ((Blk.new w 42 (arC op m i tm ti) 0 0 (Or.inl (Nat.le_refl _))).alloc (.cells (arC op' m' i' tm' ti') 42))
  have hJ := Blk.new (w.alloc (.cells (arC op m i tm ti) 42)) 42 (arC op' m' i' tm' ti') 0 0 (Or.inl (Nat.le_refl _))
  rw [size_alloc] at hJ
  have HJ := Lib.hid hJ
  have hA := fun w => ar_any op m i tm ti hL w
  rw [arBytes_no _ _ _ _ h] at hA
  have HA := Lib.hid hA
  have HA' := Lib.hid (fun w => ar_any op' m' i' tm' ti' hL' w)
  have h1 : (op == 1) = false := by rw [beq_eq_false_iff_ne]; rintro rfl; simp [knB] at h
  have h2 : (op == 2) = false := by rw [beq_eq_false_iff_ne]; rintro rfl; simp [knB] at h
  have HL := Lib.hid hL
  have HL' := Lib.hid hL'
  clear hA hJ h hL hL'
  go_enter Try.func6, Try.ntmps6
  go_wp2_with fail
  refine (arawake_any _).mono ?_
  rintro e w1 ⟨rfl, hb1⟩
  have HK1 := Lib.hid (HK.out.step hb1)
  have HJ1 := Lib.hid (HJ.out.step hb1)
  have d1 := HK1.out.ld_ar HL.out
  have HB1 := Lib.hid (Below.step HB.out hb1)
  clear hb1
  go_wp2_with fail
  refine (HA.out _).mono ?_
  rintro e w2 ⟨rfl, hb2⟩
  have HK2 := Lib.hid (HK1.out.step hb2)
  have HJ2 := Lib.hid (HJ1.out.step hb2)
  have d2 := HJ2.out.ld_ar HL'.out
  have HB2 := Lib.hid (Below.step HB1.out hb2)
  clear hb2 d1
  go_wp2_with fail
  refine (HA'.out _).mono ?_
  rintro e w3 ⟨rfl, hb3⟩
  have HK3 := Lib.hid (HK2.out.step hb3)
  have c0 := arC_cell HK3.out
  have HB3 := Lib.hid (Below.step HB2.out hb3)
  clear hb3 d2
  go_wp2
  go_ret
  exact ⟨rfl, HB3.out⟩

set_option maxRecDepth 100000 in
set_option maxHeartbeats 1000000 in
theorem arpBack_yes (op : Int) (m i tm ti : List UInt8) (hL : ArL m i tm ti) (op' : Int) (m' i' tm' ti' : List UInt8) (hL' : ArL m' i' tm' ti') (s : List UInt8) (hs : ¬ 1000 < s.length) (h : knB op = true) (w : World) :
    Calls Try.prog 6 #[.agg (arC op m i tm ti), .agg (arC op' m' i' tm' ti'), .string ⟨s.toArray⟩] w fun e w' => e = .returned (.bool true) ∧ Below w.heap.size w w' := by
  have HB := Lib.hid (((Below.refl w.heap.size w).alloc (Nat.le_refl _) (.cells (arC op m i tm ti) 42)).alloc (by simp) (.cells (arC op' m' i' tm' ti') 42))
  have HK := Lib.hid ((Blk.new w 42 (arC op m i tm ti) 0 0 (Or.inl (Nat.le_refl _))).alloc (.cells (arC op' m' i' tm' ti') 42))
  have hJ := Blk.new (w.alloc (.cells (arC op m i tm ti) 42)) 42 (arC op' m' i' tm' ti') 0 0 (Or.inl (Nat.le_refl _))
  rw [size_alloc] at hJ
  have HJ := Lib.hid hJ
  have hA := fun w => ar_any op m i tm ti hL w
  have hA' := fun w => ar_any op' m' i' tm' ti' hL' w
  have hR := fun w => ar_reads hL h s (by omega) w
  have hAl := arBytes_len hL h
  have hE : (arBytes op m i tm ti).2 = 0 := by rw [arBytes_yes _ _ _ _ h]
  rw [hE] at hA
  have hq := fun w => run_ar_eql w op m i tm ti op' m' i' tm' ti' hL hL'
  have hself := fun w => run_ar_eql w op m i tm ti op m i tm ti hL hL
  rw [arEq_self] at hself
  have hj : ∃ F : Int, (arBytes op' m' i' tm' ti').2 = F ∧ ((F != 0) = true ∨ ((F != 0) = false ∧ ((arBytes op m i tm ti).1 == (arBytes op' m' i' tm' ti').1) = arEq op m i tm ti op' m' i' tm' ti')) := by
    by_cases h' : knB op' = true
    · exact ⟨0, by rw [arBytes_yes _ _ _ _ h'], Or.inr ⟨rfl, arBytes_inj hL hL' h h'⟩⟩
    · exact ⟨10, by rw [arBytes_no _ _ _ _ (by simpa using h')], Or.inl rfl⟩
  obtain ⟨F, hF, hF2⟩ := hj
  rw [hF] at hA'
  generalize (arBytes op m i tm ti).1 = A at hA hR hAl hF2
  generalize (arBytes op' m' i' tm' ti').1 = A' at hA' hF2
  generalize arEq op m i tm ti op' m' i' tm' ti' = X at hq hF2
  have HA := Lib.hid hA
  have HA' := Lib.hid hA'
  have HR := Lib.hid hR
  have HL := Lib.hid hL
  have HL' := Lib.hid hL'
  have h1 : (op == 1) = true ∨ (op == 1) = false ∧ (op == 2) = true := by
    have g : op = 1 ∨ op = 2 := by simpa [knB] using h
    rcases g with rfl | rfl
    · exact Or.inl rfl
    · exact Or.inr ⟨rfl, rfl⟩
  have hcat : ¬ 9223372036854775807 < A.length + s.length := by omega
  rw [hAl] at hcat
  clear hA hA' hR hJ h hL hL' hF hE
  rcases h1 with g1 | ⟨g1, g2⟩ <;> rcases hF2 with f1 | ⟨f1, f2⟩
  all_goals
    go_enter Try.func6, Try.ntmps6
    go_wp2_with fail
    refine (arawake_any _).mono ?_
    rintro e w1 ⟨rfl, hb1⟩
    have HK1 := Lib.hid (HK.out.step hb1)
    have HJ1 := Lib.hid (HJ.out.step hb1)
    have d1 := HK1.out.ld_ar HL.out
    have HB1 := Lib.hid (Below.step HB.out hb1)
    clear hb1
    go_wp2_with fail
    refine (HA.out _).mono ?_
    rintro e w2 ⟨rfl, hb2⟩
    have HK2 := Lib.hid (HK1.out.step hb2)
    have HJ2 := Lib.hid (HJ1.out.step hb2)
    have d2 := HJ2.out.ld_ar HL'.out
    have HB2 := Lib.hid (Below.step HB1.out hb2)
    clear hb2 d1
    go_wp2_with fail
    refine (HA'.out _).mono ?_
    rintro e w3 ⟨rfl, hb3⟩
    have HK3 := Lib.hid (HK2.out.step hb3)
    have HJ3 := Lib.hid (HJ2.out.step hb3)
    have c0 := arC_cell HK3.out
    have HB3 := Lib.hid (Below.step HB2.out hb3)
    clear hb3 d2
    go_wp2_with fail
    rw [str_append]
    refine (HR.out _).mono ?_
    rintro e w4 ⟨rfl, hb4⟩
    have HK4 := Lib.hid (HK3.out.step hb4)
    have HJ4 := Lib.hid (HJ3.out.step hb4)
    have hk4 := HK4.out.lt
    have hj4 := HJ4.out.lt
    have HB4 := Lib.hid (Below.step HB3.out hb4)
    have HN4 := Lib.hid (Blk.new w4 42 ar0C 0 0 (Or.inl (Nat.le_refl _)))
    have HX4 := Lib.hid (HN4.out.put_ar (op := op) HL.out)
    have HK5 := Lib.hid ((HK4.out.alloc (.cells ar0C 42)).setCells_other w4.heap.size 0 (arC op m i tm ti).toList (by omega))
    have HJ5 := Lib.hid ((HJ4.out.alloc (.cells ar0C 42)).setCells_other w4.heap.size 0 (arC op m i tm ti).toList (by omega))
    have HB5 := Lib.hid (Below.setCells (HB4.out.alloc HB4.out.size (.cells ar0C 42)) HB4.out.size 0 (arC op m i tm ti).toList)
    have tokA : True := trivial
    clear hb4 c0
    go_wp2_with (have _t := tokA; refine wp_st_ar rfl _ _ rfl w4.heap.size op m i tm ti HL.out HN4 rfl rfl ?_; clear tokA HN4; generalize World.setCells _ _ _ _ = W5 at HX4 HK5 HJ5 HB5 ⊢; have dx := HX4.out.ld_ar HL.out; have dy := HK5.out.ld_ar HL.out; have dz := HJ5.out.ld_ar HL'.out)
    go_ret
    first | exact ⟨rfl, HB5.out⟩ | exact ⟨by simp, HB5.out⟩

theorem arpBack_walk (op : Int) (m i tm ti : List UInt8) (hL : ArL m i tm ti) (op' : Int) (m' i' tm' ti' : List UInt8) (hL' : ArL m' i' tm' ti') (s : List UInt8) (hs : s.length ≤ 9223372036854775807) (w : World) :
    Calls Try.prog 6 #[.agg (arC op m i tm ti), .agg (arC op' m' i' tm' ti'), .string ⟨s.toArray⟩] w fun e w' => e = .returned (.bool true) ∧ Below w.heap.size w w' := by
  by_cases h : 1000 < s.length
  · exact arpBack_big op m i tm ti op' m' i' tm' ti' s hs h w
  · cases hk : knB op
    · exact arpBack_no op m i tm ti hL op' m' i' tm' ti' hL' s h hk w
    · exact arpBack_yes op m i tm ti hL op' m' i' tm' ti' hL' s h hk w
end Go.Proofs.Ytpnhopgfoakgnaa
