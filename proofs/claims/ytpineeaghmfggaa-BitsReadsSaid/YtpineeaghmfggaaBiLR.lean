/- The walk through the law BitsReads: it answers true. Condition: a text that a memory can hold. -/
import Derived.Test.YtpineeaghmfggaaBiW
import Derived.Test.YtpineeaghmfggaaBiK
namespace Go.Proofs.Ytpineeaghmfggaa
set_option linter.unusedVariables false
set_option linter.unusedSimpArgs false
set_option maxRecDepth 100000
open Go.RowKit
attribute [local go_sem ↓] Go.wp_at_zero Go.wp_at_succ
attribute [local go_sem ↓] ld_rw

set_option maxHeartbeats 1000000 in
theorem bitsReads_long (s : List UInt8) (hs : s.length ≤ maxLen) (hl : 300 < s.length) (w : World) : Calls Try.prog 3 #[.string ⟨s.toArray⟩] w fun e w' => e = .returned (.bool true) ∧ Below w.heap.size w w' := by
  have WK := Lib.hid wakes_any
  have hl1 : (300 : Int) < (s.length : Int) := by omega
  clear hl hs
  go_enter Try.func3, Try.ntmps3
  go_wp2_with fail
  refine (WK.out _).mono ?_
  rintro e w1 ⟨rfl, hb⟩
  have HB2 := Lib.hid (hb)
  clear hb 
  go_wp2
  go_ret
  exact ⟨rfl, HB2.out⟩

set_option maxHeartbeats 1000000 in
theorem bitsReads_yes (s : List UInt8) (hl : s.length ≤ 300) (n : Nat)
    (RD : Hid (∀ w, Calls Try.prog 10 #[.string ⟨s.toArray⟩] w fun e w' => e = .returned (.tuple #[bv n, .int .i64 0]) ∧ Below w.heap.size w w'))
    (RR : Hid (∀ w, Calls Try.prog 11 #[.string ⟨s.toArray⟩] w fun e w' => e = .returned (.tuple #[.agg (rwC n), .bool true]) ∧ Below w.heap.size w w'))
    (RW : Hid (∀ w, Calls Try.prog 13 #[bv n] w fun e w' => ∃ v, e = .returned v ∧ w'.ownsRow w.heap.size 3 1 v (rowsN n).length ((rowsN n).map encInt) ∧ Below w.heap.size w w'))
    (w : World) : Calls Try.prog 3 #[.string ⟨s.toArray⟩] w fun e w' => e = .returned (.bool true) ∧ Below w.heap.size w w' := by
  have WK := Lib.hid wakes_any
  have LS := Lib.hid (fun w => list_any n w)
  have SM := Lib.hid (fun A c B d w hA hB => same_any A c (rowsN n) B d (rowsN n) (rowsN_max n) (rowsN_max n) w hA hB)
  have hbq : (rowsN n == rowsN n) = true := beq_iff_eq.2 rfl
  rw [hbq] at SM
  have hl1 : (s.length : Int) ≤ 300 := by omega
  clear hl hbq
  generalize rowsN n = rs at RW LS SM
  go_enter Try.func3, Try.ntmps3
  go_wp2_with fail
  refine (RD.out _).mono ?_
  rintro e w3 ⟨rfl, hb⟩
  have HB4 := Lib.hid (hb)
  clear hb 
  go_upto_region 4 with fail
  have HKb6 := Lib.hid (Blk.new w3 25 #[.int .u64 (n : Int)] 0 0 (Or.inl (Nat.le_refl _)))
  have HB6 := Lib.hid (HB4.out.alloc HB4.out.size (.cells #[.int .u64 (n : Int)] 25))
  have hge_b : w.heap.size ≤ w3.heap.size := HB4.out.size
  generalize w3.heap.size = pb at HKb6 hge_b ⊢
  generalize World.alloc _ _ = w5 at HKb6 HB6 ⊢
  clear HB4
  have hc_b := HKb6.out.cell 0
  go_wp2_with fail
  refine (RR.out _).mono ?_
  rintro e w7 ⟨rfl, hb⟩
  (try clear hc_b)
  have HKb8 := Lib.hid (HKb6.out.step hb)
  have HB8 := Lib.hid (Below.step HB6.out hb)
  clear hb HKb6 HB6
  have hc_b := HKb8.out.cell 0
  have tok10 : True := trivial
  go_upto_region 5 with (have _t := tok10; refine wpList_store_blk rfl 30 _ _ rfl w7.heap.size (rwC n) rfl rfl zlit 30 (Blk.new w7 30 zlit 0 0 (Or.inl (Nat.le_refl _))) (by rw [rwC_size]; rfl) (by rw [rwC_size]; exact size_rows) (rwC_one _) ?_; clear tok10)
  (try clear hc_b)
  have HKb10 := Lib.hid ((HKb8.out.alloc (.cells zlit 30)).setCells_other w7.heap.size 0 (rwC n).toList (Nat.ne_of_lt HKb8.out.lt))
  have HKr10 := Lib.hid ((Blk.new w7 30 zlit 0 0 (Or.inl (Nat.le_refl _))).setAll (cs := rwC n) (by rw [rwC_size]; rfl))
  have HB10 := Lib.hid (Below.setCells (HB8.out.alloc HB8.out.size (.cells zlit 30)) HB8.out.size 0 (rwC n).toList)
  generalize World.setCells _ _ _ _ = w9 at HKb10 HKr10 HB10 ⊢
  have hge_r : w.heap.size ≤ w7.heap.size := HB8.out.size
  have hne_b_r : pb ≠ w7.heap.size := Nat.ne_of_lt HKb8.out.lt
  generalize w7.heap.size = pr at HKb10 HKr10 hge_r hne_b_r ⊢
  clear HKb8 HB8
  have hc_b := HKb10.out.cell 0
  (try clear hc_b)
  refine wp_region_noPanic ?_
  refine wp_region_held_drew (S := (fun w' => w'.cell? ⟨pb, 0, none⟩ = some (.int .u64 (n : Int)) ∧ (Ld 30 (.pointer (some ⟨pr, 0, none⟩))).run Try.prog w' = .ok (.agg (rwC n)) w')) (by kernel_rfl) (by first | exact ⟨(Blk.drew HKb10.out).cell 0, (Blk.drew HKr10.out).ld⟩) (fun hHeld => ?_)
  refine wpAnyH_take (i := 0) (oi := _) (v := ?vr1n0_1) rfl (by kernel_rfl) (by kernel_rfl) (by kernel_rfl) (fun _ _ _ h => h) (Or.inl ⟨by kernel_rfl, ?hr1n0_1⟩) hHeld ?_
  case hr1n0_1 => (intro w hSw; (try dsimp only at hSw); go_simp; try (with_reducible rfl))
  try simp only [List.getElem_toArray, List.getElem_cons_zero, List.getElem_cons_succ, Act.put, List.setIfInBounds_toArray, List.set_cons_zero, List.set_cons_succ]
  refine wpAnyH_take (i := 1) (oi := _) (v := ?vr1n1_2) rfl (by kernel_rfl) (by kernel_rfl) (by kernel_rfl) (fun _ _ _ h => h) (Or.inl ⟨by kernel_rfl, ?hr1n1_2⟩) hHeld ?_
  case hr1n1_2 => (intro w hSw; (try dsimp only at hSw); go_simp; try (with_reducible rfl))
  try simp only [List.getElem_toArray, List.getElem_cons_zero, List.getElem_cons_succ, Act.put, List.setIfInBounds_toArray, List.set_cons_zero, List.set_cons_succ]
  refine wpAnyH_take (i := 2) (oi := _) (v := ?vr1n2_3) rfl (by kernel_rfl) (by kernel_rfl) (by kernel_rfl) (fun _ _ _ h => h) (Or.inl ⟨by kernel_rfl, ?hr1n2_3⟩) hHeld ?_
  case hr1n2_3 => (intro w hSw; (try dsimp only at hSw); go_simp; try (with_reducible rfl))
  try simp only [List.getElem_toArray, List.getElem_cons_zero, List.getElem_cons_succ, Act.put, List.setIfInBounds_toArray, List.set_cons_zero, List.set_cons_succ]
  refine wpAnyH_take (i := 3) (oi := _) (v := ?vr1n3_4) rfl (by kernel_rfl) (by kernel_rfl) (by kernel_rfl) (fun _ _ _ h => h) (Or.inl ⟨by kernel_rfl, ?hr1n3_4⟩) hHeld ?_
  case hr1n3_4 => (intro w hSw; (try dsimp only at hSw); go_simp; try (with_reducible rfl))
  try simp only [List.getElem_toArray, List.getElem_cons_zero, List.getElem_cons_succ, Act.put, List.setIfInBounds_toArray, List.set_cons_zero, List.set_cons_succ]
  refine wpAnyH_take (i := 4) (oi := _) (v := ?vr1n4_5) rfl (by kernel_rfl) (by kernel_rfl) (by kernel_rfl) (fun _ _ _ h => h) (Or.inl ⟨by kernel_rfl, ?hr1n4_5⟩) hHeld ?_
  case hr1n4_5 => (intro w hSw; (try dsimp only at hSw); go_simp; try (with_reducible rfl))
  try simp only [List.getElem_toArray, List.getElem_cons_zero, List.getElem_cons_succ, Act.put, List.setIfInBounds_toArray, List.set_cons_zero, List.set_cons_succ]
  refine wpAnyH_take (i := 5) (oi := _) (v := ?vr1n5_6) rfl (by kernel_rfl) (by kernel_rfl) (by kernel_rfl) (fun _ _ _ h => h) (Or.inl ⟨by kernel_rfl, ?hr1n5_6⟩) hHeld ?_
  case hr1n5_6 => (intro w hSw; (try dsimp only at hSw); go_simp; try (with_reducible rfl))
  try simp only [List.getElem_toArray, List.getElem_cons_zero, List.getElem_cons_succ, Act.put, List.setIfInBounds_toArray, List.set_cons_zero, List.set_cons_succ]
  refine wpAnyH_take (i := 6) (oi := _) (v := ?vr1n6_7) rfl (by kernel_rfl) (by kernel_rfl) (by kernel_rfl) (fun _ _ _ h => h) (Or.inl ⟨by kernel_rfl, ?hr1n6_7⟩) hHeld ?_
  case hr1n6_7 => (intro w hSw; (try dsimp only at hSw); go_simp; try (with_reducible rfl))
  try simp only [List.getElem_toArray, List.getElem_cons_zero, List.getElem_cons_succ, Act.put, List.setIfInBounds_toArray, List.set_cons_zero, List.set_cons_succ]
  refine wpAnyH_take (i := 7) (oi := _) (v := undef) rfl (by kernel_rfl) (by kernel_rfl) (by kernel_rfl) (fun _ _ _ h => h) (Or.inr ⟨by kernel_rfl, rfl⟩) hHeld ?_
  try simp only [List.getElem_toArray, List.getElem_cons_zero, List.getElem_cons_succ, Act.put, List.setIfInBounds_toArray, List.set_cons_zero, List.set_cons_succ]
  refine wpAnyH_take (i := 8) (oi := _) (v := undef) rfl (by kernel_rfl) (by kernel_rfl) (by kernel_rfl) (fun _ _ _ h => h) (Or.inr ⟨by kernel_rfl, rfl⟩) hHeld ?_
  try simp only [List.getElem_toArray, List.getElem_cons_zero, List.getElem_cons_succ, Act.put, List.setIfInBounds_toArray, List.set_cons_zero, List.set_cons_succ]
  refine wpAnyH_take (i := 9) (oi := _) (v := ?vr1n9_8) rfl (by kernel_rfl) (by kernel_rfl) (by kernel_rfl) (fun _ _ _ h => h) (Or.inl ⟨by kernel_rfl, ?hr1n9_8⟩) hHeld ?_
  case hr1n9_8 => (intro w hSw; (try dsimp only at hSw); go_simp; try (with_reducible rfl))
  try simp only [List.getElem_toArray, List.getElem_cons_zero, List.getElem_cons_succ, Act.put, List.setIfInBounds_toArray, List.set_cons_zero, List.set_cons_succ]
  refine wpAnyH_take (i := 10) (oi := _) (v := ?vr1n10_9) rfl (by kernel_rfl) (by kernel_rfl) (by kernel_rfl) (fun _ _ _ h => h) (Or.inl ⟨by kernel_rfl, ?hr1n10_9⟩) hHeld ?_
  case hr1n10_9 => (intro w hSw; (try dsimp only at hSw); go_simp; try (with_reducible rfl))
  try simp only [List.getElem_toArray, List.getElem_cons_zero, List.getElem_cons_succ, Act.put, List.setIfInBounds_toArray, List.set_cons_zero, List.set_cons_succ]
  refine wpAnyH_take (i := 11) (oi := _) (v := ?vr1n11_10) rfl (by kernel_rfl) (by kernel_rfl) (by kernel_rfl) (fun _ _ _ h => h) (Or.inl ⟨by kernel_rfl, ?hr1n11_10⟩) hHeld ?_
  case hr1n11_10 => (intro w hSw; (try dsimp only at hSw); go_simp; try (with_reducible rfl))
  try simp only [List.getElem_toArray, List.getElem_cons_zero, List.getElem_cons_succ, Act.put, List.setIfInBounds_toArray, List.set_cons_zero, List.set_cons_succ]
  refine wpAnyH_take (i := 12) (oi := _) (v := ?vr1n12_11) rfl (by kernel_rfl) (by kernel_rfl) (by kernel_rfl) (fun _ _ _ h => h) (Or.inl ⟨by kernel_rfl, ?hr1n12_11⟩) hHeld ?_
  case hr1n12_11 => (intro w hSw; (try dsimp only at hSw); go_simp; try (with_reducible rfl))
  try simp only [List.getElem_toArray, List.getElem_cons_zero, List.getElem_cons_succ, Act.put, List.setIfInBounds_toArray, List.set_cons_zero, List.set_cons_succ]
  refine wpAnyH_take (i := 14) (oi := _) (v := ?vr1n14_12) rfl (by kernel_rfl) (by kernel_rfl) (by kernel_rfl) (fun _ _ _ h => h) (Or.inl ⟨by kernel_rfl, ?hr1n14_12⟩) hHeld ?_
  case hr1n14_12 => (intro w hSw; (try dsimp only at hSw); go_simp; try (with_reducible rfl))
  try simp only [List.getElem_toArray, List.getElem_cons_zero, List.getElem_cons_succ, Act.put, List.setIfInBounds_toArray, List.set_cons_zero, List.set_cons_succ]
  refine wpAnyH_ready (rs := [13]) (by kernel_rfl) (by simp) ?_
  refine AllReadyH.cons (o := _) rfl (fun K hK => ?_) AllReadyH.nil
  go_simp
  (go_at_call 13; refine (RW.out _).mono ?_; rintro e w11 ⟨v, rfl, hown, hb⟩; have hb := (Below.drewN (Below.refl _ w9) 1).trans hb; have HKb12 := Lib.hid (HKb10.out.step hb); have HKr12 := Lib.hid (HKr10.out.step hb); have HB12 := Lib.hid (Below.step HB10.out hb); obtain ⟨Ap, cp, rfl, _, hst, _, _, _⟩ := own_ints hown; have HIp := Lib.hid hst; clear hst hown; clear hb HKb10 HKr10 HB10)
  refine hK.out _ _ ?_ (fun hHeld1 => ?_)
  · (first | exact ⟨HKb12.out.cell 0, HKr12.out.ld⟩)
  clear hHeld hK K
  try simp only [List.getElem_toArray, List.getElem_cons_zero, List.getElem_cons_succ, Act.put, List.setIfInBounds_toArray, List.set_cons_zero, List.set_cons_succ]
  refine wpAnyH_ready (rs := [15]) (by kernel_rfl) (by simp) ?_
  refine AllReadyH.cons (o := _) rfl (fun K hK => ?_) AllReadyH.nil
  go_simp
  (go_at_call 14; refine (LS.out _).mono ?_; rintro e w13 ⟨v, rfl, hown, hb⟩; have HKb14 := Lib.hid (HKb12.out.step hb); have HKr14 := Lib.hid (HKr12.out.step hb); have HIp14 := Lib.hid (HIp.out.up hb); have HB14 := Lib.hid (Below.step HB12.out hb); obtain ⟨Aq, cq, rfl, _, hst, _, _, _⟩ := own_ints hown; have HIq := Lib.hid hst; clear hst hown; clear hb HKb12 HKr12 HIp HB12)
  refine hK.out _ _ ?_ (fun hHeld2 => ?_)
  · (first | exact ⟨HKb14.out.cell 0, HKr14.out.ld⟩)
  clear hHeld1 hK K
  try simp only [List.getElem_toArray, List.getElem_cons_zero, List.getElem_cons_succ, Act.put, List.setIfInBounds_toArray, List.set_cons_zero, List.set_cons_succ]
  refine wpAnyH_ready (rs := [16]) (by kernel_rfl) (by simp) ?_
  refine AllReadyH.cons (o := _) rfl (fun K hK => ?_) AllReadyH.nil
  go_simp
  (go_at_call 12; refine (SM.out _ _ _ _ _ HIp14.out HIq.out).mono ?_; rintro e w15 ⟨rfl, hb⟩; have HKb16 := Lib.hid (HKb14.out.step hb); have HKr16 := Lib.hid (HKr14.out.step hb); have HIp16 := Lib.hid (HIp14.out.up hb); have HIq16 := Lib.hid (HIq.out.up hb); have HB16 := Lib.hid (Below.step HB14.out hb); clear hb HKb14 HKr14 HIp14 HIq HB14)
  refine hK.out _ _ ?_ (fun hHeld3 => ?_)
  · (first | exact ⟨HKb16.out.cell 0, HKr16.out.ld⟩)
  clear hHeld2 hK K
  try simp only [List.getElem_toArray, List.getElem_cons_zero, List.getElem_cons_succ, Act.put, List.setIfInBounds_toArray, List.set_cons_zero, List.set_cons_succ]
  refine wpAnyH_take (i := 17) (oi := _) (v := ?vr1n17_13) rfl (by kernel_rfl) (by kernel_rfl) (by kernel_rfl) (fun _ _ _ h => h) (Or.inl ⟨by kernel_rfl, ?hr1n17_13⟩) hHeld3 ?_
  case hr1n17_13 => (intro w hSw; (try dsimp only at hSw); go_simp; try (with_reducible rfl))
  try simp only [List.getElem_toArray, List.getElem_cons_zero, List.getElem_cons_succ, Act.put, List.setIfInBounds_toArray, List.set_cons_zero, List.set_cons_succ]
  refine wpAnyH_take (i := 18) (oi := _) (v := ?vr1n18_14) rfl (by kernel_rfl) (by kernel_rfl) (by kernel_rfl) (fun _ _ _ h => h) (Or.inl ⟨by kernel_rfl, ?hr1n18_14⟩) hHeld3 ?_
  case hr1n18_14 => (intro w hSw; (try dsimp only at hSw); go_simp; try (with_reducible rfl))
  try simp only [List.getElem_toArray, List.getElem_cons_zero, List.getElem_cons_succ, Act.put, List.setIfInBounds_toArray, List.set_cons_zero, List.set_cons_succ]
  refine wpAnyH_ready (rs := [19]) (by kernel_rfl) (by simp) ?_
  refine AllReadyH.cons (o := _) rfl (fun K hK => ?_) AllReadyH.nil
  go_simp
  (go_at_call 9; refine (WK.out _).mono ?_; rintro e w17 ⟨rfl, hb⟩; have HKb18 := Lib.hid (HKb16.out.step hb); have HKr18 := Lib.hid (HKr16.out.step hb); have HIp18 := Lib.hid (HIp16.out.up hb); have HIq18 := Lib.hid (HIq16.out.up hb); have HB18 := Lib.hid (Below.step HB16.out hb); clear hb HKb16 HKr16 HIp16 HIq16 HB16)
  refine hK.out _ _ ?_ (fun hHeld4 => ?_)
  · (first | exact ⟨HKb18.out.cell 0, HKr18.out.ld⟩)
  clear hHeld3 hK K
  try simp only [List.getElem_toArray, List.getElem_cons_zero, List.getElem_cons_succ, Act.put, List.setIfInBounds_toArray, List.set_cons_zero, List.set_cons_succ]
  refine wpAnyH_take (i := 20) (oi := _) (v := ?vr1n20_15) rfl (by kernel_rfl) (by kernel_rfl) (by kernel_rfl) (fun _ _ _ h => h) (Or.inl ⟨by kernel_rfl, ?hr1n20_15⟩) hHeld4 ?_
  case hr1n20_15 => (intro w hSw; (try dsimp only at hSw); go_simp; try (with_reducible rfl))
  try simp only [List.getElem_toArray, List.getElem_cons_zero, List.getElem_cons_succ, Act.put, List.setIfInBounds_toArray, List.set_cons_zero, List.set_cons_succ]
  refine wpAnyH_take (i := 21) (oi := _) (v := ?vr1n21_16) rfl (by kernel_rfl) (by kernel_rfl) (by kernel_rfl) (fun _ _ _ h => h) (Or.inl ⟨by kernel_rfl, ?hr1n21_16⟩) hHeld4 ?_
  case hr1n21_16 => (intro w hSw; (try dsimp only at hSw); go_simp; try (with_reducible rfl))
  try simp only [List.getElem_toArray, List.getElem_cons_zero, List.getElem_cons_succ, Act.put, List.setIfInBounds_toArray, List.set_cons_zero, List.set_cons_succ]
  refine wpAnyH_done (by kernel_rfl) ?_ _
  refine NoPanic.normal ?_
  go_wp2
  go_ret
  exact ⟨rfl, HB18.out⟩

set_option maxHeartbeats 1000000 in
theorem bitsReads_no (s : List UInt8) (hl : s.length ≤ 300) (n : Nat)
    (RD : Hid (∀ w, Calls Try.prog 10 #[.string ⟨s.toArray⟩] w fun e w' => e = .returned (.tuple #[bv n, .int .i64 8]) ∧ Below w.heap.size w w'))
    (RR : Hid (∀ w, Calls Try.prog 11 #[.string ⟨s.toArray⟩] w fun e w' => e = .returned (.tuple #[.agg (rwC n), .bool false]) ∧ Below w.heap.size w w'))
    (RW : Hid (∀ w, Calls Try.prog 13 #[bv n] w fun e w' => ∃ v, e = .returned v ∧ w'.ownsRow w.heap.size 3 1 v (rowsN n).length ((rowsN n).map encInt) ∧ Below w.heap.size w w'))
    (w : World) : Calls Try.prog 3 #[.string ⟨s.toArray⟩] w fun e w' => e = .returned (.bool true) ∧ Below w.heap.size w w' := by
  have WK := Lib.hid wakes_any
  have LS := Lib.hid (fun w => list_any n w)
  have SM := Lib.hid (fun A c B d w hA hB => same_any A c (rowsN n) B d (rowsN n) (rowsN_max n) (rowsN_max n) w hA hB)
  have hbq : (rowsN n == rowsN n) = true := beq_iff_eq.2 rfl
  rw [hbq] at SM
  have hl1 : (s.length : Int) ≤ 300 := by omega
  clear hl hbq
  generalize rowsN n = rs at RW LS SM
  go_enter Try.func3, Try.ntmps3
  go_wp2_with fail
  refine (RD.out _).mono ?_
  rintro e w19 ⟨rfl, hb⟩
  have HB20 := Lib.hid (hb)
  clear hb 
  go_upto_region 4 with fail
  have HKb22 := Lib.hid (Blk.new w19 25 #[.int .u64 (n : Int)] 0 0 (Or.inl (Nat.le_refl _)))
  have HB22 := Lib.hid (HB20.out.alloc HB20.out.size (.cells #[.int .u64 (n : Int)] 25))
  have hge_b : w.heap.size ≤ w19.heap.size := HB20.out.size
  generalize w19.heap.size = pb at HKb22 hge_b ⊢
  generalize World.alloc _ _ = w21 at HKb22 HB22 ⊢
  clear HB20
  have hc_b := HKb22.out.cell 0
  go_wp2_with fail
  refine (RR.out _).mono ?_
  rintro e w23 ⟨rfl, hb⟩
  (try clear hc_b)
  have HKb24 := Lib.hid (HKb22.out.step hb)
  have HB24 := Lib.hid (Below.step HB22.out hb)
  clear hb HKb22 HB22
  have hc_b := HKb24.out.cell 0
  have tok26 : True := trivial
  go_upto_region 5 with (have _t := tok26; refine wpList_store_blk rfl 30 _ _ rfl w23.heap.size (rwC n) rfl rfl zlit 30 (Blk.new w23 30 zlit 0 0 (Or.inl (Nat.le_refl _))) (by rw [rwC_size]; rfl) (by rw [rwC_size]; exact size_rows) (rwC_one _) ?_; clear tok26)
  (try clear hc_b)
  have HKb26 := Lib.hid ((HKb24.out.alloc (.cells zlit 30)).setCells_other w23.heap.size 0 (rwC n).toList (Nat.ne_of_lt HKb24.out.lt))
  have HKr26 := Lib.hid ((Blk.new w23 30 zlit 0 0 (Or.inl (Nat.le_refl _))).setAll (cs := rwC n) (by rw [rwC_size]; rfl))
  have HB26 := Lib.hid (Below.setCells (HB24.out.alloc HB24.out.size (.cells zlit 30)) HB24.out.size 0 (rwC n).toList)
  generalize World.setCells _ _ _ _ = w25 at HKb26 HKr26 HB26 ⊢
  have hge_r : w.heap.size ≤ w23.heap.size := HB24.out.size
  have hne_b_r : pb ≠ w23.heap.size := Nat.ne_of_lt HKb24.out.lt
  generalize w23.heap.size = pr at HKb26 HKr26 hge_r hne_b_r ⊢
  clear HKb24 HB24
  have hc_b := HKb26.out.cell 0
  (try clear hc_b)
  refine wp_region_noPanic ?_
  refine wp_region_held_drew (S := (fun w' => w'.cell? ⟨pb, 0, none⟩ = some (.int .u64 (n : Int)) ∧ (Ld 30 (.pointer (some ⟨pr, 0, none⟩))).run Try.prog w' = .ok (.agg (rwC n)) w')) (by kernel_rfl) (by first | exact ⟨(Blk.drew HKb26.out).cell 0, (Blk.drew HKr26.out).ld⟩) (fun hHeld => ?_)
  refine wpAnyH_take (i := 0) (oi := _) (v := ?vr2n0_17) rfl (by kernel_rfl) (by kernel_rfl) (by kernel_rfl) (fun _ _ _ h => h) (Or.inl ⟨by kernel_rfl, ?hr2n0_17⟩) hHeld ?_
  case hr2n0_17 => (intro w hSw; (try dsimp only at hSw); go_simp; try (with_reducible rfl))
  try simp only [List.getElem_toArray, List.getElem_cons_zero, List.getElem_cons_succ, Act.put, List.setIfInBounds_toArray, List.set_cons_zero, List.set_cons_succ]
  refine wpAnyH_take (i := 1) (oi := _) (v := ?vr2n1_18) rfl (by kernel_rfl) (by kernel_rfl) (by kernel_rfl) (fun _ _ _ h => h) (Or.inl ⟨by kernel_rfl, ?hr2n1_18⟩) hHeld ?_
  case hr2n1_18 => (intro w hSw; (try dsimp only at hSw); go_simp; try (with_reducible rfl))
  try simp only [List.getElem_toArray, List.getElem_cons_zero, List.getElem_cons_succ, Act.put, List.setIfInBounds_toArray, List.set_cons_zero, List.set_cons_succ]
  refine wpAnyH_take (i := 2) (oi := _) (v := ?vr2n2_19) rfl (by kernel_rfl) (by kernel_rfl) (by kernel_rfl) (fun _ _ _ h => h) (Or.inl ⟨by kernel_rfl, ?hr2n2_19⟩) hHeld ?_
  case hr2n2_19 => (intro w hSw; (try dsimp only at hSw); go_simp; try (with_reducible rfl))
  try simp only [List.getElem_toArray, List.getElem_cons_zero, List.getElem_cons_succ, Act.put, List.setIfInBounds_toArray, List.set_cons_zero, List.set_cons_succ]
  refine wpAnyH_take (i := 3) (oi := _) (v := ?vr2n3_20) rfl (by kernel_rfl) (by kernel_rfl) (by kernel_rfl) (fun _ _ _ h => h) (Or.inl ⟨by kernel_rfl, ?hr2n3_20⟩) hHeld ?_
  case hr2n3_20 => (intro w hSw; (try dsimp only at hSw); go_simp; try (with_reducible rfl))
  try simp only [List.getElem_toArray, List.getElem_cons_zero, List.getElem_cons_succ, Act.put, List.setIfInBounds_toArray, List.set_cons_zero, List.set_cons_succ]
  refine wpAnyH_take (i := 4) (oi := _) (v := ?vr2n4_21) rfl (by kernel_rfl) (by kernel_rfl) (by kernel_rfl) (fun _ _ _ h => h) (Or.inl ⟨by kernel_rfl, ?hr2n4_21⟩) hHeld ?_
  case hr2n4_21 => (intro w hSw; (try dsimp only at hSw); go_simp; try (with_reducible rfl))
  try simp only [List.getElem_toArray, List.getElem_cons_zero, List.getElem_cons_succ, Act.put, List.setIfInBounds_toArray, List.set_cons_zero, List.set_cons_succ]
  refine wpAnyH_take (i := 5) (oi := _) (v := ?vr2n5_22) rfl (by kernel_rfl) (by kernel_rfl) (by kernel_rfl) (fun _ _ _ h => h) (Or.inl ⟨by kernel_rfl, ?hr2n5_22⟩) hHeld ?_
  case hr2n5_22 => (intro w hSw; (try dsimp only at hSw); go_simp; try (with_reducible rfl))
  try simp only [List.getElem_toArray, List.getElem_cons_zero, List.getElem_cons_succ, Act.put, List.setIfInBounds_toArray, List.set_cons_zero, List.set_cons_succ]
  refine wpAnyH_take (i := 6) (oi := _) (v := ?vr2n6_23) rfl (by kernel_rfl) (by kernel_rfl) (by kernel_rfl) (fun _ _ _ h => h) (Or.inl ⟨by kernel_rfl, ?hr2n6_23⟩) hHeld ?_
  case hr2n6_23 => (intro w hSw; (try dsimp only at hSw); go_simp; try (with_reducible rfl))
  try simp only [List.getElem_toArray, List.getElem_cons_zero, List.getElem_cons_succ, Act.put, List.setIfInBounds_toArray, List.set_cons_zero, List.set_cons_succ]
  refine wpAnyH_take (i := 7) (oi := _) (v := ?vr2n7_24) rfl (by kernel_rfl) (by kernel_rfl) (by kernel_rfl) (fun _ _ _ h => h) (Or.inl ⟨by kernel_rfl, ?hr2n7_24⟩) hHeld ?_
  case hr2n7_24 => (intro w hSw; (try dsimp only at hSw); go_simp; try (with_reducible rfl))
  try simp only [List.getElem_toArray, List.getElem_cons_zero, List.getElem_cons_succ, Act.put, List.setIfInBounds_toArray, List.set_cons_zero, List.set_cons_succ]
  refine wpAnyH_take (i := 8) (oi := _) (v := ?vr2n8_25) rfl (by kernel_rfl) (by kernel_rfl) (by kernel_rfl) (fun _ _ _ h => h) (Or.inl ⟨by kernel_rfl, ?hr2n8_25⟩) hHeld ?_
  case hr2n8_25 => (intro w hSw; (try dsimp only at hSw); go_simp; try (with_reducible rfl))
  try simp only [List.getElem_toArray, List.getElem_cons_zero, List.getElem_cons_succ, Act.put, List.setIfInBounds_toArray, List.set_cons_zero, List.set_cons_succ]
  refine wpAnyH_take (i := 9) (oi := _) (v := ?vr2n9_26) rfl (by kernel_rfl) (by kernel_rfl) (by kernel_rfl) (fun _ _ _ h => h) (Or.inl ⟨by kernel_rfl, ?hr2n9_26⟩) hHeld ?_
  case hr2n9_26 => (intro w hSw; (try dsimp only at hSw); go_simp; try (with_reducible rfl))
  try simp only [List.getElem_toArray, List.getElem_cons_zero, List.getElem_cons_succ, Act.put, List.setIfInBounds_toArray, List.set_cons_zero, List.set_cons_succ]
  refine wpAnyH_take (i := 10) (oi := _) (v := ?vr2n10_27) rfl (by kernel_rfl) (by kernel_rfl) (by kernel_rfl) (fun _ _ _ h => h) (Or.inl ⟨by kernel_rfl, ?hr2n10_27⟩) hHeld ?_
  case hr2n10_27 => (intro w hSw; (try dsimp only at hSw); go_simp; try (with_reducible rfl))
  try simp only [List.getElem_toArray, List.getElem_cons_zero, List.getElem_cons_succ, Act.put, List.setIfInBounds_toArray, List.set_cons_zero, List.set_cons_succ]
  refine wpAnyH_take (i := 11) (oi := _) (v := ?vr2n11_28) rfl (by kernel_rfl) (by kernel_rfl) (by kernel_rfl) (fun _ _ _ h => h) (Or.inl ⟨by kernel_rfl, ?hr2n11_28⟩) hHeld ?_
  case hr2n11_28 => (intro w hSw; (try dsimp only at hSw); go_simp; try (with_reducible rfl))
  try simp only [List.getElem_toArray, List.getElem_cons_zero, List.getElem_cons_succ, Act.put, List.setIfInBounds_toArray, List.set_cons_zero, List.set_cons_succ]
  refine wpAnyH_take (i := 12) (oi := _) (v := ?vr2n12_29) rfl (by kernel_rfl) (by kernel_rfl) (by kernel_rfl) (fun _ _ _ h => h) (Or.inl ⟨by kernel_rfl, ?hr2n12_29⟩) hHeld ?_
  case hr2n12_29 => (intro w hSw; (try dsimp only at hSw); go_simp; try (with_reducible rfl))
  try simp only [List.getElem_toArray, List.getElem_cons_zero, List.getElem_cons_succ, Act.put, List.setIfInBounds_toArray, List.set_cons_zero, List.set_cons_succ]
  refine wpAnyH_take (i := 14) (oi := _) (v := ?vr2n14_30) rfl (by kernel_rfl) (by kernel_rfl) (by kernel_rfl) (fun _ _ _ h => h) (Or.inl ⟨by kernel_rfl, ?hr2n14_30⟩) hHeld ?_
  case hr2n14_30 => (intro w hSw; (try dsimp only at hSw); go_simp; try (with_reducible rfl))
  try simp only [List.getElem_toArray, List.getElem_cons_zero, List.getElem_cons_succ, Act.put, List.setIfInBounds_toArray, List.set_cons_zero, List.set_cons_succ]
  refine wpAnyH_ready (rs := [13]) (by kernel_rfl) (by simp) ?_
  refine AllReadyH.cons (o := _) rfl (fun K hK => ?_) AllReadyH.nil
  go_simp
  (go_at_call 13; refine (RW.out _).mono ?_; rintro e w27 ⟨v, rfl, hown, hb⟩; have hb := (Below.drewN (Below.refl _ w25) 1).trans hb; have HKb28 := Lib.hid (HKb26.out.step hb); have HKr28 := Lib.hid (HKr26.out.step hb); have HB28 := Lib.hid (Below.step HB26.out hb); obtain ⟨Ap, cp, rfl, _, hst, _, _, _⟩ := own_ints hown; have HIp := Lib.hid hst; clear hst hown; clear hb HKb26 HKr26 HB26)
  refine hK.out _ _ ?_ (fun hHeld1 => ?_)
  · (first | exact ⟨HKb28.out.cell 0, HKr28.out.ld⟩)
  clear hHeld hK K
  try simp only [List.getElem_toArray, List.getElem_cons_zero, List.getElem_cons_succ, Act.put, List.setIfInBounds_toArray, List.set_cons_zero, List.set_cons_succ]
  refine wpAnyH_ready (rs := [15]) (by kernel_rfl) (by simp) ?_
  refine AllReadyH.cons (o := _) rfl (fun K hK => ?_) AllReadyH.nil
  go_simp
  (go_at_call 14; refine (LS.out _).mono ?_; rintro e w29 ⟨v, rfl, hown, hb⟩; have HKb30 := Lib.hid (HKb28.out.step hb); have HKr30 := Lib.hid (HKr28.out.step hb); have HIp30 := Lib.hid (HIp.out.up hb); have HB30 := Lib.hid (Below.step HB28.out hb); obtain ⟨Aq, cq, rfl, _, hst, _, _, _⟩ := own_ints hown; have HIq := Lib.hid hst; clear hst hown; clear hb HKb28 HKr28 HIp HB28)
  refine hK.out _ _ ?_ (fun hHeld2 => ?_)
  · (first | exact ⟨HKb30.out.cell 0, HKr30.out.ld⟩)
  clear hHeld1 hK K
  try simp only [List.getElem_toArray, List.getElem_cons_zero, List.getElem_cons_succ, Act.put, List.setIfInBounds_toArray, List.set_cons_zero, List.set_cons_succ]
  refine wpAnyH_ready (rs := [16]) (by kernel_rfl) (by simp) ?_
  refine AllReadyH.cons (o := _) rfl (fun K hK => ?_) AllReadyH.nil
  go_simp
  (go_at_call 12; refine (SM.out _ _ _ _ _ HIp30.out HIq.out).mono ?_; rintro e w31 ⟨rfl, hb⟩; have HKb32 := Lib.hid (HKb30.out.step hb); have HKr32 := Lib.hid (HKr30.out.step hb); have HIp32 := Lib.hid (HIp30.out.up hb); have HIq32 := Lib.hid (HIq.out.up hb); have HB32 := Lib.hid (Below.step HB30.out hb); clear hb HKb30 HKr30 HIp30 HIq HB30)
  refine hK.out _ _ ?_ (fun hHeld3 => ?_)
  · (first | exact ⟨HKb32.out.cell 0, HKr32.out.ld⟩)
  clear hHeld2 hK K
  try simp only [List.getElem_toArray, List.getElem_cons_zero, List.getElem_cons_succ, Act.put, List.setIfInBounds_toArray, List.set_cons_zero, List.set_cons_succ]
  refine wpAnyH_take (i := 17) (oi := _) (v := ?vr2n17_31) rfl (by kernel_rfl) (by kernel_rfl) (by kernel_rfl) (fun _ _ _ h => h) (Or.inl ⟨by kernel_rfl, ?hr2n17_31⟩) hHeld3 ?_
  case hr2n17_31 => (intro w hSw; (try dsimp only at hSw); go_simp; try (with_reducible rfl))
  try simp only [List.getElem_toArray, List.getElem_cons_zero, List.getElem_cons_succ, Act.put, List.setIfInBounds_toArray, List.set_cons_zero, List.set_cons_succ]
  refine wpAnyH_take (i := 18) (oi := _) (v := ?vr2n18_32) rfl (by kernel_rfl) (by kernel_rfl) (by kernel_rfl) (fun _ _ _ h => h) (Or.inl ⟨by kernel_rfl, ?hr2n18_32⟩) hHeld3 ?_
  case hr2n18_32 => (intro w hSw; (try dsimp only at hSw); go_simp; try (with_reducible rfl))
  try simp only [List.getElem_toArray, List.getElem_cons_zero, List.getElem_cons_succ, Act.put, List.setIfInBounds_toArray, List.set_cons_zero, List.set_cons_succ]
  refine wpAnyH_ready (rs := [19]) (by kernel_rfl) (by simp) ?_
  refine AllReadyH.cons (o := _) rfl (fun K hK => ?_) AllReadyH.nil
  go_simp
  (go_at_call 9; refine (WK.out _).mono ?_; rintro e w33 ⟨rfl, hb⟩; have HKb34 := Lib.hid (HKb32.out.step hb); have HKr34 := Lib.hid (HKr32.out.step hb); have HIp34 := Lib.hid (HIp32.out.up hb); have HIq34 := Lib.hid (HIq32.out.up hb); have HB34 := Lib.hid (Below.step HB32.out hb); clear hb HKb32 HKr32 HIp32 HIq32 HB32)
  refine hK.out _ _ ?_ (fun hHeld4 => ?_)
  · (first | exact ⟨HKb34.out.cell 0, HKr34.out.ld⟩)
  clear hHeld3 hK K
  try simp only [List.getElem_toArray, List.getElem_cons_zero, List.getElem_cons_succ, Act.put, List.setIfInBounds_toArray, List.set_cons_zero, List.set_cons_succ]
  refine wpAnyH_take (i := 20) (oi := _) (v := ?vr2n20_33) rfl (by kernel_rfl) (by kernel_rfl) (by kernel_rfl) (fun _ _ _ h => h) (Or.inl ⟨by kernel_rfl, ?hr2n20_33⟩) hHeld4 ?_
  case hr2n20_33 => (intro w hSw; (try dsimp only at hSw); go_simp; try (with_reducible rfl))
  try simp only [List.getElem_toArray, List.getElem_cons_zero, List.getElem_cons_succ, Act.put, List.setIfInBounds_toArray, List.set_cons_zero, List.set_cons_succ]
  refine wpAnyH_take (i := 21) (oi := _) (v := ?vr2n21_34) rfl (by kernel_rfl) (by kernel_rfl) (by kernel_rfl) (fun _ _ _ h => h) (Or.inl ⟨by kernel_rfl, ?hr2n21_34⟩) hHeld4 ?_
  case hr2n21_34 => (intro w hSw; (try dsimp only at hSw); go_simp; try (with_reducible rfl))
  try simp only [List.getElem_toArray, List.getElem_cons_zero, List.getElem_cons_succ, Act.put, List.setIfInBounds_toArray, List.set_cons_zero, List.set_cons_succ]
  refine wpAnyH_done (by kernel_rfl) ?_ _
  refine NoPanic.normal ?_
  go_wp2
  go_ret
  exact ⟨rfl, HB34.out⟩

theorem bitsReads_walk (s : List UInt8) (hs' : s.length ≤ maxLen) (w : World) : Calls Try.prog 3 #[.string ⟨s.toArray⟩] w fun e w' => e = .returned (.bool true) ∧ Below w.heap.size w w' := by
  by_cases hl : s.length ≤ 300
  · have RD := fun w => read_any s hs' w
    have RR := fun w => refRead_any s hs' w
    have hb := readV_b s
    unfold rfV at RR
    rcases readV_three s with ⟨n, h, _⟩ | ⟨_, h⟩ | h
    · rw [h] at RD RR hb
      exact bitsReads_yes s hl n (Lib.hid RD) (Lib.hid RR) (Lib.hid (fun w => rows_any n hb w)) w
    · rw [h] at RD RR hb
      exact bitsReads_yes s hl 0 (Lib.hid RD) (Lib.hid RR) (Lib.hid (fun w => rows_any 0 hb w)) w
    · rw [h] at RD RR hb
      exact bitsReads_no s hl 0 (Lib.hid RD) (Lib.hid RR) (Lib.hid (fun w => rows_any 0 hb w)) w
  · exact bitsReads_long s hs' (by omega) w
end Go.Proofs.Ytpineeaghmfggaa
