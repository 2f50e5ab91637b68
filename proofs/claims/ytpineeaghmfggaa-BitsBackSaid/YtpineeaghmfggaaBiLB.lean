/- The walk through the law BitsBack: it answers true. Condition: numbers and a text that a memory can hold. -/
import Derived.Test.YtpineeaghmfggaaBiW
import Derived.Test.YtpineeaghmfggaaBiU
namespace Go.Proofs.Ytpineeaghmfggaa
set_option linter.unusedVariables false
set_option linter.unusedSimpArgs false
set_option maxRecDepth 100000
open Go.RowKit
attribute [local go_sem ↓] Go.wp_at_zero Go.wp_at_succ

set_option maxHeartbeats 1000000 in
theorem bitsBack_long (A : Option Addr) (ca : Nat) (K : List Int) (s : List UInt8) (hl : 200 < K.length ∨ 300 < s.length) (w : World) (hK : K.length ≤ maxLen) (hs : s.length ≤ maxLen) : Calls Try.prog 4 #[.slice A K.length ca, .string ⟨s.toArray⟩] w fun e w' => e = .returned (.bool true) ∧ Below w.heap.size w w' := by
  have WK := Lib.hid wakes_any
  have h3 : (200 : Int) < (K.length : Int) ∨ ((K.length : Int) ≤ 200 ∧ (300 : Int) < (s.length : Int)) := by omega
  clear hl hK hs
  rcases h3 with h1 | ⟨h1, h2⟩
  · go_enter Try.func4, Try.ntmps4
    go_wp2_with fail
    refine (WK.out _).mono ?_
    rintro e w1 ⟨rfl, hb⟩
    have HB2 := Lib.hid (hb)
    clear hb 
    go_wp2
    go_ret
    exact ⟨rfl, HB2.out⟩
  · go_enter Try.func4, Try.ntmps4
    go_wp2_with fail
    refine (WK.out _).mono ?_
    rintro e w3 ⟨rfl, hb⟩
    have HB4 := Lib.hid (hb)
    clear hb 
    go_wp2
    go_ret
    exact ⟨rfl, HB4.out⟩

set_option maxHeartbeats 4000000 in
theorem bitsBack_no (A : Option Addr) (ca : Nat) (K rs : List Int) (s Y : List UInt8) (n m : Nat) (hl1 : K.length ≤ 200) (hl2 : s.length ≤ 300) (hY : Y.length = 64) (w : World) (hA : IntsAt w w.heap.size A K)
    (OA : Hid (∀ w, IntsAt w w.heap.size A K → Calls Try.prog 15 #[.slice A K.length ca] w fun e w' => e = .returned (bv n) ∧ Below w.heap.size w w'))
    (BY : Hid (∀ w, Calls Try.prog 16 #[bv n] w fun e w' => e = .returned (.string ⟨Y.toArray⟩) ∧ Below w.heap.size w w'))
    (RD : Hid (∀ w, Calls Try.prog 10 #[.string ⟨Y.toArray⟩] w fun e w' => e = .returned (.tuple #[bv n, .int .i64 0]) ∧ Below w.heap.size w w'))
    (RW : Hid (∀ w, Calls Try.prog 13 #[bv n] w fun e w' => ∃ v, e = .returned v ∧ w'.ownsRow w.heap.size 3 1 v rs.length (rs.map encInt) ∧ Below w.heap.size w w'))
    (OR : Hid (∀ A c w, IntsAt w w.heap.size A rs → Calls Try.prog 15 #[.slice A rs.length c] w fun e w' => e = .returned (bv n) ∧ Below w.heap.size w w'))
    (RS : Hid (∀ w, Calls Try.prog 10 #[.string ⟨s.toArray⟩] w fun e w' => e = .returned (.tuple #[bv 0, .int .i64 8]) ∧ Below w.heap.size w w'))
    (O0 : Hid (∀ w, Calls Try.prog 15 #[.slice none 0 0] w fun e w' => e = .returned (bv 0) ∧ Below w.heap.size w w'))  :
    Calls Try.prog 4 #[.slice A K.length ca, .string ⟨s.toArray⟩] w fun e w' => e = .returned (.bool true) ∧ Below w.heap.size w w' := by
  have WK := Lib.hid wakes_any
  have hl1 : (K.length : Int) ≤ 200 := by omega
  have hl2 : (s.length : Int) ≤ 300 := by omega
  have hY1 : (Y.length : Int) = 64 := by omega
  have HIk := Lib.hid hA
  clear hA
  go_enter Try.func4, Try.ntmps4
  go_wp2_with fail
  refine (OA.out _ HIk.out).mono ?_
  rintro e w5 ⟨rfl, hb⟩
  have HIk6 := Lib.hid (HIk.out.up hb)
  have HB6 := Lib.hid (hb)
  clear hb HIk
  go_upto_region 4 with fail
  clear HIk6
  have HKb8 := Lib.hid (Blk.new w5 25 #[.int .u64 (n : Int)] 0 0 (Or.inl (Nat.le_refl _)))
  have HB8 := Lib.hid (HB6.out.alloc HB6.out.size (.cells #[.int .u64 (n : Int)] 25))
  have hge_b : w.heap.size ≤ w5.heap.size := HB6.out.size
  generalize w5.heap.size = pb at HKb8 hge_b ⊢
  generalize World.alloc _ _ = w7 at HKb8 HB8 ⊢
  clear HB6
  have hc_b := HKb8.out.cell 0
  go_wp2_with fail
  refine (BY.out _).mono ?_
  rintro e w9 ⟨rfl, hb⟩
  (try clear hc_b)
  have HKb10 := Lib.hid (HKb8.out.step hb)
  have HB10 := Lib.hid (Below.step HB8.out hb)
  clear hb HKb8 HB8
  have hc_b := HKb10.out.cell 0
  go_wp2_with fail
  refine (RD.out _).mono ?_
  rintro e w11 ⟨rfl, hb⟩
  (try clear hc_b)
  have HKb12 := Lib.hid (HKb10.out.step hb)
  have HB12 := Lib.hid (Below.step HB10.out hb)
  clear hb HKb10 HB10
  have hc_b := HKb12.out.cell 0
  go_upto_region 5 with fail
  (try clear hc_b)
  have HKb14 := Lib.hid (HKb12.out.alloc (.cells #[.int .u64 (n : Int)] 25))
  have HKc14 := Lib.hid (Blk.new w11 25 #[.int .u64 (n : Int)] 0 0 (Or.inl (Nat.le_refl _)))
  have HB14 := Lib.hid (HB12.out.alloc HB12.out.size (.cells #[.int .u64 (n : Int)] 25))
  have hge_c : w.heap.size ≤ w11.heap.size := HB12.out.size
  have hne_b_c : pb ≠ w11.heap.size := Nat.ne_of_lt HKb12.out.lt
  generalize w11.heap.size = pc at HKb14 HKc14 hge_c hne_b_c ⊢
  generalize World.alloc _ _ = w13 at HKb14 HKc14 HB14 ⊢
  clear HKb12 HB12
  have hc_b := HKb14.out.cell 0
  have hc_c := HKc14.out.cell 0
  (try clear hc_b)
  (try clear hc_c)
  refine wp_region_noPanic ?_
  refine wp_region_held_drew (S := (fun w' => w'.cell? ⟨pb, 0, none⟩ = some (.int .u64 (n : Int)) ∧ w'.cell? ⟨pc, 0, none⟩ = some (.int .u64 (n : Int)))) (by kernel_rfl) (by first | exact ⟨(Blk.drew HKb14.out).cell 0, (Blk.drew HKc14.out).cell 0⟩) (fun hHeld => ?_)
  refine wpAnyH_take (i := 0) (oi := _) (v := ?vr1n0_1) rfl (by kernel_rfl) (by kernel_rfl) (by kernel_rfl) (fun _ _ _ h => h) (Or.inl ⟨by kernel_rfl, ?hr1n0_1⟩) hHeld ?_
  case hr1n0_1 => (intro w hSw; (try dsimp only at hSw); go_simp; try (with_reducible rfl))
  try simp only [List.getElem_toArray, List.getElem_cons_zero, List.getElem_cons_succ, Act.put, List.setIfInBounds_toArray, List.set_cons_zero, List.set_cons_succ]
  refine wpAnyH_take (i := 1) (oi := _) (v := ?vr1n1_2) rfl (by kernel_rfl) (by kernel_rfl) (by kernel_rfl) (fun _ _ _ h => h) (Or.inl ⟨by kernel_rfl, ?hr1n1_2⟩) hHeld ?_
  case hr1n1_2 => (intro w hSw; (try dsimp only at hSw); go_simp; try (with_reducible rfl))
  try simp only [List.getElem_toArray, List.getElem_cons_zero, List.getElem_cons_succ, Act.put, List.setIfInBounds_toArray, List.set_cons_zero, List.set_cons_succ]
  refine wpAnyH_take (i := 2) (oi := _) (v := ?vr1n2_3) rfl (by kernel_rfl) (by kernel_rfl) (by kernel_rfl) (fun _ _ _ h => h) (Or.inl ⟨by kernel_rfl, ?hr1n2_3⟩) hHeld ?_
  case hr1n2_3 => (intro w hSw; (try dsimp only at hSw); go_simp; try (with_reducible rfl))
  try simp only [List.getElem_toArray, List.getElem_cons_zero, List.getElem_cons_succ, Act.put, List.setIfInBounds_toArray, List.set_cons_zero, List.set_cons_succ]
  refine wpAnyH_take (i := 3) (oi := _) (v := ?vr1n3_4) rfl (by kernel_rfl) (by kernel_rfl) (by kernel_rfl) (fun _ _ _ h => h) (Or.inl ⟨by kernel_rfl, ?hr1n3_4⟩) hHeld ?_
  case hr1n3_4 => (intro w hSw; (try dsimp only at hSw); go_simp; try (with_reducible rfl))
  try simp only [List.getElem_toArray, List.getElem_cons_zero, List.getElem_cons_succ, Act.put, List.setIfInBounds_toArray, List.set_cons_zero, List.set_cons_succ]
  refine wpAnyH_take (i := 4) (oi := _) (v := ?vr1n4_5) rfl (by kernel_rfl) (by kernel_rfl) (by kernel_rfl) (fun _ _ _ h => h) (Or.inl ⟨by kernel_rfl, ?hr1n4_5⟩) hHeld ?_
  case hr1n4_5 => (intro w hSw; (try dsimp only at hSw); go_simp; try (with_reducible rfl))
  try simp only [List.getElem_toArray, List.getElem_cons_zero, List.getElem_cons_succ, Act.put, List.setIfInBounds_toArray, List.set_cons_zero, List.set_cons_succ]
  refine wpAnyH_take (i := 5) (oi := _) (v := ?vr1n5_6) rfl (by kernel_rfl) (by kernel_rfl) (by kernel_rfl) (fun _ _ _ h => h) (Or.inl ⟨by kernel_rfl, ?hr1n5_6⟩) hHeld ?_
  case hr1n5_6 => (intro w hSw; (try dsimp only at hSw); go_simp; try (with_reducible rfl))
  try simp only [List.getElem_toArray, List.getElem_cons_zero, List.getElem_cons_succ, Act.put, List.setIfInBounds_toArray, List.set_cons_zero, List.set_cons_succ]
  refine wpAnyH_take (i := 6) (oi := _) (v := ?vr1n6_7) rfl (by kernel_rfl) (by kernel_rfl) (by kernel_rfl) (fun _ _ _ h => h) (Or.inl ⟨by kernel_rfl, ?hr1n6_7⟩) hHeld ?_
  case hr1n6_7 => (intro w hSw; (try dsimp only at hSw); go_simp; try (with_reducible rfl))
  try simp only [List.getElem_toArray, List.getElem_cons_zero, List.getElem_cons_succ, Act.put, List.setIfInBounds_toArray, List.set_cons_zero, List.set_cons_succ]
  refine wpAnyH_take (i := 7) (oi := _) (v := ?vr1n7_8) rfl (by kernel_rfl) (by kernel_rfl) (by kernel_rfl) (fun _ _ _ h => h) (Or.inl ⟨by kernel_rfl, ?hr1n7_8⟩) hHeld ?_
  case hr1n7_8 => (intro w hSw; (try dsimp only at hSw); go_simp; try (with_reducible rfl))
  try simp only [List.getElem_toArray, List.getElem_cons_zero, List.getElem_cons_succ, Act.put, List.setIfInBounds_toArray, List.set_cons_zero, List.set_cons_succ]
  refine wpAnyH_take (i := 8) (oi := _) (v := ?vr1n8_9) rfl (by kernel_rfl) (by kernel_rfl) (by kernel_rfl) (fun _ _ _ h => h) (Or.inl ⟨by kernel_rfl, ?hr1n8_9⟩) hHeld ?_
  case hr1n8_9 => (intro w hSw; (try dsimp only at hSw); go_simp; try (with_reducible rfl))
  try simp only [List.getElem_toArray, List.getElem_cons_zero, List.getElem_cons_succ, Act.put, List.setIfInBounds_toArray, List.set_cons_zero, List.set_cons_succ]
  refine wpAnyH_take (i := 11) (oi := _) (v := ?vr1n11_10) rfl (by kernel_rfl) (by kernel_rfl) (by kernel_rfl) (fun _ _ _ h => h) (Or.inl ⟨by kernel_rfl, ?hr1n11_10⟩) hHeld ?_
  case hr1n11_10 => (intro w hSw; (try dsimp only at hSw); go_simp; try (with_reducible rfl))
  try simp only [List.getElem_toArray, List.getElem_cons_zero, List.getElem_cons_succ, Act.put, List.setIfInBounds_toArray, List.set_cons_zero, List.set_cons_succ]
  refine wpAnyH_ready (rs := [9]) (by kernel_rfl) (by simp) ?_
  refine AllReadyH.cons (o := _) rfl (fun K hK => ?_) AllReadyH.nil
  go_simp
  (go_at_call 13; refine (RW.out _).mono ?_; rintro e w15 ⟨v, rfl, hown, hb⟩; have hb := (Below.drewN (Below.refl _ w13) 1).trans hb; have HKb16 := Lib.hid (HKb14.out.step hb); have HKc16 := Lib.hid (HKc14.out.step hb); have HB16 := Lib.hid (Below.step HB14.out hb); obtain ⟨Ap, cp, rfl, _, hst, _, _, _⟩ := own_ints hown; have HIp := Lib.hid hst; clear hst hown; clear hb HKb14 HKc14 HB14)
  refine hK.out _ _ ?_ (fun hHeld1 => ?_)
  · (first | exact ⟨HKb16.out.cell 0, HKc16.out.cell 0⟩)
  clear hHeld hK K
  try simp only [List.getElem_toArray, List.getElem_cons_zero, List.getElem_cons_succ, Act.put, List.setIfInBounds_toArray, List.set_cons_zero, List.set_cons_succ]
  refine wpAnyH_ready (rs := [10]) (by kernel_rfl) (by simp) ?_
  refine AllReadyH.cons (o := _) rfl (fun K hK => ?_) AllReadyH.nil
  go_simp
  (go_at_call 15; refine (OR.out _ _ _ HIp.out).mono ?_; rintro e w17 ⟨rfl, hb⟩; have HKb18 := Lib.hid (HKb16.out.step hb); have HKc18 := Lib.hid (HKc16.out.step hb); have HIp18 := Lib.hid (HIp.out.up hb); have HB18 := Lib.hid (Below.step HB16.out hb); clear hb HKb16 HKc16 HIp HB16)
  refine hK.out _ _ ?_ (fun hHeld2 => ?_)
  · (first | exact ⟨HKb18.out.cell 0, HKc18.out.cell 0⟩)
  clear hHeld1 hK K
  try simp only [List.getElem_toArray, List.getElem_cons_zero, List.getElem_cons_succ, Act.put, List.setIfInBounds_toArray, List.set_cons_zero, List.set_cons_succ]
  refine wpAnyH_take (i := 12) (oi := _) (v := ?vr1n12_11) rfl (by kernel_rfl) (by kernel_rfl) (by kernel_rfl) (fun _ _ _ h => h) (Or.inl ⟨by kernel_rfl, ?hr1n12_11⟩) hHeld2 ?_
  case hr1n12_11 => (intro w hSw; (try dsimp only at hSw); go_simp; try (with_reducible rfl))
  try simp only [List.getElem_toArray, List.getElem_cons_zero, List.getElem_cons_succ, Act.put, List.setIfInBounds_toArray, List.set_cons_zero, List.set_cons_succ]
  refine wpAnyH_take (i := 13) (oi := _) (v := ?vr1n13_12) rfl (by kernel_rfl) (by kernel_rfl) (by kernel_rfl) (fun _ _ _ h => h) (Or.inl ⟨by kernel_rfl, ?hr1n13_12⟩) hHeld2 ?_
  case hr1n13_12 => (intro w hSw; (try dsimp only at hSw); go_simp; try (with_reducible rfl))
  try simp only [List.getElem_toArray, List.getElem_cons_zero, List.getElem_cons_succ, Act.put, List.setIfInBounds_toArray, List.set_cons_zero, List.set_cons_succ]
  refine wpAnyH_take (i := 14) (oi := _) (v := ?vr1n14_13) rfl (by kernel_rfl) (by kernel_rfl) (by kernel_rfl) (fun _ _ _ h => h) (Or.inl ⟨by kernel_rfl, ?hr1n14_13⟩) hHeld2 ?_
  case hr1n14_13 => (intro w hSw; (try dsimp only at hSw); go_simp; try (with_reducible rfl))
  try simp only [List.getElem_toArray, List.getElem_cons_zero, List.getElem_cons_succ, Act.put, List.setIfInBounds_toArray, List.set_cons_zero, List.set_cons_succ]
  refine wpAnyH_take (i := 15) (oi := _) (v := ?vr1n15_14) rfl (by kernel_rfl) (by kernel_rfl) (by kernel_rfl) (fun _ _ _ h => h) (Or.inl ⟨by kernel_rfl, ?hr1n15_14⟩) hHeld2 ?_
  case hr1n15_14 => (intro w hSw; (try dsimp only at hSw); go_simp; try (with_reducible rfl))
  try simp only [List.getElem_toArray, List.getElem_cons_zero, List.getElem_cons_succ, Act.put, List.setIfInBounds_toArray, List.set_cons_zero, List.set_cons_succ]
  refine wpAnyH_ready (rs := [16]) (by kernel_rfl) (by simp) ?_
  refine AllReadyH.cons (o := _) rfl (fun K hK => ?_) AllReadyH.nil
  go_simp
  (go_at_call 16; refine (BY.out _).mono ?_; rintro e w19 ⟨rfl, hb⟩; have HKb20 := Lib.hid (HKb18.out.step hb); have HKc20 := Lib.hid (HKc18.out.step hb); have HIp20 := Lib.hid (HIp18.out.up hb); have HB20 := Lib.hid (Below.step HB18.out hb); clear hb HKb18 HKc18 HIp18 HB18)
  refine hK.out _ _ ?_ (fun hHeld3 => ?_)
  · (first | exact ⟨HKb20.out.cell 0, HKc20.out.cell 0⟩)
  clear hHeld2 hK K
  try simp only [List.getElem_toArray, List.getElem_cons_zero, List.getElem_cons_succ, Act.put, List.setIfInBounds_toArray, List.set_cons_zero, List.set_cons_succ]
  refine wpAnyH_take (i := 17) (oi := _) (v := ?vr1n17_15) rfl (by kernel_rfl) (by kernel_rfl) (by kernel_rfl) (fun _ _ _ h => h) (Or.inl ⟨by kernel_rfl, ?hr1n17_15⟩) hHeld3 ?_
  case hr1n17_15 => (intro w hSw; (try dsimp only at hSw); go_simp; try (with_reducible rfl))
  try simp only [List.getElem_toArray, List.getElem_cons_zero, List.getElem_cons_succ, Act.put, List.setIfInBounds_toArray, List.set_cons_zero, List.set_cons_succ]
  refine wpAnyH_take (i := 18) (oi := _) (v := ?vr1n18_16) rfl (by kernel_rfl) (by kernel_rfl) (by kernel_rfl) (fun _ _ _ h => h) (Or.inl ⟨by kernel_rfl, ?hr1n18_16⟩) hHeld3 ?_
  case hr1n18_16 => (intro w hSw; (try dsimp only at hSw); go_simp; try (with_reducible rfl))
  try simp only [List.getElem_toArray, List.getElem_cons_zero, List.getElem_cons_succ, Act.put, List.setIfInBounds_toArray, List.set_cons_zero, List.set_cons_succ]
  refine wpAnyH_take (i := 19) (oi := _) (v := ?vr1n19_17) rfl (by kernel_rfl) (by kernel_rfl) (by kernel_rfl) (fun _ _ _ h => h) (Or.inl ⟨by kernel_rfl, ?hr1n19_17⟩) hHeld3 ?_
  case hr1n19_17 => (intro w hSw; (try dsimp only at hSw); go_simp; try (with_reducible rfl))
  try simp only [List.getElem_toArray, List.getElem_cons_zero, List.getElem_cons_succ, Act.put, List.setIfInBounds_toArray, List.set_cons_zero, List.set_cons_succ]
  refine wpAnyH_done (by kernel_rfl) ?_ _
  refine NoPanic.normal ?_
  have hc_b := HKb20.out.cell 0
  have hc_c := HKc20.out.cell 0
  go_wp2_with fail
  refine (RS.out _).mono ?_
  rintro e w21 ⟨rfl, hb⟩
  (try clear hc_b)
  (try clear hc_c)
  have HKb22 := Lib.hid (HKb20.out.step hb)
  have HKc22 := Lib.hid (HKc20.out.step hb)
  have HB22 := Lib.hid (Below.step HB20.out hb)
  clear hb HKb20 HKc20 HB20
  have hc_b := HKb22.out.cell 0
  have hc_c := HKc22.out.cell 0
  go_upto_region 8 with fail
  (try clear hc_b)
  (try clear hc_c)
  have HKb24 := Lib.hid (HKb22.out.alloc (.cells #[.int .u64 0] 25))
  have HKc24 := Lib.hid (HKc22.out.alloc (.cells #[.int .u64 0] 25))
  have HKd24 := Lib.hid (Blk.new w21 25 #[.int .u64 0] 0 0 (Or.inl (Nat.le_refl _)))
  have HB24 := Lib.hid (HB22.out.alloc HB22.out.size (.cells #[.int .u64 0] 25))
  have hge_d : w.heap.size ≤ w21.heap.size := HB22.out.size
  have hne_b_d : pb ≠ w21.heap.size := Nat.ne_of_lt HKb22.out.lt
  have hne_c_d : pc ≠ w21.heap.size := Nat.ne_of_lt HKc22.out.lt
  generalize w21.heap.size = pd at HKb24 HKc24 HKd24 hge_d hne_b_d hne_c_d ⊢
  generalize World.alloc _ _ = w23 at HKb24 HKc24 HKd24 HB24 ⊢
  clear HKb22 HKc22 HB22
  have hc_b := HKb24.out.cell 0
  have hc_c := HKc24.out.cell 0
  have hc_d := HKd24.out.cell 0
  go_upto_region 9 with fail
  (try clear hc_b)
  (try clear hc_c)
  (try clear hc_d)
  refine wp_region_noPanic ?_
  refine wp_region_held_drew (S := (fun w' => w'.cell? ⟨pd, 0, none⟩ = some (.int .u64 0))) (by kernel_rfl) (by first | exact (Blk.drew HKd24.out).cell 0) (fun hHeld => ?_)
  refine wpAnyH_take (i := 0) (oi := _) (v := ?vr2n0_18) rfl (by kernel_rfl) (by kernel_rfl) (by kernel_rfl) (fun _ _ _ h => h) (Or.inl ⟨by kernel_rfl, ?hr2n0_18⟩) hHeld ?_
  case hr2n0_18 => (intro w hSw; (try dsimp only at hSw); go_simp; try (with_reducible rfl))
  try simp only [List.getElem_toArray, List.getElem_cons_zero, List.getElem_cons_succ, Act.put, List.setIfInBounds_toArray, List.set_cons_zero, List.set_cons_succ]
  refine wpAnyH_ready (rs := [1]) (by kernel_rfl) (by simp) ?_
  refine AllReadyH.cons (o := _) rfl (fun K hK => ?_) AllReadyH.nil
  go_simp
  (go_at_call 15; refine (O0.out _).mono ?_; rintro e w25 ⟨rfl, hb⟩; have hb := (Below.drewN (Below.refl _ w23) 1).trans hb; have HKb26 := Lib.hid (HKb24.out.step hb); have HKc26 := Lib.hid (HKc24.out.step hb); have HKd26 := Lib.hid (HKd24.out.step hb); have HB26 := Lib.hid (Below.step HB24.out hb); clear hb HKb24 HKc24 HKd24 HB24)
  refine hK.out _ _ ?_ (fun hHeld1 => ?_)
  · (first | exact HKd26.out.cell 0)
  clear hHeld hK K
  try simp only [List.getElem_toArray, List.getElem_cons_zero, List.getElem_cons_succ, Act.put, List.setIfInBounds_toArray, List.set_cons_zero, List.set_cons_succ]
  refine wpAnyH_take (i := 2) (oi := _) (v := ?vr2n2_19) rfl (by kernel_rfl) (by kernel_rfl) (by kernel_rfl) (fun _ _ _ h => h) (Or.inl ⟨by kernel_rfl, ?hr2n2_19⟩) hHeld1 ?_
  case hr2n2_19 => (intro w hSw; (try dsimp only at hSw); go_simp; try (with_reducible rfl))
  try simp only [List.getElem_toArray, List.getElem_cons_zero, List.getElem_cons_succ, Act.put, List.setIfInBounds_toArray, List.set_cons_zero, List.set_cons_succ]
  refine wpAnyH_take (i := 3) (oi := _) (v := ?vr2n3_20) rfl (by kernel_rfl) (by kernel_rfl) (by kernel_rfl) (fun _ _ _ h => h) (Or.inl ⟨by kernel_rfl, ?hr2n3_20⟩) hHeld1 ?_
  case hr2n3_20 => (intro w hSw; (try dsimp only at hSw); go_simp; try (with_reducible rfl))
  try simp only [List.getElem_toArray, List.getElem_cons_zero, List.getElem_cons_succ, Act.put, List.setIfInBounds_toArray, List.set_cons_zero, List.set_cons_succ]
  refine wpAnyH_ready (rs := [4]) (by kernel_rfl) (by simp) ?_
  refine AllReadyH.cons (o := _) rfl (fun K hK => ?_) AllReadyH.nil
  go_simp
  (go_at_call 9; refine (WK.out _).mono ?_; rintro e w27 ⟨rfl, hb⟩; have HKb28 := Lib.hid (HKb26.out.step hb); have HKc28 := Lib.hid (HKc26.out.step hb); have HKd28 := Lib.hid (HKd26.out.step hb); have HB28 := Lib.hid (Below.step HB26.out hb); clear hb HKb26 HKc26 HKd26 HB26)
  refine hK.out _ _ ?_ (fun hHeld2 => ?_)
  · (first | exact HKd28.out.cell 0)
  clear hHeld1 hK K
  try simp only [List.getElem_toArray, List.getElem_cons_zero, List.getElem_cons_succ, Act.put, List.setIfInBounds_toArray, List.set_cons_zero, List.set_cons_succ]
  refine wpAnyH_take (i := 5) (oi := _) (v := ?vr2n5_21) rfl (by kernel_rfl) (by kernel_rfl) (by kernel_rfl) (fun _ _ _ h => h) (Or.inl ⟨by kernel_rfl, ?hr2n5_21⟩) hHeld2 ?_
  case hr2n5_21 => (intro w hSw; (try dsimp only at hSw); go_simp; try (with_reducible rfl))
  try simp only [List.getElem_toArray, List.getElem_cons_zero, List.getElem_cons_succ, Act.put, List.setIfInBounds_toArray, List.set_cons_zero, List.set_cons_succ]
  refine wpAnyH_take (i := 6) (oi := _) (v := ?vr2n6_22) rfl (by kernel_rfl) (by kernel_rfl) (by kernel_rfl) (fun _ _ _ h => h) (Or.inl ⟨by kernel_rfl, ?hr2n6_22⟩) hHeld2 ?_
  case hr2n6_22 => (intro w hSw; (try dsimp only at hSw); go_simp; try (with_reducible rfl))
  try simp only [List.getElem_toArray, List.getElem_cons_zero, List.getElem_cons_succ, Act.put, List.setIfInBounds_toArray, List.set_cons_zero, List.set_cons_succ]
  refine wpAnyH_done (by kernel_rfl) ?_ _
  refine NoPanic.normal ?_
  go_wp2
  go_ret
  exact ⟨rfl, HB28.out⟩

set_option maxHeartbeats 4000000 in
theorem bitsBack_yes (A : Option Addr) (ca : Nat) (K rs : List Int) (s Y : List UInt8) (n m : Nat) (hl1 : K.length ≤ 200) (hl2 : s.length ≤ 300) (hY : Y.length = 64) (w : World) (hA : IntsAt w w.heap.size A K)
    (OA : Hid (∀ w, IntsAt w w.heap.size A K → Calls Try.prog 15 #[.slice A K.length ca] w fun e w' => e = .returned (bv n) ∧ Below w.heap.size w w'))
    (BY : Hid (∀ w, Calls Try.prog 16 #[bv n] w fun e w' => e = .returned (.string ⟨Y.toArray⟩) ∧ Below w.heap.size w w'))
    (RD : Hid (∀ w, Calls Try.prog 10 #[.string ⟨Y.toArray⟩] w fun e w' => e = .returned (.tuple #[bv n, .int .i64 0]) ∧ Below w.heap.size w w'))
    (RW : Hid (∀ w, Calls Try.prog 13 #[bv n] w fun e w' => ∃ v, e = .returned v ∧ w'.ownsRow w.heap.size 3 1 v rs.length (rs.map encInt) ∧ Below w.heap.size w w'))
    (OR : Hid (∀ A c w, IntsAt w w.heap.size A rs → Calls Try.prog 15 #[.slice A rs.length c] w fun e w' => e = .returned (bv n) ∧ Below w.heap.size w w'))
    (RS : Hid (∀ w, Calls Try.prog 10 #[.string ⟨s.toArray⟩] w fun e w' => e = .returned (.tuple #[bv m, .int .i64 0]) ∧ Below w.heap.size w w'))
    (O0 : Hid (∀ w, Calls Try.prog 15 #[.slice none 0 0] w fun e w' => e = .returned (bv 0) ∧ Below w.heap.size w w')) (BD : Hid (∀ w, Calls Try.prog 16 #[bv m] w fun e w' => e = .returned (.string ⟨s.toArray⟩) ∧ Below w.heap.size w w')) :
    Calls Try.prog 4 #[.slice A K.length ca, .string ⟨s.toArray⟩] w fun e w' => e = .returned (.bool true) ∧ Below w.heap.size w w' := by
  have WK := Lib.hid wakes_any
  have hl1 : (K.length : Int) ≤ 200 := by omega
  have hl2 : (s.length : Int) ≤ 300 := by omega
  have hY1 : (Y.length : Int) = 64 := by omega
  have HIk := Lib.hid hA
  clear hA
  go_enter Try.func4, Try.ntmps4
  go_wp2_with fail
  refine (OA.out _ HIk.out).mono ?_
  rintro e w29 ⟨rfl, hb⟩
  have HIk30 := Lib.hid (HIk.out.up hb)
  have HB30 := Lib.hid (hb)
  clear hb HIk
  go_upto_region 4 with fail
  clear HIk30
  have HKb32 := Lib.hid (Blk.new w29 25 #[.int .u64 (n : Int)] 0 0 (Or.inl (Nat.le_refl _)))
  have HB32 := Lib.hid (HB30.out.alloc HB30.out.size (.cells #[.int .u64 (n : Int)] 25))
  have hge_b : w.heap.size ≤ w29.heap.size := HB30.out.size
  generalize w29.heap.size = pb at HKb32 hge_b ⊢
  generalize World.alloc _ _ = w31 at HKb32 HB32 ⊢
  clear HB30
  have hc_b := HKb32.out.cell 0
  go_wp2_with fail
  refine (BY.out _).mono ?_
  rintro e w33 ⟨rfl, hb⟩
  (try clear hc_b)
  have HKb34 := Lib.hid (HKb32.out.step hb)
  have HB34 := Lib.hid (Below.step HB32.out hb)
  clear hb HKb32 HB32
  have hc_b := HKb34.out.cell 0
  go_wp2_with fail
  refine (RD.out _).mono ?_
  rintro e w35 ⟨rfl, hb⟩
  (try clear hc_b)
  have HKb36 := Lib.hid (HKb34.out.step hb)
  have HB36 := Lib.hid (Below.step HB34.out hb)
  clear hb HKb34 HB34
  have hc_b := HKb36.out.cell 0
  go_upto_region 5 with fail
  (try clear hc_b)
  have HKb38 := Lib.hid (HKb36.out.alloc (.cells #[.int .u64 (n : Int)] 25))
  have HKc38 := Lib.hid (Blk.new w35 25 #[.int .u64 (n : Int)] 0 0 (Or.inl (Nat.le_refl _)))
  have HB38 := Lib.hid (HB36.out.alloc HB36.out.size (.cells #[.int .u64 (n : Int)] 25))
  have hge_c : w.heap.size ≤ w35.heap.size := HB36.out.size
  have hne_b_c : pb ≠ w35.heap.size := Nat.ne_of_lt HKb36.out.lt
  generalize w35.heap.size = pc at HKb38 HKc38 hge_c hne_b_c ⊢
  generalize World.alloc _ _ = w37 at HKb38 HKc38 HB38 ⊢
  clear HKb36 HB36
  have hc_b := HKb38.out.cell 0
  have hc_c := HKc38.out.cell 0
  (try clear hc_b)
  (try clear hc_c)
  refine wp_region_noPanic ?_
  refine wp_region_held_drew (S := (fun w' => w'.cell? ⟨pb, 0, none⟩ = some (.int .u64 (n : Int)) ∧ w'.cell? ⟨pc, 0, none⟩ = some (.int .u64 (n : Int)))) (by kernel_rfl) (by first | exact ⟨(Blk.drew HKb38.out).cell 0, (Blk.drew HKc38.out).cell 0⟩) (fun hHeld => ?_)
  refine wpAnyH_take (i := 0) (oi := _) (v := ?vr3n0_23) rfl (by kernel_rfl) (by kernel_rfl) (by kernel_rfl) (fun _ _ _ h => h) (Or.inl ⟨by kernel_rfl, ?hr3n0_23⟩) hHeld ?_
  case hr3n0_23 => (intro w hSw; (try dsimp only at hSw); go_simp; try (with_reducible rfl))
  try simp only [List.getElem_toArray, List.getElem_cons_zero, List.getElem_cons_succ, Act.put, List.setIfInBounds_toArray, List.set_cons_zero, List.set_cons_succ]
  refine wpAnyH_take (i := 1) (oi := _) (v := ?vr3n1_24) rfl (by kernel_rfl) (by kernel_rfl) (by kernel_rfl) (fun _ _ _ h => h) (Or.inl ⟨by kernel_rfl, ?hr3n1_24⟩) hHeld ?_
  case hr3n1_24 => (intro w hSw; (try dsimp only at hSw); go_simp; try (with_reducible rfl))
  try simp only [List.getElem_toArray, List.getElem_cons_zero, List.getElem_cons_succ, Act.put, List.setIfInBounds_toArray, List.set_cons_zero, List.set_cons_succ]
  refine wpAnyH_take (i := 2) (oi := _) (v := ?vr3n2_25) rfl (by kernel_rfl) (by kernel_rfl) (by kernel_rfl) (fun _ _ _ h => h) (Or.inl ⟨by kernel_rfl, ?hr3n2_25⟩) hHeld ?_
  case hr3n2_25 => (intro w hSw; (try dsimp only at hSw); go_simp; try (with_reducible rfl))
  try simp only [List.getElem_toArray, List.getElem_cons_zero, List.getElem_cons_succ, Act.put, List.setIfInBounds_toArray, List.set_cons_zero, List.set_cons_succ]
  refine wpAnyH_take (i := 3) (oi := _) (v := ?vr3n3_26) rfl (by kernel_rfl) (by kernel_rfl) (by kernel_rfl) (fun _ _ _ h => h) (Or.inl ⟨by kernel_rfl, ?hr3n3_26⟩) hHeld ?_
  case hr3n3_26 => (intro w hSw; (try dsimp only at hSw); go_simp; try (with_reducible rfl))
  try simp only [List.getElem_toArray, List.getElem_cons_zero, List.getElem_cons_succ, Act.put, List.setIfInBounds_toArray, List.set_cons_zero, List.set_cons_succ]
  refine wpAnyH_take (i := 4) (oi := _) (v := ?vr3n4_27) rfl (by kernel_rfl) (by kernel_rfl) (by kernel_rfl) (fun _ _ _ h => h) (Or.inl ⟨by kernel_rfl, ?hr3n4_27⟩) hHeld ?_
  case hr3n4_27 => (intro w hSw; (try dsimp only at hSw); go_simp; try (with_reducible rfl))
  try simp only [List.getElem_toArray, List.getElem_cons_zero, List.getElem_cons_succ, Act.put, List.setIfInBounds_toArray, List.set_cons_zero, List.set_cons_succ]
  refine wpAnyH_take (i := 5) (oi := _) (v := ?vr3n5_28) rfl (by kernel_rfl) (by kernel_rfl) (by kernel_rfl) (fun _ _ _ h => h) (Or.inl ⟨by kernel_rfl, ?hr3n5_28⟩) hHeld ?_
  case hr3n5_28 => (intro w hSw; (try dsimp only at hSw); go_simp; try (with_reducible rfl))
  try simp only [List.getElem_toArray, List.getElem_cons_zero, List.getElem_cons_succ, Act.put, List.setIfInBounds_toArray, List.set_cons_zero, List.set_cons_succ]
  refine wpAnyH_take (i := 6) (oi := _) (v := ?vr3n6_29) rfl (by kernel_rfl) (by kernel_rfl) (by kernel_rfl) (fun _ _ _ h => h) (Or.inl ⟨by kernel_rfl, ?hr3n6_29⟩) hHeld ?_
  case hr3n6_29 => (intro w hSw; (try dsimp only at hSw); go_simp; try (with_reducible rfl))
  try simp only [List.getElem_toArray, List.getElem_cons_zero, List.getElem_cons_succ, Act.put, List.setIfInBounds_toArray, List.set_cons_zero, List.set_cons_succ]
  refine wpAnyH_take (i := 7) (oi := _) (v := ?vr3n7_30) rfl (by kernel_rfl) (by kernel_rfl) (by kernel_rfl) (fun _ _ _ h => h) (Or.inl ⟨by kernel_rfl, ?hr3n7_30⟩) hHeld ?_
  case hr3n7_30 => (intro w hSw; (try dsimp only at hSw); go_simp; try (with_reducible rfl))
  try simp only [List.getElem_toArray, List.getElem_cons_zero, List.getElem_cons_succ, Act.put, List.setIfInBounds_toArray, List.set_cons_zero, List.set_cons_succ]
  refine wpAnyH_take (i := 8) (oi := _) (v := ?vr3n8_31) rfl (by kernel_rfl) (by kernel_rfl) (by kernel_rfl) (fun _ _ _ h => h) (Or.inl ⟨by kernel_rfl, ?hr3n8_31⟩) hHeld ?_
  case hr3n8_31 => (intro w hSw; (try dsimp only at hSw); go_simp; try (with_reducible rfl))
  try simp only [List.getElem_toArray, List.getElem_cons_zero, List.getElem_cons_succ, Act.put, List.setIfInBounds_toArray, List.set_cons_zero, List.set_cons_succ]
  refine wpAnyH_take (i := 11) (oi := _) (v := ?vr3n11_32) rfl (by kernel_rfl) (by kernel_rfl) (by kernel_rfl) (fun _ _ _ h => h) (Or.inl ⟨by kernel_rfl, ?hr3n11_32⟩) hHeld ?_
  case hr3n11_32 => (intro w hSw; (try dsimp only at hSw); go_simp; try (with_reducible rfl))
  try simp only [List.getElem_toArray, List.getElem_cons_zero, List.getElem_cons_succ, Act.put, List.setIfInBounds_toArray, List.set_cons_zero, List.set_cons_succ]
  refine wpAnyH_ready (rs := [9]) (by kernel_rfl) (by simp) ?_
  refine AllReadyH.cons (o := _) rfl (fun K hK => ?_) AllReadyH.nil
  go_simp
  (go_at_call 13; refine (RW.out _).mono ?_; rintro e w39 ⟨v, rfl, hown, hb⟩; have hb := (Below.drewN (Below.refl _ w37) 1).trans hb; have HKb40 := Lib.hid (HKb38.out.step hb); have HKc40 := Lib.hid (HKc38.out.step hb); have HB40 := Lib.hid (Below.step HB38.out hb); obtain ⟨Ap, cp, rfl, _, hst, _, _, _⟩ := own_ints hown; have HIp := Lib.hid hst; clear hst hown; clear hb HKb38 HKc38 HB38)
  refine hK.out _ _ ?_ (fun hHeld1 => ?_)
  · (first | exact ⟨HKb40.out.cell 0, HKc40.out.cell 0⟩)
  clear hHeld hK K
  try simp only [List.getElem_toArray, List.getElem_cons_zero, List.getElem_cons_succ, Act.put, List.setIfInBounds_toArray, List.set_cons_zero, List.set_cons_succ]
  refine wpAnyH_ready (rs := [10]) (by kernel_rfl) (by simp) ?_
  refine AllReadyH.cons (o := _) rfl (fun K hK => ?_) AllReadyH.nil
  go_simp
  (go_at_call 15; refine (OR.out _ _ _ HIp.out).mono ?_; rintro e w41 ⟨rfl, hb⟩; have HKb42 := Lib.hid (HKb40.out.step hb); have HKc42 := Lib.hid (HKc40.out.step hb); have HIp42 := Lib.hid (HIp.out.up hb); have HB42 := Lib.hid (Below.step HB40.out hb); clear hb HKb40 HKc40 HIp HB40)
  refine hK.out _ _ ?_ (fun hHeld2 => ?_)
  · (first | exact ⟨HKb42.out.cell 0, HKc42.out.cell 0⟩)
  clear hHeld1 hK K
  try simp only [List.getElem_toArray, List.getElem_cons_zero, List.getElem_cons_succ, Act.put, List.setIfInBounds_toArray, List.set_cons_zero, List.set_cons_succ]
  refine wpAnyH_take (i := 12) (oi := _) (v := ?vr3n12_33) rfl (by kernel_rfl) (by kernel_rfl) (by kernel_rfl) (fun _ _ _ h => h) (Or.inl ⟨by kernel_rfl, ?hr3n12_33⟩) hHeld2 ?_
  case hr3n12_33 => (intro w hSw; (try dsimp only at hSw); go_simp; try (with_reducible rfl))
  try simp only [List.getElem_toArray, List.getElem_cons_zero, List.getElem_cons_succ, Act.put, List.setIfInBounds_toArray, List.set_cons_zero, List.set_cons_succ]
  refine wpAnyH_take (i := 13) (oi := _) (v := ?vr3n13_34) rfl (by kernel_rfl) (by kernel_rfl) (by kernel_rfl) (fun _ _ _ h => h) (Or.inl ⟨by kernel_rfl, ?hr3n13_34⟩) hHeld2 ?_
  case hr3n13_34 => (intro w hSw; (try dsimp only at hSw); go_simp; try (with_reducible rfl))
  try simp only [List.getElem_toArray, List.getElem_cons_zero, List.getElem_cons_succ, Act.put, List.setIfInBounds_toArray, List.set_cons_zero, List.set_cons_succ]
  refine wpAnyH_take (i := 14) (oi := _) (v := ?vr3n14_35) rfl (by kernel_rfl) (by kernel_rfl) (by kernel_rfl) (fun _ _ _ h => h) (Or.inl ⟨by kernel_rfl, ?hr3n14_35⟩) hHeld2 ?_
  case hr3n14_35 => (intro w hSw; (try dsimp only at hSw); go_simp; try (with_reducible rfl))
  try simp only [List.getElem_toArray, List.getElem_cons_zero, List.getElem_cons_succ, Act.put, List.setIfInBounds_toArray, List.set_cons_zero, List.set_cons_succ]
  refine wpAnyH_take (i := 15) (oi := _) (v := ?vr3n15_36) rfl (by kernel_rfl) (by kernel_rfl) (by kernel_rfl) (fun _ _ _ h => h) (Or.inl ⟨by kernel_rfl, ?hr3n15_36⟩) hHeld2 ?_
  case hr3n15_36 => (intro w hSw; (try dsimp only at hSw); go_simp; try (with_reducible rfl))
  try simp only [List.getElem_toArray, List.getElem_cons_zero, List.getElem_cons_succ, Act.put, List.setIfInBounds_toArray, List.set_cons_zero, List.set_cons_succ]
  refine wpAnyH_ready (rs := [16]) (by kernel_rfl) (by simp) ?_
  refine AllReadyH.cons (o := _) rfl (fun K hK => ?_) AllReadyH.nil
  go_simp
  (go_at_call 16; refine (BY.out _).mono ?_; rintro e w43 ⟨rfl, hb⟩; have HKb44 := Lib.hid (HKb42.out.step hb); have HKc44 := Lib.hid (HKc42.out.step hb); have HIp44 := Lib.hid (HIp42.out.up hb); have HB44 := Lib.hid (Below.step HB42.out hb); clear hb HKb42 HKc42 HIp42 HB42)
  refine hK.out _ _ ?_ (fun hHeld3 => ?_)
  · (first | exact ⟨HKb44.out.cell 0, HKc44.out.cell 0⟩)
  clear hHeld2 hK K
  try simp only [List.getElem_toArray, List.getElem_cons_zero, List.getElem_cons_succ, Act.put, List.setIfInBounds_toArray, List.set_cons_zero, List.set_cons_succ]
  refine wpAnyH_take (i := 17) (oi := _) (v := ?vr3n17_37) rfl (by kernel_rfl) (by kernel_rfl) (by kernel_rfl) (fun _ _ _ h => h) (Or.inl ⟨by kernel_rfl, ?hr3n17_37⟩) hHeld3 ?_
  case hr3n17_37 => (intro w hSw; (try dsimp only at hSw); go_simp; try (with_reducible rfl))
  try simp only [List.getElem_toArray, List.getElem_cons_zero, List.getElem_cons_succ, Act.put, List.setIfInBounds_toArray, List.set_cons_zero, List.set_cons_succ]
  refine wpAnyH_take (i := 18) (oi := _) (v := ?vr3n18_38) rfl (by kernel_rfl) (by kernel_rfl) (by kernel_rfl) (fun _ _ _ h => h) (Or.inl ⟨by kernel_rfl, ?hr3n18_38⟩) hHeld3 ?_
  case hr3n18_38 => (intro w hSw; (try dsimp only at hSw); go_simp; try (with_reducible rfl))
  try simp only [List.getElem_toArray, List.getElem_cons_zero, List.getElem_cons_succ, Act.put, List.setIfInBounds_toArray, List.set_cons_zero, List.set_cons_succ]
  refine wpAnyH_take (i := 19) (oi := _) (v := ?vr3n19_39) rfl (by kernel_rfl) (by kernel_rfl) (by kernel_rfl) (fun _ _ _ h => h) (Or.inl ⟨by kernel_rfl, ?hr3n19_39⟩) hHeld3 ?_
  case hr3n19_39 => (intro w hSw; (try dsimp only at hSw); go_simp; try (with_reducible rfl))
  try simp only [List.getElem_toArray, List.getElem_cons_zero, List.getElem_cons_succ, Act.put, List.setIfInBounds_toArray, List.set_cons_zero, List.set_cons_succ]
  refine wpAnyH_done (by kernel_rfl) ?_ _
  refine NoPanic.normal ?_
  have hc_b := HKb44.out.cell 0
  have hc_c := HKc44.out.cell 0
  go_wp2_with fail
  refine (RS.out _).mono ?_
  rintro e w45 ⟨rfl, hb⟩
  (try clear hc_b)
  (try clear hc_c)
  have HKb46 := Lib.hid (HKb44.out.step hb)
  have HKc46 := Lib.hid (HKc44.out.step hb)
  have HB46 := Lib.hid (Below.step HB44.out hb)
  clear hb HKb44 HKc44 HB44
  have hc_b := HKb46.out.cell 0
  have hc_c := HKc46.out.cell 0
  go_upto_region 8 with fail
  (try clear hc_b)
  (try clear hc_c)
  have HKb48 := Lib.hid (HKb46.out.alloc (.cells #[.int .u64 (m : Int)] 25))
  have HKc48 := Lib.hid (HKc46.out.alloc (.cells #[.int .u64 (m : Int)] 25))
  have HKd48 := Lib.hid (Blk.new w45 25 #[.int .u64 (m : Int)] 0 0 (Or.inl (Nat.le_refl _)))
  have HB48 := Lib.hid (HB46.out.alloc HB46.out.size (.cells #[.int .u64 (m : Int)] 25))
  have hge_d : w.heap.size ≤ w45.heap.size := HB46.out.size
  have hne_b_d : pb ≠ w45.heap.size := Nat.ne_of_lt HKb46.out.lt
  have hne_c_d : pc ≠ w45.heap.size := Nat.ne_of_lt HKc46.out.lt
  generalize w45.heap.size = pd at HKb48 HKc48 HKd48 hge_d hne_b_d hne_c_d ⊢
  generalize World.alloc _ _ = w47 at HKb48 HKc48 HKd48 HB48 ⊢
  clear HKb46 HKc46 HB46
  have hc_b := HKb48.out.cell 0
  have hc_c := HKc48.out.cell 0
  have hc_d := HKd48.out.cell 0
  go_wp2_with fail
  refine (BD.out _).mono ?_
  rintro e w49 ⟨rfl, hb⟩
  (try clear hc_b)
  (try clear hc_c)
  (try clear hc_d)
  have HKb50 := Lib.hid (HKb48.out.step hb)
  have HKc50 := Lib.hid (HKc48.out.step hb)
  have HKd50 := Lib.hid (HKd48.out.step hb)
  have HB50 := Lib.hid (Below.step HB48.out hb)
  clear hb HKb48 HKc48 HKd48 HB48
  have hc_b := HKb50.out.cell 0
  have hc_c := HKc50.out.cell 0
  have hc_d := HKd50.out.cell 0
  go_wp2_with fail
  refine (WK.out _).mono ?_
  rintro e w51 ⟨rfl, hb⟩
  (try clear hc_b)
  (try clear hc_c)
  (try clear hc_d)
  have HKb52 := Lib.hid (HKb50.out.step hb)
  have HKc52 := Lib.hid (HKc50.out.step hb)
  have HKd52 := Lib.hid (HKd50.out.step hb)
  have HB52 := Lib.hid (Below.step HB50.out hb)
  clear hb HKb50 HKc50 HKd50 HB50
  have hc_b := HKb52.out.cell 0
  have hc_c := HKc52.out.cell 0
  have hc_d := HKd52.out.cell 0
  go_wp2
  go_ret
  exact ⟨rfl, HB52.out⟩

set_option maxHeartbeats 4000000 in
theorem bitsBack_zero (A : Option Addr) (ca : Nat) (K rs : List Int) (s Y : List UInt8) (n m : Nat) (hl1 : K.length ≤ 200) (hl2 : s.length ≤ 300) (hY : Y.length = 64) (w : World) (hA : IntsAt w w.heap.size A K)
    (OA : Hid (∀ w, IntsAt w w.heap.size A K → Calls Try.prog 15 #[.slice A K.length ca] w fun e w' => e = .returned (bv n) ∧ Below w.heap.size w w'))
    (BY : Hid (∀ w, Calls Try.prog 16 #[bv n] w fun e w' => e = .returned (.string ⟨Y.toArray⟩) ∧ Below w.heap.size w w'))
    (RD : Hid (∀ w, Calls Try.prog 10 #[.string ⟨Y.toArray⟩] w fun e w' => e = .returned (.tuple #[bv n, .int .i64 0]) ∧ Below w.heap.size w w'))
    (RW : Hid (∀ w, Calls Try.prog 13 #[bv n] w fun e w' => ∃ v, e = .returned v ∧ w'.ownsRow w.heap.size 3 1 v rs.length (rs.map encInt) ∧ Below w.heap.size w w'))
    (OR : Hid (∀ A c w, IntsAt w w.heap.size A rs → Calls Try.prog 15 #[.slice A rs.length c] w fun e w' => e = .returned (bv n) ∧ Below w.heap.size w w'))
    (RS : Hid (∀ w, Calls Try.prog 10 #[.string ⟨s.toArray⟩] w fun e w' => e = .returned (.tuple #[bv 0, .int .i64 0]) ∧ Below w.heap.size w w'))
    (O0 : Hid (∀ w, Calls Try.prog 15 #[.slice none 0 0] w fun e w' => e = .returned (bv 0) ∧ Below w.heap.size w w')) (hsz : s = z64) (Z : List UInt8) (hZ : ¬ Z = s) (BD : Hid (∀ w, Calls Try.prog 16 #[bv 0] w fun e w' => e = .returned (.string ⟨Z.toArray⟩) ∧ Below w.heap.size w w')) (L0 : Hid (∀ w, Calls Try.prog 17 #[bv 0] w fun e w' => e = .returned (.int .i64 0) ∧ Below w.heap.size w w')) :
    Calls Try.prog 4 #[.slice A K.length ca, .string ⟨s.toArray⟩] w fun e w' => e = .returned (.bool true) ∧ Below w.heap.size w w' := by
  have WK := Lib.hid wakes_any
  have hl1 : (K.length : Int) ≤ 200 := by omega
  have hl2 : (s.length : Int) ≤ 300 := by omega
  have hY1 : (Y.length : Int) = 64 := by omega
  have HIk := Lib.hid hA
  clear hA
  obtain ⟨i0, hi, hz0, hz1, hz2⟩ := info_parts info_u8
  have hmk := fun w => run_make (P := Try.prog) w 39 5 i0 (.int .u8 0) Try.underlying39 hi hz0 .i64 .i64 64 64 (by omega) (by omega) (by rw [hz2]; omega) (by omega)
  rw [hz1] at hmk
  have e64 : (64 : Int).toNat = 64 := rfl
  simp only [e64] at hmk
  have hZ2 : (Z == s) = false := beq_eq_false_iff_ne.2 hZ
  have HCV := Lib.hid (fun w1 : World => by have h := byt_conv (n := 64) (made_u8 w1 64) (by simp) 64; rw [z64_rep, ← hsz] at h; exact h)
  clear hsz hi hz0 hz1 hz2 e64
  go_enter Try.func4, Try.ntmps4
  go_wp2_with fail
  refine (OA.out _ HIk.out).mono ?_
  rintro e w53 ⟨rfl, hb⟩
  have HIk54 := Lib.hid (HIk.out.up hb)
  have HB54 := Lib.hid (hb)
  clear hb HIk
  go_upto_region 4 with fail
  clear HIk54
  have HKb56 := Lib.hid (Blk.new w53 25 #[.int .u64 (n : Int)] 0 0 (Or.inl (Nat.le_refl _)))
  have HB56 := Lib.hid (HB54.out.alloc HB54.out.size (.cells #[.int .u64 (n : Int)] 25))
  have hge_b : w.heap.size ≤ w53.heap.size := HB54.out.size
  generalize w53.heap.size = pb at HKb56 hge_b ⊢
  generalize World.alloc _ _ = w55 at HKb56 HB56 ⊢
  clear HB54
  have hc_b := HKb56.out.cell 0
  go_wp2_with fail
  refine (BY.out _).mono ?_
  rintro e w57 ⟨rfl, hb⟩
  (try clear hc_b)
  have HKb58 := Lib.hid (HKb56.out.step hb)
  have HB58 := Lib.hid (Below.step HB56.out hb)
  clear hb HKb56 HB56
  have hc_b := HKb58.out.cell 0
  go_wp2_with fail
  refine (RD.out _).mono ?_
  rintro e w59 ⟨rfl, hb⟩
  (try clear hc_b)
  have HKb60 := Lib.hid (HKb58.out.step hb)
  have HB60 := Lib.hid (Below.step HB58.out hb)
  clear hb HKb58 HB58
  have hc_b := HKb60.out.cell 0
  go_upto_region 5 with fail
  (try clear hc_b)
  have HKb62 := Lib.hid (HKb60.out.alloc (.cells #[.int .u64 (n : Int)] 25))
  have HKc62 := Lib.hid (Blk.new w59 25 #[.int .u64 (n : Int)] 0 0 (Or.inl (Nat.le_refl _)))
  have HB62 := Lib.hid (HB60.out.alloc HB60.out.size (.cells #[.int .u64 (n : Int)] 25))
  have hge_c : w.heap.size ≤ w59.heap.size := HB60.out.size
  have hne_b_c : pb ≠ w59.heap.size := Nat.ne_of_lt HKb60.out.lt
  generalize w59.heap.size = pc at HKb62 HKc62 hge_c hne_b_c ⊢
  generalize World.alloc _ _ = w61 at HKb62 HKc62 HB62 ⊢
  clear HKb60 HB60
  have hc_b := HKb62.out.cell 0
  have hc_c := HKc62.out.cell 0
  (try clear hc_b)
  (try clear hc_c)
  refine wp_region_noPanic ?_
  refine wp_region_held_drew (S := (fun w' => w'.cell? ⟨pb, 0, none⟩ = some (.int .u64 (n : Int)) ∧ w'.cell? ⟨pc, 0, none⟩ = some (.int .u64 (n : Int)))) (by kernel_rfl) (by first | exact ⟨(Blk.drew HKb62.out).cell 0, (Blk.drew HKc62.out).cell 0⟩) (fun hHeld => ?_)
  refine wpAnyH_take (i := 0) (oi := _) (v := ?vr4n0_40) rfl (by kernel_rfl) (by kernel_rfl) (by kernel_rfl) (fun _ _ _ h => h) (Or.inl ⟨by kernel_rfl, ?hr4n0_40⟩) hHeld ?_
  case hr4n0_40 => (intro w hSw; (try dsimp only at hSw); go_simp; try (with_reducible rfl))
  try simp only [List.getElem_toArray, List.getElem_cons_zero, List.getElem_cons_succ, Act.put, List.setIfInBounds_toArray, List.set_cons_zero, List.set_cons_succ]
  refine wpAnyH_take (i := 1) (oi := _) (v := ?vr4n1_41) rfl (by kernel_rfl) (by kernel_rfl) (by kernel_rfl) (fun _ _ _ h => h) (Or.inl ⟨by kernel_rfl, ?hr4n1_41⟩) hHeld ?_
  case hr4n1_41 => (intro w hSw; (try dsimp only at hSw); go_simp; try (with_reducible rfl))
  try simp only [List.getElem_toArray, List.getElem_cons_zero, List.getElem_cons_succ, Act.put, List.setIfInBounds_toArray, List.set_cons_zero, List.set_cons_succ]
  refine wpAnyH_take (i := 2) (oi := _) (v := ?vr4n2_42) rfl (by kernel_rfl) (by kernel_rfl) (by kernel_rfl) (fun _ _ _ h => h) (Or.inl ⟨by kernel_rfl, ?hr4n2_42⟩) hHeld ?_
  case hr4n2_42 => (intro w hSw; (try dsimp only at hSw); go_simp; try (with_reducible rfl))
  try simp only [List.getElem_toArray, List.getElem_cons_zero, List.getElem_cons_succ, Act.put, List.setIfInBounds_toArray, List.set_cons_zero, List.set_cons_succ]
  refine wpAnyH_take (i := 3) (oi := _) (v := ?vr4n3_43) rfl (by kernel_rfl) (by kernel_rfl) (by kernel_rfl) (fun _ _ _ h => h) (Or.inl ⟨by kernel_rfl, ?hr4n3_43⟩) hHeld ?_
  case hr4n3_43 => (intro w hSw; (try dsimp only at hSw); go_simp; try (with_reducible rfl))
  try simp only [List.getElem_toArray, List.getElem_cons_zero, List.getElem_cons_succ, Act.put, List.setIfInBounds_toArray, List.set_cons_zero, List.set_cons_succ]
  refine wpAnyH_take (i := 4) (oi := _) (v := ?vr4n4_44) rfl (by kernel_rfl) (by kernel_rfl) (by kernel_rfl) (fun _ _ _ h => h) (Or.inl ⟨by kernel_rfl, ?hr4n4_44⟩) hHeld ?_
  case hr4n4_44 => (intro w hSw; (try dsimp only at hSw); go_simp; try (with_reducible rfl))
  try simp only [List.getElem_toArray, List.getElem_cons_zero, List.getElem_cons_succ, Act.put, List.setIfInBounds_toArray, List.set_cons_zero, List.set_cons_succ]
  refine wpAnyH_take (i := 5) (oi := _) (v := ?vr4n5_45) rfl (by kernel_rfl) (by kernel_rfl) (by kernel_rfl) (fun _ _ _ h => h) (Or.inl ⟨by kernel_rfl, ?hr4n5_45⟩) hHeld ?_
  case hr4n5_45 => (intro w hSw; (try dsimp only at hSw); go_simp; try (with_reducible rfl))
  try simp only [List.getElem_toArray, List.getElem_cons_zero, List.getElem_cons_succ, Act.put, List.setIfInBounds_toArray, List.set_cons_zero, List.set_cons_succ]
  refine wpAnyH_take (i := 6) (oi := _) (v := ?vr4n6_46) rfl (by kernel_rfl) (by kernel_rfl) (by kernel_rfl) (fun _ _ _ h => h) (Or.inl ⟨by kernel_rfl, ?hr4n6_46⟩) hHeld ?_
  case hr4n6_46 => (intro w hSw; (try dsimp only at hSw); go_simp; try (with_reducible rfl))
  try simp only [List.getElem_toArray, List.getElem_cons_zero, List.getElem_cons_succ, Act.put, List.setIfInBounds_toArray, List.set_cons_zero, List.set_cons_succ]
  refine wpAnyH_take (i := 7) (oi := _) (v := ?vr4n7_47) rfl (by kernel_rfl) (by kernel_rfl) (by kernel_rfl) (fun _ _ _ h => h) (Or.inl ⟨by kernel_rfl, ?hr4n7_47⟩) hHeld ?_
  case hr4n7_47 => (intro w hSw; (try dsimp only at hSw); go_simp; try (with_reducible rfl))
  try simp only [List.getElem_toArray, List.getElem_cons_zero, List.getElem_cons_succ, Act.put, List.setIfInBounds_toArray, List.set_cons_zero, List.set_cons_succ]
  refine wpAnyH_take (i := 8) (oi := _) (v := ?vr4n8_48) rfl (by kernel_rfl) (by kernel_rfl) (by kernel_rfl) (fun _ _ _ h => h) (Or.inl ⟨by kernel_rfl, ?hr4n8_48⟩) hHeld ?_
  case hr4n8_48 => (intro w hSw; (try dsimp only at hSw); go_simp; try (with_reducible rfl))
  try simp only [List.getElem_toArray, List.getElem_cons_zero, List.getElem_cons_succ, Act.put, List.setIfInBounds_toArray, List.set_cons_zero, List.set_cons_succ]
  refine wpAnyH_take (i := 11) (oi := _) (v := ?vr4n11_49) rfl (by kernel_rfl) (by kernel_rfl) (by kernel_rfl) (fun _ _ _ h => h) (Or.inl ⟨by kernel_rfl, ?hr4n11_49⟩) hHeld ?_
  case hr4n11_49 => (intro w hSw; (try dsimp only at hSw); go_simp; try (with_reducible rfl))
  try simp only [List.getElem_toArray, List.getElem_cons_zero, List.getElem_cons_succ, Act.put, List.setIfInBounds_toArray, List.set_cons_zero, List.set_cons_succ]
  refine wpAnyH_ready (rs := [9]) (by kernel_rfl) (by simp) ?_
  refine AllReadyH.cons (o := _) rfl (fun K hK => ?_) AllReadyH.nil
  go_simp
  (go_at_call 13; refine (RW.out _).mono ?_; rintro e w63 ⟨v, rfl, hown, hb⟩; have hb := (Below.drewN (Below.refl _ w61) 1).trans hb; have HKb64 := Lib.hid (HKb62.out.step hb); have HKc64 := Lib.hid (HKc62.out.step hb); have HB64 := Lib.hid (Below.step HB62.out hb); obtain ⟨Ap, cp, rfl, _, hst, _, _, _⟩ := own_ints hown; have HIp := Lib.hid hst; clear hst hown; clear hb HKb62 HKc62 HB62)
  refine hK.out _ _ ?_ (fun hHeld1 => ?_)
  · (first | exact ⟨HKb64.out.cell 0, HKc64.out.cell 0⟩)
  clear hHeld hK K
  try simp only [List.getElem_toArray, List.getElem_cons_zero, List.getElem_cons_succ, Act.put, List.setIfInBounds_toArray, List.set_cons_zero, List.set_cons_succ]
  refine wpAnyH_ready (rs := [10]) (by kernel_rfl) (by simp) ?_
  refine AllReadyH.cons (o := _) rfl (fun K hK => ?_) AllReadyH.nil
  go_simp
  (go_at_call 15; refine (OR.out _ _ _ HIp.out).mono ?_; rintro e w65 ⟨rfl, hb⟩; have HKb66 := Lib.hid (HKb64.out.step hb); have HKc66 := Lib.hid (HKc64.out.step hb); have HIp66 := Lib.hid (HIp.out.up hb); have HB66 := Lib.hid (Below.step HB64.out hb); clear hb HKb64 HKc64 HIp HB64)
  refine hK.out _ _ ?_ (fun hHeld2 => ?_)
  · (first | exact ⟨HKb66.out.cell 0, HKc66.out.cell 0⟩)
  clear hHeld1 hK K
  try simp only [List.getElem_toArray, List.getElem_cons_zero, List.getElem_cons_succ, Act.put, List.setIfInBounds_toArray, List.set_cons_zero, List.set_cons_succ]
  refine wpAnyH_take (i := 12) (oi := _) (v := ?vr4n12_50) rfl (by kernel_rfl) (by kernel_rfl) (by kernel_rfl) (fun _ _ _ h => h) (Or.inl ⟨by kernel_rfl, ?hr4n12_50⟩) hHeld2 ?_
  case hr4n12_50 => (intro w hSw; (try dsimp only at hSw); go_simp; try (with_reducible rfl))
  try simp only [List.getElem_toArray, List.getElem_cons_zero, List.getElem_cons_succ, Act.put, List.setIfInBounds_toArray, List.set_cons_zero, List.set_cons_succ]
  refine wpAnyH_take (i := 13) (oi := _) (v := ?vr4n13_51) rfl (by kernel_rfl) (by kernel_rfl) (by kernel_rfl) (fun _ _ _ h => h) (Or.inl ⟨by kernel_rfl, ?hr4n13_51⟩) hHeld2 ?_
  case hr4n13_51 => (intro w hSw; (try dsimp only at hSw); go_simp; try (with_reducible rfl))
  try simp only [List.getElem_toArray, List.getElem_cons_zero, List.getElem_cons_succ, Act.put, List.setIfInBounds_toArray, List.set_cons_zero, List.set_cons_succ]
  refine wpAnyH_take (i := 14) (oi := _) (v := ?vr4n14_52) rfl (by kernel_rfl) (by kernel_rfl) (by kernel_rfl) (fun _ _ _ h => h) (Or.inl ⟨by kernel_rfl, ?hr4n14_52⟩) hHeld2 ?_
  case hr4n14_52 => (intro w hSw; (try dsimp only at hSw); go_simp; try (with_reducible rfl))
  try simp only [List.getElem_toArray, List.getElem_cons_zero, List.getElem_cons_succ, Act.put, List.setIfInBounds_toArray, List.set_cons_zero, List.set_cons_succ]
  refine wpAnyH_take (i := 15) (oi := _) (v := ?vr4n15_53) rfl (by kernel_rfl) (by kernel_rfl) (by kernel_rfl) (fun _ _ _ h => h) (Or.inl ⟨by kernel_rfl, ?hr4n15_53⟩) hHeld2 ?_
  case hr4n15_53 => (intro w hSw; (try dsimp only at hSw); go_simp; try (with_reducible rfl))
  try simp only [List.getElem_toArray, List.getElem_cons_zero, List.getElem_cons_succ, Act.put, List.setIfInBounds_toArray, List.set_cons_zero, List.set_cons_succ]
  refine wpAnyH_ready (rs := [16]) (by kernel_rfl) (by simp) ?_
  refine AllReadyH.cons (o := _) rfl (fun K hK => ?_) AllReadyH.nil
  go_simp
  (go_at_call 16; refine (BY.out _).mono ?_; rintro e w67 ⟨rfl, hb⟩; have HKb68 := Lib.hid (HKb66.out.step hb); have HKc68 := Lib.hid (HKc66.out.step hb); have HIp68 := Lib.hid (HIp66.out.up hb); have HB68 := Lib.hid (Below.step HB66.out hb); clear hb HKb66 HKc66 HIp66 HB66)
  refine hK.out _ _ ?_ (fun hHeld3 => ?_)
  · (first | exact ⟨HKb68.out.cell 0, HKc68.out.cell 0⟩)
  clear hHeld2 hK K
  try simp only [List.getElem_toArray, List.getElem_cons_zero, List.getElem_cons_succ, Act.put, List.setIfInBounds_toArray, List.set_cons_zero, List.set_cons_succ]
  refine wpAnyH_take (i := 17) (oi := _) (v := ?vr4n17_54) rfl (by kernel_rfl) (by kernel_rfl) (by kernel_rfl) (fun _ _ _ h => h) (Or.inl ⟨by kernel_rfl, ?hr4n17_54⟩) hHeld3 ?_
  case hr4n17_54 => (intro w hSw; (try dsimp only at hSw); go_simp; try (with_reducible rfl))
  try simp only [List.getElem_toArray, List.getElem_cons_zero, List.getElem_cons_succ, Act.put, List.setIfInBounds_toArray, List.set_cons_zero, List.set_cons_succ]
  refine wpAnyH_take (i := 18) (oi := _) (v := ?vr4n18_55) rfl (by kernel_rfl) (by kernel_rfl) (by kernel_rfl) (fun _ _ _ h => h) (Or.inl ⟨by kernel_rfl, ?hr4n18_55⟩) hHeld3 ?_
  case hr4n18_55 => (intro w hSw; (try dsimp only at hSw); go_simp; try (with_reducible rfl))
  try simp only [List.getElem_toArray, List.getElem_cons_zero, List.getElem_cons_succ, Act.put, List.setIfInBounds_toArray, List.set_cons_zero, List.set_cons_succ]
  refine wpAnyH_take (i := 19) (oi := _) (v := ?vr4n19_56) rfl (by kernel_rfl) (by kernel_rfl) (by kernel_rfl) (fun _ _ _ h => h) (Or.inl ⟨by kernel_rfl, ?hr4n19_56⟩) hHeld3 ?_
  case hr4n19_56 => (intro w hSw; (try dsimp only at hSw); go_simp; try (with_reducible rfl))
  try simp only [List.getElem_toArray, List.getElem_cons_zero, List.getElem_cons_succ, Act.put, List.setIfInBounds_toArray, List.set_cons_zero, List.set_cons_succ]
  refine wpAnyH_done (by kernel_rfl) ?_ _
  refine NoPanic.normal ?_
  have hc_b := HKb68.out.cell 0
  have hc_c := HKc68.out.cell 0
  go_wp2_with fail
  refine (RS.out _).mono ?_
  rintro e w69 ⟨rfl, hb⟩
  (try clear hc_b)
  (try clear hc_c)
  have HKb70 := Lib.hid (HKb68.out.step hb)
  have HKc70 := Lib.hid (HKc68.out.step hb)
  have HB70 := Lib.hid (Below.step HB68.out hb)
  clear hb HKb68 HKc68 HB68
  have hc_b := HKb70.out.cell 0
  have hc_c := HKc70.out.cell 0
  go_upto_region 8 with fail
  (try clear hc_b)
  (try clear hc_c)
  have HKb72 := Lib.hid (HKb70.out.alloc (.cells #[.int .u64 0] 25))
  have HKc72 := Lib.hid (HKc70.out.alloc (.cells #[.int .u64 0] 25))
  have HKd72 := Lib.hid (Blk.new w69 25 #[.int .u64 0] 0 0 (Or.inl (Nat.le_refl _)))
  have HB72 := Lib.hid (HB70.out.alloc HB70.out.size (.cells #[.int .u64 0] 25))
  have hge_d : w.heap.size ≤ w69.heap.size := HB70.out.size
  have hne_b_d : pb ≠ w69.heap.size := Nat.ne_of_lt HKb70.out.lt
  have hne_c_d : pc ≠ w69.heap.size := Nat.ne_of_lt HKc70.out.lt
  generalize w69.heap.size = pd at HKb72 HKc72 HKd72 hge_d hne_b_d hne_c_d ⊢
  generalize World.alloc _ _ = w71 at HKb72 HKc72 HKd72 HB72 ⊢
  clear HKb70 HKc70 HB70
  have hc_b := HKb72.out.cell 0
  have hc_c := HKc72.out.cell 0
  have hc_d := HKd72.out.cell 0
  go_wp2_with fail
  refine (BD.out _).mono ?_
  rintro e w73 ⟨rfl, hb⟩
  (try clear hc_b)
  (try clear hc_c)
  (try clear hc_d)
  have HKb74 := Lib.hid (HKb72.out.step hb)
  have HKc74 := Lib.hid (HKc72.out.step hb)
  have HKd74 := Lib.hid (HKd72.out.step hb)
  have HB74 := Lib.hid (Below.step HB72.out hb)
  clear hb HKb72 HKc72 HKd72 HB72
  have hc_b := HKb74.out.cell 0
  have hc_c := HKc74.out.cell 0
  have hc_d := HKd74.out.cell 0
  have hcv := HCV.out w73
  have hc_d2 := (HKd74.out.alloc (.cells (madeCells #[Value.int .u8 0] 64) 5)).cell 0
  have HBm := Lib.hid (HB74.out.alloc HB74.out.size (.cells (madeCells #[Value.int .u8 0] 64) 5))
  clear hc_d HB74
  go_wp2_with fail
  refine (L0.out _).mono ?_
  rintro e w75 ⟨rfl, hb⟩
  have HB76 := Lib.hid (Below.step HBm.out hb)
  clear hb HBm
  go_wp2_with fail
  refine (WK.out _).mono ?_
  rintro e w77 ⟨rfl, hb⟩
  have HB78 := Lib.hid (Below.step HB76.out hb)
  clear hb HB76
  go_wp2
  go_ret
  exact ⟨rfl, HB78.out⟩

theorem bitsBack_walk (A : Option Addr) (ca : Nat) (K : List Int) (s : List UInt8) (hK : K.length ≤ maxLen) (hs : s.length ≤ maxLen) (w : World) (hA : IntsAt w w.heap.size A K) :
    Calls Try.prog 4 #[.slice A K.length ca, .string ⟨s.toArray⟩] w fun e w' => e = .returned (.bool true) ∧ Below w.heap.size w w' := by
  by_cases hl : K.length ≤ 200 ∧ s.length ≤ 300
  · obtain ⟨h1, h2⟩ := hl
    have bn := of_b K
    have b0 : B64 0 := by unfold B64; decide
    have hbm := readV_b s
    have RS := fun w => read_any s hs w
    have RD := fun w => read_any (bytesV (ofN K)) (by rw [bytesV_len]; decide) w
    rw [read_bytes _ bn] at RD
    have OR := fun (A : Option Addr) (c : Nat) w h => of_any A c (rowsN (ofN K)) (rowsN_max _) w h
    rw [of_rows _ bn] at OR
    rcases readV_three s with ⟨m, h, hm⟩ | ⟨hz, h⟩ | h
    · rw [h] at RS hbm
      exact bitsBack_yes A ca K (rowsN (ofN K)) s (bytesV (ofN K)) (ofN K) m h1 h2 (bytesV_len _) w hA (Lib.hid (fun w h => of_any A ca K hK w h)) (Lib.hid (fun w => bytes_any _ bn w)) (Lib.hid RD) (Lib.hid (fun w => rows_any _ bn w)) (Lib.hid OR) (Lib.hid RS) (Lib.hid of_nil)
        (Lib.hid (fun w => by have h := bytes_any m hbm w; rw [hm] at h; exact h))
    · rw [h] at RS
      have e0 : (rowsN 0).length = 0 := by decide +kernel
      exact bitsBack_zero A ca K (rowsN (ofN K)) s (bytesV (ofN K)) (ofN K) 0 h1 h2 (bytesV_len _) w hA (Lib.hid (fun w h => of_any A ca K hK w h)) (Lib.hid (fun w => bytes_any _ bn w)) (Lib.hid RD) (Lib.hid (fun w => rows_any _ bn w)) (Lib.hid OR) (Lib.hid RS) (Lib.hid of_nil)
        hz (bytesV 0) (by rw [hz]; exact bytesV_nz 0) (Lib.hid (fun w => bytes_any 0 b0 w)) (Lib.hid (fun w => by have h := len_any 0 b0 w; rw [e0] at h; exact h))
    · rw [h] at RS
      exact bitsBack_no A ca K (rowsN (ofN K)) s (bytesV (ofN K)) (ofN K) 0 h1 h2 (bytesV_len _) w hA (Lib.hid (fun w h => of_any A ca K hK w h)) (Lib.hid (fun w => bytes_any _ bn w)) (Lib.hid RD) (Lib.hid (fun w => rows_any _ bn w)) (Lib.hid OR) (Lib.hid RS) (Lib.hid of_nil)
  · exact bitsBack_long A ca K s (by omega) w hK hs
end Go.Proofs.Ytpineeaghmfggaa
