/- The walk through the law BitsSet: it answers true. Condition: numbers that a memory can hold. -/
import Derived.Test.YtpineeaghmfggaaBiW
import Derived.Test.YtpineeaghmfggaaBiK
namespace Go.Proofs.Ytpineeaghmfggaa
set_option linter.unusedVariables false
set_option linter.unusedSimpArgs false
set_option maxRecDepth 100000
open Go.RowKit
attribute [local go_sem ↓] Go.wp_at_zero Go.wp_at_succ
attribute [local go_sem ↓] ld_rw

set_option maxHeartbeats 1000000 in
theorem bitsSet_long (A : Option Addr) (c : Nat) (L : List Int) (r q : Int) (hs : L.length ≤ maxLen) (hl : 200 < L.length) (w : World) : Calls Try.prog 5 #[.slice A L.length c, .int .i64 r, .int .i64 q] w fun e w' => e = .returned (.bool true) ∧ Below w.heap.size w w' := by
  have WK := Lib.hid wakes_any
  have hl1 : (200 : Int) < (L.length : Int) := by omega
  clear hl hs
  go_enter Try.func5, Try.ntmps5
  go_wp2_with fail
  refine (WK.out _).mono ?_
  rintro e w1 ⟨rfl, hb⟩
  have HB2 := Lib.hid (hb)
  clear hb 
  go_wp2
  go_ret
  exact ⟨rfl, HB2.out⟩

set_option maxHeartbeats 4000000 in
theorem bitsSet_main (A : Option Addr) (c : Nat) (L rsn rsx : List Int) (Y : List UInt8) (n m x : Nat) (r q : Int) (hl : L.length ≤ 200) (w : World) (hA : IntsAt w w.heap.size A L)
    (CO : Hid (∀ w, IntsAt w w.heap.size A L → Calls Try.prog 15 #[.slice A L.length c] w fun e w' => e = .returned (bv n) ∧ Below w.heap.size w w'))
    (CR : Hid (∀ w, IntsAt w w.heap.size A L → Calls Try.prog 18 #[.slice A L.length c] w fun e w' => e = .returned (.agg (rwC n)) ∧ Below w.heap.size w w'))
    (RW : Hid (∀ w, Calls Try.prog 13 #[bv n] w fun e w' => ∃ v, e = .returned v ∧ w'.ownsRow w.heap.size 3 1 v (rsn).length ((rsn).map encInt) ∧ Below w.heap.size w w'))
    (LS : Hid (∀ w, Calls Try.prog 14 #[.agg (rwC n)] w fun e w' => ∃ v, e = .returned v ∧ w'.ownsRow w.heap.size 3 1 v (rsn).length ((rsn).map encInt) ∧ Below w.heap.size w w'))
    (SM : Hid (∀ A c B d w, IntsAt w w.heap.size A rsn → IntsAt w w.heap.size B rsn → Calls Try.prog 12 #[.slice A (rsn).length c, .slice B (rsn).length d] w fun e w' => e = .returned (.bool true) ∧ Below w.heap.size w w'))
    (LN : Hid (∀ w, Calls Try.prog 17 #[bv n] w fun e w' => e = .returned (.int .i64 (rsn.length : Int)) ∧ Below w.heap.size w w'))
    (BY : Hid (∀ w, Calls Try.prog 16 #[bv n] w fun e w' => e = .returned (.string ⟨Y.toArray⟩) ∧ Below w.heap.size w w'))
    (RB : Hid (∀ w, Calls Try.prog 19 #[.agg (rwC n)] w fun e w' => e = .returned (.string ⟨Y.toArray⟩) ∧ Below w.heap.size w w'))
    (WI : Hid (∀ w, Calls Try.prog 20 #[bv n, .int .i64 r] w fun e w' => e = .returned (bv m) ∧ Below w.heap.size w w'))
    (WO : Hid (∀ w, Calls Try.prog 21 #[bv m, .int .i64 q] w fun e w' => e = .returned (bv x) ∧ Below w.heap.size w w'))
    (RX : Hid (∀ w, Calls Try.prog 13 #[bv x] w fun e w' => ∃ v, e = .returned v ∧ w'.ownsRow w.heap.size 3 1 v (rsx).length ((rsx).map encInt) ∧ Below w.heap.size w w'))
    (LX : Hid (∀ w, Calls Try.prog 14 #[.agg (rwC x)] w fun e w' => ∃ v, e = .returned v ∧ w'.ownsRow w.heap.size 3 1 v (rsx).length ((rsx).map encInt) ∧ Below w.heap.size w w'))
    (SX : Hid (∀ A c B d w, IntsAt w w.heap.size A rsx → IntsAt w w.heap.size B rsx → Calls Try.prog 12 #[.slice A (rsx).length c, .slice B (rsx).length d] w fun e w' => e = .returned (.bool true) ∧ Below w.heap.size w w'))
    (HM : Hid (∀ w, Calls Try.prog 22 #[bv x, .int .i64 (-1)] w fun e w' => e = .returned (.bool false) ∧ Below w.heap.size w w'))
    (H64 : Hid (∀ w, Calls Try.prog 22 #[bv x, .int .i64 64] w fun e w' => e = .returned (.bool false) ∧ Below w.heap.size w w'))
    (HI : Hid (∀ i : Nat, i < 64 → ∀ w, Calls Try.prog 22 #[bv x, .int .i64 (i : Int)] w fun e w' => e = .returned (.bool (x.testBit i)) ∧ Below w.heap.size w w'))
    (S1 : Hid (∀ j : Nat, r = (j : Int) → j < 64 → (rwC n).setIfInBounds j (.bool true) = rwC m)) (S1n : Hid (¬ (0 ≤ r ∧ r < 64) → m = n))
    (S2 : Hid (∀ j : Nat, q = (j : Int) → j < 64 → (rwC m).setIfInBounds j (.bool false) = rwC x)) (S2n : Hid (¬ (0 ≤ q ∧ q < 64) → x = m)) :
    Calls Try.prog 5 #[.slice A L.length c, .int .i64 r, .int .i64 q] w fun e w' => e = .returned (.bool true) ∧ Below w.heap.size w w' := by
  have WK := Lib.hid wakes_any
  have hl1 : (L.length : Int) ≤ 200 := by omega
  have HIl := Lib.hid hA
  clear hl hA
  go_enter Try.func5, Try.ntmps5
  go_wp2_with fail
  refine (CO.out _ HIl.out).mono ?_
  rintro e w3 ⟨rfl, hb⟩
  have HIl4 := Lib.hid (HIl.out.up hb)
  have HB4 := Lib.hid (hb)
  clear hb HIl
  go_upto_region 4 with fail
  have HIl6 := Lib.hid (HIl4.out.up ((Below.refl _ w3).alloc (Nat.le_refl _) (.cells #[.int .u64 (n : Int)] 25)))
  have HKb6 := Lib.hid (Blk.new w3 25 #[.int .u64 (n : Int)] 0 0 (Or.inl (Nat.le_refl _)))
  have HB6 := Lib.hid (HB4.out.alloc HB4.out.size (.cells #[.int .u64 (n : Int)] 25))
  have hge_b : w.heap.size ≤ w3.heap.size := HB4.out.size
  generalize w3.heap.size = pb at HKb6 hge_b ⊢
  generalize World.alloc _ _ = w5 at HKb6 HIl6 HB6 ⊢
  clear HIl4 HB4
  have hc_b := HKb6.out.cell 0
  go_wp2_with fail
  refine (CR.out _ HIl6.out).mono ?_
  rintro e w7 ⟨rfl, hb⟩
  (try clear hc_b)
  have HKb8 := Lib.hid (HKb6.out.step hb)
  have HIl8 := Lib.hid (HIl6.out.up hb)
  have HB8 := Lib.hid (Below.step HB6.out hb)
  clear hb HKb6 HIl6 HB6
  have hc_b := HKb8.out.cell 0
  have tok10 : True := trivial
  go_upto_region 5 with (have _t := tok10; refine wpList_store_blk rfl 30 _ _ rfl w7.heap.size (rwC n) rfl rfl zlit 30 (Blk.new w7 30 zlit 0 0 (Or.inl (Nat.le_refl _))) (by rw [rwC_size]; rfl) (by rw [rwC_size]; exact size_rows) (rwC_one _) ?_; clear tok10)
  (try clear hc_b)
  have HKb10 := Lib.hid ((HKb8.out.alloc (.cells zlit 30)).setCells_other w7.heap.size 0 (rwC n).toList (Nat.ne_of_lt HKb8.out.lt))
  have HIl10 := Lib.hid (HIl8.out.up (Below.setCells ((Below.refl _ w7).alloc (Nat.le_refl _) (.cells zlit 30)) (Nat.le_refl _) 0 (rwC n).toList))
  have HKr10 := Lib.hid ((Blk.new w7 30 zlit 0 0 (Or.inl (Nat.le_refl _))).setAll (cs := rwC n) (by rw [rwC_size]; rfl))
  have HB10 := Lib.hid (Below.setCells (HB8.out.alloc HB8.out.size (.cells zlit 30)) HB8.out.size 0 (rwC n).toList)
  generalize World.setCells _ _ _ _ = w9 at HKb10 HKr10 HIl10 HB10 ⊢
  have hge_r : w.heap.size ≤ w7.heap.size := HB8.out.size
  have hne_b_r : pb ≠ w7.heap.size := Nat.ne_of_lt HKb8.out.lt
  generalize w7.heap.size = pr at HKb10 HKr10 hge_r hne_b_r ⊢
  clear HKb8 HIl8 HB8
  have hc_b := HKb10.out.cell 0
  clear HIl10
  (try clear hc_b)
  refine wp_region_noPanic ?_
  refine wp_region_held_drew (S := (fun w' => w'.cell? ⟨pb, 0, none⟩ = some (.int .u64 (n : Int)) ∧ (Ld 30 (.pointer (some ⟨pr, 0, none⟩))).run Try.prog w' = .ok (.agg (rwC n)) w')) (by kernel_rfl) (by first | exact ⟨(Blk.drew HKb10.out).cell 0, (Blk.drew HKr10.out).ld⟩) (fun hHeld => ?_)
  refine wpAnyH_take (i := 0) (oi := _) (v := ?vr1n0_1) rfl (by kernel_rfl) (by kernel_rfl) (by kernel_rfl) (fun _ _ _ h => h) (Or.inl ⟨by kernel_rfl, ?hr1n0_1⟩) hHeld ?_
  case hr1n0_1 => (intro w hSw; (try dsimp only at hSw); go_simp; try (with_reducible rfl))
  try simp only [List.getElem_toArray, List.getElem_cons_zero, List.getElem_cons_succ, Act.put, List.setIfInBounds_toArray, List.set_cons_zero, List.set_cons_succ]
  refine wpAnyH_take (i := 2) (oi := _) (v := ?vr1n2_2) rfl (by kernel_rfl) (by kernel_rfl) (by kernel_rfl) (fun _ _ _ h => h) (Or.inl ⟨by kernel_rfl, ?hr1n2_2⟩) hHeld ?_
  case hr1n2_2 => (intro w hSw; (try dsimp only at hSw); go_simp; try (with_reducible rfl))
  try simp only [List.getElem_toArray, List.getElem_cons_zero, List.getElem_cons_succ, Act.put, List.setIfInBounds_toArray, List.set_cons_zero, List.set_cons_succ]
  refine wpAnyH_ready (rs := [1]) (by kernel_rfl) (by simp) ?_
  refine AllReadyH.cons (o := _) rfl (fun K hK => ?_) AllReadyH.nil
  go_simp
  (go_at_call 13; refine (RW.out _).mono ?_; rintro e w11 ⟨v, rfl, hown, hb⟩; have hb := (Below.drewN (Below.refl _ w9) 1).trans hb; have HKb12 := Lib.hid (HKb10.out.step hb); have HKr12 := Lib.hid (HKr10.out.step hb); have HB12 := Lib.hid (Below.step HB10.out hb); obtain ⟨Ap, cp, rfl, _, hst, _, _, _⟩ := own_ints hown; have HIp := Lib.hid hst; clear hst hown; clear hb HKb10 HKr10 HB10)
  refine hK.out _ _ ?_ (fun hHeld1 => ?_)
  · (first | exact ⟨HKb12.out.cell 0, HKr12.out.ld⟩)
  clear hHeld hK K
  try simp only [List.getElem_toArray, List.getElem_cons_zero, List.getElem_cons_succ, Act.put, List.setIfInBounds_toArray, List.set_cons_zero, List.set_cons_succ]
  refine wpAnyH_ready (rs := [3]) (by kernel_rfl) (by simp) ?_
  refine AllReadyH.cons (o := _) rfl (fun K hK => ?_) AllReadyH.nil
  go_simp
  (go_at_call 14; refine (LS.out _).mono ?_; rintro e w13 ⟨v, rfl, hown, hb⟩; have HKb14 := Lib.hid (HKb12.out.step hb); have HKr14 := Lib.hid (HKr12.out.step hb); have HIp14 := Lib.hid (HIp.out.up hb); have HB14 := Lib.hid (Below.step HB12.out hb); obtain ⟨Aq, cq, rfl, _, hst, _, _, _⟩ := own_ints hown; have HIq := Lib.hid hst; clear hst hown; clear hb HKb12 HKr12 HIp HB12)
  refine hK.out _ _ ?_ (fun hHeld2 => ?_)
  · (first | exact ⟨HKb14.out.cell 0, HKr14.out.ld⟩)
  clear hHeld1 hK K
  try simp only [List.getElem_toArray, List.getElem_cons_zero, List.getElem_cons_succ, Act.put, List.setIfInBounds_toArray, List.set_cons_zero, List.set_cons_succ]
  refine wpAnyH_ready (rs := [4]) (by kernel_rfl) (by simp) ?_
  refine AllReadyH.cons (o := _) rfl (fun K hK => ?_) AllReadyH.nil
  go_simp
  (go_at_call 12; refine (SM.out _ _ _ _ _ HIp14.out HIq.out).mono ?_; rintro e w15 ⟨rfl, hb⟩; have HKb16 := Lib.hid (HKb14.out.step hb); have HKr16 := Lib.hid (HKr14.out.step hb); have HIp16 := Lib.hid (HIp14.out.up hb); have HIq16 := Lib.hid (HIq.out.up hb); have HB16 := Lib.hid (Below.step HB14.out hb); clear hb HKb14 HKr14 HIp14 HIq HB14)
  refine hK.out _ _ ?_ (fun hHeld3 => ?_)
  · (first | exact ⟨HKb16.out.cell 0, HKr16.out.ld⟩)
  clear hHeld2 hK K
  try simp only [List.getElem_toArray, List.getElem_cons_zero, List.getElem_cons_succ, Act.put, List.setIfInBounds_toArray, List.set_cons_zero, List.set_cons_succ]
  refine wpAnyH_take (i := 5) (oi := _) (v := ?vr1n5_3) rfl (by kernel_rfl) (by kernel_rfl) (by kernel_rfl) (fun _ _ _ h => h) (Or.inl ⟨by kernel_rfl, ?hr1n5_3⟩) hHeld3 ?_
  case hr1n5_3 => (intro w hSw; (try dsimp only at hSw); go_simp; try (with_reducible rfl))
  try simp only [List.getElem_toArray, List.getElem_cons_zero, List.getElem_cons_succ, Act.put, List.setIfInBounds_toArray, List.set_cons_zero, List.set_cons_succ]
  refine wpAnyH_take (i := 6) (oi := _) (v := ?vr1n6_4) rfl (by kernel_rfl) (by kernel_rfl) (by kernel_rfl) (fun _ _ _ h => h) (Or.inl ⟨by kernel_rfl, ?hr1n6_4⟩) hHeld3 ?_
  case hr1n6_4 => (intro w hSw; (try dsimp only at hSw); go_simp; try (with_reducible rfl))
  try simp only [List.getElem_toArray, List.getElem_cons_zero, List.getElem_cons_succ, Act.put, List.setIfInBounds_toArray, List.set_cons_zero, List.set_cons_succ]
  refine wpAnyH_take (i := 7) (oi := _) (v := ?vr1n7_5) rfl (by kernel_rfl) (by kernel_rfl) (by kernel_rfl) (fun _ _ _ h => h) (Or.inl ⟨by kernel_rfl, ?hr1n7_5⟩) hHeld3 ?_
  case hr1n7_5 => (intro w hSw; (try dsimp only at hSw); go_simp; try (with_reducible rfl))
  try simp only [List.getElem_toArray, List.getElem_cons_zero, List.getElem_cons_succ, Act.put, List.setIfInBounds_toArray, List.set_cons_zero, List.set_cons_succ]
  refine wpAnyH_take (i := 9) (oi := _) (v := ?vr1n9_6) rfl (by kernel_rfl) (by kernel_rfl) (by kernel_rfl) (fun _ _ _ h => h) (Or.inl ⟨by kernel_rfl, ?hr1n9_6⟩) hHeld3 ?_
  case hr1n9_6 => (intro w hSw; (try dsimp only at hSw); go_simp; try (with_reducible rfl))
  try simp only [List.getElem_toArray, List.getElem_cons_zero, List.getElem_cons_succ, Act.put, List.setIfInBounds_toArray, List.set_cons_zero, List.set_cons_succ]
  refine wpAnyH_ready (rs := [8]) (by kernel_rfl) (by simp) ?_
  refine AllReadyH.cons (o := _) rfl (fun K hK => ?_) AllReadyH.nil
  go_simp
  (go_at_call 17; refine (LN.out _).mono ?_; rintro e w17 ⟨rfl, hb⟩; have HKb18 := Lib.hid (HKb16.out.step hb); have HKr18 := Lib.hid (HKr16.out.step hb); have HIp18 := Lib.hid (HIp16.out.up hb); have HIq18 := Lib.hid (HIq16.out.up hb); have HB18 := Lib.hid (Below.step HB16.out hb); clear hb HKb16 HKr16 HIp16 HIq16 HB16)
  refine hK.out _ _ ?_ (fun hHeld4 => ?_)
  · (first | exact ⟨HKb18.out.cell 0, HKr18.out.ld⟩)
  clear hHeld3 hK K
  try simp only [List.getElem_toArray, List.getElem_cons_zero, List.getElem_cons_succ, Act.put, List.setIfInBounds_toArray, List.set_cons_zero, List.set_cons_succ]
  refine wpAnyH_ready (rs := [10]) (by kernel_rfl) (by simp) ?_
  refine AllReadyH.cons (o := _) rfl (fun K hK => ?_) AllReadyH.nil
  go_simp
  (go_at_call 14; refine (LS.out _).mono ?_; rintro e w19 ⟨v, rfl, hown, hb⟩; have HKb20 := Lib.hid (HKb18.out.step hb); have HKr20 := Lib.hid (HKr18.out.step hb); have HIp20 := Lib.hid (HIp18.out.up hb); have HIq20 := Lib.hid (HIq18.out.up hb); have HB20 := Lib.hid (Below.step HB18.out hb); obtain ⟨As, cs, rfl, _, hst, _, _, _⟩ := own_ints hown; have HIs := Lib.hid hst; clear hst hown; clear hb HKb18 HKr18 HIp18 HIq18 HB18)
  refine hK.out _ _ ?_ (fun hHeld5 => ?_)
  · (first | exact ⟨HKb20.out.cell 0, HKr20.out.ld⟩)
  clear hHeld4 hK K
  try simp only [List.getElem_toArray, List.getElem_cons_zero, List.getElem_cons_succ, Act.put, List.setIfInBounds_toArray, List.set_cons_zero, List.set_cons_succ]
  refine wpAnyH_take (i := 11) (oi := _) (v := ?vr1n11_7) rfl (by kernel_rfl) (by kernel_rfl) (by kernel_rfl) (fun _ _ _ h => h) (Or.inl ⟨by kernel_rfl, ?hr1n11_7⟩) hHeld5 ?_
  case hr1n11_7 => (intro w hSw; (try dsimp only at hSw); go_simp; try (with_reducible rfl))
  try simp only [List.getElem_toArray, List.getElem_cons_zero, List.getElem_cons_succ, Act.put, List.setIfInBounds_toArray, List.set_cons_zero, List.set_cons_succ]
  refine wpAnyH_take (i := 12) (oi := _) (v := ?vr1n12_8) rfl (by kernel_rfl) (by kernel_rfl) (by kernel_rfl) (fun _ _ _ h => h) (Or.inl ⟨by kernel_rfl, ?hr1n12_8⟩) hHeld5 ?_
  case hr1n12_8 => (intro w hSw; (try dsimp only at hSw); go_simp; try (with_reducible rfl))
  try simp only [List.getElem_toArray, List.getElem_cons_zero, List.getElem_cons_succ, Act.put, List.setIfInBounds_toArray, List.set_cons_zero, List.set_cons_succ]
  refine wpAnyH_take (i := 13) (oi := _) (v := ?vr1n13_9) rfl (by kernel_rfl) (by kernel_rfl) (by kernel_rfl) (fun _ _ _ h => h) (Or.inl ⟨by kernel_rfl, ?hr1n13_9⟩) hHeld5 ?_
  case hr1n13_9 => (intro w hSw; (try dsimp only at hSw); go_simp; try (with_reducible rfl))
  try simp only [List.getElem_toArray, List.getElem_cons_zero, List.getElem_cons_succ, Act.put, List.setIfInBounds_toArray, List.set_cons_zero, List.set_cons_succ]
  refine wpAnyH_take (i := 14) (oi := _) (v := ?vr1n14_10) rfl (by kernel_rfl) (by kernel_rfl) (by kernel_rfl) (fun _ _ _ h => h) (Or.inl ⟨by kernel_rfl, ?hr1n14_10⟩) hHeld5 ?_
  case hr1n14_10 => (intro w hSw; (try dsimp only at hSw); go_simp; try (with_reducible rfl))
  try simp only [List.getElem_toArray, List.getElem_cons_zero, List.getElem_cons_succ, Act.put, List.setIfInBounds_toArray, List.set_cons_zero, List.set_cons_succ]
  refine wpAnyH_take (i := 15) (oi := _) (v := ?vr1n15_11) rfl (by kernel_rfl) (by kernel_rfl) (by kernel_rfl) (fun _ _ _ h => h) (Or.inl ⟨by kernel_rfl, ?hr1n15_11⟩) hHeld5 ?_
  case hr1n15_11 => (intro w hSw; (try dsimp only at hSw); go_simp; try (with_reducible rfl))
  try simp only [List.getElem_toArray, List.getElem_cons_zero, List.getElem_cons_succ, Act.put, List.setIfInBounds_toArray, List.set_cons_zero, List.set_cons_succ]
  refine wpAnyH_take (i := 17) (oi := _) (v := ?vr1n17_12) rfl (by kernel_rfl) (by kernel_rfl) (by kernel_rfl) (fun _ _ _ h => h) (Or.inl ⟨by kernel_rfl, ?hr1n17_12⟩) hHeld5 ?_
  case hr1n17_12 => (intro w hSw; (try dsimp only at hSw); go_simp; try (with_reducible rfl))
  try simp only [List.getElem_toArray, List.getElem_cons_zero, List.getElem_cons_succ, Act.put, List.setIfInBounds_toArray, List.set_cons_zero, List.set_cons_succ]
  refine wpAnyH_ready (rs := [16]) (by kernel_rfl) (by simp) ?_
  refine AllReadyH.cons (o := _) rfl (fun K hK => ?_) AllReadyH.nil
  go_simp
  (go_at_call 16; refine (BY.out _).mono ?_; rintro e w21 ⟨rfl, hb⟩; have HKb22 := Lib.hid (HKb20.out.step hb); have HKr22 := Lib.hid (HKr20.out.step hb); have HIp22 := Lib.hid (HIp20.out.up hb); have HIq22 := Lib.hid (HIq20.out.up hb); have HIs22 := Lib.hid (HIs.out.up hb); have HB22 := Lib.hid (Below.step HB20.out hb); clear hb HKb20 HKr20 HIp20 HIq20 HIs HB20)
  refine hK.out _ _ ?_ (fun hHeld6 => ?_)
  · (first | exact ⟨HKb22.out.cell 0, HKr22.out.ld⟩)
  clear hHeld5 hK K
  try simp only [List.getElem_toArray, List.getElem_cons_zero, List.getElem_cons_succ, Act.put, List.setIfInBounds_toArray, List.set_cons_zero, List.set_cons_succ]
  refine wpAnyH_ready (rs := [18]) (by kernel_rfl) (by simp) ?_
  refine AllReadyH.cons (o := _) rfl (fun K hK => ?_) AllReadyH.nil
  go_simp
  (go_at_call 19; refine (RB.out _).mono ?_; rintro e w23 ⟨rfl, hb⟩; have HKb24 := Lib.hid (HKb22.out.step hb); have HKr24 := Lib.hid (HKr22.out.step hb); have HIp24 := Lib.hid (HIp22.out.up hb); have HIq24 := Lib.hid (HIq22.out.up hb); have HIs24 := Lib.hid (HIs22.out.up hb); have HB24 := Lib.hid (Below.step HB22.out hb); clear hb HKb22 HKr22 HIp22 HIq22 HIs22 HB22)
  refine hK.out _ _ ?_ (fun hHeld7 => ?_)
  · (first | exact ⟨HKb24.out.cell 0, HKr24.out.ld⟩)
  clear hHeld6 hK K
  try simp only [List.getElem_toArray, List.getElem_cons_zero, List.getElem_cons_succ, Act.put, List.setIfInBounds_toArray, List.set_cons_zero, List.set_cons_succ]
  refine wpAnyH_take (i := 19) (oi := _) (v := ?vr1n19_13) rfl (by kernel_rfl) (by kernel_rfl) (by kernel_rfl) (fun _ _ _ h => h) (Or.inl ⟨by kernel_rfl, ?hr1n19_13⟩) hHeld7 ?_
  case hr1n19_13 => (intro w hSw; (try dsimp only at hSw); go_simp; try (with_reducible rfl))
  try simp only [List.getElem_toArray, List.getElem_cons_zero, List.getElem_cons_succ, Act.put, List.setIfInBounds_toArray, List.set_cons_zero, List.set_cons_succ]
  refine wpAnyH_take (i := 20) (oi := _) (v := ?vr1n20_14) rfl (by kernel_rfl) (by kernel_rfl) (by kernel_rfl) (fun _ _ _ h => h) (Or.inl ⟨by kernel_rfl, ?hr1n20_14⟩) hHeld7 ?_
  case hr1n20_14 => (intro w hSw; (try dsimp only at hSw); go_simp; try (with_reducible rfl))
  try simp only [List.getElem_toArray, List.getElem_cons_zero, List.getElem_cons_succ, Act.put, List.setIfInBounds_toArray, List.set_cons_zero, List.set_cons_succ]
  refine wpAnyH_done (by kernel_rfl) ?_ _
  refine NoPanic.normal ?_
  have hc_b := HKb24.out.cell 0
  go_wp2_with fail
  refine (WI.out _).mono ?_
  rintro e w25 ⟨rfl, hb⟩
  (try clear hc_b)
  have HKb26 := Lib.hid (HKb24.out.step hb)
  have HKr26 := Lib.hid (HKr24.out.step hb)
  have HB26 := Lib.hid (Below.step HB24.out hb)
  clear hb HKb24 HKr24 HB24
  have hc_b := HKb26.out.cell 0
  go_wp2_with fail
  refine (WO.out _).mono ?_
  rintro e w27 ⟨rfl, hb⟩
  (try clear hc_b)
  have HKb28 := Lib.hid (HKb26.out.step hb)
  have HKr28 := Lib.hid (HKr26.out.step hb)
  have HB28 := Lib.hid (Below.step HB26.out hb)
  clear hb HKb26 HKr26 HB26
  have hc_b := HKb28.out.cell 0
  have hf_b := HKb28.out.free 0 (by simp)
  go_upto_region 8 with fail
  (try clear hc_b)
  have HKb := Lib.hid (HKb28.out.set 0 (.int .u64 (x : Int)))
  have HKr := Lib.hid (HKr28.out.set_other ⟨pb, 0, none⟩ (.int .u64 (x : Int)) hne_b_r.symm)
  have HB := Lib.hid (Below.setCell (p := ⟨pb, 0, none⟩) HB28.out hge_b (.int .u64 (x : Int)))
  clear hf_b HKb28 HKr28 HB28
  generalize World.setCell _ _ _ = w0 at HKb HKr HB ⊢
  go_cut [49] from 44 to 48 (fun c wx => c = .bool (decide (0 ≤ r ∧ r < 64)) ∧ wx = w0)
  case first =>
    by_cases h1 : 0 ≤ r ∧ r < 64
    · obtain ⟨h2, h3⟩ := h1
      go_wp2_with fail
      go_meet
      exact ⟨congrArg Value.bool (decide_eq_true (p := 0 ≤ r ∧ r < 64) ⟨h2, h3⟩).symm, rfl⟩
    · have hd := decide_eq_false (p := 0 ≤ r ∧ r < 64) h1
      have h2 : r < 0 ∨ (0 ≤ r ∧ 64 ≤ r) := by omega
      clear h1
      rcases h2 with h2 | ⟨h2, h3⟩
      · have HD := Lib.hid hd
        clear hd
        go_wp2_with fail
        go_meet
        exact ⟨congrArg Value.bool HD.out.symm, rfl⟩
      · have HD := Lib.hid hd
        clear hd
        go_wp2_with fail
        go_meet
        exact ⟨congrArg Value.bool ((decide_eq_false (p := r < 64) (by omega)).trans HD.out.symm), rfl⟩
  case rest =>
    obtain ⟨rfl, rfl⟩ := hcut
    go_upto_if 49 with fail
    go_cut [6] from 49 to 51 (fun v wx => v = .bool false ∧ Blk wx pb 25 #[.int .u64 (x : Int)] ∧ Blk wx pr 30 (rwC m) ∧ Below w.heap.size w wx)
    case first =>
      by_cases h1 : 0 ≤ r ∧ r < 64
      · obtain ⟨j, rfl⟩ : ∃ j : Nat, r = (j : Int) := ⟨r.toNat, by omega⟩
        have hj : j < 64 := by omega
        have hj1 : (j : Int) < 64 := by omega
        have hj0 : (0 : Int) ≤ (j : Int) := by omega
        have hc := HKr.out.cell j
        rw [rwC_get _ j hj] at hc
        have hf := HKr.out.free j (by rw [rwC_size]; exact hj)
        have hk := HKr.out.set j (.bool true)
        rw [S1.out j rfl hj] at hk
        have HX1 := Lib.hid hk
        have HX2 := Lib.hid (HKb.out.set_other ⟨pr, j, none⟩ (.bool true) hne_b_r)
        have HX3 := Lib.hid (Below.setCell (p := ⟨pr, j, none⟩) HB.out hge_r (.bool true))
        clear hk h1
        go_wp2_with fail
        go_meet
        exact ⟨rfl, HX2.out, HX1.out, HX3.out⟩
      · have hm := S1n.out h1
        have h2 : r < 0 ∨ (0 ≤ r ∧ 64 ≤ r) := by omega
        clear h1
        rcases h2 with h2 | ⟨h2, h3⟩
        · go_wp2_with fail
          go_meet
          exact ⟨rfl, HKb.out, by rw [hm]; exact HKr.out, HB.out⟩
        · go_wp2_with fail
          go_meet
          exact ⟨rfl, HKb.out, by rw [hm]; exact HKr.out, HB.out⟩
    case rest =>
      obtain ⟨rfl, hkb, hkr, hbel⟩ := hcut
      have HKb1 := Lib.hid hkb
      have HKr1 := Lib.hid hkr
      have HB1 := Lib.hid hbel
      clear hkb hkr hbel HKb HKr HB
      go_upto_region 10 with fail
      go_cut [57] from 52 to 56 (fun c wx => c = .bool (decide (0 ≤ q ∧ q < 64)) ∧ wx = wc)
      case first =>
        by_cases h1 : 0 ≤ q ∧ q < 64
        · obtain ⟨h2, h3⟩ := h1
          go_wp2_with fail
          go_meet
          exact ⟨congrArg Value.bool (decide_eq_true (p := 0 ≤ q ∧ q < 64) ⟨h2, h3⟩).symm, rfl⟩
        · have hd := decide_eq_false (p := 0 ≤ q ∧ q < 64) h1
          have h2 : q < 0 ∨ (0 ≤ q ∧ 64 ≤ q) := by omega
          clear h1
          rcases h2 with h2 | ⟨h2, h3⟩
          · have HD := Lib.hid hd
            clear hd
            go_wp2_with fail
            go_meet
            exact ⟨congrArg Value.bool HD.out.symm, rfl⟩
          · have HD := Lib.hid hd
            clear hd
            go_wp2_with fail
            go_meet
            exact ⟨congrArg Value.bool ((decide_eq_false (p := q < 64) (by omega)).trans HD.out.symm), rfl⟩
      case rest =>
        obtain ⟨rfl, rfl⟩ := hcut
        go_upto_if 57 with fail
        go_cut [6] from 57 to 59 (fun v wx => v = .bool false ∧ Blk wx pb 25 #[.int .u64 (x : Int)] ∧ Blk wx pr 30 (rwC x) ∧ Below w.heap.size w wx)
        case first =>
          by_cases h1 : 0 ≤ q ∧ q < 64
          · obtain ⟨j, rfl⟩ : ∃ j : Nat, q = (j : Int) := ⟨q.toNat, by omega⟩
            have hj : j < 64 := by omega
            have hj1 : (j : Int) < 64 := by omega
            have hj0 : (0 : Int) ≤ (j : Int) := by omega
            have hc := HKr1.out.cell j
            rw [rwC_get _ j hj] at hc
            have hf := HKr1.out.free j (by rw [rwC_size]; exact hj)
            have hk := HKr1.out.set j (.bool false)
            rw [S2.out j rfl hj] at hk
            have HX1 := Lib.hid hk
            have HX2 := Lib.hid (HKb1.out.set_other ⟨pr, j, none⟩ (.bool false) hne_b_r)
            have HX3 := Lib.hid (Below.setCell (p := ⟨pr, j, none⟩) HB1.out hge_r (.bool false))
            clear hk h1
            go_wp2_with fail
            go_meet
            exact ⟨rfl, HX2.out, HX1.out, HX3.out⟩
          · have hm := S2n.out h1
            have h2 : q < 0 ∨ (0 ≤ q ∧ 64 ≤ q) := by omega
            clear h1
            rcases h2 with h2 | ⟨h2, h3⟩
            · go_wp2_with fail
              go_meet
              exact ⟨rfl, HKb1.out, by rw [hm]; exact HKr1.out, HB1.out⟩
            · go_wp2_with fail
              go_meet
              exact ⟨rfl, HKb1.out, by rw [hm]; exact HKr1.out, HB1.out⟩
        case rest =>
          obtain ⟨rfl, hkb, hkr, hbel⟩ := hcut
          have HKb2 := Lib.hid hkb
          have HKr2 := Lib.hid hkr
          have HB2 := Lib.hid hbel
          clear hkb hkr hbel HKb1 HKr1 HB1
          go_wp2
          go_loopw [9] (fun i wr => ∃ k : Nat, k ≤ 64 ∧ i = .int .i64 k ∧ Blk wr pb 25 #[.int .u64 (x : Int)] ∧ Blk wr pr 30 (rwC x) ∧ Below w.heap.size w wr) (fun i _ => 64 - (intOf i).toNat)
          case atStart => exact ⟨0, by omega, rfl, HKb2.out, HKr2.out, HB2.out⟩
          case round =>
            obtain ⟨k, hk, rfl, hkb, hkr, hbel⟩ := hrel
            have HKb3 := Lib.hid hkb
            have HKr3 := Lib.hid hkr
            have HB3 := Lib.hid hbel
            clear HKb2 HKr2 HB2 hbel
            by_cases hlt : k < 64
            · have hlt' : (k : Int) < 64 := by omega
              have HH := Lib.hid (HI.out k hlt)
              clear hkb hkr
              have hk1 := HKb3.out.cell 0
              generalize hbt : x.testBit k = bt at HH
              have HBT := Lib.hid (fun _ : Unit => hbt)
              clear hbt hk1
              go_upto_region 15 with fail
              go_region_held3 (fun w' => w'.cell? ⟨pb, 0, none⟩ = some (.int .u64 (x : Int)) ∧ w'.cell? ⟨pr, k, none⟩ = some (.bool bt))
                (first | exact ⟨(Blk.drew HKb3.out).cell 0, rw_cell (Blk.drew HKr3.out) hlt (HBT.out ())⟩ | exact ⟨HKb4.out.cell 0, rw_cell HKr4.out hlt (HBT.out ())⟩)
                ((go_at_call 22; refine (HH.out _).mono ?_; rintro e w5 ⟨rfl, hb0⟩; have hb := (Below.drewN (Below.refl _ wr) 1).trans hb0; have HKb4 := Lib.hid (HKb3.out.step hb); have HKr4 := Lib.hid (HKr3.out.step hb); have HB4 := Lib.hid (Below.step HB3.out hb); clear hb hb0))
              go_wp2
              go_roundw
              case rel => exact ⟨k + 1, by omega, by go_num, HKb4.out, HKr4.out, HB4.out⟩
              case measure => simp [intOf] <;> omega
            · have h64 : k = 64 := by omega
              subst h64
              clear hkb hkr
              go_upto_region 17 with fail
              (try clear hc_b)
              refine wp_region_noPanic ?_
              refine wp_region_held_drew (S := (fun w' => w'.cell? ⟨pb, 0, none⟩ = some (.int .u64 (x : Int)) ∧ (Ld 30 (.pointer (some ⟨pr, 0, none⟩))).run Try.prog w' = .ok (.agg (rwC x)) w')) (by kernel_rfl) (by first | exact ⟨(Blk.drew HKb3.out).cell 0, (Blk.drew HKr3.out).ld⟩) (fun hHeld => ?_)
              refine wpAnyH_take (i := 0) (oi := _) (v := ?vr2n0_15) rfl (by kernel_rfl) (by kernel_rfl) (by kernel_rfl) (fun _ _ _ h => h) (Or.inl ⟨by kernel_rfl, ?hr2n0_15⟩) hHeld ?_
              case hr2n0_15 => (intro w hSw; (try dsimp only at hSw); go_simp; try (with_reducible rfl))
              try simp only [List.getElem_toArray, List.getElem_cons_zero, List.getElem_cons_succ, Act.put, List.setIfInBounds_toArray, List.set_cons_zero, List.set_cons_succ]
              refine wpAnyH_ready (rs := [1]) (by kernel_rfl) (by simp) ?_
              refine AllReadyH.cons (o := _) rfl (fun K hK => ?_) AllReadyH.nil
              go_simp
              (go_at_call 22; refine (HM.out _).mono ?_; rintro e w29 ⟨rfl, hb⟩; have hb := (Below.drewN (Below.refl _ wr) 1).trans hb; have HKb30 := Lib.hid (HKb3.out.step hb); have HKr30 := Lib.hid (HKr3.out.step hb); have HB30 := Lib.hid (Below.step HB3.out hb); clear hb HKb3 HKr3 HB3)
              refine hK.out _ _ ?_ (fun hHeld1 => ?_)
              · (first | exact ⟨HKb30.out.cell 0, HKr30.out.ld⟩)
              clear hHeld hK K
              try simp only [List.getElem_toArray, List.getElem_cons_zero, List.getElem_cons_succ, Act.put, List.setIfInBounds_toArray, List.set_cons_zero, List.set_cons_succ]
              refine wpAnyH_take (i := 2) (oi := _) (v := ?vr2n2_16) rfl (by kernel_rfl) (by kernel_rfl) (by kernel_rfl) (fun _ _ _ h => h) (Or.inl ⟨by kernel_rfl, ?hr2n2_16⟩) hHeld1 ?_
              case hr2n2_16 => (intro w hSw; (try dsimp only at hSw); go_simp; try (with_reducible rfl))
              try simp only [List.getElem_toArray, List.getElem_cons_zero, List.getElem_cons_succ, Act.put, List.setIfInBounds_toArray, List.set_cons_zero, List.set_cons_succ]
              refine wpAnyH_take (i := 3) (oi := _) (v := ?vr2n3_17) rfl (by kernel_rfl) (by kernel_rfl) (by kernel_rfl) (fun _ _ _ h => h) (Or.inl ⟨by kernel_rfl, ?hr2n3_17⟩) hHeld1 ?_
              case hr2n3_17 => (intro w hSw; (try dsimp only at hSw); go_simp; try (with_reducible rfl))
              try simp only [List.getElem_toArray, List.getElem_cons_zero, List.getElem_cons_succ, Act.put, List.setIfInBounds_toArray, List.set_cons_zero, List.set_cons_succ]
              refine wpAnyH_take (i := 4) (oi := _) (v := ?vr2n4_18) rfl (by kernel_rfl) (by kernel_rfl) (by kernel_rfl) (fun _ _ _ h => h) (Or.inl ⟨by kernel_rfl, ?hr2n4_18⟩) hHeld1 ?_
              case hr2n4_18 => (intro w hSw; (try dsimp only at hSw); go_simp; try (with_reducible rfl))
              try simp only [List.getElem_toArray, List.getElem_cons_zero, List.getElem_cons_succ, Act.put, List.setIfInBounds_toArray, List.set_cons_zero, List.set_cons_succ]
              refine wpAnyH_ready (rs := [5]) (by kernel_rfl) (by simp) ?_
              refine AllReadyH.cons (o := _) rfl (fun K hK => ?_) AllReadyH.nil
              go_simp
              (go_at_call 22; refine (H64.out _).mono ?_; rintro e w31 ⟨rfl, hb⟩; have HKb32 := Lib.hid (HKb30.out.step hb); have HKr32 := Lib.hid (HKr30.out.step hb); have HB32 := Lib.hid (Below.step HB30.out hb); clear hb HKb30 HKr30 HB30)
              refine hK.out _ _ ?_ (fun hHeld2 => ?_)
              · (first | exact ⟨HKb32.out.cell 0, HKr32.out.ld⟩)
              clear hHeld1 hK K
              try simp only [List.getElem_toArray, List.getElem_cons_zero, List.getElem_cons_succ, Act.put, List.setIfInBounds_toArray, List.set_cons_zero, List.set_cons_succ]
              refine wpAnyH_take (i := 6) (oi := _) (v := ?vr2n6_19) rfl (by kernel_rfl) (by kernel_rfl) (by kernel_rfl) (fun _ _ _ h => h) (Or.inl ⟨by kernel_rfl, ?hr2n6_19⟩) hHeld2 ?_
              case hr2n6_19 => (intro w hSw; (try dsimp only at hSw); go_simp; try (with_reducible rfl))
              try simp only [List.getElem_toArray, List.getElem_cons_zero, List.getElem_cons_succ, Act.put, List.setIfInBounds_toArray, List.set_cons_zero, List.set_cons_succ]
              refine wpAnyH_take (i := 7) (oi := _) (v := ?vr2n7_20) rfl (by kernel_rfl) (by kernel_rfl) (by kernel_rfl) (fun _ _ _ h => h) (Or.inl ⟨by kernel_rfl, ?hr2n7_20⟩) hHeld2 ?_
              case hr2n7_20 => (intro w hSw; (try dsimp only at hSw); go_simp; try (with_reducible rfl))
              try simp only [List.getElem_toArray, List.getElem_cons_zero, List.getElem_cons_succ, Act.put, List.setIfInBounds_toArray, List.set_cons_zero, List.set_cons_succ]
              refine wpAnyH_take (i := 8) (oi := _) (v := ?vr2n8_21) rfl (by kernel_rfl) (by kernel_rfl) (by kernel_rfl) (fun _ _ _ h => h) (Or.inl ⟨by kernel_rfl, ?hr2n8_21⟩) hHeld2 ?_
              case hr2n8_21 => (intro w hSw; (try dsimp only at hSw); go_simp; try (with_reducible rfl))
              try simp only [List.getElem_toArray, List.getElem_cons_zero, List.getElem_cons_succ, Act.put, List.setIfInBounds_toArray, List.set_cons_zero, List.set_cons_succ]
              refine wpAnyH_take (i := 9) (oi := _) (v := ?vr2n9_22) rfl (by kernel_rfl) (by kernel_rfl) (by kernel_rfl) (fun _ _ _ h => h) (Or.inl ⟨by kernel_rfl, ?hr2n9_22⟩) hHeld2 ?_
              case hr2n9_22 => (intro w hSw; (try dsimp only at hSw); go_simp; try (with_reducible rfl))
              try simp only [List.getElem_toArray, List.getElem_cons_zero, List.getElem_cons_succ, Act.put, List.setIfInBounds_toArray, List.set_cons_zero, List.set_cons_succ]
              refine wpAnyH_take (i := 11) (oi := _) (v := ?vr2n11_23) rfl (by kernel_rfl) (by kernel_rfl) (by kernel_rfl) (fun _ _ _ h => h) (Or.inl ⟨by kernel_rfl, ?hr2n11_23⟩) hHeld2 ?_
              case hr2n11_23 => (intro w hSw; (try dsimp only at hSw); go_simp; try (with_reducible rfl))
              try simp only [List.getElem_toArray, List.getElem_cons_zero, List.getElem_cons_succ, Act.put, List.setIfInBounds_toArray, List.set_cons_zero, List.set_cons_succ]
              refine wpAnyH_ready (rs := [10]) (by kernel_rfl) (by simp) ?_
              refine AllReadyH.cons (o := _) rfl (fun K hK => ?_) AllReadyH.nil
              go_simp
              (go_at_call 13; refine (RX.out _).mono ?_; rintro e w33 ⟨v, rfl, hown, hb⟩; have HKb34 := Lib.hid (HKb32.out.step hb); have HKr34 := Lib.hid (HKr32.out.step hb); have HB34 := Lib.hid (Below.step HB32.out hb); obtain ⟨Ap, cp, rfl, _, hst, _, _, _⟩ := own_ints hown; have HIp := Lib.hid hst; clear hst hown; clear hb HKb32 HKr32 HB32)
              refine hK.out _ _ ?_ (fun hHeld3 => ?_)
              · (first | exact ⟨HKb34.out.cell 0, HKr34.out.ld⟩)
              clear hHeld2 hK K
              try simp only [List.getElem_toArray, List.getElem_cons_zero, List.getElem_cons_succ, Act.put, List.setIfInBounds_toArray, List.set_cons_zero, List.set_cons_succ]
              refine wpAnyH_ready (rs := [12]) (by kernel_rfl) (by simp) ?_
              refine AllReadyH.cons (o := _) rfl (fun K hK => ?_) AllReadyH.nil
              go_simp
              (go_at_call 14; refine (LX.out _).mono ?_; rintro e w35 ⟨v, rfl, hown, hb⟩; have HKb36 := Lib.hid (HKb34.out.step hb); have HKr36 := Lib.hid (HKr34.out.step hb); have HIp36 := Lib.hid (HIp.out.up hb); have HB36 := Lib.hid (Below.step HB34.out hb); obtain ⟨Aq, cq, rfl, _, hst, _, _, _⟩ := own_ints hown; have HIq := Lib.hid hst; clear hst hown; clear hb HKb34 HKr34 HIp HB34)
              refine hK.out _ _ ?_ (fun hHeld4 => ?_)
              · (first | exact ⟨HKb36.out.cell 0, HKr36.out.ld⟩)
              clear hHeld3 hK K
              try simp only [List.getElem_toArray, List.getElem_cons_zero, List.getElem_cons_succ, Act.put, List.setIfInBounds_toArray, List.set_cons_zero, List.set_cons_succ]
              refine wpAnyH_ready (rs := [13]) (by kernel_rfl) (by simp) ?_
              refine AllReadyH.cons (o := _) rfl (fun K hK => ?_) AllReadyH.nil
              go_simp
              (go_at_call 12; refine (SX.out _ _ _ _ _ HIp36.out HIq.out).mono ?_; rintro e w37 ⟨rfl, hb⟩; have HKb38 := Lib.hid (HKb36.out.step hb); have HKr38 := Lib.hid (HKr36.out.step hb); have HIp38 := Lib.hid (HIp36.out.up hb); have HIq38 := Lib.hid (HIq.out.up hb); have HB38 := Lib.hid (Below.step HB36.out hb); clear hb HKb36 HKr36 HIp36 HIq HB36)
              refine hK.out _ _ ?_ (fun hHeld5 => ?_)
              · (first | exact ⟨HKb38.out.cell 0, HKr38.out.ld⟩)
              clear hHeld4 hK K
              try simp only [List.getElem_toArray, List.getElem_cons_zero, List.getElem_cons_succ, Act.put, List.setIfInBounds_toArray, List.set_cons_zero, List.set_cons_succ]
              refine wpAnyH_take (i := 14) (oi := _) (v := ?vr2n14_24) rfl (by kernel_rfl) (by kernel_rfl) (by kernel_rfl) (fun _ _ _ h => h) (Or.inl ⟨by kernel_rfl, ?hr2n14_24⟩) hHeld5 ?_
              case hr2n14_24 => (intro w hSw; (try dsimp only at hSw); go_simp; try (with_reducible rfl))
              try simp only [List.getElem_toArray, List.getElem_cons_zero, List.getElem_cons_succ, Act.put, List.setIfInBounds_toArray, List.set_cons_zero, List.set_cons_succ]
              refine wpAnyH_take (i := 15) (oi := _) (v := ?vr2n15_25) rfl (by kernel_rfl) (by kernel_rfl) (by kernel_rfl) (fun _ _ _ h => h) (Or.inl ⟨by kernel_rfl, ?hr2n15_25⟩) hHeld5 ?_
              case hr2n15_25 => (intro w hSw; (try dsimp only at hSw); go_simp; try (with_reducible rfl))
              try simp only [List.getElem_toArray, List.getElem_cons_zero, List.getElem_cons_succ, Act.put, List.setIfInBounds_toArray, List.set_cons_zero, List.set_cons_succ]
              refine wpAnyH_ready (rs := [16]) (by kernel_rfl) (by simp) ?_
              refine AllReadyH.cons (o := _) rfl (fun K hK => ?_) AllReadyH.nil
              go_simp
              (go_at_call 9; refine (WK.out _).mono ?_; rintro e w39 ⟨rfl, hb⟩; have HKb40 := Lib.hid (HKb38.out.step hb); have HKr40 := Lib.hid (HKr38.out.step hb); have HIp40 := Lib.hid (HIp38.out.up hb); have HIq40 := Lib.hid (HIq38.out.up hb); have HB40 := Lib.hid (Below.step HB38.out hb); clear hb HKb38 HKr38 HIp38 HIq38 HB38)
              refine hK.out _ _ ?_ (fun hHeld6 => ?_)
              · (first | exact ⟨HKb40.out.cell 0, HKr40.out.ld⟩)
              clear hHeld5 hK K
              try simp only [List.getElem_toArray, List.getElem_cons_zero, List.getElem_cons_succ, Act.put, List.setIfInBounds_toArray, List.set_cons_zero, List.set_cons_succ]
              refine wpAnyH_take (i := 17) (oi := _) (v := ?vr2n17_26) rfl (by kernel_rfl) (by kernel_rfl) (by kernel_rfl) (fun _ _ _ h => h) (Or.inl ⟨by kernel_rfl, ?hr2n17_26⟩) hHeld6 ?_
              case hr2n17_26 => (intro w hSw; (try dsimp only at hSw); go_simp; try (with_reducible rfl))
              try simp only [List.getElem_toArray, List.getElem_cons_zero, List.getElem_cons_succ, Act.put, List.setIfInBounds_toArray, List.set_cons_zero, List.set_cons_succ]
              refine wpAnyH_take (i := 18) (oi := _) (v := ?vr2n18_27) rfl (by kernel_rfl) (by kernel_rfl) (by kernel_rfl) (fun _ _ _ h => h) (Or.inl ⟨by kernel_rfl, ?hr2n18_27⟩) hHeld6 ?_
              case hr2n18_27 => (intro w hSw; (try dsimp only at hSw); go_simp; try (with_reducible rfl))
              try simp only [List.getElem_toArray, List.getElem_cons_zero, List.getElem_cons_succ, Act.put, List.setIfInBounds_toArray, List.set_cons_zero, List.set_cons_succ]
              refine wpAnyH_done (by kernel_rfl) ?_ _
              refine NoPanic.normal ?_
              go_wp2
              go_ret
              exact ⟨rfl, HB40.out⟩

theorem bitsSet_walk (A : Option Addr) (c : Nat) (L : List Int) (r q : Int) (hL : L.length ≤ maxLen) (w : World) (hA : IntsAt w w.heap.size A L) : Calls Try.prog 5 #[.slice A L.length c, .int .i64 r, .int .i64 q] w fun e w' => e = .returned (.bool true) ∧ Below w.heap.size w w' := by
  by_cases hl : L.length ≤ 200
  · have bn := of_b L
    have bm : B64 (ofN L ||| rowN r) := or_b bn (rowN_b r)
    have bx : B64 (anN (ofN L ||| rowN r) (rowN q)) := an_b _ bm
    have hbq : ∀ l : List Int, (l == l) = true := fun l => beq_iff_eq.2 rfl
    refine bitsSet_main A c L (rowsN (ofN L)) (rowsN (anN (ofN L ||| rowN r) (rowN q))) (bytesV (ofN L)) (ofN L) (ofN L ||| rowN r) (anN (ofN L ||| rowN r) (rowN q)) r q hl w hA
      (Lib.hid (fun w h => of_any A c L hL w h)) (Lib.hid (fun w h => refOf_any A c L hL w h)) (Lib.hid (fun w => rows_any _ bn w)) (Lib.hid (fun w => list_any _ w))
      (Lib.hid (fun A c B d w h1 h2 => by have h := same_any A c _ B d _ (rowsN_max _) (rowsN_max _) w h1 h2; rw [hbq] at h; exact h))
      (Lib.hid (fun w => len_any _ bn w)) (Lib.hid (fun w => bytes_any _ bn w)) (Lib.hid (fun w => refBytes_any _ w)) (Lib.hid (fun w => with_any _ bn r w)) (Lib.hid (fun w => without_any _ bm q w))
      (Lib.hid (fun w => rows_any _ bx w)) (Lib.hid (fun w => list_any _ w))
      (Lib.hid (fun A c B d w h1 h2 => by have h := same_any A c _ B d _ (rowsN_max _) (rowsN_max _) w h1 h2; rw [hbq] at h; exact h))
      (Lib.hid (fun w => by have h := has_any _ bx (-1) w; rw [has_none _ _ (by omega)] at h; exact h)) (Lib.hid (fun w => by have h := has_any _ bx 64 w; rw [has_none _ _ (by omega)] at h; exact h))
      (Lib.hid (fun i hi w => by have h := has_any _ bx (i : Int) w; rw [has_row _ i hi] at h; exact h))
      (Lib.hid (fun j hj h64 => by rw [rwC_yes _ j h64, hj])) (Lib.hid (fun h => by rw [row_out r h, Nat.or_zero]))
      (Lib.hid (fun j hj h64 => by rw [rwC_no _ j h64, hj])) (Lib.hid (fun h => by rw [row_out q h, an_zero _ bm]))
  · exact bitsSet_long A c L r q hL (by omega) w
end Go.Proofs.Ytpineeaghmfggaa
