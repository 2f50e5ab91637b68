/- The walk through the law JournalSectors: it answers true. Condition: texts that a memory can hold. -/
import Derived.Test.YtccbohjcbhibkaaJnT
import Derived.Test.YtccbohjcbhibkaaJnW
namespace Go.Proofs.Ytccbohjcbhibkaa
set_option linter.unusedVariables false
set_option linter.unusedSimpArgs false
set_option maxRecDepth 100000
open Go.RowKit
attribute [local go_sem ↓] Go.wp_at_zero Go.wp_at_succ
attribute [local go_sem ↓] ix_dat ld_rec

theorem rs_one (w : World) (r : Rc) : RsAt (w.alloc (.cells (rcC r) 29)) (w.alloc (.cells (rcC r) 29)).heap.size (some ⟨w.heap.size, 0, none⟩) [r] := by
  refine Or.inr ⟨w.heap.size, 0, rfl, by simp, fun j hj i v hv => ?_⟩
  obtain rfl : j = 0 := by simp at hj; omega
  rw [(Blk.new w 29 (rcC r) 0 0 (Or.inl (Nat.le_refl _))).cell]
  have e : (0 + 0 * 7 + i) = i := by omega
  rw [e]
  simpa using hv
theorem may_ok (M : List UInt8) (arr : Int) (r : Rc) (h1 : ¬ arr < 1) (h2 : ¬ 255 < arr) (hr : rightB r = true) : mayV M arr r = (secV M arr r, 0) := may_yes M arr r (by omega) (by omega) hr

set_option maxHeartbeats 4000000 in
theorem journalSectors_walk (arr : Int) (r : Rc) (hs : Data r) (w : World) : Calls Try.prog 4 #[.int .i64 arr, .agg (rcC r)] w fun e w' => e = .returned (.bool true) ∧ Below w.heap.size w w' := by
  have WK := Lib.hid wakes_any
  have GR := Lib.hid (fun A c w (h : RsAt w w.heap.size A [r]) => great_any A c [r] (by simp [maxLen]) (fun x hx => by rw [List.mem_singleton.1 hx]; exact hs) w h)
  have HD := Lib.hid (fun w => head_any arr r hs w)
  have CM := Lib.hid (fun w => commit_any arr r hs w)
  have RT := Lib.hid (fun w => right_any r hs w)
  have GV := Lib.hid (fun w => given_any r w)
  have RR := Lib.hid (fun w => refRight_any r hs w)
  have SH : Hid (∀ w, Calls Try.prog 19 #[.string ⟨#[72, 68]⟩, .int .i64 arr, .agg (rcC r)] w fun e w' => e = .returned (sv (secV mgH arr r)) ∧ Below w.heap.size w w') := Lib.hid (fun w => refSec_any 72 68 arr r hs w)
  have SC : Hid (∀ w, Calls Try.prog 19 #[.string ⟨#[67, 77]⟩, .int .i64 arr, .agg (rcC r)] w fun e w' => e = .returned (sv (secV mgC arr r)) ∧ Below w.heap.size w w') := Lib.hid (fun w => refSec_any 67 77 arr r hs w)
  have HHO := Lib.hid (fun h => may_out mgH arr r h)
  have HCO := Lib.hid (fun h => may_out mgC arr r h)
  have HHN := Lib.hid (fun h => may_no mgH arr r h)
  have HCN := Lib.hid (fun h => may_no mgC arr r h)
  have HHY := Lib.hid (fun h1 h2 h => may_ok mgH arr r h1 h2 h)
  have HCY := Lib.hid (fun h1 h2 h => may_ok mgC arr r h1 h2 h)
  generalize secV mgH arr r = VH at SH HHY
  generalize secV mgC arr r = VC at SC HCY
  generalize mayV mgH arr r = mh at HD HHO HHN HHY
  generalize mayV mgC arr r = mc at CM HCO HCN HCY
  generalize rightB r = b at RT RR HHN HCN HHY HCY
  generalize greatB [r] = gb at GR
  have HK0 := Lib.hid (Blk.new w 29 (rcC r) 0 0 (Or.inl (Nat.le_refl _)))
  have HB0 := Lib.hid ((Below.refl _ w).alloc (Nat.le_refl _) (.cells (rcC r) 29))
  clear hs
  go_enter Try.func4, Try.ntmps4
  go_upto_region 1 with fail
  generalize World.alloc _ _ = w1 at HK0 HB0 ⊢
  have hge_r : w.heap.size ≤ w.heap.size := Nat.le_refl _
  generalize hq : w.heap.size = pr at HK0 hge_r ⊢
  rw [← hq] at hge_r
  clear hq
  have hld_r := HK0.out.ldR
  have HRS := Lib.hid (rs_one w1 r)
  have HK1 := Lib.hid (HK0.out.alloc (.cells (rcC r) 29))
  have HB1 := Lib.hid (HB0.out.alloc HB0.out.size (.cells (rcC r) 29))
  have tokA : True := trivial
  go_wp2_with (have _t := tokA; refine wpList_bsR rfl (.tmp 9) rfl r rfl ?_; clear tokA)
  refine (GR.out _ _ _ HRS.out).mono ?_
  rintro e w2 ⟨rfl, hw2⟩
  rw [hw2]
  clear hw2 HRS hld_r GR HK0 HB0
  generalize World.alloc _ _ = w3 at HK1 HB1 ⊢
  cases gb
  rotate_left
  · go_wp2_with fail
    refine (WK.out _).mono ?_
    rintro e w4 ⟨rfl, hb⟩
    go_wp2
    go_ret
    exact ⟨rfl, Below.step HB1.out hb⟩
  have hld_r := HK1.out.ldR
  go_wp2_with fail
  refine (HD.out _).mono ?_
  rintro e w1 ⟨rfl, hb⟩
  have HKr2 := Lib.hid (HK1.out.step hb)
  have HB2 := Lib.hid (Below.step HB1.out hb)
  clear hb HK1 HB1
  (try clear hld_r)
  have hld_r := HKr2.out.ldR
  go_wp2_with fail
  refine (CM.out _).mono ?_
  rintro e w3 ⟨rfl, hb⟩
  have HKr4 := Lib.hid (HKr2.out.step hb)
  have HB4 := Lib.hid (Below.step HB2.out hb)
  clear hb HKr2 HB2
  (try clear hld_r)
  have hld_r := HKr4.out.ldR
  go_upto_region 5 with fail
  (try clear hld_r)
  refine wp_region_noPanic ?_
  refine wp_region_held_drew (S := (fun w' => (Ld 29 (.pointer (some ⟨pr, 0, none⟩))).run Try.prog w' = .ok (.agg (rcC r)) w')) (by kernel_rfl) (by first | exact (Blk.drew HKr4.out).ldR) (fun hHeld => ?_)
  refine wpAnyH_take (i := 0) (oi := _) (v := ?vr1n0_1) rfl (by kernel_rfl) (by kernel_rfl) (by kernel_rfl) (fun _ _ _ h => h) (Or.inl ⟨by kernel_rfl, ?hr1n0_1⟩) hHeld ?_
  case hr1n0_1 => (intro w hSw; (try dsimp only at hSw); go_simp; try (with_reducible rfl))
  try simp only [List.getElem_toArray, List.getElem_cons_zero, List.getElem_cons_succ, Act.put, List.setIfInBounds_toArray, List.set_cons_zero, List.set_cons_succ]
  refine wpAnyH_take (i := 2) (oi := _) (v := ?vr1n2_2) rfl (by kernel_rfl) (by kernel_rfl) (by kernel_rfl) (fun _ _ _ h => h) (Or.inl ⟨by kernel_rfl, ?hr1n2_2⟩) hHeld ?_
  case hr1n2_2 => (intro w hSw; (try dsimp only at hSw); go_simp; try (with_reducible rfl))
  try simp only [List.getElem_toArray, List.getElem_cons_zero, List.getElem_cons_succ, Act.put, List.setIfInBounds_toArray, List.set_cons_zero, List.set_cons_succ]
  refine wpAnyH_ready (rs := [1]) (by kernel_rfl) (by simp) ?_
  refine AllReadyH.cons (o := _) rfl (fun K hK => ?_) AllReadyH.nil
  go_simp
  (go_at_call 16; refine (RT.out _).mono ?_; rintro e y1 ⟨rfl, hb⟩; have hb := (Below.drewN (Below.refl _ w3) 1).trans hb; have HK51 := Lib.hid (HKr4.out.step hb); have HB51 := Lib.hid (Below.step HB4.out hb); clear hb)
  refine hK.out _ _ ?_ (fun hHeld1 => ?_)
  · (first | exact HK51.out.ldR)
  clear hHeld hK K
  try simp only [List.getElem_toArray, List.getElem_cons_zero, List.getElem_cons_succ, Act.put, List.setIfInBounds_toArray, List.set_cons_zero, List.set_cons_succ]
  refine wpAnyH_ready (rs := [3]) (by kernel_rfl) (by simp) ?_
  refine AllReadyH.cons (o := _) rfl (fun K hK => ?_) AllReadyH.nil
  go_simp
  (go_at_call 18; refine (GV.out _).mono ?_; rintro e y2 ⟨rfl, hb⟩; have HK52 := Lib.hid (HK51.out.step hb); have HB52 := Lib.hid (Below.step HB51.out hb); clear hb)
  refine hK.out _ _ ?_ (fun hHeld2 => ?_)
  · (first | exact HK52.out.ldR)
  clear hHeld1 hK K
  try simp only [List.getElem_toArray, List.getElem_cons_zero, List.getElem_cons_succ, Act.put, List.setIfInBounds_toArray, List.set_cons_zero, List.set_cons_succ]
  refine wpAnyH_ready (rs := [4]) (by kernel_rfl) (by simp) ?_
  refine AllReadyH.cons (o := _) rfl (fun K hK => ?_) AllReadyH.nil
  go_simp
  (go_at_call 17; refine (RR.out _).mono ?_; rintro e y3 ⟨rfl, hb⟩; have HK53 := Lib.hid (HK52.out.step hb); have HB53 := Lib.hid (Below.step HB52.out hb); clear hb)
  refine hK.out _ _ ?_ (fun hHeld3 => ?_)
  · (first | exact HK53.out.ldR)
  clear hHeld2 hK K
  try simp only [List.getElem_toArray, List.getElem_cons_zero, List.getElem_cons_succ, Act.put, List.setIfInBounds_toArray, List.set_cons_zero, List.set_cons_succ]
  refine wpAnyH_take (i := 5) (oi := _) (v := ?vr1n5_3) rfl (by kernel_rfl) (by kernel_rfl) (by kernel_rfl) (fun _ _ _ h => h) (Or.inl ⟨by kernel_rfl, ?hr1n5_3⟩) hHeld3 ?_
  case hr1n5_3 => (intro w hSw; (try dsimp only at hSw); go_simp; try (with_reducible rfl))
  try simp only [List.getElem_toArray, List.getElem_cons_zero, List.getElem_cons_succ, Act.put, List.setIfInBounds_toArray, List.set_cons_zero, List.set_cons_succ]
  refine wpAnyH_done (by kernel_rfl) ?_ _
  refine NoPanic.normal ?_
  have hbn : (b != b) = false := by cases b <;> rfl
  have hld_r := HK53.out.ldR
  by_cases h1 : arr < 1
  · have e1 := HHO.out (Or.inl h1)
    have e2 := HCO.out (Or.inl h1)
    subst e1
    subst e2
    go_wp2_with fail
    refine (WK.out _).mono ?_
    rintro e w4 ⟨rfl, hb⟩
    go_wp2
    go_ret
    exact ⟨rfl, Below.step HB53.out hb⟩
  by_cases h2 : 255 < arr
  · have e1 := HHO.out (Or.inr h2)
    have e2 := HCO.out (Or.inr h2)
    subst e1
    subst e2
    go_wp2_with fail
    refine (WK.out _).mono ?_
    rintro e w4 ⟨rfl, hb⟩
    go_wp2
    go_ret
    exact ⟨rfl, Below.step HB53.out hb⟩
  go_wp2_with fail
  refine (RT.out _).mono ?_
  rintro e w5 ⟨rfl, hb⟩
  have HKr6 := Lib.hid (HK53.out.step hb)
  have HB6 := Lib.hid (Below.step HB53.out hb)
  clear hb HK53 HB53
  (try clear hld_r)
  have hld_r := HKr6.out.ldR
  cases b
  · have e1 := HHN.out rfl
    have e2 := HCN.out rfl
    subst e1
    subst e2
    go_wp2_with fail
    refine (WK.out _).mono ?_
    rintro e w4 ⟨rfl, hb⟩
    go_wp2
    go_ret
    exact ⟨rfl, Below.step HB6.out hb⟩
  have e1 := HHY.out h1 h2 rfl
  have e2 := HCY.out h1 h2 rfl
  subst e1
  subst e2
  go_wp2_with fail
  refine (GV.out _).mono ?_
  rintro e w7 ⟨rfl, hb⟩
  have HKr8 := Lib.hid (HKr6.out.step hb)
  have HB8 := Lib.hid (Below.step HB6.out hb)
  clear hb HKr6 HB6
  (try clear hld_r)
  have hld_r := HKr8.out.ldR
  go_wp2_with fail
  refine (SH.out _).mono ?_
  rintro e w9 ⟨rfl, hb⟩
  have HKr10 := Lib.hid (HKr8.out.step hb)
  have HB10 := Lib.hid (Below.step HB8.out hb)
  clear hb HKr8 HB8
  (try clear hld_r)
  have hld_r := HKr10.out.ldR
  go_wp2_with fail
  refine (GV.out _).mono ?_
  rintro e w11 ⟨rfl, hb⟩
  have HKr12 := Lib.hid (HKr10.out.step hb)
  have HB12 := Lib.hid (Below.step HB10.out hb)
  clear hb HKr10 HB10
  (try clear hld_r)
  have hld_r := HKr12.out.ldR
  go_wp2_with fail
  refine (SC.out _).mono ?_
  rintro e w13 ⟨rfl, hb⟩
  have HKr14 := Lib.hid (HKr12.out.step hb)
  have HB14 := Lib.hid (Below.step HB12.out hb)
  clear hb HKr12 HB12
  (try clear hld_r)
  have hld_r := HKr14.out.ldR
  go_wp2_with fail
  refine (WK.out _).mono ?_
  rintro e w15 ⟨rfl, hb⟩
  have HKr16 := Lib.hid (HKr14.out.step hb)
  have HB16 := Lib.hid (Below.step HB14.out hb)
  clear hb HKr14 HB14
  (try clear hld_r)
  have hld_r := HKr16.out.ldR
  go_wp2
  go_ret
  exact ⟨rfl, HB16.out⟩
theorem data_of (e s r : Int) (a b c d : List UInt8) (ha : a.length ≤ maxLen) (hb : b.length ≤ maxLen) (hc : c.length ≤ maxLen) (hd : d.length ≤ maxLen) : Data ⟨e, s, r, a, b, c, d⟩ := by
  intro k
  unfold dk
  split <;> assumption
theorem journalSectors_args (W : World) (arr e s r : Int) (a b c d : List UInt8) (ha : a.length ≤ maxLen) (hb : b.length ≤ maxLen) (hc : c.length ≤ maxLen) (hd : d.length ≤ maxLen) :
    Calls Try.prog 4 #[.int .i64 arr, .agg #[.int .i64 e, .int .i64 s, .int .i64 r, .string ⟨a.toArray⟩, .string ⟨b.toArray⟩, .string ⟨c.toArray⟩, .string ⟨d.toArray⟩]] W fun e w' => e = .returned (.bool true) ∧ Below W.heap.size W w' :=
  journalSectors_walk arr ⟨e, s, r, a, b, c, d⟩ (data_of e s r a b c d ha hb hc hd) W
end Go.Proofs.Ytccbohjcbhibkaa
