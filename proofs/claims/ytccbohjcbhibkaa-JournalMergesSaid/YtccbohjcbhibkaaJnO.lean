/- The walk through the law JournalKnown: it answers true. No condition. -/
import Derived.Test.YtccbohjcbhibkaaJnN
namespace Go.Proofs.Ytccbohjcbhibkaa
set_option linter.unusedVariables false
set_option linter.unusedSimpArgs false
set_option maxRecDepth 100000
open Go.RowKit
attribute [local go_sem ↓] Go.wp_at_zero Go.wp_at_succ
attribute [local go_sem ↓] ix_dat ld_rec

theorem StrsAt.other {w : World} {B : Nat} {A : Option Addr} {L : List (List UInt8)} (h : StrsAt w B A L) (o : Nat) (cs : List Value) : StrsAt (w.setCells B o cs) B A L := by
  rcases h with h | ⟨b, p, e1, e2, e3⟩
  · exact Or.inl h
  · exact Or.inr ⟨b, p, e1, e2, fun j hj => by rw [World.cell?, heap_setCells B cs o w b (Nat.ne_of_lt e2)]; exact e3 j hj⟩
theorem StrsAt.mono {w : World} {B B' : Nat} {A : Option Addr} {L : List (List UInt8)} (h : StrsAt w B A L) (hb : B ≤ B') : StrsAt w B' A L := by
  rcases h with h | ⟨b, p, e1, e2, e3⟩
  · exact Or.inl h
  · exact Or.inr ⟨b, p, e1, Nat.lt_of_lt_of_le e2 hb, e3⟩

theorem rec_nil {w : World} {B : Nat} {v : Value} (h : RecAt w B v []) : ∃ A c, v = .slice A 0 c := by
  rcases h with ⟨_, h⟩ | ⟨g, cap, e1, _⟩
  · exact ⟨none, 0, h⟩
  · exact ⟨_, cap, e1⟩
theorem rec_one {w : World} {B : Nat} {v : Value} {r : Rc} (h : RecAt w B v [r]) : ∃ g cap, v = .slice (some ⟨g, 0, none⟩) 1 cap ∧ g < w.heap.size ∧ Sort.HoldsK encR 7 w g 0 [r].toArray := by
  rcases h with ⟨h, _⟩ | ⟨g, cap, e1, e2, e3, e4, e5, e6⟩
  · cases h
  · exact ⟨g, cap, e1, e3, e6⟩
/-- one record lies in a row -/
def OneAt (w : World) (g : Nat) (r : Rc) : Prop := g < w.heap.size ∧ Sort.HoldsK encR 7 w g 0 [r].toArray
theorem OneAt.step {w w' : World} {g : Nat} {r : Rc} (h : OneAt w g r) (hb : Below w.heap.size w w') : OneAt w' g r := ⟨Nat.lt_of_lt_of_le h.1 hb.size, holds_step h.2 h.1 hb⟩
theorem StrsAt.drew1 {w : World} {A : Option Addr} {L : List (List UInt8)} (h : StrsAt w w.heap.size A L) : StrsAt w.drew w.drew.heap.size A L := h
theorem OneAt.drew {w : World} {g : Nat} {r : Rc} (h : OneAt w g r) : OneAt w.drew g r := h
theorem OneAt.ld {w : World} {g : Nat} {r : Rc} (h : OneAt w g r) : (Ld 29 (.pointer (some ⟨g, 0, none⟩))).run Try.prog w = .ok (.agg (rcC r)) w := holds_ld (i := 0) (L := [r]) h.2 (by simp)
theorem recs_22 : recsK 2 2 W12 8 = [] := by kernel_rfl
theorem read_22 : readV 2 2 W12 = [] := by
  unfold readV
  rw [recs_22, srt_none]
theorem recs_nil : recsK 1 2 [] 8 = [] := by kernel_rfl
theorem read_nil : readV 1 2 [] = [] := by
  unfold readV
  rw [recs_nil, srt_none]
def bareR : Rc := ⟨2, 7, 3, [], [], [], []⟩
theorem bare_data : Data bareR := by
  intro k
  unfold dk bareR
  split <;> decide
def nb20 : List UInt8 := [1, 0, 0, 0, 2, 0, 0, 0, 7, 0, 0, 0, 3, 0, 0, 0, 2, 0, 0, 0]
theorem may_h : mayV mgH 1 (oneX (full 9)) = ([74, 72, 68, 1] ++ (nb20 ++ Lib.repeatL [0] 40), 0) := by kernel_rfl
theorem may_c : mayV mgC 1 (oneX (full 9)) = ([74, 67, 77, 1] ++ (nb20 ++ Lib.repeatL [0] 40), 0) := by kernel_rfl
theorem may_0 : mayV mgH 0 (oneX (full 9)) = ([], 1) := by kernel_rfl
theorem may_b : mayV mgH 1 bareR = ([], 1) := by kernel_rfl
theorem may_256 : mayV mgC 256 (oneX (full 9)) = ([], 1) := by kernel_rfl
theorem rep40_len : (Lib.repeatL [0] 40 : List UInt8).length = 40 := by decide +kernel
theorem bare_put (x : List UInt8) : (rcC (oneX x)).toList.take 3 ++ [sv [], sv [], sv [], sv []] ++ (rcC (oneX x)).toList.drop (3 + 4) = (rcC bareR).toList := rfl

set_option maxHeartbeats 4000000 in
theorem journalKnown_walk (w : World) : Calls Try.prog 9 #[] w fun e w' => e = .returned (.bool true) ∧ Below w.heap.size w w' := by
  have WK := Lib.hid wakes_any
  have ON := Lib.hid (fun w => one_any w)
  have SX := Lib.hid (fun w => six_any 1 (oneX (full 9)) one_data w)
  have R2 := Lib.hid (fun A c w hA => by have h := read_any 1 2 A c W12 (by rw [W12_len]; decide) W12_max w hA; rw [read_2] at h; exact h)
  have R3 := Lib.hid (fun A c w hA => by have h := read_any 1 3 A c W12 (by rw [W12_len]; decide) W12_max w hA; rw [read_3] at h; exact h)
  have R22 := Lib.hid (fun A c w hA => by have h := read_any 2 2 A c W12 (by rw [W12_len]; decide) W12_max w hA; rw [read_22] at h; exact h)
  have RN : Hid (∀ w, Calls Try.prog 22 #[.int .i64 1, .int .i64 2, .slice none 0 0] w fun e w' => ∃ v, e = .returned v ∧ RecAt w' w.heap.size v [] ∧ Below w.heap.size w w') := Lib.hid (fun w => by have h := read_any 1 2 none 0 [] (by simp [maxLen]) (by simp) w (Or.inl rfl); rw [read_nil] at h; exact h)
  have P1 : Hid (∀ w, Calls Try.prog 25 #[.int .i64 0, .int .i64 0] w fun e w' => e = .returned (.tuple #[.int .i64 3, .bool true]) ∧ Below w.heap.size w w') := Lib.hid (fun w => (place_in 0 0 (by decide) (by decide) (by decide) (by decide) w).mono (fun e w' h => ⟨h.1, by rw [h.2]; exact Below.refl _ _⟩))
  have P2 : Hid (∀ w, Calls Try.prog 25 #[.int .i64 7, .int .i64 5] w fun e w' => e = .returned (.tuple #[.int .i64 50, .bool true]) ∧ Below w.heap.size w w') := Lib.hid (fun w => (place_in 7 5 (by decide) (by decide) (by decide) (by decide) w).mono (fun e w' h => ⟨h.1, by rw [h.2]; exact Below.refl _ _⟩))
  have P3 : Hid (∀ w, Calls Try.prog 25 #[.int .i64 8, .int .i64 0] w fun e w' => e = .returned (.tuple #[.int .i64 0, .bool false]) ∧ Below w.heap.size w w') := Lib.hid (fun w => (place_out 8 0 (by decide) w).mono (fun e w' h => ⟨h.1, by rw [h.2]; exact Below.refl _ _⟩))
  have P4 : Hid (∀ w, Calls Try.prog 25 #[.int .i64 0, .int .i64 6] w fun e w' => e = .returned (.tuple #[.int .i64 0, .bool false]) ∧ Below w.heap.size w w') := Lib.hid (fun w => (place_out 0 6 (by decide) w).mono (fun e w' h => ⟨h.1, by rw [h.2]; exact Below.refl _ _⟩))
  have S1 : Hid (∀ w, Calls Try.prog 26 #[.int .i64 0] w fun e w' => e = .returned (.tuple #[.int .i64 51, .bool true]) ∧ Below w.heap.size w w') := Lib.hid (fun w => (rowAt_in 0 (by decide) (by decide) w).mono (fun e w' h => ⟨h.1, by rw [h.2]; exact Below.refl _ _⟩))
  have S2 : Hid (∀ w, Calls Try.prog 26 #[.int .i64 64] w fun e w' => e = .returned (.tuple #[.int .i64 0, .bool false]) ∧ Below w.heap.size w w') := Lib.hid (fun w => (rowAt_out 64 (by decide) w).mono (fun e w' h => ⟨h.1, by rw [h.2]; exact Below.refl _ _⟩))
  have HD := Lib.hid (fun w => by have h := head_any 1 (oneX (full 9)) one_data w; rw [may_h] at h; exact h)
  have CM := Lib.hid (fun w => by have h := commit_any 1 (oneX (full 9)) one_data w; rw [may_c] at h; exact h)
  have H0 := Lib.hid (fun w => by have h := head_any 0 (oneX (full 9)) one_data w; rw [may_0] at h; exact h)
  have HBR := Lib.hid (fun w => by have h := head_any 1 bareR bare_data w; rw [may_b] at h; exact h)
  have C256 := Lib.hid (fun w => by have h := commit_any 256 (oneX (full 9)) one_data w; rw [may_256] at h; exact h)
  have RP := Lib.hid (fun w => (rep_0 40 (by decide) w : Calls Try.prog 28 #[.string ⟨#[0]⟩, .int .i64 40] w fun e w' => e = .returned (.string ⟨(Lib.repeatL [0] 40).toArray⟩) ∧ Below w.heap.size w w'))
  have h6 := sixV_len 1 (oneX (full 9))
  have HW : Hid (W12 = [[], [], [], [], [], []] ++ sixV 1 (oneX (full 9))) := rfl
  have hl40 := rep40_len
  have HBP := Lib.hid (bare_put (full 9))
  have hst1 : (⟨#[1, 0, 0, 0, 2, 0, 0, 0, 7, 0, 0, 0, 3, 0, 0, 0, 2, 0, 0, 0]⟩ : ByteArray) ++ ⟨(Lib.repeatL [0] 40).toArray⟩ = ⟨(nb20 ++ Lib.repeatL [0] 40).toArray⟩ := str_append nb20 _
  have hn60 : (nb20 ++ Lib.repeatL [0] 40 : List UInt8).length = 60 := by rw [List.length_append, hl40]; rfl
  generalize hnb : nb20 ++ Lib.repeatL [0] 40 = NB at HD CM hst1 hn60
  have hst2 : (⟨#[74, 72, 68, 1]⟩ : ByteArray) ++ ⟨NB.toArray⟩ = ⟨([74, 72, 68, 1] ++ NB).toArray⟩ := str_append [74, 72, 68, 1] NB
  have hst3 : (⟨#[74, 67, 77, 1]⟩ : ByteArray) ++ ⟨NB.toArray⟩ = ⟨([74, 67, 77, 1] ++ NB).toArray⟩ := str_append [74, 67, 77, 1] NB
  generalize [74, 72, 68, 1] ++ NB = VH at HD hst2
  generalize [74, 67, 77, 1] ++ NB = VC at CM hst3
  generalize Lib.repeatL [0] 40 = R40 at RP hl40 hst1
  have hsum1 : ¬ 9223372036854775807 < 20 + R40.length := by rw [hl40]; decide
  have hsum2 : ¬ 9223372036854775807 < 4 + NB.length := by rw [hn60]; decide
  clear hnb hl40 hn60
  generalize oneX (full 9) = one at ON SX R2 R3 h6 HW HD CM H0 C256 HBP
  generalize bareR = bare at HBR HBP
  generalize sixV 1 one = L6 at SX h6 HW
  obtain ⟨i0, hi, hz0, hz1, hz2⟩ := info_parts str_info
  have hmk := fun w => run_make (P := Try.prog) w 41 9 i0 (.string ⟨#[]⟩) Try.underlying41 hi hz0 .i64 .i64 6 6 (by omega) (by omega) (by rw [hz2]; omega) (by omega)
  rw [hz1] at hmk
  have e64 : (6 : Int).toNat = 6 := rfl
  simp only [e64] at hmk
  clear e64
  go_enter Try.func9, Try.ntmps9
  go_wp2_with fail
  refine (ON.out _).mono ?_
  rintro e w1 ⟨rfl, hb⟩
  have HB2 := Lib.hid (hb)
  clear hb 
  have tok4 : True := trivial
  go_upto_region 2 with (have _t := tok4; refine wpList_store_blk rfl 29 _ _ rfl w1.heap.size (rcC one) rfl rfl zrec 29 (Blk.new w1 29 zrec 0 0 (Or.inl (Nat.le_refl _))) (by rw [rcC_size]; rfl) (by rw [rcC_size]; exact size_rec) (rcC_one _) ?_; clear tok4)
  have HKr4 := Lib.hid ((Blk.new w1 29 zrec 0 0 (Or.inl (Nat.le_refl _))).setAll (cs := rcC one) (by rw [rcC_size]; rfl))
  have HB4 := Lib.hid (Below.setCells (HB2.out.alloc HB2.out.size (.cells zrec 29)) HB2.out.size 0 (rcC one).toList)
  generalize World.setCells _ _ _ _ = w3 at HKr4 HB4 ⊢
  have hge_r : w.heap.size ≤ w1.heap.size := HB2.out.size
  generalize w1.heap.size = pr at HKr4 hge_r ⊢
  clear HB2
  have hld_r := HKr4.out.ldR
  go_wp2_with fail
  refine (P1.out _).mono ?_
  rintro e w5 ⟨rfl, hb⟩
  have HKr6 := Lib.hid (HKr4.out.step hb)
  have HB6 := Lib.hid (Below.step HB4.out hb)
  clear hb HKr4 HB4
  (try clear hld_r)
  have hld_r := HKr6.out.ldR
  go_wp2_with fail
  refine (P2.out _).mono ?_
  rintro e w7 ⟨rfl, hb⟩
  have HKr8 := Lib.hid (HKr6.out.step hb)
  have HB8 := Lib.hid (Below.step HB6.out hb)
  clear hb HKr6 HB6
  (try clear hld_r)
  have hld_r := HKr8.out.ldR
  go_wp2_with fail
  refine (P3.out _).mono ?_
  rintro e w9 ⟨rfl, hb⟩
  have HKr10 := Lib.hid (HKr8.out.step hb)
  have HB10 := Lib.hid (Below.step HB8.out hb)
  clear hb HKr8 HB8
  (try clear hld_r)
  have hld_r := HKr10.out.ldR
  go_wp2_with fail
  refine (P4.out _).mono ?_
  rintro e w11 ⟨rfl, hb⟩
  have HKr12 := Lib.hid (HKr10.out.step hb)
  have HB12 := Lib.hid (Below.step HB10.out hb)
  clear hb HKr10 HB10
  (try clear hld_r)
  have hld_r := HKr12.out.ldR
  go_wp2_with fail
  refine (S1.out _).mono ?_
  rintro e w13 ⟨rfl, hb⟩
  have HKr14 := Lib.hid (HKr12.out.step hb)
  have HB14 := Lib.hid (Below.step HB12.out hb)
  clear hb HKr12 HB12
  (try clear hld_r)
  have hld_r := HKr14.out.ldR
  go_wp2_with fail
  refine (S2.out _).mono ?_
  rintro e w15 ⟨rfl, hb⟩
  have HKr16 := Lib.hid (HKr14.out.step hb)
  have HB16 := Lib.hid (Below.step HB14.out hb)
  clear hb HKr14 HB14
  (try clear hld_r)
  have hld_r := HKr16.out.ldR
  go_wp2_with fail
  refine (HD.out _).mono ?_
  rintro e w17 ⟨rfl, hb⟩
  have HKr18 := Lib.hid (HKr16.out.step hb)
  have HB18 := Lib.hid (Below.step HB16.out hb)
  clear hb HKr16 HB16
  (try clear hld_r)
  have hld_r := HKr18.out.ldR
  go_wp2_with fail
  refine (CM.out _).mono ?_
  rintro e w19 ⟨rfl, hb⟩
  have HKr20 := Lib.hid (HKr18.out.step hb)
  have HB20 := Lib.hid (Below.step HB18.out hb)
  clear hb HKr18 HB18
  (try clear hld_r)
  have hld_r := HKr20.out.ldR
  go_wp2_with fail
  refine (RP.out _).mono ?_
  rintro e w21 ⟨rfl, hb⟩
  have HKr22 := Lib.hid (HKr20.out.step hb)
  have HB22 := Lib.hid (Below.step HB20.out hb)
  clear hb HKr20 HB20
  (try clear hld_r)
  have hld_r := HKr22.out.ldR
  go_upto_region 12 with fail
  (try clear hld_r)
  go_cut [20] from 88 to 91 (fun v wx => (∃ n, wx.ownsRow w.heap.size 9 1 v n (W12.map encStr)) ∧ Blk wx pr 29 (rcC one) ∧ Below w.heap.size w wx)
  case first =>
    refine wp_region_noPanic ?_
    refine wp_region_held_drew (S := (fun w' => (Ld 29 (.pointer (some ⟨pr, 0, none⟩))).run Try.prog w' = .ok (.agg (rcC one)) w')) (by kernel_rfl) (by first | exact (Blk.drew HKr22.out).ldR) (fun hHeld => ?_)
    refine wpAnyH_take (i := 1) (oi := _) (v := ?vr1n1_1) rfl (by kernel_rfl) (by kernel_rfl) (by kernel_rfl) (fun _ _ _ h => h) (Or.inl ⟨by kernel_rfl, ?hr1n1_1⟩) hHeld ?_
    case hr1n1_1 => (intro w hSw; (try dsimp only at hSw); go_simp; try (with_reducible rfl))
    try simp only [List.getElem_toArray, List.getElem_cons_zero, List.getElem_cons_succ, Act.put, List.setIfInBounds_toArray, List.set_cons_zero, List.set_cons_succ]
    refine wpAnyH_ready (rs := [0, 2]) (by kernel_rfl) (by simp) ?_
    refine AllReadyH.cons (o := _) rfl (fun K hK => ?_) ?_
    · skip
      go_simp
      (skip; have HM1 := Lib.hid ((Blk.new w21 9 (madeCells #[Value.string ⟨#[]⟩] 6) 0 0 (Or.inl (Nat.le_refl _))).drew); have HR1 := Lib.hid ((HKr22.out.alloc (.cells (madeCells #[Value.string ⟨#[]⟩] 6) 9)).drew); have HC1 := Lib.hid ((HB22.out.alloc HB22.out.size (.cells (madeCells #[Value.string ⟨#[]⟩] 6) 9)).drew); generalize World.drew (World.alloc _ _) = y1 at HM1 HC1 HR1 ⊢)
      refine hK.out _ _ ?_ (fun hHeld1 => ?_)
      · (first | exact HR1.out.ldR)
      clear hHeld hK K
      try simp only [List.getElem_toArray, List.getElem_cons_zero, List.getElem_cons_succ, Act.put, List.setIfInBounds_toArray, List.set_cons_zero, List.set_cons_succ]
      refine wpAnyH_ready (rs := [2]) (by kernel_rfl) (by simp) ?_
      refine AllReadyH.cons (o := _) rfl (fun K hK => ?_) AllReadyH.nil
      go_simp
      (go_at_call 20; refine (SX.out _).mono ?_; rintro e y2 ⟨v6, rfl, hown, hb⟩; have HM2 := Lib.hid (HM1.out.step hb); have HC2 := Lib.hid (Below.step HC1.out hb); have HR2 := Lib.hid (HR1.out.step hb); obtain ⟨A6, c6, rfl, hq1, hst, hq2, hq3, hq4⟩ := own_strs hown; obtain ⟨b6, o6, rfl⟩ := st_some hst h6; have HX2 := Lib.hid hst; clear hst hown hq1 hq2 hq3 hq4; (try rw [h6]); clear hb)
      refine hK.out _ _ ?_ (fun hHeld2 => ?_)
      · (first | exact HR2.out.ldR)
      clear hHeld1 hK K
      try simp only [List.getElem_toArray, List.getElem_cons_zero, List.getElem_cons_succ, Act.put, List.setIfInBounds_toArray, List.set_cons_zero, List.set_cons_succ]
      refine wpAnyH_ready (rs := [3]) (by kernel_rfl) (by simp) ?_
      refine AllReadyH.cons (o := _) rfl (fun K hK => ?_) AllReadyH.nil
      (refine step_append_grows rfl (.tmp 88) (.tmp 90) 41 rfl 9 i0 (.string ⟨#[]⟩) 1 16 Try.underlying41 hi hz0 hz1 hz2 rfl (by decide) (some ⟨w21.heap.size, 0, none⟩) 6 6 (([[], [], [], [], [], []] : List (List UInt8)).map encStr) rfl (fun h => by cases h) rfl (fun b hb j u hj => mk_cells HM2.out b hb j u hj) ⟨b6, o6, none⟩ 6 c6 (L6.map encStr) rfl (by rw [List.length_map, h6]) (fun j u hj => st_cells HX2.out j u hj) (enc_one _) (by decide) (by decide) (by decide) ?_; intro v9 w9 hown hg; have HO9 := Lib.hid hown; have HB9 := Lib.hid (grown_step HC2.out hg); have HR9 := Lib.hid (HR2.out.grownM hg (fun q hq => by cases hq)); clear hown hg; (try go_simp))
      refine hK.out _ _ ?_ (fun hHeld3 => ?_)
      · (first | exact HR9.out.ldR)
      clear hHeld2 hK K
      try simp only [List.getElem_toArray, List.getElem_cons_zero, List.getElem_cons_succ, Act.put, List.setIfInBounds_toArray, List.set_cons_zero, List.set_cons_succ]
      refine wpAnyH_take (i := 4) (oi := _) (v := ?vr1n4_2) rfl (by kernel_rfl) (by kernel_rfl) (by kernel_rfl) (fun _ _ _ h => h) (Or.inl ⟨by kernel_rfl, ?hr1n4_2⟩) hHeld3 ?_
      case hr1n4_2 => (intro w hSw; (try dsimp only at hSw); rfl)
      try simp only [List.getElem_toArray, List.getElem_cons_zero, List.getElem_cons_succ, Act.put, List.setIfInBounds_toArray, List.set_cons_zero, List.set_cons_succ]
      refine wpAnyH_done (by kernel_rfl) ?_ _
      refine NoPanic.normal ?_
      go_wp2_with fail
      go_meet
      exact ⟨⟨6 + 6, by rw [HW.out, List.map_append]; exact own_weak HO9.out HC2.out.size⟩, HR9.out, HB9.out⟩
    refine AllReadyH.cons (o := _) rfl (fun K hK => ?_) AllReadyH.nil
    go_simp
    (go_at_call 20; refine (SX.out _).mono ?_; rintro e y4 ⟨v6, rfl, hown, hb⟩; have hb := (Below.drewN (Below.refl _ w21) 1).trans hb; have HC4 := Lib.hid (Below.step HB22.out hb); have HR4 := Lib.hid (HKr22.out.step hb); obtain ⟨A6, c6, rfl, hq1, hst, hq2, hq3, hq4⟩ := own_strs hown; obtain ⟨b6, o6, rfl⟩ := st_some hst h6; have HX4 := Lib.hid hst; clear hst hown hq1 hq2 hq3 hq4; (try rw [h6]); clear hb)
    refine hK.out _ _ ?_ (fun hHeld4 => ?_)
    · (first | exact HR4.out.ldR)
    clear hHeld hK K
    try simp only [List.getElem_toArray, List.getElem_cons_zero, List.getElem_cons_succ, Act.put, List.setIfInBounds_toArray, List.set_cons_zero, List.set_cons_succ]
    refine wpAnyH_ready (rs := [0]) (by kernel_rfl) (by simp) ?_
    refine AllReadyH.cons (o := _) rfl (fun K hK => ?_) AllReadyH.nil
    go_simp
    (skip; have HM5 := Lib.hid (Blk.new y4 9 (madeCells #[Value.string ⟨#[]⟩] 6) 0 0 (Or.inl (Nat.le_refl _))); have HR5 := Lib.hid (HR4.out.alloc (.cells (madeCells #[Value.string ⟨#[]⟩] 6) 9)); have HX5 := Lib.hid (HX4.out.up ((Below.refl _ y4).alloc (Nat.le_refl _) (.cells (madeCells #[Value.string ⟨#[]⟩] 6) 9))); have HC5 := Lib.hid (HC4.out.alloc HC4.out.size (.cells (madeCells #[Value.string ⟨#[]⟩] 6) 9)); generalize World.alloc _ _ = y5 at HM5 HC5 HR5 HX5 ⊢)
    refine hK.out _ _ ?_ (fun hHeld5 => ?_)
    · (first | exact HR5.out.ldR)
    clear hHeld4 hK K
    try simp only [List.getElem_toArray, List.getElem_cons_zero, List.getElem_cons_succ, Act.put, List.setIfInBounds_toArray, List.set_cons_zero, List.set_cons_succ]
    refine wpAnyH_ready (rs := [3]) (by kernel_rfl) (by simp) ?_
    refine AllReadyH.cons (o := _) rfl (fun K hK => ?_) AllReadyH.nil
    (refine step_append_grows rfl (.tmp 88) (.tmp 90) 41 rfl 9 i0 (.string ⟨#[]⟩) 1 16 Try.underlying41 hi hz0 hz1 hz2 rfl (by decide) (some ⟨y4.heap.size, 0, none⟩) 6 6 (([[], [], [], [], [], []] : List (List UInt8)).map encStr) rfl (fun h => by cases h) rfl (fun b hb j u hj => mk_cells HM5.out b hb j u hj) ⟨b6, o6, none⟩ 6 c6 (L6.map encStr) rfl (by rw [List.length_map, h6]) (fun j u hj => st_cells HX5.out j u hj) (enc_one _) (by decide) (by decide) (by decide) ?_; intro v9 w9 hown hg; have HO9 := Lib.hid hown; have HB9 := Lib.hid (grown_step HC5.out hg); have HR9 := Lib.hid (HR5.out.grownM hg (fun q hq => by cases hq)); clear hown hg; (try go_simp))
    refine hK.out _ _ ?_ (fun hHeld6 => ?_)
    · (first | exact HR9.out.ldR)
    clear hHeld5 hK K
    try simp only [List.getElem_toArray, List.getElem_cons_zero, List.getElem_cons_succ, Act.put, List.setIfInBounds_toArray, List.set_cons_zero, List.set_cons_succ]
    refine wpAnyH_take (i := 4) (oi := _) (v := ?vr1n4_3) rfl (by kernel_rfl) (by kernel_rfl) (by kernel_rfl) (fun _ _ _ h => h) (Or.inl ⟨by kernel_rfl, ?hr1n4_3⟩) hHeld6 ?_
    case hr1n4_3 => (intro w hSw; (try dsimp only at hSw); rfl)
    try simp only [List.getElem_toArray, List.getElem_cons_zero, List.getElem_cons_succ, Act.put, List.setIfInBounds_toArray, List.set_cons_zero, List.set_cons_succ]
    refine wpAnyH_done (by kernel_rfl) ?_ _
    refine NoPanic.normal ?_
    go_wp2_with fail
    go_meet
    exact ⟨⟨6 + 6, by rw [HW.out, List.map_append]; exact own_weak HO9.out HC5.out.size⟩, HR9.out, HB9.out⟩
  case rest =>
    obtain ⟨⟨n, hown⟩, hkr, hbel⟩ := hcut
    clear hmk hi hz0 hz1 hz2
    have hlen : W12.length = 12 := by rw [HW.out, List.length_append, h6]; rfl
    clear h6
    obtain ⟨A, c, rfl, hq1, hst, hq2, hq3, hq4⟩ := own_strs hown
    clear hq1 hq2 hq3 hq4
    rw [hlen]
    have HOs := Lib.hid hst
    have HKr := Lib.hid hkr
    have HBc := Lib.hid hbel
    have HR2 := Lib.hid (fun w hA => R2.out A c w hA)
    have HR3 := Lib.hid (fun w hA => R3.out A c w hA)
    have HR22 := Lib.hid (fun w hA => R22.out A c w hA)
    rw [hlen] at HR2 HR3 HR22
    clear hown hst hkr hbel R2 R3 R22 HW hlen HKr22 HB22
    have hld_r := HKr.out.ldR
    have tok24 : True := trivial
    go_upto_region 14 with (have _t := tok24; refine wpList_store_blk rfl 29 _ _ rfl wc.heap.size (rcC one) rfl rfl zrec 29 (Blk.new wc 29 zrec 0 0 (Or.inl (Nat.le_refl _))) (by rw [rcC_size]; rfl) (by rw [rcC_size]; exact size_rec) (rcC_one _) ?_; clear tok24)
    (try clear hld_r)
    have HKr24 := Lib.hid ((HKr.out.alloc (.cells zrec 29)).setCells_other wc.heap.size 0 (rcC one).toList (Nat.ne_of_lt HKr.out.lt))
    have HOs24 := Lib.hid (HOs.out.below (Below.setCells ((Below.refl _ wc).alloc (Nat.le_refl _) (.cells zrec 29)) (Nat.le_refl _) 0 (rcC one).toList))
    have HKb24 := Lib.hid ((Blk.new wc 29 zrec 0 0 (Or.inl (Nat.le_refl _))).setAll (cs := rcC one) (by rw [rcC_size]; rfl))
    have HB24 := Lib.hid (Below.setCells (HBc.out.alloc HBc.out.size (.cells zrec 29)) HBc.out.size 0 (rcC one).toList)
    generalize World.setCells _ _ _ _ = w23 at HKr24 HKb24 HOs24 HB24 ⊢
    have hge_b : w.heap.size ≤ wc.heap.size := HBc.out.size
    have hne_r_b : pr ≠ wc.heap.size := Nat.ne_of_lt HKr.out.lt
    generalize wc.heap.size = pb at HKr24 HKb24 HOs24 hge_b hne_r_b ⊢
    clear HKr HOs HBc
    have hld_r := HKr24.out.ldR
    have hld_b := HKb24.out.ldR
    (try clear hld_r)
    (try clear hld_b)
    have tokP : True := trivial
    go_upto_region 15 with (have _t := tokP; refine wpList_store_part rfl 27 _ _ rfl pb 3 #[sv [], sv [], sv [], sv []] rfl rfl (rcC one) 29 HKb24.out (by rw [rcC_size]; decide) size_dat rfl ?_; clear tokP)
    have HKb2 := Lib.hid (HKb24.out.setPart (C' := rcC bare) 3 [sv [], sv [], sv [], sv []] (by rw [rcC_size]; decide) HBP.out)
    have HKr2 := Lib.hid (HKr24.out.setCells_other pb 3 [sv [], sv [], sv [], sv []] hne_r_b)
    have HBd := Lib.hid (Below.setCells HB24.out hge_b 3 [sv [], sv [], sv [], sv []])
    have HOs2 := Lib.hid ((StrsAt.other HOs24.out 3 [sv [], sv [], sv [], sv []]).mono (Nat.le_of_lt HKb2.out.lt))
    generalize World.setCells _ _ _ _ = w25 at HKb2 HKr2 HBd HOs2 ⊢
    clear HKb24 HKr24 HOs24 HB24 HBP
    have hld_r := HKr2.out.ldR
    have hld_b := HKb2.out.ldR
    go_wp2_with fail
    refine (H0.out _).mono ?_
    rintro e w26 ⟨rfl, hb⟩
    have HKr27 := Lib.hid (HKr2.out.step hb)
    have HKb27 := Lib.hid (HKb2.out.step hb)
    have HOs27 := Lib.hid (HOs2.out.up hb)
    have HB27 := Lib.hid (Below.step HBd.out hb)
    clear hb HKr2 HKb2 HOs2 HBd
    (try clear hld_r)
    (try clear hld_b)
    have hld_r := HKr27.out.ldR
    have hld_b := HKb27.out.ldR
    go_wp2_with fail
    refine (HBR.out _).mono ?_
    rintro e w28 ⟨rfl, hb⟩
    have HKr29 := Lib.hid (HKr27.out.step hb)
    have HKb29 := Lib.hid (HKb27.out.step hb)
    have HOs29 := Lib.hid (HOs27.out.up hb)
    have HB29 := Lib.hid (Below.step HB27.out hb)
    clear hb HKr27 HKb27 HOs27 HB27
    (try clear hld_r)
    (try clear hld_b)
    have hld_r := HKr29.out.ldR
    have hld_b := HKb29.out.ldR
    go_wp2_with fail
    refine (C256.out _).mono ?_
    rintro e w30 ⟨rfl, hb⟩
    have HKr31 := Lib.hid (HKr29.out.step hb)
    have HKb31 := Lib.hid (HKb29.out.step hb)
    have HOs31 := Lib.hid (HOs29.out.up hb)
    have HB31 := Lib.hid (Below.step HB29.out hb)
    clear hb HKr29 HKb29 HOs29 HB29
    (try clear hld_r)
    (try clear hld_b)
    have hld_r := HKr31.out.ldR
    have hld_b := HKb31.out.ldR
    (try clear hld_r)
    (try clear hld_b)
    go_wp2_with fail
    refine (HR2.out _ HOs31.out).mono ?_
    rintro e w32 ⟨v, rfl, hrec, hb⟩
    have HKr33 := Lib.hid (HKr31.out.step hb)
    have HKb33 := Lib.hid (HKb31.out.step hb)
    have HOs33 := Lib.hid (HOs31.out.up hb)
    have HB33 := Lib.hid (Below.step HB31.out hb)
    obtain ⟨gx, cx, rfl, hg1, hg2⟩ := rec_one hrec
    have HQ : Hid (OneAt w32 gx one) := Lib.hid ⟨hg1, hg2⟩
    clear hb hrec hg1 hg2 HKr31 HKb31 HOs31 HB31
    have hself := fun w => (by have h := run_rc_eql w one one; rw [rcEq_self] at h; exact h : (binOp .eql 29 (.agg (rcC one)) (.agg (rcC one))).run Try.prog w = .ok (.bool true) w)
    go_upto_region 19 with fail
    refine wp_region_noPanic ?_
    refine wp_region_held_drew (S := (fun w' => (Ld 29 (.pointer (some ⟨gx, 0, none⟩))).run Try.prog w' = .ok (.agg (rcC one)) w' ∧ (Ld 29 (.pointer (some ⟨pr, 0, none⟩))).run Try.prog w' = .ok (.agg (rcC one)) w')) (by kernel_rfl) (by first | exact ⟨(OneAt.drew HQ.out).ld, (Blk.drew HKr33.out).ldR⟩) (fun hHeld => ?_)
    refine wpAnyH_take (i := 0) (oi := _) (v := ?vr2n0_4) rfl (by kernel_rfl) (by kernel_rfl) (by kernel_rfl) (fun _ _ _ h => h) (Or.inl ⟨by kernel_rfl, ?hr2n0_4⟩) hHeld ?_
    case hr2n0_4 => (intro w hSw; (try dsimp only at hSw); go_simp; try (with_reducible rfl))
    try simp only [List.getElem_toArray, List.getElem_cons_zero, List.getElem_cons_succ, Act.put, List.setIfInBounds_toArray, List.set_cons_zero, List.set_cons_succ]
    refine wpAnyH_take (i := 1) (oi := _) (v := ?vr2n1_5) rfl (by kernel_rfl) (by kernel_rfl) (by kernel_rfl) (fun _ _ _ h => h) (Or.inl ⟨by kernel_rfl, ?hr2n1_5⟩) hHeld ?_
    case hr2n1_5 => (intro w hSw; (try dsimp only at hSw); go_simp; try (with_reducible rfl))
    try simp only [List.getElem_toArray, List.getElem_cons_zero, List.getElem_cons_succ, Act.put, List.setIfInBounds_toArray, List.set_cons_zero, List.set_cons_succ]
    refine wpAnyH_take (i := 2) (oi := _) (v := ?vr2n2_6) rfl (by kernel_rfl) (by kernel_rfl) (by kernel_rfl) (fun _ _ _ h => h) (Or.inl ⟨by kernel_rfl, ?hr2n2_6⟩) hHeld ?_
    case hr2n2_6 => (intro w hSw; (try dsimp only at hSw); go_simp; try (with_reducible rfl))
    try simp only [List.getElem_toArray, List.getElem_cons_zero, List.getElem_cons_succ, Act.put, List.setIfInBounds_toArray, List.set_cons_zero, List.set_cons_succ]
    refine wpAnyH_take (i := 3) (oi := _) (v := ?vr2n3_7) rfl (by kernel_rfl) (by kernel_rfl) (by kernel_rfl) (fun _ _ _ h => h) (Or.inl ⟨by kernel_rfl, ?hr2n3_7⟩) hHeld ?_
    case hr2n3_7 => (intro w hSw; (try dsimp only at hSw); go_simp; try (with_reducible rfl))
    try simp only [List.getElem_toArray, List.getElem_cons_zero, List.getElem_cons_succ, Act.put, List.setIfInBounds_toArray, List.set_cons_zero, List.set_cons_succ]
    refine wpAnyH_take (i := 4) (oi := _) (v := ?vr2n4_8) rfl (by kernel_rfl) (by kernel_rfl) (by kernel_rfl) (fun _ _ _ h => h) (Or.inl ⟨by kernel_rfl, ?hr2n4_8⟩) hHeld ?_
    case hr2n4_8 => (intro w hSw; (try dsimp only at hSw); go_simp; try (with_reducible rfl))
    try simp only [List.getElem_toArray, List.getElem_cons_zero, List.getElem_cons_succ, Act.put, List.setIfInBounds_toArray, List.set_cons_zero, List.set_cons_succ]
    refine wpAnyH_take (i := 5) (oi := _) (v := ?vr2n5_9) rfl (by kernel_rfl) (by kernel_rfl) (by kernel_rfl) (fun _ _ _ h => h) (Or.inl ⟨by kernel_rfl, ?hr2n5_9⟩) hHeld ?_
    case hr2n5_9 => (intro w hSw; (try dsimp only at hSw); go_simp; try (with_reducible rfl))
    try simp only [List.getElem_toArray, List.getElem_cons_zero, List.getElem_cons_succ, Act.put, List.setIfInBounds_toArray, List.set_cons_zero, List.set_cons_succ]
    refine wpAnyH_take (i := 6) (oi := _) (v := ?vr2n6_10) rfl (by kernel_rfl) (by kernel_rfl) (by kernel_rfl) (fun _ _ _ h => h) (Or.inl ⟨by kernel_rfl, ?hr2n6_10⟩) hHeld ?_
    case hr2n6_10 => (intro w hSw; (try dsimp only at hSw); go_simp; try (with_reducible rfl))
    try simp only [List.getElem_toArray, List.getElem_cons_zero, List.getElem_cons_succ, Act.put, List.setIfInBounds_toArray, List.set_cons_zero, List.set_cons_succ]
    refine wpAnyH_take (i := 7) (oi := _) (v := ?vr2n7_11) rfl (by kernel_rfl) (by kernel_rfl) (by kernel_rfl) (fun _ _ _ h => h) (Or.inl ⟨by kernel_rfl, ?hr2n7_11⟩) hHeld ?_
    case hr2n7_11 => (intro w hSw; (try dsimp only at hSw); go_simp; try (with_reducible rfl))
    try simp only [List.getElem_toArray, List.getElem_cons_zero, List.getElem_cons_succ, Act.put, List.setIfInBounds_toArray, List.set_cons_zero, List.set_cons_succ]
    refine wpAnyH_take (i := 8) (oi := _) (v := ?vr2n8_12) rfl (by kernel_rfl) (by kernel_rfl) (by kernel_rfl) (fun _ _ _ h => h) (Or.inl ⟨by kernel_rfl, ?hr2n8_12⟩) hHeld ?_
    case hr2n8_12 => (intro w hSw; (try dsimp only at hSw); go_simp; try (with_reducible rfl))
    try simp only [List.getElem_toArray, List.getElem_cons_zero, List.getElem_cons_succ, Act.put, List.setIfInBounds_toArray, List.set_cons_zero, List.set_cons_succ]
    refine wpAnyH_take (i := 9) (oi := _) (v := ?vr2n9_13) rfl (by kernel_rfl) (by kernel_rfl) (by kernel_rfl) (fun _ _ _ h => h) (Or.inl ⟨by kernel_rfl, ?hr2n9_13⟩) hHeld ?_
    case hr2n9_13 => (intro w hSw; (try dsimp only at hSw); go_simp; try (with_reducible rfl))
    try simp only [List.getElem_toArray, List.getElem_cons_zero, List.getElem_cons_succ, Act.put, List.setIfInBounds_toArray, List.set_cons_zero, List.set_cons_succ]
    refine wpAnyH_take (i := 10) (oi := _) (v := ?vr2n10_14) rfl (by kernel_rfl) (by kernel_rfl) (by kernel_rfl) (fun _ _ _ h => h) (Or.inl ⟨by kernel_rfl, ?hr2n10_14⟩) hHeld ?_
    case hr2n10_14 => (intro w hSw; (try dsimp only at hSw); go_simp; try (with_reducible rfl))
    try simp only [List.getElem_toArray, List.getElem_cons_zero, List.getElem_cons_succ, Act.put, List.setIfInBounds_toArray, List.set_cons_zero, List.set_cons_succ]
    refine wpAnyH_take (i := 11) (oi := _) (v := ?vr2n11_15) rfl (by kernel_rfl) (by kernel_rfl) (by kernel_rfl) (fun _ _ _ h => h) (Or.inl ⟨by kernel_rfl, ?hr2n11_15⟩) hHeld ?_
    case hr2n11_15 => (intro w hSw; (try dsimp only at hSw); go_simp; try (with_reducible rfl))
    try simp only [List.getElem_toArray, List.getElem_cons_zero, List.getElem_cons_succ, Act.put, List.setIfInBounds_toArray, List.set_cons_zero, List.set_cons_succ]
    refine wpAnyH_take (i := 12) (oi := _) (v := ?vr2n12_16) rfl (by kernel_rfl) (by kernel_rfl) (by kernel_rfl) (fun _ _ _ h => h) (Or.inl ⟨by kernel_rfl, ?hr2n12_16⟩) hHeld ?_
    case hr2n12_16 => (intro w hSw; (try dsimp only at hSw); go_simp; try (with_reducible rfl))
    try simp only [List.getElem_toArray, List.getElem_cons_zero, List.getElem_cons_succ, Act.put, List.setIfInBounds_toArray, List.set_cons_zero, List.set_cons_succ]
    refine wpAnyH_take (i := 13) (oi := _) (v := ?vr2n13_17) rfl (by kernel_rfl) (by kernel_rfl) (by kernel_rfl) (fun _ _ _ h => h) (Or.inl ⟨by kernel_rfl, ?hr2n13_17⟩) hHeld ?_
    case hr2n13_17 => (intro w hSw; (try dsimp only at hSw); go_simp; try (with_reducible rfl))
    try simp only [List.getElem_toArray, List.getElem_cons_zero, List.getElem_cons_succ, Act.put, List.setIfInBounds_toArray, List.set_cons_zero, List.set_cons_succ]
    refine wpAnyH_take (i := 14) (oi := _) (v := ?vr2n14_18) rfl (by kernel_rfl) (by kernel_rfl) (by kernel_rfl) (fun _ _ _ h => h) (Or.inl ⟨by kernel_rfl, ?hr2n14_18⟩) hHeld ?_
    case hr2n14_18 => (intro w hSw; (try dsimp only at hSw); go_simp; try (with_reducible rfl))
    try simp only [List.getElem_toArray, List.getElem_cons_zero, List.getElem_cons_succ, Act.put, List.setIfInBounds_toArray, List.set_cons_zero, List.set_cons_succ]
    refine wpAnyH_take (i := 15) (oi := _) (v := ?vr2n15_19) rfl (by kernel_rfl) (by kernel_rfl) (by kernel_rfl) (fun _ _ _ h => h) (Or.inl ⟨by kernel_rfl, ?hr2n15_19⟩) hHeld ?_
    case hr2n15_19 => (intro w hSw; (try dsimp only at hSw); go_simp; try (with_reducible rfl))
    try simp only [List.getElem_toArray, List.getElem_cons_zero, List.getElem_cons_succ, Act.put, List.setIfInBounds_toArray, List.set_cons_zero, List.set_cons_succ]
    refine wpAnyH_take (i := 16) (oi := _) (v := ?vr2n16_20) rfl (by kernel_rfl) (by kernel_rfl) (by kernel_rfl) (fun _ _ _ h => h) (Or.inl ⟨by kernel_rfl, ?hr2n16_20⟩) hHeld ?_
    case hr2n16_20 => (intro w hSw; (try dsimp only at hSw); go_simp; try (with_reducible rfl))
    try simp only [List.getElem_toArray, List.getElem_cons_zero, List.getElem_cons_succ, Act.put, List.setIfInBounds_toArray, List.set_cons_zero, List.set_cons_succ]
    refine wpAnyH_take (i := 17) (oi := _) (v := ?vr2n17_21) rfl (by kernel_rfl) (by kernel_rfl) (by kernel_rfl) (fun _ _ _ h => h) (Or.inl ⟨by kernel_rfl, ?hr2n17_21⟩) hHeld ?_
    case hr2n17_21 => (intro w hSw; (try dsimp only at hSw); go_simp; try (with_reducible rfl))
    try simp only [List.getElem_toArray, List.getElem_cons_zero, List.getElem_cons_succ, Act.put, List.setIfInBounds_toArray, List.set_cons_zero, List.set_cons_succ]
    refine wpAnyH_take (i := 18) (oi := _) (v := ?vr2n18_22) rfl (by kernel_rfl) (by kernel_rfl) (by kernel_rfl) (fun _ _ _ h => h) (Or.inl ⟨by kernel_rfl, ?hr2n18_22⟩) hHeld ?_
    case hr2n18_22 => (intro w hSw; (try dsimp only at hSw); go_simp; try (with_reducible rfl))
    try simp only [List.getElem_toArray, List.getElem_cons_zero, List.getElem_cons_succ, Act.put, List.setIfInBounds_toArray, List.set_cons_zero, List.set_cons_succ]
    refine wpAnyH_take (i := 19) (oi := _) (v := ?vr2n19_23) rfl (by kernel_rfl) (by kernel_rfl) (by kernel_rfl) (fun _ _ _ h => h) (Or.inl ⟨by kernel_rfl, ?hr2n19_23⟩) hHeld ?_
    case hr2n19_23 => (intro w hSw; (try dsimp only at hSw); go_simp; try (with_reducible rfl))
    try simp only [List.getElem_toArray, List.getElem_cons_zero, List.getElem_cons_succ, Act.put, List.setIfInBounds_toArray, List.set_cons_zero, List.set_cons_succ]
    refine wpAnyH_take (i := 20) (oi := _) (v := ?vr2n20_24) rfl (by kernel_rfl) (by kernel_rfl) (by kernel_rfl) (fun _ _ _ h => h) (Or.inl ⟨by kernel_rfl, ?hr2n20_24⟩) hHeld ?_
    case hr2n20_24 => (intro w hSw; (try dsimp only at hSw); go_simp; try (with_reducible rfl))
    try simp only [List.getElem_toArray, List.getElem_cons_zero, List.getElem_cons_succ, Act.put, List.setIfInBounds_toArray, List.set_cons_zero, List.set_cons_succ]
    refine wpAnyH_take (i := 21) (oi := _) (v := ?vr2n21_25) rfl (by kernel_rfl) (by kernel_rfl) (by kernel_rfl) (fun _ _ _ h => h) (Or.inl ⟨by kernel_rfl, ?hr2n21_25⟩) hHeld ?_
    case hr2n21_25 => (intro w hSw; (try dsimp only at hSw); go_simp; try (with_reducible rfl))
    try simp only [List.getElem_toArray, List.getElem_cons_zero, List.getElem_cons_succ, Act.put, List.setIfInBounds_toArray, List.set_cons_zero, List.set_cons_succ]
    refine wpAnyH_take (i := 22) (oi := _) (v := ?vr2n22_26) rfl (by kernel_rfl) (by kernel_rfl) (by kernel_rfl) (fun _ _ _ h => h) (Or.inl ⟨by kernel_rfl, ?hr2n22_26⟩) hHeld ?_
    case hr2n22_26 => (intro w hSw; (try dsimp only at hSw); go_simp; try (with_reducible rfl))
    try simp only [List.getElem_toArray, List.getElem_cons_zero, List.getElem_cons_succ, Act.put, List.setIfInBounds_toArray, List.set_cons_zero, List.set_cons_succ]
    refine wpAnyH_take (i := 23) (oi := _) (v := ?vr2n23_27) rfl (by kernel_rfl) (by kernel_rfl) (by kernel_rfl) (fun _ _ _ h => h) (Or.inl ⟨by kernel_rfl, ?hr2n23_27⟩) hHeld ?_
    case hr2n23_27 => (intro w hSw; (try dsimp only at hSw); go_simp; try (with_reducible rfl))
    try simp only [List.getElem_toArray, List.getElem_cons_zero, List.getElem_cons_succ, Act.put, List.setIfInBounds_toArray, List.set_cons_zero, List.set_cons_succ]
    refine wpAnyH_take (i := 24) (oi := _) (v := ?vr2n24_28) rfl (by kernel_rfl) (by kernel_rfl) (by kernel_rfl) (fun _ _ _ h => h) (Or.inl ⟨by kernel_rfl, ?hr2n24_28⟩) hHeld ?_
    case hr2n24_28 => (intro w hSw; (try dsimp only at hSw); go_simp; try (with_reducible rfl))
    try simp only [List.getElem_toArray, List.getElem_cons_zero, List.getElem_cons_succ, Act.put, List.setIfInBounds_toArray, List.set_cons_zero, List.set_cons_succ]
    refine wpAnyH_take (i := 25) (oi := _) (v := ?vr2n25_29) rfl (by kernel_rfl) (by kernel_rfl) (by kernel_rfl) (fun _ _ _ h => h) (Or.inl ⟨by kernel_rfl, ?hr2n25_29⟩) hHeld ?_
    case hr2n25_29 => (intro w hSw; (try dsimp only at hSw); go_simp; try (with_reducible rfl))
    try simp only [List.getElem_toArray, List.getElem_cons_zero, List.getElem_cons_succ, Act.put, List.setIfInBounds_toArray, List.set_cons_zero, List.set_cons_succ]
    refine wpAnyH_take (i := 26) (oi := _) (v := ?vr2n26_30) rfl (by kernel_rfl) (by kernel_rfl) (by kernel_rfl) (fun _ _ _ h => h) (Or.inl ⟨by kernel_rfl, ?hr2n26_30⟩) hHeld ?_
    case hr2n26_30 => (intro w hSw; (try dsimp only at hSw); go_simp; try (with_reducible rfl))
    try simp only [List.getElem_toArray, List.getElem_cons_zero, List.getElem_cons_succ, Act.put, List.setIfInBounds_toArray, List.set_cons_zero, List.set_cons_succ]
    refine wpAnyH_take (i := 27) (oi := _) (v := ?vr2n27_31) rfl (by kernel_rfl) (by kernel_rfl) (by kernel_rfl) (fun _ _ _ h => h) (Or.inl ⟨by kernel_rfl, ?hr2n27_31⟩) hHeld ?_
    case hr2n27_31 => (intro w hSw; (try dsimp only at hSw); go_simp; try (with_reducible rfl))
    try simp only [List.getElem_toArray, List.getElem_cons_zero, List.getElem_cons_succ, Act.put, List.setIfInBounds_toArray, List.set_cons_zero, List.set_cons_succ]
    refine wpAnyH_take (i := 28) (oi := _) (v := ?vr2n28_32) rfl (by kernel_rfl) (by kernel_rfl) (by kernel_rfl) (fun _ _ _ h => h) (Or.inl ⟨by kernel_rfl, ?hr2n28_32⟩) hHeld ?_
    case hr2n28_32 => (intro w hSw; (try dsimp only at hSw); go_simp; try (with_reducible rfl))
    try simp only [List.getElem_toArray, List.getElem_cons_zero, List.getElem_cons_succ, Act.put, List.setIfInBounds_toArray, List.set_cons_zero, List.set_cons_succ]
    refine wpAnyH_take (i := 29) (oi := _) (v := ?vr2n29_33) rfl (by kernel_rfl) (by kernel_rfl) (by kernel_rfl) (fun _ _ _ h => h) (Or.inl ⟨by kernel_rfl, ?hr2n29_33⟩) hHeld ?_
    case hr2n29_33 => (intro w hSw; (try dsimp only at hSw); go_simp; try (with_reducible rfl))
    try simp only [List.getElem_toArray, List.getElem_cons_zero, List.getElem_cons_succ, Act.put, List.setIfInBounds_toArray, List.set_cons_zero, List.set_cons_succ]
    refine wpAnyH_take (i := 30) (oi := _) (v := ?vr2n30_34) rfl (by kernel_rfl) (by kernel_rfl) (by kernel_rfl) (fun _ _ _ h => h) (Or.inl ⟨by kernel_rfl, ?hr2n30_34⟩) hHeld ?_
    case hr2n30_34 => (intro w hSw; (try dsimp only at hSw); go_simp; try (with_reducible rfl))
    try simp only [List.getElem_toArray, List.getElem_cons_zero, List.getElem_cons_succ, Act.put, List.setIfInBounds_toArray, List.set_cons_zero, List.set_cons_succ]
    refine wpAnyH_take (i := 31) (oi := _) (v := ?vr2n31_35) rfl (by kernel_rfl) (by kernel_rfl) (by kernel_rfl) (fun _ _ _ h => h) (Or.inl ⟨by kernel_rfl, ?hr2n31_35⟩) hHeld ?_
    case hr2n31_35 => (intro w hSw; (try dsimp only at hSw); go_simp; try (with_reducible rfl))
    try simp only [List.getElem_toArray, List.getElem_cons_zero, List.getElem_cons_succ, Act.put, List.setIfInBounds_toArray, List.set_cons_zero, List.set_cons_succ]
    refine wpAnyH_take (i := 32) (oi := _) (v := ?vr2n32_36) rfl (by kernel_rfl) (by kernel_rfl) (by kernel_rfl) (fun _ _ _ h => h) (Or.inl ⟨by kernel_rfl, ?hr2n32_36⟩) hHeld ?_
    case hr2n32_36 => (intro w hSw; (try dsimp only at hSw); go_simp; try (with_reducible rfl))
    try simp only [List.getElem_toArray, List.getElem_cons_zero, List.getElem_cons_succ, Act.put, List.setIfInBounds_toArray, List.set_cons_zero, List.set_cons_succ]
    refine wpAnyH_take (i := 33) (oi := _) (v := ?vr2n33_37) rfl (by kernel_rfl) (by kernel_rfl) (by kernel_rfl) (fun _ _ _ h => h) (Or.inl ⟨by kernel_rfl, ?hr2n33_37⟩) hHeld ?_
    case hr2n33_37 => (intro w hSw; (try dsimp only at hSw); go_simp; try (with_reducible rfl))
    try simp only [List.getElem_toArray, List.getElem_cons_zero, List.getElem_cons_succ, Act.put, List.setIfInBounds_toArray, List.set_cons_zero, List.set_cons_succ]
    refine wpAnyH_take (i := 34) (oi := _) (v := ?vr2n34_38) rfl (by kernel_rfl) (by kernel_rfl) (by kernel_rfl) (fun _ _ _ h => h) (Or.inl ⟨by kernel_rfl, ?hr2n34_38⟩) hHeld ?_
    case hr2n34_38 => (intro w hSw; (try dsimp only at hSw); go_simp; try (with_reducible rfl))
    try simp only [List.getElem_toArray, List.getElem_cons_zero, List.getElem_cons_succ, Act.put, List.setIfInBounds_toArray, List.set_cons_zero, List.set_cons_succ]
    refine wpAnyH_take (i := 35) (oi := _) (v := ?vr2n35_39) rfl (by kernel_rfl) (by kernel_rfl) (by kernel_rfl) (fun _ _ _ h => h) (Or.inl ⟨by kernel_rfl, ?hr2n35_39⟩) hHeld ?_
    case hr2n35_39 => (intro w hSw; (try dsimp only at hSw); go_simp; try (with_reducible rfl))
    try simp only [List.getElem_toArray, List.getElem_cons_zero, List.getElem_cons_succ, Act.put, List.setIfInBounds_toArray, List.set_cons_zero, List.set_cons_succ]
    refine wpAnyH_take (i := 36) (oi := _) (v := ?vr2n36_40) rfl (by kernel_rfl) (by kernel_rfl) (by kernel_rfl) (fun _ _ _ h => h) (Or.inl ⟨by kernel_rfl, ?hr2n36_40⟩) hHeld ?_
    case hr2n36_40 => (intro w hSw; (try dsimp only at hSw); go_simp; try (with_reducible rfl))
    try simp only [List.getElem_toArray, List.getElem_cons_zero, List.getElem_cons_succ, Act.put, List.setIfInBounds_toArray, List.set_cons_zero, List.set_cons_succ]
    refine wpAnyH_take (i := 37) (oi := _) (v := ?vr2n37_41) rfl (by kernel_rfl) (by kernel_rfl) (by kernel_rfl) (fun _ _ _ h => h) (Or.inl ⟨by kernel_rfl, ?hr2n37_41⟩) hHeld ?_
    case hr2n37_41 => (intro w hSw; (try dsimp only at hSw); go_simp; try (with_reducible rfl))
    try simp only [List.getElem_toArray, List.getElem_cons_zero, List.getElem_cons_succ, Act.put, List.setIfInBounds_toArray, List.set_cons_zero, List.set_cons_succ]
    refine wpAnyH_take (i := 38) (oi := _) (v := ?vr2n38_42) rfl (by kernel_rfl) (by kernel_rfl) (by kernel_rfl) (fun _ _ _ h => h) (Or.inl ⟨by kernel_rfl, ?hr2n38_42⟩) hHeld ?_
    case hr2n38_42 => (intro w hSw; (try dsimp only at hSw); go_simp; try (with_reducible rfl))
    try simp only [List.getElem_toArray, List.getElem_cons_zero, List.getElem_cons_succ, Act.put, List.setIfInBounds_toArray, List.set_cons_zero, List.set_cons_succ]
    refine wpAnyH_ready (rs := [39]) (by kernel_rfl) (by simp) ?_
    refine AllReadyH.cons (o := _) rfl (fun K hK => ?_) AllReadyH.nil
    go_simp
    (go_at_call 22; refine (HR3.out _ (StrsAt.drew1 HOs33.out)).mono ?_; rintro e z1 ⟨v, rfl, hrec, hb⟩; have hb := (Below.drewN (Below.refl _ w32) 1).trans hb; obtain ⟨A1, c1, rfl⟩ := rec_nil hrec; clear hrec; have HR91 := Lib.hid (HKr33.out.step hb); have HQ91 := Lib.hid (HQ.out.step hb); have HS91 := Lib.hid (HOs33.out.up hb); have HB91 := Lib.hid (Below.step HB33.out hb); clear hb)
    refine hK.out _ _ ?_ (fun hHeld1 => ?_)
    · (first | exact ⟨HQ91.out.ld, HR91.out.ldR⟩)
    clear hHeld hK K
    try simp only [List.getElem_toArray, List.getElem_cons_zero, List.getElem_cons_succ, Act.put, List.setIfInBounds_toArray, List.set_cons_zero, List.set_cons_succ]
    refine wpAnyH_take (i := 40) (oi := _) (v := ?vr2n40_43) rfl (by kernel_rfl) (by kernel_rfl) (by kernel_rfl) (fun _ _ _ h => h) (Or.inl ⟨by kernel_rfl, ?hr2n40_43⟩) hHeld1 ?_
    case hr2n40_43 => (intro w hSw; (try dsimp only at hSw); go_simp; try (with_reducible rfl))
    try simp only [List.getElem_toArray, List.getElem_cons_zero, List.getElem_cons_succ, Act.put, List.setIfInBounds_toArray, List.set_cons_zero, List.set_cons_succ]
    refine wpAnyH_take (i := 41) (oi := _) (v := ?vr2n41_44) rfl (by kernel_rfl) (by kernel_rfl) (by kernel_rfl) (fun _ _ _ h => h) (Or.inl ⟨by kernel_rfl, ?hr2n41_44⟩) hHeld1 ?_
    case hr2n41_44 => (intro w hSw; (try dsimp only at hSw); go_simp; try (with_reducible rfl))
    try simp only [List.getElem_toArray, List.getElem_cons_zero, List.getElem_cons_succ, Act.put, List.setIfInBounds_toArray, List.set_cons_zero, List.set_cons_succ]
    refine wpAnyH_take (i := 42) (oi := _) (v := ?vr2n42_45) rfl (by kernel_rfl) (by kernel_rfl) (by kernel_rfl) (fun _ _ _ h => h) (Or.inl ⟨by kernel_rfl, ?hr2n42_45⟩) hHeld1 ?_
    case hr2n42_45 => (intro w hSw; (try dsimp only at hSw); go_simp; try (with_reducible rfl))
    try simp only [List.getElem_toArray, List.getElem_cons_zero, List.getElem_cons_succ, Act.put, List.setIfInBounds_toArray, List.set_cons_zero, List.set_cons_succ]
    refine wpAnyH_take (i := 43) (oi := _) (v := ?vr2n43_46) rfl (by kernel_rfl) (by kernel_rfl) (by kernel_rfl) (fun _ _ _ h => h) (Or.inl ⟨by kernel_rfl, ?hr2n43_46⟩) hHeld1 ?_
    case hr2n43_46 => (intro w hSw; (try dsimp only at hSw); go_simp; try (with_reducible rfl))
    try simp only [List.getElem_toArray, List.getElem_cons_zero, List.getElem_cons_succ, Act.put, List.setIfInBounds_toArray, List.set_cons_zero, List.set_cons_succ]
    refine wpAnyH_take (i := 44) (oi := _) (v := ?vr2n44_47) rfl (by kernel_rfl) (by kernel_rfl) (by kernel_rfl) (fun _ _ _ h => h) (Or.inl ⟨by kernel_rfl, ?hr2n44_47⟩) hHeld1 ?_
    case hr2n44_47 => (intro w hSw; (try dsimp only at hSw); go_simp; try (with_reducible rfl))
    try simp only [List.getElem_toArray, List.getElem_cons_zero, List.getElem_cons_succ, Act.put, List.setIfInBounds_toArray, List.set_cons_zero, List.set_cons_succ]
    refine wpAnyH_ready (rs := [45]) (by kernel_rfl) (by simp) ?_
    refine AllReadyH.cons (o := _) rfl (fun K hK => ?_) AllReadyH.nil
    go_simp
    (go_at_call 22; refine (HR22.out _ HS91.out).mono ?_; rintro e z2 ⟨v, rfl, hrec, hb⟩; obtain ⟨A2, c2, rfl⟩ := rec_nil hrec; clear hrec; have HR92 := Lib.hid (HR91.out.step hb); have HQ92 := Lib.hid (HQ91.out.step hb); have HS92 := Lib.hid (HS91.out.up hb); have HB92 := Lib.hid (Below.step HB91.out hb); clear hb)
    refine hK.out _ _ ?_ (fun hHeld2 => ?_)
    · (first | exact ⟨HQ92.out.ld, HR92.out.ldR⟩)
    clear hHeld1 hK K
    try simp only [List.getElem_toArray, List.getElem_cons_zero, List.getElem_cons_succ, Act.put, List.setIfInBounds_toArray, List.set_cons_zero, List.set_cons_succ]
    refine wpAnyH_take (i := 46) (oi := _) (v := ?vr2n46_48) rfl (by kernel_rfl) (by kernel_rfl) (by kernel_rfl) (fun _ _ _ h => h) (Or.inl ⟨by kernel_rfl, ?hr2n46_48⟩) hHeld2 ?_
    case hr2n46_48 => (intro w hSw; (try dsimp only at hSw); go_simp; try (with_reducible rfl))
    try simp only [List.getElem_toArray, List.getElem_cons_zero, List.getElem_cons_succ, Act.put, List.setIfInBounds_toArray, List.set_cons_zero, List.set_cons_succ]
    refine wpAnyH_take (i := 47) (oi := _) (v := ?vr2n47_49) rfl (by kernel_rfl) (by kernel_rfl) (by kernel_rfl) (fun _ _ _ h => h) (Or.inl ⟨by kernel_rfl, ?hr2n47_49⟩) hHeld2 ?_
    case hr2n47_49 => (intro w hSw; (try dsimp only at hSw); go_simp; try (with_reducible rfl))
    try simp only [List.getElem_toArray, List.getElem_cons_zero, List.getElem_cons_succ, Act.put, List.setIfInBounds_toArray, List.set_cons_zero, List.set_cons_succ]
    refine wpAnyH_take (i := 48) (oi := _) (v := ?vr2n48_50) rfl (by kernel_rfl) (by kernel_rfl) (by kernel_rfl) (fun _ _ _ h => h) (Or.inl ⟨by kernel_rfl, ?hr2n48_50⟩) hHeld2 ?_
    case hr2n48_50 => (intro w hSw; (try dsimp only at hSw); go_simp; try (with_reducible rfl))
    try simp only [List.getElem_toArray, List.getElem_cons_zero, List.getElem_cons_succ, Act.put, List.setIfInBounds_toArray, List.set_cons_zero, List.set_cons_succ]
    refine wpAnyH_take (i := 49) (oi := _) (v := ?vr2n49_51) rfl (by kernel_rfl) (by kernel_rfl) (by kernel_rfl) (fun _ _ _ h => h) (Or.inl ⟨by kernel_rfl, ?hr2n49_51⟩) hHeld2 ?_
    case hr2n49_51 => (intro w hSw; (try dsimp only at hSw); go_simp; try (with_reducible rfl))
    try simp only [List.getElem_toArray, List.getElem_cons_zero, List.getElem_cons_succ, Act.put, List.setIfInBounds_toArray, List.set_cons_zero, List.set_cons_succ]
    refine wpAnyH_ready (rs := [50]) (by kernel_rfl) (by simp) ?_
    refine AllReadyH.cons (o := _) rfl (fun K hK => ?_) AllReadyH.nil
    go_simp
    (go_at_call 22; refine (RN.out _).mono ?_; rintro e z3 ⟨v, rfl, hrec, hb⟩; obtain ⟨A3, c3, rfl⟩ := rec_nil hrec; clear hrec; have HR93 := Lib.hid (HR92.out.step hb); have HQ93 := Lib.hid (HQ92.out.step hb); have HS93 := Lib.hid (HS92.out.up hb); have HB93 := Lib.hid (Below.step HB92.out hb); clear hb)
    refine hK.out _ _ ?_ (fun hHeld3 => ?_)
    · (first | exact ⟨HQ93.out.ld, HR93.out.ldR⟩)
    clear hHeld2 hK K
    try simp only [List.getElem_toArray, List.getElem_cons_zero, List.getElem_cons_succ, Act.put, List.setIfInBounds_toArray, List.set_cons_zero, List.set_cons_succ]
    refine wpAnyH_take (i := 51) (oi := _) (v := ?vr2n51_52) rfl (by kernel_rfl) (by kernel_rfl) (by kernel_rfl) (fun _ _ _ h => h) (Or.inl ⟨by kernel_rfl, ?hr2n51_52⟩) hHeld3 ?_
    case hr2n51_52 => (intro w hSw; (try dsimp only at hSw); go_simp; try (with_reducible rfl))
    try simp only [List.getElem_toArray, List.getElem_cons_zero, List.getElem_cons_succ, Act.put, List.setIfInBounds_toArray, List.set_cons_zero, List.set_cons_succ]
    refine wpAnyH_take (i := 52) (oi := _) (v := ?vr2n52_53) rfl (by kernel_rfl) (by kernel_rfl) (by kernel_rfl) (fun _ _ _ h => h) (Or.inl ⟨by kernel_rfl, ?hr2n52_53⟩) hHeld3 ?_
    case hr2n52_53 => (intro w hSw; (try dsimp only at hSw); go_simp; try (with_reducible rfl))
    try simp only [List.getElem_toArray, List.getElem_cons_zero, List.getElem_cons_succ, Act.put, List.setIfInBounds_toArray, List.set_cons_zero, List.set_cons_succ]
    refine wpAnyH_take (i := 53) (oi := _) (v := ?vr2n53_54) rfl (by kernel_rfl) (by kernel_rfl) (by kernel_rfl) (fun _ _ _ h => h) (Or.inl ⟨by kernel_rfl, ?hr2n53_54⟩) hHeld3 ?_
    case hr2n53_54 => (intro w hSw; (try dsimp only at hSw); go_simp; try (with_reducible rfl))
    try simp only [List.getElem_toArray, List.getElem_cons_zero, List.getElem_cons_succ, Act.put, List.setIfInBounds_toArray, List.set_cons_zero, List.set_cons_succ]
    refine wpAnyH_take (i := 54) (oi := _) (v := ?vr2n54_55) rfl (by kernel_rfl) (by kernel_rfl) (by kernel_rfl) (fun _ _ _ h => h) (Or.inl ⟨by kernel_rfl, ?hr2n54_55⟩) hHeld3 ?_
    case hr2n54_55 => (intro w hSw; (try dsimp only at hSw); go_simp; try (with_reducible rfl))
    try simp only [List.getElem_toArray, List.getElem_cons_zero, List.getElem_cons_succ, Act.put, List.setIfInBounds_toArray, List.set_cons_zero, List.set_cons_succ]
    refine wpAnyH_ready (rs := [55]) (by kernel_rfl) (by simp) ?_
    refine AllReadyH.cons (o := _) rfl (fun K hK => ?_) AllReadyH.nil
    go_simp
    (go_at_call 12; refine (WK.out _).mono ?_; rintro e z4 ⟨rfl, hb⟩; have HR94 := Lib.hid (HR93.out.step hb); have HQ94 := Lib.hid (HQ93.out.step hb); have HS94 := Lib.hid (HS93.out.up hb); have HB94 := Lib.hid (Below.step HB93.out hb); clear hb)
    refine hK.out _ _ ?_ (fun hHeld4 => ?_)
    · (first | exact ⟨HQ94.out.ld, HR94.out.ldR⟩)
    clear hHeld3 hK K
    try simp only [List.getElem_toArray, List.getElem_cons_zero, List.getElem_cons_succ, Act.put, List.setIfInBounds_toArray, List.set_cons_zero, List.set_cons_succ]
    refine wpAnyH_take (i := 56) (oi := _) (v := ?vr2n56_56) rfl (by kernel_rfl) (by kernel_rfl) (by kernel_rfl) (fun _ _ _ h => h) (Or.inl ⟨by kernel_rfl, ?hr2n56_56⟩) hHeld4 ?_
    case hr2n56_56 => (intro w hSw; (try dsimp only at hSw); go_simp; try (with_reducible rfl))
    try simp only [List.getElem_toArray, List.getElem_cons_zero, List.getElem_cons_succ, Act.put, List.setIfInBounds_toArray, List.set_cons_zero, List.set_cons_succ]
    refine wpAnyH_take (i := 57) (oi := _) (v := ?vr2n57_57) rfl (by kernel_rfl) (by kernel_rfl) (by kernel_rfl) (fun _ _ _ h => h) (Or.inl ⟨by kernel_rfl, ?hr2n57_57⟩) hHeld4 ?_
    case hr2n57_57 => (intro w hSw; (try dsimp only at hSw); go_simp; try (with_reducible rfl))
    try simp only [List.getElem_toArray, List.getElem_cons_zero, List.getElem_cons_succ, Act.put, List.setIfInBounds_toArray, List.set_cons_zero, List.set_cons_succ]
    refine wpAnyH_done (by kernel_rfl) ?_ _
    refine NoPanic.normal ?_
    go_wp2
    go_ret
    exact ⟨rfl, HB94.out⟩
end Go.Proofs.Ytccbohjcbhibkaa
