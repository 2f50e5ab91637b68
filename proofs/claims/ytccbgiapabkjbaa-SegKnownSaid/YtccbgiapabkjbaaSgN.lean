/- The walk through the law SegKnown: it answers true. -/
import Derived.Test.YtccbgiapabkjbaaSgA
import Derived.Test.YtccbgiapabkjbaaSgM
import Derived.Test.YtccbgiapabkjbaaRep
namespace Go.Proofs.Ytccbgiapabkjbaa
set_option linter.unusedVariables false
set_option linter.unusedSimpArgs false
set_option maxRecDepth 100000
open Go.RowKit
attribute [local go_sem ↓] Go.wp_at_zero Go.wp_at_succ
attribute [local go_sem ↓] ld_sg ld_ip

def rx (c : Nat) : List UInt8 := Lib.repeatL [120] c
theorem rep_x (c : Nat) (hc : c ≤ 1000) (w : World) : Calls Try.prog 17 #[.string ⟨#[120]⟩, .int .i64 (c : Int)] w fun e w' => e = .returned (.string ⟨(rx c).toArray⟩) ∧ Below w.heap.size w w' :=
  repeat_any ⟨#[120]⟩ c w (by omega) (by show 1 * c ≤ _; omega)

theorem bytes_e (fr tp sq ak fl wi ms : Int) (d : List UInt8) (E : Int) (hE : (sgBytes ex1 ex2 fr tp sq ak fl wi ms d).2 = E) (hms : -9223372036854775808 ≤ ms ∧ ms ≤ 9223372036854775807) (hsq : 0 ≤ sq ∧ sq ≤ 4294967295) (hak : 0 ≤ ak ∧ ak ≤ 4294967295) (hd : d.length ≤ 9223372036854775000) (w : World) :
    Calls Try.prog 13 #[.agg #[.int .i64 fr, .int .i64 tp, .int .u32 sq, .int .u32 ak, .int .i64 fl, .int .i64 wi, .int .i64 ms, .string ⟨d.toArray⟩], .agg ex1C, .agg ex2C] w fun e w' => (∃ X : List UInt8, e = .returned (.tuple #[.string ⟨X.toArray⟩, .int .i64 E])) ∧ Below w.heap.size w w' :=
  (sgBytes_any ex1 ex2 ex_L fr tp sq ak fl wi ms d hms hsq hak hd w).mono fun e w' ⟨h, hb⟩ => ⟨⟨(sgBytes ex1 ex2 fr tp sq ak fl wi ms d).1, by rw [h, hE]⟩, hb⟩

def synX : List UInt8 := (sgBytes ex1 ex2 9 10 77 0 2 65535 536 []).1
abbrev synC : Array Value := #[.int .i64 9, .int .i64 10, .int .u32 77, .int .u32 0, .int .i64 2, .int .i64 65535, .int .i64 536, .string ⟨#[]⟩]
theorem syn_len : synX.length = 24 := by decide +kernel
theorem syn_bytes (w : World) : Calls Try.prog 13 #[.agg synC, .agg ex1C, .agg ex2C] w fun e w' => e = .returned (.tuple #[.string ⟨synX.toArray⟩, .int .i64 0]) ∧ Below w.heap.size w w' := by
  have h := sgBytes_any ex1 ex2 ex_L 9 10 77 0 2 65535 536 [] (by decide) (by decide) (by decide) (by decide) w
  have e : (sgBytes ex1 ex2 9 10 77 0 2 65535 536 []).2 = 0 := by decide +kernel
  rw [e] at h
  exact h
theorem syn_rd : srE ex1 ex2 synX = 0 := by decide +kernel
theorem syn_read (w : World) : Calls Try.prog 11 #[.string ⟨synX.toArray⟩, .agg ex1C, .agg ex2C] w fun e w' => e = .returned (.tuple #[.agg synC, .int .i64 0]) ∧ Below w.heap.size w w' := by
  have h := sgRead_any synX ex1 ex2 ex_L w (by rw [syn_len]; decide)
  have e : srV ex1 ex2 synX = sgC 9 10 77 0 2 65535 536 [] := by
    rw [srV, if_pos syn_rd]
    have e1 : num synX 0 2 = 9 := by decide +kernel
    have e2 : num synX 2 2 = 10 := by decide +kernel
    have e3 : num synX 4 4 = 77 := by decide +kernel
    have e4 : num synX 8 4 = 0 := by decide +kernel
    have e5 : sgFl synX = 2 := by decide +kernel
    have e6 : num synX 14 2 = 65535 := by decide +kernel
    have e7 : sgMs synX = 536 := by decide +kernel
    have e8 : synX.drop (shz synX) = [] := by decide +kernel
    rw [e1, e2, e3, e4, e5, e6, e7, e8]
    rfl
  rw [syn_rd, e] at h
  exact h
theorem syn_load {w : World} {b : Nat} {e : TypeId} (h : Blk w b e synC) : (Ld 29 (.pointer (some ⟨b, 0, none⟩))).run Try.prog w = .ok (.agg synC) w := by
  have h2 : Blk w b e (sgC 9 10 77 0 2 65535 536 []) := h
  exact h2.ld_sg
theorem short_read (w : World) : Calls Try.prog 11 #[.string ⟨(rx 19).toArray⟩, .agg ex1C, .agg ex2C] w fun e w' => e = .returned (.tuple #[.agg (sgC 0 0 0 0 0 0 0 []), .int .i64 7]) ∧ Below w.heap.size w w' := by
  have h := sgRead_any (rx 19) ex1 ex2 ex_L w (by decide +kernel)
  have e1 : srE ex1 ex2 (rx 19) = 7 := by decide +kernel
  have e2 : srV ex1 ex2 (rx 19) = sgC 0 0 0 0 0 0 0 [] := by rw [srV, if_neg (by rw [e1]; decide)]; rfl
  rw [e1, e2] at h
  exact h
theorem len_four (w : World) : Calls Try.prog 15 #[.agg #[.int .i64 0, .int .i64 0, .int .u32 0, .int .u32 0, .int .i64 3, .int .i64 0, .int .i64 0, .string ⟨#[104, 105]⟩]] w fun e w' => e = .returned (.int .i64 4) ∧ Below w.heap.size w w' := by
  have h := sgLen_any w 0 0 0 0 3 0 0 [104, 105] (by decide)
  have e : sgLen 3 2 = 4 := by decide +kernel
  have e' : sgLen 3 ([104, 105] : List UInt8).length = 4 := e
  rw [e'] at h
  exact h

set_option maxHeartbeats 4000000 in
theorem segKnown_walk (w : World) : Calls Try.prog 8 #[] w fun e w' => e = .returned (.bool true) ∧ Below w.heap.size w w' := by
  have r19 := Lib.hid (fun w => rep_x 19 (by decide) w)
  have r547 := Lib.hid (fun w => rep_x 547 (by decide) w)
  have r546 := Lib.hid (fun w => rep_x 546 (by decide) w)
  have r543 := Lib.hid (fun w => rep_x 543 (by decide) w)
  have b1 := Lib.hid (fun w => bytes_e 0 0 0 0 0 0 536 [] 1 (by decide +kernel) (by decide) (by decide) (by decide) (by decide) w)
  have b2 := Lib.hid (fun w => bytes_e 0 0 0 0 32 0 0 [] 1 (by decide +kernel) (by decide) (by decide) (by decide) (by decide) w)
  have b3 := Lib.hid (fun w => bytes_e 0 0 0 0 0 0 0 (rx 547) 3 (by decide +kernel) (by decide) (by decide) (by decide) (by decide +kernel) w)
  have b4 := Lib.hid (fun w => bytes_e 0 0 0 0 0 0 0 (rx 546) 0 (by decide +kernel) (by decide) (by decide) (by decide) (by decide +kernel) w)
  have b5 := Lib.hid (fun w => bytes_e 0 0 0 0 2 0 536 (rx 543) 3 (by decide +kernel) (by decide) (by decide) (by decide) (by decide +kernel) w)
  have hself : ∀ w, (binOp .eql 29 (.agg synC) (.agg synC)).run Try.prog w = .ok (.bool true) w := fun w => run_sg_self w 9 10 77 0 2 65535 536 []
  have hlen := syn_len
  go_enter Try.func8, Try.ntmps8
  go_wp2_with fail
  refine (r19.out _).mono ?_
  rintro e u1 ⟨rfl, hb⟩
  have HB1 := Lib.hid (hb)
  clear hb
  go_wp2_with fail
  refine (ex_one _).mono ?_
  rintro e u2 ⟨rfl, hb⟩
  have HB2 := Lib.hid (Below.step HB1.out hb)
  clear hb HB1
  go_wp2_with fail
  refine (ex_two _).mono ?_
  rintro e u3 ⟨rfl, hb⟩
  have HB3 := Lib.hid (Below.step HB2.out hb)
  clear hb HB2
  go_wp2_with fail
  refine (short_read _).mono ?_
  rintro e u4 ⟨rfl, hb⟩
  have HB4 := Lib.hid (Below.step HB3.out hb)
  clear hb HB3
  have HN := Lib.hid (Blk.new u4 29 sg0 0 0 (Or.inl (Nat.le_refl _)))
  have HBs := Lib.hid (Below.setCells (HB4.out.alloc HB4.out.size (.cells sg0 29)) HB4.out.size 0 (sgC 0 0 0 0 0 0 0 []).toList)
  rw [sg0_lit] at HBs
  have tokA : True := trivial
  clear HB4
  go_wp2_with (have _t := tokA; refine wp_st_sg rfl _ _ rfl u4.heap.size 0 0 0 0 0 0 0 [] HN rfl rfl ?_; clear tokA HN; generalize World.setCells _ _ _ _ = W1 at HBs ⊢)
  have HB4 := HBs
  clear HBs
  refine (ex_one _).mono ?_
  rintro e u5 ⟨rfl, hb⟩
  have HB5 := Lib.hid (Below.step HB4.out hb)
  clear hb HB4
  go_wp2_with fail
  refine (ex_two _).mono ?_
  rintro e u6 ⟨rfl, hb⟩
  have HB6 := Lib.hid (Below.step HB5.out hb)
  clear hb HB5
  go_wp2_with fail
  refine (b1.out _).mono ?_
  rintro e u7 ⟨⟨Xb1, rfl⟩, hb⟩
  have HB7 := Lib.hid (Below.step HB6.out hb)
  clear hb HB6
  go_wp2_with fail
  refine (ex_one _).mono ?_
  rintro e u8 ⟨rfl, hb⟩
  have HB8 := Lib.hid (Below.step HB7.out hb)
  clear hb HB7
  go_wp2_with fail
  refine (ex_two _).mono ?_
  rintro e u9 ⟨rfl, hb⟩
  have HB9 := Lib.hid (Below.step HB8.out hb)
  clear hb HB8
  go_wp2_with fail
  refine (b2.out _).mono ?_
  rintro e u10 ⟨⟨Xb2, rfl⟩, hb⟩
  have HB10 := Lib.hid (Below.step HB9.out hb)
  clear hb HB9
  go_wp2_with fail
  refine (r547.out _).mono ?_
  rintro e u11 ⟨rfl, hb⟩
  have HB11 := Lib.hid (Below.step HB10.out hb)
  clear hb HB10
  go_wp2_with fail
  refine (ex_one _).mono ?_
  rintro e u12 ⟨rfl, hb⟩
  have HB12 := Lib.hid (Below.step HB11.out hb)
  clear hb HB11
  go_wp2_with fail
  refine (ex_two _).mono ?_
  rintro e u13 ⟨rfl, hb⟩
  have HB13 := Lib.hid (Below.step HB12.out hb)
  clear hb HB12
  go_wp2_with fail
  refine (b3.out _).mono ?_
  rintro e u14 ⟨⟨Xb3, rfl⟩, hb⟩
  have HB14 := Lib.hid (Below.step HB13.out hb)
  clear hb HB13
  go_wp2_with fail
  refine (r546.out _).mono ?_
  rintro e u15 ⟨rfl, hb⟩
  have HB15 := Lib.hid (Below.step HB14.out hb)
  clear hb HB14
  go_wp2_with fail
  refine (ex_one _).mono ?_
  rintro e u16 ⟨rfl, hb⟩
  have HB16 := Lib.hid (Below.step HB15.out hb)
  clear hb HB15
  go_wp2_with fail
  refine (ex_two _).mono ?_
  rintro e u17 ⟨rfl, hb⟩
  have HB17 := Lib.hid (Below.step HB16.out hb)
  clear hb HB16
  go_wp2_with fail
  refine (b4.out _).mono ?_
  rintro e u18 ⟨⟨Xb4, rfl⟩, hb⟩
  have HB18 := Lib.hid (Below.step HB17.out hb)
  clear hb HB17
  go_wp2_with fail
  refine (r543.out _).mono ?_
  rintro e u19 ⟨rfl, hb⟩
  have HB19 := Lib.hid (Below.step HB18.out hb)
  clear hb HB18
  go_wp2_with fail
  refine (ex_one _).mono ?_
  rintro e u20 ⟨rfl, hb⟩
  have HB20 := Lib.hid (Below.step HB19.out hb)
  clear hb HB19
  go_wp2_with fail
  refine (ex_two _).mono ?_
  rintro e u21 ⟨rfl, hb⟩
  have HB21 := Lib.hid (Below.step HB20.out hb)
  clear hb HB20
  go_wp2_with fail
  refine (b5.out _).mono ?_
  rintro e u22 ⟨⟨Xb5, rfl⟩, hb⟩
  have HB22 := Lib.hid (Below.step HB21.out hb)
  clear hb HB21
  have HN := Lib.hid (Blk.new u22 29 sg0 0 0 (Or.inl (Nat.le_refl _)))
  have HY := Lib.hid (HN.out.setAll (cs := synC) rfl)
  have HBs := Lib.hid (Below.setCells (HB22.out.alloc HB22.out.size (.cells sg0 29)) HB22.out.size 0 synC.toList)
  have hg := HB22.out.size
  rw [sg0_lit] at HBs HY
  have tokB : True := trivial
  clear HB22
  go_upto_region 8 with (have _t := tokB; refine wpList_store_blk rfl 29 _ _ rfl u22.heap.size synC rfl rfl sg0 29 HN.out rfl size_sg rfl ?_; clear tokB HN; generalize World.setCells _ _ _ _ = W2 at HBs HY ⊢)
  generalize u22.heap.size = g at HY hg ⊢
  refine wp_region_noPanic ?_
  refine wp_region_held_drew (S := (fun w' => (Blk w' g 29 synC ∧ Below w.heap.size w w') ∧ (Ld 29 (.pointer (some ⟨g, 0, none⟩))).run Try.prog w' = .ok (.agg synC) w')) (by kernel_rfl) (by first | exact ⟨⟨HY.out.drew, HBs.out.drew⟩, syn_load HY.out.drew⟩) (fun hHeld => ?_)
  refine wpAnyH_take (i := 0) (oi := _) (v := ?vr1n0_1) rfl (by kernel_rfl) (by kernel_rfl) (by kernel_rfl) (fun _ _ _ h => h) (Or.inl ⟨by kernel_rfl, ?hr1n0_1⟩) hHeld ?_
  case hr1n0_1 => (intro w hSw; (try dsimp only at hSw); go_simp; try (with_reducible rfl))
  try simp only [List.getElem_toArray, List.getElem_cons_zero, List.getElem_cons_succ, Act.put, List.setIfInBounds_toArray, List.set_cons_zero, List.set_cons_succ]
  refine wpAnyH_ready (rs := [1]) (by kernel_rfl) (by simp) ?_
  refine AllReadyH.cons (o := _) rfl (fun K hK => ?_) AllReadyH.nil
  go_simp
  (go_at_call 18; refine (ex_one _).mono ?_; rintro e z1 ⟨rfl, hb0⟩; have HZ1 := Lib.hid hb0; clear hb0; go_wp2_with fail)
  refine hK.out _ _ ?_ (fun hHeld1 => ?_)
  · (first | exact ⟨⟨(And.left (And.left hHeld)).step HZ1.out, Below.step (And.right (And.left hHeld)) HZ1.out⟩, syn_load ((And.left (And.left hHeld)).step HZ1.out)⟩)
  clear hHeld hK K
  try simp only [List.getElem_toArray, List.getElem_cons_zero, List.getElem_cons_succ, Act.put, List.setIfInBounds_toArray, List.set_cons_zero, List.set_cons_succ]
  refine wpAnyH_ready (rs := [2]) (by kernel_rfl) (by simp) ?_
  refine AllReadyH.cons (o := _) rfl (fun K hK => ?_) AllReadyH.nil
  go_simp
  (go_at_call 19; refine (ex_two _).mono ?_; rintro e z2 ⟨rfl, hb0⟩; have HZ2 := Lib.hid hb0; clear hb0; go_wp2_with fail)
  refine hK.out _ _ ?_ (fun hHeld2 => ?_)
  · (first | exact ⟨⟨(And.left (And.left hHeld1)).step HZ2.out, Below.step (And.right (And.left hHeld1)) HZ2.out⟩, syn_load ((And.left (And.left hHeld1)).step HZ2.out)⟩)
  clear hHeld1 hK K
  try simp only [List.getElem_toArray, List.getElem_cons_zero, List.getElem_cons_succ, Act.put, List.setIfInBounds_toArray, List.set_cons_zero, List.set_cons_succ]
  refine wpAnyH_ready (rs := [3]) (by kernel_rfl) (by simp) ?_
  refine AllReadyH.cons (o := _) rfl (fun K hK => ?_) AllReadyH.nil
  go_simp
  (go_at_call 13; refine (syn_bytes _).mono ?_; rintro e z3 ⟨rfl, hb0⟩; have HZ3 := Lib.hid hb0; clear hb0; go_wp2_with fail)
  refine hK.out _ _ ?_ (fun hHeld3 => ?_)
  · (first | exact ⟨⟨(And.left (And.left hHeld2)).step HZ3.out, Below.step (And.right (And.left hHeld2)) HZ3.out⟩, syn_load ((And.left (And.left hHeld2)).step HZ3.out)⟩)
  clear hHeld2 hK K
  try simp only [List.getElem_toArray, List.getElem_cons_zero, List.getElem_cons_succ, Act.put, List.setIfInBounds_toArray, List.set_cons_zero, List.set_cons_succ]
  refine wpAnyH_take (i := 4) (oi := _) (v := ?vr1n4_2) rfl (by kernel_rfl) (by kernel_rfl) (by kernel_rfl) (fun _ _ _ h => h) (Or.inl ⟨by kernel_rfl, ?hr1n4_2⟩) hHeld3 ?_
  case hr1n4_2 => (intro w hSw; (try dsimp only at hSw); go_simp; try (with_reducible rfl))
  try simp only [List.getElem_toArray, List.getElem_cons_zero, List.getElem_cons_succ, Act.put, List.setIfInBounds_toArray, List.set_cons_zero, List.set_cons_succ]
  refine wpAnyH_take (i := 5) (oi := _) (v := ?vr1n5_3) rfl (by kernel_rfl) (by kernel_rfl) (by kernel_rfl) (fun _ _ _ h => h) (Or.inl ⟨by kernel_rfl, ?hr1n5_3⟩) hHeld3 ?_
  case hr1n5_3 => (intro w hSw; (try dsimp only at hSw); go_simp; try (with_reducible rfl))
  try simp only [List.getElem_toArray, List.getElem_cons_zero, List.getElem_cons_succ, Act.put, List.setIfInBounds_toArray, List.set_cons_zero, List.set_cons_succ]
  refine wpAnyH_take (i := 6) (oi := _) (v := ?vr1n6_4) rfl (by kernel_rfl) (by kernel_rfl) (by kernel_rfl) (fun _ _ _ h => h) (Or.inl ⟨by kernel_rfl, ?hr1n6_4⟩) hHeld3 ?_
  case hr1n6_4 => (intro w hSw; (try dsimp only at hSw); go_simp; try (with_reducible rfl))
  try simp only [List.getElem_toArray, List.getElem_cons_zero, List.getElem_cons_succ, Act.put, List.setIfInBounds_toArray, List.set_cons_zero, List.set_cons_succ]
  refine wpAnyH_take (i := 7) (oi := _) (v := ?vr1n7_5) rfl (by kernel_rfl) (by kernel_rfl) (by kernel_rfl) (fun _ _ _ h => h) (Or.inl ⟨by kernel_rfl, ?hr1n7_5⟩) hHeld3 ?_
  case hr1n7_5 => (intro w hSw; (try dsimp only at hSw); go_simp; try (with_reducible rfl))
  try simp only [List.getElem_toArray, List.getElem_cons_zero, List.getElem_cons_succ, Act.put, List.setIfInBounds_toArray, List.set_cons_zero, List.set_cons_succ]
  refine wpAnyH_take (i := 8) (oi := _) (v := ?vr1n8_6) rfl (by kernel_rfl) (by kernel_rfl) (by kernel_rfl) (fun _ _ _ h => h) (Or.inl ⟨by kernel_rfl, ?hr1n8_6⟩) hHeld3 ?_
  case hr1n8_6 => (intro w hSw; (try dsimp only at hSw); go_simp; try (with_reducible rfl))
  try simp only [List.getElem_toArray, List.getElem_cons_zero, List.getElem_cons_succ, Act.put, List.setIfInBounds_toArray, List.set_cons_zero, List.set_cons_succ]
  refine wpAnyH_done (by kernel_rfl) ?_ _
  refine NoPanic.normal ?_
  have HY2 := Lib.hid (And.left (And.left hHeld3))
  have HBt := Lib.hid (And.right (And.left hHeld3))
  clear hHeld3 HY HBs
  go_wp2_with fail
  refine (ex_one _).mono ?_
  rintro e y1 ⟨rfl, hb⟩
  have HYa1 := Lib.hid (HY2.out.step hb)
  have HBa1 := Lib.hid (Below.step HBt.out hb)
  clear hb HY2 HBt
  go_wp2_with fail
  refine (ex_two _).mono ?_
  rintro e y2 ⟨rfl, hb⟩
  have HYa2 := Lib.hid (HYa1.out.step hb)
  have HBa2 := Lib.hid (Below.step HBa1.out hb)
  clear hb HYa1 HBa1
  go_wp2_with fail
  refine (syn_read _).mono ?_
  rintro e y3 ⟨rfl, hb⟩
  have HYa3 := Lib.hid (HYa2.out.step hb)
  have HBa3 := Lib.hid (Below.step HBa2.out hb)
  clear hb HYa2 HBa2
  have hgl := HYa3.out.lt
  have HN := Lib.hid (Blk.new y3 29 sg0 0 0 (Or.inl (Nat.le_refl _)))
  have HZ := Lib.hid (HN.out.setAll (cs := synC) rfl)
  have HYb := Lib.hid ((HYa3.out.alloc (.cells sg0 29)).setCells_other y3.heap.size 0 synC.toList (by omega))
  have HBb := Lib.hid (Below.setCells (HBa3.out.alloc HBa3.out.size (.cells sg0 29)) HBa3.out.size 0 synC.toList)
  rw [sg0_lit] at HZ HYb HBb
  have tokC : True := trivial
  clear HYa3 HBa3
  go_wp2_with (have _t := tokC; refine wpList_store_blk rfl 29 _ _ rfl y3.heap.size synC rfl rfl sg0 29 HN.out rfl size_sg rfl ?_; clear tokC HN; generalize World.setCells _ _ _ _ = W3 at HZ HYb HBb ⊢)
  refine (sgawake_any _).mono ?_
  rintro e y4 ⟨rfl, hb⟩
  have HZ4 := Lib.hid (HZ.out.step hb)
  have HY4 := Lib.hid (HYb.out.step hb)
  have HB4' := Lib.hid (Below.step HBb.out hb)
  clear hb HZ HYb HBb
  go_wp2_with fail
  refine (len_four _).mono ?_
  rintro e y5 ⟨rfl, hb⟩
  have dx := syn_load (HZ4.out.step hb)
  have dy := syn_load (HY4.out.step hb)
  have HB5' := Lib.hid (Below.step HB4'.out hb)
  clear hb HZ4 HY4 HB4'
  go_wp2
  go_ret
  exact ⟨rfl, HB5'.out⟩
end Go.Proofs.Ytccbgiapabkjbaa
