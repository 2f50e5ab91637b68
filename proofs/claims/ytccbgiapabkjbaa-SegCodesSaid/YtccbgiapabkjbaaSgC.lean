/- The walk through the law SegCodes: it answers true. -/
import Derived.Test.YtccbgiapabkjbaaSgF
import Derived.Test.YtccbgiapabkjbaaSgM
namespace Go.Proofs.Ytccbgiapabkjbaa
set_option linter.unusedVariables false
set_option linter.unusedSimpArgs false
set_option maxRecDepth 100000
open Go.RowKit
attribute [local go_sem ↓] Go.wp_at_zero Go.wp_at_succ
attribute [local go_sem ↓] ld_sg ld_ip

theorem refBytes_any (f t : List UInt8) (hL : IpL f t) (fr tp sq ak fl wi ms : Int) (d : List UInt8) (hms : -9223372036854775808 ≤ ms ∧ ms ≤ 9223372036854775807) (hsq : 0 ≤ sq ∧ sq ≤ 4294967295) (hak : 0 ≤ ak ∧ ak ≤ 4294967295) (hd : d.length ≤ 9223372036854775000) (w : World) :
    Calls Try.prog 14 #[.agg (sgC fr tp sq ak fl wi ms d), arrV f, arrV t] w fun e w' => e = .returned (.tuple #[.string ⟨(sgBytes f t fr tp sq ak fl wi ms d).1.toArray⟩, .int .i64 (sgBytes f t fr tp sq ak fl wi ms d).2]) ∧ Below w.heap.size w w' := by
  by_cases hM : sgMay fr tp fl wi ms = false
  · have e : sgBytes f t fr tp sq ak fl wi ms d = ([], 1) := by rw [sgBytes, if_pos hM]
    rw [e]
    exact refBytes_no f t hL fr tp sq ak fl wi ms d hM w
  have hM' : sgMay fr tp fl wi ms = true := by simpa using hM
  obtain ⟨⟨a1, a2⟩, ⟨b1, b2⟩, ⟨c1, c2⟩, h2, d1, d2, h3⟩ := sgMay_yes hM'
  obtain ⟨m1, m2⟩ := sgTwo_yes h2
  have e : sgBytes f t fr tp sq ak fl wi ms d = if 546 < (sgOpt ms).length + d.length then ([], 3) else (sgOut f t fr tp sq ak fl wi ms d, 0) := by rw [sgBytes, if_neg hM]
  rw [e, sgOpt_len m1]
  clear e
  obtain ⟨fr, rfl⟩ := Int.eq_ofNat_of_zero_le a1
  obtain ⟨tp, rfl⟩ := Int.eq_ofNat_of_zero_le b1
  obtain ⟨wi, rfl⟩ := Int.eq_ofNat_of_zero_le c1
  obtain ⟨fl, rfl⟩ := Int.eq_ofNat_of_zero_le d1
  obtain ⟨sq, rfl⟩ := Int.eq_ofNat_of_zero_le hsq.1
  obtain ⟨ak, rfl⟩ := Int.eq_ofNat_of_zero_le hak.1
  by_cases h0 : ms = 0
  · have hi : (if 0 < ms then 4 else 0 : Nat) = 0 := if_neg (by omega)
    rw [hi]
    exact refBytes_ok0 f t hL fr tp sq ak fl wi ms d hd (by omega) (by omega) (by omega) (by omega) (by omega) (by omega) h0 w
  · have hi : (if 0 < ms then 4 else 0 : Nat) = 4 := if_pos (by omega)
    rw [hi]
    obtain ⟨ms, rfl⟩ := Int.eq_ofNat_of_zero_le m1
    refine refBytes_ok4 f t hL fr tp sq ak fl wi ms d hd (by omega) (by omega) (by omega) (by omega) (by omega) (by omega) (by omega) (by omega) ?_ w
    rcases h3 with h | h
    · exact absurd h h0
    · have hb := sg_bit1 fl (by omega)
      unfold sgF at h
      rw [hb] at h
      by_cases hc : fl / 2 % 2 = 1
      · exact hc
      · rw [if_neg hc] at h; cases h

theorem codes_S {w0 w : World} {f t : List UInt8} {fr tp sq ak fl wi ms a0 a1 a2 a3 a4 a5 a6 : Int} {d a7 : List UInt8} {b7 b8 : Nat} (h : SgQ w0 f t (sgC fr tp sq ak fl wi ms d) w) (h7 : Blk w b7 29 (sgC a0 a1 a2 a3 a4 a5 a6 a7)) (h8 : Blk w b8 29 (sgC a0 a1 a2 a3 a4 a5 a6 a7)) :
    (SgQ w0 f t (sgC fr tp sq ak fl wi ms d) w ∧ Blk w b7 29 (sgC a0 a1 a2 a3 a4 a5 a6 a7) ∧ Blk w b8 29 (sgC a0 a1 a2 a3 a4 a5 a6 a7)) ∧ (Ld 29 (.pointer (some ⟨w0.heap.size, 0, none⟩))).run Try.prog w = .ok (.agg (sgC fr tp sq ak fl wi ms d)) w ∧
      (Ld 29 (.pointer (some ⟨b7, 0, none⟩))).run Try.prog w = .ok (.agg (sgC a0 a1 a2 a3 a4 a5 a6 a7)) w ∧ (Ld 29 (.pointer (some ⟨b8, 0, none⟩))).run Try.prog w = .ok (.agg (sgC a0 a1 a2 a3 a4 a5 a6 a7)) w :=
  ⟨⟨h, h7, h8⟩, h.s.ld_sg, h7.ld_sg, h8.ld_sg⟩

set_option maxHeartbeats 2000000 in
theorem segCodes_walk (f t : List UInt8) (hL : IpL f t) (fr tp sq ak fl wi ms : Int) (d : List UInt8) (hms : -9223372036854775808 ≤ ms ∧ ms ≤ 9223372036854775807) (hsq : 0 ≤ sq ∧ sq ≤ 4294967295) (hak : 0 ≤ ak ∧ ak ≤ 4294967295) (hd : d.length ≤ 9223372036854775807) (b : List UInt8) (hb : b.length ≤ 9223372036854775807) (w : World) :
    Calls Try.prog 6 #[.agg (sgC fr tp sq ak fl wi ms d), .string ⟨b.toArray⟩, arrV f, arrV t] w fun e w' => e = .returned (.bool true) ∧ Below w.heap.size w w' := by
  have HQ := Lib.hid (sgq_new w f t (sgC fr tp sq ak fl wi ms d))
  have HL := Lib.hid hL
  by_cases h1 : 2000 < (d.length : Int)
  · clear hms hsq hak hd
    go_enter Try.func6, Try.ntmps6
    go_upto_region 1 with fail
    generalize World.alloc _ _ = w1 at HQ ⊢
    go_wp2_with fail
    refine (sgawake_any _).mono ?_
    rintro e w2 ⟨rfl, hb1⟩
    have HQ1 := Lib.hid (HQ.out.step hb1)
    have c7 := (sg_at HQ1.out.s).d
    clear hb1
    go_wp2
    go_ret
    exact ⟨rfl, HQ1.out.bel⟩
  have h1' : (d.length : Int) ≤ 2000 := by omega
  by_cases h2 : 2000 < (b.length : Int)
  · clear hms hsq hak hd
    go_enter Try.func6, Try.ntmps6
    go_upto_region 1 with fail
    generalize World.alloc _ _ = w1 at HQ ⊢
    go_wp2_with fail
    refine (sgawake_any _).mono ?_
    rintro e w2 ⟨rfl, hb1⟩
    have HQ1 := Lib.hid (HQ.out.step hb1)
    have c7 := (sg_at HQ1.out.s).d
    clear hb1
    go_wp2
    go_ret
    exact ⟨rfl, HQ1.out.bel⟩
  have h2' : (b.length : Int) ≤ 2000 := by omega
  have hA := fun w => sgBytes_any f t hL fr tp sq ak fl wi ms d hms hsq hak (by omega) w
  have hA' := fun w => refBytes_any f t hL fr tp sq ak fl wi ms d hms hsq hak (by omega) w
  generalize (sgBytes f t fr tp sq ak fl wi ms d).1 = X at hA hA'
  generalize (sgBytes f t fr tp sq ak fl wi ms d).2 = E at hA hA'
  have hr1 := fun w => sgRead_any b f t hL w (by omega)
  have hr2 := fun w => refRead_any b f t hL w (by omega)
  obtain ⟨a0, a1, a2, a3, a4, a5, a6, a7, hV⟩ := srV_form f t b
  rw [hV] at hr1 hr2
  generalize srE f t b = G at hr1 hr2
  have hl1 := fun w => sgLen_any w fr tp sq ak fl wi ms d (by omega)
  have hl2 := fun w => refLen_any w fr tp sq ak fl wi ms d (by omega)
  generalize sgLen fl d.length = N at hl1 hl2
  have hself := fun w => run_sg_self w a0 a1 a2 a3 a4 a5 a6 a7
  have HA := Lib.hid hA
  have HA' := Lib.hid hA'
  have HR1 := Lib.hid hr1
  have HR2 := Lib.hid hr2
  have HL1 := Lib.hid hl1
  have HL2 := Lib.hid hl2
  clear hA hA' hr1 hr2 hl1 hl2 hV hms hsq hak hd hb hL h1 h2
  go_enter Try.func6, Try.ntmps6
  go_upto_region 1 with fail
  generalize World.alloc _ _ = w1 at HQ ⊢
  go_wp2_with fail
  refine (sgawake_any _).mono ?_
  rintro e w2 ⟨rfl, hb1⟩
  have Q1 := Lib.hid (HQ.out.step hb1)
  have c7 := (sg_at Q1.out.s).d
  have ds := Q1.out.s.ld_sg
  have df := Q1.out.f.ld_ip HL.out.f
  have dt := Q1.out.t.ld_ip HL.out.t
  clear hb1 HQ
  go_wp2_with fail
  refine (HA.out _).mono ?_
  rintro e w3 ⟨rfl, hb⟩
  have Q2 := Lib.hid (Q1.out.step hb)
  clear hb c7 ds df dt Q1
  have ds := Q2.out.s.ld_sg
  have df := Q2.out.f.ld_ip HL.out.f
  have dt := Q2.out.t.ld_ip HL.out.t
  go_wp2_with fail
  refine (HA'.out _).mono ?_
  rintro e w4 ⟨rfl, hb⟩
  have Q3 := Lib.hid (Q2.out.step hb)
  clear hb ds df dt Q2
  have df := Q3.out.f.ld_ip HL.out.f
  have dt := Q3.out.t.ld_ip HL.out.t
  go_wp2_with fail
  refine (HR1.out _).mono ?_
  rintro e v7 ⟨rfl, hb⟩
  have QA7 := Lib.hid (Q3.out.step hb)
  have hlt := QA7.out.lt
  have HN7 := Lib.hid (Blk.new v7 29 sg0 0 0 (Or.inl (Nat.le_refl _)))
  have HX7 := Lib.hid (HN7.out.put_sg (fr := a0) (tp := a1) (sq := a2) (ak := a3) (fl := a4) (wi := a5) (ms := a6) (d := a7))
  have Q7 := Lib.hid ((QA7.out.alloc (.cells sg0 29)).setC hlt 0 (sgC a0 a1 a2 a3 a4 a5 a6 a7).toList)
  rw [sg0_lit] at HX7 Q7
  have tok7 : True := trivial
  clear hb df dt hlt
  go_wp2_with (have _t := tok7; refine wp_st_sg rfl _ _ rfl v7.heap.size a0 a1 a2 a3 a4 a5 a6 a7 HN7 rfl rfl ?_; clear tok7 HN7; generalize World.setCells _ _ _ _ = W7 at HX7 Q7 ⊢; have df := Q7.out.f.ld_ip HL.out.f; have dt := Q7.out.t.ld_ip HL.out.t)
  refine (HR2.out _).mono ?_
  rintro e v8 ⟨rfl, hb⟩
  have QA8 := Lib.hid (Q7.out.step hb)
  have hlt := QA8.out.lt
  have HN8 := Lib.hid (Blk.new v8 29 sg0 0 0 (Or.inl (Nat.le_refl _)))
  have HX8 := Lib.hid (HN8.out.put_sg (fr := a0) (tp := a1) (sq := a2) (ak := a3) (fl := a4) (wi := a5) (ms := a6) (d := a7))
  have Q8 := Lib.hid ((QA8.out.alloc (.cells sg0 29)).setC hlt 0 (sgC a0 a1 a2 a3 a4 a5 a6 a7).toList)
  have hx := HX7.out.step hb
  have hxl := hx.lt
  have HX7_8 := Lib.hid ((hx.alloc (.cells sg0 29)).setCells_other v8.heap.size 0 (sgC a0 a1 a2 a3 a4 a5 a6 a7).toList (by omega))
  clear hx hxl
  rw [sg0_lit] at HX8 Q8 HX7_8
  have tok8 : True := trivial
  clear hb df dt hlt
  go_upto_region 9 with (have _t := tok8; refine wp_st_sg rfl _ _ rfl v8.heap.size a0 a1 a2 a3 a4 a5 a6 a7 HN8 rfl rfl ?_; clear tok8 HN8; generalize World.setCells _ _ _ _ = W8 at HX8 Q8 HX7_8 ⊢)
  have hle8 := Q8.out.bel.size
  generalize v7.heap.size = g7 at HX7_8 ⊢
  generalize v8.heap.size = g8 at HX8 ⊢
  refine wp_region_noPanic ?_
  refine wp_region_held_drew (S := (fun w' => (SgQ w f t (sgC fr tp sq ak fl wi ms d) w' ∧ Blk w' g7 29 (sgC a0 a1 a2 a3 a4 a5 a6 a7) ∧ Blk w' g8 29 (sgC a0 a1 a2 a3 a4 a5 a6 a7)) ∧ (Ld 29 (.pointer (some ⟨w.heap.size, 0, none⟩))).run Try.prog w' = .ok (.agg (sgC fr tp sq ak fl wi ms d)) w' ∧ (Ld 29 (.pointer (some ⟨g7, 0, none⟩))).run Try.prog w' = .ok (.agg (sgC a0 a1 a2 a3 a4 a5 a6 a7)) w' ∧ (Ld 29 (.pointer (some ⟨g8, 0, none⟩))).run Try.prog w' = .ok (.agg (sgC a0 a1 a2 a3 a4 a5 a6 a7)) w')) (by kernel_rfl) (by first | exact codes_S Q8.out.drew HX7_8.out.drew HX8.out.drew) (fun hHeld => ?_)
  refine wpAnyH_take (i := 0) (oi := _) (v := ?vr1n0_1) rfl (by kernel_rfl) (by kernel_rfl) (by kernel_rfl) (fun _ _ _ h => h) (Or.inl ⟨by kernel_rfl, ?hr1n0_1⟩) hHeld ?_
  case hr1n0_1 => (intro w hSw; (try dsimp only at hSw); go_simp; try (with_reducible rfl))
  try simp only [List.getElem_toArray, List.getElem_cons_zero, List.getElem_cons_succ, Act.put, List.setIfInBounds_toArray, List.set_cons_zero, List.set_cons_succ]
  refine wpAnyH_take (i := 1) (oi := _) (v := ?vr1n1_2) rfl (by kernel_rfl) (by kernel_rfl) (by kernel_rfl) (fun _ _ _ h => h) (Or.inl ⟨by kernel_rfl, ?hr1n1_2⟩) hHeld ?_
  case hr1n1_2 => (intro w hSw; (try dsimp only at hSw); go_simp; try (with_reducible rfl))
  try simp only [List.getElem_toArray, List.getElem_cons_zero, List.getElem_cons_succ, Act.put, List.setIfInBounds_toArray, List.set_cons_zero, List.set_cons_succ]
  refine wpAnyH_take (i := 2) (oi := _) (v := ?vr1n2_3) rfl (by kernel_rfl) (by kernel_rfl) (by kernel_rfl) (fun _ _ _ h => h) (Or.inl ⟨by kernel_rfl, ?hr1n2_3⟩) hHeld ?_
  case hr1n2_3 => (intro w hSw; (try dsimp only at hSw); go_simp; try (with_reducible rfl))
  try simp only [List.getElem_toArray, List.getElem_cons_zero, List.getElem_cons_succ, Act.put, List.setIfInBounds_toArray, List.set_cons_zero, List.set_cons_succ]
  refine wpAnyH_take (i := 3) (oi := _) (v := ?vr1n3_4) rfl (by kernel_rfl) (by kernel_rfl) (by kernel_rfl) (fun _ _ _ h => h) (Or.inl ⟨by kernel_rfl, ?hr1n3_4⟩) hHeld ?_
  case hr1n3_4 => (intro w hSw; (try dsimp only at hSw); go_simp; try (with_reducible rfl))
  try simp only [List.getElem_toArray, List.getElem_cons_zero, List.getElem_cons_succ, Act.put, List.setIfInBounds_toArray, List.set_cons_zero, List.set_cons_succ]
  refine wpAnyH_take (i := 4) (oi := _) (v := ?vr1n4_5) rfl (by kernel_rfl) (by kernel_rfl) (by kernel_rfl) (fun _ _ _ h => h) (Or.inl ⟨by kernel_rfl, ?hr1n4_5⟩) hHeld ?_
  case hr1n4_5 => (intro w hSw; (try dsimp only at hSw); go_simp; try (with_reducible rfl))
  try simp only [List.getElem_toArray, List.getElem_cons_zero, List.getElem_cons_succ, Act.put, List.setIfInBounds_toArray, List.set_cons_zero, List.set_cons_succ]
  refine wpAnyH_take (i := 5) (oi := _) (v := ?vr1n5_6) rfl (by kernel_rfl) (by kernel_rfl) (by kernel_rfl) (fun _ _ _ h => h) (Or.inl ⟨by kernel_rfl, ?hr1n5_6⟩) hHeld ?_
  case hr1n5_6 => (intro w hSw; (try dsimp only at hSw); go_simp; try (with_reducible rfl))
  try simp only [List.getElem_toArray, List.getElem_cons_zero, List.getElem_cons_succ, Act.put, List.setIfInBounds_toArray, List.set_cons_zero, List.set_cons_succ]
  refine wpAnyH_take (i := 6) (oi := _) (v := ?vr1n6_7) rfl (by kernel_rfl) (by kernel_rfl) (by kernel_rfl) (fun _ _ _ h => h) (Or.inl ⟨by kernel_rfl, ?hr1n6_7⟩) hHeld ?_
  case hr1n6_7 => (intro w hSw; (try dsimp only at hSw); go_simp; try (with_reducible rfl))
  try simp only [List.getElem_toArray, List.getElem_cons_zero, List.getElem_cons_succ, Act.put, List.setIfInBounds_toArray, List.set_cons_zero, List.set_cons_succ]
  refine wpAnyH_take (i := 7) (oi := _) (v := ?vr1n7_8) rfl (by kernel_rfl) (by kernel_rfl) (by kernel_rfl) (fun _ _ _ h => h) (Or.inl ⟨by kernel_rfl, ?hr1n7_8⟩) hHeld ?_
  case hr1n7_8 => (intro w hSw; (try dsimp only at hSw); go_simp; try (with_reducible rfl))
  try simp only [List.getElem_toArray, List.getElem_cons_zero, List.getElem_cons_succ, Act.put, List.setIfInBounds_toArray, List.set_cons_zero, List.set_cons_succ]
  refine wpAnyH_take (i := 8) (oi := _) (v := ?vr1n8_9) rfl (by kernel_rfl) (by kernel_rfl) (by kernel_rfl) (fun _ _ _ h => h) (Or.inl ⟨by kernel_rfl, ?hr1n8_9⟩) hHeld ?_
  case hr1n8_9 => (intro w hSw; (try dsimp only at hSw); go_simp; try (with_reducible rfl))
  try simp only [List.getElem_toArray, List.getElem_cons_zero, List.getElem_cons_succ, Act.put, List.setIfInBounds_toArray, List.set_cons_zero, List.set_cons_succ]
  refine wpAnyH_take (i := 9) (oi := _) (v := ?vr1n9_10) rfl (by kernel_rfl) (by kernel_rfl) (by kernel_rfl) (fun _ _ _ h => h) (Or.inl ⟨by kernel_rfl, ?hr1n9_10⟩) hHeld ?_
  case hr1n9_10 => (intro w hSw; (try dsimp only at hSw); go_simp; try (with_reducible rfl))
  try simp only [List.getElem_toArray, List.getElem_cons_zero, List.getElem_cons_succ, Act.put, List.setIfInBounds_toArray, List.set_cons_zero, List.set_cons_succ]
  refine wpAnyH_take (i := 10) (oi := _) (v := ?vr1n10_11) rfl (by kernel_rfl) (by kernel_rfl) (by kernel_rfl) (fun _ _ _ h => h) (Or.inl ⟨by kernel_rfl, ?hr1n10_11⟩) hHeld ?_
  case hr1n10_11 => (intro w hSw; (try dsimp only at hSw); go_simp; try (with_reducible rfl))
  try simp only [List.getElem_toArray, List.getElem_cons_zero, List.getElem_cons_succ, Act.put, List.setIfInBounds_toArray, List.set_cons_zero, List.set_cons_succ]
  refine wpAnyH_take (i := 11) (oi := _) (v := ?vr1n11_12) rfl (by kernel_rfl) (by kernel_rfl) (by kernel_rfl) (fun _ _ _ h => h) (Or.inl ⟨by kernel_rfl, ?hr1n11_12⟩) hHeld ?_
  case hr1n11_12 => (intro w hSw; (try dsimp only at hSw); go_simp; try (with_reducible rfl))
  try simp only [List.getElem_toArray, List.getElem_cons_zero, List.getElem_cons_succ, Act.put, List.setIfInBounds_toArray, List.set_cons_zero, List.set_cons_succ]
  refine wpAnyH_take (i := 12) (oi := _) (v := ?vr1n12_13) rfl (by kernel_rfl) (by kernel_rfl) (by kernel_rfl) (fun _ _ _ h => h) (Or.inl ⟨by kernel_rfl, ?hr1n12_13⟩) hHeld ?_
  case hr1n12_13 => (intro w hSw; (try dsimp only at hSw); go_simp; try (with_reducible rfl))
  try simp only [List.getElem_toArray, List.getElem_cons_zero, List.getElem_cons_succ, Act.put, List.setIfInBounds_toArray, List.set_cons_zero, List.set_cons_succ]
  refine wpAnyH_take (i := 13) (oi := _) (v := ?vr1n13_14) rfl (by kernel_rfl) (by kernel_rfl) (by kernel_rfl) (fun _ _ _ h => h) (Or.inl ⟨by kernel_rfl, ?hr1n13_14⟩) hHeld ?_
  case hr1n13_14 => (intro w hSw; (try dsimp only at hSw); go_simp; try (with_reducible rfl))
  try simp only [List.getElem_toArray, List.getElem_cons_zero, List.getElem_cons_succ, Act.put, List.setIfInBounds_toArray, List.set_cons_zero, List.set_cons_succ]
  refine wpAnyH_take (i := 14) (oi := _) (v := ?vr1n14_15) rfl (by kernel_rfl) (by kernel_rfl) (by kernel_rfl) (fun _ _ _ h => h) (Or.inl ⟨by kernel_rfl, ?hr1n14_15⟩) hHeld ?_
  case hr1n14_15 => (intro w hSw; (try dsimp only at hSw); go_simp; try (with_reducible rfl))
  try simp only [List.getElem_toArray, List.getElem_cons_zero, List.getElem_cons_succ, Act.put, List.setIfInBounds_toArray, List.set_cons_zero, List.set_cons_succ]
  refine wpAnyH_take (i := 15) (oi := _) (v := ?vr1n15_16) rfl (by kernel_rfl) (by kernel_rfl) (by kernel_rfl) (fun _ _ _ h => h) (Or.inl ⟨by kernel_rfl, ?hr1n15_16⟩) hHeld ?_
  case hr1n15_16 => (intro w hSw; (try dsimp only at hSw); go_simp; try (with_reducible rfl))
  try simp only [List.getElem_toArray, List.getElem_cons_zero, List.getElem_cons_succ, Act.put, List.setIfInBounds_toArray, List.set_cons_zero, List.set_cons_succ]
  refine wpAnyH_take (i := 16) (oi := _) (v := ?vr1n16_17) rfl (by kernel_rfl) (by kernel_rfl) (by kernel_rfl) (fun _ _ _ h => h) (Or.inl ⟨by kernel_rfl, ?hr1n16_17⟩) hHeld ?_
  case hr1n16_17 => (intro w hSw; (try dsimp only at hSw); go_simp; try (with_reducible rfl))
  try simp only [List.getElem_toArray, List.getElem_cons_zero, List.getElem_cons_succ, Act.put, List.setIfInBounds_toArray, List.set_cons_zero, List.set_cons_succ]
  refine wpAnyH_take (i := 17) (oi := _) (v := ?vr1n17_18) rfl (by kernel_rfl) (by kernel_rfl) (by kernel_rfl) (fun _ _ _ h => h) (Or.inl ⟨by kernel_rfl, ?hr1n17_18⟩) hHeld ?_
  case hr1n17_18 => (intro w hSw; (try dsimp only at hSw); go_simp; try (with_reducible rfl))
  try simp only [List.getElem_toArray, List.getElem_cons_zero, List.getElem_cons_succ, Act.put, List.setIfInBounds_toArray, List.set_cons_zero, List.set_cons_succ]
  refine wpAnyH_take (i := 18) (oi := _) (v := ?vr1n18_19) rfl (by kernel_rfl) (by kernel_rfl) (by kernel_rfl) (fun _ _ _ h => h) (Or.inl ⟨by kernel_rfl, ?hr1n18_19⟩) hHeld ?_
  case hr1n18_19 => (intro w hSw; (try dsimp only at hSw); go_simp; try (with_reducible rfl))
  try simp only [List.getElem_toArray, List.getElem_cons_zero, List.getElem_cons_succ, Act.put, List.setIfInBounds_toArray, List.set_cons_zero, List.set_cons_succ]
  refine wpAnyH_take (i := 19) (oi := _) (v := ?vr1n19_20) rfl (by kernel_rfl) (by kernel_rfl) (by kernel_rfl) (fun _ _ _ h => h) (Or.inl ⟨by kernel_rfl, ?hr1n19_20⟩) hHeld ?_
  case hr1n19_20 => (intro w hSw; (try dsimp only at hSw); go_simp; try (with_reducible rfl))
  try simp only [List.getElem_toArray, List.getElem_cons_zero, List.getElem_cons_succ, Act.put, List.setIfInBounds_toArray, List.set_cons_zero, List.set_cons_succ]
  refine wpAnyH_take (i := 21) (oi := _) (v := ?vr1n21_21) rfl (by kernel_rfl) (by kernel_rfl) (by kernel_rfl) (fun _ _ _ h => h) (Or.inl ⟨by kernel_rfl, ?hr1n21_21⟩) hHeld ?_
  case hr1n21_21 => (intro w hSw; (try dsimp only at hSw); go_simp; try (with_reducible rfl))
  try simp only [List.getElem_toArray, List.getElem_cons_zero, List.getElem_cons_succ, Act.put, List.setIfInBounds_toArray, List.set_cons_zero, List.set_cons_succ]
  refine wpAnyH_ready (rs := [20]) (by kernel_rfl) (by simp) ?_
  refine AllReadyH.cons (o := _) rfl (fun K hK => ?_) AllReadyH.nil
  go_simp
  (go_at_call 15; refine (HL1.out _).mono ?_; rintro e u1 ⟨rfl, hb0⟩; have HBU1 := Lib.hid hb0; clear hb0; go_wp2_with fail)
  refine hK.out _ _ ?_ (fun hHeld1 => ?_)
  · (first | exact codes_S ((And.left (And.left hHeld)).step HBU1.out) ((And.left (And.right (And.left hHeld))).step HBU1.out) ((And.right (And.right (And.left hHeld))).step HBU1.out))
  clear hHeld hK K
  try simp only [List.getElem_toArray, List.getElem_cons_zero, List.getElem_cons_succ, Act.put, List.setIfInBounds_toArray, List.set_cons_zero, List.set_cons_succ]
  refine wpAnyH_ready (rs := [22]) (by kernel_rfl) (by simp) ?_
  refine AllReadyH.cons (o := _) rfl (fun K hK => ?_) AllReadyH.nil
  go_simp
  (go_at_call 16; refine (HL2.out _).mono ?_; rintro e u2 ⟨rfl, hb0⟩; have HBU2 := Lib.hid hb0; clear hb0; go_wp2_with fail)
  refine hK.out _ _ ?_ (fun hHeld2 => ?_)
  · (first | exact codes_S ((And.left (And.left hHeld1)).step HBU2.out) ((And.left (And.right (And.left hHeld1))).step HBU2.out) ((And.right (And.right (And.left hHeld1))).step HBU2.out))
  clear hHeld1 hK K
  try simp only [List.getElem_toArray, List.getElem_cons_zero, List.getElem_cons_succ, Act.put, List.setIfInBounds_toArray, List.set_cons_zero, List.set_cons_succ]
  refine wpAnyH_take (i := 23) (oi := _) (v := ?vr1n23_22) rfl (by kernel_rfl) (by kernel_rfl) (by kernel_rfl) (fun _ _ _ h => h) (Or.inl ⟨by kernel_rfl, ?hr1n23_22⟩) hHeld2 ?_
  case hr1n23_22 => (intro w hSw; (try dsimp only at hSw); go_simp; try (with_reducible rfl))
  try simp only [List.getElem_toArray, List.getElem_cons_zero, List.getElem_cons_succ, Act.put, List.setIfInBounds_toArray, List.set_cons_zero, List.set_cons_succ]
  refine wpAnyH_take (i := 24) (oi := _) (v := ?vr1n24_23) rfl (by kernel_rfl) (by kernel_rfl) (by kernel_rfl) (fun _ _ _ h => h) (Or.inl ⟨by kernel_rfl, ?hr1n24_23⟩) hHeld2 ?_
  case hr1n24_23 => (intro w hSw; (try dsimp only at hSw); go_simp; try (with_reducible rfl))
  try simp only [List.getElem_toArray, List.getElem_cons_zero, List.getElem_cons_succ, Act.put, List.setIfInBounds_toArray, List.set_cons_zero, List.set_cons_succ]
  refine wpAnyH_take (i := 25) (oi := _) (v := ?vr1n25_24) rfl (by kernel_rfl) (by kernel_rfl) (by kernel_rfl) (fun _ _ _ h => h) (Or.inl ⟨by kernel_rfl, ?hr1n25_24⟩) hHeld2 ?_
  case hr1n25_24 => (intro w hSw; (try dsimp only at hSw); go_simp; try (with_reducible rfl))
  try simp only [List.getElem_toArray, List.getElem_cons_zero, List.getElem_cons_succ, Act.put, List.setIfInBounds_toArray, List.set_cons_zero, List.set_cons_succ]
  refine wpAnyH_done (by kernel_rfl) ?_ _
  refine NoPanic.normal ?_
  go_wp2
  go_ret
  exact ⟨rfl, (And.left (And.left hHeld2)).bel⟩
end Go.Proofs.Ytccbgiapabkjbaa
