/- The walk through the law Ipv4Heads: it answers true. -/
import Derived.Test.YticchchcobjpdaaPkL
namespace Go.Proofs.Yticchchcobjpdaa
set_option linter.unusedVariables false
set_option linter.unusedSimpArgs false
set_option maxRecDepth 100000
open Go.RowKit
attribute [local go_sem ↓] Go.wp_at_zero Go.wp_at_succ
attribute [local go_sem ↓] ld_pk ld_ip

set_option maxHeartbeats 2000000 in
theorem ipv4Heads_walk (s : List UInt8) (hs : s.length ≤ 9223372036854775807) (w : World) :
    Calls Try.prog 6 #[.string ⟨s.toArray⟩] w fun e w' => e = .returned (.bool true) ∧ Below w.heap.size w w' := by
  by_cases h1 : 3000 < (s.length : Int)
  · go_enter Try.func6, Try.ntmps6
    go_wp2_with fail
    refine (pkawake_any _).mono ?_
    rintro e w1 ⟨rfl, hb1⟩
    have HB1 := Lib.hid hb1
    clear hb1
    go_wp2
    go_ret
    exact ⟨rfl, HB1.out⟩
  have h1' : (s.length : Int) ≤ 3000 := by omega
  by_cases h2 : (s.length : Int) < 20
  · go_enter Try.func6, Try.ntmps6
    go_wp2_with fail
    refine (pkawake_any _).mono ?_
    rintro e w1 ⟨rfl, hb1⟩
    have HB1 := Lib.hid hb1
    clear hb1
    go_wp2
    go_ret
    exact ⟨rfl, HB1.out⟩
  have h2' : 20 ≤ (s.length : Int) := by omega
  have g0 := bat_get ⟨s.toArray⟩ 0 (by show 0 < s.length; clear h1; omega)
  obtain ⟨m, hm⟩ : ∃ m, m = b0 s % 16 := ⟨_, rfl⟩
  have hand : bits .and .u8 (((bat ⟨s.toArray⟩ 0).toNat : Nat) : Int) 15 = (m : Int) := by rw [and_15, hm]; rfl
  have hm15 : (m : Int) ≤ 15 := by omega
  have HRd := Lib.hid (fun w => ipv4Reads_walk s hs w)
  clear hm h1
  by_cases h3 : 4 * (m : Int) < 20
  · go_enter Try.func6, Try.ntmps6
    go_wp2_with fail
    refine (pkawake_any _).mono ?_
    rintro e w1 ⟨rfl, hb1⟩
    have HB1 := Lib.hid hb1
    clear hb1
    go_wp2_with fail
    refine (HRd.out _).mono ?_
    rintro e w2 ⟨rfl, hb2⟩
    have HB2 := Lib.hid (Below.step HB1.out hb2)
    clear hb2
    go_wp2
    go_ret
    exact ⟨rfl, HB2.out⟩
  have h3' : 20 ≤ 4 * (m : Int) := by omega
  by_cases h4 : (s.length : Int) < 4 * (m : Int)
  · go_enter Try.func6, Try.ntmps6
    go_wp2_with fail
    refine (pkawake_any _).mono ?_
    rintro e w1 ⟨rfl, hb1⟩
    have HB1 := Lib.hid hb1
    clear hb1
    go_wp2_with fail
    refine (HRd.out _).mono ?_
    rintro e w2 ⟨rfl, hb2⟩
    have HB2 := Lib.hid (Below.step HB1.out hb2)
    clear hb2
    go_wp2
    go_ret
    exact ⟨rfl, HB2.out⟩
  have h4' : 4 * (m : Int) ≤ (s.length : Int) := by omega
  obtain ⟨A, hA⟩ : ∃ A, A = s.take 10 := ⟨_, rfl⟩
  obtain ⟨C, hC⟩ : ∃ C, C = (s.drop 12).take (4 * m - 12) := ⟨_, rfl⟩
  obtain ⟨D, hD⟩ : ∃ D, D = s.drop 12 := ⟨_, rfl⟩
  have heA : (⟨s.toArray⟩ : ByteArray).extract 0 10 = ⟨A.toArray⟩ := by rw [ext_list', hA]; rfl
  have heC : (⟨s.toArray⟩ : ByteArray).extract 12 (4 * m) = ⟨C.toArray⟩ := by rw [ext_list', hC]
  have heD : (⟨s.toArray⟩ : ByteArray).extract 12 s.length = ⟨D.toArray⟩ := by rw [ext_list', hD, List.take_of_length_le (by rw [List.length_drop]; exact Nat.le_refl _)]
  have hlA : A.length = 10 := by rw [hA, List.length_take]; omega
  have hlC : C.length ≤ 60 := by rw [hC, List.length_take]; omega
  have hlD : D.length ≤ 3000 := by rw [hD, List.length_drop]; omega
  have hnb1 : ¬ 9223372036854775807 < 12 + C.length := by omega
  have hnb2 : ¬ 9223372036854775807 < 12 + D.length := by omega
  have hmz : (4 * (m : Int)).toNat = 4 * m := by omega
  have l10 : (10 : Int) ≤ (s.length : Int) := by omega
  have l12 : (12 : Int) ≤ (s.length : Int) := by omega
  have l12m : (12 : Int) ≤ 4 * (m : Int) := by omega
  have HSUM := Lib.hid (fun w => refSum_any w (A ++ [0, 0] ++ C) (by simp only [List.length_append, List.length_cons, List.length_nil]; omega))
  have hin := sumE_in ⟨(A ++ [0, 0] ++ C).toArray⟩
  obtain ⟨n, hn⟩ : ∃ n : Nat, sumE ⟨(A ++ [0, 0] ++ C).toArray⟩ = (n : Int) := ⟨_, (Int.toNat_of_nonneg hin.1).symm⟩
  rw [hn] at HSUM hin
  simp only [← str_append] at HSUM
  have hn1 : (n : Int) ≤ 65535 := hin.2
  have hn0 : (0 : Int) ≤ (n : Int) := hin.1
  clear hn hin hA hC hD
  have HRh := Lib.hid (fun w => ipv4Reads_walk (A ++ [UInt8.ofNat (n / 256), UInt8.ofNat n] ++ D) (by simp only [List.length_append, List.length_cons, List.length_nil]; omega) w)
  obtain ⟨x, hx⟩ : ∃ x : Nat, x = n / 256 := ⟨_, rfl⟩
  obtain ⟨y, hy⟩ : ∃ y : Nat, y = n % 256 := ⟨_, rfl⟩
  have hwx : IntKind.i64.wrap ((n : Int) / 256) = (x : Int) := by rw [IntWalk.i64_in _ (by omega)]; omega
  have hux : IntKind.u8.wrap (x : Int) = (x : Int) := u8_in _ (by omega)
  have hty : (n : Int).tmod 256 = (y : Int) := by rw [Int.tmod_eq_emod_of_nonneg hn0]; omega
  have huy : IntKind.u8.wrap (y : Int) = (y : Int) := u8_in _ (by omega)
  have hxx : (x : Int) = ((UInt8.ofNat (n / 256)).toNat : Int) := by rw [ofNat_toNat _ (by omega)]; omega
  have hyy : (y : Int) = ((UInt8.ofNat n).toNat : Int) := by rw [UInt8.toNat_ofNat']; omega
  generalize UInt8.ofNat (n / 256) = hi at HRh hxx
  generalize UInt8.ofNat n = lo at HRh hyy
  simp only [← str_append] at HRh
  have htwo := fun w => run_two Try.prog w 47 9 5 hi lo (x : Int) (y : Int) hxx hyy Try.underlying47 Try.underlying5 Try.underlying9
  have HTW := Lib.hid htwo
  clear htwo hx hy hxx hyy
  go_enter Try.func6, Try.ntmps6
  go_wp2_with fail
  refine (pkawake_any _).mono ?_
  rintro e w1 ⟨rfl, hb1⟩
  have HB1 := Lib.hid hb1
  clear hb1
  go_upto_region 8 with fail
  refine wp_region_noPanic ?_
  refine wp_region_held_drew (S := fun w' => Below w.heap.size w w') (by kernel_rfl) (by first | with_reducible exact HB1.out.drew) (fun hHeld => ?_)
  refine wpAnyH_take (i := 0) (oi := _) (v := ?vr1n0) rfl (by kernel_rfl) (by kernel_rfl) (by kernel_rfl) (fun _ _ _ h => h) (Or.inl ⟨by kernel_rfl, ?hr1n0⟩) hHeld ?_
  case hr1n0 => (intro w hSw; (try dsimp only at hSw); go_simp; try (with_reducible rfl))
  try simp only [List.getElem_toArray, List.getElem_cons_zero, List.getElem_cons_succ, Act.put, List.setIfInBounds_toArray, List.set_cons_zero, List.set_cons_succ]
  refine wpAnyH_take (i := 1) (oi := _) (v := ?vr1n1) rfl (by kernel_rfl) (by kernel_rfl) (by kernel_rfl) (fun _ _ _ h => h) (Or.inl ⟨by kernel_rfl, ?hr1n1⟩) hHeld ?_
  case hr1n1 => (intro w hSw; (try dsimp only at hSw); go_simp; try (with_reducible rfl))
  try simp only [List.getElem_toArray, List.getElem_cons_zero, List.getElem_cons_succ, Act.put, List.setIfInBounds_toArray, List.set_cons_zero, List.set_cons_succ]
  refine wpAnyH_take (i := 2) (oi := _) (v := ?vr1n2) rfl (by kernel_rfl) (by kernel_rfl) (by kernel_rfl) (fun _ _ _ h => h) (Or.inl ⟨by kernel_rfl, ?hr1n2⟩) hHeld ?_
  case hr1n2 => (intro w hSw; (try dsimp only at hSw); go_simp; try (with_reducible rfl))
  try simp only [List.getElem_toArray, List.getElem_cons_zero, List.getElem_cons_succ, Act.put, List.setIfInBounds_toArray, List.set_cons_zero, List.set_cons_succ]
  refine wpAnyH_take (i := 3) (oi := _) (v := ?vr1n3) rfl (by kernel_rfl) (by kernel_rfl) (by kernel_rfl) (fun _ _ _ h => h) (Or.inl ⟨by kernel_rfl, ?hr1n3⟩) hHeld ?_
  case hr1n3 => (intro w hSw; (try dsimp only at hSw); go_simp; try (with_reducible rfl))
  try simp only [List.getElem_toArray, List.getElem_cons_zero, List.getElem_cons_succ, Act.put, List.setIfInBounds_toArray, List.set_cons_zero, List.set_cons_succ]
  refine wpAnyH_take (i := 4) (oi := _) (v := ?vr1n4) rfl (by kernel_rfl) (by kernel_rfl) (by kernel_rfl) (fun _ _ _ h => h) (Or.inl ⟨by kernel_rfl, ?hr1n4⟩) hHeld ?_
  case hr1n4 => (intro w hSw; (try dsimp only at hSw); go_simp; try (with_reducible rfl))
  try simp only [List.getElem_toArray, List.getElem_cons_zero, List.getElem_cons_succ, Act.put, List.setIfInBounds_toArray, List.set_cons_zero, List.set_cons_succ]
  refine wpAnyH_take (i := 5) (oi := _) (v := ?vr1n5) rfl (by kernel_rfl) (by kernel_rfl) (by kernel_rfl) (fun _ _ _ h => h) (Or.inl ⟨by kernel_rfl, ?hr1n5⟩) hHeld ?_
  case hr1n5 => (intro w hSw; (try dsimp only at hSw); go_simp; try (with_reducible rfl))
  try simp only [List.getElem_toArray, List.getElem_cons_zero, List.getElem_cons_succ, Act.put, List.setIfInBounds_toArray, List.set_cons_zero, List.set_cons_succ]
  refine wpAnyH_take (i := 6) (oi := _) (v := ?vr1n6) rfl (by kernel_rfl) (by kernel_rfl) (by kernel_rfl) (fun _ _ _ h => h) (Or.inl ⟨by kernel_rfl, ?hr1n6⟩) hHeld ?_
  case hr1n6 => (intro w hSw; (try dsimp only at hSw); go_simp; try (with_reducible rfl))
  try simp only [List.getElem_toArray, List.getElem_cons_zero, List.getElem_cons_succ, Act.put, List.setIfInBounds_toArray, List.set_cons_zero, List.set_cons_succ]
  refine wpAnyH_ready (rs := [7]) (by kernel_rfl) (by simp) ?_
  refine AllReadyH.cons (o := _) rfl (fun K hK => ?_) AllReadyH.nil
  go_simp
  (go_at_call 16; refine (HSUM.out _).mono ?_; rintro e w2 ⟨rfl, hb0⟩; have HB2 := Lib.hid (Below.step HB1.out.drew hb0); clear hb0; go_wp2_with fail)
  refine hK.out _ _ ?_ (fun hHeld1 => ?_)
  · (first | with_reducible exact HB2.out)
  clear hHeld hK K
  try simp only [List.getElem_toArray, List.getElem_cons_zero, List.getElem_cons_succ, Act.put, List.setIfInBounds_toArray, List.set_cons_zero, List.set_cons_succ]
  refine wpAnyH_take (i := 8) (oi := _) (v := ?vr1n8) rfl (by kernel_rfl) (by kernel_rfl) (by kernel_rfl) (fun _ _ _ h => h) (Or.inl ⟨by kernel_rfl, ?hr1n8⟩) hHeld1 ?_
  case hr1n8 => (intro w hSw; (try dsimp only at hSw); go_simp; try (with_reducible rfl))
  try simp only [List.getElem_toArray, List.getElem_cons_zero, List.getElem_cons_succ, Act.put, List.setIfInBounds_toArray, List.set_cons_zero, List.set_cons_succ]
  refine wpAnyH_done (by kernel_rfl) ?_ _
  refine NoPanic.normal ?_
  have htw0 : (convert 47 9 (.slice (some ⟨w2.heap.size, 0, none⟩) 2 2)).run Try.prog (w2.alloc (.cells #[.int .u8 (x : Int), .int .u8 (y : Int)] 5)).drew = .ok (.string ⟨#[hi, lo]⟩) (w2.alloc (.cells #[.int .u8 (x : Int), .int .u8 (y : Int)] 5)).drew := HTW.out w2.drew
  go_upto_region 9 with fail
  refine wp_region_noPanic ?_
  refine wp_region_held_drew (S := fun w' => Below w.heap.size w w') (by kernel_rfl) (by first | with_reducible exact HB2.out.drew) (fun hHeld => ?_)
  refine wpAnyH_take (i := 0) (oi := _) (v := ?vr2n0) rfl (by kernel_rfl) (by kernel_rfl) (by kernel_rfl) (fun _ _ _ h => h) (Or.inl ⟨by kernel_rfl, ?hr2n0⟩) hHeld ?_
  case hr2n0 => (intro w hSw; (try dsimp only at hSw); go_simp; try (with_reducible rfl))
  try simp only [List.getElem_toArray, List.getElem_cons_zero, List.getElem_cons_succ, Act.put, List.setIfInBounds_toArray, List.set_cons_zero, List.set_cons_succ]
  refine wpAnyH_take (i := 1) (oi := _) (v := ?vr2n1) rfl (by kernel_rfl) (by kernel_rfl) (by kernel_rfl) (fun _ _ _ h => h) (Or.inl ⟨by kernel_rfl, ?hr2n1⟩) hHeld ?_
  case hr2n1 => (intro w hSw; (try dsimp only at hSw); go_simp; try (with_reducible rfl))
  try simp only [List.getElem_toArray, List.getElem_cons_zero, List.getElem_cons_succ, Act.put, List.setIfInBounds_toArray, List.set_cons_zero, List.set_cons_succ]
  refine wpAnyH_take (i := 2) (oi := _) (v := ?vr2n2) rfl (by kernel_rfl) (by kernel_rfl) (by kernel_rfl) (fun _ _ _ h => h) (Or.inl ⟨by kernel_rfl, ?hr2n2⟩) hHeld ?_
  case hr2n2 => (intro w hSw; (try dsimp only at hSw); go_simp; try (with_reducible rfl))
  try simp only [List.getElem_toArray, List.getElem_cons_zero, List.getElem_cons_succ, Act.put, List.setIfInBounds_toArray, List.set_cons_zero, List.set_cons_succ]
  refine wpAnyH_take (i := 3) (oi := _) (v := ?vr2n3) rfl (by kernel_rfl) (by kernel_rfl) (by kernel_rfl) (fun _ _ _ h => h) (Or.inl ⟨by kernel_rfl, ?hr2n3⟩) hHeld ?_
  case hr2n3 => (intro w hSw; (try dsimp only at hSw); go_simp; try (with_reducible rfl))
  try simp only [List.getElem_toArray, List.getElem_cons_zero, List.getElem_cons_succ, Act.put, List.setIfInBounds_toArray, List.set_cons_zero, List.set_cons_succ]
  refine wpAnyH_take (i := 4) (oi := _) (v := ?vr2n4) rfl (by kernel_rfl) (by kernel_rfl) (by kernel_rfl) (fun _ _ _ h => h) (Or.inl ⟨by kernel_rfl, ?hr2n4⟩) hHeld ?_
  case hr2n4 => (intro w hSw; (try dsimp only at hSw); go_simp; try (with_reducible rfl))
  try simp only [List.getElem_toArray, List.getElem_cons_zero, List.getElem_cons_succ, Act.put, List.setIfInBounds_toArray, List.set_cons_zero, List.set_cons_succ]
  refine wpAnyH_take (i := 5) (oi := _) (v := ?vr2n5) rfl (by kernel_rfl) (by kernel_rfl) (by kernel_rfl) (fun _ _ _ h => h) (Or.inl ⟨by kernel_rfl, ?hr2n5⟩) hHeld ?_
  case hr2n5 => (intro w hSw; (try dsimp only at hSw); go_simp; try (with_reducible rfl))
  try simp only [List.getElem_toArray, List.getElem_cons_zero, List.getElem_cons_succ, Act.put, List.setIfInBounds_toArray, List.set_cons_zero, List.set_cons_succ]
  refine wpAnyH_take (i := 6) (oi := _) (v := ?vr2n6) rfl (by kernel_rfl) (by kernel_rfl) (by kernel_rfl) (fun _ _ _ h => h) (Or.inl ⟨by kernel_rfl, ?hr2n6⟩) hHeld ?_
  case hr2n6 => (intro w hSw; (try dsimp only at hSw); go_simp; try (with_reducible rfl))
  try simp only [List.getElem_toArray, List.getElem_cons_zero, List.getElem_cons_succ, Act.put, List.setIfInBounds_toArray, List.set_cons_zero, List.set_cons_succ]
  refine wpAnyH_take (i := 7) (oi := _) (v := ?vr2n7) rfl (by kernel_rfl) (by kernel_rfl) (by kernel_rfl) (fun _ _ _ h => h) (Or.inl ⟨by kernel_rfl, ?hr2n7⟩) hHeld ?_
  case hr2n7 => (intro w hSw; (try dsimp only at hSw); go_simp; try (with_reducible rfl))
  try simp only [List.getElem_toArray, List.getElem_cons_zero, List.getElem_cons_succ, Act.put, List.setIfInBounds_toArray, List.set_cons_zero, List.set_cons_succ]
  refine wpAnyH_take (i := 11) (oi := _) (v := ?vr2n11) rfl (by kernel_rfl) (by kernel_rfl) (by kernel_rfl) (fun _ _ _ h => h) (Or.inl ⟨by kernel_rfl, ?hr2n11⟩) hHeld ?_
  case hr2n11 => (intro w hSw; (try dsimp only at hSw); go_simp; try (with_reducible rfl))
  try simp only [List.getElem_toArray, List.getElem_cons_zero, List.getElem_cons_succ, Act.put, List.setIfInBounds_toArray, List.set_cons_zero, List.set_cons_succ]
  refine wpAnyH_take (i := 12) (oi := _) (v := ?vr2n12) rfl (by kernel_rfl) (by kernel_rfl) (by kernel_rfl) (fun _ _ _ h => h) (Or.inl ⟨by kernel_rfl, ?hr2n12⟩) hHeld ?_
  case hr2n12 => (intro w hSw; (try dsimp only at hSw); go_simp; try (with_reducible rfl))
  try simp only [List.getElem_toArray, List.getElem_cons_zero, List.getElem_cons_succ, Act.put, List.setIfInBounds_toArray, List.set_cons_zero, List.set_cons_succ]
  refine wpAnyH_ready (rs := [8]) (by kernel_rfl) (by simp) ?_
  refine AllReadyH.cons (o := _) rfl (fun K hK => ?_) AllReadyH.nil
  go_simp
  refine hK.out _ _ ?_ (fun hHeld1 => ?_)
  · (first | with_reducible exact (HB2.out.alloc HB2.out.size _).drew)
  clear hHeld hK K
  try simp only [List.getElem_toArray, List.getElem_cons_zero, List.getElem_cons_succ, Act.put, List.setIfInBounds_toArray, List.set_cons_zero, List.set_cons_succ]
  refine wpAnyH_ready (rs := [9]) (by kernel_rfl) (by simp) ?_
  refine AllReadyH.cons (o := _) rfl (fun K hK => ?_) AllReadyH.nil
  go_simp
  refine hK.out _ _ ?_ (fun hHeld2 => ?_)
  · (first | with_reducible exact (HB2.out.alloc HB2.out.size _).drew)
  clear hHeld1 hK K
  try simp only [List.getElem_toArray, List.getElem_cons_zero, List.getElem_cons_succ, Act.put, List.setIfInBounds_toArray, List.set_cons_zero, List.set_cons_succ]
  refine wpAnyH_take (i := 10) (oi := _) (v := ?vr2n10) rfl (by kernel_rfl) (by kernel_rfl) (by kernel_rfl) (fun _ _ _ h => h) (Or.inl ⟨by kernel_rfl, ?hr2n10⟩) hHeld2 ?_
  case hr2n10 => (intro w hSw; (try dsimp only at hSw); go_simp; try (with_reducible rfl))
  try simp only [List.getElem_toArray, List.getElem_cons_zero, List.getElem_cons_succ, Act.put, List.setIfInBounds_toArray, List.set_cons_zero, List.set_cons_succ]
  refine wpAnyH_take (i := 13) (oi := _) (v := ?vr2n13) rfl (by kernel_rfl) (by kernel_rfl) (by kernel_rfl) (fun _ _ _ h => h) (Or.inl ⟨by kernel_rfl, ?hr2n13⟩) hHeld2 ?_
  case hr2n13 => (intro w hSw; (try dsimp only at hSw); go_simp; try (with_reducible rfl))
  try simp only [List.getElem_toArray, List.getElem_cons_zero, List.getElem_cons_succ, Act.put, List.setIfInBounds_toArray, List.set_cons_zero, List.set_cons_succ]
  refine wpAnyH_ready (rs := [14]) (by kernel_rfl) (by simp) ?_
  refine AllReadyH.cons (o := _) rfl (fun K hK => ?_) AllReadyH.nil
  go_simp
  (go_at_call 5; refine (HRh.out _).mono ?_; rintro e w3 ⟨rfl, hb0⟩; have HB3 := Lib.hid (Below.step (HB2.out.alloc HB2.out.size (.cells #[.int .u8 (x : Int), .int .u8 (y : Int)] 5)).drew hb0); clear hb0; go_wp2_with fail)
  refine hK.out _ _ ?_ (fun hHeld3 => ?_)
  · (first | with_reducible exact HB3.out)
  clear hHeld2 hK K
  try simp only [List.getElem_toArray, List.getElem_cons_zero, List.getElem_cons_succ, Act.put, List.setIfInBounds_toArray, List.set_cons_zero, List.set_cons_succ]
  refine wpAnyH_take (i := 15) (oi := _) (v := ?vr2n15) rfl (by kernel_rfl) (by kernel_rfl) (by kernel_rfl) (fun _ _ _ h => h) (Or.inl ⟨by kernel_rfl, ?hr2n15⟩) hHeld3 ?_
  case hr2n15 => (intro w hSw; (try dsimp only at hSw); go_simp; try (with_reducible rfl))
  try simp only [List.getElem_toArray, List.getElem_cons_zero, List.getElem_cons_succ, Act.put, List.setIfInBounds_toArray, List.set_cons_zero, List.set_cons_succ]
  refine wpAnyH_done (by kernel_rfl) ?_ _
  refine NoPanic.normal ?_
  go_wp2
  go_ret
  exact ⟨rfl, HB3.out⟩
end Go.Proofs.Yticchchcobjpdaa
