/- The walk through the law IcmpKnown: it answers true. -/
import Derived.Test.YtpnhopgfoakgnaaIcmpA
import Derived.Test.YtpnhopgfoakgnaaIcmpU
import Derived.Test.YtpnhopgfoakgnaaRep
import Derived.Deep.RegionHeld3
import Derived.Deep.CutRange
import Derived.BigRegion
namespace Go.Proofs.Ytpnhopgfoakgnaa
set_option linter.unusedVariables false
set_option linter.unusedSimpArgs false
set_option maxRecDepth 100000
open Go.RowKit
attribute [local go_sem ↓] Go.wp_at_zero Go.wp_at_succ
attribute [local go_sem ↓] run_ic_eql run_ic_neq

def rx (c : Nat) : List UInt8 := Lib.repeatL [120] c
theorem rep_x (c : Nat) (hc : c ≤ 1000) (w : World) : Calls Try.prog 40 #[.string ⟨#[120]⟩, .int .i64 (c : Int)] w fun e w' => e = .returned (.string ⟨(rx c).toArray⟩) ∧ Below w.heap.size w w' :=
  repeat_any ⟨#[120]⟩ c w (by omega) (by show 1 * c ≤ _; omega)
abbrev icZ0 : Array Value := #[.int .i64 0, .int .i64 0, .int .u32 0, .string ⟨#[]⟩]
def pkL : List UInt8 := 69 :: rx 39
def pk28 : List UInt8 := pkL.take 28
abbrev s9 : ByteArray := ⟨#[8, 0, 143, 149, 0, 0, 0, 1, 104]⟩
abbrev s7 : ByteArray := ⟨#[8, 0, 143, 149, 0, 0, 0]⟩
theorem k_read (s : ByteArray) (E : Int) (C : Array Value) (h : rdIc s = (.agg C, E)) (hc : s.size ≤ 1000) (w : World) :
    Calls Try.prog 18 #[.string s] w fun e w' => e = .returned (.tuple #[.agg C, .int .i64 E]) ∧ Below w.heap.size w w' := by
  have h2 := icr_any s w (by omega)
  rw [h] at h2
  exact h2
theorem k_bytes (k : Int) (l : List UInt8) (E : Int) (h : (icBytes k 0 0 l).2 = E) (hk : -9223372036854775808 ≤ k ∧ k ≤ 9223372036854775807) (hl : l.length ≤ 9223372036854775807) (w : World) :
    Calls Try.prog 16 #[.agg #[.int .i64 k, .int .i64 0, .int .u32 0, .string ⟨l.toArray⟩]] w fun e w' => (∃ X : List UInt8, e = .returned (.tuple #[.string ⟨X.toArray⟩, .int .i64 E])) ∧ Below w.heap.size w w' :=
  (ic_any k 0 0 l w hk (by omega) (by omega) hl).mono fun e w' ⟨h1, hb⟩ => ⟨⟨(icBytes k 0 0 l).1, by rw [h1, h]⟩, hb⟩
theorem k_un (c : Int) (s d : ByteArray) (k : Int) (hk : c % 256 = k) (hd : s.extract 0 (icN s) = d) (hc : -9223372036854775808 ≤ c ∧ c ≤ 9223372036854775807) (hs : s.size ≤ 1000) (w : World) :
    Calls Try.prog 26 #[.int .i64 c, .string s] w fun e w' => e = .returned (.agg #[.int .i64 3, .int .i64 k, .int .u32 0, .string d]) ∧ Below w.heap.size w w' := by
  have h := icu_any c s w hc (by omega)
  rw [hk, hd] at h
  exact h
theorem ic_S {w : World} {b8 b9 : Nat} {e e' : TypeId} (h8 : Blk w b8 e #[.int .i64 3, .int .i64 2, .int .u32 0, .string ⟨pk28.toArray⟩]) (h9 : Blk w b9 e' #[.int .i64 3, .int .i64 255, .int .u32 0, .string ⟨pk28.toArray⟩]) :
    (Blk w b8 e #[.int .i64 3, .int .i64 2, .int .u32 0, .string ⟨pk28.toArray⟩] ∧ Blk w b9 e' #[.int .i64 3, .int .i64 255, .int .u32 0, .string ⟨pk28.toArray⟩]) ∧
      w.cell? ⟨b8, 0, none⟩ = some (.int .i64 3) ∧ w.cell? ⟨b8, 1, none⟩ = some (.int .i64 2) ∧ w.cell? ⟨b8, 2, none⟩ = some (.int .u32 0) ∧ w.cell? ⟨b8, 3, none⟩ = some (.string ⟨pk28.toArray⟩) ∧ w.cell? ⟨b9, 1, none⟩ = some (.int .i64 255) :=
  ⟨⟨h8, h9⟩, by rw [h8.cell]; rfl, by rw [h8.cell]; rfl, by rw [h8.cell]; rfl, by rw [h8.cell]; rfl, by rw [h9.cell]; rfl⟩

set_option maxHeartbeats 4000000 in
theorem icmpKnown_walk (w : World) : Calls Try.prog 14 #[] w fun e w' => e = .returned (.bool true) ∧ Below w.heap.size w w' := by
  have r39 := Lib.hid (fun w => rep_x 39 (by decide) w)
  have r559 := Lib.hid (fun w => rep_x 559 (by decide) w)
  have r558 := Lib.hid (fun w => rep_x 558 (by decide) w)
  have a1 := Lib.hid (fun w => k_read s9 9 icZ0 (by kernel_rfl) (by decide) w)
  have a2 := Lib.hid (fun w => k_read s7 7 icZ0 (by kernel_rfl) (by decide) w)
  have q1 := Lib.hid (fun w => k_un 2 ⟨pkL.toArray⟩ ⟨pk28.toArray⟩ 2 (by decide) (by decide +kernel) (by decide) (by decide +kernel) w)
  have q2 := Lib.hid (fun w => k_un (-1) ⟨pkL.toArray⟩ ⟨pk28.toArray⟩ 255 (by decide) (by decide +kernel) (by decide) (by decide +kernel) w)
  have q3 := Lib.hid (fun w => k_un 0 ⟨#[]⟩ ⟨#[]⟩ 0 (by decide) (by decide +kernel) (by decide) (by decide) w)
  have b1 := Lib.hid (fun w => k_bytes 256 [] 1 (by decide +kernel) (by decide) (by decide) w)
  have b2 := Lib.hid (fun w => k_bytes 0 (rx 559) 3 (by decide +kernel) (by decide) (by decide +kernel) w)
  have b3 := Lib.hid (fun w => k_bytes 0 (rx 558) 0 (by decide +kernel) (by decide) (by decide +kernel) w)
  have e9 : (⟨#[8, 0, 143, 149, 0, 0, 0, 1, 104, 105]⟩ : ByteArray).extract 0 9 = s9 := by decide +kernel
  have e7 : (⟨#[8, 0, 143, 149, 0, 0, 0, 1, 104, 105]⟩ : ByteArray).extract 0 7 = s7 := by decide +kernel
  have hl39 : (rx 39).length = 39 := by decide +kernel
  have hpk : ({ data := #[69] } : ByteArray) ++ { data := (rx 39).toArray } = { data := pkL.toArray } := str_append [69] (rx 39)
  have hlp : pkL.length = 40 := by decide +kernel
  have e28 : (⟨pkL.toArray⟩ : ByteArray).extract 0 28 = ⟨pk28.toArray⟩ := by decide +kernel
  have s1 : icEq 3 2 0 ⟨pk28.toArray⟩ 3 2 0 ⟨pk28.toArray⟩ = true := icEq_self _ _ _ _
  have s2 : icEq 3 0 0 ⟨#[]⟩ 3 0 0 ⟨#[]⟩ = true := icEq_self _ _ _ _
  go_enter Try.func14, Try.ntmps14
  go_wp2_with fail
  refine (icex_any _).mono ?_
  rintro e u1 ⟨rfl, hb⟩
  have HB1 := Lib.hid (hb)
  clear hb
  go_wp2_with fail
  refine (icex_bytes _).mono ?_
  rintro e u2 ⟨rfl, hb⟩
  have HB2 := Lib.hid (Below.step HB1.out hb)
  clear hb HB1
  go_wp2_with fail
  refine (a1.out _).mono ?_
  rintro e u3 ⟨rfl, hb⟩
  have HB3 := Lib.hid (Below.step HB2.out hb)
  clear hb HB2
  have HBs := Lib.hid (HB3.out.alloc HB3.out.size (.cells icZ0 24))
  clear HB3
  go_upto_region 5 with fail
  generalize World.alloc _ _ = V3 at HBs ⊢
  have HB3 := HBs
  clear HBs
  go_wp2_with fail
  refine (a2.out _).mono ?_
  rintro e u4 ⟨rfl, hb⟩
  have HB4 := Lib.hid (Below.step HB3.out hb)
  clear hb HB3
  have HBs := Lib.hid (HB4.out.alloc HB4.out.size (.cells icZ0 24))
  clear HB4
  go_upto_region 6 with fail
  generalize World.alloc _ _ = V4 at HBs ⊢
  have HB4 := HBs
  clear HBs
  go_wp2_with fail
  refine (r39.out _).mono ?_
  rintro e u5 ⟨rfl, hb⟩
  have HB5 := Lib.hid (Below.step HB4.out hb)
  clear hb HB4
  go_wp2_with fail
  refine (q1.out _).mono ?_
  rintro e u6 ⟨rfl, hb⟩
  have HB6 := Lib.hid (Below.step HB5.out hb)
  clear hb HB5
  have HBs := Lib.hid (HB6.out.alloc HB6.out.size (.cells #[.int .i64 3, .int .i64 2, .int .u32 0, .string ⟨pk28.toArray⟩] 24))
  have HE_6a := Lib.hid (Blk.new u6 24 #[.int .i64 3, .int .i64 2, .int .u32 0, .string ⟨pk28.toArray⟩] 0 0 (Or.inl (Nat.le_refl _)))
  clear HB6
  go_upto_region 8 with fail
  generalize World.alloc _ _ = V6 at HBs HE_6a ⊢
  have HB6 := HBs
  clear HBs
  generalize u6.heap.size = gHE at HE_6a ⊢
  go_wp2_with fail
  refine (q2.out _).mono ?_
  rintro e u7 ⟨rfl, hb⟩
  have HB7 := Lib.hid (Below.step HB6.out hb)
  have HE_7 := Lib.hid (HE_6a.out.step hb)
  clear hb HB6 HE_6a
  have HBs := Lib.hid (HB7.out.alloc HB7.out.size (.cells #[.int .i64 3, .int .i64 255, .int .u32 0, .string ⟨pk28.toArray⟩] 24))
  have HE_7a := Lib.hid (HE_7.out.alloc (.cells #[.int .i64 3, .int .i64 255, .int .u32 0, .string ⟨pk28.toArray⟩] 24))
  have HN_7a := Lib.hid (Blk.new u7 24 #[.int .i64 3, .int .i64 255, .int .u32 0, .string ⟨pk28.toArray⟩] 0 0 (Or.inl (Nat.le_refl _)))
  clear HB7 HE_7
  go_upto_region 9 with fail
  generalize World.alloc _ _ = V7 at HBs HE_7a HN_7a ⊢
  have HB7 := HBs
  clear HBs
  generalize u7.heap.size = gHN at HN_7a ⊢
  go_wp2_with fail
  refine (b1.out _).mono ?_
  rintro e u8 ⟨⟨X1, rfl⟩, hb⟩
  have HB8 := Lib.hid (Below.step HB7.out hb)
  have HE_8 := Lib.hid (HE_7a.out.step hb)
  have HN_8 := Lib.hid (HN_7a.out.step hb)
  clear hb HB7 HE_7a HN_7a
  go_wp2_with fail
  refine (r559.out _).mono ?_
  rintro e u9 ⟨rfl, hb⟩
  have HB9 := Lib.hid (Below.step HB8.out hb)
  have HE_9 := Lib.hid (HE_8.out.step hb)
  have HN_9 := Lib.hid (HN_8.out.step hb)
  clear hb HB8 HE_8 HN_8
  go_wp2_with fail
  refine (b2.out _).mono ?_
  rintro e u10 ⟨⟨X2, rfl⟩, hb⟩
  have HB10 := Lib.hid (Below.step HB9.out hb)
  have HE_10 := Lib.hid (HE_9.out.step hb)
  have HN_10 := Lib.hid (HN_9.out.step hb)
  clear hb HB9 HE_9 HN_9
  go_wp2_with fail
  refine (r558.out _).mono ?_
  rintro e u11 ⟨rfl, hb⟩
  have HB11 := Lib.hid (Below.step HB10.out hb)
  have HE_11 := Lib.hid (HE_10.out.step hb)
  have HN_11 := Lib.hid (HN_10.out.step hb)
  clear hb HB10 HE_10 HN_10
  go_wp2_with fail
  refine (b3.out _).mono ?_
  rintro e u12 ⟨⟨X3, rfl⟩, hb⟩
  have HB12 := Lib.hid (Below.step HB11.out hb)
  have HE_12 := Lib.hid (HE_11.out.step hb)
  have HN_12 := Lib.hid (HN_11.out.step hb)
  clear hb HB11 HE_11 HN_11
  go_upto_region 12 with fail
  refine wp_region_noPanic ?_
  refine wp_region_held_drew (S := (fun w' => (Below w.heap.size w w') ∧ (Blk w' gHE 24 #[.int .i64 3, .int .i64 2, .int .u32 0, .string ⟨pk28.toArray⟩] ∧ Blk w' gHN 24 #[.int .i64 3, .int .i64 255, .int .u32 0, .string ⟨pk28.toArray⟩]) ∧ w'.cell? ⟨gHE, 0, none⟩ = some (.int .i64 3) ∧ w'.cell? ⟨gHE, 1, none⟩ = some (.int .i64 2) ∧ w'.cell? ⟨gHE, 2, none⟩ = some (.int .u32 0) ∧ w'.cell? ⟨gHE, 3, none⟩ = some (.string ⟨pk28.toArray⟩) ∧ w'.cell? ⟨gHN, 1, none⟩ = some (.int .i64 255))) (by kernel_rfl) (by first | exact ⟨HB12.out.drew, ic_S HE_12.out.drew HN_12.out.drew⟩) (fun hHeld => ?_)
  refine wpAnyH_ready (rs := [0]) (by kernel_rfl) (by simp) ?_
  refine AllReadyH.cons (o := _) rfl (fun K hK => ?_) AllReadyH.nil
  go_simp
  (go_at_call 15; refine (icawake_any _).mono ?_; rintro e z1 ⟨rfl, hb0⟩; have HZ1 := Lib.hid hb0; clear hb0; go_wp2_with fail)
  refine hK.out _ _ ?_ (fun hHeld1 => ?_)
  · (first | exact ⟨Below.step (And.left hHeld) HZ1.out, ic_S ((And.left (And.left (And.right hHeld))).step HZ1.out) ((And.right (And.left (And.right hHeld))).step HZ1.out)⟩)
  clear hHeld hK K
  try simp only [List.getElem_toArray, List.getElem_cons_zero, List.getElem_cons_succ, Act.put, List.setIfInBounds_toArray, List.set_cons_zero, List.set_cons_succ]
  refine wpAnyH_take (i := 1) (oi := _) (v := ?vr1n1_1) rfl (by kernel_rfl) (by kernel_rfl) (by kernel_rfl) (fun _ _ _ h => h) (Or.inl ⟨by kernel_rfl, ?hr1n1_1⟩) hHeld1 ?_
  case hr1n1_1 => (intro w hSw; (try dsimp only at hSw); go_simp; try (with_reducible rfl))
  try simp only [List.getElem_toArray, List.getElem_cons_zero, List.getElem_cons_succ, Act.put, List.setIfInBounds_toArray, List.set_cons_zero, List.set_cons_succ]
  refine wpAnyH_take (i := 2) (oi := _) (v := ?vr1n2_2) rfl (by kernel_rfl) (by kernel_rfl) (by kernel_rfl) (fun _ _ _ h => h) (Or.inl ⟨by kernel_rfl, ?hr1n2_2⟩) hHeld1 ?_
  case hr1n2_2 => (intro w hSw; (try dsimp only at hSw); go_simp; try (with_reducible rfl))
  try simp only [List.getElem_toArray, List.getElem_cons_zero, List.getElem_cons_succ, Act.put, List.setIfInBounds_toArray, List.set_cons_zero, List.set_cons_succ]
  refine wpAnyH_take (i := 3) (oi := _) (v := ?vr1n3_3) rfl (by kernel_rfl) (by kernel_rfl) (by kernel_rfl) (fun _ _ _ h => h) (Or.inl ⟨by kernel_rfl, ?hr1n3_3⟩) hHeld1 ?_
  case hr1n3_3 => (intro w hSw; (try dsimp only at hSw); go_simp; try (with_reducible rfl))
  try simp only [List.getElem_toArray, List.getElem_cons_zero, List.getElem_cons_succ, Act.put, List.setIfInBounds_toArray, List.set_cons_zero, List.set_cons_succ]
  refine wpAnyH_take (i := 4) (oi := _) (v := ?vr1n4_4) rfl (by kernel_rfl) (by kernel_rfl) (by kernel_rfl) (fun _ _ _ h => h) (Or.inl ⟨by kernel_rfl, ?hr1n4_4⟩) hHeld1 ?_
  case hr1n4_4 => (intro w hSw; (try dsimp only at hSw); go_simp; try (with_reducible rfl))
  try simp only [List.getElem_toArray, List.getElem_cons_zero, List.getElem_cons_succ, Act.put, List.setIfInBounds_toArray, List.set_cons_zero, List.set_cons_succ]
  refine wpAnyH_take (i := 5) (oi := _) (v := ?vr1n5_5) rfl (by kernel_rfl) (by kernel_rfl) (by kernel_rfl) (fun _ _ _ h => h) (Or.inl ⟨by kernel_rfl, ?hr1n5_5⟩) hHeld1 ?_
  case hr1n5_5 => (intro w hSw; (try dsimp only at hSw); go_simp; try (with_reducible rfl))
  try simp only [List.getElem_toArray, List.getElem_cons_zero, List.getElem_cons_succ, Act.put, List.setIfInBounds_toArray, List.set_cons_zero, List.set_cons_succ]
  refine wpAnyH_take (i := 6) (oi := _) (v := ?vr1n6_6) rfl (by kernel_rfl) (by kernel_rfl) (by kernel_rfl) (fun _ _ _ h => h) (Or.inl ⟨by kernel_rfl, ?hr1n6_6⟩) hHeld1 ?_
  case hr1n6_6 => (intro w hSw; (try dsimp only at hSw); go_simp; try (with_reducible rfl))
  try simp only [List.getElem_toArray, List.getElem_cons_zero, List.getElem_cons_succ, Act.put, List.setIfInBounds_toArray, List.set_cons_zero, List.set_cons_succ]
  refine wpAnyH_take (i := 7) (oi := _) (v := ?vr1n7_7) rfl (by kernel_rfl) (by kernel_rfl) (by kernel_rfl) (fun _ _ _ h => h) (Or.inl ⟨by kernel_rfl, ?hr1n7_7⟩) hHeld1 ?_
  case hr1n7_7 => (intro w hSw; (try dsimp only at hSw); go_simp; try (with_reducible rfl))
  try simp only [List.getElem_toArray, List.getElem_cons_zero, List.getElem_cons_succ, Act.put, List.setIfInBounds_toArray, List.set_cons_zero, List.set_cons_succ]
  refine wpAnyH_take (i := 8) (oi := _) (v := ?vr1n8_8) rfl (by kernel_rfl) (by kernel_rfl) (by kernel_rfl) (fun _ _ _ h => h) (Or.inl ⟨by kernel_rfl, ?hr1n8_8⟩) hHeld1 ?_
  case hr1n8_8 => (intro w hSw; (try dsimp only at hSw); go_simp; try (with_reducible rfl))
  try simp only [List.getElem_toArray, List.getElem_cons_zero, List.getElem_cons_succ, Act.put, List.setIfInBounds_toArray, List.set_cons_zero, List.set_cons_succ]
  refine wpAnyH_take (i := 9) (oi := _) (v := ?vr1n9_9) rfl (by kernel_rfl) (by kernel_rfl) (by kernel_rfl) (fun _ _ _ h => h) (Or.inl ⟨by kernel_rfl, ?hr1n9_9⟩) hHeld1 ?_
  case hr1n9_9 => (intro w hSw; (try dsimp only at hSw); go_simp; try (with_reducible rfl))
  try simp only [List.getElem_toArray, List.getElem_cons_zero, List.getElem_cons_succ, Act.put, List.setIfInBounds_toArray, List.set_cons_zero, List.set_cons_succ]
  refine wpAnyH_take (i := 10) (oi := _) (v := ?vr1n10_10) rfl (by kernel_rfl) (by kernel_rfl) (by kernel_rfl) (fun _ _ _ h => h) (Or.inl ⟨by kernel_rfl, ?hr1n10_10⟩) hHeld1 ?_
  case hr1n10_10 => (intro w hSw; (try dsimp only at hSw); go_simp; try (with_reducible rfl))
  try simp only [List.getElem_toArray, List.getElem_cons_zero, List.getElem_cons_succ, Act.put, List.setIfInBounds_toArray, List.set_cons_zero, List.set_cons_succ]
  refine wpAnyH_take (i := 11) (oi := _) (v := ?vr1n11_11) rfl (by kernel_rfl) (by kernel_rfl) (by kernel_rfl) (fun _ _ _ h => h) (Or.inl ⟨by kernel_rfl, ?hr1n11_11⟩) hHeld1 ?_
  case hr1n11_11 => (intro w hSw; (try dsimp only at hSw); go_simp; try (with_reducible rfl))
  try simp only [List.getElem_toArray, List.getElem_cons_zero, List.getElem_cons_succ, Act.put, List.setIfInBounds_toArray, List.set_cons_zero, List.set_cons_succ]
  refine wpAnyH_take (i := 12) (oi := _) (v := ?vr1n12_12) rfl (by kernel_rfl) (by kernel_rfl) (by kernel_rfl) (fun _ _ _ h => h) (Or.inl ⟨by kernel_rfl, ?hr1n12_12⟩) hHeld1 ?_
  case hr1n12_12 => (intro w hSw; (try dsimp only at hSw); go_simp; try (with_reducible rfl))
  try simp only [List.getElem_toArray, List.getElem_cons_zero, List.getElem_cons_succ, Act.put, List.setIfInBounds_toArray, List.set_cons_zero, List.set_cons_succ]
  refine wpAnyH_take (i := 13) (oi := _) (v := ?vr1n13_13) rfl (by kernel_rfl) (by kernel_rfl) (by kernel_rfl) (fun _ _ _ h => h) (Or.inl ⟨by kernel_rfl, ?hr1n13_13⟩) hHeld1 ?_
  case hr1n13_13 => (intro w hSw; (try dsimp only at hSw); go_simp; try (with_reducible rfl))
  try simp only [List.getElem_toArray, List.getElem_cons_zero, List.getElem_cons_succ, Act.put, List.setIfInBounds_toArray, List.set_cons_zero, List.set_cons_succ]
  refine wpAnyH_take (i := 14) (oi := _) (v := ?vr1n14_14) rfl (by kernel_rfl) (by kernel_rfl) (by kernel_rfl) (fun _ _ _ h => h) (Or.inl ⟨by kernel_rfl, ?hr1n14_14⟩) hHeld1 ?_
  case hr1n14_14 => (intro w hSw; (try dsimp only at hSw); go_simp; try (with_reducible rfl))
  try simp only [List.getElem_toArray, List.getElem_cons_zero, List.getElem_cons_succ, Act.put, List.setIfInBounds_toArray, List.set_cons_zero, List.set_cons_succ]
  refine wpAnyH_take (i := 15) (oi := _) (v := ?vr1n15_15) rfl (by kernel_rfl) (by kernel_rfl) (by kernel_rfl) (fun _ _ _ h => h) (Or.inl ⟨by kernel_rfl, ?hr1n15_15⟩) hHeld1 ?_
  case hr1n15_15 => (intro w hSw; (try dsimp only at hSw); go_simp; try (with_reducible rfl))
  try simp only [List.getElem_toArray, List.getElem_cons_zero, List.getElem_cons_succ, Act.put, List.setIfInBounds_toArray, List.set_cons_zero, List.set_cons_succ]
  refine wpAnyH_take (i := 16) (oi := _) (v := ?vr1n16_16) rfl (by kernel_rfl) (by kernel_rfl) (by kernel_rfl) (fun _ _ _ h => h) (Or.inl ⟨by kernel_rfl, ?hr1n16_16⟩) hHeld1 ?_
  case hr1n16_16 => (intro w hSw; (try dsimp only at hSw); go_simp; try (with_reducible rfl))
  try simp only [List.getElem_toArray, List.getElem_cons_zero, List.getElem_cons_succ, Act.put, List.setIfInBounds_toArray, List.set_cons_zero, List.set_cons_succ]
  refine wpAnyH_take (i := 17) (oi := _) (v := ?vr1n17_17) rfl (by kernel_rfl) (by kernel_rfl) (by kernel_rfl) (fun _ _ _ h => h) (Or.inl ⟨by kernel_rfl, ?hr1n17_17⟩) hHeld1 ?_
  case hr1n17_17 => (intro w hSw; (try dsimp only at hSw); go_simp; try (with_reducible rfl))
  try simp only [List.getElem_toArray, List.getElem_cons_zero, List.getElem_cons_succ, Act.put, List.setIfInBounds_toArray, List.set_cons_zero, List.set_cons_succ]
  refine wpAnyH_take (i := 18) (oi := _) (v := ?vr1n18_18) rfl (by kernel_rfl) (by kernel_rfl) (by kernel_rfl) (fun _ _ _ h => h) (Or.inl ⟨by kernel_rfl, ?hr1n18_18⟩) hHeld1 ?_
  case hr1n18_18 => (intro w hSw; (try dsimp only at hSw); go_simp; try (with_reducible rfl))
  try simp only [List.getElem_toArray, List.getElem_cons_zero, List.getElem_cons_succ, Act.put, List.setIfInBounds_toArray, List.set_cons_zero, List.set_cons_succ]
  refine wpAnyH_take (i := 19) (oi := _) (v := ?vr1n19_19) rfl (by kernel_rfl) (by kernel_rfl) (by kernel_rfl) (fun _ _ _ h => h) (Or.inl ⟨by kernel_rfl, ?hr1n19_19⟩) hHeld1 ?_
  case hr1n19_19 => (intro w hSw; (try dsimp only at hSw); go_simp; try (with_reducible rfl))
  try simp only [List.getElem_toArray, List.getElem_cons_zero, List.getElem_cons_succ, Act.put, List.setIfInBounds_toArray, List.set_cons_zero, List.set_cons_succ]
  refine wpAnyH_take (i := 20) (oi := _) (v := ?vr1n20_20) rfl (by kernel_rfl) (by kernel_rfl) (by kernel_rfl) (fun _ _ _ h => h) (Or.inl ⟨by kernel_rfl, ?hr1n20_20⟩) hHeld1 ?_
  case hr1n20_20 => (intro w hSw; (try dsimp only at hSw); go_simp; try (with_reducible rfl))
  try simp only [List.getElem_toArray, List.getElem_cons_zero, List.getElem_cons_succ, Act.put, List.setIfInBounds_toArray, List.set_cons_zero, List.set_cons_succ]
  refine wpAnyH_take (i := 21) (oi := _) (v := ?vr1n21_21) rfl (by kernel_rfl) (by kernel_rfl) (by kernel_rfl) (fun _ _ _ h => h) (Or.inl ⟨by kernel_rfl, ?hr1n21_21⟩) hHeld1 ?_
  case hr1n21_21 => (intro w hSw; (try dsimp only at hSw); go_simp; try (with_reducible rfl))
  try simp only [List.getElem_toArray, List.getElem_cons_zero, List.getElem_cons_succ, Act.put, List.setIfInBounds_toArray, List.set_cons_zero, List.set_cons_succ]
  refine wpAnyH_take (i := 22) (oi := _) (v := ?vr1n22_22) rfl (by kernel_rfl) (by kernel_rfl) (by kernel_rfl) (fun _ _ _ h => h) (Or.inl ⟨by kernel_rfl, ?hr1n22_22⟩) hHeld1 ?_
  case hr1n22_22 => (intro w hSw; (try dsimp only at hSw); go_simp; try (with_reducible rfl))
  try simp only [List.getElem_toArray, List.getElem_cons_zero, List.getElem_cons_succ, Act.put, List.setIfInBounds_toArray, List.set_cons_zero, List.set_cons_succ]
  refine wpAnyH_take (i := 23) (oi := _) (v := ?vr1n23_23) rfl (by kernel_rfl) (by kernel_rfl) (by kernel_rfl) (fun _ _ _ h => h) (Or.inl ⟨by kernel_rfl, ?hr1n23_23⟩) hHeld1 ?_
  case hr1n23_23 => (intro w hSw; (try dsimp only at hSw); go_simp; try (with_reducible rfl))
  try simp only [List.getElem_toArray, List.getElem_cons_zero, List.getElem_cons_succ, Act.put, List.setIfInBounds_toArray, List.set_cons_zero, List.set_cons_succ]
  refine wpAnyH_take (i := 24) (oi := _) (v := ?vr1n24_24) rfl (by kernel_rfl) (by kernel_rfl) (by kernel_rfl) (fun _ _ _ h => h) (Or.inl ⟨by kernel_rfl, ?hr1n24_24⟩) hHeld1 ?_
  case hr1n24_24 => (intro w hSw; (try dsimp only at hSw); go_simp; try (with_reducible rfl))
  try simp only [List.getElem_toArray, List.getElem_cons_zero, List.getElem_cons_succ, Act.put, List.setIfInBounds_toArray, List.set_cons_zero, List.set_cons_succ]
  refine wpAnyH_take (i := 25) (oi := _) (v := ?vr1n25_25) rfl (by kernel_rfl) (by kernel_rfl) (by kernel_rfl) (fun _ _ _ h => h) (Or.inl ⟨by kernel_rfl, ?hr1n25_25⟩) hHeld1 ?_
  case hr1n25_25 => (intro w hSw; (try dsimp only at hSw); go_simp; try (with_reducible rfl))
  try simp only [List.getElem_toArray, List.getElem_cons_zero, List.getElem_cons_succ, Act.put, List.setIfInBounds_toArray, List.set_cons_zero, List.set_cons_succ]
  refine wpAnyH_take (i := 26) (oi := _) (v := ?vr1n26_26) rfl (by kernel_rfl) (by kernel_rfl) (by kernel_rfl) (fun _ _ _ h => h) (Or.inl ⟨by kernel_rfl, ?hr1n26_26⟩) hHeld1 ?_
  case hr1n26_26 => (intro w hSw; (try dsimp only at hSw); go_simp; try (with_reducible rfl))
  try simp only [List.getElem_toArray, List.getElem_cons_zero, List.getElem_cons_succ, Act.put, List.setIfInBounds_toArray, List.set_cons_zero, List.set_cons_succ]
  refine wpAnyH_take (i := 27) (oi := _) (v := ?vr1n27_27) rfl (by kernel_rfl) (by kernel_rfl) (by kernel_rfl) (fun _ _ _ h => h) (Or.inl ⟨by kernel_rfl, ?hr1n27_27⟩) hHeld1 ?_
  case hr1n27_27 => (intro w hSw; (try dsimp only at hSw); go_simp; try (with_reducible rfl))
  try simp only [List.getElem_toArray, List.getElem_cons_zero, List.getElem_cons_succ, Act.put, List.setIfInBounds_toArray, List.set_cons_zero, List.set_cons_succ]
  refine wpAnyH_take (i := 28) (oi := _) (v := ?vr1n28_28) rfl (by kernel_rfl) (by kernel_rfl) (by kernel_rfl) (fun _ _ _ h => h) (Or.inl ⟨by kernel_rfl, ?hr1n28_28⟩) hHeld1 ?_
  case hr1n28_28 => (intro w hSw; (try dsimp only at hSw); go_simp; try (with_reducible rfl))
  try simp only [List.getElem_toArray, List.getElem_cons_zero, List.getElem_cons_succ, Act.put, List.setIfInBounds_toArray, List.set_cons_zero, List.set_cons_succ]
  refine wpAnyH_take (i := 29) (oi := _) (v := ?vr1n29_29) rfl (by kernel_rfl) (by kernel_rfl) (by kernel_rfl) (fun _ _ _ h => h) (Or.inl ⟨by kernel_rfl, ?hr1n29_29⟩) hHeld1 ?_
  case hr1n29_29 => (intro w hSw; (try dsimp only at hSw); go_simp; try (with_reducible rfl))
  try simp only [List.getElem_toArray, List.getElem_cons_zero, List.getElem_cons_succ, Act.put, List.setIfInBounds_toArray, List.set_cons_zero, List.set_cons_succ]
  refine wpAnyH_take (i := 30) (oi := _) (v := ?vr1n30_30) rfl (by kernel_rfl) (by kernel_rfl) (by kernel_rfl) (fun _ _ _ h => h) (Or.inl ⟨by kernel_rfl, ?hr1n30_30⟩) hHeld1 ?_
  case hr1n30_30 => (intro w hSw; (try dsimp only at hSw); go_simp; try (with_reducible rfl))
  try simp only [List.getElem_toArray, List.getElem_cons_zero, List.getElem_cons_succ, Act.put, List.setIfInBounds_toArray, List.set_cons_zero, List.set_cons_succ]
  refine wpAnyH_take (i := 31) (oi := _) (v := ?vr1n31_31) rfl (by kernel_rfl) (by kernel_rfl) (by kernel_rfl) (fun _ _ _ h => h) (Or.inl ⟨by kernel_rfl, ?hr1n31_31⟩) hHeld1 ?_
  case hr1n31_31 => (intro w hSw; (try dsimp only at hSw); go_simp; try (with_reducible rfl))
  try simp only [List.getElem_toArray, List.getElem_cons_zero, List.getElem_cons_succ, Act.put, List.setIfInBounds_toArray, List.set_cons_zero, List.set_cons_succ]
  refine wpAnyH_take (i := 32) (oi := _) (v := ?vr1n32_32) rfl (by kernel_rfl) (by kernel_rfl) (by kernel_rfl) (fun _ _ _ h => h) (Or.inl ⟨by kernel_rfl, ?hr1n32_32⟩) hHeld1 ?_
  case hr1n32_32 => (intro w hSw; (try dsimp only at hSw); go_simp; try (with_reducible rfl))
  try simp only [List.getElem_toArray, List.getElem_cons_zero, List.getElem_cons_succ, Act.put, List.setIfInBounds_toArray, List.set_cons_zero, List.set_cons_succ]
  refine wpAnyH_take (i := 33) (oi := _) (v := ?vr1n33_33) rfl (by kernel_rfl) (by kernel_rfl) (by kernel_rfl) (fun _ _ _ h => h) (Or.inl ⟨by kernel_rfl, ?hr1n33_33⟩) hHeld1 ?_
  case hr1n33_33 => (intro w hSw; (try dsimp only at hSw); go_simp; try (with_reducible rfl))
  try simp only [List.getElem_toArray, List.getElem_cons_zero, List.getElem_cons_succ, Act.put, List.setIfInBounds_toArray, List.set_cons_zero, List.set_cons_succ]
  refine wpAnyH_take (i := 34) (oi := _) (v := ?vr1n34_34) rfl (by kernel_rfl) (by kernel_rfl) (by kernel_rfl) (fun _ _ _ h => h) (Or.inl ⟨by kernel_rfl, ?hr1n34_34⟩) hHeld1 ?_
  case hr1n34_34 => (intro w hSw; (try dsimp only at hSw); go_simp; try (with_reducible rfl))
  try simp only [List.getElem_toArray, List.getElem_cons_zero, List.getElem_cons_succ, Act.put, List.setIfInBounds_toArray, List.set_cons_zero, List.set_cons_succ]
  refine wpAnyH_take (i := 35) (oi := _) (v := ?vr1n35_35) rfl (by kernel_rfl) (by kernel_rfl) (by kernel_rfl) (fun _ _ _ h => h) (Or.inl ⟨by kernel_rfl, ?hr1n35_35⟩) hHeld1 ?_
  case hr1n35_35 => (intro w hSw; (try dsimp only at hSw); go_simp; try (with_reducible rfl))
  try simp only [List.getElem_toArray, List.getElem_cons_zero, List.getElem_cons_succ, Act.put, List.setIfInBounds_toArray, List.set_cons_zero, List.set_cons_succ]
  refine wpAnyH_take (i := 37) (oi := _) (v := ?vr1n37_36) rfl (by kernel_rfl) (by kernel_rfl) (by kernel_rfl) (fun _ _ _ h => h) (Or.inl ⟨by kernel_rfl, ?hr1n37_36⟩) hHeld1 ?_
  case hr1n37_36 => (intro w hSw; (try dsimp only at hSw); go_simp; try (with_reducible rfl))
  try simp only [List.getElem_toArray, List.getElem_cons_zero, List.getElem_cons_succ, Act.put, List.setIfInBounds_toArray, List.set_cons_zero, List.set_cons_succ]
  refine wpAnyH_ready (rs := [36]) (by kernel_rfl) (by simp) ?_
  refine AllReadyH.cons (o := _) rfl (fun K hK => ?_) AllReadyH.nil
  go_simp
  (go_at_call 26; refine (q3.out _).mono ?_; rintro e z2 ⟨rfl, hb0⟩; have HZ2 := Lib.hid hb0; clear hb0; go_wp2_with fail)
  refine hK.out _ _ ?_ (fun hHeld2 => ?_)
  · (first | exact ⟨Below.step (And.left hHeld1) HZ2.out, ic_S ((And.left (And.left (And.right hHeld1))).step HZ2.out) ((And.right (And.left (And.right hHeld1))).step HZ2.out)⟩)
  clear hHeld1 hK K
  try simp only [List.getElem_toArray, List.getElem_cons_zero, List.getElem_cons_succ, Act.put, List.setIfInBounds_toArray, List.set_cons_zero, List.set_cons_succ]
  refine wpAnyH_take (i := 38) (oi := _) (v := ?vr1n38_37) rfl (by kernel_rfl) (by kernel_rfl) (by kernel_rfl) (fun _ _ _ h => h) (Or.inl ⟨by kernel_rfl, ?hr1n38_37⟩) hHeld2 ?_
  case hr1n38_37 => (intro w hSw; (try dsimp only at hSw); go_simp; try (with_reducible rfl))
  try simp only [List.getElem_toArray, List.getElem_cons_zero, List.getElem_cons_succ, Act.put, List.setIfInBounds_toArray, List.set_cons_zero, List.set_cons_succ]
  refine wpAnyH_take (i := 39) (oi := _) (v := ?vr1n39_38) rfl (by kernel_rfl) (by kernel_rfl) (by kernel_rfl) (fun _ _ _ h => h) (Or.inl ⟨by kernel_rfl, ?hr1n39_38⟩) hHeld2 ?_
  case hr1n39_38 => (intro w hSw; (try dsimp only at hSw); go_simp; try (with_reducible rfl))
  try simp only [List.getElem_toArray, List.getElem_cons_zero, List.getElem_cons_succ, Act.put, List.setIfInBounds_toArray, List.set_cons_zero, List.set_cons_succ]
  refine wpAnyH_take (i := 40) (oi := _) (v := ?vr1n40_39) rfl (by kernel_rfl) (by kernel_rfl) (by kernel_rfl) (fun _ _ _ h => h) (Or.inl ⟨by kernel_rfl, ?hr1n40_39⟩) hHeld2 ?_
  case hr1n40_39 => (intro w hSw; (try dsimp only at hSw); go_simp; try (with_reducible rfl))
  try simp only [List.getElem_toArray, List.getElem_cons_zero, List.getElem_cons_succ, Act.put, List.setIfInBounds_toArray, List.set_cons_zero, List.set_cons_succ]
  refine wpAnyH_done (by kernel_rfl) ?_ _
  refine NoPanic.normal ?_
  go_wp2
  go_ret
  exact ⟨rfl, And.left hHeld2⟩
end Go.Proofs.Ytpnhopgfoakgnaa
