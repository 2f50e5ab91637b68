/- The walk through the law BitsJoin: it answers true. Condition: numbers that a memory can hold. -/
import Derived.Test.YtpineeaghmfggaaBiW
import Derived.Test.YtpineeaghmfggaaBiU
namespace Go.Proofs.Ytpineeaghmfggaa
set_option linter.unusedVariables false
set_option linter.unusedSimpArgs false
set_option maxRecDepth 100000
open Go.RowKit
attribute [local go_sem ↓] Go.wp_at_zero Go.wp_at_succ
attribute [local go_sem ↓] ld_rw

set_option maxHeartbeats 1000000 in
theorem bitsJoin_long (A B C : Option Addr) (ca cb cc : Nat) (K L M : List Int) (hl : 200 < K.length ∨ 200 < L.length ∨ 200 < M.length) (w : World) (hK : K.length ≤ maxLen) (hL : L.length ≤ maxLen) (hM : M.length ≤ maxLen) : Calls Try.prog 6 #[.slice A K.length ca, .slice B L.length cb, .slice C M.length cc] w fun e w' => e = .returned (.bool true) ∧ Below w.heap.size w w' := by
  have WK := Lib.hid wakes_any
  have h3 : (200 : Int) < (K.length : Int) ∨ ((K.length : Int) ≤ 200 ∧ (200 : Int) < (L.length : Int)) ∨ ((K.length : Int) ≤ 200 ∧ (L.length : Int) ≤ 200 ∧ (200 : Int) < (M.length : Int)) := by omega
  clear hl hK hL hM
  rcases h3 with h1 | ⟨h1, h2⟩ | ⟨h1, h2, h3⟩
  · go_enter Try.func6, Try.ntmps6
    go_wp2_with fail
    refine (WK.out _).mono ?_
    rintro e w1 ⟨rfl, hb⟩
    have HB2 := Lib.hid (hb)
    clear hb 
    go_wp2
    go_ret
    exact ⟨rfl, HB2.out⟩
  · go_enter Try.func6, Try.ntmps6
    go_wp2_with fail
    refine (WK.out _).mono ?_
    rintro e w3 ⟨rfl, hb⟩
    have HB4 := Lib.hid (hb)
    clear hb 
    go_wp2
    go_ret
    exact ⟨rfl, HB4.out⟩
  · go_enter Try.func6, Try.ntmps6
    go_wp2_with fail
    refine (WK.out _).mono ?_
    rintro e w5 ⟨rfl, hb⟩
    have HB6 := Lib.hid (hb)
    clear hb 
    go_wp2
    go_ret
    exact ⟨rfl, HB6.out⟩

set_option maxHeartbeats 4000000 in
theorem bitsJoin_main (A B C : Option Addr) (ca cb cc : Nat) (K L M : List Int) (a b c u d : Nat) (hl1 : K.length ≤ 200) (hl2 : L.length ≤ 200) (hl3 : M.length ≤ 200) (w : World) (hA : IntsAt w w.heap.size A K) (hB : IntsAt w w.heap.size B L) (hC : IntsAt w w.heap.size C M)
    (RA : Hid (∀ w, IntsAt w w.heap.size A K → Calls Try.prog 18 #[.slice A K.length ca] w fun e w' => e = .returned (.agg (rwC a)) ∧ Below w.heap.size w w'))
    (RB : Hid (∀ w, IntsAt w w.heap.size B L → Calls Try.prog 18 #[.slice B L.length cb] w fun e w' => e = .returned (.agg (rwC b)) ∧ Below w.heap.size w w'))
    (RC : Hid (∀ w, IntsAt w w.heap.size C M → Calls Try.prog 18 #[.slice C M.length cc] w fun e w' => e = .returned (.agg (rwC c)) ∧ Below w.heap.size w w'))
    (OA : Hid (∀ w, IntsAt w w.heap.size A K → Calls Try.prog 15 #[.slice A K.length ca] w fun e w' => e = .returned (bv a) ∧ Below w.heap.size w w'))
    (OB : Hid (∀ w, IntsAt w w.heap.size B L → Calls Try.prog 15 #[.slice B L.length cb] w fun e w' => e = .returned (bv b) ∧ Below w.heap.size w w'))
    (OC : Hid (∀ w, IntsAt w w.heap.size C M → Calls Try.prog 15 #[.slice C M.length cc] w fun e w' => e = .returned (bv c) ∧ Below w.heap.size w w'))
    (UN : Hid (∀ w, Calls Try.prog 23 #[.slice (some ⟨w.heap.size, 0, none⟩) 3 3] (w.alloc (.cells #[.int .u64 (a : Int), .int .u64 (b : Int), .int .u64 (c : Int)] 25)) fun e w' => e = .returned (bv u) ∧ Below w.heap.size w w'))
    (U0 : Hid (∀ w, Calls Try.prog 23 #[.slice none 0 0] w fun e w' => e = .returned (bv 0) ∧ Below w.heap.size w w'))
    (O0 : Hid (∀ w, Calls Try.prog 15 #[.slice none 0 0] w fun e w' => e = .returned (bv 0) ∧ Below w.heap.size w w'))
    (MI : Hid (∀ w, Calls Try.prog 24 #[bv a, bv b] w fun e w' => e = .returned (bv d) ∧ Below w.heap.size w w'))
    (HU : Hid (∀ i : Nat, i < 64 → ∀ w, Calls Try.prog 22 #[bv u, .int .i64 (i : Int)] w fun e w' => e = .returned (.bool (a.testBit i || b.testBit i || c.testBit i)) ∧ Below w.heap.size w w'))
    (HD : Hid (∀ i : Nat, i < 64 → ∀ w, Calls Try.prog 22 #[bv d, .int .i64 (i : Int)] w fun e w' => e = .returned (.bool (a.testBit i && !b.testBit i)) ∧ Below w.heap.size w w')) :
    Calls Try.prog 6 #[.slice A K.length ca, .slice B L.length cb, .slice C M.length cc] w fun e w' => e = .returned (.bool true) ∧ Below w.heap.size w w' := by
  have WK := Lib.hid wakes_any
  have hl1 : (K.length : Int) ≤ 200 := by omega
  have hl2 : (L.length : Int) ≤ 200 := by omega
  have hl3 : (M.length : Int) ≤ 200 := by omega
  have HIk := Lib.hid hA
  have HIl := Lib.hid hB
  have HIm := Lib.hid hC
  clear hA hB hC
  go_enter Try.func6, Try.ntmps6
  go_wp2_with fail
  refine (RA.out _ HIk.out).mono ?_
  rintro e w7 ⟨rfl, hb⟩
  have HIk8 := Lib.hid (HIk.out.up hb)
  have HIl8 := Lib.hid (HIl.out.up hb)
  have HIm8 := Lib.hid (HIm.out.up hb)
  have HB8 := Lib.hid (hb)
  clear hb HIk HIl HIm
  have tok10 : True := trivial
  go_upto_region 4 with (have _t := tok10; refine wpList_store_blk rfl 30 _ _ rfl w7.heap.size (rwC a) rfl rfl zlit 30 (Blk.new w7 30 zlit 0 0 (Or.inl (Nat.le_refl _))) (by rw [rwC_size]; rfl) (by rw [rwC_size]; exact size_rows) (rwC_one _) ?_; clear tok10)
  have HIk10 := Lib.hid (HIk8.out.up (Below.setCells ((Below.refl _ w7).alloc (Nat.le_refl _) (.cells zlit 30)) (Nat.le_refl _) 0 (rwC a).toList))
  have HIl10 := Lib.hid (HIl8.out.up (Below.setCells ((Below.refl _ w7).alloc (Nat.le_refl _) (.cells zlit 30)) (Nat.le_refl _) 0 (rwC a).toList))
  have HIm10 := Lib.hid (HIm8.out.up (Below.setCells ((Below.refl _ w7).alloc (Nat.le_refl _) (.cells zlit 30)) (Nat.le_refl _) 0 (rwC a).toList))
  have HKx10 := Lib.hid ((Blk.new w7 30 zlit 0 0 (Or.inl (Nat.le_refl _))).setAll (cs := rwC a) (by rw [rwC_size]; rfl))
  have HB10 := Lib.hid (Below.setCells (HB8.out.alloc HB8.out.size (.cells zlit 30)) HB8.out.size 0 (rwC a).toList)
  generalize World.setCells _ _ _ _ = w9 at HKx10 HIk10 HIl10 HIm10 HB10 ⊢
  have hge_x : w.heap.size ≤ w7.heap.size := HB8.out.size
  generalize w7.heap.size = px at HKx10 hge_x ⊢
  clear HIk8 HIl8 HIm8 HB8
  go_wp2_with fail
  refine (RB.out _ HIl10.out).mono ?_
  rintro e w11 ⟨rfl, hb⟩
  have HKx12 := Lib.hid (HKx10.out.step hb)
  have HIk12 := Lib.hid (HIk10.out.up hb)
  have HIl12 := Lib.hid (HIl10.out.up hb)
  have HIm12 := Lib.hid (HIm10.out.up hb)
  have HB12 := Lib.hid (Below.step HB10.out hb)
  clear hb HKx10 HIk10 HIl10 HIm10 HB10
  have tok14 : True := trivial
  go_upto_region 5 with (have _t := tok14; refine wpList_store_blk rfl 30 _ _ rfl w11.heap.size (rwC b) rfl rfl zlit 30 (Blk.new w11 30 zlit 0 0 (Or.inl (Nat.le_refl _))) (by rw [rwC_size]; rfl) (by rw [rwC_size]; exact size_rows) (rwC_one _) ?_; clear tok14)
  have HKx14 := Lib.hid ((HKx12.out.alloc (.cells zlit 30)).setCells_other w11.heap.size 0 (rwC b).toList (Nat.ne_of_lt HKx12.out.lt))
  have HIk14 := Lib.hid (HIk12.out.up (Below.setCells ((Below.refl _ w11).alloc (Nat.le_refl _) (.cells zlit 30)) (Nat.le_refl _) 0 (rwC b).toList))
  have HIl14 := Lib.hid (HIl12.out.up (Below.setCells ((Below.refl _ w11).alloc (Nat.le_refl _) (.cells zlit 30)) (Nat.le_refl _) 0 (rwC b).toList))
  have HIm14 := Lib.hid (HIm12.out.up (Below.setCells ((Below.refl _ w11).alloc (Nat.le_refl _) (.cells zlit 30)) (Nat.le_refl _) 0 (rwC b).toList))
  have HKy14 := Lib.hid ((Blk.new w11 30 zlit 0 0 (Or.inl (Nat.le_refl _))).setAll (cs := rwC b) (by rw [rwC_size]; rfl))
  have HB14 := Lib.hid (Below.setCells (HB12.out.alloc HB12.out.size (.cells zlit 30)) HB12.out.size 0 (rwC b).toList)
  generalize World.setCells _ _ _ _ = w13 at HKx14 HKy14 HIk14 HIl14 HIm14 HB14 ⊢
  have hge_y : w.heap.size ≤ w11.heap.size := HB12.out.size
  have hne_x_y : px ≠ w11.heap.size := Nat.ne_of_lt HKx12.out.lt
  generalize w11.heap.size = py at HKx14 HKy14 hge_y hne_x_y ⊢
  clear HKx12 HIk12 HIl12 HIm12 HB12
  go_wp2_with fail
  refine (RC.out _ HIm14.out).mono ?_
  rintro e w15 ⟨rfl, hb⟩
  have HKx16 := Lib.hid (HKx14.out.step hb)
  have HKy16 := Lib.hid (HKy14.out.step hb)
  have HIk16 := Lib.hid (HIk14.out.up hb)
  have HIl16 := Lib.hid (HIl14.out.up hb)
  have HIm16 := Lib.hid (HIm14.out.up hb)
  have HB16 := Lib.hid (Below.step HB14.out hb)
  clear hb HKx14 HKy14 HIk14 HIl14 HIm14 HB14
  have tok18 : True := trivial
  go_upto_region 6 with (have _t := tok18; refine wpList_store_blk rfl 30 _ _ rfl w15.heap.size (rwC c) rfl rfl zlit 30 (Blk.new w15 30 zlit 0 0 (Or.inl (Nat.le_refl _))) (by rw [rwC_size]; rfl) (by rw [rwC_size]; exact size_rows) (rwC_one _) ?_; clear tok18)
  have HKx18 := Lib.hid ((HKx16.out.alloc (.cells zlit 30)).setCells_other w15.heap.size 0 (rwC c).toList (Nat.ne_of_lt HKx16.out.lt))
  have HKy18 := Lib.hid ((HKy16.out.alloc (.cells zlit 30)).setCells_other w15.heap.size 0 (rwC c).toList (Nat.ne_of_lt HKy16.out.lt))
  have HIk18 := Lib.hid (HIk16.out.up (Below.setCells ((Below.refl _ w15).alloc (Nat.le_refl _) (.cells zlit 30)) (Nat.le_refl _) 0 (rwC c).toList))
  have HIl18 := Lib.hid (HIl16.out.up (Below.setCells ((Below.refl _ w15).alloc (Nat.le_refl _) (.cells zlit 30)) (Nat.le_refl _) 0 (rwC c).toList))
  have HIm18 := Lib.hid (HIm16.out.up (Below.setCells ((Below.refl _ w15).alloc (Nat.le_refl _) (.cells zlit 30)) (Nat.le_refl _) 0 (rwC c).toList))
  have HKz18 := Lib.hid ((Blk.new w15 30 zlit 0 0 (Or.inl (Nat.le_refl _))).setAll (cs := rwC c) (by rw [rwC_size]; rfl))
  have HB18 := Lib.hid (Below.setCells (HB16.out.alloc HB16.out.size (.cells zlit 30)) HB16.out.size 0 (rwC c).toList)
  generalize World.setCells _ _ _ _ = w17 at HKx18 HKy18 HKz18 HIk18 HIl18 HIm18 HB18 ⊢
  have hge_z : w.heap.size ≤ w15.heap.size := HB16.out.size
  have hne_x_z : px ≠ w15.heap.size := Nat.ne_of_lt HKx16.out.lt
  have hne_y_z : py ≠ w15.heap.size := Nat.ne_of_lt HKy16.out.lt
  generalize w15.heap.size = pz at HKx18 HKy18 HKz18 hge_z hne_x_z hne_y_z ⊢
  clear HKx16 HKy16 HIk16 HIl16 HIm16 HB16
  go_wp2_with fail
  refine (OA.out _ HIk18.out).mono ?_
  rintro e w19 ⟨rfl, hb⟩
  have HKx20 := Lib.hid (HKx18.out.step hb)
  have HKy20 := Lib.hid (HKy18.out.step hb)
  have HKz20 := Lib.hid (HKz18.out.step hb)
  have HIk20 := Lib.hid (HIk18.out.up hb)
  have HIl20 := Lib.hid (HIl18.out.up hb)
  have HIm20 := Lib.hid (HIm18.out.up hb)
  have HB20 := Lib.hid (Below.step HB18.out hb)
  clear hb HKx18 HKy18 HKz18 HIk18 HIl18 HIm18 HB18
  go_wp2_with fail
  refine (OB.out _ HIl20.out).mono ?_
  rintro e w21 ⟨rfl, hb⟩
  have HKx22 := Lib.hid (HKx20.out.step hb)
  have HKy22 := Lib.hid (HKy20.out.step hb)
  have HKz22 := Lib.hid (HKz20.out.step hb)
  have HIk22 := Lib.hid (HIk20.out.up hb)
  have HIl22 := Lib.hid (HIl20.out.up hb)
  have HIm22 := Lib.hid (HIm20.out.up hb)
  have HB22 := Lib.hid (Below.step HB20.out hb)
  clear hb HKx20 HKy20 HKz20 HIk20 HIl20 HIm20 HB20
  go_wp2_with fail
  refine (OC.out _ HIm22.out).mono ?_
  rintro e w23 ⟨rfl, hb⟩
  have HKx24 := Lib.hid (HKx22.out.step hb)
  have HKy24 := Lib.hid (HKy22.out.step hb)
  have HKz24 := Lib.hid (HKz22.out.step hb)
  have HIk24 := Lib.hid (HIk22.out.up hb)
  have HIl24 := Lib.hid (HIl22.out.up hb)
  have HIm24 := Lib.hid (HIm22.out.up hb)
  have HB24 := Lib.hid (Below.step HB22.out hb)
  clear hb HKx22 HKy22 HKz22 HIk22 HIl22 HIm22 HB22
  go_wp2_with fail
  refine (UN.out _).mono ?_
  rintro e w25 ⟨rfl, hb⟩
  have HKx26 := Lib.hid (HKx24.out.step hb)
  have HKy26 := Lib.hid (HKy24.out.step hb)
  have HKz26 := Lib.hid (HKz24.out.step hb)
  have HIk26 := Lib.hid (HIk24.out.up hb)
  have HIl26 := Lib.hid (HIl24.out.up hb)
  have HIm26 := Lib.hid (HIm24.out.up hb)
  have HB26 := Lib.hid (Below.step HB24.out hb)
  clear hb HKx24 HKy24 HKz24 HIk24 HIl24 HIm24 HB24
  go_upto_region 7 with fail
  have HKx28 := Lib.hid (HKx26.out.alloc (.cells #[.int .u64 (u : Int)] 25))
  have HKy28 := Lib.hid (HKy26.out.alloc (.cells #[.int .u64 (u : Int)] 25))
  have HKz28 := Lib.hid (HKz26.out.alloc (.cells #[.int .u64 (u : Int)] 25))
  have HIk28 := Lib.hid (HIk26.out.up ((Below.refl _ w25).alloc (Nat.le_refl _) (.cells #[.int .u64 (u : Int)] 25)))
  have HIl28 := Lib.hid (HIl26.out.up ((Below.refl _ w25).alloc (Nat.le_refl _) (.cells #[.int .u64 (u : Int)] 25)))
  have HIm28 := Lib.hid (HIm26.out.up ((Below.refl _ w25).alloc (Nat.le_refl _) (.cells #[.int .u64 (u : Int)] 25)))
  have HKu28 := Lib.hid (Blk.new w25 25 #[.int .u64 (u : Int)] 0 0 (Or.inl (Nat.le_refl _)))
  have HB28 := Lib.hid (HB26.out.alloc HB26.out.size (.cells #[.int .u64 (u : Int)] 25))
  have hge_u : w.heap.size ≤ w25.heap.size := HB26.out.size
  have hne_x_u : px ≠ w25.heap.size := Nat.ne_of_lt HKx26.out.lt
  have hne_y_u : py ≠ w25.heap.size := Nat.ne_of_lt HKy26.out.lt
  have hne_z_u : pz ≠ w25.heap.size := Nat.ne_of_lt HKz26.out.lt
  generalize w25.heap.size = pu at HKx28 HKy28 HKz28 HKu28 hge_u hne_x_u hne_y_u hne_z_u ⊢
  generalize World.alloc _ _ = w27 at HKx28 HKy28 HKz28 HKu28 HIk28 HIl28 HIm28 HB28 ⊢
  clear HKx26 HKy26 HKz26 HIk26 HIl26 HIm26 HB26
  have hc_u := HKu28.out.cell 0
  go_wp2_with fail
  refine (OA.out _ HIk28.out).mono ?_
  rintro e w29 ⟨rfl, hb⟩
  (try clear hc_u)
  have HKx30 := Lib.hid (HKx28.out.step hb)
  have HKy30 := Lib.hid (HKy28.out.step hb)
  have HKz30 := Lib.hid (HKz28.out.step hb)
  have HKu30 := Lib.hid (HKu28.out.step hb)
  have HIk30 := Lib.hid (HIk28.out.up hb)
  have HIl30 := Lib.hid (HIl28.out.up hb)
  have HIm30 := Lib.hid (HIm28.out.up hb)
  have HB30 := Lib.hid (Below.step HB28.out hb)
  clear hb HKx28 HKy28 HKz28 HKu28 HIk28 HIl28 HIm28 HB28
  have hc_u := HKu30.out.cell 0
  go_wp2_with fail
  refine (OB.out _ HIl30.out).mono ?_
  rintro e w31 ⟨rfl, hb⟩
  (try clear hc_u)
  have HKx32 := Lib.hid (HKx30.out.step hb)
  have HKy32 := Lib.hid (HKy30.out.step hb)
  have HKz32 := Lib.hid (HKz30.out.step hb)
  have HKu32 := Lib.hid (HKu30.out.step hb)
  have HIk32 := Lib.hid (HIk30.out.up hb)
  have HIl32 := Lib.hid (HIl30.out.up hb)
  have HIm32 := Lib.hid (HIm30.out.up hb)
  have HB32 := Lib.hid (Below.step HB30.out hb)
  clear hb HKx30 HKy30 HKz30 HKu30 HIk30 HIl30 HIm30 HB30
  have hc_u := HKu32.out.cell 0
  go_wp2_with fail
  refine (MI.out _).mono ?_
  rintro e w33 ⟨rfl, hb⟩
  (try clear hc_u)
  have HKx34 := Lib.hid (HKx32.out.step hb)
  have HKy34 := Lib.hid (HKy32.out.step hb)
  have HKz34 := Lib.hid (HKz32.out.step hb)
  have HKu34 := Lib.hid (HKu32.out.step hb)
  have HIk34 := Lib.hid (HIk32.out.up hb)
  have HIl34 := Lib.hid (HIl32.out.up hb)
  have HIm34 := Lib.hid (HIm32.out.up hb)
  have HB34 := Lib.hid (Below.step HB32.out hb)
  clear hb HKx32 HKy32 HKz32 HKu32 HIk32 HIl32 HIm32 HB32
  have hc_u := HKu34.out.cell 0
  go_upto_region 8 with fail
  (try clear hc_u)
  have HKx36 := Lib.hid (HKx34.out.alloc (.cells #[.int .u64 (d : Int)] 25))
  have HKy36 := Lib.hid (HKy34.out.alloc (.cells #[.int .u64 (d : Int)] 25))
  have HKz36 := Lib.hid (HKz34.out.alloc (.cells #[.int .u64 (d : Int)] 25))
  have HKu36 := Lib.hid (HKu34.out.alloc (.cells #[.int .u64 (d : Int)] 25))
  have HIk36 := Lib.hid (HIk34.out.up ((Below.refl _ w33).alloc (Nat.le_refl _) (.cells #[.int .u64 (d : Int)] 25)))
  have HIl36 := Lib.hid (HIl34.out.up ((Below.refl _ w33).alloc (Nat.le_refl _) (.cells #[.int .u64 (d : Int)] 25)))
  have HIm36 := Lib.hid (HIm34.out.up ((Below.refl _ w33).alloc (Nat.le_refl _) (.cells #[.int .u64 (d : Int)] 25)))
  have HKd36 := Lib.hid (Blk.new w33 25 #[.int .u64 (d : Int)] 0 0 (Or.inl (Nat.le_refl _)))
  have HB36 := Lib.hid (HB34.out.alloc HB34.out.size (.cells #[.int .u64 (d : Int)] 25))
  have hge_d : w.heap.size ≤ w33.heap.size := HB34.out.size
  have hne_x_d : px ≠ w33.heap.size := Nat.ne_of_lt HKx34.out.lt
  have hne_y_d : py ≠ w33.heap.size := Nat.ne_of_lt HKy34.out.lt
  have hne_z_d : pz ≠ w33.heap.size := Nat.ne_of_lt HKz34.out.lt
  have hne_u_d : pu ≠ w33.heap.size := Nat.ne_of_lt HKu34.out.lt
  generalize w33.heap.size = pd at HKx36 HKy36 HKz36 HKu36 HKd36 hge_d hne_x_d hne_y_d hne_z_d hne_u_d ⊢
  generalize World.alloc _ _ = w35 at HKx36 HKy36 HKz36 HKu36 HKd36 HIk36 HIl36 HIm36 HB36 ⊢
  clear HKx34 HKy34 HKz34 HKu34 HIk34 HIl34 HIm34 HB34
  have hc_u := HKu36.out.cell 0
  have hc_d := HKd36.out.cell 0
  (try clear hc_u)
  (try clear hc_d)
  clear HIk36 HIl36 HIm36
  go_wp2
  go_loopw [12] (fun i wr => ∃ k : Nat, k ≤ 64 ∧ i = .int .i64 k ∧ Blk wr px 30 (rwC a) ∧ Blk wr py 30 (rwC b) ∧ Blk wr pz 30 (rwC c) ∧ Blk wr pu 25 #[.int .u64 (u : Int)] ∧ Blk wr pd 25 #[.int .u64 (d : Int)] ∧ Below w.heap.size w wr) (fun i _ => 64 - (intOf i).toNat)
  case atStart => exact ⟨0, by omega, rfl, HKx36.out, HKy36.out, HKz36.out, HKu36.out, HKd36.out, HB36.out⟩
  case round =>
    obtain ⟨i, hi, rfl, hkx, hky, hkz, hku, hkd, hbel⟩ := hrel
    have HKx := Lib.hid hkx
    have HKy := Lib.hid hky
    have HKz := Lib.hid hkz
    have HKu := Lib.hid hku
    have HKd := Lib.hid hkd
    have HB := Lib.hid hbel
    clear HKx36 HKy36 HKz36 HKu36 HKd36 HB36 hbel hkx hky hkz hku hkd
    by_cases hlt : i < 64
    · have hlt' : (i : Int) < 64 := by omega
      have HU1 := Lib.hid (HU.out i hlt)
      have HD1 := Lib.hid (HD.out i hlt)
      cases hbx : a.testBit i
      · cases hby : b.testBit i
        · cases hbz : c.testBit i
          · skip
            have HU2 := HU1.out
            have HD2 := HD1.out
            rw [hbx] at HU2 HD2
            rw [hby] at HU2 HD2
            rw [hbz] at HU2
            have HXz := Lib.hid (fun _ : Unit => hbz)
            have HXx := Lib.hid (fun _ : Unit => hbx)
            have HXy := Lib.hid (fun _ : Unit => hby)
            have HU3 : Hid (∀ w, Calls Try.prog 22 #[bv u, .int .i64 (i : Int)] w fun e w' => e = .returned (.bool false) ∧ Below w.heap.size w w') := Lib.hid (fun w => by have h := HU2 w; simpa using h)
            have HD3 : Hid (∀ w, Calls Try.prog 22 #[bv d, .int .i64 (i : Int)] w fun e w' => e = .returned (.bool false) ∧ Below w.heap.size w w') := Lib.hid (fun w => by have h := HD2 w; simpa using h)
            clear HU2 HD2 HU1 HD1 hbx hby hbz
            go_upto_region 11 with fail
            (try clear hc_u)
            (try clear hc_d)
            refine wp_region_noPanic ?_
            refine wp_region_held_drew (S := (fun w' => w'.cell? ⟨pu, 0, none⟩ = some (.int .u64 (u : Int)) ∧ w'.cell? ⟨pd, 0, none⟩ = some (.int .u64 (d : Int)) ∧ w'.cell? ⟨px, i, none⟩ = some (.bool false) ∧ w'.cell? ⟨py, i, none⟩ = some (.bool false) ∧ w'.cell? ⟨pz, i, none⟩ = some (.bool false))) (by kernel_rfl) (by first | exact ⟨(Blk.drew HKu.out).cell 0, (Blk.drew HKd.out).cell 0, rw_cell (Blk.drew HKx.out) hlt (HXx.out ()), rw_cell (Blk.drew HKy.out) hlt (HXy.out ()), rw_cell (Blk.drew HKz.out) hlt (HXz.out ())⟩) (fun hHeld => ?_)
            refine wpAnyH_take (i := 0) (oi := _) (v := ?vr1n0_1) rfl (by kernel_rfl) (by kernel_rfl) (by kernel_rfl) (fun _ _ _ h => h) (Or.inl ⟨by kernel_rfl, ?hr1n0_1⟩) hHeld ?_
            case hr1n0_1 => (intro w hSw; (try dsimp only at hSw); go_simp; try (with_reducible rfl))
            try simp only [List.getElem_toArray, List.getElem_cons_zero, List.getElem_cons_succ, Act.put, List.setIfInBounds_toArray, List.set_cons_zero, List.set_cons_succ]
            refine wpAnyH_take (i := 1) (oi := _) (v := ?vr1n1_2) rfl (by kernel_rfl) (by kernel_rfl) (by kernel_rfl) (fun _ _ _ h => h) (Or.inl ⟨by kernel_rfl, ?hr1n1_2⟩) hHeld ?_
            case hr1n1_2 => (intro w hSw; (try dsimp only at hSw); go_simp; try (with_reducible rfl))
            try simp only [List.getElem_toArray, List.getElem_cons_zero, List.getElem_cons_succ, Act.put, List.setIfInBounds_toArray, List.set_cons_zero, List.set_cons_succ]
            refine wpAnyH_take (i := 3) (oi := _) (v := ?vr1n3_3) rfl (by kernel_rfl) (by kernel_rfl) (by kernel_rfl) (fun _ _ _ h => h) (Or.inl ⟨by kernel_rfl, ?hr1n3_3⟩) hHeld ?_
            case hr1n3_3 => (intro w hSw; (try dsimp only at hSw); go_simp; try (with_reducible rfl))
            try simp only [List.getElem_toArray, List.getElem_cons_zero, List.getElem_cons_succ, Act.put, List.setIfInBounds_toArray, List.set_cons_zero, List.set_cons_succ]
            refine wpAnyH_take (i := 4) (oi := _) (v := ?vr1n4_4) rfl (by kernel_rfl) (by kernel_rfl) (by kernel_rfl) (fun _ _ _ h => h) (Or.inl ⟨by kernel_rfl, ?hr1n4_4⟩) hHeld ?_
            case hr1n4_4 => (intro w hSw; (try dsimp only at hSw); go_simp; try (with_reducible rfl))
            try simp only [List.getElem_toArray, List.getElem_cons_zero, List.getElem_cons_succ, Act.put, List.setIfInBounds_toArray, List.set_cons_zero, List.set_cons_succ]
            refine wpAnyH_take (i := 5) (oi := _) (v := ?vr1n5_5) rfl (by kernel_rfl) (by kernel_rfl) (by kernel_rfl) (fun _ _ _ h => h) (Or.inl ⟨by kernel_rfl, ?hr1n5_5⟩) hHeld ?_
            case hr1n5_5 => (intro w hSw; (try dsimp only at hSw); go_simp; try (with_reducible rfl))
            try simp only [List.getElem_toArray, List.getElem_cons_zero, List.getElem_cons_succ, Act.put, List.setIfInBounds_toArray, List.set_cons_zero, List.set_cons_succ]
            refine wpAnyH_ready (rs := [2]) (by kernel_rfl) (by simp) ?_
            refine AllReadyH.cons (o := _) rfl (fun K hK => ?_) AllReadyH.nil
            go_simp
            (go_at_call 22; refine (HU3.out _).mono ?_; rintro e w37 ⟨rfl, hb⟩; have hb := (Below.drewN (Below.refl _ wr) 1).trans hb; have HKx38 := Lib.hid (HKx.out.step hb); have HKy38 := Lib.hid (HKy.out.step hb); have HKz38 := Lib.hid (HKz.out.step hb); have HKu38 := Lib.hid (HKu.out.step hb); have HKd38 := Lib.hid (HKd.out.step hb); have HB38 := Lib.hid (Below.step HB.out hb); clear hb HKx HKy HKz HKu HKd HB)
            refine hK.out _ _ ?_ (fun hHeld1 => ?_)
            · (first | exact ⟨HKu38.out.cell 0, HKd38.out.cell 0, rw_cell HKx38.out hlt (HXx.out ()), rw_cell HKy38.out hlt (HXy.out ()), rw_cell HKz38.out hlt (HXz.out ())⟩)
            clear hHeld hK K
            try simp only [List.getElem_toArray, List.getElem_cons_zero, List.getElem_cons_succ, Act.put, List.setIfInBounds_toArray, List.set_cons_zero, List.set_cons_succ]
            refine wpAnyH_take (i := 6) (oi := _) (v := ?vr1n6_6) rfl (by kernel_rfl) (by kernel_rfl) (by kernel_rfl) (fun _ _ _ h => h) (Or.inl ⟨by kernel_rfl, ?hr1n6_6⟩) hHeld1 ?_
            case hr1n6_6 => (intro w hSw; (try dsimp only at hSw); go_simp; try (with_reducible rfl))
            try simp only [List.getElem_toArray, List.getElem_cons_zero, List.getElem_cons_succ, Act.put, List.setIfInBounds_toArray, List.set_cons_zero, List.set_cons_succ]
            refine wpAnyH_take (i := 7) (oi := _) (v := ?vr1n7_7) rfl (by kernel_rfl) (by kernel_rfl) (by kernel_rfl) (fun _ _ _ h => h) (Or.inl ⟨by kernel_rfl, ?hr1n7_7⟩) hHeld1 ?_
            case hr1n7_7 => (intro w hSw; (try dsimp only at hSw); go_simp; try (with_reducible rfl))
            try simp only [List.getElem_toArray, List.getElem_cons_zero, List.getElem_cons_succ, Act.put, List.setIfInBounds_toArray, List.set_cons_zero, List.set_cons_succ]
            refine wpAnyH_take (i := 8) (oi := _) (v := ?vr1n8_8) rfl (by kernel_rfl) (by kernel_rfl) (by kernel_rfl) (fun _ _ _ h => h) (Or.inl ⟨by kernel_rfl, ?hr1n8_8⟩) hHeld1 ?_
            case hr1n8_8 => (intro w hSw; (try dsimp only at hSw); go_simp; try (with_reducible rfl))
            try simp only [List.getElem_toArray, List.getElem_cons_zero, List.getElem_cons_succ, Act.put, List.setIfInBounds_toArray, List.set_cons_zero, List.set_cons_succ]
            refine wpAnyH_take (i := 9) (oi := _) (v := ?vr1n9_9) rfl (by kernel_rfl) (by kernel_rfl) (by kernel_rfl) (fun _ _ _ h => h) (Or.inl ⟨by kernel_rfl, ?hr1n9_9⟩) hHeld1 ?_
            case hr1n9_9 => (intro w hSw; (try dsimp only at hSw); go_simp; try (with_reducible rfl))
            try simp only [List.getElem_toArray, List.getElem_cons_zero, List.getElem_cons_succ, Act.put, List.setIfInBounds_toArray, List.set_cons_zero, List.set_cons_succ]
            refine wpAnyH_take (i := 10) (oi := _) (v := ?vr1n10_10) rfl (by kernel_rfl) (by kernel_rfl) (by kernel_rfl) (fun _ _ _ h => h) (Or.inl ⟨by kernel_rfl, ?hr1n10_10⟩) hHeld1 ?_
            case hr1n10_10 => (intro w hSw; (try dsimp only at hSw); go_simp; try (with_reducible rfl))
            try simp only [List.getElem_toArray, List.getElem_cons_zero, List.getElem_cons_succ, Act.put, List.setIfInBounds_toArray, List.set_cons_zero, List.set_cons_succ]
            refine wpAnyH_take (i := 11) (oi := _) (v := ?vr1n11_11) rfl (by kernel_rfl) (by kernel_rfl) (by kernel_rfl) (fun _ _ _ h => h) (Or.inl ⟨by kernel_rfl, ?hr1n11_11⟩) hHeld1 ?_
            case hr1n11_11 => (intro w hSw; (try dsimp only at hSw); go_simp; try (with_reducible rfl))
            try simp only [List.getElem_toArray, List.getElem_cons_zero, List.getElem_cons_succ, Act.put, List.setIfInBounds_toArray, List.set_cons_zero, List.set_cons_succ]
            refine wpAnyH_take (i := 12) (oi := _) (v := ?vr1n12_12) rfl (by kernel_rfl) (by kernel_rfl) (by kernel_rfl) (fun _ _ _ h => h) (Or.inl ⟨by kernel_rfl, ?hr1n12_12⟩) hHeld1 ?_
            case hr1n12_12 => (intro w hSw; (try dsimp only at hSw); go_simp; try (with_reducible rfl))
            try simp only [List.getElem_toArray, List.getElem_cons_zero, List.getElem_cons_succ, Act.put, List.setIfInBounds_toArray, List.set_cons_zero, List.set_cons_succ]
            refine wpAnyH_take (i := 13) (oi := _) (v := ?vr1n13_13) rfl (by kernel_rfl) (by kernel_rfl) (by kernel_rfl) (fun _ _ _ h => h) (Or.inl ⟨by kernel_rfl, ?hr1n13_13⟩) hHeld1 ?_
            case hr1n13_13 => (intro w hSw; (try dsimp only at hSw); go_simp; try (with_reducible rfl))
            try simp only [List.getElem_toArray, List.getElem_cons_zero, List.getElem_cons_succ, Act.put, List.setIfInBounds_toArray, List.set_cons_zero, List.set_cons_succ]
            refine wpAnyH_take (i := 14) (oi := _) (v := ?vr1n14_14) rfl (by kernel_rfl) (by kernel_rfl) (by kernel_rfl) (fun _ _ _ h => h) (Or.inl ⟨by kernel_rfl, ?hr1n14_14⟩) hHeld1 ?_
            case hr1n14_14 => (intro w hSw; (try dsimp only at hSw); go_simp; try (with_reducible rfl))
            try simp only [List.getElem_toArray, List.getElem_cons_zero, List.getElem_cons_succ, Act.put, List.setIfInBounds_toArray, List.set_cons_zero, List.set_cons_succ]
            refine wpAnyH_take (i := 15) (oi := _) (v := ?vr1n15_15) rfl (by kernel_rfl) (by kernel_rfl) (by kernel_rfl) (fun _ _ _ h => h) (Or.inl ⟨by kernel_rfl, ?hr1n15_15⟩) hHeld1 ?_
            case hr1n15_15 => (intro w hSw; (try dsimp only at hSw); go_simp; try (with_reducible rfl))
            try simp only [List.getElem_toArray, List.getElem_cons_zero, List.getElem_cons_succ, Act.put, List.setIfInBounds_toArray, List.set_cons_zero, List.set_cons_succ]
            refine wpAnyH_take (i := 16) (oi := _) (v := ?vr1n16_16) rfl (by kernel_rfl) (by kernel_rfl) (by kernel_rfl) (fun _ _ _ h => h) (Or.inl ⟨by kernel_rfl, ?hr1n16_16⟩) hHeld1 ?_
            case hr1n16_16 => (intro w hSw; (try dsimp only at hSw); go_simp; try (with_reducible rfl))
            try simp only [List.getElem_toArray, List.getElem_cons_zero, List.getElem_cons_succ, Act.put, List.setIfInBounds_toArray, List.set_cons_zero, List.set_cons_succ]
            refine wpAnyH_take (i := 17) (oi := _) (v := ?vr1n17_17) rfl (by kernel_rfl) (by kernel_rfl) (by kernel_rfl) (fun _ _ _ h => h) (Or.inl ⟨by kernel_rfl, ?hr1n17_17⟩) hHeld1 ?_
            case hr1n17_17 => (intro w hSw; (try dsimp only at hSw); go_simp; try (with_reducible rfl))
            try simp only [List.getElem_toArray, List.getElem_cons_zero, List.getElem_cons_succ, Act.put, List.setIfInBounds_toArray, List.set_cons_zero, List.set_cons_succ]
            refine wpAnyH_take (i := 18) (oi := _) (v := ?vr1n18_18) rfl (by kernel_rfl) (by kernel_rfl) (by kernel_rfl) (fun _ _ _ h => h) (Or.inl ⟨by kernel_rfl, ?hr1n18_18⟩) hHeld1 ?_
            case hr1n18_18 => (intro w hSw; (try dsimp only at hSw); go_simp; try (with_reducible rfl))
            try simp only [List.getElem_toArray, List.getElem_cons_zero, List.getElem_cons_succ, Act.put, List.setIfInBounds_toArray, List.set_cons_zero, List.set_cons_succ]
            refine wpAnyH_take (i := 19) (oi := _) (v := ?vr1n19_19) rfl (by kernel_rfl) (by kernel_rfl) (by kernel_rfl) (fun _ _ _ h => h) (Or.inl ⟨by kernel_rfl, ?hr1n19_19⟩) hHeld1 ?_
            case hr1n19_19 => (intro w hSw; (try dsimp only at hSw); go_simp; try (with_reducible rfl))
            try simp only [List.getElem_toArray, List.getElem_cons_zero, List.getElem_cons_succ, Act.put, List.setIfInBounds_toArray, List.set_cons_zero, List.set_cons_succ]
            refine wpAnyH_take (i := 21) (oi := _) (v := ?vr1n21_20) rfl (by kernel_rfl) (by kernel_rfl) (by kernel_rfl) (fun _ _ _ h => h) (Or.inl ⟨by kernel_rfl, ?hr1n21_20⟩) hHeld1 ?_
            case hr1n21_20 => (intro w hSw; (try dsimp only at hSw); go_simp; try (with_reducible rfl))
            try simp only [List.getElem_toArray, List.getElem_cons_zero, List.getElem_cons_succ, Act.put, List.setIfInBounds_toArray, List.set_cons_zero, List.set_cons_succ]
            refine wpAnyH_take (i := 22) (oi := _) (v := ?vr1n22_21) rfl (by kernel_rfl) (by kernel_rfl) (by kernel_rfl) (fun _ _ _ h => h) (Or.inl ⟨by kernel_rfl, ?hr1n22_21⟩) hHeld1 ?_
            case hr1n22_21 => (intro w hSw; (try dsimp only at hSw); go_simp; try (with_reducible rfl))
            try simp only [List.getElem_toArray, List.getElem_cons_zero, List.getElem_cons_succ, Act.put, List.setIfInBounds_toArray, List.set_cons_zero, List.set_cons_succ]
            refine wpAnyH_take (i := 23) (oi := _) (v := ?vr1n23_22) rfl (by kernel_rfl) (by kernel_rfl) (by kernel_rfl) (fun _ _ _ h => h) (Or.inl ⟨by kernel_rfl, ?hr1n23_22⟩) hHeld1 ?_
            case hr1n23_22 => (intro w hSw; (try dsimp only at hSw); go_simp; try (with_reducible rfl))
            try simp only [List.getElem_toArray, List.getElem_cons_zero, List.getElem_cons_succ, Act.put, List.setIfInBounds_toArray, List.set_cons_zero, List.set_cons_succ]
            refine wpAnyH_ready (rs := [20]) (by kernel_rfl) (by simp) ?_
            refine AllReadyH.cons (o := _) rfl (fun K hK => ?_) AllReadyH.nil
            go_simp
            (go_at_call 22; refine (HD3.out _).mono ?_; rintro e w39 ⟨rfl, hb⟩; have HKx40 := Lib.hid (HKx38.out.step hb); have HKy40 := Lib.hid (HKy38.out.step hb); have HKz40 := Lib.hid (HKz38.out.step hb); have HKu40 := Lib.hid (HKu38.out.step hb); have HKd40 := Lib.hid (HKd38.out.step hb); have HB40 := Lib.hid (Below.step HB38.out hb); clear hb HKx38 HKy38 HKz38 HKu38 HKd38 HB38)
            refine hK.out _ _ ?_ (fun hHeld2 => ?_)
            · (first | exact ⟨HKu40.out.cell 0, HKd40.out.cell 0, rw_cell HKx40.out hlt (HXx.out ()), rw_cell HKy40.out hlt (HXy.out ()), rw_cell HKz40.out hlt (HXz.out ())⟩)
            clear hHeld1 hK K
            try simp only [List.getElem_toArray, List.getElem_cons_zero, List.getElem_cons_succ, Act.put, List.setIfInBounds_toArray, List.set_cons_zero, List.set_cons_succ]
            refine wpAnyH_take (i := 24) (oi := _) (v := ?vr1n24_23) rfl (by kernel_rfl) (by kernel_rfl) (by kernel_rfl) (fun _ _ _ h => h) (Or.inl ⟨by kernel_rfl, ?hr1n24_23⟩) hHeld2 ?_
            case hr1n24_23 => (intro w hSw; (try dsimp only at hSw); go_simp; try (with_reducible rfl))
            try simp only [List.getElem_toArray, List.getElem_cons_zero, List.getElem_cons_succ, Act.put, List.setIfInBounds_toArray, List.set_cons_zero, List.set_cons_succ]
            refine wpAnyH_take (i := 25) (oi := _) (v := undef) rfl (by kernel_rfl) (by kernel_rfl) (by kernel_rfl) (fun _ _ _ h => h) (Or.inr ⟨by kernel_rfl, rfl⟩) hHeld2 ?_
            try simp only [List.getElem_toArray, List.getElem_cons_zero, List.getElem_cons_succ, Act.put, List.setIfInBounds_toArray, List.set_cons_zero, List.set_cons_succ]
            refine wpAnyH_take (i := 26) (oi := _) (v := undef) rfl (by kernel_rfl) (by kernel_rfl) (by kernel_rfl) (fun _ _ _ h => h) (Or.inr ⟨by kernel_rfl, rfl⟩) hHeld2 ?_
            try simp only [List.getElem_toArray, List.getElem_cons_zero, List.getElem_cons_succ, Act.put, List.setIfInBounds_toArray, List.set_cons_zero, List.set_cons_succ]
            refine wpAnyH_take (i := 27) (oi := _) (v := undef) rfl (by kernel_rfl) (by kernel_rfl) (by kernel_rfl) (fun _ _ _ h => h) (Or.inr ⟨by kernel_rfl, rfl⟩) hHeld2 ?_
            try simp only [List.getElem_toArray, List.getElem_cons_zero, List.getElem_cons_succ, Act.put, List.setIfInBounds_toArray, List.set_cons_zero, List.set_cons_succ]
            refine wpAnyH_take (i := 28) (oi := _) (v := undef) rfl (by kernel_rfl) (by kernel_rfl) (by kernel_rfl) (fun _ _ _ h => h) (Or.inr ⟨by kernel_rfl, rfl⟩) hHeld2 ?_
            try simp only [List.getElem_toArray, List.getElem_cons_zero, List.getElem_cons_succ, Act.put, List.setIfInBounds_toArray, List.set_cons_zero, List.set_cons_succ]
            refine wpAnyH_take (i := 29) (oi := _) (v := ?vr1n29_24) rfl (by kernel_rfl) (by kernel_rfl) (by kernel_rfl) (fun _ _ _ h => h) (Or.inl ⟨by kernel_rfl, ?hr1n29_24⟩) hHeld2 ?_
            case hr1n29_24 => (intro w hSw; (try dsimp only at hSw); go_simp; try (with_reducible rfl))
            try simp only [List.getElem_toArray, List.getElem_cons_zero, List.getElem_cons_succ, Act.put, List.setIfInBounds_toArray, List.set_cons_zero, List.set_cons_succ]
            refine wpAnyH_take (i := 30) (oi := _) (v := ?vr1n30_25) rfl (by kernel_rfl) (by kernel_rfl) (by kernel_rfl) (fun _ _ _ h => h) (Or.inl ⟨by kernel_rfl, ?hr1n30_25⟩) hHeld2 ?_
            case hr1n30_25 => (intro w hSw; (try dsimp only at hSw); go_simp; try (with_reducible rfl))
            try simp only [List.getElem_toArray, List.getElem_cons_zero, List.getElem_cons_succ, Act.put, List.setIfInBounds_toArray, List.set_cons_zero, List.set_cons_succ]
            refine wpAnyH_take (i := 31) (oi := _) (v := ?vr1n31_26) rfl (by kernel_rfl) (by kernel_rfl) (by kernel_rfl) (fun _ _ _ h => h) (Or.inl ⟨by kernel_rfl, ?hr1n31_26⟩) hHeld2 ?_
            case hr1n31_26 => (intro w hSw; (try dsimp only at hSw); go_simp; try (with_reducible rfl))
            try simp only [List.getElem_toArray, List.getElem_cons_zero, List.getElem_cons_succ, Act.put, List.setIfInBounds_toArray, List.set_cons_zero, List.set_cons_succ]
            refine wpAnyH_done (by kernel_rfl) ?_ _
            refine NoPanic.normal ?_
            go_wp2
            go_roundw
            case rel => exact ⟨i + 1, by omega, by go_num, HKx40.out, HKy40.out, HKz40.out, HKu40.out, HKd40.out, HB40.out⟩
            case measure => simp [intOf] <;> omega
          · skip
            have HU2 := HU1.out
            have HD2 := HD1.out
            rw [hbx] at HU2 HD2
            rw [hby] at HU2 HD2
            rw [hbz] at HU2
            have HXz := Lib.hid (fun _ : Unit => hbz)
            have HXx := Lib.hid (fun _ : Unit => hbx)
            have HXy := Lib.hid (fun _ : Unit => hby)
            have HU3 : Hid (∀ w, Calls Try.prog 22 #[bv u, .int .i64 (i : Int)] w fun e w' => e = .returned (.bool true) ∧ Below w.heap.size w w') := Lib.hid (fun w => by have h := HU2 w; simpa using h)
            have HD3 : Hid (∀ w, Calls Try.prog 22 #[bv d, .int .i64 (i : Int)] w fun e w' => e = .returned (.bool false) ∧ Below w.heap.size w w') := Lib.hid (fun w => by have h := HD2 w; simpa using h)
            clear HU2 HD2 HU1 HD1 hbx hby hbz
            go_upto_region 11 with fail
            (try clear hc_u)
            (try clear hc_d)
            refine wp_region_noPanic ?_
            refine wp_region_held_drew (S := (fun w' => w'.cell? ⟨pu, 0, none⟩ = some (.int .u64 (u : Int)) ∧ w'.cell? ⟨pd, 0, none⟩ = some (.int .u64 (d : Int)) ∧ w'.cell? ⟨px, i, none⟩ = some (.bool false) ∧ w'.cell? ⟨py, i, none⟩ = some (.bool false) ∧ w'.cell? ⟨pz, i, none⟩ = some (.bool true))) (by kernel_rfl) (by first | exact ⟨(Blk.drew HKu.out).cell 0, (Blk.drew HKd.out).cell 0, rw_cell (Blk.drew HKx.out) hlt (HXx.out ()), rw_cell (Blk.drew HKy.out) hlt (HXy.out ()), rw_cell (Blk.drew HKz.out) hlt (HXz.out ())⟩) (fun hHeld => ?_)
            refine wpAnyH_take (i := 0) (oi := _) (v := ?vr2n0_27) rfl (by kernel_rfl) (by kernel_rfl) (by kernel_rfl) (fun _ _ _ h => h) (Or.inl ⟨by kernel_rfl, ?hr2n0_27⟩) hHeld ?_
            case hr2n0_27 => (intro w hSw; (try dsimp only at hSw); go_simp; try (with_reducible rfl))
            try simp only [List.getElem_toArray, List.getElem_cons_zero, List.getElem_cons_succ, Act.put, List.setIfInBounds_toArray, List.set_cons_zero, List.set_cons_succ]
            refine wpAnyH_take (i := 1) (oi := _) (v := ?vr2n1_28) rfl (by kernel_rfl) (by kernel_rfl) (by kernel_rfl) (fun _ _ _ h => h) (Or.inl ⟨by kernel_rfl, ?hr2n1_28⟩) hHeld ?_
            case hr2n1_28 => (intro w hSw; (try dsimp only at hSw); go_simp; try (with_reducible rfl))
            try simp only [List.getElem_toArray, List.getElem_cons_zero, List.getElem_cons_succ, Act.put, List.setIfInBounds_toArray, List.set_cons_zero, List.set_cons_succ]
            refine wpAnyH_take (i := 3) (oi := _) (v := ?vr2n3_29) rfl (by kernel_rfl) (by kernel_rfl) (by kernel_rfl) (fun _ _ _ h => h) (Or.inl ⟨by kernel_rfl, ?hr2n3_29⟩) hHeld ?_
            case hr2n3_29 => (intro w hSw; (try dsimp only at hSw); go_simp; try (with_reducible rfl))
            try simp only [List.getElem_toArray, List.getElem_cons_zero, List.getElem_cons_succ, Act.put, List.setIfInBounds_toArray, List.set_cons_zero, List.set_cons_succ]
            refine wpAnyH_take (i := 4) (oi := _) (v := ?vr2n4_30) rfl (by kernel_rfl) (by kernel_rfl) (by kernel_rfl) (fun _ _ _ h => h) (Or.inl ⟨by kernel_rfl, ?hr2n4_30⟩) hHeld ?_
            case hr2n4_30 => (intro w hSw; (try dsimp only at hSw); go_simp; try (with_reducible rfl))
            try simp only [List.getElem_toArray, List.getElem_cons_zero, List.getElem_cons_succ, Act.put, List.setIfInBounds_toArray, List.set_cons_zero, List.set_cons_succ]
            refine wpAnyH_take (i := 5) (oi := _) (v := ?vr2n5_31) rfl (by kernel_rfl) (by kernel_rfl) (by kernel_rfl) (fun _ _ _ h => h) (Or.inl ⟨by kernel_rfl, ?hr2n5_31⟩) hHeld ?_
            case hr2n5_31 => (intro w hSw; (try dsimp only at hSw); go_simp; try (with_reducible rfl))
            try simp only [List.getElem_toArray, List.getElem_cons_zero, List.getElem_cons_succ, Act.put, List.setIfInBounds_toArray, List.set_cons_zero, List.set_cons_succ]
            refine wpAnyH_ready (rs := [2]) (by kernel_rfl) (by simp) ?_
            refine AllReadyH.cons (o := _) rfl (fun K hK => ?_) AllReadyH.nil
            go_simp
            (go_at_call 22; refine (HU3.out _).mono ?_; rintro e w41 ⟨rfl, hb⟩; have hb := (Below.drewN (Below.refl _ wr) 1).trans hb; have HKx42 := Lib.hid (HKx.out.step hb); have HKy42 := Lib.hid (HKy.out.step hb); have HKz42 := Lib.hid (HKz.out.step hb); have HKu42 := Lib.hid (HKu.out.step hb); have HKd42 := Lib.hid (HKd.out.step hb); have HB42 := Lib.hid (Below.step HB.out hb); clear hb HKx HKy HKz HKu HKd HB)
            refine hK.out _ _ ?_ (fun hHeld1 => ?_)
            · (first | exact ⟨HKu42.out.cell 0, HKd42.out.cell 0, rw_cell HKx42.out hlt (HXx.out ()), rw_cell HKy42.out hlt (HXy.out ()), rw_cell HKz42.out hlt (HXz.out ())⟩)
            clear hHeld hK K
            try simp only [List.getElem_toArray, List.getElem_cons_zero, List.getElem_cons_succ, Act.put, List.setIfInBounds_toArray, List.set_cons_zero, List.set_cons_succ]
            refine wpAnyH_take (i := 6) (oi := _) (v := ?vr2n6_32) rfl (by kernel_rfl) (by kernel_rfl) (by kernel_rfl) (fun _ _ _ h => h) (Or.inl ⟨by kernel_rfl, ?hr2n6_32⟩) hHeld1 ?_
            case hr2n6_32 => (intro w hSw; (try dsimp only at hSw); go_simp; try (with_reducible rfl))
            try simp only [List.getElem_toArray, List.getElem_cons_zero, List.getElem_cons_succ, Act.put, List.setIfInBounds_toArray, List.set_cons_zero, List.set_cons_succ]
            refine wpAnyH_take (i := 7) (oi := _) (v := ?vr2n7_33) rfl (by kernel_rfl) (by kernel_rfl) (by kernel_rfl) (fun _ _ _ h => h) (Or.inl ⟨by kernel_rfl, ?hr2n7_33⟩) hHeld1 ?_
            case hr2n7_33 => (intro w hSw; (try dsimp only at hSw); go_simp; try (with_reducible rfl))
            try simp only [List.getElem_toArray, List.getElem_cons_zero, List.getElem_cons_succ, Act.put, List.setIfInBounds_toArray, List.set_cons_zero, List.set_cons_succ]
            refine wpAnyH_take (i := 8) (oi := _) (v := ?vr2n8_34) rfl (by kernel_rfl) (by kernel_rfl) (by kernel_rfl) (fun _ _ _ h => h) (Or.inl ⟨by kernel_rfl, ?hr2n8_34⟩) hHeld1 ?_
            case hr2n8_34 => (intro w hSw; (try dsimp only at hSw); go_simp; try (with_reducible rfl))
            try simp only [List.getElem_toArray, List.getElem_cons_zero, List.getElem_cons_succ, Act.put, List.setIfInBounds_toArray, List.set_cons_zero, List.set_cons_succ]
            refine wpAnyH_take (i := 9) (oi := _) (v := ?vr2n9_35) rfl (by kernel_rfl) (by kernel_rfl) (by kernel_rfl) (fun _ _ _ h => h) (Or.inl ⟨by kernel_rfl, ?hr2n9_35⟩) hHeld1 ?_
            case hr2n9_35 => (intro w hSw; (try dsimp only at hSw); go_simp; try (with_reducible rfl))
            try simp only [List.getElem_toArray, List.getElem_cons_zero, List.getElem_cons_succ, Act.put, List.setIfInBounds_toArray, List.set_cons_zero, List.set_cons_succ]
            refine wpAnyH_take (i := 10) (oi := _) (v := ?vr2n10_36) rfl (by kernel_rfl) (by kernel_rfl) (by kernel_rfl) (fun _ _ _ h => h) (Or.inl ⟨by kernel_rfl, ?hr2n10_36⟩) hHeld1 ?_
            case hr2n10_36 => (intro w hSw; (try dsimp only at hSw); go_simp; try (with_reducible rfl))
            try simp only [List.getElem_toArray, List.getElem_cons_zero, List.getElem_cons_succ, Act.put, List.setIfInBounds_toArray, List.set_cons_zero, List.set_cons_succ]
            refine wpAnyH_take (i := 11) (oi := _) (v := ?vr2n11_37) rfl (by kernel_rfl) (by kernel_rfl) (by kernel_rfl) (fun _ _ _ h => h) (Or.inl ⟨by kernel_rfl, ?hr2n11_37⟩) hHeld1 ?_
            case hr2n11_37 => (intro w hSw; (try dsimp only at hSw); go_simp; try (with_reducible rfl))
            try simp only [List.getElem_toArray, List.getElem_cons_zero, List.getElem_cons_succ, Act.put, List.setIfInBounds_toArray, List.set_cons_zero, List.set_cons_succ]
            refine wpAnyH_take (i := 12) (oi := _) (v := ?vr2n12_38) rfl (by kernel_rfl) (by kernel_rfl) (by kernel_rfl) (fun _ _ _ h => h) (Or.inl ⟨by kernel_rfl, ?hr2n12_38⟩) hHeld1 ?_
            case hr2n12_38 => (intro w hSw; (try dsimp only at hSw); go_simp; try (with_reducible rfl))
            try simp only [List.getElem_toArray, List.getElem_cons_zero, List.getElem_cons_succ, Act.put, List.setIfInBounds_toArray, List.set_cons_zero, List.set_cons_succ]
            refine wpAnyH_take (i := 13) (oi := _) (v := ?vr2n13_39) rfl (by kernel_rfl) (by kernel_rfl) (by kernel_rfl) (fun _ _ _ h => h) (Or.inl ⟨by kernel_rfl, ?hr2n13_39⟩) hHeld1 ?_
            case hr2n13_39 => (intro w hSw; (try dsimp only at hSw); go_simp; try (with_reducible rfl))
            try simp only [List.getElem_toArray, List.getElem_cons_zero, List.getElem_cons_succ, Act.put, List.setIfInBounds_toArray, List.set_cons_zero, List.set_cons_succ]
            refine wpAnyH_take (i := 14) (oi := _) (v := ?vr2n14_40) rfl (by kernel_rfl) (by kernel_rfl) (by kernel_rfl) (fun _ _ _ h => h) (Or.inl ⟨by kernel_rfl, ?hr2n14_40⟩) hHeld1 ?_
            case hr2n14_40 => (intro w hSw; (try dsimp only at hSw); go_simp; try (with_reducible rfl))
            try simp only [List.getElem_toArray, List.getElem_cons_zero, List.getElem_cons_succ, Act.put, List.setIfInBounds_toArray, List.set_cons_zero, List.set_cons_succ]
            refine wpAnyH_take (i := 15) (oi := _) (v := ?vr2n15_41) rfl (by kernel_rfl) (by kernel_rfl) (by kernel_rfl) (fun _ _ _ h => h) (Or.inl ⟨by kernel_rfl, ?hr2n15_41⟩) hHeld1 ?_
            case hr2n15_41 => (intro w hSw; (try dsimp only at hSw); go_simp; try (with_reducible rfl))
            try simp only [List.getElem_toArray, List.getElem_cons_zero, List.getElem_cons_succ, Act.put, List.setIfInBounds_toArray, List.set_cons_zero, List.set_cons_succ]
            refine wpAnyH_take (i := 16) (oi := _) (v := ?vr2n16_42) rfl (by kernel_rfl) (by kernel_rfl) (by kernel_rfl) (fun _ _ _ h => h) (Or.inl ⟨by kernel_rfl, ?hr2n16_42⟩) hHeld1 ?_
            case hr2n16_42 => (intro w hSw; (try dsimp only at hSw); go_simp; try (with_reducible rfl))
            try simp only [List.getElem_toArray, List.getElem_cons_zero, List.getElem_cons_succ, Act.put, List.setIfInBounds_toArray, List.set_cons_zero, List.set_cons_succ]
            refine wpAnyH_take (i := 17) (oi := _) (v := ?vr2n17_43) rfl (by kernel_rfl) (by kernel_rfl) (by kernel_rfl) (fun _ _ _ h => h) (Or.inl ⟨by kernel_rfl, ?hr2n17_43⟩) hHeld1 ?_
            case hr2n17_43 => (intro w hSw; (try dsimp only at hSw); go_simp; try (with_reducible rfl))
            try simp only [List.getElem_toArray, List.getElem_cons_zero, List.getElem_cons_succ, Act.put, List.setIfInBounds_toArray, List.set_cons_zero, List.set_cons_succ]
            refine wpAnyH_take (i := 18) (oi := _) (v := ?vr2n18_44) rfl (by kernel_rfl) (by kernel_rfl) (by kernel_rfl) (fun _ _ _ h => h) (Or.inl ⟨by kernel_rfl, ?hr2n18_44⟩) hHeld1 ?_
            case hr2n18_44 => (intro w hSw; (try dsimp only at hSw); go_simp; try (with_reducible rfl))
            try simp only [List.getElem_toArray, List.getElem_cons_zero, List.getElem_cons_succ, Act.put, List.setIfInBounds_toArray, List.set_cons_zero, List.set_cons_succ]
            refine wpAnyH_take (i := 19) (oi := _) (v := ?vr2n19_45) rfl (by kernel_rfl) (by kernel_rfl) (by kernel_rfl) (fun _ _ _ h => h) (Or.inl ⟨by kernel_rfl, ?hr2n19_45⟩) hHeld1 ?_
            case hr2n19_45 => (intro w hSw; (try dsimp only at hSw); go_simp; try (with_reducible rfl))
            try simp only [List.getElem_toArray, List.getElem_cons_zero, List.getElem_cons_succ, Act.put, List.setIfInBounds_toArray, List.set_cons_zero, List.set_cons_succ]
            refine wpAnyH_take (i := 21) (oi := _) (v := ?vr2n21_46) rfl (by kernel_rfl) (by kernel_rfl) (by kernel_rfl) (fun _ _ _ h => h) (Or.inl ⟨by kernel_rfl, ?hr2n21_46⟩) hHeld1 ?_
            case hr2n21_46 => (intro w hSw; (try dsimp only at hSw); go_simp; try (with_reducible rfl))
            try simp only [List.getElem_toArray, List.getElem_cons_zero, List.getElem_cons_succ, Act.put, List.setIfInBounds_toArray, List.set_cons_zero, List.set_cons_succ]
            refine wpAnyH_take (i := 22) (oi := _) (v := ?vr2n22_47) rfl (by kernel_rfl) (by kernel_rfl) (by kernel_rfl) (fun _ _ _ h => h) (Or.inl ⟨by kernel_rfl, ?hr2n22_47⟩) hHeld1 ?_
            case hr2n22_47 => (intro w hSw; (try dsimp only at hSw); go_simp; try (with_reducible rfl))
            try simp only [List.getElem_toArray, List.getElem_cons_zero, List.getElem_cons_succ, Act.put, List.setIfInBounds_toArray, List.set_cons_zero, List.set_cons_succ]
            refine wpAnyH_take (i := 23) (oi := _) (v := ?vr2n23_48) rfl (by kernel_rfl) (by kernel_rfl) (by kernel_rfl) (fun _ _ _ h => h) (Or.inl ⟨by kernel_rfl, ?hr2n23_48⟩) hHeld1 ?_
            case hr2n23_48 => (intro w hSw; (try dsimp only at hSw); go_simp; try (with_reducible rfl))
            try simp only [List.getElem_toArray, List.getElem_cons_zero, List.getElem_cons_succ, Act.put, List.setIfInBounds_toArray, List.set_cons_zero, List.set_cons_succ]
            refine wpAnyH_ready (rs := [20]) (by kernel_rfl) (by simp) ?_
            refine AllReadyH.cons (o := _) rfl (fun K hK => ?_) AllReadyH.nil
            go_simp
            (go_at_call 22; refine (HD3.out _).mono ?_; rintro e w43 ⟨rfl, hb⟩; have HKx44 := Lib.hid (HKx42.out.step hb); have HKy44 := Lib.hid (HKy42.out.step hb); have HKz44 := Lib.hid (HKz42.out.step hb); have HKu44 := Lib.hid (HKu42.out.step hb); have HKd44 := Lib.hid (HKd42.out.step hb); have HB44 := Lib.hid (Below.step HB42.out hb); clear hb HKx42 HKy42 HKz42 HKu42 HKd42 HB42)
            refine hK.out _ _ ?_ (fun hHeld2 => ?_)
            · (first | exact ⟨HKu44.out.cell 0, HKd44.out.cell 0, rw_cell HKx44.out hlt (HXx.out ()), rw_cell HKy44.out hlt (HXy.out ()), rw_cell HKz44.out hlt (HXz.out ())⟩)
            clear hHeld1 hK K
            try simp only [List.getElem_toArray, List.getElem_cons_zero, List.getElem_cons_succ, Act.put, List.setIfInBounds_toArray, List.set_cons_zero, List.set_cons_succ]
            refine wpAnyH_take (i := 24) (oi := _) (v := ?vr2n24_49) rfl (by kernel_rfl) (by kernel_rfl) (by kernel_rfl) (fun _ _ _ h => h) (Or.inl ⟨by kernel_rfl, ?hr2n24_49⟩) hHeld2 ?_
            case hr2n24_49 => (intro w hSw; (try dsimp only at hSw); go_simp; try (with_reducible rfl))
            try simp only [List.getElem_toArray, List.getElem_cons_zero, List.getElem_cons_succ, Act.put, List.setIfInBounds_toArray, List.set_cons_zero, List.set_cons_succ]
            refine wpAnyH_take (i := 25) (oi := _) (v := undef) rfl (by kernel_rfl) (by kernel_rfl) (by kernel_rfl) (fun _ _ _ h => h) (Or.inr ⟨by kernel_rfl, rfl⟩) hHeld2 ?_
            try simp only [List.getElem_toArray, List.getElem_cons_zero, List.getElem_cons_succ, Act.put, List.setIfInBounds_toArray, List.set_cons_zero, List.set_cons_succ]
            refine wpAnyH_take (i := 26) (oi := _) (v := undef) rfl (by kernel_rfl) (by kernel_rfl) (by kernel_rfl) (fun _ _ _ h => h) (Or.inr ⟨by kernel_rfl, rfl⟩) hHeld2 ?_
            try simp only [List.getElem_toArray, List.getElem_cons_zero, List.getElem_cons_succ, Act.put, List.setIfInBounds_toArray, List.set_cons_zero, List.set_cons_succ]
            refine wpAnyH_take (i := 27) (oi := _) (v := undef) rfl (by kernel_rfl) (by kernel_rfl) (by kernel_rfl) (fun _ _ _ h => h) (Or.inr ⟨by kernel_rfl, rfl⟩) hHeld2 ?_
            try simp only [List.getElem_toArray, List.getElem_cons_zero, List.getElem_cons_succ, Act.put, List.setIfInBounds_toArray, List.set_cons_zero, List.set_cons_succ]
            refine wpAnyH_take (i := 28) (oi := _) (v := undef) rfl (by kernel_rfl) (by kernel_rfl) (by kernel_rfl) (fun _ _ _ h => h) (Or.inr ⟨by kernel_rfl, rfl⟩) hHeld2 ?_
            try simp only [List.getElem_toArray, List.getElem_cons_zero, List.getElem_cons_succ, Act.put, List.setIfInBounds_toArray, List.set_cons_zero, List.set_cons_succ]
            refine wpAnyH_take (i := 29) (oi := _) (v := ?vr2n29_50) rfl (by kernel_rfl) (by kernel_rfl) (by kernel_rfl) (fun _ _ _ h => h) (Or.inl ⟨by kernel_rfl, ?hr2n29_50⟩) hHeld2 ?_
            case hr2n29_50 => (intro w hSw; (try dsimp only at hSw); go_simp; try (with_reducible rfl))
            try simp only [List.getElem_toArray, List.getElem_cons_zero, List.getElem_cons_succ, Act.put, List.setIfInBounds_toArray, List.set_cons_zero, List.set_cons_succ]
            refine wpAnyH_take (i := 30) (oi := _) (v := ?vr2n30_51) rfl (by kernel_rfl) (by kernel_rfl) (by kernel_rfl) (fun _ _ _ h => h) (Or.inl ⟨by kernel_rfl, ?hr2n30_51⟩) hHeld2 ?_
            case hr2n30_51 => (intro w hSw; (try dsimp only at hSw); go_simp; try (with_reducible rfl))
            try simp only [List.getElem_toArray, List.getElem_cons_zero, List.getElem_cons_succ, Act.put, List.setIfInBounds_toArray, List.set_cons_zero, List.set_cons_succ]
            refine wpAnyH_take (i := 31) (oi := _) (v := ?vr2n31_52) rfl (by kernel_rfl) (by kernel_rfl) (by kernel_rfl) (fun _ _ _ h => h) (Or.inl ⟨by kernel_rfl, ?hr2n31_52⟩) hHeld2 ?_
            case hr2n31_52 => (intro w hSw; (try dsimp only at hSw); go_simp; try (with_reducible rfl))
            try simp only [List.getElem_toArray, List.getElem_cons_zero, List.getElem_cons_succ, Act.put, List.setIfInBounds_toArray, List.set_cons_zero, List.set_cons_succ]
            refine wpAnyH_done (by kernel_rfl) ?_ _
            refine NoPanic.normal ?_
            go_wp2
            go_roundw
            case rel => exact ⟨i + 1, by omega, by go_num, HKx44.out, HKy44.out, HKz44.out, HKu44.out, HKd44.out, HB44.out⟩
            case measure => simp [intOf] <;> omega
        · skip
          have HU2 := HU1.out
          have HD2 := HD1.out
          rw [hbx] at HU2 HD2
          rw [hby] at HU2 HD2
          have HXx := Lib.hid (fun _ : Unit => hbx)
          have HXy := Lib.hid (fun _ : Unit => hby)
          have HU3 : Hid (∀ w, Calls Try.prog 22 #[bv u, .int .i64 (i : Int)] w fun e w' => e = .returned (.bool true) ∧ Below w.heap.size w w') := Lib.hid (fun w => by have h := HU2 w; simpa using h)
          have HD3 : Hid (∀ w, Calls Try.prog 22 #[bv d, .int .i64 (i : Int)] w fun e w' => e = .returned (.bool false) ∧ Below w.heap.size w w') := Lib.hid (fun w => by have h := HD2 w; simpa using h)
          clear HU2 HD2 HU1 HD1 hbx hby
          go_upto_region 11 with fail
          (try clear hc_u)
          (try clear hc_d)
          refine wp_region_noPanic ?_
          refine wp_region_held_drew (S := (fun w' => w'.cell? ⟨pu, 0, none⟩ = some (.int .u64 (u : Int)) ∧ w'.cell? ⟨pd, 0, none⟩ = some (.int .u64 (d : Int)) ∧ w'.cell? ⟨px, i, none⟩ = some (.bool false) ∧ w'.cell? ⟨py, i, none⟩ = some (.bool true))) (by kernel_rfl) (by first | exact ⟨(Blk.drew HKu.out).cell 0, (Blk.drew HKd.out).cell 0, rw_cell (Blk.drew HKx.out) hlt (HXx.out ()), rw_cell (Blk.drew HKy.out) hlt (HXy.out ())⟩) (fun hHeld => ?_)
          refine wpAnyH_take (i := 0) (oi := _) (v := ?vr3n0_53) rfl (by kernel_rfl) (by kernel_rfl) (by kernel_rfl) (fun _ _ _ h => h) (Or.inl ⟨by kernel_rfl, ?hr3n0_53⟩) hHeld ?_
          case hr3n0_53 => (intro w hSw; (try dsimp only at hSw); go_simp; try (with_reducible rfl))
          try simp only [List.getElem_toArray, List.getElem_cons_zero, List.getElem_cons_succ, Act.put, List.setIfInBounds_toArray, List.set_cons_zero, List.set_cons_succ]
          refine wpAnyH_take (i := 1) (oi := _) (v := ?vr3n1_54) rfl (by kernel_rfl) (by kernel_rfl) (by kernel_rfl) (fun _ _ _ h => h) (Or.inl ⟨by kernel_rfl, ?hr3n1_54⟩) hHeld ?_
          case hr3n1_54 => (intro w hSw; (try dsimp only at hSw); go_simp; try (with_reducible rfl))
          try simp only [List.getElem_toArray, List.getElem_cons_zero, List.getElem_cons_succ, Act.put, List.setIfInBounds_toArray, List.set_cons_zero, List.set_cons_succ]
          refine wpAnyH_take (i := 3) (oi := _) (v := ?vr3n3_55) rfl (by kernel_rfl) (by kernel_rfl) (by kernel_rfl) (fun _ _ _ h => h) (Or.inl ⟨by kernel_rfl, ?hr3n3_55⟩) hHeld ?_
          case hr3n3_55 => (intro w hSw; (try dsimp only at hSw); go_simp; try (with_reducible rfl))
          try simp only [List.getElem_toArray, List.getElem_cons_zero, List.getElem_cons_succ, Act.put, List.setIfInBounds_toArray, List.set_cons_zero, List.set_cons_succ]
          refine wpAnyH_take (i := 4) (oi := _) (v := ?vr3n4_56) rfl (by kernel_rfl) (by kernel_rfl) (by kernel_rfl) (fun _ _ _ h => h) (Or.inl ⟨by kernel_rfl, ?hr3n4_56⟩) hHeld ?_
          case hr3n4_56 => (intro w hSw; (try dsimp only at hSw); go_simp; try (with_reducible rfl))
          try simp only [List.getElem_toArray, List.getElem_cons_zero, List.getElem_cons_succ, Act.put, List.setIfInBounds_toArray, List.set_cons_zero, List.set_cons_succ]
          refine wpAnyH_take (i := 5) (oi := _) (v := ?vr3n5_57) rfl (by kernel_rfl) (by kernel_rfl) (by kernel_rfl) (fun _ _ _ h => h) (Or.inl ⟨by kernel_rfl, ?hr3n5_57⟩) hHeld ?_
          case hr3n5_57 => (intro w hSw; (try dsimp only at hSw); go_simp; try (with_reducible rfl))
          try simp only [List.getElem_toArray, List.getElem_cons_zero, List.getElem_cons_succ, Act.put, List.setIfInBounds_toArray, List.set_cons_zero, List.set_cons_succ]
          refine wpAnyH_ready (rs := [2]) (by kernel_rfl) (by simp) ?_
          refine AllReadyH.cons (o := _) rfl (fun K hK => ?_) AllReadyH.nil
          go_simp
          (go_at_call 22; refine (HU3.out _).mono ?_; rintro e w45 ⟨rfl, hb⟩; have hb := (Below.drewN (Below.refl _ wr) 1).trans hb; have HKx46 := Lib.hid (HKx.out.step hb); have HKy46 := Lib.hid (HKy.out.step hb); have HKz46 := Lib.hid (HKz.out.step hb); have HKu46 := Lib.hid (HKu.out.step hb); have HKd46 := Lib.hid (HKd.out.step hb); have HB46 := Lib.hid (Below.step HB.out hb); clear hb HKx HKy HKz HKu HKd HB)
          refine hK.out _ _ ?_ (fun hHeld1 => ?_)
          · (first | exact ⟨HKu46.out.cell 0, HKd46.out.cell 0, rw_cell HKx46.out hlt (HXx.out ()), rw_cell HKy46.out hlt (HXy.out ())⟩)
          clear hHeld hK K
          try simp only [List.getElem_toArray, List.getElem_cons_zero, List.getElem_cons_succ, Act.put, List.setIfInBounds_toArray, List.set_cons_zero, List.set_cons_succ]
          refine wpAnyH_take (i := 6) (oi := _) (v := ?vr3n6_58) rfl (by kernel_rfl) (by kernel_rfl) (by kernel_rfl) (fun _ _ _ h => h) (Or.inl ⟨by kernel_rfl, ?hr3n6_58⟩) hHeld1 ?_
          case hr3n6_58 => (intro w hSw; (try dsimp only at hSw); go_simp; try (with_reducible rfl))
          try simp only [List.getElem_toArray, List.getElem_cons_zero, List.getElem_cons_succ, Act.put, List.setIfInBounds_toArray, List.set_cons_zero, List.set_cons_succ]
          refine wpAnyH_take (i := 7) (oi := _) (v := ?vr3n7_59) rfl (by kernel_rfl) (by kernel_rfl) (by kernel_rfl) (fun _ _ _ h => h) (Or.inl ⟨by kernel_rfl, ?hr3n7_59⟩) hHeld1 ?_
          case hr3n7_59 => (intro w hSw; (try dsimp only at hSw); go_simp; try (with_reducible rfl))
          try simp only [List.getElem_toArray, List.getElem_cons_zero, List.getElem_cons_succ, Act.put, List.setIfInBounds_toArray, List.set_cons_zero, List.set_cons_succ]
          refine wpAnyH_take (i := 8) (oi := _) (v := ?vr3n8_60) rfl (by kernel_rfl) (by kernel_rfl) (by kernel_rfl) (fun _ _ _ h => h) (Or.inl ⟨by kernel_rfl, ?hr3n8_60⟩) hHeld1 ?_
          case hr3n8_60 => (intro w hSw; (try dsimp only at hSw); go_simp; try (with_reducible rfl))
          try simp only [List.getElem_toArray, List.getElem_cons_zero, List.getElem_cons_succ, Act.put, List.setIfInBounds_toArray, List.set_cons_zero, List.set_cons_succ]
          refine wpAnyH_take (i := 9) (oi := _) (v := ?vr3n9_61) rfl (by kernel_rfl) (by kernel_rfl) (by kernel_rfl) (fun _ _ _ h => h) (Or.inl ⟨by kernel_rfl, ?hr3n9_61⟩) hHeld1 ?_
          case hr3n9_61 => (intro w hSw; (try dsimp only at hSw); go_simp; try (with_reducible rfl))
          try simp only [List.getElem_toArray, List.getElem_cons_zero, List.getElem_cons_succ, Act.put, List.setIfInBounds_toArray, List.set_cons_zero, List.set_cons_succ]
          refine wpAnyH_take (i := 10) (oi := _) (v := ?vr3n10_62) rfl (by kernel_rfl) (by kernel_rfl) (by kernel_rfl) (fun _ _ _ h => h) (Or.inl ⟨by kernel_rfl, ?hr3n10_62⟩) hHeld1 ?_
          case hr3n10_62 => (intro w hSw; (try dsimp only at hSw); go_simp; try (with_reducible rfl))
          try simp only [List.getElem_toArray, List.getElem_cons_zero, List.getElem_cons_succ, Act.put, List.setIfInBounds_toArray, List.set_cons_zero, List.set_cons_succ]
          refine wpAnyH_take (i := 11) (oi := _) (v := ?vr3n11_63) rfl (by kernel_rfl) (by kernel_rfl) (by kernel_rfl) (fun _ _ _ h => h) (Or.inl ⟨by kernel_rfl, ?hr3n11_63⟩) hHeld1 ?_
          case hr3n11_63 => (intro w hSw; (try dsimp only at hSw); go_simp; try (with_reducible rfl))
          try simp only [List.getElem_toArray, List.getElem_cons_zero, List.getElem_cons_succ, Act.put, List.setIfInBounds_toArray, List.set_cons_zero, List.set_cons_succ]
          refine wpAnyH_take (i := 12) (oi := _) (v := undef) rfl (by kernel_rfl) (by kernel_rfl) (by kernel_rfl) (fun _ _ _ h => h) (Or.inr ⟨by kernel_rfl, rfl⟩) hHeld1 ?_
          try simp only [List.getElem_toArray, List.getElem_cons_zero, List.getElem_cons_succ, Act.put, List.setIfInBounds_toArray, List.set_cons_zero, List.set_cons_succ]
          refine wpAnyH_take (i := 13) (oi := _) (v := undef) rfl (by kernel_rfl) (by kernel_rfl) (by kernel_rfl) (fun _ _ _ h => h) (Or.inr ⟨by kernel_rfl, rfl⟩) hHeld1 ?_
          try simp only [List.getElem_toArray, List.getElem_cons_zero, List.getElem_cons_succ, Act.put, List.setIfInBounds_toArray, List.set_cons_zero, List.set_cons_succ]
          refine wpAnyH_take (i := 14) (oi := _) (v := undef) rfl (by kernel_rfl) (by kernel_rfl) (by kernel_rfl) (fun _ _ _ h => h) (Or.inr ⟨by kernel_rfl, rfl⟩) hHeld1 ?_
          try simp only [List.getElem_toArray, List.getElem_cons_zero, List.getElem_cons_succ, Act.put, List.setIfInBounds_toArray, List.set_cons_zero, List.set_cons_succ]
          refine wpAnyH_take (i := 15) (oi := _) (v := ?vr3n15_64) rfl (by kernel_rfl) (by kernel_rfl) (by kernel_rfl) (fun _ _ _ h => h) (Or.inl ⟨by kernel_rfl, ?hr3n15_64⟩) hHeld1 ?_
          case hr3n15_64 => (intro w hSw; (try dsimp only at hSw); go_simp; try (with_reducible rfl))
          try simp only [List.getElem_toArray, List.getElem_cons_zero, List.getElem_cons_succ, Act.put, List.setIfInBounds_toArray, List.set_cons_zero, List.set_cons_succ]
          refine wpAnyH_take (i := 16) (oi := _) (v := ?vr3n16_65) rfl (by kernel_rfl) (by kernel_rfl) (by kernel_rfl) (fun _ _ _ h => h) (Or.inl ⟨by kernel_rfl, ?hr3n16_65⟩) hHeld1 ?_
          case hr3n16_65 => (intro w hSw; (try dsimp only at hSw); go_simp; try (with_reducible rfl))
          try simp only [List.getElem_toArray, List.getElem_cons_zero, List.getElem_cons_succ, Act.put, List.setIfInBounds_toArray, List.set_cons_zero, List.set_cons_succ]
          refine wpAnyH_take (i := 17) (oi := _) (v := ?vr3n17_66) rfl (by kernel_rfl) (by kernel_rfl) (by kernel_rfl) (fun _ _ _ h => h) (Or.inl ⟨by kernel_rfl, ?hr3n17_66⟩) hHeld1 ?_
          case hr3n17_66 => (intro w hSw; (try dsimp only at hSw); go_simp; try (with_reducible rfl))
          try simp only [List.getElem_toArray, List.getElem_cons_zero, List.getElem_cons_succ, Act.put, List.setIfInBounds_toArray, List.set_cons_zero, List.set_cons_succ]
          refine wpAnyH_take (i := 18) (oi := _) (v := ?vr3n18_67) rfl (by kernel_rfl) (by kernel_rfl) (by kernel_rfl) (fun _ _ _ h => h) (Or.inl ⟨by kernel_rfl, ?hr3n18_67⟩) hHeld1 ?_
          case hr3n18_67 => (intro w hSw; (try dsimp only at hSw); go_simp; try (with_reducible rfl))
          try simp only [List.getElem_toArray, List.getElem_cons_zero, List.getElem_cons_succ, Act.put, List.setIfInBounds_toArray, List.set_cons_zero, List.set_cons_succ]
          refine wpAnyH_take (i := 19) (oi := _) (v := ?vr3n19_68) rfl (by kernel_rfl) (by kernel_rfl) (by kernel_rfl) (fun _ _ _ h => h) (Or.inl ⟨by kernel_rfl, ?hr3n19_68⟩) hHeld1 ?_
          case hr3n19_68 => (intro w hSw; (try dsimp only at hSw); go_simp; try (with_reducible rfl))
          try simp only [List.getElem_toArray, List.getElem_cons_zero, List.getElem_cons_succ, Act.put, List.setIfInBounds_toArray, List.set_cons_zero, List.set_cons_succ]
          refine wpAnyH_take (i := 21) (oi := _) (v := ?vr3n21_69) rfl (by kernel_rfl) (by kernel_rfl) (by kernel_rfl) (fun _ _ _ h => h) (Or.inl ⟨by kernel_rfl, ?hr3n21_69⟩) hHeld1 ?_
          case hr3n21_69 => (intro w hSw; (try dsimp only at hSw); go_simp; try (with_reducible rfl))
          try simp only [List.getElem_toArray, List.getElem_cons_zero, List.getElem_cons_succ, Act.put, List.setIfInBounds_toArray, List.set_cons_zero, List.set_cons_succ]
          refine wpAnyH_take (i := 22) (oi := _) (v := ?vr3n22_70) rfl (by kernel_rfl) (by kernel_rfl) (by kernel_rfl) (fun _ _ _ h => h) (Or.inl ⟨by kernel_rfl, ?hr3n22_70⟩) hHeld1 ?_
          case hr3n22_70 => (intro w hSw; (try dsimp only at hSw); go_simp; try (with_reducible rfl))
          try simp only [List.getElem_toArray, List.getElem_cons_zero, List.getElem_cons_succ, Act.put, List.setIfInBounds_toArray, List.set_cons_zero, List.set_cons_succ]
          refine wpAnyH_take (i := 23) (oi := _) (v := ?vr3n23_71) rfl (by kernel_rfl) (by kernel_rfl) (by kernel_rfl) (fun _ _ _ h => h) (Or.inl ⟨by kernel_rfl, ?hr3n23_71⟩) hHeld1 ?_
          case hr3n23_71 => (intro w hSw; (try dsimp only at hSw); go_simp; try (with_reducible rfl))
          try simp only [List.getElem_toArray, List.getElem_cons_zero, List.getElem_cons_succ, Act.put, List.setIfInBounds_toArray, List.set_cons_zero, List.set_cons_succ]
          refine wpAnyH_ready (rs := [20]) (by kernel_rfl) (by simp) ?_
          refine AllReadyH.cons (o := _) rfl (fun K hK => ?_) AllReadyH.nil
          go_simp
          (go_at_call 22; refine (HD3.out _).mono ?_; rintro e w47 ⟨rfl, hb⟩; have HKx48 := Lib.hid (HKx46.out.step hb); have HKy48 := Lib.hid (HKy46.out.step hb); have HKz48 := Lib.hid (HKz46.out.step hb); have HKu48 := Lib.hid (HKu46.out.step hb); have HKd48 := Lib.hid (HKd46.out.step hb); have HB48 := Lib.hid (Below.step HB46.out hb); clear hb HKx46 HKy46 HKz46 HKu46 HKd46 HB46)
          refine hK.out _ _ ?_ (fun hHeld2 => ?_)
          · (first | exact ⟨HKu48.out.cell 0, HKd48.out.cell 0, rw_cell HKx48.out hlt (HXx.out ()), rw_cell HKy48.out hlt (HXy.out ())⟩)
          clear hHeld1 hK K
          try simp only [List.getElem_toArray, List.getElem_cons_zero, List.getElem_cons_succ, Act.put, List.setIfInBounds_toArray, List.set_cons_zero, List.set_cons_succ]
          refine wpAnyH_take (i := 24) (oi := _) (v := ?vr3n24_72) rfl (by kernel_rfl) (by kernel_rfl) (by kernel_rfl) (fun _ _ _ h => h) (Or.inl ⟨by kernel_rfl, ?hr3n24_72⟩) hHeld2 ?_
          case hr3n24_72 => (intro w hSw; (try dsimp only at hSw); go_simp; try (with_reducible rfl))
          try simp only [List.getElem_toArray, List.getElem_cons_zero, List.getElem_cons_succ, Act.put, List.setIfInBounds_toArray, List.set_cons_zero, List.set_cons_succ]
          refine wpAnyH_take (i := 25) (oi := _) (v := undef) rfl (by kernel_rfl) (by kernel_rfl) (by kernel_rfl) (fun _ _ _ h => h) (Or.inr ⟨by kernel_rfl, rfl⟩) hHeld2 ?_
          try simp only [List.getElem_toArray, List.getElem_cons_zero, List.getElem_cons_succ, Act.put, List.setIfInBounds_toArray, List.set_cons_zero, List.set_cons_succ]
          refine wpAnyH_take (i := 26) (oi := _) (v := undef) rfl (by kernel_rfl) (by kernel_rfl) (by kernel_rfl) (fun _ _ _ h => h) (Or.inr ⟨by kernel_rfl, rfl⟩) hHeld2 ?_
          try simp only [List.getElem_toArray, List.getElem_cons_zero, List.getElem_cons_succ, Act.put, List.setIfInBounds_toArray, List.set_cons_zero, List.set_cons_succ]
          refine wpAnyH_take (i := 27) (oi := _) (v := undef) rfl (by kernel_rfl) (by kernel_rfl) (by kernel_rfl) (fun _ _ _ h => h) (Or.inr ⟨by kernel_rfl, rfl⟩) hHeld2 ?_
          try simp only [List.getElem_toArray, List.getElem_cons_zero, List.getElem_cons_succ, Act.put, List.setIfInBounds_toArray, List.set_cons_zero, List.set_cons_succ]
          refine wpAnyH_take (i := 28) (oi := _) (v := undef) rfl (by kernel_rfl) (by kernel_rfl) (by kernel_rfl) (fun _ _ _ h => h) (Or.inr ⟨by kernel_rfl, rfl⟩) hHeld2 ?_
          try simp only [List.getElem_toArray, List.getElem_cons_zero, List.getElem_cons_succ, Act.put, List.setIfInBounds_toArray, List.set_cons_zero, List.set_cons_succ]
          refine wpAnyH_take (i := 29) (oi := _) (v := ?vr3n29_73) rfl (by kernel_rfl) (by kernel_rfl) (by kernel_rfl) (fun _ _ _ h => h) (Or.inl ⟨by kernel_rfl, ?hr3n29_73⟩) hHeld2 ?_
          case hr3n29_73 => (intro w hSw; (try dsimp only at hSw); go_simp; try (with_reducible rfl))
          try simp only [List.getElem_toArray, List.getElem_cons_zero, List.getElem_cons_succ, Act.put, List.setIfInBounds_toArray, List.set_cons_zero, List.set_cons_succ]
          refine wpAnyH_take (i := 30) (oi := _) (v := ?vr3n30_74) rfl (by kernel_rfl) (by kernel_rfl) (by kernel_rfl) (fun _ _ _ h => h) (Or.inl ⟨by kernel_rfl, ?hr3n30_74⟩) hHeld2 ?_
          case hr3n30_74 => (intro w hSw; (try dsimp only at hSw); go_simp; try (with_reducible rfl))
          try simp only [List.getElem_toArray, List.getElem_cons_zero, List.getElem_cons_succ, Act.put, List.setIfInBounds_toArray, List.set_cons_zero, List.set_cons_succ]
          refine wpAnyH_take (i := 31) (oi := _) (v := ?vr3n31_75) rfl (by kernel_rfl) (by kernel_rfl) (by kernel_rfl) (fun _ _ _ h => h) (Or.inl ⟨by kernel_rfl, ?hr3n31_75⟩) hHeld2 ?_
          case hr3n31_75 => (intro w hSw; (try dsimp only at hSw); go_simp; try (with_reducible rfl))
          try simp only [List.getElem_toArray, List.getElem_cons_zero, List.getElem_cons_succ, Act.put, List.setIfInBounds_toArray, List.set_cons_zero, List.set_cons_succ]
          refine wpAnyH_done (by kernel_rfl) ?_ _
          refine NoPanic.normal ?_
          go_wp2
          go_roundw
          case rel => exact ⟨i + 1, by omega, by go_num, HKx48.out, HKy48.out, HKz48.out, HKu48.out, HKd48.out, HB48.out⟩
          case measure => simp [intOf] <;> omega
      · cases hby : b.testBit i
        · skip
          have HU2 := HU1.out
          have HD2 := HD1.out
          rw [hbx] at HU2 HD2
          rw [hby] at HU2 HD2
          have HXx := Lib.hid (fun _ : Unit => hbx)
          have HXy := Lib.hid (fun _ : Unit => hby)
          have HU3 : Hid (∀ w, Calls Try.prog 22 #[bv u, .int .i64 (i : Int)] w fun e w' => e = .returned (.bool true) ∧ Below w.heap.size w w') := Lib.hid (fun w => by have h := HU2 w; simpa using h)
          have HD3 : Hid (∀ w, Calls Try.prog 22 #[bv d, .int .i64 (i : Int)] w fun e w' => e = .returned (.bool true) ∧ Below w.heap.size w w') := Lib.hid (fun w => by have h := HD2 w; simpa using h)
          clear HU2 HD2 HU1 HD1 hbx hby
          go_upto_region 11 with fail
          (try clear hc_u)
          (try clear hc_d)
          refine wp_region_noPanic ?_
          refine wp_region_held_drew (S := (fun w' => w'.cell? ⟨pu, 0, none⟩ = some (.int .u64 (u : Int)) ∧ w'.cell? ⟨pd, 0, none⟩ = some (.int .u64 (d : Int)) ∧ w'.cell? ⟨px, i, none⟩ = some (.bool true) ∧ w'.cell? ⟨py, i, none⟩ = some (.bool false))) (by kernel_rfl) (by first | exact ⟨(Blk.drew HKu.out).cell 0, (Blk.drew HKd.out).cell 0, rw_cell (Blk.drew HKx.out) hlt (HXx.out ()), rw_cell (Blk.drew HKy.out) hlt (HXy.out ())⟩) (fun hHeld => ?_)
          refine wpAnyH_take (i := 0) (oi := _) (v := ?vr4n0_76) rfl (by kernel_rfl) (by kernel_rfl) (by kernel_rfl) (fun _ _ _ h => h) (Or.inl ⟨by kernel_rfl, ?hr4n0_76⟩) hHeld ?_
          case hr4n0_76 => (intro w hSw; (try dsimp only at hSw); go_simp; try (with_reducible rfl))
          try simp only [List.getElem_toArray, List.getElem_cons_zero, List.getElem_cons_succ, Act.put, List.setIfInBounds_toArray, List.set_cons_zero, List.set_cons_succ]
          refine wpAnyH_take (i := 1) (oi := _) (v := ?vr4n1_77) rfl (by kernel_rfl) (by kernel_rfl) (by kernel_rfl) (fun _ _ _ h => h) (Or.inl ⟨by kernel_rfl, ?hr4n1_77⟩) hHeld ?_
          case hr4n1_77 => (intro w hSw; (try dsimp only at hSw); go_simp; try (with_reducible rfl))
          try simp only [List.getElem_toArray, List.getElem_cons_zero, List.getElem_cons_succ, Act.put, List.setIfInBounds_toArray, List.set_cons_zero, List.set_cons_succ]
          refine wpAnyH_take (i := 3) (oi := _) (v := ?vr4n3_78) rfl (by kernel_rfl) (by kernel_rfl) (by kernel_rfl) (fun _ _ _ h => h) (Or.inl ⟨by kernel_rfl, ?hr4n3_78⟩) hHeld ?_
          case hr4n3_78 => (intro w hSw; (try dsimp only at hSw); go_simp; try (with_reducible rfl))
          try simp only [List.getElem_toArray, List.getElem_cons_zero, List.getElem_cons_succ, Act.put, List.setIfInBounds_toArray, List.set_cons_zero, List.set_cons_succ]
          refine wpAnyH_take (i := 4) (oi := _) (v := ?vr4n4_79) rfl (by kernel_rfl) (by kernel_rfl) (by kernel_rfl) (fun _ _ _ h => h) (Or.inl ⟨by kernel_rfl, ?hr4n4_79⟩) hHeld ?_
          case hr4n4_79 => (intro w hSw; (try dsimp only at hSw); go_simp; try (with_reducible rfl))
          try simp only [List.getElem_toArray, List.getElem_cons_zero, List.getElem_cons_succ, Act.put, List.setIfInBounds_toArray, List.set_cons_zero, List.set_cons_succ]
          refine wpAnyH_take (i := 5) (oi := _) (v := ?vr4n5_80) rfl (by kernel_rfl) (by kernel_rfl) (by kernel_rfl) (fun _ _ _ h => h) (Or.inl ⟨by kernel_rfl, ?hr4n5_80⟩) hHeld ?_
          case hr4n5_80 => (intro w hSw; (try dsimp only at hSw); go_simp; try (with_reducible rfl))
          try simp only [List.getElem_toArray, List.getElem_cons_zero, List.getElem_cons_succ, Act.put, List.setIfInBounds_toArray, List.set_cons_zero, List.set_cons_succ]
          refine wpAnyH_ready (rs := [2]) (by kernel_rfl) (by simp) ?_
          refine AllReadyH.cons (o := _) rfl (fun K hK => ?_) AllReadyH.nil
          go_simp
          (go_at_call 22; refine (HU3.out _).mono ?_; rintro e w49 ⟨rfl, hb⟩; have hb := (Below.drewN (Below.refl _ wr) 1).trans hb; have HKx50 := Lib.hid (HKx.out.step hb); have HKy50 := Lib.hid (HKy.out.step hb); have HKz50 := Lib.hid (HKz.out.step hb); have HKu50 := Lib.hid (HKu.out.step hb); have HKd50 := Lib.hid (HKd.out.step hb); have HB50 := Lib.hid (Below.step HB.out hb); clear hb HKx HKy HKz HKu HKd HB)
          refine hK.out _ _ ?_ (fun hHeld1 => ?_)
          · (first | exact ⟨HKu50.out.cell 0, HKd50.out.cell 0, rw_cell HKx50.out hlt (HXx.out ()), rw_cell HKy50.out hlt (HXy.out ())⟩)
          clear hHeld hK K
          try simp only [List.getElem_toArray, List.getElem_cons_zero, List.getElem_cons_succ, Act.put, List.setIfInBounds_toArray, List.set_cons_zero, List.set_cons_succ]
          refine wpAnyH_take (i := 6) (oi := _) (v := ?vr4n6_81) rfl (by kernel_rfl) (by kernel_rfl) (by kernel_rfl) (fun _ _ _ h => h) (Or.inl ⟨by kernel_rfl, ?hr4n6_81⟩) hHeld1 ?_
          case hr4n6_81 => (intro w hSw; (try dsimp only at hSw); go_simp; try (with_reducible rfl))
          try simp only [List.getElem_toArray, List.getElem_cons_zero, List.getElem_cons_succ, Act.put, List.setIfInBounds_toArray, List.set_cons_zero, List.set_cons_succ]
          refine wpAnyH_take (i := 7) (oi := _) (v := undef) rfl (by kernel_rfl) (by kernel_rfl) (by kernel_rfl) (fun _ _ _ h => h) (Or.inr ⟨by kernel_rfl, rfl⟩) hHeld1 ?_
          try simp only [List.getElem_toArray, List.getElem_cons_zero, List.getElem_cons_succ, Act.put, List.setIfInBounds_toArray, List.set_cons_zero, List.set_cons_succ]
          refine wpAnyH_take (i := 8) (oi := _) (v := undef) rfl (by kernel_rfl) (by kernel_rfl) (by kernel_rfl) (fun _ _ _ h => h) (Or.inr ⟨by kernel_rfl, rfl⟩) hHeld1 ?_
          try simp only [List.getElem_toArray, List.getElem_cons_zero, List.getElem_cons_succ, Act.put, List.setIfInBounds_toArray, List.set_cons_zero, List.set_cons_succ]
          refine wpAnyH_take (i := 9) (oi := _) (v := undef) rfl (by kernel_rfl) (by kernel_rfl) (by kernel_rfl) (fun _ _ _ h => h) (Or.inr ⟨by kernel_rfl, rfl⟩) hHeld1 ?_
          try simp only [List.getElem_toArray, List.getElem_cons_zero, List.getElem_cons_succ, Act.put, List.setIfInBounds_toArray, List.set_cons_zero, List.set_cons_succ]
          refine wpAnyH_take (i := 10) (oi := _) (v := ?vr4n10_82) rfl (by kernel_rfl) (by kernel_rfl) (by kernel_rfl) (fun _ _ _ h => h) (Or.inl ⟨by kernel_rfl, ?hr4n10_82⟩) hHeld1 ?_
          case hr4n10_82 => (intro w hSw; (try dsimp only at hSw); go_simp; try (with_reducible rfl))
          try simp only [List.getElem_toArray, List.getElem_cons_zero, List.getElem_cons_succ, Act.put, List.setIfInBounds_toArray, List.set_cons_zero, List.set_cons_succ]
          refine wpAnyH_take (i := 11) (oi := _) (v := ?vr4n11_83) rfl (by kernel_rfl) (by kernel_rfl) (by kernel_rfl) (fun _ _ _ h => h) (Or.inl ⟨by kernel_rfl, ?hr4n11_83⟩) hHeld1 ?_
          case hr4n11_83 => (intro w hSw; (try dsimp only at hSw); go_simp; try (with_reducible rfl))
          try simp only [List.getElem_toArray, List.getElem_cons_zero, List.getElem_cons_succ, Act.put, List.setIfInBounds_toArray, List.set_cons_zero, List.set_cons_succ]
          refine wpAnyH_take (i := 12) (oi := _) (v := undef) rfl (by kernel_rfl) (by kernel_rfl) (by kernel_rfl) (fun _ _ _ h => h) (Or.inr ⟨by kernel_rfl, rfl⟩) hHeld1 ?_
          try simp only [List.getElem_toArray, List.getElem_cons_zero, List.getElem_cons_succ, Act.put, List.setIfInBounds_toArray, List.set_cons_zero, List.set_cons_succ]
          refine wpAnyH_take (i := 13) (oi := _) (v := undef) rfl (by kernel_rfl) (by kernel_rfl) (by kernel_rfl) (fun _ _ _ h => h) (Or.inr ⟨by kernel_rfl, rfl⟩) hHeld1 ?_
          try simp only [List.getElem_toArray, List.getElem_cons_zero, List.getElem_cons_succ, Act.put, List.setIfInBounds_toArray, List.set_cons_zero, List.set_cons_succ]
          refine wpAnyH_take (i := 14) (oi := _) (v := undef) rfl (by kernel_rfl) (by kernel_rfl) (by kernel_rfl) (fun _ _ _ h => h) (Or.inr ⟨by kernel_rfl, rfl⟩) hHeld1 ?_
          try simp only [List.getElem_toArray, List.getElem_cons_zero, List.getElem_cons_succ, Act.put, List.setIfInBounds_toArray, List.set_cons_zero, List.set_cons_succ]
          refine wpAnyH_take (i := 15) (oi := _) (v := ?vr4n15_84) rfl (by kernel_rfl) (by kernel_rfl) (by kernel_rfl) (fun _ _ _ h => h) (Or.inl ⟨by kernel_rfl, ?hr4n15_84⟩) hHeld1 ?_
          case hr4n15_84 => (intro w hSw; (try dsimp only at hSw); go_simp; try (with_reducible rfl))
          try simp only [List.getElem_toArray, List.getElem_cons_zero, List.getElem_cons_succ, Act.put, List.setIfInBounds_toArray, List.set_cons_zero, List.set_cons_succ]
          refine wpAnyH_take (i := 16) (oi := _) (v := ?vr4n16_85) rfl (by kernel_rfl) (by kernel_rfl) (by kernel_rfl) (fun _ _ _ h => h) (Or.inl ⟨by kernel_rfl, ?hr4n16_85⟩) hHeld1 ?_
          case hr4n16_85 => (intro w hSw; (try dsimp only at hSw); go_simp; try (with_reducible rfl))
          try simp only [List.getElem_toArray, List.getElem_cons_zero, List.getElem_cons_succ, Act.put, List.setIfInBounds_toArray, List.set_cons_zero, List.set_cons_succ]
          refine wpAnyH_take (i := 17) (oi := _) (v := ?vr4n17_86) rfl (by kernel_rfl) (by kernel_rfl) (by kernel_rfl) (fun _ _ _ h => h) (Or.inl ⟨by kernel_rfl, ?hr4n17_86⟩) hHeld1 ?_
          case hr4n17_86 => (intro w hSw; (try dsimp only at hSw); go_simp; try (with_reducible rfl))
          try simp only [List.getElem_toArray, List.getElem_cons_zero, List.getElem_cons_succ, Act.put, List.setIfInBounds_toArray, List.set_cons_zero, List.set_cons_succ]
          refine wpAnyH_take (i := 18) (oi := _) (v := ?vr4n18_87) rfl (by kernel_rfl) (by kernel_rfl) (by kernel_rfl) (fun _ _ _ h => h) (Or.inl ⟨by kernel_rfl, ?hr4n18_87⟩) hHeld1 ?_
          case hr4n18_87 => (intro w hSw; (try dsimp only at hSw); go_simp; try (with_reducible rfl))
          try simp only [List.getElem_toArray, List.getElem_cons_zero, List.getElem_cons_succ, Act.put, List.setIfInBounds_toArray, List.set_cons_zero, List.set_cons_succ]
          refine wpAnyH_take (i := 19) (oi := _) (v := ?vr4n19_88) rfl (by kernel_rfl) (by kernel_rfl) (by kernel_rfl) (fun _ _ _ h => h) (Or.inl ⟨by kernel_rfl, ?hr4n19_88⟩) hHeld1 ?_
          case hr4n19_88 => (intro w hSw; (try dsimp only at hSw); go_simp; try (with_reducible rfl))
          try simp only [List.getElem_toArray, List.getElem_cons_zero, List.getElem_cons_succ, Act.put, List.setIfInBounds_toArray, List.set_cons_zero, List.set_cons_succ]
          refine wpAnyH_take (i := 21) (oi := _) (v := ?vr4n21_89) rfl (by kernel_rfl) (by kernel_rfl) (by kernel_rfl) (fun _ _ _ h => h) (Or.inl ⟨by kernel_rfl, ?hr4n21_89⟩) hHeld1 ?_
          case hr4n21_89 => (intro w hSw; (try dsimp only at hSw); go_simp; try (with_reducible rfl))
          try simp only [List.getElem_toArray, List.getElem_cons_zero, List.getElem_cons_succ, Act.put, List.setIfInBounds_toArray, List.set_cons_zero, List.set_cons_succ]
          refine wpAnyH_take (i := 22) (oi := _) (v := ?vr4n22_90) rfl (by kernel_rfl) (by kernel_rfl) (by kernel_rfl) (fun _ _ _ h => h) (Or.inl ⟨by kernel_rfl, ?hr4n22_90⟩) hHeld1 ?_
          case hr4n22_90 => (intro w hSw; (try dsimp only at hSw); go_simp; try (with_reducible rfl))
          try simp only [List.getElem_toArray, List.getElem_cons_zero, List.getElem_cons_succ, Act.put, List.setIfInBounds_toArray, List.set_cons_zero, List.set_cons_succ]
          refine wpAnyH_take (i := 23) (oi := _) (v := ?vr4n23_91) rfl (by kernel_rfl) (by kernel_rfl) (by kernel_rfl) (fun _ _ _ h => h) (Or.inl ⟨by kernel_rfl, ?hr4n23_91⟩) hHeld1 ?_
          case hr4n23_91 => (intro w hSw; (try dsimp only at hSw); go_simp; try (with_reducible rfl))
          try simp only [List.getElem_toArray, List.getElem_cons_zero, List.getElem_cons_succ, Act.put, List.setIfInBounds_toArray, List.set_cons_zero, List.set_cons_succ]
          refine wpAnyH_ready (rs := [20]) (by kernel_rfl) (by simp) ?_
          refine AllReadyH.cons (o := _) rfl (fun K hK => ?_) AllReadyH.nil
          go_simp
          (go_at_call 22; refine (HD3.out _).mono ?_; rintro e w51 ⟨rfl, hb⟩; have HKx52 := Lib.hid (HKx50.out.step hb); have HKy52 := Lib.hid (HKy50.out.step hb); have HKz52 := Lib.hid (HKz50.out.step hb); have HKu52 := Lib.hid (HKu50.out.step hb); have HKd52 := Lib.hid (HKd50.out.step hb); have HB52 := Lib.hid (Below.step HB50.out hb); clear hb HKx50 HKy50 HKz50 HKu50 HKd50 HB50)
          refine hK.out _ _ ?_ (fun hHeld2 => ?_)
          · (first | exact ⟨HKu52.out.cell 0, HKd52.out.cell 0, rw_cell HKx52.out hlt (HXx.out ()), rw_cell HKy52.out hlt (HXy.out ())⟩)
          clear hHeld1 hK K
          try simp only [List.getElem_toArray, List.getElem_cons_zero, List.getElem_cons_succ, Act.put, List.setIfInBounds_toArray, List.set_cons_zero, List.set_cons_succ]
          refine wpAnyH_take (i := 24) (oi := _) (v := ?vr4n24_92) rfl (by kernel_rfl) (by kernel_rfl) (by kernel_rfl) (fun _ _ _ h => h) (Or.inl ⟨by kernel_rfl, ?hr4n24_92⟩) hHeld2 ?_
          case hr4n24_92 => (intro w hSw; (try dsimp only at hSw); go_simp; try (with_reducible rfl))
          try simp only [List.getElem_toArray, List.getElem_cons_zero, List.getElem_cons_succ, Act.put, List.setIfInBounds_toArray, List.set_cons_zero, List.set_cons_succ]
          refine wpAnyH_take (i := 25) (oi := _) (v := ?vr4n25_93) rfl (by kernel_rfl) (by kernel_rfl) (by kernel_rfl) (fun _ _ _ h => h) (Or.inl ⟨by kernel_rfl, ?hr4n25_93⟩) hHeld2 ?_
          case hr4n25_93 => (intro w hSw; (try dsimp only at hSw); go_simp; try (with_reducible rfl))
          try simp only [List.getElem_toArray, List.getElem_cons_zero, List.getElem_cons_succ, Act.put, List.setIfInBounds_toArray, List.set_cons_zero, List.set_cons_succ]
          refine wpAnyH_take (i := 26) (oi := _) (v := ?vr4n26_94) rfl (by kernel_rfl) (by kernel_rfl) (by kernel_rfl) (fun _ _ _ h => h) (Or.inl ⟨by kernel_rfl, ?hr4n26_94⟩) hHeld2 ?_
          case hr4n26_94 => (intro w hSw; (try dsimp only at hSw); go_simp; try (with_reducible rfl))
          try simp only [List.getElem_toArray, List.getElem_cons_zero, List.getElem_cons_succ, Act.put, List.setIfInBounds_toArray, List.set_cons_zero, List.set_cons_succ]
          refine wpAnyH_take (i := 27) (oi := _) (v := ?vr4n27_95) rfl (by kernel_rfl) (by kernel_rfl) (by kernel_rfl) (fun _ _ _ h => h) (Or.inl ⟨by kernel_rfl, ?hr4n27_95⟩) hHeld2 ?_
          case hr4n27_95 => (intro w hSw; (try dsimp only at hSw); go_simp; try (with_reducible rfl))
          try simp only [List.getElem_toArray, List.getElem_cons_zero, List.getElem_cons_succ, Act.put, List.setIfInBounds_toArray, List.set_cons_zero, List.set_cons_succ]
          refine wpAnyH_take (i := 28) (oi := _) (v := ?vr4n28_96) rfl (by kernel_rfl) (by kernel_rfl) (by kernel_rfl) (fun _ _ _ h => h) (Or.inl ⟨by kernel_rfl, ?hr4n28_96⟩) hHeld2 ?_
          case hr4n28_96 => (intro w hSw; (try dsimp only at hSw); go_simp; try (with_reducible rfl))
          try simp only [List.getElem_toArray, List.getElem_cons_zero, List.getElem_cons_succ, Act.put, List.setIfInBounds_toArray, List.set_cons_zero, List.set_cons_succ]
          refine wpAnyH_take (i := 29) (oi := _) (v := ?vr4n29_97) rfl (by kernel_rfl) (by kernel_rfl) (by kernel_rfl) (fun _ _ _ h => h) (Or.inl ⟨by kernel_rfl, ?hr4n29_97⟩) hHeld2 ?_
          case hr4n29_97 => (intro w hSw; (try dsimp only at hSw); go_simp; try (with_reducible rfl))
          try simp only [List.getElem_toArray, List.getElem_cons_zero, List.getElem_cons_succ, Act.put, List.setIfInBounds_toArray, List.set_cons_zero, List.set_cons_succ]
          refine wpAnyH_take (i := 30) (oi := _) (v := ?vr4n30_98) rfl (by kernel_rfl) (by kernel_rfl) (by kernel_rfl) (fun _ _ _ h => h) (Or.inl ⟨by kernel_rfl, ?hr4n30_98⟩) hHeld2 ?_
          case hr4n30_98 => (intro w hSw; (try dsimp only at hSw); go_simp; try (with_reducible rfl))
          try simp only [List.getElem_toArray, List.getElem_cons_zero, List.getElem_cons_succ, Act.put, List.setIfInBounds_toArray, List.set_cons_zero, List.set_cons_succ]
          refine wpAnyH_take (i := 31) (oi := _) (v := ?vr4n31_99) rfl (by kernel_rfl) (by kernel_rfl) (by kernel_rfl) (fun _ _ _ h => h) (Or.inl ⟨by kernel_rfl, ?hr4n31_99⟩) hHeld2 ?_
          case hr4n31_99 => (intro w hSw; (try dsimp only at hSw); go_simp; try (with_reducible rfl))
          try simp only [List.getElem_toArray, List.getElem_cons_zero, List.getElem_cons_succ, Act.put, List.setIfInBounds_toArray, List.set_cons_zero, List.set_cons_succ]
          refine wpAnyH_done (by kernel_rfl) ?_ _
          refine NoPanic.normal ?_
          go_wp2
          go_roundw
          case rel => exact ⟨i + 1, by omega, by go_num, HKx52.out, HKy52.out, HKz52.out, HKu52.out, HKd52.out, HB52.out⟩
          case measure => simp [intOf] <;> omega
        · skip
          have HU2 := HU1.out
          have HD2 := HD1.out
          rw [hbx] at HU2 HD2
          rw [hby] at HU2 HD2
          have HXx := Lib.hid (fun _ : Unit => hbx)
          have HXy := Lib.hid (fun _ : Unit => hby)
          have HU3 : Hid (∀ w, Calls Try.prog 22 #[bv u, .int .i64 (i : Int)] w fun e w' => e = .returned (.bool true) ∧ Below w.heap.size w w') := Lib.hid (fun w => by have h := HU2 w; simpa using h)
          have HD3 : Hid (∀ w, Calls Try.prog 22 #[bv d, .int .i64 (i : Int)] w fun e w' => e = .returned (.bool false) ∧ Below w.heap.size w w') := Lib.hid (fun w => by have h := HD2 w; simpa using h)
          clear HU2 HD2 HU1 HD1 hbx hby
          go_upto_region 11 with fail
          (try clear hc_u)
          (try clear hc_d)
          refine wp_region_noPanic ?_
          refine wp_region_held_drew (S := (fun w' => w'.cell? ⟨pu, 0, none⟩ = some (.int .u64 (u : Int)) ∧ w'.cell? ⟨pd, 0, none⟩ = some (.int .u64 (d : Int)) ∧ w'.cell? ⟨px, i, none⟩ = some (.bool true) ∧ w'.cell? ⟨py, i, none⟩ = some (.bool true))) (by kernel_rfl) (by first | exact ⟨(Blk.drew HKu.out).cell 0, (Blk.drew HKd.out).cell 0, rw_cell (Blk.drew HKx.out) hlt (HXx.out ()), rw_cell (Blk.drew HKy.out) hlt (HXy.out ())⟩) (fun hHeld => ?_)
          refine wpAnyH_take (i := 0) (oi := _) (v := ?vr5n0_100) rfl (by kernel_rfl) (by kernel_rfl) (by kernel_rfl) (fun _ _ _ h => h) (Or.inl ⟨by kernel_rfl, ?hr5n0_100⟩) hHeld ?_
          case hr5n0_100 => (intro w hSw; (try dsimp only at hSw); go_simp; try (with_reducible rfl))
          try simp only [List.getElem_toArray, List.getElem_cons_zero, List.getElem_cons_succ, Act.put, List.setIfInBounds_toArray, List.set_cons_zero, List.set_cons_succ]
          refine wpAnyH_take (i := 1) (oi := _) (v := ?vr5n1_101) rfl (by kernel_rfl) (by kernel_rfl) (by kernel_rfl) (fun _ _ _ h => h) (Or.inl ⟨by kernel_rfl, ?hr5n1_101⟩) hHeld ?_
          case hr5n1_101 => (intro w hSw; (try dsimp only at hSw); go_simp; try (with_reducible rfl))
          try simp only [List.getElem_toArray, List.getElem_cons_zero, List.getElem_cons_succ, Act.put, List.setIfInBounds_toArray, List.set_cons_zero, List.set_cons_succ]
          refine wpAnyH_take (i := 3) (oi := _) (v := ?vr5n3_102) rfl (by kernel_rfl) (by kernel_rfl) (by kernel_rfl) (fun _ _ _ h => h) (Or.inl ⟨by kernel_rfl, ?hr5n3_102⟩) hHeld ?_
          case hr5n3_102 => (intro w hSw; (try dsimp only at hSw); go_simp; try (with_reducible rfl))
          try simp only [List.getElem_toArray, List.getElem_cons_zero, List.getElem_cons_succ, Act.put, List.setIfInBounds_toArray, List.set_cons_zero, List.set_cons_succ]
          refine wpAnyH_take (i := 4) (oi := _) (v := ?vr5n4_103) rfl (by kernel_rfl) (by kernel_rfl) (by kernel_rfl) (fun _ _ _ h => h) (Or.inl ⟨by kernel_rfl, ?hr5n4_103⟩) hHeld ?_
          case hr5n4_103 => (intro w hSw; (try dsimp only at hSw); go_simp; try (with_reducible rfl))
          try simp only [List.getElem_toArray, List.getElem_cons_zero, List.getElem_cons_succ, Act.put, List.setIfInBounds_toArray, List.set_cons_zero, List.set_cons_succ]
          refine wpAnyH_take (i := 5) (oi := _) (v := ?vr5n5_104) rfl (by kernel_rfl) (by kernel_rfl) (by kernel_rfl) (fun _ _ _ h => h) (Or.inl ⟨by kernel_rfl, ?hr5n5_104⟩) hHeld ?_
          case hr5n5_104 => (intro w hSw; (try dsimp only at hSw); go_simp; try (with_reducible rfl))
          try simp only [List.getElem_toArray, List.getElem_cons_zero, List.getElem_cons_succ, Act.put, List.setIfInBounds_toArray, List.set_cons_zero, List.set_cons_succ]
          refine wpAnyH_ready (rs := [2]) (by kernel_rfl) (by simp) ?_
          refine AllReadyH.cons (o := _) rfl (fun K hK => ?_) AllReadyH.nil
          go_simp
          (go_at_call 22; refine (HU3.out _).mono ?_; rintro e w53 ⟨rfl, hb⟩; have hb := (Below.drewN (Below.refl _ wr) 1).trans hb; have HKx54 := Lib.hid (HKx.out.step hb); have HKy54 := Lib.hid (HKy.out.step hb); have HKz54 := Lib.hid (HKz.out.step hb); have HKu54 := Lib.hid (HKu.out.step hb); have HKd54 := Lib.hid (HKd.out.step hb); have HB54 := Lib.hid (Below.step HB.out hb); clear hb HKx HKy HKz HKu HKd HB)
          refine hK.out _ _ ?_ (fun hHeld1 => ?_)
          · (first | exact ⟨HKu54.out.cell 0, HKd54.out.cell 0, rw_cell HKx54.out hlt (HXx.out ()), rw_cell HKy54.out hlt (HXy.out ())⟩)
          clear hHeld hK K
          try simp only [List.getElem_toArray, List.getElem_cons_zero, List.getElem_cons_succ, Act.put, List.setIfInBounds_toArray, List.set_cons_zero, List.set_cons_succ]
          refine wpAnyH_take (i := 6) (oi := _) (v := ?vr5n6_105) rfl (by kernel_rfl) (by kernel_rfl) (by kernel_rfl) (fun _ _ _ h => h) (Or.inl ⟨by kernel_rfl, ?hr5n6_105⟩) hHeld1 ?_
          case hr5n6_105 => (intro w hSw; (try dsimp only at hSw); go_simp; try (with_reducible rfl))
          try simp only [List.getElem_toArray, List.getElem_cons_zero, List.getElem_cons_succ, Act.put, List.setIfInBounds_toArray, List.set_cons_zero, List.set_cons_succ]
          refine wpAnyH_take (i := 7) (oi := _) (v := undef) rfl (by kernel_rfl) (by kernel_rfl) (by kernel_rfl) (fun _ _ _ h => h) (Or.inr ⟨by kernel_rfl, rfl⟩) hHeld1 ?_
          try simp only [List.getElem_toArray, List.getElem_cons_zero, List.getElem_cons_succ, Act.put, List.setIfInBounds_toArray, List.set_cons_zero, List.set_cons_succ]
          refine wpAnyH_take (i := 8) (oi := _) (v := undef) rfl (by kernel_rfl) (by kernel_rfl) (by kernel_rfl) (fun _ _ _ h => h) (Or.inr ⟨by kernel_rfl, rfl⟩) hHeld1 ?_
          try simp only [List.getElem_toArray, List.getElem_cons_zero, List.getElem_cons_succ, Act.put, List.setIfInBounds_toArray, List.set_cons_zero, List.set_cons_succ]
          refine wpAnyH_take (i := 9) (oi := _) (v := undef) rfl (by kernel_rfl) (by kernel_rfl) (by kernel_rfl) (fun _ _ _ h => h) (Or.inr ⟨by kernel_rfl, rfl⟩) hHeld1 ?_
          try simp only [List.getElem_toArray, List.getElem_cons_zero, List.getElem_cons_succ, Act.put, List.setIfInBounds_toArray, List.set_cons_zero, List.set_cons_succ]
          refine wpAnyH_take (i := 10) (oi := _) (v := ?vr5n10_106) rfl (by kernel_rfl) (by kernel_rfl) (by kernel_rfl) (fun _ _ _ h => h) (Or.inl ⟨by kernel_rfl, ?hr5n10_106⟩) hHeld1 ?_
          case hr5n10_106 => (intro w hSw; (try dsimp only at hSw); go_simp; try (with_reducible rfl))
          try simp only [List.getElem_toArray, List.getElem_cons_zero, List.getElem_cons_succ, Act.put, List.setIfInBounds_toArray, List.set_cons_zero, List.set_cons_succ]
          refine wpAnyH_take (i := 11) (oi := _) (v := ?vr5n11_107) rfl (by kernel_rfl) (by kernel_rfl) (by kernel_rfl) (fun _ _ _ h => h) (Or.inl ⟨by kernel_rfl, ?hr5n11_107⟩) hHeld1 ?_
          case hr5n11_107 => (intro w hSw; (try dsimp only at hSw); go_simp; try (with_reducible rfl))
          try simp only [List.getElem_toArray, List.getElem_cons_zero, List.getElem_cons_succ, Act.put, List.setIfInBounds_toArray, List.set_cons_zero, List.set_cons_succ]
          refine wpAnyH_take (i := 12) (oi := _) (v := undef) rfl (by kernel_rfl) (by kernel_rfl) (by kernel_rfl) (fun _ _ _ h => h) (Or.inr ⟨by kernel_rfl, rfl⟩) hHeld1 ?_
          try simp only [List.getElem_toArray, List.getElem_cons_zero, List.getElem_cons_succ, Act.put, List.setIfInBounds_toArray, List.set_cons_zero, List.set_cons_succ]
          refine wpAnyH_take (i := 13) (oi := _) (v := undef) rfl (by kernel_rfl) (by kernel_rfl) (by kernel_rfl) (fun _ _ _ h => h) (Or.inr ⟨by kernel_rfl, rfl⟩) hHeld1 ?_
          try simp only [List.getElem_toArray, List.getElem_cons_zero, List.getElem_cons_succ, Act.put, List.setIfInBounds_toArray, List.set_cons_zero, List.set_cons_succ]
          refine wpAnyH_take (i := 14) (oi := _) (v := undef) rfl (by kernel_rfl) (by kernel_rfl) (by kernel_rfl) (fun _ _ _ h => h) (Or.inr ⟨by kernel_rfl, rfl⟩) hHeld1 ?_
          try simp only [List.getElem_toArray, List.getElem_cons_zero, List.getElem_cons_succ, Act.put, List.setIfInBounds_toArray, List.set_cons_zero, List.set_cons_succ]
          refine wpAnyH_take (i := 15) (oi := _) (v := ?vr5n15_108) rfl (by kernel_rfl) (by kernel_rfl) (by kernel_rfl) (fun _ _ _ h => h) (Or.inl ⟨by kernel_rfl, ?hr5n15_108⟩) hHeld1 ?_
          case hr5n15_108 => (intro w hSw; (try dsimp only at hSw); go_simp; try (with_reducible rfl))
          try simp only [List.getElem_toArray, List.getElem_cons_zero, List.getElem_cons_succ, Act.put, List.setIfInBounds_toArray, List.set_cons_zero, List.set_cons_succ]
          refine wpAnyH_take (i := 16) (oi := _) (v := ?vr5n16_109) rfl (by kernel_rfl) (by kernel_rfl) (by kernel_rfl) (fun _ _ _ h => h) (Or.inl ⟨by kernel_rfl, ?hr5n16_109⟩) hHeld1 ?_
          case hr5n16_109 => (intro w hSw; (try dsimp only at hSw); go_simp; try (with_reducible rfl))
          try simp only [List.getElem_toArray, List.getElem_cons_zero, List.getElem_cons_succ, Act.put, List.setIfInBounds_toArray, List.set_cons_zero, List.set_cons_succ]
          refine wpAnyH_take (i := 17) (oi := _) (v := ?vr5n17_110) rfl (by kernel_rfl) (by kernel_rfl) (by kernel_rfl) (fun _ _ _ h => h) (Or.inl ⟨by kernel_rfl, ?hr5n17_110⟩) hHeld1 ?_
          case hr5n17_110 => (intro w hSw; (try dsimp only at hSw); go_simp; try (with_reducible rfl))
          try simp only [List.getElem_toArray, List.getElem_cons_zero, List.getElem_cons_succ, Act.put, List.setIfInBounds_toArray, List.set_cons_zero, List.set_cons_succ]
          refine wpAnyH_take (i := 18) (oi := _) (v := ?vr5n18_111) rfl (by kernel_rfl) (by kernel_rfl) (by kernel_rfl) (fun _ _ _ h => h) (Or.inl ⟨by kernel_rfl, ?hr5n18_111⟩) hHeld1 ?_
          case hr5n18_111 => (intro w hSw; (try dsimp only at hSw); go_simp; try (with_reducible rfl))
          try simp only [List.getElem_toArray, List.getElem_cons_zero, List.getElem_cons_succ, Act.put, List.setIfInBounds_toArray, List.set_cons_zero, List.set_cons_succ]
          refine wpAnyH_take (i := 19) (oi := _) (v := ?vr5n19_112) rfl (by kernel_rfl) (by kernel_rfl) (by kernel_rfl) (fun _ _ _ h => h) (Or.inl ⟨by kernel_rfl, ?hr5n19_112⟩) hHeld1 ?_
          case hr5n19_112 => (intro w hSw; (try dsimp only at hSw); go_simp; try (with_reducible rfl))
          try simp only [List.getElem_toArray, List.getElem_cons_zero, List.getElem_cons_succ, Act.put, List.setIfInBounds_toArray, List.set_cons_zero, List.set_cons_succ]
          refine wpAnyH_take (i := 21) (oi := _) (v := ?vr5n21_113) rfl (by kernel_rfl) (by kernel_rfl) (by kernel_rfl) (fun _ _ _ h => h) (Or.inl ⟨by kernel_rfl, ?hr5n21_113⟩) hHeld1 ?_
          case hr5n21_113 => (intro w hSw; (try dsimp only at hSw); go_simp; try (with_reducible rfl))
          try simp only [List.getElem_toArray, List.getElem_cons_zero, List.getElem_cons_succ, Act.put, List.setIfInBounds_toArray, List.set_cons_zero, List.set_cons_succ]
          refine wpAnyH_take (i := 22) (oi := _) (v := ?vr5n22_114) rfl (by kernel_rfl) (by kernel_rfl) (by kernel_rfl) (fun _ _ _ h => h) (Or.inl ⟨by kernel_rfl, ?hr5n22_114⟩) hHeld1 ?_
          case hr5n22_114 => (intro w hSw; (try dsimp only at hSw); go_simp; try (with_reducible rfl))
          try simp only [List.getElem_toArray, List.getElem_cons_zero, List.getElem_cons_succ, Act.put, List.setIfInBounds_toArray, List.set_cons_zero, List.set_cons_succ]
          refine wpAnyH_take (i := 23) (oi := _) (v := ?vr5n23_115) rfl (by kernel_rfl) (by kernel_rfl) (by kernel_rfl) (fun _ _ _ h => h) (Or.inl ⟨by kernel_rfl, ?hr5n23_115⟩) hHeld1 ?_
          case hr5n23_115 => (intro w hSw; (try dsimp only at hSw); go_simp; try (with_reducible rfl))
          try simp only [List.getElem_toArray, List.getElem_cons_zero, List.getElem_cons_succ, Act.put, List.setIfInBounds_toArray, List.set_cons_zero, List.set_cons_succ]
          refine wpAnyH_ready (rs := [20]) (by kernel_rfl) (by simp) ?_
          refine AllReadyH.cons (o := _) rfl (fun K hK => ?_) AllReadyH.nil
          go_simp
          (go_at_call 22; refine (HD3.out _).mono ?_; rintro e w55 ⟨rfl, hb⟩; have HKx56 := Lib.hid (HKx54.out.step hb); have HKy56 := Lib.hid (HKy54.out.step hb); have HKz56 := Lib.hid (HKz54.out.step hb); have HKu56 := Lib.hid (HKu54.out.step hb); have HKd56 := Lib.hid (HKd54.out.step hb); have HB56 := Lib.hid (Below.step HB54.out hb); clear hb HKx54 HKy54 HKz54 HKu54 HKd54 HB54)
          refine hK.out _ _ ?_ (fun hHeld2 => ?_)
          · (first | exact ⟨HKu56.out.cell 0, HKd56.out.cell 0, rw_cell HKx56.out hlt (HXx.out ()), rw_cell HKy56.out hlt (HXy.out ())⟩)
          clear hHeld1 hK K
          try simp only [List.getElem_toArray, List.getElem_cons_zero, List.getElem_cons_succ, Act.put, List.setIfInBounds_toArray, List.set_cons_zero, List.set_cons_succ]
          refine wpAnyH_take (i := 24) (oi := _) (v := ?vr5n24_116) rfl (by kernel_rfl) (by kernel_rfl) (by kernel_rfl) (fun _ _ _ h => h) (Or.inl ⟨by kernel_rfl, ?hr5n24_116⟩) hHeld2 ?_
          case hr5n24_116 => (intro w hSw; (try dsimp only at hSw); go_simp; try (with_reducible rfl))
          try simp only [List.getElem_toArray, List.getElem_cons_zero, List.getElem_cons_succ, Act.put, List.setIfInBounds_toArray, List.set_cons_zero, List.set_cons_succ]
          refine wpAnyH_take (i := 25) (oi := _) (v := ?vr5n25_117) rfl (by kernel_rfl) (by kernel_rfl) (by kernel_rfl) (fun _ _ _ h => h) (Or.inl ⟨by kernel_rfl, ?hr5n25_117⟩) hHeld2 ?_
          case hr5n25_117 => (intro w hSw; (try dsimp only at hSw); go_simp; try (with_reducible rfl))
          try simp only [List.getElem_toArray, List.getElem_cons_zero, List.getElem_cons_succ, Act.put, List.setIfInBounds_toArray, List.set_cons_zero, List.set_cons_succ]
          refine wpAnyH_take (i := 26) (oi := _) (v := ?vr5n26_118) rfl (by kernel_rfl) (by kernel_rfl) (by kernel_rfl) (fun _ _ _ h => h) (Or.inl ⟨by kernel_rfl, ?hr5n26_118⟩) hHeld2 ?_
          case hr5n26_118 => (intro w hSw; (try dsimp only at hSw); go_simp; try (with_reducible rfl))
          try simp only [List.getElem_toArray, List.getElem_cons_zero, List.getElem_cons_succ, Act.put, List.setIfInBounds_toArray, List.set_cons_zero, List.set_cons_succ]
          refine wpAnyH_take (i := 27) (oi := _) (v := ?vr5n27_119) rfl (by kernel_rfl) (by kernel_rfl) (by kernel_rfl) (fun _ _ _ h => h) (Or.inl ⟨by kernel_rfl, ?hr5n27_119⟩) hHeld2 ?_
          case hr5n27_119 => (intro w hSw; (try dsimp only at hSw); go_simp; try (with_reducible rfl))
          try simp only [List.getElem_toArray, List.getElem_cons_zero, List.getElem_cons_succ, Act.put, List.setIfInBounds_toArray, List.set_cons_zero, List.set_cons_succ]
          refine wpAnyH_take (i := 28) (oi := _) (v := ?vr5n28_120) rfl (by kernel_rfl) (by kernel_rfl) (by kernel_rfl) (fun _ _ _ h => h) (Or.inl ⟨by kernel_rfl, ?hr5n28_120⟩) hHeld2 ?_
          case hr5n28_120 => (intro w hSw; (try dsimp only at hSw); go_simp; try (with_reducible rfl))
          try simp only [List.getElem_toArray, List.getElem_cons_zero, List.getElem_cons_succ, Act.put, List.setIfInBounds_toArray, List.set_cons_zero, List.set_cons_succ]
          refine wpAnyH_take (i := 29) (oi := _) (v := ?vr5n29_121) rfl (by kernel_rfl) (by kernel_rfl) (by kernel_rfl) (fun _ _ _ h => h) (Or.inl ⟨by kernel_rfl, ?hr5n29_121⟩) hHeld2 ?_
          case hr5n29_121 => (intro w hSw; (try dsimp only at hSw); go_simp; try (with_reducible rfl))
          try simp only [List.getElem_toArray, List.getElem_cons_zero, List.getElem_cons_succ, Act.put, List.setIfInBounds_toArray, List.set_cons_zero, List.set_cons_succ]
          refine wpAnyH_take (i := 30) (oi := _) (v := ?vr5n30_122) rfl (by kernel_rfl) (by kernel_rfl) (by kernel_rfl) (fun _ _ _ h => h) (Or.inl ⟨by kernel_rfl, ?hr5n30_122⟩) hHeld2 ?_
          case hr5n30_122 => (intro w hSw; (try dsimp only at hSw); go_simp; try (with_reducible rfl))
          try simp only [List.getElem_toArray, List.getElem_cons_zero, List.getElem_cons_succ, Act.put, List.setIfInBounds_toArray, List.set_cons_zero, List.set_cons_succ]
          refine wpAnyH_take (i := 31) (oi := _) (v := ?vr5n31_123) rfl (by kernel_rfl) (by kernel_rfl) (by kernel_rfl) (fun _ _ _ h => h) (Or.inl ⟨by kernel_rfl, ?hr5n31_123⟩) hHeld2 ?_
          case hr5n31_123 => (intro w hSw; (try dsimp only at hSw); go_simp; try (with_reducible rfl))
          try simp only [List.getElem_toArray, List.getElem_cons_zero, List.getElem_cons_succ, Act.put, List.setIfInBounds_toArray, List.set_cons_zero, List.set_cons_succ]
          refine wpAnyH_done (by kernel_rfl) ?_ _
          refine NoPanic.normal ?_
          go_wp2
          go_roundw
          case rel => exact ⟨i + 1, by omega, by go_num, HKx56.out, HKy56.out, HKz56.out, HKu56.out, HKd56.out, HB56.out⟩
          case measure => simp [intOf] <;> omega
    · have h64 : i = 64 := by omega
      subst h64
      go_wp2_with fail
      refine (U0.out _).mono ?_
      rintro e w57 ⟨rfl, hb⟩
      have HB58 := Lib.hid (Below.step HB.out hb)
      clear hb HB
      go_wp2_with fail
      refine (O0.out _).mono ?_
      rintro e w59 ⟨rfl, hb⟩
      have HB60 := Lib.hid (Below.step HB58.out hb)
      clear hb HB58
      go_wp2_with fail
      refine (WK.out _).mono ?_
      rintro e w61 ⟨rfl, hb⟩
      have HB62 := Lib.hid (Below.step HB60.out hb)
      clear hb HB60
      go_wp2
      go_ret
      exact ⟨rfl, HB62.out⟩

theorem bitsJoin_walk (A B C : Option Addr) (ca cb cc : Nat) (K L M : List Int) (hK : K.length ≤ maxLen) (hL : L.length ≤ maxLen) (hM : M.length ≤ maxLen) (w : World) (hA : IntsAt w w.heap.size A K) (hB : IntsAt w w.heap.size B L) (hC : IntsAt w w.heap.size C M) :
    Calls Try.prog 6 #[.slice A K.length ca, .slice B L.length cb, .slice C M.length cc] w fun e w' => e = .returned (.bool true) ∧ Below w.heap.size w w' := by
  by_cases hl : K.length ≤ 200 ∧ L.length ≤ 200 ∧ M.length ≤ 200
  · obtain ⟨h1, h2, h3⟩ := hl
    have ba := of_b K
    have bb := of_b L
    have bc := of_b M
    have bu : B64 (unN [ofN K, ofN L, ofN M]) := by rw [un_three]; exact or_b (or_b ba bb) bc
    have bd : B64 (anN (ofN K) (ofN L)) := an_b _ ba
    exact bitsJoin_main A B C ca cb cc K L M (ofN K) (ofN L) (ofN M) (unN [ofN K, ofN L, ofN M]) (anN (ofN K) (ofN L)) h1 h2 h3 w hA hB hC
      (Lib.hid (fun w h => refOf_any A ca K hK w h)) (Lib.hid (fun w h => refOf_any B cb L hL w h)) (Lib.hid (fun w h => refOf_any C cc M hM w h))
      (Lib.hid (fun w h => of_any A ca K hK w h)) (Lib.hid (fun w h => of_any B cb L hL w h)) (Lib.hid (fun w h => of_any C cc M hM w h))
      (Lib.hid (fun w => union_new [ofN K, ofN L, ofN M] (by simp [maxLen]) (by intro x hx; simp at hx; rcases hx with rfl | rfl | rfl <;> assumption) _ rfl 3 rfl w))
      (Lib.hid union_nil) (Lib.hid of_nil) (Lib.hid (fun w => minus_any _ _ ba bb w))
      (Lib.hid (fun i hi w => by have h := has_any _ bu (i : Int) w; rw [has_row _ i hi, un_three, Nat.testBit_or, Nat.testBit_or] at h; rw [un_three]; exact h))
      (Lib.hid (fun i hi w => by have h := has_any _ bd (i : Int) w; rw [has_row _ i hi, tb_an _ _ _ bb hi] at h; exact h))
  · exact bitsJoin_long A B C ca cb cc K L M (by omega) w hK hL hM
end Go.Proofs.Ytpineeaghmfggaa
