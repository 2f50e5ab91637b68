/- The walk through the law BitsKnown: it answers true. No condition. -/
import Derived.Test.YtpineeaghmfggaaBiW
import Derived.Test.YtpineeaghmfggaaBiU
namespace Go.Proofs.Ytpineeaghmfggaa
set_option linter.unusedVariables false
set_option linter.unusedSimpArgs false
set_option maxRecDepth 100000
open Go.RowKit
attribute [local go_sem ↓] Go.wp_at_zero Go.wp_at_succ

theorem of_t1 : ofN [1] = 2 := by decide +kernel
theorem of_t2 : ofN [2] = 4 := by decide +kernel
theorem of_t09 : ofN [0, 9] = 513 := by decide +kernel
theorem of_t12 : ofN [1, 2] = 6 := by decide +kernel
theorem of_t23 : ofN [2, 3] = 12 := by decide +kernel
theorem w_3 : 2 ||| rowN 3 = 10 := by decide +kernel
theorem o_1 : anN 10 (rowN 1) = 8 := by decide +kernel
theorem b64_k (n : Nat) (h : n < 1000) : B64 n := by unfold B64; omega
def badS : List UInt8 := [66, 73, 84, 2] ++ Lib.repeatL [0] 60
def badT : List UInt8 := ([66, 73, 84, 1] ++ Lib.repeatL [0] 59) ++ [1]
theorem read_z : readV z64 = (0, 0) := readV_z
theorem read_e : readV [] = (0, 8) := by decide +kernel
theorem read_s : readV badS = (0, 8) := by decide +kernel
theorem read_t : readV badT = (0, 8) := by decide +kernel
theorem bytes_513 : bytesV 513 = [66, 73, 84, 1, 1, 2] ++ Lib.repeatL [0] 58 := by decide +kernel

/-- the first k rows -/
theorem low_next (k : Nat) (hk : k < 64) : (2 ^ k - 1) ||| rowN (k : Int) = 2 ^ (k + 1) - 1 := by
  have e : rowN (k : Int) = 2 ^ k := by unfold rowN; rw [if_neg (by omega), Int.toNat_natCast]
  rw [e]
  apply Nat.eq_of_testBit_eq
  intro i
  rw [Nat.testBit_or, Nat.testBit_two_pow_sub_one, Nat.testBit_two_pow_sub_one, Nat.testBit_two_pow]
  rw [Bool.eq_iff_iff]
  simp only [Bool.or_eq_true, decide_eq_true_iff]
  omega
def loN (k : Nat) : Nat := 2 ^ k - 1
theorem low_b (k : Nat) (hk : k ≤ 64) : B64 (2 ^ k - 1) := by
  have h := Nat.pow_le_pow_right (n := 2) (by omega) hk
  unfold B64
  omega
theorem rows_all64 : (rowsN (loN 64)).length = 64 := by decide +kernel
theorem lo_b (k : Nat) (hk : k ≤ 64) : B64 (loN k) := low_b k hk
theorem lo_next (k : Nat) (hk : k < 64) : loN k ||| rowN (k : Int) = loN (k + 1) := low_next k hk
theorem rows_8 : rowsN 8 = [3] := by decide +kernel
theorem rows_513 : rowsN 513 = [0, 9] := by decide +kernel
theorem rows_0 : (rowsN 0).length = 0 := by decide +kernel
theorem rows_6 : (rowsN 6).length = 2 := by decide +kernel
theorem un_24 : unN [2, 4] = 6 := by decide +kernel
theorem mi_k : anN 6 12 = 2 := by decide +kernel
theorem same_new (L K : List Int) (hL : L.length ≤ maxLen) (h : L = K) (C : Array Value) (hC : C = (K.map encInt).toArray) (n : Nat) (hn : n = K.length) (A : Option Addr) (c : Nat) (w : World) (hA : IntsAt w w.heap.size A L) :
    Calls Try.prog 12 #[.slice A L.length c, .slice (some ⟨w.heap.size, 0, none⟩) n n] (w.alloc (.cells C 3)) fun e w' => e = .returned (.bool true) ∧ Below w.heap.size w w' := by
  subst hn
  subst h
  refine (same_any A c L _ _ L hL hL _ (hA.up ((Below.refl _ w).alloc (Nat.le_refl _) _)) (ints_new w _ C L hC)).mono ?_
  rintro e w' ⟨rfl, hb⟩
  exact ⟨by rw [beq_iff_eq.2 rfl], Below.step ((Below.refl _ w).alloc (Nat.le_refl _) _) hb⟩

set_option maxHeartbeats 4000000 in
theorem bitsKnown_walk (w : World) : Calls Try.prog 8 #[] w fun e w' => e = .returned (.bool true) ∧ Below w.heap.size w w' := by
  have WK := Lib.hid wakes_any
  have O4 := Lib.hid (fun w => of_new [1, 9, 64, -1] (by decide) #[.int .i64 1, .int .i64 9, .int .i64 64, .int .i64 (-1)] rfl 4 rfl w)
  rw [of_four] at O4
  have O1 := Lib.hid (fun w => of_new [1] (by decide) #[.int .i64 1] rfl 1 rfl w)
  rw [of_t1] at O1
  have O09 := Lib.hid (fun w => of_new [0, 9] (by decide) #[.int .i64 0, .int .i64 9] rfl 2 rfl w)
  rw [of_t09] at O09
  have W3 := Lib.hid (fun w => with_any 2 (b64_k 2 (by decide)) 3 w)
  rw [w_3] at W3
  have X1 := Lib.hid (fun w => without_any 10 (b64_k 10 (by decide)) 1 w)
  rw [o_1] at X1
  have BY := Lib.hid (fun w => bytes_any 513 (b64_k 513 (by decide)) w)
  have RB := Lib.hid (fun w => read_any (bytesV 513) (by rw [bytesV_len]; decide) w)
  rw [read_bytes 513 (b64_k 513 (by decide))] at RB
  have P64 := Lib.hid rep_64
  have P60 := Lib.hid (fun w => (rep_0 60 (by decide) w : Calls Try.prog 25 #[.string ⟨#[0]⟩, .int .i64 60] w fun e w' => e = .returned (.string ⟨(Lib.repeatL [0] 60).toArray⟩) ∧ Below w.heap.size w w'))
  have P59 := Lib.hid (fun w => (rep_0 59 (by decide) w : Calls Try.prog 25 #[.string ⟨#[0]⟩, .int .i64 59] w fun e w' => e = .returned (.string ⟨(Lib.repeatL [0] 59).toArray⟩) ∧ Below w.heap.size w w'))
  have P58 := Lib.hid (fun w => (rep_0 58 (by decide) w : Calls Try.prog 25 #[.string ⟨#[0]⟩, .int .i64 58] w fun e w' => e = .returned (.string ⟨(Lib.repeatL [0] 58).toArray⟩) ∧ Below w.heap.size w w'))
  have RZ := Lib.hid (fun w => read_any z64 (by decide) w)
  rw [read_z] at RZ
  have RE := Lib.hid (fun w => read_any [] (by decide) w)
  rw [read_e] at RE
  have RS := Lib.hid (fun w => read_any badS (by decide +kernel) w)
  rw [read_s] at RS
  have RT := Lib.hid (fun w => read_any badT (by decide +kernel) w)
  rw [read_t] at RT
  have O0 := Lib.hid of_nil
  have WI := Lib.hid (fun (k : Nat) (hk : k < 64) w => by have h := with_any (loN k) (lo_b k (by omega)) (k : Int) w; rw [lo_next k hk] at h; exact h)
  have O2 := Lib.hid (fun w => of_new [2] (by decide) #[.int .i64 2] rfl 1 rfl w)
  rw [of_t2] at O2
  have O12 := Lib.hid (fun w => of_new [1, 2] (by decide) #[.int .i64 1, .int .i64 2] rfl 2 rfl w)
  rw [of_t12] at O12
  have O23 := Lib.hid (fun w => of_new [2, 3] (by decide) #[.int .i64 2, .int .i64 3] rfl 2 rfl w)
  rw [of_t23] at O23
  have UN := Lib.hid (fun w => union_new [2, 4] (by decide) (by intro x hx; simp at hx; rcases hx with rfl | rfl <;> exact b64_k _ (by decide)) #[.int .u64 2, .int .u64 4] rfl 2 rfl w)
  rw [un_24] at UN
  have MI := Lib.hid (fun w => minus_any 6 12 (b64_k 6 (by decide)) (b64_k 12 (by decide)) w)
  rw [mi_k] at MI
  have L6 := Lib.hid (fun w => len_any 6 (b64_k 6 (by decide)) w)
  rw [rows_6] at L6
  have L0 := Lib.hid (fun w => len_any 0 (b64_k 0 (by decide)) w)
  rw [rows_0] at L0
  have L64 := Lib.hid (fun w => len_any (loN 64) (lo_b 64 (by omega)) w)
  rw [rows_all64] at L64
  have RA := Lib.hid (fun w => rows_any 514 (b64_k 514 (by decide)) w)
  have SA := Lib.hid (fun A c w hA => same_new (rowsN 514) [1, 9] (rowsN_max _) rows_514 #[.int .i64 1, .int .i64 9] rfl 2 rfl A c w hA)
  have RB8 := Lib.hid (fun w => rows_any 8 (b64_k 8 (by decide)) w)
  have SB := Lib.hid (fun A c w hA => same_new (rowsN 8) [3] (rowsN_max _) rows_8 #[.int .i64 3] rfl 1 rfl A c w hA)
  have RC := Lib.hid (fun w => rows_any 513 (b64_k 513 (by decide)) w)
  have SC := Lib.hid (fun A c w hA => same_new (rowsN 513) [0, 9] (rowsN_max _) rows_513 #[.int .i64 0, .int .i64 9] rfl 2 rfl A c w hA)
  have R2 := Lib.hid (fun w => rows_any 2 (b64_k 2 (by decide)) w)
  have SD := Lib.hid (fun A c w hA => same_new (rowsN 2) [1] (rowsN_max _) rows_2 #[.int .i64 1] rfl 1 rfl A c w hA)
  generalize rowsN 514 = rA at RA SA
  generalize rowsN 8 = rB at RB8 SB
  generalize rowsN 513 = rC at RC SC
  generalize rowsN 2 = rD at R2 SD
  have hlo0 : loN 0 = 0 := rfl
  have hes : badS = [66, 73, 84, 2] ++ Lib.repeatL [0] 60 := rfl
  have het : badT = ([66, 73, 84, 1] ++ Lib.repeatL [0] 59) ++ [1] := rfl
  have hey := bytes_513
  have hl60 : (Lib.repeatL [0] 60).length = 60 := by decide +kernel
  have hl59 : (Lib.repeatL [0] 59).length = 59 := by decide +kernel
  have hl58 : (Lib.repeatL [0] 58).length = 58 := by decide +kernel
  generalize Lib.repeatL [0] 60 = R60 at P60 hes hl60
  generalize Lib.repeatL [0] 59 = R59 at P59 het hl59
  generalize Lib.repeatL [0] 58 = R58 at P58 hey hl58
  generalize badS = SS at RS hes
  generalize badT = ST at RT het
  generalize bytesV 513 = Y at BY RB hey
  generalize z64 = Z at P64 RZ
  have HES := Lib.hid hes
  have HET := Lib.hid het
  have HEY := Lib.hid hey
  clear hes het hey
  go_enter Try.func8, Try.ntmps8
  go_wp2_with fail
  refine (O4.out _).mono ?_
  rintro e w1 ⟨rfl, hb⟩
  have HB2 := Lib.hid (hb)
  clear hb 
  go_upto_region 2 with fail
  have HKa4 := Lib.hid (Blk.new w1 25 #[.int .u64 514] 0 0 (Or.inl (Nat.le_refl _)))
  have HB4 := Lib.hid (HB2.out.alloc HB2.out.size (.cells #[.int .u64 514] 25))
  have hge_a : w.heap.size ≤ w1.heap.size := HB2.out.size
  generalize w1.heap.size = pa at HKa4 hge_a ⊢
  generalize World.alloc _ _ = w3 at HKa4 HB4 ⊢
  clear HB2
  have hc_a := HKa4.out.cell 0
  go_wp2_with fail
  refine (O1.out _).mono ?_
  rintro e w5 ⟨rfl, hb⟩
  (try clear hc_a)
  have HKa6 := Lib.hid (HKa4.out.step hb)
  have HB6 := Lib.hid (Below.step HB4.out hb)
  clear hb HKa4 HB4
  have hc_a := HKa6.out.cell 0
  go_wp2_with fail
  refine (W3.out _).mono ?_
  rintro e w7 ⟨rfl, hb⟩
  (try clear hc_a)
  have HKa8 := Lib.hid (HKa6.out.step hb)
  have HB8 := Lib.hid (Below.step HB6.out hb)
  clear hb HKa6 HB6
  have hc_a := HKa8.out.cell 0
  go_wp2_with fail
  refine (X1.out _).mono ?_
  rintro e w9 ⟨rfl, hb⟩
  (try clear hc_a)
  have HKa10 := Lib.hid (HKa8.out.step hb)
  have HB10 := Lib.hid (Below.step HB8.out hb)
  clear hb HKa8 HB8
  have hc_a := HKa10.out.cell 0
  go_upto_region 3 with fail
  (try clear hc_a)
  have HKa12 := Lib.hid (HKa10.out.alloc (.cells #[.int .u64 8] 25))
  have HKb12 := Lib.hid (Blk.new w9 25 #[.int .u64 8] 0 0 (Or.inl (Nat.le_refl _)))
  have HB12 := Lib.hid (HB10.out.alloc HB10.out.size (.cells #[.int .u64 8] 25))
  have hge_b : w.heap.size ≤ w9.heap.size := HB10.out.size
  have hne_a_b : pa ≠ w9.heap.size := Nat.ne_of_lt HKa10.out.lt
  generalize w9.heap.size = pb at HKa12 HKb12 hge_b hne_a_b ⊢
  generalize World.alloc _ _ = w11 at HKa12 HKb12 HB12 ⊢
  clear HKa10 HB10
  have hc_a := HKa12.out.cell 0
  have hc_b := HKb12.out.cell 0
  go_wp2_with fail
  refine (O09.out _).mono ?_
  rintro e w13 ⟨rfl, hb⟩
  (try clear hc_a)
  (try clear hc_b)
  have HKa14 := Lib.hid (HKa12.out.step hb)
  have HKb14 := Lib.hid (HKb12.out.step hb)
  have HB14 := Lib.hid (Below.step HB12.out hb)
  clear hb HKa12 HKb12 HB12
  have hc_a := HKa14.out.cell 0
  have hc_b := HKb14.out.cell 0
  go_wp2_with fail
  refine (BY.out _).mono ?_
  rintro e w15 ⟨rfl, hb⟩
  (try clear hc_a)
  (try clear hc_b)
  have HKa16 := Lib.hid (HKa14.out.step hb)
  have HKb16 := Lib.hid (HKb14.out.step hb)
  have HB16 := Lib.hid (Below.step HB14.out hb)
  clear hb HKa14 HKb14 HB14
  have hc_a := HKa16.out.cell 0
  have hc_b := HKb16.out.cell 0
  go_wp2_with fail
  refine (RB.out _).mono ?_
  rintro e w17 ⟨rfl, hb⟩
  (try clear hc_a)
  (try clear hc_b)
  have HKa18 := Lib.hid (HKa16.out.step hb)
  have HKb18 := Lib.hid (HKb16.out.step hb)
  have HB18 := Lib.hid (Below.step HB16.out hb)
  clear hb HKa16 HKb16 HB16
  have hc_a := HKa18.out.cell 0
  have hc_b := HKb18.out.cell 0
  go_upto_region 5 with fail
  (try clear hc_a)
  (try clear hc_b)
  have HKa20 := Lib.hid (HKa18.out.alloc (.cells #[.int .u64 513] 25))
  have HKb20 := Lib.hid (HKb18.out.alloc (.cells #[.int .u64 513] 25))
  have HKc20 := Lib.hid (Blk.new w17 25 #[.int .u64 513] 0 0 (Or.inl (Nat.le_refl _)))
  have HB20 := Lib.hid (HB18.out.alloc HB18.out.size (.cells #[.int .u64 513] 25))
  have hge_c : w.heap.size ≤ w17.heap.size := HB18.out.size
  have hne_a_c : pa ≠ w17.heap.size := Nat.ne_of_lt HKa18.out.lt
  have hne_b_c : pb ≠ w17.heap.size := Nat.ne_of_lt HKb18.out.lt
  generalize w17.heap.size = pc at HKa20 HKb20 HKc20 hge_c hne_a_c hne_b_c ⊢
  generalize World.alloc _ _ = w19 at HKa20 HKb20 HKc20 HB20 ⊢
  clear HKa18 HKb18 HB18
  have hc_a := HKa20.out.cell 0
  have hc_b := HKb20.out.cell 0
  have hc_c := HKc20.out.cell 0
  go_wp2_with fail
  refine (P64.out _).mono ?_
  rintro e w21 ⟨rfl, hb⟩
  (try clear hc_a)
  (try clear hc_b)
  (try clear hc_c)
  have HKa22 := Lib.hid (HKa20.out.step hb)
  have HKb22 := Lib.hid (HKb20.out.step hb)
  have HKc22 := Lib.hid (HKc20.out.step hb)
  have HB22 := Lib.hid (Below.step HB20.out hb)
  clear hb HKa20 HKb20 HKc20 HB20
  have hc_a := HKa22.out.cell 0
  have hc_b := HKb22.out.cell 0
  have hc_c := HKc22.out.cell 0
  go_wp2_with fail
  refine (RZ.out _).mono ?_
  rintro e w23 ⟨rfl, hb⟩
  (try clear hc_a)
  (try clear hc_b)
  (try clear hc_c)
  have HKa24 := Lib.hid (HKa22.out.step hb)
  have HKb24 := Lib.hid (HKb22.out.step hb)
  have HKc24 := Lib.hid (HKc22.out.step hb)
  have HB24 := Lib.hid (Below.step HB22.out hb)
  clear hb HKa22 HKb22 HKc22 HB22
  have hc_a := HKa24.out.cell 0
  have hc_b := HKb24.out.cell 0
  have hc_c := HKc24.out.cell 0
  go_upto_region 6 with fail
  (try clear hc_a)
  (try clear hc_b)
  (try clear hc_c)
  have HKa26 := Lib.hid (HKa24.out.alloc (.cells #[.int .u64 0] 25))
  have HKb26 := Lib.hid (HKb24.out.alloc (.cells #[.int .u64 0] 25))
  have HKc26 := Lib.hid (HKc24.out.alloc (.cells #[.int .u64 0] 25))
  have HKn26 := Lib.hid (Blk.new w23 25 #[.int .u64 0] 0 0 (Or.inl (Nat.le_refl _)))
  have HB26 := Lib.hid (HB24.out.alloc HB24.out.size (.cells #[.int .u64 0] 25))
  have hge_n : w.heap.size ≤ w23.heap.size := HB24.out.size
  have hne_a_n : pa ≠ w23.heap.size := Nat.ne_of_lt HKa24.out.lt
  have hne_b_n : pb ≠ w23.heap.size := Nat.ne_of_lt HKb24.out.lt
  have hne_c_n : pc ≠ w23.heap.size := Nat.ne_of_lt HKc24.out.lt
  generalize w23.heap.size = pn at HKa26 HKb26 HKc26 HKn26 hge_n hne_a_n hne_b_n hne_c_n ⊢
  generalize World.alloc _ _ = w25 at HKa26 HKb26 HKc26 HKn26 HB26 ⊢
  clear HKa24 HKb24 HKc24 HB24
  have hc_a := HKa26.out.cell 0
  have hc_b := HKb26.out.cell 0
  have hc_c := HKc26.out.cell 0
  have hc_n := HKn26.out.cell 0
  go_wp2_with fail
  refine (RE.out _).mono ?_
  rintro e w27 ⟨rfl, hb⟩
  (try clear hc_a)
  (try clear hc_b)
  (try clear hc_c)
  (try clear hc_n)
  have HKa28 := Lib.hid (HKa26.out.step hb)
  have HKb28 := Lib.hid (HKb26.out.step hb)
  have HKc28 := Lib.hid (HKc26.out.step hb)
  have HKn28 := Lib.hid (HKn26.out.step hb)
  have HB28 := Lib.hid (Below.step HB26.out hb)
  clear hb HKa26 HKb26 HKc26 HKn26 HB26
  have hc_a := HKa28.out.cell 0
  have hc_b := HKb28.out.cell 0
  have hc_c := HKc28.out.cell 0
  have hc_n := HKn28.out.cell 0
  go_upto_region 7 with fail
  (try clear hc_a)
  (try clear hc_b)
  (try clear hc_c)
  (try clear hc_n)
  have HKa30 := Lib.hid (HKa28.out.alloc (.cells #[.int .u64 0] 25))
  have HKb30 := Lib.hid (HKb28.out.alloc (.cells #[.int .u64 0] 25))
  have HKc30 := Lib.hid (HKc28.out.alloc (.cells #[.int .u64 0] 25))
  have HKn30 := Lib.hid (HKn28.out.alloc (.cells #[.int .u64 0] 25))
  have HKm30 := Lib.hid (Blk.new w27 25 #[.int .u64 0] 0 0 (Or.inl (Nat.le_refl _)))
  have HB30 := Lib.hid (HB28.out.alloc HB28.out.size (.cells #[.int .u64 0] 25))
  have hge_m : w.heap.size ≤ w27.heap.size := HB28.out.size
  have hne_a_m : pa ≠ w27.heap.size := Nat.ne_of_lt HKa28.out.lt
  have hne_b_m : pb ≠ w27.heap.size := Nat.ne_of_lt HKb28.out.lt
  have hne_c_m : pc ≠ w27.heap.size := Nat.ne_of_lt HKc28.out.lt
  have hne_n_m : pn ≠ w27.heap.size := Nat.ne_of_lt HKn28.out.lt
  generalize w27.heap.size = pm at HKa30 HKb30 HKc30 HKn30 HKm30 hge_m hne_a_m hne_b_m hne_c_m hne_n_m ⊢
  generalize World.alloc _ _ = w29 at HKa30 HKb30 HKc30 HKn30 HKm30 HB30 ⊢
  clear HKa28 HKb28 HKc28 HKn28 HB28
  have hc_a := HKa30.out.cell 0
  have hc_b := HKb30.out.cell 0
  have hc_c := HKc30.out.cell 0
  have hc_n := HKn30.out.cell 0
  have hc_m := HKm30.out.cell 0
  go_wp2_with fail
  refine (P60.out _).mono ?_
  rintro e w31 ⟨rfl, hb⟩
  (try clear hc_a)
  (try clear hc_b)
  (try clear hc_c)
  (try clear hc_n)
  (try clear hc_m)
  have HKa32 := Lib.hid (HKa30.out.step hb)
  have HKb32 := Lib.hid (HKb30.out.step hb)
  have HKc32 := Lib.hid (HKc30.out.step hb)
  have HKn32 := Lib.hid (HKn30.out.step hb)
  have HKm32 := Lib.hid (HKm30.out.step hb)
  have HB32 := Lib.hid (Below.step HB30.out hb)
  clear hb HKa30 HKb30 HKc30 HKn30 HKm30 HB30
  have hc_a := HKa32.out.cell 0
  have hc_b := HKb32.out.cell 0
  have hc_c := HKc32.out.cell 0
  have hc_n := HKn32.out.cell 0
  have hc_m := HKm32.out.cell 0
  have hs1 : ¬ 9223372036854775807 < 4 + R60.length := by rw [hl60]; decide
  go_wp2_with fail
  rw [str_append [66, 73, 84, 2] R60, ← HES.out]
  refine (RS.out _).mono ?_
  rintro e w33 ⟨rfl, hb⟩
  (try clear hc_a)
  (try clear hc_b)
  (try clear hc_c)
  (try clear hc_n)
  (try clear hc_m)
  have HKa34 := Lib.hid (HKa32.out.step hb)
  have HKb34 := Lib.hid (HKb32.out.step hb)
  have HKc34 := Lib.hid (HKc32.out.step hb)
  have HKn34 := Lib.hid (HKn32.out.step hb)
  have HKm34 := Lib.hid (HKm32.out.step hb)
  have HB34 := Lib.hid (Below.step HB32.out hb)
  clear hb HKa32 HKb32 HKc32 HKn32 HKm32 HB32
  have hc_a := HKa34.out.cell 0
  have hc_b := HKb34.out.cell 0
  have hc_c := HKc34.out.cell 0
  have hc_n := HKn34.out.cell 0
  have hc_m := HKm34.out.cell 0
  go_upto_region 8 with fail
  (try clear hc_a)
  (try clear hc_b)
  (try clear hc_c)
  (try clear hc_n)
  (try clear hc_m)
  have HKa36 := Lib.hid (HKa34.out.alloc (.cells #[.int .u64 0] 25))
  have HKb36 := Lib.hid (HKb34.out.alloc (.cells #[.int .u64 0] 25))
  have HKc36 := Lib.hid (HKc34.out.alloc (.cells #[.int .u64 0] 25))
  have HKn36 := Lib.hid (HKn34.out.alloc (.cells #[.int .u64 0] 25))
  have HKm36 := Lib.hid (HKm34.out.alloc (.cells #[.int .u64 0] 25))
  have HKo36 := Lib.hid (Blk.new w33 25 #[.int .u64 0] 0 0 (Or.inl (Nat.le_refl _)))
  have HB36 := Lib.hid (HB34.out.alloc HB34.out.size (.cells #[.int .u64 0] 25))
  have hge_o : w.heap.size ≤ w33.heap.size := HB34.out.size
  have hne_a_o : pa ≠ w33.heap.size := Nat.ne_of_lt HKa34.out.lt
  have hne_b_o : pb ≠ w33.heap.size := Nat.ne_of_lt HKb34.out.lt
  have hne_c_o : pc ≠ w33.heap.size := Nat.ne_of_lt HKc34.out.lt
  have hne_n_o : pn ≠ w33.heap.size := Nat.ne_of_lt HKn34.out.lt
  have hne_m_o : pm ≠ w33.heap.size := Nat.ne_of_lt HKm34.out.lt
  generalize w33.heap.size = po at HKa36 HKb36 HKc36 HKn36 HKm36 HKo36 hge_o hne_a_o hne_b_o hne_c_o hne_n_o hne_m_o ⊢
  generalize World.alloc _ _ = w35 at HKa36 HKb36 HKc36 HKn36 HKm36 HKo36 HB36 ⊢
  clear HKa34 HKb34 HKc34 HKn34 HKm34 HB34
  have hc_a := HKa36.out.cell 0
  have hc_b := HKb36.out.cell 0
  have hc_c := HKc36.out.cell 0
  have hc_n := HKn36.out.cell 0
  have hc_m := HKm36.out.cell 0
  have hc_o := HKo36.out.cell 0
  go_wp2_with fail
  refine (P59.out _).mono ?_
  rintro e w37 ⟨rfl, hb⟩
  (try clear hc_a)
  (try clear hc_b)
  (try clear hc_c)
  (try clear hc_n)
  (try clear hc_m)
  (try clear hc_o)
  have HKa38 := Lib.hid (HKa36.out.step hb)
  have HKb38 := Lib.hid (HKb36.out.step hb)
  have HKc38 := Lib.hid (HKc36.out.step hb)
  have HKn38 := Lib.hid (HKn36.out.step hb)
  have HKm38 := Lib.hid (HKm36.out.step hb)
  have HKo38 := Lib.hid (HKo36.out.step hb)
  have HB38 := Lib.hid (Below.step HB36.out hb)
  clear hb HKa36 HKb36 HKc36 HKn36 HKm36 HKo36 HB36
  have hc_a := HKa38.out.cell 0
  have hc_b := HKb38.out.cell 0
  have hc_c := HKc38.out.cell 0
  have hc_n := HKn38.out.cell 0
  have hc_m := HKm38.out.cell 0
  have hc_o := HKo38.out.cell 0
  have hs2 : ¬ 9223372036854775807 < 4 + R59.length := by rw [hl59]; decide
  have hs3 : ¬ 9223372036854775807 < ([66, 73, 84, 1] ++ R59 : List UInt8).length + 1 := by rw [List.length_append, hl59]; decide
  go_wp2_with fail
  rw [str_append [66, 73, 84, 1] R59, str_snoc ([66, 73, 84, 1] ++ R59) 1, ← HET.out]
  refine (RT.out _).mono ?_
  rintro e w39 ⟨rfl, hb⟩
  (try clear hc_a)
  (try clear hc_b)
  (try clear hc_c)
  (try clear hc_n)
  (try clear hc_m)
  (try clear hc_o)
  have HKa40 := Lib.hid (HKa38.out.step hb)
  have HKb40 := Lib.hid (HKb38.out.step hb)
  have HKc40 := Lib.hid (HKc38.out.step hb)
  have HKn40 := Lib.hid (HKn38.out.step hb)
  have HKm40 := Lib.hid (HKm38.out.step hb)
  have HKo40 := Lib.hid (HKo38.out.step hb)
  have HB40 := Lib.hid (Below.step HB38.out hb)
  clear hb HKa38 HKb38 HKc38 HKn38 HKm38 HKo38 HB38
  have hc_a := HKa40.out.cell 0
  have hc_b := HKb40.out.cell 0
  have hc_c := HKc40.out.cell 0
  have hc_n := HKn40.out.cell 0
  have hc_m := HKm40.out.cell 0
  have hc_o := HKo40.out.cell 0
  go_upto_region 9 with fail
  (try clear hc_a)
  (try clear hc_b)
  (try clear hc_c)
  (try clear hc_n)
  (try clear hc_m)
  (try clear hc_o)
  have HKa42 := Lib.hid (HKa40.out.alloc (.cells #[.int .u64 0] 25))
  have HKb42 := Lib.hid (HKb40.out.alloc (.cells #[.int .u64 0] 25))
  have HKc42 := Lib.hid (HKc40.out.alloc (.cells #[.int .u64 0] 25))
  have HKn42 := Lib.hid (HKn40.out.alloc (.cells #[.int .u64 0] 25))
  have HKm42 := Lib.hid (HKm40.out.alloc (.cells #[.int .u64 0] 25))
  have HKo42 := Lib.hid (HKo40.out.alloc (.cells #[.int .u64 0] 25))
  have HKp42 := Lib.hid (Blk.new w39 25 #[.int .u64 0] 0 0 (Or.inl (Nat.le_refl _)))
  have HB42 := Lib.hid (HB40.out.alloc HB40.out.size (.cells #[.int .u64 0] 25))
  have hge_p : w.heap.size ≤ w39.heap.size := HB40.out.size
  have hne_a_p : pa ≠ w39.heap.size := Nat.ne_of_lt HKa40.out.lt
  have hne_b_p : pb ≠ w39.heap.size := Nat.ne_of_lt HKb40.out.lt
  have hne_c_p : pc ≠ w39.heap.size := Nat.ne_of_lt HKc40.out.lt
  have hne_n_p : pn ≠ w39.heap.size := Nat.ne_of_lt HKn40.out.lt
  have hne_m_p : pm ≠ w39.heap.size := Nat.ne_of_lt HKm40.out.lt
  have hne_o_p : po ≠ w39.heap.size := Nat.ne_of_lt HKo40.out.lt
  generalize w39.heap.size = pp at HKa42 HKb42 HKc42 HKn42 HKm42 HKo42 HKp42 hge_p hne_a_p hne_b_p hne_c_p hne_n_p hne_m_p hne_o_p ⊢
  generalize World.alloc _ _ = w41 at HKa42 HKb42 HKc42 HKn42 HKm42 HKo42 HKp42 HB42 ⊢
  clear HKa40 HKb40 HKc40 HKn40 HKm40 HKo40 HB40
  have hc_a := HKa42.out.cell 0
  have hc_b := HKb42.out.cell 0
  have hc_c := HKc42.out.cell 0
  have hc_n := HKn42.out.cell 0
  have hc_m := HKm42.out.cell 0
  have hc_o := HKo42.out.cell 0
  have hc_p := HKp42.out.cell 0
  go_wp2_with fail
  refine (O0.out _).mono ?_
  rintro e w43 ⟨rfl, hb⟩
  (try clear hc_a)
  (try clear hc_b)
  (try clear hc_c)
  (try clear hc_n)
  (try clear hc_m)
  (try clear hc_o)
  (try clear hc_p)
  have HKa44 := Lib.hid (HKa42.out.step hb)
  have HKb44 := Lib.hid (HKb42.out.step hb)
  have HKc44 := Lib.hid (HKc42.out.step hb)
  have HKn44 := Lib.hid (HKn42.out.step hb)
  have HKm44 := Lib.hid (HKm42.out.step hb)
  have HKo44 := Lib.hid (HKo42.out.step hb)
  have HKp44 := Lib.hid (HKp42.out.step hb)
  have HB44 := Lib.hid (Below.step HB42.out hb)
  clear hb HKa42 HKb42 HKc42 HKn42 HKm42 HKo42 HKp42 HB42
  have hc_a := HKa44.out.cell 0
  have hc_b := HKb44.out.cell 0
  have hc_c := HKc44.out.cell 0
  have hc_n := HKn44.out.cell 0
  have hc_m := HKm44.out.cell 0
  have hc_o := HKo44.out.cell 0
  have hc_p := HKp44.out.cell 0
  go_upto_region 10 with fail
  (try clear hc_a)
  (try clear hc_b)
  (try clear hc_c)
  (try clear hc_n)
  (try clear hc_m)
  (try clear hc_o)
  (try clear hc_p)
  have HKa46 := Lib.hid (HKa44.out.alloc (.cells #[.int .u64 0] 25))
  have HKb46 := Lib.hid (HKb44.out.alloc (.cells #[.int .u64 0] 25))
  have HKc46 := Lib.hid (HKc44.out.alloc (.cells #[.int .u64 0] 25))
  have HKn46 := Lib.hid (HKn44.out.alloc (.cells #[.int .u64 0] 25))
  have HKm46 := Lib.hid (HKm44.out.alloc (.cells #[.int .u64 0] 25))
  have HKo46 := Lib.hid (HKo44.out.alloc (.cells #[.int .u64 0] 25))
  have HKp46 := Lib.hid (HKp44.out.alloc (.cells #[.int .u64 0] 25))
  have HKz46 := Lib.hid (Blk.new w43 25 #[.int .u64 0] 0 0 (Or.inl (Nat.le_refl _)))
  have HB46 := Lib.hid (HB44.out.alloc HB44.out.size (.cells #[.int .u64 0] 25))
  have hge_z : w.heap.size ≤ w43.heap.size := HB44.out.size
  have hne_a_z : pa ≠ w43.heap.size := Nat.ne_of_lt HKa44.out.lt
  have hne_b_z : pb ≠ w43.heap.size := Nat.ne_of_lt HKb44.out.lt
  have hne_c_z : pc ≠ w43.heap.size := Nat.ne_of_lt HKc44.out.lt
  have hne_n_z : pn ≠ w43.heap.size := Nat.ne_of_lt HKn44.out.lt
  have hne_m_z : pm ≠ w43.heap.size := Nat.ne_of_lt HKm44.out.lt
  have hne_o_z : po ≠ w43.heap.size := Nat.ne_of_lt HKo44.out.lt
  have hne_p_z : pp ≠ w43.heap.size := Nat.ne_of_lt HKp44.out.lt
  generalize w43.heap.size = pz at HKa46 HKb46 HKc46 HKn46 HKm46 HKo46 HKp46 HKz46 hge_z hne_a_z hne_b_z hne_c_z hne_n_z hne_m_z hne_o_z hne_p_z ⊢
  generalize World.alloc _ _ = w45 at HKa46 HKb46 HKc46 HKn46 HKm46 HKo46 HKp46 HKz46 HB46 ⊢
  clear HKa44 HKb44 HKc44 HKn44 HKm44 HKo44 HKp44 HB44
  have hc_a := HKa46.out.cell 0
  have hc_b := HKb46.out.cell 0
  have hc_c := HKc46.out.cell 0
  have hc_n := HKn46.out.cell 0
  have hc_m := HKm46.out.cell 0
  have hc_o := HKo46.out.cell 0
  have hc_p := HKp46.out.cell 0
  have hc_z := HKz46.out.cell 0
  (try clear hc_a)
  (try clear hc_b)
  (try clear hc_c)
  (try clear hc_n)
  (try clear hc_m)
  (try clear hc_o)
  (try clear hc_p)
  (try clear hc_z)
  go_wp2
  go_loopw [15] (fun i wr => ∃ k : Nat, k ≤ 64 ∧ i = .int .i64 k ∧ Blk wr pa 25 #[.int .u64 514] ∧ Blk wr pb 25 #[.int .u64 8] ∧ Blk wr pc 25 #[.int .u64 513] ∧ Blk wr pn 25 #[.int .u64 0] ∧ Blk wr pz 25 #[.int .u64 (loN k : Int)] ∧ Below w.heap.size w wr) (fun i _ => 64 - (intOf i).toNat)
  case atStart => exact ⟨0, by omega, rfl, HKa46.out, HKb46.out, HKc46.out, HKn46.out, HKz46.out, HB46.out⟩
  case round =>
    obtain ⟨k, hk, rfl, hka, hkb, hkc, hkn, hkz, hbel⟩ := hrel
    have HLa := Lib.hid hka
    have HLb := Lib.hid hkb
    have HLc := Lib.hid hkc
    have HLn := Lib.hid hkn
    have HLz := Lib.hid hkz
    have HBL := Lib.hid hbel
    clear HKa46 HKb46 HKc46 HKn46 HKm46 HKo46 HKp46 HKz46 HB46 hbel hka hkb hkc hkn hkz
    by_cases hlt : k < 64
    · have hlt' : (k : Int) < 64 := by omega
      have WI1 := Lib.hid (WI.out k hlt)
      have hc_a := HLa.out.cell 0
      have hc_b := HLb.out.cell 0
      have hc_c := HLc.out.cell 0
      have hc_n := HLn.out.cell 0
      have hc_z := HLz.out.cell 0
      go_wp2_with fail
      refine (WI1.out _).mono ?_
      rintro e w47 ⟨rfl, hb⟩
      (try clear hc_a)
      (try clear hc_b)
      (try clear hc_c)
      (try clear hc_n)
      (try clear hc_z)
      have HKa48 := Lib.hid (HLa.out.step hb)
      have HKb48 := Lib.hid (HLb.out.step hb)
      have HKc48 := Lib.hid (HLc.out.step hb)
      have HKn48 := Lib.hid (HLn.out.step hb)
      have HKz48 := Lib.hid (HLz.out.step hb)
      have HB48 := Lib.hid (Below.step HBL.out hb)
      clear hb HLa HLb HLc HLn HLz HBL
      have hc_a := HKa48.out.cell 0
      have hc_b := HKb48.out.cell 0
      have hc_c := HKc48.out.cell 0
      have hc_n := HKn48.out.cell 0
      have hc_z := HKz48.out.cell 0
      have hf_z := HKz48.out.free 0 (by simp)
      have HNa := Lib.hid (HKa48.out.set_other ⟨pz, 0, none⟩ (.int .u64 (loN (k + 1) : Int)) hne_a_z)
      have HNb := Lib.hid (HKb48.out.set_other ⟨pz, 0, none⟩ (.int .u64 (loN (k + 1) : Int)) hne_b_z)
      have HNc := Lib.hid (HKc48.out.set_other ⟨pz, 0, none⟩ (.int .u64 (loN (k + 1) : Int)) hne_c_z)
      have HNn := Lib.hid (HKn48.out.set_other ⟨pz, 0, none⟩ (.int .u64 (loN (k + 1) : Int)) hne_n_z)
      have HNz := Lib.hid (HKz48.out.set 0 (.int .u64 (loN (k + 1) : Int)))
      have HNB := Lib.hid (Below.setCell (p := ⟨pz, 0, none⟩) HB48.out hge_z (.int .u64 (loN (k + 1) : Int)))
      go_wp2
      go_roundw
      case rel => exact ⟨k + 1, by omega, by go_num, HNa.out, HNb.out, HNc.out, HNn.out, HNz.out, HNB.out⟩
      case measure => simp [intOf] <;> omega
    · have h64 : k = 64 := by omega
      subst h64
      generalize loN 64 = z64n at HLz L64
      have hc_a := HLa.out.cell 0
      have hc_b := HLb.out.cell 0
      have hc_c := HLc.out.cell 0
      have hc_n := HLn.out.cell 0
      have hc_z := HLz.out.cell 0
      go_wp2_with fail
      refine (RA.out _).mono ?_
      rintro e w49 ⟨v, rfl, hown, hb⟩
      (try clear hc_a)
      (try clear hc_b)
      (try clear hc_c)
      (try clear hc_n)
      (try clear hc_z)
      have HKa50 := Lib.hid (HLa.out.step hb)
      have HKb50 := Lib.hid (HLb.out.step hb)
      have HKc50 := Lib.hid (HLc.out.step hb)
      have HKn50 := Lib.hid (HLn.out.step hb)
      have HKz50 := Lib.hid (HLz.out.step hb)
      have HB50 := Lib.hid (Below.step HBL.out hb)
      obtain ⟨Aq1, cq1, rfl, _, hst, _, _, _⟩ := own_ints hown
      have HIq1 := Lib.hid hst
      clear hst hown
      clear hb HLa HLb HLc HLn HLz HBL
      have hc_a := HKa50.out.cell 0
      have hc_b := HKb50.out.cell 0
      have hc_c := HKc50.out.cell 0
      have hc_n := HKn50.out.cell 0
      have hc_z := HKz50.out.cell 0
      go_wp2_with fail
      refine (SA.out _ _ _ HIq1.out).mono ?_
      rintro e w51 ⟨rfl, hb⟩
      (try clear hc_a)
      (try clear hc_b)
      (try clear hc_c)
      (try clear hc_n)
      (try clear hc_z)
      have HKa52 := Lib.hid (HKa50.out.step hb)
      have HKb52 := Lib.hid (HKb50.out.step hb)
      have HKc52 := Lib.hid (HKc50.out.step hb)
      have HKn52 := Lib.hid (HKn50.out.step hb)
      have HKz52 := Lib.hid (HKz50.out.step hb)
      have HIq152 := Lib.hid (HIq1.out.up hb)
      have HB52 := Lib.hid (Below.step HB50.out hb)
      clear hb HKa50 HKb50 HKc50 HKn50 HKz50 HIq1 HB50
      have hc_a := HKa52.out.cell 0
      have hc_b := HKb52.out.cell 0
      have hc_c := HKc52.out.cell 0
      have hc_n := HKn52.out.cell 0
      have hc_z := HKz52.out.cell 0
      clear HIq152
      go_wp2_with fail
      refine (RB8.out _).mono ?_
      rintro e w53 ⟨v, rfl, hown, hb⟩
      (try clear hc_a)
      (try clear hc_b)
      (try clear hc_c)
      (try clear hc_n)
      (try clear hc_z)
      have HKa54 := Lib.hid (HKa52.out.step hb)
      have HKb54 := Lib.hid (HKb52.out.step hb)
      have HKc54 := Lib.hid (HKc52.out.step hb)
      have HKn54 := Lib.hid (HKn52.out.step hb)
      have HKz54 := Lib.hid (HKz52.out.step hb)
      have HB54 := Lib.hid (Below.step HB52.out hb)
      obtain ⟨Aq2, cq2, rfl, _, hst, _, _, _⟩ := own_ints hown
      have HIq2 := Lib.hid hst
      clear hst hown
      clear hb HKa52 HKb52 HKc52 HKn52 HKz52 HB52
      have hc_a := HKa54.out.cell 0
      have hc_b := HKb54.out.cell 0
      have hc_c := HKc54.out.cell 0
      have hc_n := HKn54.out.cell 0
      have hc_z := HKz54.out.cell 0
      go_wp2_with fail
      refine (SB.out _ _ _ HIq2.out).mono ?_
      rintro e w55 ⟨rfl, hb⟩
      (try clear hc_a)
      (try clear hc_b)
      (try clear hc_c)
      (try clear hc_n)
      (try clear hc_z)
      have HKa56 := Lib.hid (HKa54.out.step hb)
      have HKb56 := Lib.hid (HKb54.out.step hb)
      have HKc56 := Lib.hid (HKc54.out.step hb)
      have HKn56 := Lib.hid (HKn54.out.step hb)
      have HKz56 := Lib.hid (HKz54.out.step hb)
      have HIq256 := Lib.hid (HIq2.out.up hb)
      have HB56 := Lib.hid (Below.step HB54.out hb)
      clear hb HKa54 HKb54 HKc54 HKn54 HKz54 HIq2 HB54
      have hc_a := HKa56.out.cell 0
      have hc_b := HKb56.out.cell 0
      have hc_c := HKc56.out.cell 0
      have hc_n := HKn56.out.cell 0
      have hc_z := HKz56.out.cell 0
      clear HIq256
      have hs4 : ¬ 9223372036854775807 < 6 + R58.length := by rw [hl58]; decide
      have hstr : (⟨#[66, 73, 84, 1, 1, 2]⟩ : ByteArray) ++ ⟨R58.toArray⟩ = ⟨Y.toArray⟩ := by rw [str_append [66, 73, 84, 1, 1, 2] R58, ← HEY.out]
      go_wp2_with fail
      refine (P58.out _).mono ?_
      rintro e w57 ⟨rfl, hb⟩
      (try clear hc_a)
      (try clear hc_b)
      (try clear hc_c)
      (try clear hc_n)
      (try clear hc_z)
      have HKa58 := Lib.hid (HKa56.out.step hb)
      have HKb58 := Lib.hid (HKb56.out.step hb)
      have HKc58 := Lib.hid (HKc56.out.step hb)
      have HKn58 := Lib.hid (HKn56.out.step hb)
      have HKz58 := Lib.hid (HKz56.out.step hb)
      have HB58 := Lib.hid (Below.step HB56.out hb)
      clear hb HKa56 HKb56 HKc56 HKn56 HKz56 HB56
      have hc_a := HKa58.out.cell 0
      have hc_b := HKb58.out.cell 0
      have hc_c := HKc58.out.cell 0
      have hc_n := HKn58.out.cell 0
      have hc_z := HKz58.out.cell 0
      go_wp2_with fail
      refine (RC.out _).mono ?_
      rintro e w59 ⟨v, rfl, hown, hb⟩
      (try clear hc_a)
      (try clear hc_b)
      (try clear hc_c)
      (try clear hc_n)
      (try clear hc_z)
      have HKa60 := Lib.hid (HKa58.out.step hb)
      have HKb60 := Lib.hid (HKb58.out.step hb)
      have HKc60 := Lib.hid (HKc58.out.step hb)
      have HKn60 := Lib.hid (HKn58.out.step hb)
      have HKz60 := Lib.hid (HKz58.out.step hb)
      have HB60 := Lib.hid (Below.step HB58.out hb)
      obtain ⟨Aq3, cq3, rfl, _, hst, _, _, _⟩ := own_ints hown
      have HIq3 := Lib.hid hst
      clear hst hown
      clear hb HKa58 HKb58 HKc58 HKn58 HKz58 HB58
      have hc_a := HKa60.out.cell 0
      have hc_b := HKb60.out.cell 0
      have hc_c := HKc60.out.cell 0
      have hc_n := HKn60.out.cell 0
      have hc_z := HKz60.out.cell 0
      go_wp2_with fail
      refine (SC.out _ _ _ HIq3.out).mono ?_
      rintro e w61 ⟨rfl, hb⟩
      (try clear hc_a)
      (try clear hc_b)
      (try clear hc_c)
      (try clear hc_n)
      (try clear hc_z)
      have HKa62 := Lib.hid (HKa60.out.step hb)
      have HKb62 := Lib.hid (HKb60.out.step hb)
      have HKc62 := Lib.hid (HKc60.out.step hb)
      have HKn62 := Lib.hid (HKn60.out.step hb)
      have HKz62 := Lib.hid (HKz60.out.step hb)
      have HIq362 := Lib.hid (HIq3.out.up hb)
      have HB62 := Lib.hid (Below.step HB60.out hb)
      clear hb HKa60 HKb60 HKc60 HKn60 HKz60 HIq3 HB60
      have hc_a := HKa62.out.cell 0
      have hc_b := HKb62.out.cell 0
      have hc_c := HKc62.out.cell 0
      have hc_n := HKn62.out.cell 0
      have hc_z := HKz62.out.cell 0
      clear HIq362
      go_wp2_with fail
      refine (L0.out _).mono ?_
      rintro e w63 ⟨rfl, hb⟩
      (try clear hc_a)
      (try clear hc_b)
      (try clear hc_c)
      (try clear hc_n)
      (try clear hc_z)
      have HKa64 := Lib.hid (HKa62.out.step hb)
      have HKb64 := Lib.hid (HKb62.out.step hb)
      have HKc64 := Lib.hid (HKc62.out.step hb)
      have HKn64 := Lib.hid (HKn62.out.step hb)
      have HKz64 := Lib.hid (HKz62.out.step hb)
      have HB64 := Lib.hid (Below.step HB62.out hb)
      clear hb HKa62 HKb62 HKc62 HKn62 HKz62 HB62
      have hc_a := HKa64.out.cell 0
      have hc_b := HKb64.out.cell 0
      have hc_c := HKc64.out.cell 0
      have hc_n := HKn64.out.cell 0
      have hc_z := HKz64.out.cell 0
      go_wp2_with fail
      refine (O1.out _).mono ?_
      rintro e w65 ⟨rfl, hb⟩
      (try clear hc_a)
      (try clear hc_b)
      (try clear hc_c)
      (try clear hc_n)
      (try clear hc_z)
      have HKa66 := Lib.hid (HKa64.out.step hb)
      have HKb66 := Lib.hid (HKb64.out.step hb)
      have HKc66 := Lib.hid (HKc64.out.step hb)
      have HKn66 := Lib.hid (HKn64.out.step hb)
      have HKz66 := Lib.hid (HKz64.out.step hb)
      have HB66 := Lib.hid (Below.step HB64.out hb)
      clear hb HKa64 HKb64 HKc64 HKn64 HKz64 HB64
      have hc_a := HKa66.out.cell 0
      have hc_b := HKb66.out.cell 0
      have hc_c := HKc66.out.cell 0
      have hc_n := HKn66.out.cell 0
      have hc_z := HKz66.out.cell 0
      go_wp2_with fail
      refine (O2.out _).mono ?_
      rintro e w67 ⟨rfl, hb⟩
      (try clear hc_a)
      (try clear hc_b)
      (try clear hc_c)
      (try clear hc_n)
      (try clear hc_z)
      have HKa68 := Lib.hid (HKa66.out.step hb)
      have HKb68 := Lib.hid (HKb66.out.step hb)
      have HKc68 := Lib.hid (HKc66.out.step hb)
      have HKn68 := Lib.hid (HKn66.out.step hb)
      have HKz68 := Lib.hid (HKz66.out.step hb)
      have HB68 := Lib.hid (Below.step HB66.out hb)
      clear hb HKa66 HKb66 HKc66 HKn66 HKz66 HB66
      have hc_a := HKa68.out.cell 0
      have hc_b := HKb68.out.cell 0
      have hc_c := HKc68.out.cell 0
      have hc_n := HKn68.out.cell 0
      have hc_z := HKz68.out.cell 0
      go_wp2_with fail
      refine (UN.out _).mono ?_
      rintro e w69 ⟨rfl, hb⟩
      (try clear hc_a)
      (try clear hc_b)
      (try clear hc_c)
      (try clear hc_n)
      (try clear hc_z)
      have HKa70 := Lib.hid (HKa68.out.step hb)
      have HKb70 := Lib.hid (HKb68.out.step hb)
      have HKc70 := Lib.hid (HKc68.out.step hb)
      have HKn70 := Lib.hid (HKn68.out.step hb)
      have HKz70 := Lib.hid (HKz68.out.step hb)
      have HB70 := Lib.hid (Below.step HB68.out hb)
      clear hb HKa68 HKb68 HKc68 HKn68 HKz68 HB68
      have hc_a := HKa70.out.cell 0
      have hc_b := HKb70.out.cell 0
      have hc_c := HKc70.out.cell 0
      have hc_n := HKn70.out.cell 0
      have hc_z := HKz70.out.cell 0
      go_wp2_with fail
      refine (L6.out _).mono ?_
      rintro e w71 ⟨rfl, hb⟩
      (try clear hc_a)
      (try clear hc_b)
      (try clear hc_c)
      (try clear hc_n)
      (try clear hc_z)
      have HKa72 := Lib.hid (HKa70.out.step hb)
      have HKb72 := Lib.hid (HKb70.out.step hb)
      have HKc72 := Lib.hid (HKc70.out.step hb)
      have HKn72 := Lib.hid (HKn70.out.step hb)
      have HKz72 := Lib.hid (HKz70.out.step hb)
      have HB72 := Lib.hid (Below.step HB70.out hb)
      clear hb HKa70 HKb70 HKc70 HKn70 HKz70 HB70
      have hc_a := HKa72.out.cell 0
      have hc_b := HKb72.out.cell 0
      have hc_c := HKc72.out.cell 0
      have hc_n := HKn72.out.cell 0
      have hc_z := HKz72.out.cell 0
      go_wp2_with fail
      refine (O12.out _).mono ?_
      rintro e w73 ⟨rfl, hb⟩
      (try clear hc_a)
      (try clear hc_b)
      (try clear hc_c)
      (try clear hc_n)
      (try clear hc_z)
      have HKa74 := Lib.hid (HKa72.out.step hb)
      have HKb74 := Lib.hid (HKb72.out.step hb)
      have HKc74 := Lib.hid (HKc72.out.step hb)
      have HKn74 := Lib.hid (HKn72.out.step hb)
      have HKz74 := Lib.hid (HKz72.out.step hb)
      have HB74 := Lib.hid (Below.step HB72.out hb)
      clear hb HKa72 HKb72 HKc72 HKn72 HKz72 HB72
      have hc_a := HKa74.out.cell 0
      have hc_b := HKb74.out.cell 0
      have hc_c := HKc74.out.cell 0
      have hc_n := HKn74.out.cell 0
      have hc_z := HKz74.out.cell 0
      go_wp2_with fail
      refine (O23.out _).mono ?_
      rintro e w75 ⟨rfl, hb⟩
      (try clear hc_a)
      (try clear hc_b)
      (try clear hc_c)
      (try clear hc_n)
      (try clear hc_z)
      have HKa76 := Lib.hid (HKa74.out.step hb)
      have HKb76 := Lib.hid (HKb74.out.step hb)
      have HKc76 := Lib.hid (HKc74.out.step hb)
      have HKn76 := Lib.hid (HKn74.out.step hb)
      have HKz76 := Lib.hid (HKz74.out.step hb)
      have HB76 := Lib.hid (Below.step HB74.out hb)
      clear hb HKa74 HKb74 HKc74 HKn74 HKz74 HB74
      have hc_a := HKa76.out.cell 0
      have hc_b := HKb76.out.cell 0
      have hc_c := HKc76.out.cell 0
      have hc_n := HKn76.out.cell 0
      have hc_z := HKz76.out.cell 0
      go_wp2_with fail
      refine (MI.out _).mono ?_
      rintro e w77 ⟨rfl, hb⟩
      (try clear hc_a)
      (try clear hc_b)
      (try clear hc_c)
      (try clear hc_n)
      (try clear hc_z)
      have HKa78 := Lib.hid (HKa76.out.step hb)
      have HKb78 := Lib.hid (HKb76.out.step hb)
      have HKc78 := Lib.hid (HKc76.out.step hb)
      have HKn78 := Lib.hid (HKn76.out.step hb)
      have HKz78 := Lib.hid (HKz76.out.step hb)
      have HB78 := Lib.hid (Below.step HB76.out hb)
      clear hb HKa76 HKb76 HKc76 HKn76 HKz76 HB76
      have hc_a := HKa78.out.cell 0
      have hc_b := HKb78.out.cell 0
      have hc_c := HKc78.out.cell 0
      have hc_n := HKn78.out.cell 0
      have hc_z := HKz78.out.cell 0
      go_wp2_with fail
      refine (R2.out _).mono ?_
      rintro e w79 ⟨v, rfl, hown, hb⟩
      (try clear hc_a)
      (try clear hc_b)
      (try clear hc_c)
      (try clear hc_n)
      (try clear hc_z)
      have HKa80 := Lib.hid (HKa78.out.step hb)
      have HKb80 := Lib.hid (HKb78.out.step hb)
      have HKc80 := Lib.hid (HKc78.out.step hb)
      have HKn80 := Lib.hid (HKn78.out.step hb)
      have HKz80 := Lib.hid (HKz78.out.step hb)
      have HB80 := Lib.hid (Below.step HB78.out hb)
      obtain ⟨Aq4, cq4, rfl, _, hst, _, _, _⟩ := own_ints hown
      have HIq4 := Lib.hid hst
      clear hst hown
      clear hb HKa78 HKb78 HKc78 HKn78 HKz78 HB78
      have hc_a := HKa80.out.cell 0
      have hc_b := HKb80.out.cell 0
      have hc_c := HKc80.out.cell 0
      have hc_n := HKn80.out.cell 0
      have hc_z := HKz80.out.cell 0
      go_wp2_with fail
      refine (SD.out _ _ _ HIq4.out).mono ?_
      rintro e w81 ⟨rfl, hb⟩
      (try clear hc_a)
      (try clear hc_b)
      (try clear hc_c)
      (try clear hc_n)
      (try clear hc_z)
      have HKa82 := Lib.hid (HKa80.out.step hb)
      have HKb82 := Lib.hid (HKb80.out.step hb)
      have HKc82 := Lib.hid (HKc80.out.step hb)
      have HKn82 := Lib.hid (HKn80.out.step hb)
      have HKz82 := Lib.hid (HKz80.out.step hb)
      have HIq482 := Lib.hid (HIq4.out.up hb)
      have HB82 := Lib.hid (Below.step HB80.out hb)
      clear hb HKa80 HKb80 HKc80 HKn80 HKz80 HIq4 HB80
      have hc_a := HKa82.out.cell 0
      have hc_b := HKb82.out.cell 0
      have hc_c := HKc82.out.cell 0
      have hc_n := HKn82.out.cell 0
      have hc_z := HKz82.out.cell 0
      clear HIq482
      go_wp2_with fail
      refine (L64.out _).mono ?_
      rintro e w83 ⟨rfl, hb⟩
      (try clear hc_a)
      (try clear hc_b)
      (try clear hc_c)
      (try clear hc_n)
      (try clear hc_z)
      have HKa84 := Lib.hid (HKa82.out.step hb)
      have HKb84 := Lib.hid (HKb82.out.step hb)
      have HKc84 := Lib.hid (HKc82.out.step hb)
      have HKn84 := Lib.hid (HKn82.out.step hb)
      have HKz84 := Lib.hid (HKz82.out.step hb)
      have HB84 := Lib.hid (Below.step HB82.out hb)
      clear hb HKa82 HKb82 HKc82 HKn82 HKz82 HB82
      have hc_a := HKa84.out.cell 0
      have hc_b := HKb84.out.cell 0
      have hc_c := HKc84.out.cell 0
      have hc_n := HKn84.out.cell 0
      have hc_z := HKz84.out.cell 0
      go_wp2_with fail
      refine (WK.out _).mono ?_
      rintro e w85 ⟨rfl, hb⟩
      (try clear hc_a)
      (try clear hc_b)
      (try clear hc_c)
      (try clear hc_n)
      (try clear hc_z)
      have HKa86 := Lib.hid (HKa84.out.step hb)
      have HKb86 := Lib.hid (HKb84.out.step hb)
      have HKc86 := Lib.hid (HKc84.out.step hb)
      have HKn86 := Lib.hid (HKn84.out.step hb)
      have HKz86 := Lib.hid (HKz84.out.step hb)
      have HB86 := Lib.hid (Below.step HB84.out hb)
      clear hb HKa84 HKb84 HKc84 HKn84 HKz84 HB84
      have hc_a := HKa86.out.cell 0
      have hc_b := HKb86.out.cell 0
      have hc_c := HKc86.out.cell 0
      have hc_n := HKn86.out.cell 0
      have hc_z := HKz86.out.cell 0
      go_wp2
      go_ret
      exact ⟨rfl, HB86.out⟩
end Go.Proofs.Ytpineeaghmfggaa
