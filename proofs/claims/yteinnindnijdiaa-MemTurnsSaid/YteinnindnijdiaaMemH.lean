/- The walk through the law MemTurns: it answers true. -/
import Derived.Test.YteinnindnijdiaaMemN
namespace Go.Proofs.Yteinnindnijdiaa
set_option linter.unusedVariables false
set_option maxRecDepth 100000
open Go.RowKit
attribute [local go_sem ↓] Go.wp_at_zero Go.wp_at_succ

theorem and_low (X k : Nat) (hk : k < 64) (hX : X ≤ 18446744073709551615) : bits .and .u64 (X : Int) ((2 ^ k : Int) - 1) = ((X % 2 ^ k : Nat) : Int) := by
  have := bits_mask .u64 64 (by decide) (fun m h0 h1 => IntWalk.u64_in m (by omega)) k (by omega) (X : Int) (by omega) (by omega)
  rw [this]
  rw [Int.natCast_emod]
  simp
theorem and_all (X : Nat) (hX : X ≤ 18446744073709551615) : bits .and .u64 (X : Int) 18446744073709551615 = (X : Int) := by
  have e : (BitVec.ofInt 64 18446744073709551615).toNat = 2 ^ 64 - 1 := rfl
  have h : bits .and .u64 (X : Int) 18446744073709551615 = IntKind.u64.wrap ((BitVec.ofInt 64 (X : Int) &&& BitVec.ofInt 64 18446744073709551615).toNat : Int) := rfl
  rw [h, BitVec.toNat_and, e, Nat.and_two_pow_sub_one_eq_mod, BitVec.toNat_ofInt, IntWalk.u64_in _ (by omega)]
  omega

theorem rd_bang (A : List UInt8) (n : Nat) (hn : A.length = n) (h1 : 1 ≤ n) (h8 : n ≤ 8) (w : World) :
    Calls Try.prog 35 #[.string ⟨([33] ++ A ++ [33]).toArray⟩, .int .i64 1, .int .i64 n] w fun e w' => e = .returned (.tuple #[.int .u64 ((bigv A.reverse : Nat) : Int), .bool true]) ∧ Below w.heap.size w w' := by
  have hz : (⟨([33] ++ A ++ [33]).toArray⟩ : ByteArray).size = n + 2 := by show ([33] ++ A ++ [33] : List UInt8).length = _; simp [hn]
  have hr := readLittle_any w ⟨([33] ++ A ++ [33]).toArray⟩ 1 n (by rw [hz]; omega) (by omega) (by omega)
  have e1 : rdOk ⟨([33] ++ A ++ [33]).toArray⟩ 1 n = true := by simp only [rdOk, hz, decide_eq_true_eq]; omega
  have e2 : rdLittle ⟨([33] ++ A ++ [33]).toArray⟩ 1 n = ((bigv A.reverse : Nat) : Int) := by
    rw [rdLittle, if_pos e1]
    have : pieceL ⟨([33] ++ A ++ [33]).toArray⟩ 1 n = A := by
      unfold pieceL
      show (((33 :: A) ++ [33]).drop 1).take n = A
      rw [← hn]
      simp
    show ((bigv (pieceL _ 1 n).reverse : Nat) : Int) = _
    rw [this]
  rw [e1, e2] at hr
  exact hr
theorem rb_bang (A : List UInt8) (n : Nat) (hn : A.length = n) (h1 : 1 ≤ n) (h8 : n ≤ 8) (w : World) :
    Calls Try.prog 36 #[.string ⟨([33] ++ A ++ [33]).toArray⟩, .int .i64 1, .int .i64 n] w fun e w' => e = .returned (.tuple #[.int .u64 ((bigv A : Nat) : Int), .bool true]) ∧ Below w.heap.size w w' := by
  have hz : (⟨([33] ++ A ++ [33]).toArray⟩ : ByteArray).size = n + 2 := by show ([33] ++ A ++ [33] : List UInt8).length = _; simp [hn]
  have hr := readBig_any w ⟨([33] ++ A ++ [33]).toArray⟩ 1 n (by rw [hz]; omega) (by omega) (by omega)
  have e1 : rdOk ⟨([33] ++ A ++ [33]).toArray⟩ 1 n = true := by simp only [rdOk, hz, decide_eq_true_eq]; omega
  have e2 : rdBig ⟨([33] ++ A ++ [33]).toArray⟩ 1 n = ((bigv A : Nat) : Int) := by
    rw [rdBig, if_pos e1]
    have : pieceL ⟨([33] ++ A ++ [33]).toArray⟩ 1 n = A := by
      unfold pieceL
      show (((33 :: A) ++ [33]).drop 1).take n = A
      rw [← hn]
      simp
    show ((bigv (pieceL _ 1 n) : Nat) : Int) = _
    rw [this]
  rw [e1, e2] at hr
  exact hr

theorem rev_bat (A : List UInt8) (k : Nat) (h : k < A.length) : bat ⟨A.reverse.toArray⟩ (A.length - 1 - k) = bat ⟨A.toArray⟩ k := by
  simp only [bat]
  rw [List.getD_eq_getElem?_getD, List.getD_eq_getElem?_getD, List.getElem?_reverse (by omega)]
  congr 2
  omega

set_option maxHeartbeats 2000000 in
theorem memTurns_1 (X Y : Nat) (L : UInt8) (hX : X ≤ 18446744073709551615) (hY : Y ≤ 18446744073709551615) (hr : (L.toNat : Int) % 8 = 0) (w : World) :
    Calls Try.prog 12 #[.int .u64 X, .int .u64 Y, .int .u8 (L.toNat : Int)] w fun e w' => e = .returned (.bool true) ∧ Below w.heap.size w w' := by
  have hl0 := L.toNat_lt
  have hlit : litN (X : Int) 1 = lit X 1 := by rw [litN, if_pos (by omega)]; rfl
  have hlit2 : litN (Y : Int) 1 = lit Y 1 := by rw [litN, if_pos (by omega)]; rfl
  have hA := fun w => little_any w X 1 (by omega)
  have hB := fun w => big_any w X 1 (by omega)
  have hC := fun w => little_any w Y 1 (by omega)
  have h1 := fun w => rd_bang (lit X 1) 1 (lit_len _ _) (by omega) (by omega) w
  have h2 := fun w => rb_bang (lit X 1).reverse 1 (by rw [List.length_reverse, lit_len]) (by omega) (by omega) w
  have hv : ((bigv (lit X 1).reverse : Nat) : Int) = (X : Int) % 256 := by rw [bigv_lit]; omega
  rw [hv] at h1 h2
  rw [hlit] at hA hB
  rw [hlit2] at hC
  have hq : (lit Y 1 == lit X 1) = ((X : Int) % 256 == (Y : Int) % 256) := by
    rw [lit_inj, Bool.eq_iff_iff, decide_eq_true_eq, beq_iff_eq]
    constructor
    · intro h; omega
    · intro h; omega
  have hmX : bits .and .u64 (X : Int) 255 = (X : Int) % 256 := by have := and_low X 8 (by omega) hX; rw [show ((2 : Int) ^ 8 - 1) = 255 from by decide] at this; rw [this]; omega
  have hmY : bits .and .u64 (Y : Int) 255 = (Y : Int) % 256 := by have := and_low Y 8 (by omega) hY; rw [show ((2 : Int) ^ 8 - 1) = 255 from by decide] at this; rw [this]; omega
  have hrb := fun k (h : k < (lit X 1).length) => rev_bat (lit X 1) k h
  have hAl := lit_len X 1
  rw [hAl] at hrb
  generalize lit X 1 = A at hA hB h1 h2 hq hrb hAl
  generalize lit Y 1 = A' at hC hq
  obtain ⟨S, hS⟩ : ∃ S : ByteArray, S = ⟨A.toArray⟩ := ⟨_, rfl⟩
  obtain ⟨T, hT⟩ : ∃ T : ByteArray, T = ⟨A.reverse.toArray⟩ := ⟨_, rfl⟩
  have hSz : S.size = 1 := by rw [hS]; exact hAl
  have hTz : T.size = 1 := by rw [hT]; show A.reverse.length = _; rw [List.length_reverse, hAl]
  rw [← hS, ← hT] at hrb
  rw [← hS] at hA
  rw [← hT] at hB
  have HS := Lib.hid hS
  have HT := Lib.hid hT
  have HA := Lib.hid hA
  have HB := Lib.hid hB
  have HC := Lib.hid hC
  have H1 := Lib.hid h1
  have H2 := Lib.hid h2
  have HQ := Lib.hid hq
  have HMX := Lib.hid hmX
  have HMY := Lib.hid hmY
  have HRB := Lib.hid hrb
  clear hlit hlit2 hA hB hC h1 h2 hv hq hmX hmY hrb hAl hS hT
  go_enter Try.func12, Try.ntmps12
  go_wp2_with fail
  refine (memawake_any _).mono ?_
  rintro e w1 ⟨rfl, hb1⟩
  have HB1 := Lib.hid hb1
  clear hb1
  go_wp2_with fail
  refine (HA.out _).mono ?_
  rintro e w2 ⟨rfl, hb2⟩
  have HB2 := Lib.hid (Below.step HB1.out hb2)
  clear hb2
  go_wp2_with fail
  refine (HB.out _).mono ?_
  rintro e w3 ⟨rfl, hb3⟩
  have HB3 := Lib.hid (Below.step HB2.out hb3)
  clear hb3 hr
  go_wp2
  go_loopw [10] (fun ix wr => ∃ k : Nat, k ≤ 1 ∧ ix = .int .i64 k ∧ Below w.heap.size w wr) (fun ix _ => 1 - (intOf ix).toNat)
  case atStart => exact ⟨0, by omega, rfl, HB3.out⟩
  case round =>
    obtain ⟨k, hk, rfl, hbel⟩ := hrel
    have HBl := Lib.hid hbel
    clear hbel
    by_cases hlt : k < 1
    · have e1 : S[k]'(by omega) = bat S k := bat_get S k (by omega)
      have e2 : T[0]'(by omega) = bat S k := (bat_get T 0 (by omega)).trans (by have := HRB.out k hlt; simpa using this)
      have l1 := (bat S k).toNat_lt
      have g1 : IntKind.i64.wrap (-(k : Int)) = -(k : Int) := IntWalk.i64_in _ (by omega)
      have g2 : (-(k : Int)).toNat = 0 := by omega
      have g3 : 0 ≤ -(k : Int) := by omega
      have g4 : -(k : Int) < 1 := by omega
      have g5 : (0 : Int) ≤ (k : Int) := Int.natCast_nonneg _
      have g6 : (k : Int) < 1 := by omega
      go_wp2
      go_quiet (fail)
      go_wp2
      go_roundw
      case rel => exact ⟨k + 1, by omega, by go_num, Below.drewN HBl.out _⟩
      case measure => simp [intOf]; omega
    · obtain ⟨wo, rfl⟩ : ∃ wo : World, wo = wr := ⟨_, rfl⟩
      have g7 : ¬ (k : Int) < 1 := by omega
      go_wp2_with fail
      rw [HS.out, str_append [33] A, str_append _ [33]]
      refine (H1.out _).mono ?_
      rintro e w4 ⟨rfl, hb4⟩
      have HB4 := Lib.hid (Below.step HBl.out hb4)
      clear hb4
      go_wp2_with fail
      rw [HT.out, str_append [33] A.reverse, str_append _ [33]]
      refine (H2.out _).mono ?_
      rintro e w5 ⟨rfl, hb5⟩
      have HB5 := Lib.hid (Below.step HB4.out hb5)
      clear hb5
      have hmX := HMX.out
      have hmY := HMY.out
      have hq := HQ.out
      go_wp2_with fail
      refine (HC.out _).mono ?_
      rintro e w6 ⟨rfl, hb6⟩
      have HB6 := Lib.hid (Below.step HB5.out hb6)
      clear hb6
      go_wp2
      go_ret
      first | exact ⟨rfl, HB6.out⟩ | exact ⟨by simp [hq], HB6.out⟩

set_option maxHeartbeats 2000000 in
theorem memTurns_2 (X Y : Nat) (L : UInt8) (hX : X ≤ 18446744073709551615) (hY : Y ≤ 18446744073709551615) (hr : (L.toNat : Int) % 8 = 1) (w : World) :
    Calls Try.prog 12 #[.int .u64 X, .int .u64 Y, .int .u8 (L.toNat : Int)] w fun e w' => e = .returned (.bool true) ∧ Below w.heap.size w w' := by
  have hl0 := L.toNat_lt
  have hlit : litN (X : Int) 2 = lit X 2 := by rw [litN, if_pos (by omega)]; rfl
  have hlit2 : litN (Y : Int) 2 = lit Y 2 := by rw [litN, if_pos (by omega)]; rfl
  have hA := fun w => little_any w X 2 (by omega)
  have hB := fun w => big_any w X 2 (by omega)
  have hC := fun w => little_any w Y 2 (by omega)
  have h1 := fun w => rd_bang (lit X 2) 2 (lit_len _ _) (by omega) (by omega) w
  have h2 := fun w => rb_bang (lit X 2).reverse 2 (by rw [List.length_reverse, lit_len]) (by omega) (by omega) w
  have hv : ((bigv (lit X 2).reverse : Nat) : Int) = (X : Int) % 65536 := by rw [bigv_lit]; omega
  rw [hv] at h1 h2
  rw [hlit] at hA hB
  rw [hlit2] at hC
  have hq : (lit Y 2 == lit X 2) = ((X : Int) % 65536 == (Y : Int) % 65536) := by
    rw [lit_inj, Bool.eq_iff_iff, decide_eq_true_eq, beq_iff_eq]
    constructor
    · intro h; omega
    · intro h; omega
  have hmX : bits .and .u64 (X : Int) 65535 = (X : Int) % 65536 := by have := and_low X 16 (by omega) hX; rw [show ((2 : Int) ^ 16 - 1) = 65535 from by decide] at this; rw [this]; omega
  have hmY : bits .and .u64 (Y : Int) 65535 = (Y : Int) % 65536 := by have := and_low Y 16 (by omega) hY; rw [show ((2 : Int) ^ 16 - 1) = 65535 from by decide] at this; rw [this]; omega
  have hrb := fun k (h : k < (lit X 2).length) => rev_bat (lit X 2) k h
  have hAl := lit_len X 2
  rw [hAl] at hrb
  generalize lit X 2 = A at hA hB h1 h2 hq hrb hAl
  generalize lit Y 2 = A' at hC hq
  obtain ⟨S, hS⟩ : ∃ S : ByteArray, S = ⟨A.toArray⟩ := ⟨_, rfl⟩
  obtain ⟨T, hT⟩ : ∃ T : ByteArray, T = ⟨A.reverse.toArray⟩ := ⟨_, rfl⟩
  have hSz : S.size = 2 := by rw [hS]; exact hAl
  have hTz : T.size = 2 := by rw [hT]; show A.reverse.length = _; rw [List.length_reverse, hAl]
  rw [← hS, ← hT] at hrb
  rw [← hS] at hA
  rw [← hT] at hB
  have HS := Lib.hid hS
  have HT := Lib.hid hT
  have HA := Lib.hid hA
  have HB := Lib.hid hB
  have HC := Lib.hid hC
  have H1 := Lib.hid h1
  have H2 := Lib.hid h2
  have HQ := Lib.hid hq
  have HMX := Lib.hid hmX
  have HMY := Lib.hid hmY
  have HRB := Lib.hid hrb
  clear hlit hlit2 hA hB hC h1 h2 hv hq hmX hmY hrb hAl hS hT
  go_enter Try.func12, Try.ntmps12
  go_wp2_with fail
  refine (memawake_any _).mono ?_
  rintro e w1 ⟨rfl, hb1⟩
  have HB1 := Lib.hid hb1
  clear hb1
  go_wp2_with fail
  refine (HA.out _).mono ?_
  rintro e w2 ⟨rfl, hb2⟩
  have HB2 := Lib.hid (Below.step HB1.out hb2)
  clear hb2
  go_wp2_with fail
  refine (HB.out _).mono ?_
  rintro e w3 ⟨rfl, hb3⟩
  have HB3 := Lib.hid (Below.step HB2.out hb3)
  clear hb3 hr
  go_wp2
  go_loopw [10] (fun ix wr => ∃ k : Nat, k ≤ 2 ∧ ix = .int .i64 k ∧ Below w.heap.size w wr) (fun ix _ => 2 - (intOf ix).toNat)
  case atStart => exact ⟨0, by omega, rfl, HB3.out⟩
  case round =>
    obtain ⟨k, hk, rfl, hbel⟩ := hrel
    have HBl := Lib.hid hbel
    clear hbel
    by_cases hlt : k < 2
    · have e1 : S[k]'(by omega) = bat S k := bat_get S k (by omega)
      have e2 : T[1 - k]'(by omega) = bat S k := (bat_get T (1 - k) (by omega)).trans (HRB.out k hlt)
      have l1 := (bat S k).toNat_lt
      have g1 : IntKind.i64.wrap (1 - (k : Int)) = 1 - (k : Int) := IntWalk.i64_in _ (by omega)
      have g2 : (1 - (k : Int)).toNat = 1 - k := by omega
      have g3 : 0 ≤ 1 - (k : Int) := by omega
      have g4 : 1 - (k : Int) < 2 := by omega
      have g5 : (0 : Int) ≤ (k : Int) := Int.natCast_nonneg _
      have g6 : (k : Int) < 2 := by omega
      go_wp2
      go_quiet (fail)
      go_wp2
      go_roundw
      case rel => exact ⟨k + 1, by omega, by go_num, Below.drewN HBl.out _⟩
      case measure => simp [intOf]; omega
    · obtain ⟨wo, rfl⟩ : ∃ wo : World, wo = wr := ⟨_, rfl⟩
      have g7 : ¬ (k : Int) < 2 := by omega
      go_wp2_with fail
      rw [HS.out, str_append [33] A, str_append _ [33]]
      refine (H1.out _).mono ?_
      rintro e w4 ⟨rfl, hb4⟩
      have HB4 := Lib.hid (Below.step HBl.out hb4)
      clear hb4
      go_wp2_with fail
      rw [HT.out, str_append [33] A.reverse, str_append _ [33]]
      refine (H2.out _).mono ?_
      rintro e w5 ⟨rfl, hb5⟩
      have HB5 := Lib.hid (Below.step HB4.out hb5)
      clear hb5
      have hmX := HMX.out
      have hmY := HMY.out
      have hq := HQ.out
      go_wp2_with fail
      refine (HC.out _).mono ?_
      rintro e w6 ⟨rfl, hb6⟩
      have HB6 := Lib.hid (Below.step HB5.out hb6)
      clear hb6
      go_wp2
      go_ret
      first | exact ⟨rfl, HB6.out⟩ | exact ⟨by simp [hq], HB6.out⟩

set_option maxHeartbeats 2000000 in
theorem memTurns_3 (X Y : Nat) (L : UInt8) (hX : X ≤ 18446744073709551615) (hY : Y ≤ 18446744073709551615) (hr : (L.toNat : Int) % 8 = 2) (w : World) :
    Calls Try.prog 12 #[.int .u64 X, .int .u64 Y, .int .u8 (L.toNat : Int)] w fun e w' => e = .returned (.bool true) ∧ Below w.heap.size w w' := by
  have hl0 := L.toNat_lt
  have hlit : litN (X : Int) 3 = lit X 3 := by rw [litN, if_pos (by omega)]; rfl
  have hlit2 : litN (Y : Int) 3 = lit Y 3 := by rw [litN, if_pos (by omega)]; rfl
  have hA := fun w => little_any w X 3 (by omega)
  have hB := fun w => big_any w X 3 (by omega)
  have hC := fun w => little_any w Y 3 (by omega)
  have h1 := fun w => rd_bang (lit X 3) 3 (lit_len _ _) (by omega) (by omega) w
  have h2 := fun w => rb_bang (lit X 3).reverse 3 (by rw [List.length_reverse, lit_len]) (by omega) (by omega) w
  have hv : ((bigv (lit X 3).reverse : Nat) : Int) = (X : Int) % 16777216 := by rw [bigv_lit]; omega
  rw [hv] at h1 h2
  rw [hlit] at hA hB
  rw [hlit2] at hC
  have hq : (lit Y 3 == lit X 3) = ((X : Int) % 16777216 == (Y : Int) % 16777216) := by
    rw [lit_inj, Bool.eq_iff_iff, decide_eq_true_eq, beq_iff_eq]
    constructor
    · intro h; omega
    · intro h; omega
  have hmX : bits .and .u64 (X : Int) 16777215 = (X : Int) % 16777216 := by have := and_low X 24 (by omega) hX; rw [show ((2 : Int) ^ 24 - 1) = 16777215 from by decide] at this; rw [this]; omega
  have hmY : bits .and .u64 (Y : Int) 16777215 = (Y : Int) % 16777216 := by have := and_low Y 24 (by omega) hY; rw [show ((2 : Int) ^ 24 - 1) = 16777215 from by decide] at this; rw [this]; omega
  have hrb := fun k (h : k < (lit X 3).length) => rev_bat (lit X 3) k h
  have hAl := lit_len X 3
  rw [hAl] at hrb
  generalize lit X 3 = A at hA hB h1 h2 hq hrb hAl
  generalize lit Y 3 = A' at hC hq
  obtain ⟨S, hS⟩ : ∃ S : ByteArray, S = ⟨A.toArray⟩ := ⟨_, rfl⟩
  obtain ⟨T, hT⟩ : ∃ T : ByteArray, T = ⟨A.reverse.toArray⟩ := ⟨_, rfl⟩
  have hSz : S.size = 3 := by rw [hS]; exact hAl
  have hTz : T.size = 3 := by rw [hT]; show A.reverse.length = _; rw [List.length_reverse, hAl]
  rw [← hS, ← hT] at hrb
  rw [← hS] at hA
  rw [← hT] at hB
  have HS := Lib.hid hS
  have HT := Lib.hid hT
  have HA := Lib.hid hA
  have HB := Lib.hid hB
  have HC := Lib.hid hC
  have H1 := Lib.hid h1
  have H2 := Lib.hid h2
  have HQ := Lib.hid hq
  have HMX := Lib.hid hmX
  have HMY := Lib.hid hmY
  have HRB := Lib.hid hrb
  clear hlit hlit2 hA hB hC h1 h2 hv hq hmX hmY hrb hAl hS hT
  go_enter Try.func12, Try.ntmps12
  go_wp2_with fail
  refine (memawake_any _).mono ?_
  rintro e w1 ⟨rfl, hb1⟩
  have HB1 := Lib.hid hb1
  clear hb1
  go_wp2_with fail
  refine (HA.out _).mono ?_
  rintro e w2 ⟨rfl, hb2⟩
  have HB2 := Lib.hid (Below.step HB1.out hb2)
  clear hb2
  go_wp2_with fail
  refine (HB.out _).mono ?_
  rintro e w3 ⟨rfl, hb3⟩
  have HB3 := Lib.hid (Below.step HB2.out hb3)
  clear hb3 hr
  go_wp2
  go_loopw [10] (fun ix wr => ∃ k : Nat, k ≤ 3 ∧ ix = .int .i64 k ∧ Below w.heap.size w wr) (fun ix _ => 3 - (intOf ix).toNat)
  case atStart => exact ⟨0, by omega, rfl, HB3.out⟩
  case round =>
    obtain ⟨k, hk, rfl, hbel⟩ := hrel
    have HBl := Lib.hid hbel
    clear hbel
    by_cases hlt : k < 3
    · have e1 : S[k]'(by omega) = bat S k := bat_get S k (by omega)
      have e2 : T[2 - k]'(by omega) = bat S k := (bat_get T (2 - k) (by omega)).trans (HRB.out k hlt)
      have l1 := (bat S k).toNat_lt
      have g1 : IntKind.i64.wrap (2 - (k : Int)) = 2 - (k : Int) := IntWalk.i64_in _ (by omega)
      have g2 : (2 - (k : Int)).toNat = 2 - k := by omega
      have g3 : 0 ≤ 2 - (k : Int) := by omega
      have g4 : 2 - (k : Int) < 3 := by omega
      have g5 : (0 : Int) ≤ (k : Int) := Int.natCast_nonneg _
      have g6 : (k : Int) < 3 := by omega
      go_wp2
      go_quiet (fail)
      go_wp2
      go_roundw
      case rel => exact ⟨k + 1, by omega, by go_num, Below.drewN HBl.out _⟩
      case measure => simp [intOf]; omega
    · obtain ⟨wo, rfl⟩ : ∃ wo : World, wo = wr := ⟨_, rfl⟩
      have g7 : ¬ (k : Int) < 3 := by omega
      go_wp2_with fail
      rw [HS.out, str_append [33] A, str_append _ [33]]
      refine (H1.out _).mono ?_
      rintro e w4 ⟨rfl, hb4⟩
      have HB4 := Lib.hid (Below.step HBl.out hb4)
      clear hb4
      go_wp2_with fail
      rw [HT.out, str_append [33] A.reverse, str_append _ [33]]
      refine (H2.out _).mono ?_
      rintro e w5 ⟨rfl, hb5⟩
      have HB5 := Lib.hid (Below.step HB4.out hb5)
      clear hb5
      have hmX := HMX.out
      have hmY := HMY.out
      have hq := HQ.out
      go_wp2_with fail
      refine (HC.out _).mono ?_
      rintro e w6 ⟨rfl, hb6⟩
      have HB6 := Lib.hid (Below.step HB5.out hb6)
      clear hb6
      go_wp2
      go_ret
      first | exact ⟨rfl, HB6.out⟩ | exact ⟨by simp [hq], HB6.out⟩

set_option maxHeartbeats 2000000 in
theorem memTurns_4 (X Y : Nat) (L : UInt8) (hX : X ≤ 18446744073709551615) (hY : Y ≤ 18446744073709551615) (hr : (L.toNat : Int) % 8 = 3) (w : World) :
    Calls Try.prog 12 #[.int .u64 X, .int .u64 Y, .int .u8 (L.toNat : Int)] w fun e w' => e = .returned (.bool true) ∧ Below w.heap.size w w' := by
  have hl0 := L.toNat_lt
  have hlit : litN (X : Int) 4 = lit X 4 := by rw [litN, if_pos (by omega)]; rfl
  have hlit2 : litN (Y : Int) 4 = lit Y 4 := by rw [litN, if_pos (by omega)]; rfl
  have hA := fun w => little_any w X 4 (by omega)
  have hB := fun w => big_any w X 4 (by omega)
  have hC := fun w => little_any w Y 4 (by omega)
  have h1 := fun w => rd_bang (lit X 4) 4 (lit_len _ _) (by omega) (by omega) w
  have h2 := fun w => rb_bang (lit X 4).reverse 4 (by rw [List.length_reverse, lit_len]) (by omega) (by omega) w
  have hv : ((bigv (lit X 4).reverse : Nat) : Int) = (X : Int) % 4294967296 := by rw [bigv_lit]; omega
  rw [hv] at h1 h2
  rw [hlit] at hA hB
  rw [hlit2] at hC
  have hq : (lit Y 4 == lit X 4) = ((X : Int) % 4294967296 == (Y : Int) % 4294967296) := by
    rw [lit_inj, Bool.eq_iff_iff, decide_eq_true_eq, beq_iff_eq]
    constructor
    · intro h; omega
    · intro h; omega
  have hmX : bits .and .u64 (X : Int) 4294967295 = (X : Int) % 4294967296 := by have := and_low X 32 (by omega) hX; rw [show ((2 : Int) ^ 32 - 1) = 4294967295 from by decide] at this; rw [this]; omega
  have hmY : bits .and .u64 (Y : Int) 4294967295 = (Y : Int) % 4294967296 := by have := and_low Y 32 (by omega) hY; rw [show ((2 : Int) ^ 32 - 1) = 4294967295 from by decide] at this; rw [this]; omega
  have hrb := fun k (h : k < (lit X 4).length) => rev_bat (lit X 4) k h
  have hAl := lit_len X 4
  rw [hAl] at hrb
  generalize lit X 4 = A at hA hB h1 h2 hq hrb hAl
  generalize lit Y 4 = A' at hC hq
  obtain ⟨S, hS⟩ : ∃ S : ByteArray, S = ⟨A.toArray⟩ := ⟨_, rfl⟩
  obtain ⟨T, hT⟩ : ∃ T : ByteArray, T = ⟨A.reverse.toArray⟩ := ⟨_, rfl⟩
  have hSz : S.size = 4 := by rw [hS]; exact hAl
  have hTz : T.size = 4 := by rw [hT]; show A.reverse.length = _; rw [List.length_reverse, hAl]
  rw [← hS, ← hT] at hrb
  rw [← hS] at hA
  rw [← hT] at hB
  have HS := Lib.hid hS
  have HT := Lib.hid hT
  have HA := Lib.hid hA
  have HB := Lib.hid hB
  have HC := Lib.hid hC
  have H1 := Lib.hid h1
  have H2 := Lib.hid h2
  have HQ := Lib.hid hq
  have HMX := Lib.hid hmX
  have HMY := Lib.hid hmY
  have HRB := Lib.hid hrb
  clear hlit hlit2 hA hB hC h1 h2 hv hq hmX hmY hrb hAl hS hT
  go_enter Try.func12, Try.ntmps12
  go_wp2_with fail
  refine (memawake_any _).mono ?_
  rintro e w1 ⟨rfl, hb1⟩
  have HB1 := Lib.hid hb1
  clear hb1
  go_wp2_with fail
  refine (HA.out _).mono ?_
  rintro e w2 ⟨rfl, hb2⟩
  have HB2 := Lib.hid (Below.step HB1.out hb2)
  clear hb2
  go_wp2_with fail
  refine (HB.out _).mono ?_
  rintro e w3 ⟨rfl, hb3⟩
  have HB3 := Lib.hid (Below.step HB2.out hb3)
  clear hb3 hr
  go_wp2
  go_loopw [10] (fun ix wr => ∃ k : Nat, k ≤ 4 ∧ ix = .int .i64 k ∧ Below w.heap.size w wr) (fun ix _ => 4 - (intOf ix).toNat)
  case atStart => exact ⟨0, by omega, rfl, HB3.out⟩
  case round =>
    obtain ⟨k, hk, rfl, hbel⟩ := hrel
    have HBl := Lib.hid hbel
    clear hbel
    by_cases hlt : k < 4
    · have e1 : S[k]'(by omega) = bat S k := bat_get S k (by omega)
      have e2 : T[3 - k]'(by omega) = bat S k := (bat_get T (3 - k) (by omega)).trans (HRB.out k hlt)
      have l1 := (bat S k).toNat_lt
      have g1 : IntKind.i64.wrap (3 - (k : Int)) = 3 - (k : Int) := IntWalk.i64_in _ (by omega)
      have g2 : (3 - (k : Int)).toNat = 3 - k := by omega
      have g3 : 0 ≤ 3 - (k : Int) := by omega
      have g4 : 3 - (k : Int) < 4 := by omega
      have g5 : (0 : Int) ≤ (k : Int) := Int.natCast_nonneg _
      have g6 : (k : Int) < 4 := by omega
      go_wp2
      go_quiet (fail)
      go_wp2
      go_roundw
      case rel => exact ⟨k + 1, by omega, by go_num, Below.drewN HBl.out _⟩
      case measure => simp [intOf]; omega
    · obtain ⟨wo, rfl⟩ : ∃ wo : World, wo = wr := ⟨_, rfl⟩
      have g7 : ¬ (k : Int) < 4 := by omega
      go_wp2_with fail
      rw [HS.out, str_append [33] A, str_append _ [33]]
      refine (H1.out _).mono ?_
      rintro e w4 ⟨rfl, hb4⟩
      have HB4 := Lib.hid (Below.step HBl.out hb4)
      clear hb4
      go_wp2_with fail
      rw [HT.out, str_append [33] A.reverse, str_append _ [33]]
      refine (H2.out _).mono ?_
      rintro e w5 ⟨rfl, hb5⟩
      have HB5 := Lib.hid (Below.step HB4.out hb5)
      clear hb5
      have hmX := HMX.out
      have hmY := HMY.out
      have hq := HQ.out
      go_wp2_with fail
      refine (HC.out _).mono ?_
      rintro e w6 ⟨rfl, hb6⟩
      have HB6 := Lib.hid (Below.step HB5.out hb6)
      clear hb6
      go_wp2
      go_ret
      first | exact ⟨rfl, HB6.out⟩ | exact ⟨by simp [hq], HB6.out⟩

set_option maxHeartbeats 2000000 in
theorem memTurns_5 (X Y : Nat) (L : UInt8) (hX : X ≤ 18446744073709551615) (hY : Y ≤ 18446744073709551615) (hr : (L.toNat : Int) % 8 = 4) (w : World) :
    Calls Try.prog 12 #[.int .u64 X, .int .u64 Y, .int .u8 (L.toNat : Int)] w fun e w' => e = .returned (.bool true) ∧ Below w.heap.size w w' := by
  have hl0 := L.toNat_lt
  have hlit : litN (X : Int) 5 = lit X 5 := by rw [litN, if_pos (by omega)]; rfl
  have hlit2 : litN (Y : Int) 5 = lit Y 5 := by rw [litN, if_pos (by omega)]; rfl
  have hA := fun w => little_any w X 5 (by omega)
  have hB := fun w => big_any w X 5 (by omega)
  have hC := fun w => little_any w Y 5 (by omega)
  have h1 := fun w => rd_bang (lit X 5) 5 (lit_len _ _) (by omega) (by omega) w
  have h2 := fun w => rb_bang (lit X 5).reverse 5 (by rw [List.length_reverse, lit_len]) (by omega) (by omega) w
  have hv : ((bigv (lit X 5).reverse : Nat) : Int) = (X : Int) % 1099511627776 := by rw [bigv_lit]; omega
  rw [hv] at h1 h2
  rw [hlit] at hA hB
  rw [hlit2] at hC
  have hq : (lit Y 5 == lit X 5) = ((X : Int) % 1099511627776 == (Y : Int) % 1099511627776) := by
    rw [lit_inj, Bool.eq_iff_iff, decide_eq_true_eq, beq_iff_eq]
    constructor
    · intro h; omega
    · intro h; omega
  have hmX : bits .and .u64 (X : Int) 1099511627775 = (X : Int) % 1099511627776 := by have := and_low X 40 (by omega) hX; rw [show ((2 : Int) ^ 40 - 1) = 1099511627775 from by decide] at this; rw [this]; omega
  have hmY : bits .and .u64 (Y : Int) 1099511627775 = (Y : Int) % 1099511627776 := by have := and_low Y 40 (by omega) hY; rw [show ((2 : Int) ^ 40 - 1) = 1099511627775 from by decide] at this; rw [this]; omega
  have hrb := fun k (h : k < (lit X 5).length) => rev_bat (lit X 5) k h
  have hAl := lit_len X 5
  rw [hAl] at hrb
  generalize lit X 5 = A at hA hB h1 h2 hq hrb hAl
  generalize lit Y 5 = A' at hC hq
  obtain ⟨S, hS⟩ : ∃ S : ByteArray, S = ⟨A.toArray⟩ := ⟨_, rfl⟩
  obtain ⟨T, hT⟩ : ∃ T : ByteArray, T = ⟨A.reverse.toArray⟩ := ⟨_, rfl⟩
  have hSz : S.size = 5 := by rw [hS]; exact hAl
  have hTz : T.size = 5 := by rw [hT]; show A.reverse.length = _; rw [List.length_reverse, hAl]
  rw [← hS, ← hT] at hrb
  rw [← hS] at hA
  rw [← hT] at hB
  have HS := Lib.hid hS
  have HT := Lib.hid hT
  have HA := Lib.hid hA
  have HB := Lib.hid hB
  have HC := Lib.hid hC
  have H1 := Lib.hid h1
  have H2 := Lib.hid h2
  have HQ := Lib.hid hq
  have HMX := Lib.hid hmX
  have HMY := Lib.hid hmY
  have HRB := Lib.hid hrb
  clear hlit hlit2 hA hB hC h1 h2 hv hq hmX hmY hrb hAl hS hT
  go_enter Try.func12, Try.ntmps12
  go_wp2_with fail
  refine (memawake_any _).mono ?_
  rintro e w1 ⟨rfl, hb1⟩
  have HB1 := Lib.hid hb1
  clear hb1
  go_wp2_with fail
  refine (HA.out _).mono ?_
  rintro e w2 ⟨rfl, hb2⟩
  have HB2 := Lib.hid (Below.step HB1.out hb2)
  clear hb2
  go_wp2_with fail
  refine (HB.out _).mono ?_
  rintro e w3 ⟨rfl, hb3⟩
  have HB3 := Lib.hid (Below.step HB2.out hb3)
  clear hb3 hr
  go_wp2
  go_loopw [10] (fun ix wr => ∃ k : Nat, k ≤ 5 ∧ ix = .int .i64 k ∧ Below w.heap.size w wr) (fun ix _ => 5 - (intOf ix).toNat)
  case atStart => exact ⟨0, by omega, rfl, HB3.out⟩
  case round =>
    obtain ⟨k, hk, rfl, hbel⟩ := hrel
    have HBl := Lib.hid hbel
    clear hbel
    by_cases hlt : k < 5
    · have e1 : S[k]'(by omega) = bat S k := bat_get S k (by omega)
      have e2 : T[4 - k]'(by omega) = bat S k := (bat_get T (4 - k) (by omega)).trans (HRB.out k hlt)
      have l1 := (bat S k).toNat_lt
      have g1 : IntKind.i64.wrap (4 - (k : Int)) = 4 - (k : Int) := IntWalk.i64_in _ (by omega)
      have g2 : (4 - (k : Int)).toNat = 4 - k := by omega
      have g3 : 0 ≤ 4 - (k : Int) := by omega
      have g4 : 4 - (k : Int) < 5 := by omega
      have g5 : (0 : Int) ≤ (k : Int) := Int.natCast_nonneg _
      have g6 : (k : Int) < 5 := by omega
      go_wp2
      go_quiet (fail)
      go_wp2
      go_roundw
      case rel => exact ⟨k + 1, by omega, by go_num, Below.drewN HBl.out _⟩
      case measure => simp [intOf]; omega
    · obtain ⟨wo, rfl⟩ : ∃ wo : World, wo = wr := ⟨_, rfl⟩
      have g7 : ¬ (k : Int) < 5 := by omega
      go_wp2_with fail
      rw [HS.out, str_append [33] A, str_append _ [33]]
      refine (H1.out _).mono ?_
      rintro e w4 ⟨rfl, hb4⟩
      have HB4 := Lib.hid (Below.step HBl.out hb4)
      clear hb4
      go_wp2_with fail
      rw [HT.out, str_append [33] A.reverse, str_append _ [33]]
      refine (H2.out _).mono ?_
      rintro e w5 ⟨rfl, hb5⟩
      have HB5 := Lib.hid (Below.step HB4.out hb5)
      clear hb5
      have hmX := HMX.out
      have hmY := HMY.out
      have hq := HQ.out
      go_wp2_with fail
      refine (HC.out _).mono ?_
      rintro e w6 ⟨rfl, hb6⟩
      have HB6 := Lib.hid (Below.step HB5.out hb6)
      clear hb6
      go_wp2
      go_ret
      first | exact ⟨rfl, HB6.out⟩ | exact ⟨by simp [hq], HB6.out⟩

set_option maxHeartbeats 2000000 in
theorem memTurns_6 (X Y : Nat) (L : UInt8) (hX : X ≤ 18446744073709551615) (hY : Y ≤ 18446744073709551615) (hr : (L.toNat : Int) % 8 = 5) (w : World) :
    Calls Try.prog 12 #[.int .u64 X, .int .u64 Y, .int .u8 (L.toNat : Int)] w fun e w' => e = .returned (.bool true) ∧ Below w.heap.size w w' := by
  have hl0 := L.toNat_lt
  have hlit : litN (X : Int) 6 = lit X 6 := by rw [litN, if_pos (by omega)]; rfl
  have hlit2 : litN (Y : Int) 6 = lit Y 6 := by rw [litN, if_pos (by omega)]; rfl
  have hA := fun w => little_any w X 6 (by omega)
  have hB := fun w => big_any w X 6 (by omega)
  have hC := fun w => little_any w Y 6 (by omega)
  have h1 := fun w => rd_bang (lit X 6) 6 (lit_len _ _) (by omega) (by omega) w
  have h2 := fun w => rb_bang (lit X 6).reverse 6 (by rw [List.length_reverse, lit_len]) (by omega) (by omega) w
  have hv : ((bigv (lit X 6).reverse : Nat) : Int) = (X : Int) % 281474976710656 := by rw [bigv_lit]; omega
  rw [hv] at h1 h2
  rw [hlit] at hA hB
  rw [hlit2] at hC
  have hq : (lit Y 6 == lit X 6) = ((X : Int) % 281474976710656 == (Y : Int) % 281474976710656) := by
    rw [lit_inj, Bool.eq_iff_iff, decide_eq_true_eq, beq_iff_eq]
    constructor
    · intro h; omega
    · intro h; omega
  have hmX : bits .and .u64 (X : Int) 281474976710655 = (X : Int) % 281474976710656 := by have := and_low X 48 (by omega) hX; rw [show ((2 : Int) ^ 48 - 1) = 281474976710655 from by decide] at this; rw [this]; omega
  have hmY : bits .and .u64 (Y : Int) 281474976710655 = (Y : Int) % 281474976710656 := by have := and_low Y 48 (by omega) hY; rw [show ((2 : Int) ^ 48 - 1) = 281474976710655 from by decide] at this; rw [this]; omega
  have hrb := fun k (h : k < (lit X 6).length) => rev_bat (lit X 6) k h
  have hAl := lit_len X 6
  rw [hAl] at hrb
  generalize lit X 6 = A at hA hB h1 h2 hq hrb hAl
  generalize lit Y 6 = A' at hC hq
  obtain ⟨S, hS⟩ : ∃ S : ByteArray, S = ⟨A.toArray⟩ := ⟨_, rfl⟩
  obtain ⟨T, hT⟩ : ∃ T : ByteArray, T = ⟨A.reverse.toArray⟩ := ⟨_, rfl⟩
  have hSz : S.size = 6 := by rw [hS]; exact hAl
  have hTz : T.size = 6 := by rw [hT]; show A.reverse.length = _; rw [List.length_reverse, hAl]
  rw [← hS, ← hT] at hrb
  rw [← hS] at hA
  rw [← hT] at hB
  have HS := Lib.hid hS
  have HT := Lib.hid hT
  have HA := Lib.hid hA
  have HB := Lib.hid hB
  have HC := Lib.hid hC
  have H1 := Lib.hid h1
  have H2 := Lib.hid h2
  have HQ := Lib.hid hq
  have HMX := Lib.hid hmX
  have HMY := Lib.hid hmY
  have HRB := Lib.hid hrb
  clear hlit hlit2 hA hB hC h1 h2 hv hq hmX hmY hrb hAl hS hT
  go_enter Try.func12, Try.ntmps12
  go_wp2_with fail
  refine (memawake_any _).mono ?_
  rintro e w1 ⟨rfl, hb1⟩
  have HB1 := Lib.hid hb1
  clear hb1
  go_wp2_with fail
  refine (HA.out _).mono ?_
  rintro e w2 ⟨rfl, hb2⟩
  have HB2 := Lib.hid (Below.step HB1.out hb2)
  clear hb2
  go_wp2_with fail
  refine (HB.out _).mono ?_
  rintro e w3 ⟨rfl, hb3⟩
  have HB3 := Lib.hid (Below.step HB2.out hb3)
  clear hb3 hr
  go_wp2
  go_loopw [10] (fun ix wr => ∃ k : Nat, k ≤ 6 ∧ ix = .int .i64 k ∧ Below w.heap.size w wr) (fun ix _ => 6 - (intOf ix).toNat)
  case atStart => exact ⟨0, by omega, rfl, HB3.out⟩
  case round =>
    obtain ⟨k, hk, rfl, hbel⟩ := hrel
    have HBl := Lib.hid hbel
    clear hbel
    by_cases hlt : k < 6
    · have e1 : S[k]'(by omega) = bat S k := bat_get S k (by omega)
      have e2 : T[5 - k]'(by omega) = bat S k := (bat_get T (5 - k) (by omega)).trans (HRB.out k hlt)
      have l1 := (bat S k).toNat_lt
      have g1 : IntKind.i64.wrap (5 - (k : Int)) = 5 - (k : Int) := IntWalk.i64_in _ (by omega)
      have g2 : (5 - (k : Int)).toNat = 5 - k := by omega
      have g3 : 0 ≤ 5 - (k : Int) := by omega
      have g4 : 5 - (k : Int) < 6 := by omega
      have g5 : (0 : Int) ≤ (k : Int) := Int.natCast_nonneg _
      have g6 : (k : Int) < 6 := by omega
      go_wp2
      go_quiet (fail)
      go_wp2
      go_roundw
      case rel => exact ⟨k + 1, by omega, by go_num, Below.drewN HBl.out _⟩
      case measure => simp [intOf]; omega
    · obtain ⟨wo, rfl⟩ : ∃ wo : World, wo = wr := ⟨_, rfl⟩
      have g7 : ¬ (k : Int) < 6 := by omega
      go_wp2_with fail
      rw [HS.out, str_append [33] A, str_append _ [33]]
      refine (H1.out _).mono ?_
      rintro e w4 ⟨rfl, hb4⟩
      have HB4 := Lib.hid (Below.step HBl.out hb4)
      clear hb4
      go_wp2_with fail
      rw [HT.out, str_append [33] A.reverse, str_append _ [33]]
      refine (H2.out _).mono ?_
      rintro e w5 ⟨rfl, hb5⟩
      have HB5 := Lib.hid (Below.step HB4.out hb5)
      clear hb5
      have hmX := HMX.out
      have hmY := HMY.out
      have hq := HQ.out
      go_wp2_with fail
      refine (HC.out _).mono ?_
      rintro e w6 ⟨rfl, hb6⟩
      have HB6 := Lib.hid (Below.step HB5.out hb6)
      clear hb6
      go_wp2
      go_ret
      first | exact ⟨rfl, HB6.out⟩ | exact ⟨by simp [hq], HB6.out⟩

set_option maxHeartbeats 2000000 in
theorem memTurns_7 (X Y : Nat) (L : UInt8) (hX : X ≤ 18446744073709551615) (hY : Y ≤ 18446744073709551615) (hr : (L.toNat : Int) % 8 = 6) (w : World) :
    Calls Try.prog 12 #[.int .u64 X, .int .u64 Y, .int .u8 (L.toNat : Int)] w fun e w' => e = .returned (.bool true) ∧ Below w.heap.size w w' := by
  have hl0 := L.toNat_lt
  have hlit : litN (X : Int) 7 = lit X 7 := by rw [litN, if_pos (by omega)]; rfl
  have hlit2 : litN (Y : Int) 7 = lit Y 7 := by rw [litN, if_pos (by omega)]; rfl
  have hA := fun w => little_any w X 7 (by omega)
  have hB := fun w => big_any w X 7 (by omega)
  have hC := fun w => little_any w Y 7 (by omega)
  have h1 := fun w => rd_bang (lit X 7) 7 (lit_len _ _) (by omega) (by omega) w
  have h2 := fun w => rb_bang (lit X 7).reverse 7 (by rw [List.length_reverse, lit_len]) (by omega) (by omega) w
  have hv : ((bigv (lit X 7).reverse : Nat) : Int) = (X : Int) % 72057594037927936 := by rw [bigv_lit]; omega
  rw [hv] at h1 h2
  rw [hlit] at hA hB
  rw [hlit2] at hC
  have hq : (lit Y 7 == lit X 7) = ((X : Int) % 72057594037927936 == (Y : Int) % 72057594037927936) := by
    rw [lit_inj, Bool.eq_iff_iff, decide_eq_true_eq, beq_iff_eq]
    constructor
    · intro h; omega
    · intro h; omega
  have hmX : bits .and .u64 (X : Int) 72057594037927935 = (X : Int) % 72057594037927936 := by have := and_low X 56 (by omega) hX; rw [show ((2 : Int) ^ 56 - 1) = 72057594037927935 from by decide] at this; rw [this]; omega
  have hmY : bits .and .u64 (Y : Int) 72057594037927935 = (Y : Int) % 72057594037927936 := by have := and_low Y 56 (by omega) hY; rw [show ((2 : Int) ^ 56 - 1) = 72057594037927935 from by decide] at this; rw [this]; omega
  have hrb := fun k (h : k < (lit X 7).length) => rev_bat (lit X 7) k h
  have hAl := lit_len X 7
  rw [hAl] at hrb
  generalize lit X 7 = A at hA hB h1 h2 hq hrb hAl
  generalize lit Y 7 = A' at hC hq
  obtain ⟨S, hS⟩ : ∃ S : ByteArray, S = ⟨A.toArray⟩ := ⟨_, rfl⟩
  obtain ⟨T, hT⟩ : ∃ T : ByteArray, T = ⟨A.reverse.toArray⟩ := ⟨_, rfl⟩
  have hSz : S.size = 7 := by rw [hS]; exact hAl
  have hTz : T.size = 7 := by rw [hT]; show A.reverse.length = _; rw [List.length_reverse, hAl]
  rw [← hS, ← hT] at hrb
  rw [← hS] at hA
  rw [← hT] at hB
  have HS := Lib.hid hS
  have HT := Lib.hid hT
  have HA := Lib.hid hA
  have HB := Lib.hid hB
  have HC := Lib.hid hC
  have H1 := Lib.hid h1
  have H2 := Lib.hid h2
  have HQ := Lib.hid hq
  have HMX := Lib.hid hmX
  have HMY := Lib.hid hmY
  have HRB := Lib.hid hrb
  clear hlit hlit2 hA hB hC h1 h2 hv hq hmX hmY hrb hAl hS hT
  go_enter Try.func12, Try.ntmps12
  go_wp2_with fail
  refine (memawake_any _).mono ?_
  rintro e w1 ⟨rfl, hb1⟩
  have HB1 := Lib.hid hb1
  clear hb1
  go_wp2_with fail
  refine (HA.out _).mono ?_
  rintro e w2 ⟨rfl, hb2⟩
  have HB2 := Lib.hid (Below.step HB1.out hb2)
  clear hb2
  go_wp2_with fail
  refine (HB.out _).mono ?_
  rintro e w3 ⟨rfl, hb3⟩
  have HB3 := Lib.hid (Below.step HB2.out hb3)
  clear hb3 hr
  go_wp2
  go_loopw [10] (fun ix wr => ∃ k : Nat, k ≤ 7 ∧ ix = .int .i64 k ∧ Below w.heap.size w wr) (fun ix _ => 7 - (intOf ix).toNat)
  case atStart => exact ⟨0, by omega, rfl, HB3.out⟩
  case round =>
    obtain ⟨k, hk, rfl, hbel⟩ := hrel
    have HBl := Lib.hid hbel
    clear hbel
    by_cases hlt : k < 7
    · have e1 : S[k]'(by omega) = bat S k := bat_get S k (by omega)
      have e2 : T[6 - k]'(by omega) = bat S k := (bat_get T (6 - k) (by omega)).trans (HRB.out k hlt)
      have l1 := (bat S k).toNat_lt
      have g1 : IntKind.i64.wrap (6 - (k : Int)) = 6 - (k : Int) := IntWalk.i64_in _ (by omega)
      have g2 : (6 - (k : Int)).toNat = 6 - k := by omega
      have g3 : 0 ≤ 6 - (k : Int) := by omega
      have g4 : 6 - (k : Int) < 7 := by omega
      have g5 : (0 : Int) ≤ (k : Int) := Int.natCast_nonneg _
      have g6 : (k : Int) < 7 := by omega
      go_wp2
      go_quiet (fail)
      go_wp2
      go_roundw
      case rel => exact ⟨k + 1, by omega, by go_num, Below.drewN HBl.out _⟩
      case measure => simp [intOf]; omega
    · obtain ⟨wo, rfl⟩ : ∃ wo : World, wo = wr := ⟨_, rfl⟩
      have g7 : ¬ (k : Int) < 7 := by omega
      go_wp2_with fail
      rw [HS.out, str_append [33] A, str_append _ [33]]
      refine (H1.out _).mono ?_
      rintro e w4 ⟨rfl, hb4⟩
      have HB4 := Lib.hid (Below.step HBl.out hb4)
      clear hb4
      go_wp2_with fail
      rw [HT.out, str_append [33] A.reverse, str_append _ [33]]
      refine (H2.out _).mono ?_
      rintro e w5 ⟨rfl, hb5⟩
      have HB5 := Lib.hid (Below.step HB4.out hb5)
      clear hb5
      have hmX := HMX.out
      have hmY := HMY.out
      have hq := HQ.out
      go_wp2_with fail
      refine (HC.out _).mono ?_
      rintro e w6 ⟨rfl, hb6⟩
      have HB6 := Lib.hid (Below.step HB5.out hb6)
      clear hb6
      go_wp2
      go_ret
      first | exact ⟨rfl, HB6.out⟩ | exact ⟨by simp [hq], HB6.out⟩

set_option maxHeartbeats 2000000 in
theorem memTurns_8 (X Y : Nat) (L : UInt8) (hX : X ≤ 18446744073709551615) (hY : Y ≤ 18446744073709551615) (hr : (L.toNat : Int) % 8 = 7) (w : World) :
    Calls Try.prog 12 #[.int .u64 X, .int .u64 Y, .int .u8 (L.toNat : Int)] w fun e w' => e = .returned (.bool true) ∧ Below w.heap.size w w' := by
  have hl0 := L.toNat_lt
  have hlit : litN (X : Int) 8 = lit X 8 := by rw [litN, if_pos (by omega)]; rfl
  have hlit2 : litN (Y : Int) 8 = lit Y 8 := by rw [litN, if_pos (by omega)]; rfl
  have hA := fun w => little_any w X 8 (by omega)
  have hB := fun w => big_any w X 8 (by omega)
  have hC := fun w => little_any w Y 8 (by omega)
  have h1 := fun w => rd_bang (lit X 8) 8 (lit_len _ _) (by omega) (by omega) w
  have h2 := fun w => rb_bang (lit X 8).reverse 8 (by rw [List.length_reverse, lit_len]) (by omega) (by omega) w
  have hv : ((bigv (lit X 8).reverse : Nat) : Int) = (X : Int) := by rw [bigv_lit]; omega
  rw [hv] at h1 h2
  rw [hlit] at hA hB
  rw [hlit2] at hC
  have hq : (lit Y 8 == lit X 8) = ((X : Int) == (Y : Int)) := by
    rw [lit_inj, Bool.eq_iff_iff, decide_eq_true_eq, beq_iff_eq]
    constructor
    · intro h; omega
    · intro h; omega
  have hmX : bits .and .u64 (X : Int) 18446744073709551615 = (X : Int) := by exact and_all X hX
  have hmY : bits .and .u64 (Y : Int) 18446744073709551615 = (Y : Int) := by exact and_all Y hY
  have hrb := fun k (h : k < (lit X 8).length) => rev_bat (lit X 8) k h
  have hAl := lit_len X 8
  rw [hAl] at hrb
  generalize lit X 8 = A at hA hB h1 h2 hq hrb hAl
  generalize lit Y 8 = A' at hC hq
  obtain ⟨S, hS⟩ : ∃ S : ByteArray, S = ⟨A.toArray⟩ := ⟨_, rfl⟩
  obtain ⟨T, hT⟩ : ∃ T : ByteArray, T = ⟨A.reverse.toArray⟩ := ⟨_, rfl⟩
  have hSz : S.size = 8 := by rw [hS]; exact hAl
  have hTz : T.size = 8 := by rw [hT]; show A.reverse.length = _; rw [List.length_reverse, hAl]
  rw [← hS, ← hT] at hrb
  rw [← hS] at hA
  rw [← hT] at hB
  have HS := Lib.hid hS
  have HT := Lib.hid hT
  have HA := Lib.hid hA
  have HB := Lib.hid hB
  have HC := Lib.hid hC
  have H1 := Lib.hid h1
  have H2 := Lib.hid h2
  have HQ := Lib.hid hq
  have HMX := Lib.hid hmX
  have HMY := Lib.hid hmY
  have HRB := Lib.hid hrb
  clear hlit hlit2 hA hB hC h1 h2 hv hq hmX hmY hrb hAl hS hT
  go_enter Try.func12, Try.ntmps12
  go_wp2_with fail
  refine (memawake_any _).mono ?_
  rintro e w1 ⟨rfl, hb1⟩
  have HB1 := Lib.hid hb1
  clear hb1
  go_wp2_with fail
  refine (HA.out _).mono ?_
  rintro e w2 ⟨rfl, hb2⟩
  have HB2 := Lib.hid (Below.step HB1.out hb2)
  clear hb2
  go_wp2_with fail
  refine (HB.out _).mono ?_
  rintro e w3 ⟨rfl, hb3⟩
  have HB3 := Lib.hid (Below.step HB2.out hb3)
  clear hb3 hr
  go_wp2
  go_loopw [10] (fun ix wr => ∃ k : Nat, k ≤ 8 ∧ ix = .int .i64 k ∧ Below w.heap.size w wr) (fun ix _ => 8 - (intOf ix).toNat)
  case atStart => exact ⟨0, by omega, rfl, HB3.out⟩
  case round =>
    obtain ⟨k, hk, rfl, hbel⟩ := hrel
    have HBl := Lib.hid hbel
    clear hbel
    by_cases hlt : k < 8
    · have e1 : S[k]'(by omega) = bat S k := bat_get S k (by omega)
      have e2 : T[7 - k]'(by omega) = bat S k := (bat_get T (7 - k) (by omega)).trans (HRB.out k hlt)
      have l1 := (bat S k).toNat_lt
      have g1 : IntKind.i64.wrap (7 - (k : Int)) = 7 - (k : Int) := IntWalk.i64_in _ (by omega)
      have g2 : (7 - (k : Int)).toNat = 7 - k := by omega
      have g3 : 0 ≤ 7 - (k : Int) := by omega
      have g4 : 7 - (k : Int) < 8 := by omega
      have g5 : (0 : Int) ≤ (k : Int) := Int.natCast_nonneg _
      have g6 : (k : Int) < 8 := by omega
      go_wp2
      go_quiet (fail)
      go_wp2
      go_roundw
      case rel => exact ⟨k + 1, by omega, by go_num, Below.drewN HBl.out _⟩
      case measure => simp [intOf]; omega
    · obtain ⟨wo, rfl⟩ : ∃ wo : World, wo = wr := ⟨_, rfl⟩
      have g7 : ¬ (k : Int) < 8 := by omega
      go_wp2_with fail
      rw [HS.out, str_append [33] A, str_append _ [33]]
      refine (H1.out _).mono ?_
      rintro e w4 ⟨rfl, hb4⟩
      have HB4 := Lib.hid (Below.step HBl.out hb4)
      clear hb4
      go_wp2_with fail
      rw [HT.out, str_append [33] A.reverse, str_append _ [33]]
      refine (H2.out _).mono ?_
      rintro e w5 ⟨rfl, hb5⟩
      have HB5 := Lib.hid (Below.step HB4.out hb5)
      clear hb5
      have hmX := HMX.out
      have hmY := HMY.out
      have hq := HQ.out
      go_wp2_with fail
      refine (HC.out _).mono ?_
      rintro e w6 ⟨rfl, hb6⟩
      have HB6 := Lib.hid (Below.step HB5.out hb6)
      clear hb6
      go_wp2
      go_ret
      first | exact ⟨rfl, HB6.out⟩ | exact ⟨by simp [hq], HB6.out⟩

theorem memTurns_walk (X Y : Nat) (L : UInt8) (hX : X ≤ 18446744073709551615) (hY : Y ≤ 18446744073709551615) (w : World) :
    Calls Try.prog 12 #[.int .u64 X, .int .u64 Y, .int .u8 (L.toNat : Int)] w fun e w' => e = .returned (.bool true) ∧ Below w.heap.size w w' := by
  have hc : (L.toNat : Int) % 8 = 0 ∨ (L.toNat : Int) % 8 = 1 ∨ (L.toNat : Int) % 8 = 2 ∨ (L.toNat : Int) % 8 = 3 ∨ (L.toNat : Int) % 8 = 4 ∨ (L.toNat : Int) % 8 = 5 ∨ (L.toNat : Int) % 8 = 6 ∨ (L.toNat : Int) % 8 = 7 := by omega
  rcases hc with h | h | h | h | h | h | h | h
  · exact memTurns_1 X Y L hX hY h w
  · exact memTurns_2 X Y L hX hY h w
  · exact memTurns_3 X Y L hX hY h w
  · exact memTurns_4 X Y L hX hY h w
  · exact memTurns_5 X Y L hX hY h w
  · exact memTurns_6 X Y L hX hY h w
  · exact memTurns_7 X Y L hX hY h w
  · exact memTurns_8 X Y L hX hY h w
end Go.Proofs.Yteinnindnijdiaa
