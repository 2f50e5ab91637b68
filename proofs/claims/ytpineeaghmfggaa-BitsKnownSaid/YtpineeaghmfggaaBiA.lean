/- The small functions of package bits: row, Has, With, Without, Minus, Len, and math/bits.OnesCount64. Condition: numbers of 64 bits. -/
import Derived.Test.YtpineeaghmfggaaBiP
import Derived.Test.YtpineeaghmfggaaLaw
import Derived.Deep.RegionHeld3
import Derived.Deep.DeepCutAuto
import Derived.Deep.CutRange
import Derived.Deep.DrawnRows
import Derived.BigRegion
import Derived.BigQuiet
import Derived.IntWalk
namespace Go.Proofs.Ytpineeaghmfggaa
set_option linter.unusedVariables false
set_option linter.unusedSimpArgs false
set_option maxRecDepth 100000
open Go.RowKit
attribute [local go_sem ↓] Go.wp_at_zero Go.wp_at_succ

/-- rows of bits as a value -/
abbrev bv (n : Nat) : Value := .agg #[.int .u64 (n : Int)]

theorem row_any (r : Int) (w : World) : Calls Try.prog 26 #[.int .i64 r] w fun e w' => e = .returned (.int .u64 (rowN r : Int)) ∧ w' = w := by
  by_cases h0 : r < 0
  · have e : rowN r = 0 := by unfold rowN; rw [if_pos (Or.inl h0)]
    rw [e]
    go_enter Try.func26, Try.ntmps26
    go_wp2
    go_ret
    exact ⟨rfl, rfl⟩
  · by_cases h1 : 64 ≤ r
    · have e : rowN r = 0 := by unfold rowN; rw [if_pos (Or.inr h1)]
      rw [e]
      go_enter Try.func26, Try.ntmps26
      go_wp2
      go_ret
      exact ⟨rfl, rfl⟩
    · obtain ⟨k, rfl⟩ : ∃ k : Nat, r = (k : Int) := ⟨r.toNat, by omega⟩
      have hk : k < 64 := by omega
      have e : rowN (k : Int) = 2 ^ k := by unfold rowN; rw [if_neg (by omega), Int.toNat_natCast]
      have hl := rowN_b (k : Int)
      rw [e] at hl
      have hw : IntKind.u64.wrap (2 ^ k) = ((2 ^ k : Nat) : Int) := by
        have e2 : (2 : Int) ^ k = ((2 ^ k : Nat) : Int) := by rw [Int.natCast_pow]; rfl
        rw [e2]
        exact IntWalk.u64_in _ ⟨by omega, by unfold B64 at hl; omega⟩
      rw [e]
      clear e hl
      go_enter Try.func26, Try.ntmps26
      go_wp2
      go_ret
      exact ⟨by rfl, rfl⟩

theorem size_bits : (Try.prog.info? 25).map (·.size) = some 1 := by kernel_rfl

theorem has_any (n : Nat) (hn : B64 n) (r : Int) (w : World) : Calls Try.prog 22 #[bv n, .int .i64 r] w fun e w' => e = .returned (.bool (hasN n r)) ∧ Below w.heap.size w w' := by
  have R := Lib.hid (fun w => row_any r w)
  have ha := u64_and_nat n (rowN r) hn (rowN_b r)
  unfold hasN
  generalize rowN r = m at R ha ⊢
  generalize n &&& m = q at ha ⊢
  go_enter Try.func22, Try.ntmps22
  go_upto_region 1 with fail
  have hc : (w.alloc (.cells #[.int .u64 (n : Int)] 25)).cell? ⟨w.heap.size, 0, none⟩ = some (.int .u64 (n : Int)) := (Blk.new w 25 #[.int .u64 (n : Int)] 0 0 (Or.inl (Nat.le_refl _))).cell 0
  have HB := Lib.hid ((Below.refl _ w).alloc (Nat.le_refl _) (.cells #[.int .u64 (n : Int)] 25))
  generalize w.alloc _ = w1 at hc HB ⊢
  go_quiet ((go_at_call 26; exact Calls.quiet_of_same (R.out _)))
  go_wp2
  go_ret
  exact ⟨rfl, Below.drewN HB.out _⟩

theorem with_any (n : Nat) (hn : B64 n) (r : Int) (w : World) : Calls Try.prog 20 #[bv n, .int .i64 r] w fun e w' => e = .returned (bv (n ||| rowN r)) ∧ Below w.heap.size w w' := by
  have R := Lib.hid (fun w => row_any r w)
  have ha := u64_or_nat n (rowN r) hn (rowN_b r)
  generalize rowN r = m at R ha ⊢
  generalize n ||| m = q at ha ⊢
  go_enter Try.func20, Try.ntmps20
  go_upto_region 1 with fail
  have k1 := Blk.new w 25 #[.int .u64 (n : Int)] 0 0 (Or.inl (Nat.le_refl _))
  have k2 := Blk.new (w.alloc (.cells #[.int .u64 (n : Int)] 25)) 25 #[.int .u64 0] 0 0 (Or.inl (Nat.le_refl _))
  rw [size_alloc] at k2
  have hc := (k1.alloc (.cells #[.int .u64 0] 25)).cell 0
  have hc2 := k2.cell 0
  have hf2 := k2.free 0 (by simp)
  have hb := ((Below.refl _ w).alloc (Nat.le_refl _) (.cells #[.int .u64 (n : Int)] 25)).alloc (by simp) (.cells #[.int .u64 0] 25)
  have HB := Lib.hid hb
  generalize World.alloc (World.alloc _ _) _ = w1 at hc hc2 hf2 HB k2 ⊢
  have HK := Lib.hid k2
  clear k1 k2 hb
  go_region_with ((go_at_call 26; refine (R.out _).mono ?_; rintro e w2 ⟨rfl, rfl⟩))
  all_goals
    have hk := Blk.drew (HK.out.set 0 (.int .u64 (q : Int)))
    have hb := (Below.setCell (p := ⟨w.heap.size + 1, 0, none⟩) HB.out (Nat.le_succ _) (.int .u64 (q : Int))).drew
    generalize World.drew _ = w9 at hk hb ⊢
    have HK9 := Lib.hid hk
    have HB9 := Lib.hid hb
    clear hk hb hc hc2 hf2
    go_wp2
    exact bodyPost_ret (results_cell1 Try.results20 _ _ (w.heap.size + 1) _ _ _ rfl HK9.out Try.underlying25 rfl size_bits) rfl ⟨rfl, HB9.out⟩

theorem without_any (n : Nat) (hn : B64 n) (r : Int) (w : World) : Calls Try.prog 21 #[bv n, .int .i64 r] w fun e w' => e = .returned (bv (anN n (rowN r))) ∧ Below w.heap.size w w' := by
  have R := Lib.hid (fun w => row_any r w)
  have ha := u64_andNot_nat n (rowN r) hn (rowN_b r)
  unfold anN
  generalize rowN r = m at R ha ⊢
  generalize n &&& (18446744073709551615 - m) = q at ha ⊢
  go_enter Try.func21, Try.ntmps21
  go_upto_region 1 with fail
  have k1 := Blk.new w 25 #[.int .u64 (n : Int)] 0 0 (Or.inl (Nat.le_refl _))
  have k2 := Blk.new (w.alloc (.cells #[.int .u64 (n : Int)] 25)) 25 #[.int .u64 0] 0 0 (Or.inl (Nat.le_refl _))
  rw [size_alloc] at k2
  have hc := (k1.alloc (.cells #[.int .u64 0] 25)).cell 0
  have hc2 := k2.cell 0
  have hf2 := k2.free 0 (by simp)
  have hb := ((Below.refl _ w).alloc (Nat.le_refl _) (.cells #[.int .u64 (n : Int)] 25)).alloc (by simp) (.cells #[.int .u64 0] 25)
  have HB := Lib.hid hb
  generalize World.alloc (World.alloc _ _) _ = w1 at hc hc2 hf2 HB k2 ⊢
  have HK := Lib.hid k2
  clear k1 k2 hb
  go_region_with ((go_at_call 26; refine (R.out _).mono ?_; rintro e w2 ⟨rfl, rfl⟩))
  all_goals
    have hk := Blk.drew (HK.out.set 0 (.int .u64 (q : Int)))
    have hb := (Below.setCell (p := ⟨w.heap.size + 1, 0, none⟩) HB.out (Nat.le_succ _) (.int .u64 (q : Int))).drew
    generalize World.drew _ = w9 at hk hb ⊢
    have HK9 := Lib.hid hk
    have HB9 := Lib.hid hb
    clear hk hb hc hc2 hf2
    go_wp2
    exact bodyPost_ret (results_cell1 Try.results21 _ _ (w.heap.size + 1) _ _ _ rfl HK9.out Try.underlying25 rfl size_bits) rfl ⟨rfl, HB9.out⟩

theorem minus_any (n m : Nat) (hn : B64 n) (hm : B64 m) (w : World) : Calls Try.prog 24 #[bv n, bv m] w fun e w' => e = .returned (bv (anN n m)) ∧ Below w.heap.size w w' := by
  have ha := u64_andNot_nat n m hn hm
  unfold anN
  generalize n &&& (18446744073709551615 - m) = q at ha ⊢
  go_enter Try.func24, Try.ntmps24
  go_upto_region 1 with fail
  have k1 := Blk.new w 25 #[.int .u64 (n : Int)] 0 0 (Or.inl (Nat.le_refl _))
  have k2 := Blk.new (w.alloc (.cells #[.int .u64 (n : Int)] 25)) 25 #[.int .u64 (m : Int)] 0 0 (Or.inl (Nat.le_refl _))
  have k3 := Blk.new ((w.alloc (.cells #[.int .u64 (n : Int)] 25)).alloc (.cells #[.int .u64 (m : Int)] 25)) 25 #[.int .u64 0] 0 0 (Or.inl (Nat.le_refl _))
  simp only [size_alloc] at k2 k3
  have hc := ((k1.alloc (.cells #[.int .u64 (m : Int)] 25)).alloc (.cells #[.int .u64 0] 25)).cell 0
  have hc2 := (k2.alloc (.cells #[.int .u64 0] 25)).cell 0
  have hc3 := k3.cell 0
  have hf3 := k3.free 0 (by simp)
  have hb := (((Below.refl _ w).alloc (Nat.le_refl _) (.cells #[.int .u64 (n : Int)] 25)).alloc (by simp) (.cells #[.int .u64 (m : Int)] 25)).alloc (by simp; omega) (.cells #[.int .u64 0] 25)
  have HB := Lib.hid hb
  generalize World.alloc (World.alloc (World.alloc _ _) _) _ = w1 at hc hc2 hc3 hf3 HB k3 ⊢
  have hk := k3.set 0 (.int .u64 (q : Int))
  have hb := Below.setCell (p := ⟨w.heap.size + 1 + 1, 0, none⟩) HB.out (by show w.heap.size ≤ w.heap.size + 1 + 1; omega) (.int .u64 (q : Int))
  have HK9 := Lib.hid hk
  have HB9 := Lib.hid hb
  clear k1 k2 k3 hb hk
  go_wp2
  exact bodyPost_ret (results_cell1 Try.results24 _ _ (w.heap.size + 1 + 1) _ _ _ rfl HK9.out Try.underlying25 rfl size_bits) rfl ⟨rfl, HB9.out⟩

theorem and_127 (x : Nat) (h : x < 9223372036854775808) : bits .and .i64 (x : Int) 127 = ((x % 128 : Nat) : Int) := by
  have e1 : (BitVec.ofInt 64 (x : Int)).toNat = x := by rw [BitVec.ofInt_natCast, BitVec.toNat_ofNat]; omega
  have e2 : (BitVec.ofInt 64 127).toNat = 127 := by decide
  show IntKind.i64.wrap ((BitVec.ofInt 64 (x : Int) &&& BitVec.ofInt 64 127).toNat : Int) = _
  have e3 : x &&& 127 = x % 128 := Nat.and_two_pow_sub_one_eq_mod x 7
  rw [BitVec.toNat_and, e1, e2, e3]
  exact IntWalk.i64_in _ ⟨by omega, by omega⟩
theorem ones_step (a b m : Nat) (ha : a < 18446744073709551616) (hb : b < 18446744073709551616) (hm : m < 18446744073709551616) (h : (a &&& m) + (b &&& m) < 18446744073709551616) :
    IntKind.u64.wrap (bits .and .u64 (a : Int) (m : Int) + bits .and .u64 (b : Int) (m : Int)) = (((a &&& m) + (b &&& m) : Nat) : Int) := by
  rw [u64_and_nat a m ha hm, u64_and_nat b m hb hm, ← Int.natCast_add]
  exact IntWalk.u64_in _ ⟨by omega, by omega⟩

set_option maxHeartbeats 1000000 in
theorem ones_any (n : Nat) (hn : B64 n) (w : World) : Calls Try.prog 27 #[.int .u64 (n : Int)] w fun e w' => e = .returned (.int .i64 (pcn 64 n : Int)) ∧ w' = w := by
  obtain ⟨C, hC, hA, hB, hD, hE, hF, hend⟩ := oc_all n hn
  unfold B64 at hn
  obtain ⟨A, eA⟩ : ∃ A, ocX n = A := ⟨_, rfl⟩
  rw [eA] at hC hA hB
  obtain ⟨B, eB⟩ : ∃ B, ocY A = B := ⟨_, rfl⟩
  rw [eB] at hC hB
  have h1 : IntKind.u64.wrap (bits .and .u64 ((n : Int) / 2) 6148914691236517205 + bits .and .u64 (n : Int) 6148914691236517205) = (A : Int) := by
    have h := ones_step (n / 2) n M0 (by omega) hn (by decide) (by rw [← eA] at hA; exact hA)
    rw [← eA]
    exact h
  have h2 : IntKind.u64.wrap (bits .and .u64 ((A : Int) / 4) 3689348814741910323 + bits .and .u64 (A : Int) 3689348814741910323) = (B : Int) := by
    have h := ones_step (A / 4) A M1 (by omega) hA (by decide) (by rw [← eB] at hB; unfold ocY at hB; omega)
    rw [← eB]
    exact h
  have h3 : IntKind.u64.wrap ((B : Int) / 16 + (B : Int)) = ((B / 16 + B : Nat) : Int) := by
    have e : (B : Int) / 16 + (B : Int) = ((B / 16 + B : Nat) : Int) := by omega
    rw [e]
    exact IntWalk.u64_in _ ⟨by omega, by omega⟩
  have h4 : bits .and .u64 (IntKind.u64.wrap ((B : Int) / 16 + (B : Int))) 1085102592571150095 = (C : Int) := by
    rw [h3, hC]
    exact u64_and_nat (B / 16 + B) M2 hB (by decide)
  clear h3
  obtain ⟨D, eD⟩ : ∃ D, C + C / 256 = D := ⟨_, rfl⟩
  rw [eD] at hD hE hF hend
  obtain ⟨E, eE⟩ : ∃ E, D + D / 65536 = E := ⟨_, rfl⟩
  rw [eE] at hE hF hend
  obtain ⟨F, eF⟩ : ∃ F, E + E / 4294967296 = F := ⟨_, rfl⟩
  rw [eF] at hF hend
  have h5 : IntKind.u64.wrap ((C : Int) + (C : Int) / 256) = (D : Int) := by
    have e : (C : Int) + (C : Int) / 256 = (D : Int) := by omega
    rw [e]
    exact IntWalk.u64_in _ ⟨by omega, by omega⟩
  have h6 : IntKind.u64.wrap ((D : Int) + (D : Int) / 65536) = (E : Int) := by
    have e : (D : Int) + (D : Int) / 65536 = (E : Int) := by omega
    rw [e]
    exact IntWalk.u64_in _ ⟨by omega, by omega⟩
  have h7 : IntKind.u64.wrap ((E : Int) + (E : Int) / 4294967296) = (F : Int) := by
    have e : (E : Int) + (E : Int) / 4294967296 = (F : Int) := by omega
    rw [e]
    exact IntWalk.u64_in _ ⟨by omega, by omega⟩
  have h8 : IntKind.i64.wrap (F : Int) = (F : Int) := IntWalk.i64_in _ ⟨by omega, by omega⟩
  have h9 := and_127 F (by omega)
  rw [hend] at h9
  clear hC hA hB hD hE hF hend eA eB eD eE eF hn
  go_enter Try.func27, Try.ntmps27
  go_wp2
  go_ret
  exact ⟨rfl, rfl⟩

theorem len_any (n : Nat) (hn : B64 n) (w : World) : Calls Try.prog 17 #[bv n] w fun e w' => e = .returned (.int .i64 ((rowsN n).length : Int)) ∧ Below w.heap.size w w' := by
  have O := Lib.hid (fun w => ones_any n hn w)
  rw [rows_len]
  generalize pcn 64 n = q at O ⊢
  have hc : (w.alloc (.cells #[.int .u64 (n : Int)] 25)).cell? ⟨w.heap.size, 0, none⟩ = some (.int .u64 (n : Int)) := (Blk.new w 25 #[.int .u64 (n : Int)] 0 0 (Or.inl (Nat.le_refl _))).cell 0
  have HB := Lib.hid ((Below.refl _ w).alloc (Nat.le_refl _) (.cells #[.int .u64 (n : Int)] 25))
  go_enter Try.func17, Try.ntmps17
  go_wp2_with fail
  refine (O.out _).mono ?_
  rintro e w1 ⟨rfl, rfl⟩
  go_wp2
  go_ret
  exact ⟨rfl, HB.out⟩
end Go.Proofs.Ytpineeaghmfggaa
