/- The reference of package bits: Read. Condition: a text that a memory can hold. -/
import Derived.Test.YtpineeaghmfggaaBiG
namespace Go.Proofs.Ytpineeaghmfggaa
set_option linter.unusedVariables false
set_option linter.unusedSimpArgs false
set_option maxRecDepth 100000
open Go.RowKit
attribute [local go_sem ↓] Go.wp_at_zero Go.wp_at_succ

theorem tb_pow {x k j : Nat} (hx : x < 256) : (x * 2 ^ (8 * k)).testBit j = (decide (8 * k ≤ j ∧ j < 8 * k + 8) && x.testBit (j - 8 * k)) := by
  rw [Nat.testBit_mul_two_pow]
  by_cases h1 : 8 * k ≤ j
  · by_cases h2 : j < 8 * k + 8
    · simp [h1, h2]
    · have hp : 2 ^ 8 ≤ 2 ^ (j - 8 * k) := Nat.pow_le_pow_right (by omega) (by omega)
      have : x.testBit (j - 8 * k) = false := Nat.testBit_lt_two_pow (by omega)
      simp [this]
  · have : decide (8 * k ≤ j) = false := decide_eq_false h1
    simp [h1]
/-- bit j of the bytes behind the magic -/
def bitB (s : List UInt8) (j : Nat) : Bool := (atB s (j / 8)).testBit (j % 8)
theorem tb_rd (s : List UInt8) (j : Nat) : ∀ k, (rdN s k).testBit j = (decide (j < 8 * k) && bitB s j)
  | 0 => by simp [rdN]
  | k + 1 => by
    rw [rdN, Nat.testBit_or, tb_rd s j k, tb_pow (atB_b s k)]
    by_cases h1 : j < 8 * k
    · have h2 : j < 8 * (k + 1) := by omega
      have h3 : ¬ 8 * k ≤ j := by omega
      simp [h1, h2, h3]
    · by_cases h2 : j < 8 * (k + 1)
      · have e1 : j / 8 = k := by omega
        have e2 : j - 8 * k = j % 8 := by omega
        have h3 : j < 8 * k + 8 := by omega
        have h4 : 8 * k ≤ j := by omega
        simp [h1, h2, h3, h4, bitB, e1, e2]
      · have h3 : ¬ j < 8 * k + 8 := by omega
        simp [h1, h2, h3]
/-- the number of the first k bits -/
def rbN (s : List UInt8) (k : Nat) : Nat := ofN (List.map (fun (i : Nat) => (i : Int)) ((List.range k).filter (bitB s)))
theorem tb_rb (s : List UInt8) (k j : Nat) (hj : j < 64) : (rbN s k).testBit j = (decide (j < k) && bitB s j) := by
  rw [rbN, tb_of _ j hj, Bool.eq_iff_iff, List.any_eq_true]
  simp only [List.mem_map, List.mem_filter, List.mem_range, Bool.and_eq_true, decide_eq_true_iff]
  constructor
  · rintro ⟨x, ⟨i, ⟨hi, hb⟩, rfl⟩, he⟩
    have : i = j := by have := beq_iff_eq.1 he; omega
    subst this
    exact ⟨hi, hb⟩
  · rintro ⟨h1, h2⟩
    exact ⟨(j : Int), ⟨j, ⟨h1, h2⟩, rfl⟩, by simp⟩
theorem rb_all (s : List UInt8) : rbN s 64 = rdN s 8 := by
  refine tb_ext (of_b _) (rdN_b s 8 (Nat.le_refl _)) (fun j hj => ?_)
  rw [tb_rb s 64 j hj, tb_rd s j 8]
theorem rb_next (s : List UInt8) (k : Nat) (hk : k < 64) : (rwC (rbN s k)).setIfInBounds k (.bool (bitB s k)) = rwC (rbN s (k + 1)) := by
  refine rwC_set _ _ k hk _ (fun j hj => ?_)
  rw [tb_rb s (k + 1) j hj, tb_rb s k j hj]
  by_cases h : k = j
  · subst h; simp
  · rw [if_neg h]
    have : decide (j < k + 1) = decide (j < k) := by rw [decide_eq_decide]; omega
    rw [this]
theorem rb_zero (s : List UInt8) : rbN s 0 = 0 := rfl
theorem bit_val (x m : Nat) (hx : x < 256) : ((((x / 2 ^ m % 2 : Nat) : Int)) == 1) = x.testBit m := by
  rw [← Nat.shiftRight_eq_div_pow, Nat.testBit, Nat.and_comm, Nat.and_one_is_mod]
  rcases Nat.mod_two_eq_zero_or_one (x >>> m) with h | h <;> rw [h] <;> rfl

/-- what a text is read as, for the reference -/
def rfV (s : List UInt8) : Nat × Bool := ((readV s).1, (readV s).2 == 0)
theorem rfV_z : rfV z64 = (0, true) := by rw [rfV, readV_z]; rfl
theorem rfV_len (s : List UInt8) (h : ¬ s = z64) (hl : ¬ s.length = 64) : rfV s = (0, false) := by rw [rfV, readV_len s h hl]; rfl
theorem rfV_ok (s : List UInt8) (h : ¬ s = z64) (hl : s.length = 64) (hb : bytesV (rdN s 8) = s) : rfV s = (rdN s 8, true) := by rw [rfV, readV_ok s h hl hb]; rfl
theorem rfV_bad (s : List UInt8) (h : ¬ s = z64) (hl : s.length = 64) (hb : ¬ bytesV (rdN s 8) = s) : rfV s = (0, false) := by rw [rfV, readV_bad s h hl hb]; rfl

theorem made_u8 (w : World) (n : Nat) : Byt (w.alloc (.cells (madeCells #[Value.int .u8 0] n) 5)) 5 w.heap.size (List.replicate n 0) := by
  refine ⟨_, Blk.new w 5 _ 0 0 (Or.inl (Nat.le_refl _)), fun j hj => ?_⟩
  have hj' : j < n := by simpa using hj
  have e1 : j % 1 = 0 := Nat.mod_one j
  simp [madeCells, hj', e1]
theorem z64_rep : List.replicate 64 0 = z64 := rfl

set_option maxHeartbeats 2000000 in
theorem refRead_any (s : List UInt8) (hs : s.length ≤ maxLen) (w : World) : Calls Try.prog 11 #[.string ⟨s.toArray⟩] w fun e w' => e = .returned (.tuple #[.agg (rwC (rfV s).1), .bool (rfV s).2]) ∧ Below w.heap.size w w' := by
  obtain ⟨i0, hi, hz0, hz1, hz2⟩ := info_parts info_u8
  have hmk := fun w => run_make (P := Try.prog) w 39 5 i0 (.int .u8 0) Try.underlying39 hi hz0 .i64 .i64 64 64 (by omega) (by omega) (by rw [hz2]; omega) (by omega)
  rw [hz1] at hmk
  have e64 : (64 : Int).toNat = 64 := rfl
  simp only [e64] at hmk
  have BY := Lib.hid (fun w => refBytes_any (rdN s 8) w)
  obtain ⟨z, hz⟩ : ∃ z, z = z64 := ⟨_, rfl⟩
  have HZ := Lib.hid hz
  have hzl : z.length = 64 := by rw [hz]; decide
  clear hi hz0 hz1 hz2 e64
  go_enter Try.func11, Try.ntmps11
  go_upto_region 2 with fail
  have k1 := Blk.new w 30 zlit 0 0 (Or.inl (Nat.le_refl _))
  have k2 := Blk.new (w.alloc (.cells zlit 30)) 30 zlit 0 0 (Or.inl (Nat.le_refl _))
  rw [size_alloc] at k2
  have k1' := k1.alloc (.cells zlit 30)
  have hb := ((Below.refl _ w).alloc (Nat.le_refl _) (.cells zlit 30)).alloc (by simp) (.cells zlit 30)
  generalize World.alloc (World.alloc _ _) _ = w1 at k1' k2 hb ⊢
  rw [zlit_eq] at k1' k2
  have hcv := byt_conv (n := 64) (made_u8 w1 64) (by simp) 64
  rw [z64_rep, ← hz] at hcv
  have HK1 := Lib.hid (k1'.alloc (.cells (madeCells #[Value.int .u8 0] 64) 5))
  have HK2 := Lib.hid (k2.alloc (.cells (madeCells #[Value.int .u8 0] 64) 5))
  have HB0 := Lib.hid (hb.alloc (by have := hb.size; omega) (.cells (madeCells #[Value.int .u8 0] 64) 5))
  clear k1 k2 k1' hb hz
  by_cases h0 : s = z
  · subst h0
    go_upto_region 3 with fail
    generalize World.alloc _ _ = w2 at HK1 HK2 HB0 ⊢
    clear hmk hcv
    have HX1 := Lib.hid (HK1.out.setAll (cs := rwC 0) (by simp only [rwC_size]))
    have tokA : True := trivial
    go_wp2_with (first | (have _t := tokA; refine wpList_load_blk rfl 30 _ rfl (w.heap.size + 1) rfl (rwC 0) 30 _ HK2.out Try.underlying30 rfl (by rw [rwC_size]; exact size_rows) ?_; clear tokA; have tokB : True := trivial) | (have _t := tokB; refine wpList_store_blk rfl 30 _ _ rfl w.heap.size (rwC 0) rfl rfl (rwC 0) 30 HK1.out (by simp only [rwC_size]) (by rw [rwC_size]; exact size_rows) (rwC_one _) ?_; clear tokB))
    exact bodyPost_ret (results_blk Try.results11 _ _ w.heap.size _ _ _ rfl HX1.out Try.underlying30 rfl (by rw [rwC_size]; exact size_rows)) rfl ⟨by rw [HZ.out, rfV_z]; rfl, Below.setCells HB0.out (Nat.le_refl _) _ _⟩
  · have h0b : (s == z) = false := beq_eq_false_iff_ne.2 h0
    have HN0 : Hid (¬ s = z64) := by rw [← HZ.out]; exact h0
    by_cases hl : s.length = 64
    · have hl1 : (s.length : Int) = 64 := by omega
      go_upto_region 6 with fail
      generalize World.alloc _ _ = w2 at HK1 HK2 HB0 ⊢
      clear hmk hcv h0 h0b hzl
      go_wp2
      go_loopw [5] (fun i wr => ∃ k : Nat, k ≤ 64 ∧ i = .int .i64 k ∧ Blk wr w.heap.size 30 (rwC 0) ∧ Blk wr (w.heap.size + 1) 30 (rwC (rbN s k)) ∧ Below w.heap.size w wr) (fun i _ => 64 - (intOf i).toNat)
      case atStart => exact ⟨0, by omega, rfl, HK1.out, HK2.out, HB0.out⟩
      case round =>
        obtain ⟨k, hk, rfl, hk1, hk2, hbel⟩ := hrel
        clear HK1 HK2 HB0
        have HK1 := Lib.hid hk1
        have HK2 := Lib.hid hk2
        have HB := Lib.hid hbel
        by_cases hlt : k < 64
        · have hlt' : (k : Int) < 64 := by omega
          have hx := atB_get s (k / 8) (by omega)
          have hxb := atB_b s (k / 8)
          have hbv : bits .and .u8 ((atB s (k / 8) : Int) / 2 ^ (k % 8)) 1 = ((atB s (k / 8) / 2 ^ (k % 8) % 2 : Nat) : Int) := by
            have h := u8_and_nat (atB s (k / 8) / 2 ^ (k % 8)) 1 (Nat.lt_of_le_of_lt (Nat.div_le_self _ _) hxb) (by decide)
            rw [Nat.and_one_is_mod] at h
            rw [← h, Int.natCast_ediv, Int.natCast_pow]
            rfl
          have hbe : (((atB s (k / 8) / 2 ^ (k % 8) % 2 : Nat) : Int) == 1) = bitB s k := bit_val _ _ hxb
          rw [hbv.symm.trans rfl] at hbe
          have hcj := hk2.cell k
          rw [rwC_get _ k hlt] at hcj
          have hfj := hk2.free k (by rw [rwC_size]; exact hlt)
          have hk3 := hk2.set k (.bool (bitB s k))
          rw [rb_next s k hlt] at hk3
          have HX2 := Lib.hid hk3
          have HX1 := Lib.hid (hk1.set_other ⟨w.heap.size + 1, k, none⟩ (.bool (bitB s k)) (by show w.heap.size ≠ w.heap.size + 1; omega))
          have HX3 := Lib.hid (Below.setCell (p := ⟨w.heap.size + 1, k, none⟩) hbel (Nat.le_succ _) (.bool (bitB s k)))
          clear hbel hk1 hk2 hk3 hbv
          go_wp2
          go_roundw
          case rel => exact ⟨k + 1, by omega, by go_num, HX1.out, HX2.out, HX3.out⟩
          case measure => simp [intOf] <;> omega
        · have h8 : k = 64 := by omega
          subst h8
          have hk3 := hk2
          rw [rb_all] at hk3
          have HK3 := Lib.hid hk3
          clear hbel hk1 hk2 hk3 HK2
          have tokA : True := trivial
          go_wp2_with (have _t := tokA; refine wpList_load_blk rfl 30 _ rfl (w.heap.size + 1) rfl (rwC (rdN s 8)) 30 _ HK3.out Try.underlying30 rfl (by rw [rwC_size]; exact size_rows) ?_; clear tokA)
          refine (BY.out _).mono ?_
          rintro e w4 ⟨rfl, hb⟩
          have HK5 := Lib.hid (HK1.out.step hb)
          have HK6 := Lib.hid (HK3.out.step hb)
          have HB4 := Lib.hid (Below.step HB.out hb)
          clear hb HK1 HK3 HB
          by_cases he : bytesV (rdN s 8) = s
          · have HV := Lib.hid (rfV_ok s HN0.out hl he)
            have HX1 := Lib.hid (HK5.out.setAll (cs := rwC (rdN s 8)) (by simp only [rwC_size]))
            have he2 : (bytesV (rdN s 8) == s) = true := beq_iff_eq.2 he
            generalize bytesV (rdN s 8) = X at he he2 ⊢
            subst he
            clear he2
            have tokA : True := trivial
            go_wp2_with (first | (have _t := tokA; refine wpList_load_blk rfl 30 _ rfl (w.heap.size + 1) rfl (rwC (rdN X 8)) 30 _ HK6.out Try.underlying30 rfl (by rw [rwC_size]; exact size_rows) ?_; clear tokA; have tokB : True := trivial) | (have _t := tokB; refine wpList_store_blk rfl 30 _ _ rfl w.heap.size (rwC (rdN X 8)) rfl rfl (rwC 0) 30 HK5.out (by simp only [rwC_size]) (by rw [rwC_size]; exact size_rows) (rwC_one _) ?_; clear tokB))
            exact bodyPost_ret (results_blk Try.results11 _ _ w.heap.size _ _ _ rfl HX1.out Try.underlying30 rfl (by rw [rwC_size]; exact size_rows)) rfl ⟨by rw [HV.out]; rfl, Below.setCells HB4.out (Nat.le_refl _) _ _⟩
          · have HV := Lib.hid (rfV_bad s HN0.out hl he)
            have he2 : (bytesV (rdN s 8) == s) = false := beq_eq_false_iff_ne.2 he
            have HX1 := Lib.hid (HK5.out.setAll (cs := zlit) (by rw [zlit_eq]))
            have hzs : zlit.size = 64 := rfl
            generalize bytesV (rdN s 8) = X at he he2 ⊢
            have tokA : True := trivial
            go_wp2_with ((have _t := tokA; refine wpList_store_blk rfl 30 _ _ rfl w.heap.size zlit rfl rfl (rwC 0) 30 HK5.out (by rw [rwC_size]; rfl) (by exact size_rows) (by rw [zlit_eq]; exact rwC_one _) ?_; clear tokA))
            exact bodyPost_ret (results_blk Try.results11 _ _ w.heap.size _ _ _ rfl HX1.out Try.underlying30 rfl size_rows) rfl ⟨by rw [HV.out, zlit_eq]; rfl, Below.setCells HB4.out (Nat.le_refl _) _ _⟩
    · have hl1 : ¬ (s.length : Int) = 64 := by omega
      go_upto_region 5 with fail
      generalize World.alloc _ _ = w2 at HK1 HK2 HB0 ⊢
      clear hmk hcv
      have HX1 := Lib.hid (HK1.out.setAll (cs := rwC 0) (by simp only [rwC_size]))
      have tokA : True := trivial
      go_wp2_with (first | (have _t := tokA; refine wpList_load_blk rfl 30 _ rfl (w.heap.size + 1) rfl (rwC 0) 30 _ HK2.out Try.underlying30 rfl (by rw [rwC_size]; exact size_rows) ?_; clear tokA; have tokB : True := trivial) | (have _t := tokB; refine wpList_store_blk rfl 30 _ _ rfl w.heap.size (rwC 0) rfl rfl (rwC 0) 30 HK1.out (by simp only [rwC_size]) (by rw [rwC_size]; exact size_rows) (rwC_one _) ?_; clear tokB))
      exact bodyPost_ret (results_blk Try.results11 _ _ w.heap.size _ _ _ rfl HX1.out Try.underlying30 rfl (by rw [rwC_size]; exact size_rows)) rfl ⟨by rw [rfV_len s HN0.out hl]; rfl, Below.setCells HB0.out (Nat.le_refl _) _ _⟩
end Go.Proofs.Ytpineeaghmfggaa
