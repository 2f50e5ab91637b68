/- Package bits: Read. Condition: a text that a memory can hold. -/
import Derived.Test.YtpineeaghmfggaaBiE
namespace Go.Proofs.Ytpineeaghmfggaa
set_option linter.unusedVariables false
set_option linter.unusedSimpArgs false
set_option maxRecDepth 100000
open Go.RowKit
attribute [local go_sem ↓] Go.wp_at_zero Go.wp_at_succ

def z64 : List UInt8 := Lib.repeatL [0] 64
/-- byte i behind the magic, 0 where there is none -/
def atB (s : List UInt8) (i : Nat) : Nat := (s.getD (4 + i) 0).toNat
/-- the number of the first k bytes behind the magic -/
def rdN (s : List UInt8) : Nat → Nat
  | 0 => 0
  | k + 1 => rdN s k ||| (atB s k * 2 ^ (8 * k))
theorem atB_b (s : List UInt8) (i : Nat) : atB s i < 256 := (s.getD (4 + i) 0).toNat_lt
theorem atB_sh (s : List UInt8) (k : Nat) (hk : k < 8) : B64 (atB s k * 2 ^ (8 * k)) := by
  have h := atB_b s k
  have h2 : 2 ^ (8 * k) ≤ 2 ^ 56 := Nat.pow_le_pow_right (by omega) (by omega)
  have h3 : atB s k * 2 ^ (8 * k) ≤ 255 * 2 ^ 56 := Nat.mul_le_mul (by omega) h2
  unfold B64
  omega
theorem rdN_b (s : List UInt8) : ∀ k, k ≤ 8 → B64 (rdN s k)
  | 0, _ => by unfold rdN B64; omega
  | k + 1, h => or_b (rdN_b s k (by omega)) (atB_sh s k (by omega))
/-- what a text is read as -/
def readV (s : List UInt8) : Nat × Int :=
  if s = z64 then (0, 0) else if ¬ s.length = 64 then (0, 8) else if bytesV (rdN s 8) = s then (rdN s 8, 0) else (0, 8)
theorem atB_get (s : List UInt8) (k : Nat) (h : 4 + k < s.length) : ((⟨s.toArray⟩ : ByteArray)[4 + k]'h).toNat = atB s k := by
  have e : (⟨s.toArray⟩ : ByteArray)[4 + k]'h = s[4 + k]'h := rfl
  rw [e]
  simp [atB, List.getD_eq_getElem?_getD, List.getElem?_eq_getElem h]
theorem readV_z : readV z64 = (0, 0) := by unfold readV; rw [if_pos rfl]
theorem readV_len (s : List UInt8) (h : ¬ s = z64) (hl : ¬ s.length = 64) : readV s = (0, 8) := by unfold readV; rw [if_neg h, if_pos hl]
theorem readV_ok (s : List UInt8) (h : ¬ s = z64) (hl : s.length = 64) (hb : bytesV (rdN s 8) = s) : readV s = (rdN s 8, 0) := by unfold readV; rw [if_neg h, if_neg (fun k => k hl), if_pos hb]
theorem readV_bad (s : List UInt8) (h : ¬ s = z64) (hl : s.length = 64) (hb : ¬ bytesV (rdN s 8) = s) : readV s = (0, 8) := by unfold readV; rw [if_neg h, if_neg (fun k => k hl), if_neg hb]
theorem rep_64 (w : World) : Calls Try.prog 25 #[.string ⟨#[0]⟩, .int .i64 64] w fun e w' => e = .returned (.string ⟨z64.toArray⟩) ∧ Below w.heap.size w w' :=
  rep_0 64 (by decide) w

set_option maxHeartbeats 2000000 in
theorem read_any (s : List UInt8) (hs : s.length ≤ maxLen) (w : World) : Calls Try.prog 10 #[.string ⟨s.toArray⟩] w fun e w' => e = .returned (.tuple #[bv (readV s).1, .int .i64 (readV s).2]) ∧ Below w.heap.size w w' := by
  have RP := Lib.hid (fun w => rep_64 w)
  have BY := Lib.hid (fun w => bytes_any (rdN s 8) (rdN_b s 8 (Nat.le_refl _)) w)
  have HS := Lib.hid hs
  obtain ⟨z, hz⟩ : ∃ z, z = z64 := ⟨_, rfl⟩
  have HZ := Lib.hid hz
  rw [← hz] at RP
  clear hz
  go_enter Try.func10, Try.ntmps10
  go_upto_region 1 with fail
  have HK0 := Lib.hid (Blk.new w 25 #[.int .u64 0] 0 0 (Or.inl (Nat.le_refl _)))
  have HB0 := Lib.hid ((Below.refl _ w).alloc (Nat.le_refl _) (.cells #[.int .u64 0] 25))
  generalize World.alloc _ _ = w1 at HK0 HB0 ⊢
  have hlt0 := HK0.out.lt
  by_cases h0 : s = z
  · subst h0
    go_wp2_with fail
    refine (RP.out _).mono ?_
    rintro e w2 ⟨rfl, hb⟩
    have HB1 := Lib.hid (Below.step HB0.out hb)
    have hk1 := HK0.out.step hb
    have hf1 := hk1.free 0 (by simp)
    have hc1 := hk1.cell 0
    have HX1 := Lib.hid (hk1.set 0 (.int .u64 0))
    have HX3 := Lib.hid (Below.setCell (p := ⟨w.heap.size, 0, none⟩) HB1.out (Nat.le_refl _) (.int .u64 0))
    clear hb hk1 HB0 HK0 hlt0
    go_wp2
    exact bodyPost_ret (results_blk Try.results10 _ _ w.heap.size _ _ _ rfl HX1.out Try.underlying25 rfl size_bits) rfl ⟨by rw [HZ.out, readV_z]; rfl, HX3.out⟩
  · have h0b : (s == z) = false := beq_eq_false_iff_ne.2 h0
    have HN0 : Hid (¬ s = z64) := by rw [← HZ.out]; exact h0
    go_wp2_with fail
    refine (RP.out _).mono ?_
    rintro e w2 ⟨rfl, hb⟩
    have HB1 := Lib.hid (Below.step HB0.out hb)
    have HK1 := Lib.hid (HK0.out.step hb)
    have hf1 := HK1.out.free 0 (by simp)
    have hc1 := HK1.out.cell 0
    have hlt1 := HK1.out.lt
    clear hb HB0 HK0 hlt0
    by_cases hl : s.length = 64
    · have hl1 : (s.length : Int) = 64 := by omega
      have HK2 := Lib.hid (HK1.out.alloc (.cells #[.int .u64 0] 25))
      have HN2 := Lib.hid (Blk.new w2 25 #[.int .u64 0] 0 0 (Or.inl (Nat.le_refl _)))
      have HB2 := Lib.hid (HB1.out.alloc (by omega) (.cells #[.int .u64 0] 25))
      have hl2 : s.length = 64 := hl
      go_upto_region 6 with fail
      generalize w2.heap.size = q at HN2 hlt1 ⊢
      generalize World.alloc _ _ = w3 at HK2 HN2 HB2 ⊢
      clear hf1 hc1 HK1 HB1
      go_wp2
      go_loopw [14] (fun i wr => ∃ k : Nat, k ≤ 8 ∧ i = .int .i64 k ∧ Blk wr w.heap.size 25 #[.int .u64 0] ∧ Blk wr q 25 #[.int .u64 (rdN s k : Int)] ∧ Below w.heap.size w wr) (fun i _ => 8 - (intOf i).toNat)
      case atStart => exact ⟨0, by omega, rfl, HK2.out, HN2.out, HB2.out⟩
      case round =>
        obtain ⟨k, hk, rfl, hk1, hk2, hbel⟩ := hrel
        clear HK2 HN2 HB2
        have HK1 := Lib.hid hk1
        have HK2 := Lib.hid hk2
        have HB := Lib.hid hbel
        by_cases hlt : k < 8
        · have hlt' : (k : Int) < 8 := by omega
          have hst : rdN s (k + 1) = rdN s k ||| (atB s k * 2 ^ (8 * k)) := rfl
          have hor := u64_or_nat (rdN s k) (atB s k * 2 ^ (8 * k)) (rdN_b s k (by omega)) (atB_sh s k hlt)
          rw [← hst] at hor
          have hc1 := hk2.cell 0
          have hf1 := hk2.free 0 (by simp)
          have hin : (4 : Int) + (k : Int) < 64 := by omega
          have hin0 : (0 : Int) ≤ 4 + (k : Int) := by omega
          have hwr : IntKind.i64.wrap (4 + (k : Int)) = 4 + (k : Int) := IntWalk.i64_in _ ⟨by omega, by omega⟩
          have hx := atB_get s k (by omega)
          have hxb := atB_b s k
          have hsh := atB_sh s k hlt
          unfold B64 at hsh
          generalize atB s k = x at hx hor hxb hsh
          have hw1 : IntKind.u64.wrap (x : Int) = (x : Int) := IntWalk.u64_in _ ⟨by omega, by omega⟩
          have hxe : ((x * 2 ^ (8 * k) : Nat) : Int) = (x : Int) * 2 ^ (8 * k) := by rw [Int.natCast_mul, Int.natCast_pow]; rfl
          have hw2 : IntKind.u64.wrap ((x : Int) * 2 ^ (8 * k)) = (x : Int) * 2 ^ (8 * k) := by
            rw [← hxe]
            exact IntWalk.u64_in _ ⟨by omega, by omega⟩
          rw [hxe] at hor
          clear hxe hsh hst
          clear hbel hk1 hk2
          go_upto_region 9 with fail
          go_region
          all_goals
            have HX1 := Lib.hid (Blk.drew (HK1.out.set_other ⟨q, 0, none⟩ (.int .u64 (rdN s (k + 1) : Int)) (by show w.heap.size ≠ q; omega)))
            have HX2 := Lib.hid (Blk.drew (HK2.out.set 0 (.int .u64 (rdN s (k + 1) : Int))))
            have HX3 := Lib.hid ((Below.setCell (p := ⟨q, 0, none⟩) HB.out (show w.heap.size ≤ q by omega) (.int .u64 (rdN s (k + 1) : Int))).drew)
            clear hx hor hxb hw1 hw2 hc1 hf1
            generalize World.drew _ = w9 at HX1 HX2 HX3 ⊢
            go_wp2
            go_roundw
            case rel => exact ⟨k + 1, by omega, by go_num, HX1.out, HX2.out, HX3.out⟩
            case measure => simp [intOf] <;> omega
        · have h8 : k = 8 := by omega
          subst h8
          have hc1 := hk2.cell 0
          have hc0 := hk1.cell 0
          clear hbel hk1 hk2
          go_wp2_with fail
          refine (BY.out _).mono ?_
          rintro e w4 ⟨rfl, hb⟩
          have hk1 := HK1.out.step hb
          have hk2 := HK2.out.step hb
          have HB4 := Lib.hid (Below.step HB.out hb)
          have hc1 := hk1.cell 0
          have hc2 := hk2.cell 0
          have hf1 := hk1.free 0 (by simp)
          clear hb
          by_cases he : bytesV (rdN s 8) = s
          · have HV := Lib.hid (readV_ok s HN0.out hl he)
            have HX1 := Lib.hid (hk1.set 0 (.int .u64 (rdN s 8 : Int)))
            have HX3 := Lib.hid (Below.setCell (p := ⟨w.heap.size, 0, none⟩) HB4.out (Nat.le_refl _) (.int .u64 (rdN s 8 : Int)))
            clear hk1 hk2
            have he2 : (bytesV (rdN s 8) == s) = true := beq_iff_eq.2 he
            generalize bytesV (rdN s 8) = X at he he2 ⊢
            subst he
            clear he2
            go_wp2
            exact bodyPost_ret (results_blk Try.results10 _ _ w.heap.size _ _ _ rfl HX1.out Try.underlying25 rfl size_bits) rfl ⟨by rw [HV.out]; rfl, HX3.out⟩
          · have HV := Lib.hid (readV_bad s HN0.out hl he)
            have he2 : (bytesV (rdN s 8) == s) = false := beq_eq_false_iff_ne.2 he
            have HX1 := Lib.hid (hk1.set 0 (.int .u64 0))
            have HX3 := Lib.hid (Below.setCell (p := ⟨w.heap.size, 0, none⟩) HB4.out (Nat.le_refl _) (.int .u64 0))
            clear hk1 hk2
            generalize bytesV (rdN s 8) = X at he he2 ⊢
            go_wp2
            exact bodyPost_ret (results_blk Try.results10 _ _ w.heap.size _ _ _ rfl HX1.out Try.underlying25 rfl size_bits) rfl ⟨by rw [HV.out]; rfl, HX3.out⟩
    · have hl1 : ¬ (s.length : Int) = 64 := by omega
      have HX1 := Lib.hid (HK1.out.set 0 (.int .u64 0))
      have HX3 := Lib.hid (Below.setCell (p := ⟨w.heap.size, 0, none⟩) HB1.out (Nat.le_refl _) (.int .u64 0))
      go_wp2
      exact bodyPost_ret (results_blk Try.results10 _ _ w.heap.size _ _ _ rfl HX1.out Try.underlying25 rfl size_bits) rfl ⟨by rw [readV_len s HN0.out hl]; rfl, HX3.out⟩
end Go.Proofs.Ytpineeaghmfggaa
