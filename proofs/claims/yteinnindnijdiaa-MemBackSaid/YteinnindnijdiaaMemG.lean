/- The walk through the law MemBack: it answers true. -/
import Derived.Test.YteinnindnijdiaaMemN
namespace Go.Proofs.Yteinnindnijdiaa
set_option linter.unusedVariables false
set_option maxRecDepth 100000
open Go.RowKit
attribute [local go_sem ↓] Go.wp_at_zero Go.wp_at_succ

theorem range_grown {w w' : World} {b o g : Nat} {cs : List Value} (h : w.rangeAt b o cs) (hg : w.grownBy w' (some g)) (hb : b < w.heap.size) (hne : b ≠ g) : w'.rangeAt b o cs :=
  fun j v hv => (World.cell?_of_block (a := ⟨b, o + j, none⟩) (hg.block b hb (fun e => hne (Option.some.inj e)))).trans (h j v hv)
theorem act_put {w : World} {b o : Nat} {d p n x : Int} {s : List UInt8} (h : w.rangeAt b o (actC d p n x s)) :
    w.cell? ⟨b, o + 1, none⟩ = some (.int .i64 p) ∧ w.cell? ⟨b, o + 2, none⟩ = some (.int .i64 n) ∧ w.cell? ⟨b, o + 3, none⟩ = some (.int .u64 x) := ⟨h 1 _ rfl, h 2 _ rfl, h 3 _ rfl⟩
theorem act_write {w : World} {b o : Nat} {d p n x : Int} {s : List UInt8} (h : w.rangeAt b o (actC d p n x s)) :
    w.cell? ⟨b, o + 1, none⟩ = some (.int .i64 p) ∧ w.cell? ⟨b, o + 4, none⟩ = some (.string ⟨s.toArray⟩) := ⟨h 1 _ rfl, h 4 _ rfl⟩
theorem range_drew {w : World} {b o : Nat} {cs : List Value} (h : w.rangeAt b o cs) : w.drew.rangeAt b o cs := h

set_option maxHeartbeats 1000000 in
theorem memBack_out (size : Int) (A : Option Addr) (n c : Nat) (p m x : Int) (hn : n ≤ 9223372036854775807) (w : World) (h : ActsAt w w.heap.size A n) (hs : size < 1 ∨ 500 < size) :
    Calls Try.prog 9 #[.int .i64 size, .slice A n c, .int .i64 p, .int .i64 m, .int .u64 x] w fun e w' => e = .returned (.bool true) ∧ Below w.heap.size w w' := by
  have H := Lib.hid h
  clear h
  by_cases h1 : size < 1
  · clear hs
    go_enter Try.func9, Try.ntmps9
    go_wp2_with fail
    refine (memawake_any _).mono ?_
    rintro e w1 ⟨rfl, hb1⟩
    have HB := Lib.hid hb1
    clear hb1
    go_wp2_with fail
    refine (great_any _ A n c w.heap.size hn (H.out.below HB.out)).mono ?_
    rintro e w2 ⟨b, rfl, rfl⟩
    cases b
    all_goals
      go_wp2
      go_ret
      exact ⟨rfl, HB.out⟩
  · have h2 : 500 < size := by omega
    clear hs
    go_enter Try.func9, Try.ntmps9
    go_wp2_with fail
    refine (memawake_any _).mono ?_
    rintro e w1 ⟨rfl, hb1⟩
    have HB := Lib.hid hb1
    clear hb1
    go_wp2_with fail
    refine (great_any _ A n c w.heap.size hn (H.out.below HB.out)).mono ?_
    rintro e w2 ⟨b, rfl, rfl⟩
    cases b
    all_goals
      go_wp2
      go_ret
      exact ⟨rfl, HB.out⟩

set_option maxHeartbeats 8000000 in
theorem memBack_in (N : Nat) (A : Option Addr) (n c : Nat) (q mm : Int) (X : Nat) (hN1 : 1 ≤ N) (hN2 : N ≤ 500) (hn : n ≤ 9223372036854775807) (hq : -9223372036854775808 ≤ q ∧ q ≤ 9223372036854775807)
    (hm : -9223372036854775808 ≤ mm ∧ mm ≤ 9223372036854775807) (hX : X ≤ 18446744073709551615) (w : World) (h : ActsAt w w.heap.size A n) :
    Calls Try.prog 9 #[.int .i64 N, .slice A n c, .int .i64 q, .int .i64 mm, .int .u64 X] w fun e w' => e = .returned (.bool true) ∧ Below w.heap.size w w' := by
  have H := Lib.hid h
  have HQ := Lib.hid hq
  have HMM := Lib.hid hm
  clear h hq hm
  obtain ⟨Z, hZ⟩ : ∃ Z : List UInt8, Z = List.replicate N 0 := ⟨_, rfl⟩
  have hZl : Z.length = N := by rw [hZ]; simp
  have HZL := Lib.hid hZl
  have HNew := Lib.hid (fun w => new_ok w N hN1 (by omega))
  rw [← hZ] at HNew
  clear hZ hZl
  go_enter Try.func9, Try.ntmps9
  go_wp2_with fail
  refine (memawake_any _).mono ?_
  rintro e w1 ⟨rfl, hb1⟩
  have HB := Lib.hid hb1
  clear hb1
  go_wp2_with fail
  refine (great_any _ A n c w.heap.size hn (H.out.below HB.out)).mono ?_
  rintro e w2 ⟨bb, rfl, rfl⟩
  cases bb
  · go_wp2_with fail
    refine (HNew.out _).mono ?_
    rintro e w2 ⟨rfl, hm, hb2⟩
    have HB2 := Lib.hid (Below.step HB.out hb2)
    have hle := HB.out.size
    obtain ⟨p, hp⟩ : ∃ p, p = w1.heap.size + 1 := ⟨_, rfl⟩
    obtain ⟨g, hg⟩ : ∃ g, g = w1.heap.size := ⟨_, rfl⟩
    rw [← hp, ← hg] at hm
    rw [← hp]
    have hgw : w.heap.size ≤ g := by omega
    have HM := Lib.hid hm
    clear hm hb2 HB hp hg hle
    go_wp2
    go_loopw [13] (fun ix wr => ∃ (k : Nat) (l : List UInt8), k ≤ n ∧ ix = .int .i64 k ∧ l.length = N ∧ MemAt wr p g l ∧ Below w.heap.size w wr) (fun ix _ => n - (intOf ix).toNat)
    case atStart => exact ⟨0, Z, by omega, rfl, HZL.out, HM.out, HB2.out⟩
    case round =>
      obtain ⟨k, l, hk, rfl, hl, hml, hbel⟩ := hrel
      have HL := Lib.hid hl
      have HMl := Lib.hid hml
      have HBl := Lib.hid hbel
      by_cases hlt : k < n
      · obtain ⟨b, o, rfl, hb, hi⟩ := (H.out.below hbel) (by omega)
        obtain ⟨d, r, m, x, s, hok, hr⟩ := hi k hlt
        have HOK := Lib.hid hok
        have HR := Lib.hid hr
        have c0 : wr.cell? ⟨b, o + k * 5 + 0, none⟩ = some (.int .i64 d) := hr 0 _ rfl
        rw [Nat.add_zero] at c0
        have hbw : b < wr.heap.size := Nat.lt_of_lt_of_le hb hbel.size
        have hbg : b ≠ g := by omega
        have hk0 : (0 : Int) ≤ (k : Int) := Int.natCast_nonneg _
        have hkn : (k : Int) < (n : Int) := by omega
        clear hl hml hbel hi hr hok
        by_cases e0 : d = 0
        · subst e0
          go_wp2
          clear c0
          go_region_held3 (fun w' => w'.cell? ⟨b, o + k * 5 + 1, none⟩ = some (.int .i64 r) ∧ w'.cell? ⟨b, o + k * 5 + 2, none⟩ = some (.int .i64 m) ∧ w'.cell? ⟨b, o + k * 5 + 3, none⟩ = some (.int .u64 x))
            (first | exact act_put HR.out | exact act_put (range_drew HR.out) | exact act_put HR2.out)
            ((go_at_call 28; refine (put_any (MemAt.drew HMl.out) r m x HOK.out.p HOK.out.n HOK.out.x).mono ?_; rintro e w5 ⟨rfl, hm6, hg6⟩; have HM6 := Lib.hid hm6; have HR2 := Lib.hid (range_grown (range_drew HR.out) hg6 hbw hbg); have HB6 := Lib.hid (below_grown (Below.drew HBl.out) HBl.out.size hg6 hgw); clear hm6 hg6))
          have HL6 := Lib.hid ((putL_len l r m x).trans HL.out)
          go_wp2
          go_roundw
          case rel => exact ⟨k + 1, _, by omega, by go_num, HL6.out, HM6.out, HB6.out⟩
          case measure => simp [intOf]; omega
        · have e0' : (d == 0) = false := by rw [beq_eq_false_iff_ne]; exact e0
          clear e0
          go_wp2
          clear c0
          go_region_held3 (fun w' => w'.cell? ⟨b, o + k * 5 + 1, none⟩ = some (.int .i64 r) ∧ w'.cell? ⟨b, o + k * 5 + 4, none⟩ = some (.string ⟨s.toArray⟩))
            (first | exact act_write HR.out | exact act_write (range_drew HR.out) | exact act_write HR2.out)
            ((go_at_call 30; refine (write_any (MemAt.drew HMl.out) r s HOK.out.p HOK.out.s).mono ?_; rintro e w5 ⟨rfl, hm6, hg6⟩; have HM6 := Lib.hid hm6; have HR2 := Lib.hid (range_grown (range_drew HR.out) hg6 hbw hbg); have HB6 := Lib.hid (below_grown (Below.drew HBl.out) HBl.out.size hg6 hgw); clear hm6 hg6))
          have HL6 := Lib.hid ((wrL_len l r s).trans HL.out)
          go_wp2
          go_roundw
          case rel => exact ⟨k + 1, _, by omega, by go_num, HL6.out, HM6.out, HB6.out⟩
          case measure => simp [intOf]; omega
      · clear hl hml hbel
        obtain ⟨wo, rfl⟩ : ∃ wo : World, wo = wr := ⟨_, rfl⟩
        go_wp2_with fail
        refine (txt_all HMl.out N HL.out).mono ?_
        rintro e w3 ⟨rfl, rfl⟩
        go_wp2_with fail
        refine (put_any HMl.out q mm X HQ.out HMM.out (by omega)).mono ?_
        rintro e w4 ⟨rfl, hm4, hg4⟩
        have HM4 := Lib.hid hm4
        have HB4 := Lib.hid (below_grown HBl.out HBl.out.size hg4 hgw)
        have HL4 := Lib.hid ((putL_len l q mm X).trans HL.out)
        clear hm4 hg4
        go_wp2_with fail
        refine (txt_all HM4.out N HL4.out).mono ?_
        rintro e w5 ⟨rfl, rfl⟩
        by_cases hE : numE l.length q mm = 0
        · have hin : 1 ≤ mm ∧ mm ≤ 8 ∧ 0 ≤ q ∧ q + mm ≤ l.length := by
            unfold numE roomE at hE
            split at hE
            · omega
            · split at hE
              · omega
              · omega
          rw [hE]
          obtain ⟨i1, i8, i0, i2⟩ := hin
          obtain ⟨a, rfl⟩ := Int.eq_ofNat_of_zero_le i0
          obtain ⟨m, rfl⟩ := Int.eq_ofNat_of_zero_le (show 0 ≤ mm by omega)
          have hGet := get_any HM4.out a m HQ.out HMM.out
          have hgp := got_put l a m X (by omega) (by omega) (by omega)
          have hnl : numE ((putL l a m X).length : Int) a m = 0 := by rw [putL_len]; exact hE
          rw [hgp, hnl] at hGet
          have hpl : putL l a m X = spl l a (litN X m) := by rw [putL, if_pos hE]; rfl
          have hll : (litN (X : Int) (m : Int)).length = m := by rw [litN, if_pos (by omega), lit_len]; rfl
          have hfit : a + (litN (X : Int) (m : Int)).length ≤ l.length := by rw [hll]; omega
          have x1 : (⟨(putL l a m X).toArray⟩ : ByteArray).extract 0 a = ⟨(l.take a).toArray⟩ := by
            rw [ext_list', List.drop_zero, Nat.sub_zero, hpl, spl_take l a _ hfit]
          have x2 : (⟨l.toArray⟩ : ByteArray).extract 0 a = ⟨(l.take a).toArray⟩ := by rw [ext_list', List.drop_zero, Nat.sub_zero]
          have x3 : (⟨(putL l a m X).toArray⟩ : ByteArray).extract (a + m) N = ⟨(l.drop (a + m)).toArray⟩ := by
            have hd := spl_drop l a _ hfit
            rw [hll] at hd
            rw [ext_list', hpl, hd, List.take_of_length_le (by rw [List.length_drop, HL.out]; exact Nat.le_refl _)]
          have x4 : (⟨l.toArray⟩ : ByteArray).extract (a + m) N = ⟨(l.drop (a + m)).toArray⟩ := by
            rw [ext_list', List.take_of_length_le (by rw [List.length_drop, HL.out]; exact Nat.le_refl _)]
          have hGL := HL4.out
          have hLl := HL.out
          have ham : a + m ≤ N := by omega
          generalize putL l a m X = L' at *
          have HG := Lib.hid hGet
          have ha0 : (0 : Int) ≤ (a : Int) := Int.natCast_nonneg _
          have ha1 : (a : Int) < (N : Int) := by omega
          have ham0 : (a : Int) + (m : Int) ≤ (N : Int) := by omega
          have hw1 : IntKind.i64.wrap ((a : Int) + (m : Int)) = (a : Int) + (m : Int) := IntWalk.i64_in _ (by omega)
          have ht1 : ((a : Int) + (m : Int)).toNat = a + m := by omega
          clear hGet hgp hnl hpl hll hfit hE i2
          have hcases : m = 1 ∨ m = 2 ∨ m = 3 ∨ m = 4 ∨ m = 5 ∨ m = 6 ∨ m = 7 ∨ m = 8 := by omega
          rcases hcases with rfl | rfl | rfl | rfl | rfl | rfl | rfl | rfl
          · have hv : ((X % 256 ^ 1 : Nat) : Int) = (X : Int) % 256 := by omega
            rw [hv] at HG
            have h5 : (a : Int) + 1 ≤ (N : Int) := by omega
            have h6 : IntKind.i64.wrap ((a : Int) + 1) = (a : Int) + 1 := IntWalk.i64_in _ (by omega)
            have h7 : ((a : Int) + 1).toNat = a + 1 := by omega
            clear hv ham0 hw1 ht1
            go_wp2_with fail
            refine (HG.out).mono ?_
            rintro e w6 ⟨rfl, hb6⟩
            have HB7 := Lib.hid (Below.step HB4.out hb6)
            clear hb6
            go_wp2
            go_quiet (fail)
            go_wp2
            go_ret
            exact ⟨rfl, Below.drewN HB7.out _⟩
          · have hv : ((X % 256 ^ 2 : Nat) : Int) = (X : Int) % 65536 := by omega
            rw [hv] at HG
            have h5 : (a : Int) + 2 ≤ (N : Int) := by omega
            have h6 : IntKind.i64.wrap ((a : Int) + 2) = (a : Int) + 2 := IntWalk.i64_in _ (by omega)
            have h7 : ((a : Int) + 2).toNat = a + 2 := by omega
            clear hv ham0 hw1 ht1
            go_wp2_with fail
            refine (HG.out).mono ?_
            rintro e w6 ⟨rfl, hb6⟩
            have HB7 := Lib.hid (Below.step HB4.out hb6)
            clear hb6
            go_wp2
            go_quiet (fail)
            go_wp2
            go_ret
            exact ⟨rfl, Below.drewN HB7.out _⟩
          · have hv : ((X % 256 ^ 3 : Nat) : Int) = (X : Int) % 16777216 := by omega
            rw [hv] at HG
            have h5 : (a : Int) + 3 ≤ (N : Int) := by omega
            have h6 : IntKind.i64.wrap ((a : Int) + 3) = (a : Int) + 3 := IntWalk.i64_in _ (by omega)
            have h7 : ((a : Int) + 3).toNat = a + 3 := by omega
            clear hv ham0 hw1 ht1
            go_wp2_with fail
            refine (HG.out).mono ?_
            rintro e w6 ⟨rfl, hb6⟩
            have HB7 := Lib.hid (Below.step HB4.out hb6)
            clear hb6
            go_wp2
            go_quiet (fail)
            go_wp2
            go_ret
            exact ⟨rfl, Below.drewN HB7.out _⟩
          · have hv : ((X % 256 ^ 4 : Nat) : Int) = (X : Int) % 4294967296 := by omega
            rw [hv] at HG
            have h5 : (a : Int) + 4 ≤ (N : Int) := by omega
            have h6 : IntKind.i64.wrap ((a : Int) + 4) = (a : Int) + 4 := IntWalk.i64_in _ (by omega)
            have h7 : ((a : Int) + 4).toNat = a + 4 := by omega
            clear hv ham0 hw1 ht1
            go_wp2_with fail
            refine (HG.out).mono ?_
            rintro e w6 ⟨rfl, hb6⟩
            have HB7 := Lib.hid (Below.step HB4.out hb6)
            clear hb6
            go_wp2
            go_quiet (fail)
            go_wp2
            go_ret
            exact ⟨rfl, Below.drewN HB7.out _⟩
          · have hv : ((X % 256 ^ 5 : Nat) : Int) = (X : Int) % 1099511627776 := by omega
            rw [hv] at HG
            have h5 : (a : Int) + 5 ≤ (N : Int) := by omega
            have h6 : IntKind.i64.wrap ((a : Int) + 5) = (a : Int) + 5 := IntWalk.i64_in _ (by omega)
            have h7 : ((a : Int) + 5).toNat = a + 5 := by omega
            clear hv ham0 hw1 ht1
            go_wp2_with fail
            refine (HG.out).mono ?_
            rintro e w6 ⟨rfl, hb6⟩
            have HB7 := Lib.hid (Below.step HB4.out hb6)
            clear hb6
            go_wp2
            go_quiet (fail)
            go_wp2
            go_ret
            exact ⟨rfl, Below.drewN HB7.out _⟩
          · have hv : ((X % 256 ^ 6 : Nat) : Int) = (X : Int) % 281474976710656 := by omega
            rw [hv] at HG
            have h5 : (a : Int) + 6 ≤ (N : Int) := by omega
            have h6 : IntKind.i64.wrap ((a : Int) + 6) = (a : Int) + 6 := IntWalk.i64_in _ (by omega)
            have h7 : ((a : Int) + 6).toNat = a + 6 := by omega
            clear hv ham0 hw1 ht1
            go_wp2_with fail
            refine (HG.out).mono ?_
            rintro e w6 ⟨rfl, hb6⟩
            have HB7 := Lib.hid (Below.step HB4.out hb6)
            clear hb6
            go_wp2
            go_quiet (fail)
            go_wp2
            go_ret
            exact ⟨rfl, Below.drewN HB7.out _⟩
          · have hv : ((X % 256 ^ 7 : Nat) : Int) = (X : Int) % 72057594037927936 := by omega
            rw [hv] at HG
            have h5 : (a : Int) + 7 ≤ (N : Int) := by omega
            have h6 : IntKind.i64.wrap ((a : Int) + 7) = (a : Int) + 7 := IntWalk.i64_in _ (by omega)
            have h7 : ((a : Int) + 7).toNat = a + 7 := by omega
            clear hv ham0 hw1 ht1
            go_wp2_with fail
            refine (HG.out).mono ?_
            rintro e w6 ⟨rfl, hb6⟩
            have HB7 := Lib.hid (Below.step HB4.out hb6)
            clear hb6
            go_wp2
            go_quiet (fail)
            go_wp2
            go_ret
            exact ⟨rfl, Below.drewN HB7.out _⟩
          · have hv : ((X % 256 ^ 8 : Nat) : Int) = (X : Int) := by omega
            rw [hv] at HG
            have h5 : (a : Int) + 8 ≤ (N : Int) := by omega
            have h6 : IntKind.i64.wrap ((a : Int) + 8) = (a : Int) + 8 := IntWalk.i64_in _ (by omega)
            have h7 : ((a : Int) + 8).toNat = a + 8 := by omega
            clear hv ham0 hw1 ht1
            go_wp2_with fail
            refine (HG.out).mono ?_
            rintro e w6 ⟨rfl, hb6⟩
            have HB7 := Lib.hid (Below.step HB4.out hb6)
            clear hb6
            go_wp2
            go_quiet (fail)
            go_wp2
            go_ret
            exact ⟨rfl, Below.drewN HB7.out _⟩
        · have hne : (numE (l.length : Int) q mm != 0) = true := by rw [bne_iff_ne]; exact hE
          have hpl : putL l q mm X = l := by rw [putL, if_neg hE]
          rw [hpl] at HM4 ⊢
          generalize numE (l.length : Int) q mm = E at hne
          clear hE hpl
          go_wp2
          go_ret
          exact ⟨rfl, HB4.out⟩
  · go_wp2
    go_ret
    exact ⟨rfl, HB.out⟩
end Go.Proofs.Yteinnindnijdiaa
