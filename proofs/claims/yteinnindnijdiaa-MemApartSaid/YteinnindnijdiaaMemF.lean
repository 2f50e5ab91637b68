/- The walk through the law MemApart: it answers true. -/
import Derived.Test.YteinnindnijdiaaMemZ
namespace Go.Proofs.Yteinnindnijdiaa
set_option linter.unusedVariables false
set_option maxRecDepth 100000
open Go.RowKit
attribute [local go_sem ↓] Go.wp_at_zero Go.wp_at_succ

theorem spl_comm (l : List UInt8) (a b : Nat) (s t : List UInt8) (ha : a + s.length ≤ l.length) (hb : b + t.length ≤ l.length) (h : a + s.length ≤ b ∨ b + t.length ≤ a) :
    spl (spl l a s) b t = spl (spl l b t) a s := by
  have l1 := spl_len l a s ha
  have l2 := spl_len l b t hb
  have l3 := spl_len (spl l a s) b t (by rw [l1]; exact hb)
  have l4 := spl_len (spl l b t) a s (by rw [l2]; exact ha)
  apply List.ext_getElem (by omega)
  intro j h1 h2
  rw [spl_get (spl l a s) b t (by rw [l1]; exact hb) j (by omega), spl_get (spl l b t) a s (by rw [l2]; exact ha) j (by omega)]
  by_cases c1 : b ≤ j ∧ j < b + t.length
  · rw [dif_pos c1, dif_neg (by omega), spl_get l b t hb j (by omega), dif_pos c1]
  · rw [dif_neg c1, spl_get l a s ha j (by omega)]
    by_cases c2 : a ≤ j ∧ j < a + s.length
    · rw [dif_pos c2, dif_pos c2]
    · rw [dif_neg c2, dif_neg c2, spl_get l b t hb j (by omega), dif_neg c1]

theorem wr_apart (l : List UInt8) (a b : Int) (s t : List UInt8) (h : roomE l.length a s.length ≠ 0 ∨ roomE l.length b t.length ≠ 0 ∨ a + s.length ≤ b ∨ b + t.length ≤ a) :
    wrL (wrL l a s) b t = wrL (wrL l b t) a s := by
  by_cases h1 : roomE l.length a s.length = 0
  · by_cases h2 : roomE l.length b t.length = 0
    · have i1 : 0 ≤ a ∧ a + s.length ≤ l.length := by
        unfold roomE at h1
        split at h1
        · omega
        · omega
      have i2 : 0 ≤ b ∧ b + t.length ≤ l.length := by
        unfold roomE at h2
        split at h2
        · omega
        · omega
      have e1 : wrL l a s = spl l a.toNat s := by rw [wrL, if_pos h1]
      have e2 : wrL l b t = spl l b.toNat t := by rw [wrL, if_pos h2]
      have n1 := wrL_len l a s
      have n2 := wrL_len l b t
      rw [wrL, n1, if_pos h2, wrL.eq_1 (wrL l b t) a s, n2, if_pos h1, e1, e2]
      exact spl_comm l a.toNat b.toNat s t (by omega) (by omega) (by omega)
    · have e2 : wrL l b t = l := by rw [wrL, if_neg h2]
      have n1 := wrL_len l a s
      rw [e2, wrL, n1, if_neg h2]
  · have e1 : wrL l a s = l := by rw [wrL, if_neg h1]
    have n2 := wrL_len l b t
    rw [e1, wrL.eq_1 (wrL l b t) a s, n2, if_neg h1]

set_option maxHeartbeats 1000000 in
theorem memApart_out (size p q : Int) (s t : List UInt8) (hs : s.length ≤ 9223372036854775807) (ht : t.length ≤ 9223372036854775807) (h : size < 1 ∨ 500 < size ∨ 300 < s.length ∨ 300 < t.length) (w : World) :
    Calls Try.prog 10 #[.int .i64 size, .int .i64 p, .int .i64 q, .string ⟨s.toArray⟩, .string ⟨t.toArray⟩] w fun e w' => e = .returned (.bool true) ∧ Below w.heap.size w w' := by
  by_cases h1 : size < 1
  · clear h
    go_enter Try.func10, Try.ntmps10
    go_wp2_with fail
    refine (memawake_any _).mono ?_
    rintro e w1 ⟨rfl, hb1⟩
    go_wp2
    go_ret
    exact ⟨rfl, hb1⟩
  by_cases h2 : 500 < size
  · clear h
    go_enter Try.func10, Try.ntmps10
    go_wp2_with fail
    refine (memawake_any _).mono ?_
    rintro e w1 ⟨rfl, hb1⟩
    go_wp2
    go_ret
    exact ⟨rfl, hb1⟩
  by_cases h3 : 300 < s.length
  · clear h
    go_enter Try.func10, Try.ntmps10
    go_wp2_with fail
    refine (memawake_any _).mono ?_
    rintro e w1 ⟨rfl, hb1⟩
    go_wp2
    go_ret
    exact ⟨rfl, hb1⟩
  · have h4 : 300 < t.length := by omega
    clear h
    go_enter Try.func10, Try.ntmps10
    go_wp2_with fail
    refine (memawake_any _).mono ?_
    rintro e w1 ⟨rfl, hb1⟩
    go_wp2
    go_ret
    exact ⟨rfl, hb1⟩

/-- a write, of a memory whose length is known -/
theorem write_len {w : World} {p g : Nat} {l : List UInt8} (h : MemAt w p g l) (N : Nat) (hN : l.length = N) (at' : Int) (s : List UInt8) (h1 : -9223372036854775808 ≤ at' ∧ at' ≤ 9223372036854775807) (h2 : s.length ≤ 9223372036854775807) :
    Calls Try.prog 30 #[.pointer (some ⟨p, 0, none⟩), .int .i64 at', .string ⟨s.toArray⟩] w fun e w' => e = .returned (.int .i64 (roomE N at' s.length)) ∧ MemAt w' p g (wrL l at' s) ∧ w.grownBy w' (some g) := by
  subst hN
  exact write_any h at' s h1 h2

set_option maxHeartbeats 4000000 in
theorem memApart_in (N : Nat) (a b : Int) (s t : List UInt8) (hN1 : 1 ≤ N) (hN2 : N ≤ 500) (ha : -9223372036854775808 ≤ a ∧ a ≤ 9223372036854775807) (hb : -9223372036854775808 ≤ b ∧ b ≤ 9223372036854775807) (hs : s.length ≤ 300) (ht : t.length ≤ 300) (w : World) :
    Calls Try.prog 10 #[.int .i64 N, .int .i64 a, .int .i64 b, .string ⟨s.toArray⟩, .string ⟨t.toArray⟩] w fun e w' => e = .returned (.bool true) ∧ Below w.heap.size w w' := by
  obtain ⟨i0, hi, hz0, hz1, hz2⟩ := info_parts info_u8
  obtain ⟨Z, hZ⟩ : ∃ Z : List UInt8, Z = List.replicate N 0 := ⟨_, rfl⟩
  have HZ := Lib.hid hZ
  have hZl : Z.length = N := by rw [hZ]; simp
  have HZL := Lib.hid hZl
  have HNew := Lib.hid (fun w => new_ok w N hN1 (by omega))
  rw [← hZ] at HNew
  have HA := Lib.hid ha
  have HBb := Lib.hid hb
  have HS := Lib.hid (show s.length ≤ 9223372036854775807 by omega)
  have HT := Lib.hid (show t.length ≤ 9223372036854775807 by omega)
  have hap := wr_apart Z a b s t
  rw [hZl] at hap
  have hA0 : roomE N a s.length = 0 → 0 ≤ a ∧ a + s.length ≤ N := by
    intro h
    unfold roomE at h
    split at h
    · omega
    · omega
  have hB0 : roomE N b t.length = 0 → 0 ≤ b ∧ b + t.length ≤ N := by
    intro h
    unfold roomE at h
    split at h
    · omega
    · omega
  have HAP := Lib.hid hap
  have HA0 := Lib.hid hA0
  have HB0 := Lib.hid hB0
  clear hZ hZl hap hA0 hB0
  go_enter Try.func10, Try.ntmps10
  go_wp2_with fail
  refine (memawake_any _).mono ?_
  rintro e w1 ⟨rfl, hb1⟩
  have HB1 := Lib.hid hb1
  have hle1 := hb1.size
  clear hb1 ha hb
  go_wp2_with fail
  refine (HNew.out _).mono ?_
  rintro e w2 ⟨rfl, hm, hb2⟩
  have HM2 := Lib.hid hm
  have HB2 := Lib.hid (Below.step HB1.out hb2)
  obtain ⟨p1, hp1⟩ : ∃ p, p = w1.heap.size + 1 := ⟨_, rfl⟩
  obtain ⟨g1, hg1⟩ : ∃ g, g = w1.heap.size := ⟨_, rfl⟩
  rw [← hp1, ← hg1] at HM2
  rw [← hp1]
  have lp1 := HM2.out.hdr.lt
  have lg1 := HM2.out.bytes.lt
  have wg1 : w.heap.size ≤ g1 := by omega
  clear hm hb2 hp1 hg1 hle1
  go_wp2_with fail
  refine (HNew.out _).mono ?_
  rintro e w3 ⟨rfl, hm, hb3⟩
  have HM3 := Lib.hid (HM2.out.step hb3)
  have HK3 := Lib.hid hm
  have HB3 := Lib.hid (Below.step HB2.out hb3)
  have hle2 := hb3.size
  have hle2' := HB2.out.size
  obtain ⟨p2, hp2⟩ : ∃ p, p = w2.heap.size + 1 := ⟨_, rfl⟩
  obtain ⟨g2, hg2⟩ : ∃ g, g = w2.heap.size := ⟨_, rfl⟩
  rw [← hp2, ← hg2] at HK3
  rw [← hp2]
  have lp2 := HK3.out.hdr.lt
  have lg2 := HK3.out.bytes.lt
  have n1 : p2 ≠ g1 := by omega
  have n2 : g2 ≠ g1 := by omega
  have n3 : p1 ≠ g2 := by omega
  have n4 : g1 ≠ g2 := by omega
  have wg2 : w.heap.size ≤ g2 := by omega
  have lp1' : p1 < w3.heap.size := by omega
  have lg1' : g1 < w3.heap.size := by omega
  clear hm hb3 hp2 hg2 lp1 lg1
  go_wp2_with fail
  refine (HNew.out _).mono ?_
  rintro e w4 ⟨rfl, hm, hb4⟩
  have HM4 := Lib.hid (HM3.out.step hb4)
  have HK4 := Lib.hid (HK3.out.step hb4)
  have HQ4 := Lib.hid hm
  have HB4 := Lib.hid (Below.step HB3.out hb4)
  have hle3 := HB3.out.size
  obtain ⟨p3, hp3⟩ : ∃ p, p = w3.heap.size + 1 := ⟨_, rfl⟩
  obtain ⟨g3, hg3⟩ : ∃ g, g = w3.heap.size := ⟨_, rfl⟩
  rw [← hp3, ← hg3] at HQ4
  rw [← hp3]
  have n5 : p3 ≠ g1 := by omega
  have n6 : g3 ≠ g1 := by omega
  have n7 : p3 ≠ g2 := by omega
  have n8 : g3 ≠ g2 := by omega
  clear hm hb4 hp3 hg3 lp1' lg1' lp2 lg2 hle2 hle2' hle3
  go_wp2_with fail
  refine (write_len HM4.out N HZL.out a s HA.out HS.out).mono ?_
  rintro e w5 ⟨rfl, hm, hg⟩
  have HM5 := Lib.hid hm
  have HK5 := Lib.hid (HK4.out.grown hg n1 n2)
  have HQ5 := Lib.hid (HQ4.out.grown hg n5 n6)
  have HB5 := Lib.hid (below_grown HB4.out HB4.out.size hg wg1)
  clear hm hg HM4 HK4 HQ4 HB4
  go_wp2_with fail
  refine (write_len HM5.out N ((wrL_len Z a s).trans HZL.out) b t HBb.out HT.out).mono ?_
  rintro e w6 ⟨rfl, hm, hg⟩
  have HM6 := Lib.hid hm
  have HK6 := Lib.hid (HK5.out.grown hg n1 n2)
  have HQ6 := Lib.hid (HQ5.out.grown hg n5 n6)
  have HB6 := Lib.hid (below_grown HB5.out HB5.out.size hg wg1)
  clear hm hg HM5 HK5 HQ5 HB5
  go_wp2_with fail
  refine (write_len HK6.out N HZL.out b t HBb.out HT.out).mono ?_
  rintro e w7 ⟨rfl, hm, hg⟩
  have HK7 := Lib.hid hm
  have HM7 := Lib.hid (HM6.out.grown hg n3 n4)
  have HQ7 := Lib.hid (HQ6.out.grown hg n7 n8)
  have HB7 := Lib.hid (below_grown HB6.out HB6.out.size hg wg2)
  clear hm hg HM6 HK6 HQ6 HB6
  go_wp2_with fail
  refine (write_len HK7.out N ((wrL_len Z b t).trans HZL.out) a s HA.out HS.out).mono ?_
  rintro e w8 ⟨rfl, hm, hg⟩
  have HK8 := Lib.hid hm
  have HM8 := Lib.hid (HM7.out.grown hg n3 n4)
  have HQ8 := Lib.hid (HQ7.out.grown hg n7 n8)
  have HB8 := Lib.hid (below_grown HB7.out HB7.out.size hg wg2)
  have HX := Lib.hid (show (wrL (wrL Z a s) b t).length = N by rw [wrL_len, wrL_len, HZL.out])
  have HY := Lib.hid (show (wrL (wrL Z b t) a s).length = N by rw [wrL_len, wrL_len, HZL.out])
  clear hm hg HM7 HK7 HQ7 HB7
  generalize wrL (wrL Z a s) b t = X at HM8 HX HAP
  generalize wrL (wrL Z b t) a s = Y at HK8 HY HAP
  generalize roomE N a s.length = E at HAP HA0 ⊢
  generalize roomE N b t.length = F at HAP HB0 ⊢
  go_wp2_with fail
  refine (txt_all HM8.out N HX.out).mono ?_
  rintro e w9 ⟨rfl, rfl⟩
  go_wp2_with fail
  refine (txt_all HK8.out N HY.out).mono ?_
  rintro e w9 ⟨rfl, rfl⟩
  go_wp2_with fail
  refine (txt_all HQ8.out N HZL.out).mono ?_
  rintro e w9 ⟨rfl, rfl⟩
  have hmk := run_make (P := Try.prog) w8 47 5 i0 (.int .u8 0) Try.underlying47 hi hz0 .i64 .i64 N N (by omega) (by omega) (by rw [hz2]; omega) (by omega)
  rw [hz1] at hmk
  simp only [Int.toNat_natCast] at hmk
  have hmd := made_u8 w8 N
  rw [← HZ.out] at hmd
  have hbk := run_back Try.prog _ 47 9 5 w8.heap.size 0 N Z Try.underlying47 Try.underlying5 Try.underlying9 hmd.at
  rw [HZL.out] at hbk
  have HB9 := Lib.hid (HB8.out.alloc HB8.out.size (.cells (madeCells #[Value.int .u8 0] (N * 1)) 5))
  clear hmd
  by_cases c1 : E = 0
  · by_cases c2 : F = 0
    · obtain ⟨a0, a1⟩ := HA0.out c1
      obtain ⟨b0, b1⟩ := HB0.out c2
      subst c1
      subst c2
      by_cases c3 : a + s.length ≤ b
      · obtain rfl := HAP.out (Or.inr (Or.inr (Or.inl c3)))
        go_wp2
        go_ret
        exact ⟨rfl, by simpa using HB9.out⟩
      · by_cases c4 : b + t.length ≤ a
        · obtain rfl := HAP.out (Or.inr (Or.inr (Or.inr c4)))
          go_wp2
          go_ret
          exact ⟨rfl, by simpa using HB9.out⟩
        · go_wp2
          go_ret
          exact ⟨rfl, by simpa using HB9.out⟩
    · obtain rfl := HAP.out (Or.inr (Or.inl c2))
      have c1' : (E != 0) = false := by rw [c1]; rfl
      have c2' : (F != 0) = true := by rw [bne_iff_ne]; exact c2
      clear c1 c2
      go_wp2
      go_ret
      exact ⟨rfl, by simpa using HB9.out⟩
  · obtain rfl := HAP.out (Or.inl c1)
    have c1' : (E != 0) = true := by rw [bne_iff_ne]; exact c1
    clear c1
    go_wp2
    go_ret
    exact ⟨rfl, by simpa using HB9.out⟩
end Go.Proofs.Yteinnindnijdiaa
