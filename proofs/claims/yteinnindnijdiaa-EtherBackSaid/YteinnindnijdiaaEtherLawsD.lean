/- The walk through the law of layer 6 (ether) that what has bytes is read from them: it answers true. -/
import Derived.Test.YteinnindnijdiaaEtherP
import Derived.Test.YteinnindnijdiaaBaseB
namespace Go.Proofs.Yteinnindnijdiaa
set_option linter.unusedVariables false
open Go.RowKit
attribute [local go_sem ↓] Go.wp_at_zero Go.wp_at_succ
attribute [local go_sem ↓] run_fr_eql run_fr_neq run_mac_eql

/-- what any text is read as, in the two ways -/
theorem read_ways (s : List UInt8) (hs : s.length ≤ 9223372036854775807) :
    (∃ er : Int, 1 ≤ er ∧ ∀ w, Calls Try.prog 16 #[.string ⟨s.toArray⟩] w fun e w' => e = .returned (.tuple #[fr0, .int .i64 er]) ∧ Below w.heap.size w w') ∨
    ∃ (t0 t1 t2 t3 t4 t5 f0 f1 f2 f3 f4 f5 : UInt8) (ty : Int) (d : List UInt8), (∀ w, Calls Try.prog 16 #[.string ⟨s.toArray⟩] w fun e w' => e = .returned (.tuple #[frV t0 t1 t2 t3 t4 t5 f0 f1 f2 f3 f4 f5 ty ⟨d.toArray⟩, .int .i64 0]) ∧ Below w.heap.size w w') ∧
      ∀ w, Calls Try.prog 18 #[frV t0 t1 t2 t3 t4 t5 f0 f1 f2 f3 f4 f5 ty ⟨d.toArray⟩] w fun e w' => e = .returned (.tuple #[.string ⟨s.toArray⟩, .int .i64 0]) ∧ Below w.heap.size w w' := by
  by_cases h1 : s.length < 14
  · exact Or.inl ⟨7, by decide, fun w => read_short ⟨s.toArray⟩ w h1⟩
  · by_cases h2 : 600 < s.length
    · exact Or.inl ⟨3, by decide, fun w => read_long ⟨s.toArray⟩ w h2 hs⟩
    · have b12 := (bat ⟨s.toArray⟩ 12).toNat_lt
      have b13 := (bat ⟨s.toArray⟩ 13).toNat_lt
      have hr := rd_back ⟨s.toArray⟩ (show 14 ≤ s.length by omega) (show s.length ≤ 600 by omega)
      refine Or.inr ⟨_, _, _, _, _, _, _, _, _, _, _, _, _, ((⟨s.toArray⟩ : ByteArray).extract 14 s.length).data.toList, fun w => read_ok ⟨s.toArray⟩ w (show 14 ≤ s.length by omega) (show s.length ≤ 600 by omega), fun w => ?_⟩
      have hb := bytes_any (bat ⟨s.toArray⟩ 0) (bat ⟨s.toArray⟩ 1) (bat ⟨s.toArray⟩ 2) (bat ⟨s.toArray⟩ 3) (bat ⟨s.toArray⟩ 4) (bat ⟨s.toArray⟩ 5) (bat ⟨s.toArray⟩ 6) (bat ⟨s.toArray⟩ 7) (bat ⟨s.toArray⟩ 8) (bat ⟨s.toArray⟩ 9) (bat ⟨s.toArray⟩ 10) (bat ⟨s.toArray⟩ 11)
        (((bat ⟨s.toArray⟩ 12).toNat * 256 + (bat ⟨s.toArray⟩ 13).toNat : Nat) : Int) ((⟨s.toArray⟩ : ByteArray).extract 14 s.length).data.toList w
        (by rw [extract_list, List.length_take, List.length_drop]; omega) (by omega)
      rw [show ((⟨s.toArray⟩ : ByteArray).extract 14 s.length) = ((⟨s.toArray⟩ : ByteArray).extract 14 (⟨s.toArray⟩ : ByteArray).size) from rfl, hr] at hb
      exact hb

set_option maxRecDepth 100000 in
set_option maxHeartbeats 4000000 in
theorem etherBack_walk (t0 t1 t2 t3 t4 t5 f0 f1 f2 f3 f4 f5 a0 a1 a2 a3 a4 a5 b0 b1 b2 b3 b4 b5 : UInt8) (ty ty' : Int) (l m s : List UInt8) (hl : l.length ≤ 9223372036854775807) (hm : m.length ≤ 9223372036854775807) (hs : s.length ≤ 9223372036854775807)
    (hty : -9223372036854775808 ≤ ty ∧ ty ≤ 9223372036854775807) (hty' : -9223372036854775808 ≤ ty' ∧ ty' ≤ 9223372036854775807) (w : World) :
    Calls Try.prog 4 #[frV t0 t1 t2 t3 t4 t5 f0 f1 f2 f3 f4 f5 ty ⟨l.toArray⟩, frV a0 a1 a2 a3 a4 a5 b0 b1 b2 b3 b4 b5 ty' ⟨m.toArray⟩, .string ⟨s.toArray⟩] w fun e w' => e = .returned (.bool true) ∧ Below w.heap.size w w' := by
  have hB : Below w.heap.size w ((w.alloc (.cells (frV t0 t1 t2 t3 t4 t5 f0 f1 f2 f3 f4 f5 ty ⟨l.toArray⟩).cells 26)).alloc (.cells (frV a0 a1 a2 a3 a4 a5 b0 b1 b2 b3 b4 b5 ty' ⟨m.toArray⟩).cells 26)) := ((Below.refl _ _).alloc (Nat.le_refl _) _).alloc (by simp) _
  have hK1 : Blk ((w.alloc (.cells (frV t0 t1 t2 t3 t4 t5 f0 f1 f2 f3 f4 f5 ty ⟨l.toArray⟩).cells 26)).alloc (.cells (frV a0 a1 a2 a3 a4 a5 b0 b1 b2 b3 b4 b5 ty' ⟨m.toArray⟩).cells 26)) w.heap.size 26 (frV t0 t1 t2 t3 t4 t5 f0 f1 f2 f3 f4 f5 ty ⟨l.toArray⟩).cells := (Blk.new w _ _ 0 0 (Or.inl (Nat.le_refl _))).alloc _
  have hK2 : Blk ((w.alloc (.cells (frV t0 t1 t2 t3 t4 t5 f0 f1 f2 f3 f4 f5 ty ⟨l.toArray⟩).cells 26)).alloc (.cells (frV a0 a1 a2 a3 a4 a5 b0 b1 b2 b3 b4 b5 ty' ⟨m.toArray⟩).cells 26)) (w.heap.size + 1) 26 (frV a0 a1 a2 a3 a4 a5 b0 b1 b2 b3 b4 b5 ty' ⟨m.toArray⟩).cells := by
    have h := Blk.new (w.alloc (.cells (frV t0 t1 t2 t3 t4 t5 f0 f1 f2 f3 f4 f5 ty ⟨l.toArray⟩).cells 26)) 26 (frV a0 a1 a2 a3 a4 a5 b0 b1 b2 b3 b4 b5 ty' ⟨m.toArray⟩).cells 0 0 (Or.inl (Nat.le_refl _))
    rw [size_alloc] at h
    exact h
  have hcf := frBytes_cases [t0, t1, t2, t3, t4, t5] [f0, f1, f2, f3, f4, f5] ty l
  have hcg := frBytes_cases [a0, a1, a2, a3, a4, a5] [b0, b1, b2, b3, b4, b5] ty' m
  have hrt := fr_rt t0 t1 t2 t3 t4 t5 f0 f1 f2 f3 f4 f5 ty l
  have hsame := fr_same t0 t1 t2 t3 t4 t5 f0 f1 f2 f3 f4 f5 a0 a1 a2 a3 a4 a5 b0 b1 b2 b3 b4 b5 ty ty' l m
  have hw1 := fun w => bytes_any t0 t1 t2 t3 t4 t5 f0 f1 f2 f3 f4 f5 ty l w hl hty
  have hw2 := fun w => bytes_any a0 a1 a2 a3 a4 a5 b0 b1 b2 b3 b4 b5 ty' m w hm hty'
  have hrd := fun (h : (frBytes [t0, t1, t2, t3, t4, t5] [f0, f1, f2, f3, f4, f5] ty l).1.length ≤ 9223372036854775807) w => read_any ⟨(frBytes [t0, t1, t2, t3, t4, t5] [f0, f1, f2, f3, f4, f5] ty l).1.toArray⟩ w h
  have hlenf : (frBytes [t0, t1, t2, t3, t4, t5] [f0, f1, f2, f3, f4, f5] ty l).2 = 0 → (frBytes [t0, t1, t2, t3, t4, t5] [f0, f1, f2, f3, f4, f5] ty l).1.length ≤ 9223372036854775807 := by
    intro h
    rcases hcf with ⟨_, h0, h1, h2⟩ | h1
    · rw [frBytes_list t0 t1 t2 t3 t4 t5 f0 f1 f2 f3 f4 f5 ty l h0 h1 h2]; simp; omega
    · omega
  generalize (frBytes [t0, t1, t2, t3, t4, t5] [f0, f1, f2, f3, f4, f5] ty l).1 = fs at hrt hsame hw1 hrd hlenf
  generalize (frBytes [t0, t1, t2, t3, t4, t5] [f0, f1, f2, f3, f4, f5] ty l).2 = fe at hcf hw1 hlenf
  generalize (frBytes [a0, a1, a2, a3, a4, a5] [b0, b1, b2, b3, b4, b5] ty' m).1 = gs at hsame hw2
  generalize (frBytes [a0, a1, a2, a3, a4, a5] [b0, b1, b2, b3, b4, b5] ty' m).2 = ge at hcg hw2
  have hselfF := frEq_self [(t0.toNat : Int), (t1.toNat : Int), (t2.toNat : Int), (t3.toNat : Int), (t4.toNat : Int), (t5.toNat : Int)] [(f0.toNat : Int), (f1.toNat : Int), (f2.toNat : Int), (f3.toNat : Int), (f4.toNat : Int), (f5.toNat : Int)] ty ⟨l.toArray⟩
  have hself0 := frEq_self [0, 0, 0, 0, 0, 0] [0, 0, 0, 0, 0, 0] 0 ⟨#[]⟩
  generalize hfb : frEq [(t0.toNat : Int), (t1.toNat : Int), (t2.toNat : Int), (t3.toNat : Int), (t4.toNat : Int), (t5.toNat : Int)] [(f0.toNat : Int), (f1.toNat : Int), (f2.toNat : Int), (f3.toNat : Int), (f4.toNat : Int), (f5.toNat : Int)] ty ⟨l.toArray⟩ [(a0.toNat : Int), (a1.toNat : Int), (a2.toNat : Int), (a3.toNat : Int), (a4.toNat : Int), (a5.toNat : Int)] [(b0.toNat : Int), (b1.toNat : Int), (b2.toNat : Int), (b3.toNat : Int), (b4.toNat : Int), (b5.toNat : Int)] ty' ⟨m.toArray⟩ = fb at hsame
  have HW1 := Lib.hid hw1
  have HW2 := Lib.hid hw2
  have HB := Lib.hid hB
  have HK1 := Lib.hid hK1
  have HK2 := Lib.hid hK2
  have HCF := Lib.hid hcf
  have HCG := Lib.hid hcg
  have HRT := Lib.hid hrt
  have HSAME := Lib.hid hsame
  have HRD := Lib.hid hrd
  have HLF := Lib.hid hlenf
  have HWAY := Lib.hid (read_ways s hs)
  have HTY := Lib.hid hty
  have HTY' := Lib.hid hty'
  clear hB hK1 hK2 hw1 hw2 hcf hcg hrt hsame hrd hlenf hty hty'
  go_enter Try.func4, Try.ntmps4
  go_wp2_with fail
  simp only [Value.cells] at HB HK1 HK2
  generalize (w.alloc _).alloc _ = W at HB HK1 HK2 ⊢
  refine (awake_any _).mono ?_
  rintro e w1 ⟨rfl, hb1⟩
  have LB := Lib.hid (Below.step HB.out hb1)
  have L1 := Lib.hid (HK1.out.step hb1)
  have L2 := Lib.hid (HK2.out.step hb1)
  clear hb1 HB HK1 HK2
  have hd1 : w1.cell? ⟨w.heap.size, 13, none⟩ = some (.string ⟨l.toArray⟩) := by rw [L1.out.cell]; rfl
  have hd2 : w1.cell? ⟨w.heap.size + 1, 13, none⟩ = some (.string ⟨m.toArray⟩) := by rw [L2.out.cell]; rfl
  by_cases c1 : 2000 < l.length
  · go_wp2
    go_ret
    exact ⟨rfl, LB.out⟩
  by_cases c2 : 2000 < m.length
  · go_wp2
    go_ret
    exact ⟨rfl, LB.out⟩
  by_cases c3 : 2000 < s.length
  · go_wp2
    go_ret
    exact ⟨rfl, LB.out⟩
  go_wp2_with (first | (refine wpList_load_blk rfl 26 (.tmp 3) rfl w.heap.size rfl (frV t0 t1 t2 t3 t4 t5 f0 f1 f2 f3 f4 f5 ty ⟨l.toArray⟩).cells 26 _ L1.out Try.underlying26 rfl size_fr ?_))
  refine (HW1.out _).mono ?_
  rintro e w2 ⟨rfl, hb2⟩
  have MB := Lib.hid (Below.step LB.out hb2)
  have M1 := Lib.hid (L1.out.step hb2)
  have M2 := Lib.hid (L2.out.step hb2)
  clear hb2 LB L1 L2 hd1 hd2
  go_wp2_with (first | (refine wpList_load_blk rfl 26 (.tmp 4) rfl (w.heap.size + 1) rfl (frV a0 a1 a2 a3 a4 a5 b0 b1 b2 b3 b4 b5 ty' ⟨m.toArray⟩).cells 26 _ M2.out Try.underlying26 rfl size_fr ?_))
  refine (HW2.out _).mono ?_
  rintro e w3 ⟨rfl, hb3⟩
  have NB := Lib.hid (Below.step MB.out hb3)
  have N1 := Lib.hid (M1.out.step hb3)
  have N2 := Lib.hid (M2.out.step hb3)
  clear hb3 MB M1 M2
  rcases HCF.out with ⟨hfe, g0, g1, g2⟩ | hfe
  · have hlen := HLF.out hfe
    have hra := HRD.out hlen
    rw [HRT.out g0 g1 g2] at hra
    have HRA := Lib.hid hra
    clear hra hlen
    subst hfe
    go_wp2_with fail
    refine (HRA.out _).mono ?_
    rintro e w4 ⟨rfl, hb4⟩
    have PB := Lib.hid ((Below.step NB.out hb4).alloc (Below.step NB.out hb4).size (.cells (frV t0 t1 t2 t3 t4 t5 f0 f1 f2 f3 f4 f5 ty ⟨l.toArray⟩).cells 26))
    have P1 := Lib.hid ((N1.out.step hb4).alloc (.cells (frV t0 t1 t2 t3 t4 t5 f0 f1 f2 f3 f4 f5 ty ⟨l.toArray⟩).cells 26))
    have P2 := Lib.hid ((N2.out.step hb4).alloc (.cells (frV t0 t1 t2 t3 t4 t5 f0 f1 f2 f3 f4 f5 ty ⟨l.toArray⟩).cells 26))
    have P3 := Lib.hid (Blk.new w4 26 (frV t0 t1 t2 t3 t4 t5 f0 f1 f2 f3 f4 f5 ty ⟨l.toArray⟩).cells 0 0 (Or.inl (Nat.le_refl _)))
    clear hb4 NB N1 N2
    rcases HCG.out with ⟨hge, k0, k1, k2⟩ | hge
    · have hsm := HSAME.out g0 g1 g2 k0 k1 k2
      subst hge
      clear g0 g1 g2 k0 k1 k2
      cases fb
      all_goals
        go_wp2_with (first | (refine wpList_load_blk_g (by kernel_rfl) 26 (.tmp 11) rfl w4.heap.size rfl (frV t0 t1 t2 t3 t4 t5 f0 f1 f2 f3 f4 f5 ty ⟨l.toArray⟩).cells 26 _ P3.out Try.underlying26 rfl size_fr ?_) | (refine wpList_load_blk_g (by kernel_rfl) 26 (.tmp 3) rfl w.heap.size rfl (frV t0 t1 t2 t3 t4 t5 f0 f1 f2 f3 f4 f5 ty ⟨l.toArray⟩).cells 26 _ P1.out Try.underlying26 rfl size_fr ?_) | (refine wpList_load_blk_g (by kernel_rfl) 26 (.tmp 4) rfl (w.heap.size + 1) rfl (frV a0 a1 a2 a3 a4 a5 b0 b1 b2 b3 b4 b5 ty' ⟨m.toArray⟩).cells 26 _ P2.out Try.underlying26 rfl size_fr ?_))
        rcases HWAY.out with ⟨er, her, hrs⟩ | ⟨x0, x1, x2, x3, x4, x5, x6, x7, x8, x9, x10, x11, xt, xd, hrs, hws⟩
        · have HRS := Lib.hid hrs
          clear hrs
          refine (HRS.out _).mono ?_
          rintro e w5 ⟨rfl, hb5⟩
          have QB := Lib.hid ((Below.step PB.out hb5).alloc (Below.step PB.out hb5).size (.cells (Value.cells fr0) 26))
          have Q1 := Lib.hid (Blk.new w5 26 (Value.cells fr0) 0 0 (Or.inl (Nat.le_refl _)))
          clear hb5
          go_wp2_with (first | (refine wpList_load_blk rfl 26 (.tmp 13) rfl w5.heap.size rfl (Value.cells fr0) 26 _ Q1.out Try.underlying26 rfl size_fr ?_))
          go_ret
          exact ⟨rfl, QB.out⟩
        · have HRS := Lib.hid hrs
          have HWS := Lib.hid hws
          clear hrs hws
          refine (HRS.out _).mono ?_
          rintro e w5 ⟨rfl, hb5⟩
          have QB := Lib.hid ((Below.step PB.out hb5).alloc (Below.step PB.out hb5).size (.cells (frV x0 x1 x2 x3 x4 x5 x6 x7 x8 x9 x10 x11 xt ⟨xd.toArray⟩).cells 26))
          have Q1 := Lib.hid (Blk.new w5 26 (frV x0 x1 x2 x3 x4 x5 x6 x7 x8 x9 x10 x11 xt ⟨xd.toArray⟩).cells 0 0 (Or.inl (Nat.le_refl _)))
          clear hb5
          go_wp2_with (first | (refine wpList_load_blk rfl 26 (.tmp 13) rfl w5.heap.size rfl (frV x0 x1 x2 x3 x4 x5 x6 x7 x8 x9 x10 x11 xt ⟨xd.toArray⟩).cells 26 _ Q1.out Try.underlying26 rfl size_fr ?_))
          refine (HWS.out _).mono ?_
          rintro e w6 ⟨rfl, hb6⟩
          have RB := Lib.hid (Below.step QB.out hb6)
          clear hb6 QB Q1
          go_wp2
          go_ret
          exact ⟨rfl, RB.out⟩
    · clear g0 g1 g2
      have tok3 : True := trivial
      go_wp2_with (first | (refine wpList_load_blk_g (by kernel_rfl) 26 (.tmp 11) rfl w4.heap.size rfl (frV t0 t1 t2 t3 t4 t5 f0 f1 f2 f3 f4 f5 ty ⟨l.toArray⟩).cells 26 _ P3.out Try.underlying26 rfl size_fr ?_) | (have _t := tok3; refine wpList_load_blk_g (by kernel_rfl) 26 (.tmp 3) rfl w.heap.size rfl (frV t0 t1 t2 t3 t4 t5 f0 f1 f2 f3 f4 f5 ty ⟨l.toArray⟩).cells 26 _ P1.out Try.underlying26 rfl size_fr ?_; clear tok3))
      rcases HWAY.out with ⟨er, her, hrs⟩ | ⟨x0, x1, x2, x3, x4, x5, x6, x7, x8, x9, x10, x11, xt, xd, hrs, hws⟩
      · have HRS := Lib.hid hrs
        clear hrs
        refine (HRS.out _).mono ?_
        rintro e w5 ⟨rfl, hb5⟩
        have QB := Lib.hid ((Below.step PB.out hb5).alloc (Below.step PB.out hb5).size (.cells (Value.cells fr0) 26))
        have Q1 := Lib.hid (Blk.new w5 26 (Value.cells fr0) 0 0 (Or.inl (Nat.le_refl _)))
        clear hb5
        go_wp2_with (first | (refine wpList_load_blk rfl 26 (.tmp 13) rfl w5.heap.size rfl (Value.cells fr0) 26 _ Q1.out Try.underlying26 rfl size_fr ?_))
        go_ret
        exact ⟨rfl, QB.out⟩
      · have HRS := Lib.hid hrs
        have HWS := Lib.hid hws
        clear hrs hws
        refine (HRS.out _).mono ?_
        rintro e w5 ⟨rfl, hb5⟩
        have QB := Lib.hid ((Below.step PB.out hb5).alloc (Below.step PB.out hb5).size (.cells (frV x0 x1 x2 x3 x4 x5 x6 x7 x8 x9 x10 x11 xt ⟨xd.toArray⟩).cells 26))
        have Q1 := Lib.hid (Blk.new w5 26 (frV x0 x1 x2 x3 x4 x5 x6 x7 x8 x9 x10 x11 xt ⟨xd.toArray⟩).cells 0 0 (Or.inl (Nat.le_refl _)))
        clear hb5
        go_wp2_with (first | (refine wpList_load_blk rfl 26 (.tmp 13) rfl w5.heap.size rfl (frV x0 x1 x2 x3 x4 x5 x6 x7 x8 x9 x10 x11 xt ⟨xd.toArray⟩).cells 26 _ Q1.out Try.underlying26 rfl size_fr ?_))
        refine (HWS.out _).mono ?_
        rintro e w6 ⟨rfl, hb6⟩
        have RB := Lib.hid (Below.step QB.out hb6)
        clear hb6 QB Q1
        go_wp2
        go_ret
        exact ⟨rfl, RB.out⟩
  · go_wp2_with fail
    rcases HWAY.out with ⟨er, her, hrs⟩ | ⟨x0, x1, x2, x3, x4, x5, x6, x7, x8, x9, x10, x11, xt, xd, hrs, hws⟩
    · have HRS := Lib.hid hrs
      clear hrs
      refine (HRS.out _).mono ?_
      rintro e w5 ⟨rfl, hb5⟩
      have QB := Lib.hid ((Below.step NB.out hb5).alloc (Below.step NB.out hb5).size (.cells (Value.cells fr0) 26))
      have Q1 := Lib.hid (Blk.new w5 26 (Value.cells fr0) 0 0 (Or.inl (Nat.le_refl _)))
      clear hb5
      go_wp2_with (first | (refine wpList_load_blk rfl 26 (.tmp 13) rfl w5.heap.size rfl (Value.cells fr0) 26 _ Q1.out Try.underlying26 rfl size_fr ?_))
      go_ret
      exact ⟨rfl, QB.out⟩
    · have HRS := Lib.hid hrs
      have HWS := Lib.hid hws
      clear hrs hws
      refine (HRS.out _).mono ?_
      rintro e w5 ⟨rfl, hb5⟩
      have QB := Lib.hid ((Below.step NB.out hb5).alloc (Below.step NB.out hb5).size (.cells (frV x0 x1 x2 x3 x4 x5 x6 x7 x8 x9 x10 x11 xt ⟨xd.toArray⟩).cells 26))
      have Q1 := Lib.hid (Blk.new w5 26 (frV x0 x1 x2 x3 x4 x5 x6 x7 x8 x9 x10 x11 xt ⟨xd.toArray⟩).cells 0 0 (Or.inl (Nat.le_refl _)))
      clear hb5
      go_wp2_with (first | (refine wpList_load_blk rfl 26 (.tmp 13) rfl w5.heap.size rfl (frV x0 x1 x2 x3 x4 x5 x6 x7 x8 x9 x10 x11 xt ⟨xd.toArray⟩).cells 26 _ Q1.out Try.underlying26 rfl size_fr ?_))
      refine (HWS.out _).mono ?_
      rintro e w6 ⟨rfl, hb6⟩
      have RB := Lib.hid (Below.step QB.out hb6)
      clear hb6 QB Q1
      go_wp2
      go_ret
      exact ⟨rfl, RB.out⟩
end Go.Proofs.Yteinnindnijdiaa
