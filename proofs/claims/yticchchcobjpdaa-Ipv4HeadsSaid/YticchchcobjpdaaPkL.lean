/- The walks through the laws Ipv4Writes, Ipv4Reads and Ipv4Heads: they answer true. -/
import Derived.Test.YticchchcobjpdaaPkA
import Derived.Test.YticchchcobjpdaaPkRA
import Derived.Test.YticchchcobjpdaaPkDR
namespace Go.Proofs.Yticchchcobjpdaa
set_option linter.unusedVariables false
set_option linter.unusedSimpArgs false
set_option maxRecDepth 100000
open Go.RowKit
attribute [local go_sem ↓] Go.wp_at_zero Go.wp_at_succ
attribute [local go_sem ↓] ld_pk ld_ip

theorem rdV_form (l : List UInt8) : ∃ (id : Int) (f t : List UInt8) (pr tt a : Int) (mo : Bool) (d : List UInt8), rdV l = pkC id f t pr tt a mo d ∧ PkL f t := by
  unfold rdV
  split
  · exact ⟨_, _, _, _, _, _, _, _, rfl, rfl, rfl⟩
  · exact ⟨_, _, _, _, _, _, _, _, rfl, rfl, rfl⟩

set_option maxHeartbeats 1000000 in
theorem ipv4Writes_walk (id : Int) (f t : List UInt8) (pr tt a : Int) (mo : Bool) (d : List UInt8) (hL : PkL f t) (hid : -9223372036854775808 ≤ id ∧ id ≤ 9223372036854775807) (hpr : -9223372036854775808 ≤ pr ∧ pr ≤ 9223372036854775807) (htt : -9223372036854775808 ≤ tt ∧ tt ≤ 9223372036854775807) (ha : -9223372036854775808 ≤ a ∧ a ≤ 9223372036854775807) (hd : d.length ≤ 9223372036854775807) (s : List UInt8) (hs : s.length ≤ 9223372036854775807) (w : World) :
    Calls Try.prog 3 #[.agg (pkC id f t pr tt a mo d), .string ⟨s.toArray⟩] w fun e w' => e = .returned (.bool true) ∧ Below w.heap.size w w' := by
  have HB := Lib.hid ((Below.refl w.heap.size w).alloc (Nat.le_refl _) (.cells (pkC id f t pr tt a mo d) 25))
  have HK := Lib.hid (Blk.new w 25 (pkC id f t pr tt a mo d) 0 0 (Or.inl (Nat.le_refl _)))
  have HL := Lib.hid hL
  by_cases h1 : 3000 < (d.length : Int)
  · clear hid hpr htt ha
    go_enter Try.func3, Try.ntmps3
    go_wp2_with fail
    refine (pkawake_any _).mono ?_
    rintro e w1 ⟨rfl, hb1⟩
    have HB1 := Lib.hid (Below.step HB.out hb1)
    have c13 := (pk_at (HK.out.step hb1) HL.out).d
    clear hb1
    go_wp2
    go_ret
    exact ⟨rfl, HB1.out⟩
  by_cases h2 : 3000 < (s.length : Int)
  · clear hid hpr htt ha
    have h1' : (d.length : Int) ≤ 3000 := by omega
    go_enter Try.func3, Try.ntmps3
    go_wp2_with fail
    refine (pkawake_any _).mono ?_
    rintro e w1 ⟨rfl, hb1⟩
    have HB1 := Lib.hid (Below.step HB.out hb1)
    have c13 := (pk_at (HK.out.step hb1) HL.out).d
    clear hb1
    go_wp2
    go_ret
    exact ⟨rfl, HB1.out⟩
  have hA := fun w => pk_any id f t pr tt a mo d hL hid hpr htt ha (by omega) w
  have hA' := fun w => pkr_any id f t pr tt a mo d hL hid hpr htt ha (by omega) w
  generalize (pkBytes id f t pr tt a mo d).1 = X at hA hA'
  generalize (pkBytes id f t pr tt a mo d).2 = E at hA hA'
  have HA := Lib.hid hA
  have HA' := Lib.hid hA'
  have hS := fun w => sum_any w ⟨s.toArray⟩ (by show s.length ≤ _; omega)
  have hS' := fun w => refSum_any w s (by omega)
  generalize sumE ⟨s.toArray⟩ = M at hS hS'
  have HS := Lib.hid hS
  have HS' := Lib.hid hS'
  clear hA hA' hS hS' hid hpr htt ha hL
  go_enter Try.func3, Try.ntmps3
  go_wp2_with fail
  refine (pkawake_any _).mono ?_
  rintro e w1 ⟨rfl, hb1⟩
  have HK1 := Lib.hid (HK.out.step hb1)
  have d1 := HK1.out.ld_pk HL.out
  have c13 := (pk_at HK1.out HL.out).d
  have HB1 := Lib.hid (Below.step HB.out hb1)
  clear hb1
  go_wp2_with fail
  refine (HA.out _).mono ?_
  rintro e w2 ⟨rfl, hb2⟩
  have HK2 := Lib.hid (HK1.out.step hb2)
  have d2 := HK2.out.ld_pk HL.out
  have HB2 := Lib.hid (Below.step HB1.out hb2)
  clear hb2 d1 c13
  go_wp2_with fail
  refine (HA'.out _).mono ?_
  rintro e w3 ⟨rfl, hb3⟩
  have HB3 := Lib.hid (Below.step HB2.out hb3)
  clear hb3 d2
  go_wp2_with fail
  refine (HS.out _).mono ?_
  rintro e w4 ⟨rfl, rfl⟩
  go_wp2_with fail
  refine (HS'.out _).mono ?_
  rintro e w5 ⟨rfl, hb5⟩
  have HB5 := Lib.hid (Below.step HB3.out hb5)
  clear hb5
  go_wp2
  go_ret
  exact ⟨rfl, HB5.out⟩

set_option maxHeartbeats 1000000 in
theorem ipv4Reads_walk (s : List UInt8) (hs : s.length ≤ 9223372036854775807) (w : World) :
    Calls Try.prog 5 #[.string ⟨s.toArray⟩] w fun e w' => e = .returned (.bool true) ∧ Below w.heap.size w w' := by
  by_cases h2 : 3000 < (s.length : Int)
  · go_enter Try.func5, Try.ntmps5
    go_wp2_with fail
    refine (pkawake_any _).mono ?_
    rintro e w1 ⟨rfl, hb1⟩
    have HB1 := Lib.hid hb1
    clear hb1
    go_wp2
    go_ret
    exact ⟨rfl, HB1.out⟩
  have hR := fun w => pkd_any s w (by omega)
  have hR' := fun w => pkdr_any s w (by omega)
  obtain ⟨xi, xf, xt, xp, xtt, xa, xm, xd, hx, hxL⟩ := rdV_form s
  rw [hx] at hR hR'
  generalize rdE s = F at hR hR'
  have HR := Lib.hid hR
  have HR' := Lib.hid hR'
  have hself := fun w => run_pk_eql w xi xf xt xp xtt xa xm xd xi xf xt xp xtt xa xm xd hxL hxL
  rw [pkEq_self] at hself
  have HXL := Lib.hid hxL
  clear hR hR' hx hxL
  go_enter Try.func5, Try.ntmps5
  go_wp2_with fail
  refine (pkawake_any _).mono ?_
  rintro e w3 ⟨rfl, hb3⟩
  have HB3 := Lib.hid hb3
  clear hb3
  go_wp2_with fail
  refine (HR.out _).mono ?_
  rintro e w4 ⟨rfl, hb4⟩
  have HB4 := Lib.hid (Below.step HB3.out hb4)
  have HN4 := Lib.hid (Blk.new w4 25 pk0 0 0 (Or.inl (Nat.le_refl _)))
  have HX4 := Lib.hid (HN4.out.put_pk (id := xi) (pr := xp) (tt := xtt) (a := xa) (mo := xm) (d := xd) HXL.out)
  have HB5 := Lib.hid (Below.setCells (HB4.out.alloc HB4.out.size (.cells pk0 25)) HB4.out.size 0 (pkC xi xf xt xp xtt xa xm xd).toList)
  rw [pk0_lit] at HX4 HB5
  have tokA : True := trivial
  clear hb4
  go_wp2_with (have _t := tokA; refine wp_st_pk rfl _ _ rfl w4.heap.size xi xf xt xp xtt xa xm xd HXL.out HN4 rfl rfl ?_; clear tokA HN4; generalize World.setCells _ _ _ _ = W5 at HX4 HB5 ⊢)
  refine (HR'.out _).mono ?_
  rintro e w6 ⟨rfl, hb6⟩
  have HB6 := Lib.hid (Below.step HB5.out hb6)
  have HX6 := Lib.hid (HX4.out.step hb6)
  have hlt6 := HX6.out.lt
  have HN6 := Lib.hid (Blk.new w6 25 pk0 0 0 (Or.inl (Nat.le_refl _)))
  have HY7 := Lib.hid (HN6.out.put_pk (id := xi) (pr := xp) (tt := xtt) (a := xa) (mo := xm) (d := xd) HXL.out)
  have HX7 := Lib.hid ((HX6.out.alloc (.cells pk0 25)).setCells_other w6.heap.size 0 (pkC xi xf xt xp xtt xa xm xd).toList (by omega))
  have HB7 := Lib.hid (Below.setCells (HB6.out.alloc HB6.out.size (.cells pk0 25)) HB6.out.size 0 (pkC xi xf xt xp xtt xa xm xd).toList)
  rw [pk0_lit] at HX7 HY7 HB7
  have tokB : True := trivial
  clear hb6
  go_wp2_with (have _t := tokB; refine wp_st_pk rfl _ _ rfl w6.heap.size xi xf xt xp xtt xa xm xd HXL.out HN6 rfl rfl ?_; clear tokB HN6; generalize World.setCells _ _ _ _ = W7 at HX7 HY7 HB7 ⊢; have dx := HX7.out.ld_pk HXL.out; have dy := HY7.out.ld_pk HXL.out)
  go_ret
  exact ⟨rfl, HB7.out⟩
end Go.Proofs.Yticchchcobjpdaa
