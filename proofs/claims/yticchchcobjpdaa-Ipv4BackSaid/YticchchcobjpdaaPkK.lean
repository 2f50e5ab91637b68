/- The walk through the law Ipv4Back: it answers true. -/
import Derived.Test.YticchchcobjpdaaPkA
import Derived.Test.YticchchcobjpdaaPkQ
namespace Go.Proofs.Yticchchcobjpdaa
set_option linter.unusedVariables false
set_option linter.unusedSimpArgs false
set_option maxRecDepth 100000
open Go.RowKit
attribute [local go_sem ↓] Go.wp_at_zero Go.wp_at_succ
attribute [local go_sem ↓] ld_pk ld_ip

theorem rdV_no {l : List UInt8} (h : ¬ rdE l = 0) : rdV l = pkC 0 zz4 zz4 0 0 0 false [] := by rw [rdV, if_neg h]; rfl

set_option maxHeartbeats 1000000 in
theorem ipv4Back_walk (id : Int) (f t : List UInt8) (pr tt a : Int) (mo : Bool) (d : List UInt8) (hL : PkL f t) (hid : -9223372036854775808 ≤ id ∧ id ≤ 9223372036854775807) (hpr : -9223372036854775808 ≤ pr ∧ pr ≤ 9223372036854775807) (htt : -9223372036854775808 ≤ tt ∧ tt ≤ 9223372036854775807) (ha : -9223372036854775808 ≤ a ∧ a ≤ 9223372036854775807) (hd : d.length ≤ 9223372036854775807) (z : List UInt8) (hz : z.length ≤ 9223372036854775807) (w : World) :
    Calls Try.prog 7 #[.agg (pkC id f t pr tt a mo d), .string ⟨z.toArray⟩] w fun e w' => e = .returned (.bool true) ∧ Below w.heap.size w w' := by
  have HB := Lib.hid ((Below.refl w.heap.size w).alloc (Nat.le_refl _) (.cells (pkC id f t pr tt a mo d) 25))
  have HK := Lib.hid (Blk.new w 25 (pkC id f t pr tt a mo d) 0 0 (Or.inl (Nat.le_refl _)))
  have HL := Lib.hid hL
  by_cases h1 : 3000 < (d.length : Int)
  · clear hid hpr htt ha
    go_enter Try.func7, Try.ntmps7
    go_wp2_with fail
    refine (pkawake_any _).mono ?_
    rintro e w1 ⟨rfl, hb1⟩
    have HB1 := Lib.hid (Below.step HB.out hb1)
    have c13 := (pk_at (HK.out.step hb1) HL.out).d
    clear hb1
    go_wp2
    go_ret
    exact ⟨rfl, HB1.out⟩
  by_cases h2 : 1000 < (z.length : Int)
  · clear hid hpr htt ha
    have h1' : (d.length : Int) ≤ 3000 := by omega
    go_enter Try.func7, Try.ntmps7
    go_wp2_with fail
    refine (pkawake_any _).mono ?_
    rintro e w1 ⟨rfl, hb1⟩
    have HB1 := Lib.hid (Below.step HB.out hb1)
    have c13 := (pk_at (HK.out.step hb1) HL.out).d
    clear hb1
    go_wp2
    go_ret
    exact ⟨rfl, HB1.out⟩
  have hA := fun w => pk_any id f t pr tt a mo d hL hid hpr htt ha (by omega) w
  by_cases h3 : ¬ (pkBytes id f t pr tt a mo d).2 = 0
  · rw [pkBytes_err h3] at hA
    generalize (pkBytes id f t pr tt a mo d).2 = E at hA h3
    have h3' : (E != 0) = true := by simpa using h3
    have HA := Lib.hid hA
    clear hA hid hpr htt ha hL h3
    go_enter Try.func7, Try.ntmps7
    go_wp2_with fail
    refine (pkawake_any _).mono ?_
    rintro e w1 ⟨rfl, hb1⟩
    have HK1 := Lib.hid (HK.out.step hb1)
    have d1 := HK1.out.ld_pk HL.out
    have c13 := (pk_at HK1.out HL.out).d
    have HB1 := Lib.hid (Below.step HB.out hb1)
    clear hb1
    go_wp2_with fail
    refine (HA.out _).mono ?_
    rintro e w2 ⟨rfl, hb2⟩
    have HB2 := Lib.hid (Below.step HB1.out hb2)
    clear hb2 d1 c13
    go_wp2
    go_ret
    exact ⟨rfl, HB2.out⟩
  have h3' : (pkBytes id f t pr tt a mo d).2 = 0 := by simpa using h3
  obtain ⟨hm, hn, hX⟩ := pkBytes_ok h3'
  rw [h3', hX] at hA
  have hHd := head_of hL hm hn
  have hr := pk_reads hL d z hm hn
  have hsh := pk_short hL d hm hn
  have hv := rdV_no (l := (pkHead id f t pr tt a mo d.length ++ d).take (19 + d.length)) (by rw [hsh]; decide)
  have hlen : (pkHead id f t pr tt a mo d.length ++ d).length = 20 + d.length := by rw [List.length_append, hHd.len]
  have hsum : sumE ⟨((pkHead id f t pr tt a mo d.length ++ d).take 20).toArray⟩ = 0 := by rw [hHd.take]; exact hHd.sum
  generalize pkHead id f t pr tt a mo d.length ++ d = S at hA hr hsh hv hlen hsum
  have hS := fun w => sum_any w ⟨(S.take 20).toArray⟩ (by show (S.take 20).length ≤ _; rw [List.length_take]; omega)
  rw [hsum] at hS
  have hR := fun w => pkd_any (S ++ z) w (by rw [List.length_append]; omega)
  rw [hr.1, hr.2, ← str_append] at hR
  obtain ⟨K, hK⟩ : ∃ K, K = 19 + d.length := ⟨_, rfl⟩
  rw [← hK] at hsh hv
  have hQ := fun w => pkd_any (S.take K) w (by rw [List.length_take]; omega)
  rw [hsh, hv] at hQ
  have he1 : (⟨S.toArray⟩ : ByteArray).extract 0 20 = ⟨(S.take 20).toArray⟩ := by rw [ext_list']; rfl
  have he2 : (⟨S.toArray⟩ : ByteArray).extract 0 K = ⟨(S.take K).toArray⟩ := by rw [ext_list']; rfl
  rw [← he1] at hS
  rw [← he2] at hQ
  have l20 : (20 : Int) ≤ (S.length : Int) := by omega
  have lK : (K : Int) ≤ (S.length : Int) := by omega
  have lw : IntKind.i64.wrap (20 + (d.length : Int)) = (S.length : Int) := by rw [IntWalk.i64_in _ (by omega)]; omega
  have lk : IntKind.i64.wrap ((S.length : Int) - 1) = (K : Int) := by rw [IntWalk.i64_in _ (by omega)]; omega
  have ls : (S.length : Int) ≤ 4000 := by omega
  have lz : (z.length : Int) ≤ 1000 := by omega
  have h1' : (d.length : Int) ≤ 3000 := by omega
  have HA := Lib.hid hA
  have HS := Lib.hid hS
  have HR := Lib.hid hR
  have HQ := Lib.hid hQ
  have hself := fun w => run_pk_eql w id f t pr tt a mo d id f t pr tt a mo d hL hL
  rw [pkEq_self] at hself
  have H1 := Lib.hid h1
  have H2 := Lib.hid h2
  clear hA hid hpr htt ha hL h3 h3' hm hn hX hHd hr hsh hv hlen hsum hS hR hQ he1 he2 hK hd hz h1 h2
  go_enter Try.func7, Try.ntmps7
  go_wp2_with fail
  refine (pkawake_any _).mono ?_
  rintro e w1 ⟨rfl, hb1⟩
  have HK1 := Lib.hid (HK.out.step hb1)
  have d1 := HK1.out.ld_pk HL.out
  have c13 := (pk_at HK1.out HL.out).d
  have HB1 := Lib.hid (Below.step HB.out hb1)
  clear hb1
  go_wp2_with fail
  refine (HA.out _).mono ?_
  rintro e w2 ⟨rfl, hb2⟩
  have HK2 := Lib.hid (HK1.out.step hb2)
  have HB2 := Lib.hid (Below.step HB1.out hb2)
  clear hb2 d1 c13
  have c13 := (pk_at HK2.out HL.out).d
  go_wp2_with fail
  refine (HS.out _).mono ?_
  rintro e w3 ⟨rfl, rfl⟩
  go_wp2_with fail
  refine (HR.out _).mono ?_
  rintro e w4 ⟨rfl, hb4⟩
  have HB4 := Lib.hid (Below.step HB2.out hb4)
  have HP4 := Lib.hid (HK2.out.step hb4)
  have HN4 := Lib.hid (Blk.new w4 25 pk0 0 0 (Or.inl (Nat.le_refl _)))
  have HX4 := Lib.hid (HN4.out.put_pk (id := id) (pr := pr) (tt := tt) (a := a) (mo := mo) (d := d) HL.out)
  have hlt4 := HP4.out.lt
  have HP5 := Lib.hid ((HP4.out.alloc (.cells pk0 25)).setCells_other w4.heap.size 0 (pkC id f t pr tt a mo d).toList (by omega))
  have HB5 := Lib.hid (Below.setCells (HB4.out.alloc HB4.out.size (.cells pk0 25)) HB4.out.size 0 (pkC id f t pr tt a mo d).toList)
  rw [pk0_lit] at HX4 HB5 HP5
  have tokA : True := trivial
  clear hb4 c13
  go_wp2_with (have _t := tokA; refine wp_st_pk rfl _ _ rfl w4.heap.size id f t pr tt a mo d HL.out HN4 rfl rfl ?_; clear tokA HN4; generalize World.setCells _ _ _ _ = W5 at HX4 HP5 HB5 ⊢)
  refine (HQ.out _).mono ?_
  rintro e w6 ⟨rfl, hb6⟩
  have HB6 := Lib.hid (Below.step HB5.out hb6)
  have HX6 := Lib.hid (HX4.out.step hb6)
  have HP6 := Lib.hid (HP5.out.step hb6)
  have hlt6 := HX6.out.lt
  have hlp6 := HP6.out.lt
  have HN6 := Lib.hid (Blk.new w6 25 pk0 0 0 (Or.inl (Nat.le_refl _)))
  have HX7 := Lib.hid ((HX6.out.alloc (.cells pk0 25)).setCells_other w6.heap.size 0 (pkC 0 zz4 zz4 0 0 0 false []).toList (by omega))
  have HP7 := Lib.hid ((HP6.out.alloc (.cells pk0 25)).setCells_other w6.heap.size 0 (pkC 0 zz4 zz4 0 0 0 false []).toList (by omega))
  have HB7 := Lib.hid (Below.setCells (HB6.out.alloc HB6.out.size (.cells pk0 25)) HB6.out.size 0 (pkC 0 zz4 zz4 0 0 0 false []).toList)
  rw [pk0_lit] at HX7 HP7 HB7
  have tokB : True := trivial
  clear hb6
  go_wp2_with (have _t := tokB; refine wp_st_pk rfl _ _ rfl w6.heap.size 0 zz4 zz4 0 0 0 false [] pk0_L HN6 rfl rfl ?_; clear tokB HN6; generalize World.setCells _ _ _ _ = W7 at HX7 HP7 HB7 ⊢; have dx := HX7.out.ld_pk HL.out; have dy := HP7.out.ld_pk HL.out)
  go_ret
  exact ⟨rfl, HB7.out⟩
end Go.Proofs.Yticchchcobjpdaa
