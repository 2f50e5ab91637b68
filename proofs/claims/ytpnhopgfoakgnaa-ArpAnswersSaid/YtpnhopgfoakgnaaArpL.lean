/- The walk through the law ArpCodes: it answers true. -/
import Derived.Test.YtpnhopgfoakgnaaArpS
namespace Go.Proofs.Ytpnhopgfoakgnaa
set_option linter.unusedVariables false
open Go.RowKit
attribute [local go_sem ↓] Go.wp_at_zero Go.wp_at_succ
attribute [local go_sem ↓] ld_arp ld_mac ld_ip

theorem rdAr_form (l : List UInt8) : ∃ (op : Int) (m i tm ti : List UInt8), (rdAr l).1 = .agg (arC op m i tm ti) ∧ ArL m i tm ti := by
  unfold rdAr
  have h0 : ∃ (op : Int) (m i tm ti : List UInt8), Value.agg ar0C = .agg (arC op m i tm ti) ∧ ArL m i tm ti := ⟨0, z6, z4, z6, z4, by rw [ar0_eq], rfl, rfl, rfl, rfl⟩
  split
  · exact h0
  · split
    · exact h0
    · split
      · exact h0
      · exact ⟨_, _, _, _, _, rfl, rfl, rfl, rfl, rfl⟩

/-- the store of a packet into a block that holds noughts -/
theorem wp_st_ar {ops : Array Oper} {rest : List Oper} {o : Oper} {a : Act} {w : World} {Q : Exit → Act → World → Prop} (hgd : o.guard = none) (x y : Operand) (ho : o.op = .store 42 x y)
    (b : Nat) (op : Int) (m i tm ti : List UInt8) (hL : ArL m i tm ti) (hK : Hid (Blk w b 42 ar0C)) (hx : a.eval x = .pointer (some ⟨b, 0, none⟩)) (hy : a.eval y = .agg (arC op m i tm ti))
    (h : wpList Try.prog ops Q rest (a.put o.dst undef) (w.setCells b 0 (arC op m i tm ti).toList)) : wpList Try.prog ops Q (o :: rest) a w :=
  wpList_store_blk hgd 42 x y ho b (arC op m i tm ti) hx hy ar0C 42 hK.out (by rw [arC_size hL]; rfl) (by rw [arC_size hL]; exact size_ar) (arC_one _ _ _ _ _) h

theorem Blk.put_ar {w : World} {b : Nat} {op : Int} {m i tm ti : List UInt8} (h : Blk w b 42 ar0C) (hL : ArL m i tm ti) : Blk (w.setCells b 0 (arC op m i tm ti).toList) b 42 (arC op m i tm ti) :=
  h.setAll (by rw [arC_size hL]; rfl)

set_option maxRecDepth 100000 in
set_option maxHeartbeats 1000000 in
theorem arpCodes_walk (op : Int) (m i tm ti : List UInt8) (hL : ArL m i tm ti) (s : List UInt8) (hs : s.length ≤ 9223372036854775807) (w : World) :
    Calls Try.prog 5 #[.agg (arC op m i tm ti), .string ⟨s.toArray⟩] w fun e w' => e = .returned (.bool true) ∧ Below w.heap.size w w' := by
  have HB := Lib.hid ((Below.refl w.heap.size w).alloc (Nat.le_refl _) (.cells (arC op m i tm ti) 42))
  have HK := Lib.hid (Blk.new w 42 (arC op m i tm ti) 0 0 (Or.inl (Nat.le_refl _)))
  by_cases h2 : 1000 < s.length
  · go_enter Try.func5, Try.ntmps5
    go_wp2_with fail
    refine (arawake_any _).mono ?_
    rintro e w1 ⟨rfl, hb1⟩
    have HB1 := Lib.hid (Below.step HB.out hb1)
    clear hb1
    go_wp2
    go_ret
    exact ⟨rfl, HB1.out⟩
  · have HA := Lib.hid (fun w => ar_any op m i tm ti hL w)
    have HA' := Lib.hid (fun w => refar_any op m i tm ti hL w)
    have hR := fun w => arr_any s w (by omega)
    have hR' := fun w => refarr_any s w (by omega)
    obtain ⟨xo, xm, xi, xtm, xti, hx, hxL⟩ := rdAr_form s
    rw [hx] at hR hR'
    generalize (rdAr s).2 = F at hR hR'
    have HR := Lib.hid hR
    have HR' := Lib.hid hR'
    have hself := fun w => run_ar_eql w xo xm xi xtm xti xo xm xi xtm xti hxL hxL
    rw [arEq_self] at hself
    have HXL := Lib.hid hxL
    have HL := Lib.hid hL
    clear hR hR' hx hxL hL
    go_enter Try.func5, Try.ntmps5
    go_wp2_with fail
    refine (arawake_any _).mono ?_
    rintro e w1 ⟨rfl, hb1⟩
    have HK1 := Lib.hid (HK.out.step hb1)
    have d1 := HK1.out.ld_ar HL.out
    have HB1 := Lib.hid (Below.step HB.out hb1)
    clear hb1
    go_wp2_with fail
    refine (HA.out _).mono ?_
    rintro e w2 ⟨rfl, hb2⟩
    have HK2 := Lib.hid (HK1.out.step hb2)
    have d2 := HK2.out.ld_ar HL.out
    have HB2 := Lib.hid (Below.step HB1.out hb2)
    clear hb2 d1
    go_wp2_with fail
    refine (HA'.out _).mono ?_
    rintro e w3 ⟨rfl, hb3⟩
    have HB3 := Lib.hid (Below.step HB2.out hb3)
    clear hb3 d2
    go_wp2_with fail
    refine (HR.out _).mono ?_
    rintro e w4 ⟨rfl, hb4⟩
    have HB4 := Lib.hid (Below.step HB3.out hb4)
    have HN4 := Lib.hid (Blk.new w4 42 ar0C 0 0 (Or.inl (Nat.le_refl _)))
    have HX4 := Lib.hid (HN4.out.put_ar (op := xo) HXL.out)
    have HB5 := Lib.hid (Below.setCells (HB4.out.alloc HB4.out.size (.cells ar0C 42)) HB4.out.size 0 (arC xo xm xi xtm xti).toList)
    have tokA : True := trivial
    clear hb4
    go_wp2_with (have _t := tokA; refine wp_st_ar rfl _ _ rfl w4.heap.size xo xm xi xtm xti HXL.out HN4 rfl rfl ?_; clear tokA HN4; generalize World.setCells _ _ _ _ = W5 at HX4 HB5 ⊢)
    refine (HR'.out _).mono ?_
    rintro e w6 ⟨rfl, hb6⟩
    have HB6 := Lib.hid (Below.step HB5.out hb6)
    have HX6 := Lib.hid (HX4.out.step hb6)
    have hlt6 := HX6.out.lt
    have HN6 := Lib.hid (Blk.new w6 42 ar0C 0 0 (Or.inl (Nat.le_refl _)))
    have HY7 := Lib.hid (HN6.out.put_ar (op := xo) HXL.out)
    have HX7 := Lib.hid ((HX6.out.alloc (.cells ar0C 42)).setCells_other w6.heap.size 0 (arC xo xm xi xtm xti).toList (by omega))
    have HB7 := Lib.hid (Below.setCells (HB6.out.alloc HB6.out.size (.cells ar0C 42)) HB6.out.size 0 (arC xo xm xi xtm xti).toList)
    have tokB : True := trivial
    clear hb6
    go_wp2_with (have _t := tokB; refine wp_st_ar rfl _ _ rfl w6.heap.size xo xm xi xtm xti HXL.out HN6 rfl rfl ?_; clear tokB HN6; generalize World.setCells _ _ _ _ = W7 at HX7 HY7 HB7 ⊢; have dx := HX7.out.ld_ar HXL.out; have dy := HY7.out.ld_ar HXL.out)
    go_ret
    exact ⟨rfl, HB7.out⟩
end Go.Proofs.Ytpnhopgfoakgnaa
