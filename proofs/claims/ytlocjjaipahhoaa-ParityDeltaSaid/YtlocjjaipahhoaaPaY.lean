/- The walk through the law ParityBack: it answers true. Condition: texts that a memory can hold. -/
import Derived.Test.YtlocjjaipahhoaaPaG
namespace Go.Proofs.Ytlocjjaipahhoaa
set_option linter.unusedVariables false
set_option linter.unusedSimpArgs false
set_option maxRecDepth 100000
open Go.RowKit
attribute [local go_sem ↓] Go.wp_at_zero Go.wp_at_succ

theorem back_great (A : Option Addr) (c : Nat) (L : List (List UInt8)) (hL : L.length ≤ maxLen) (hs : ∀ s ∈ L, s.length ≤ maxLen) (w : World) (hA : StrsAt w w.heap.size A L) (hg : grV L = true) :
    Calls Try.prog 4 #[.slice A L.length c] w fun e w' => e = .returned (.bool true) ∧ Below w.heap.size w w' := by
  have G := Lib.hid (great_any A c L hL hs w hA)
  rw [hg] at G
  have K := Lib.hid wakes_any
  clear hL hs hA hg
  go_enter Try.func4, Try.ntmps4
  go_wp2_with fail
  refine G.out.mono ?_
  rintro e w1 ⟨rfl, rfl⟩
  go_wp2_with fail
  refine (K.out _).mono ?_
  rintro e w2 ⟨rfl, hb⟩
  have HB := Lib.hid hb
  clear hb
  go_wp2
  go_ret
  exact ⟨rfl, HB.out⟩

theorem small_len {L : List (List UInt8)} (h : ∀ s ∈ L, s.length = 64) : ∀ s ∈ L, s.length ≤ maxLen := fun s hs => by rw [h s hs]; decide

set_option maxHeartbeats 2000000 in
theorem back_main (A : Option Addr) (c : Nat) (L : List (List UInt8)) (hL : L.length ≤ maxLen) (hs : ∀ s ∈ L, s.length ≤ maxLen) (w : World) (hA : StrsAt w w.heap.size A L) (hg : grV L = false) :
    Calls Try.prog 4 #[.slice A L.length c] w fun e w' => e = .returned (.bool true) ∧ Below w.heap.size w w' := by
  have h20 := (grV_no hg).1
  have h200 := (grV_no hg).2
  have G := Lib.hid (great_any A c L hL hs w hA)
  rw [hg] at G
  have K := Lib.hid wakes_any
  have X := Lib.hid (sectors_any A c L h20 h200 w hA)
  have hx64 := secs_64 L
  have hxl := secs_len L
  generalize secs L = x at X hx64 hxl
  have hX20 : x.length ≤ 20 := by omega
  have S := Lib.hid (fun A c w1 h => paSum_any A c x (by unfold maxLen; omega) (small_len hx64) w1 h)
  rw [paV_of hx64] at S
  have hal : (withSum x).length = x.length + 1 := by rw [withSum, List.length_append]; rfl
  have h64 := withSum_64 hx64
  have R := Lib.hid (fun A c w1 h => right_any A c (withSum x) (by unfold maxLen; omega) (small_len h64) w1 h)
  rw [withSum_right hx64] at R
  have M := Lib.hid (fun (i : Nat) (hi : i < (withSum x).length) A c w1 h => miss_any A c (withSum x) i (by omega) (by omega) (small_len h64) w1 h)
  have MV := Lib.hid (fun (i : Nat) (hi : i < (withSum x).length) => miss_of h64 (withSum_zero hx64) i hi)
  have HW : Hid (x ++ [paS x] = withSum x) := rfl
  obtain ⟨a, ha⟩ : ∃ a, withSum x = a := ⟨_, rfl⟩
  rw [ha] at R M MV HW hal
  have HXL := Lib.hid hxl
  have HAL := Lib.hid hal
  have ha21 : a.length ≤ 21 := by omega
  clear hL hs hA hg h20 h200 ha h64 hx64 hal hxl
  generalize paS x = V at S HW
  go_enter Try.func4, Try.ntmps4
  go_wp2_with fail
  refine G.out.mono ?_
  rintro e wg ⟨rfl, hw⟩
  subst hw
  go_wp2_with fail
  refine X.out.mono ?_
  rintro e w1 ⟨v, rfl, hown, hb⟩
  rw [← HXL.out] at hown
  obtain ⟨A1, c1, rfl, _, hst, hc1, hc2, hc3⟩ := own_strs hown
  have HN1 := Lib.hid hc3
  have HST := Lib.hid hst
  have HB1 := Lib.hid hb
  clear hb hst hown hc3
  go_wp2_with fail
  refine (S.out _ _ _ HST.out).mono ?_
  rintro e w2 ⟨rfl, hb⟩
  have HST2 := Lib.hid (HST.out.up hb)
  have HB2 := Lib.hid (Below.step HB1.out hb)
  clear hb HST HB1
  have HO0 := Lib.hid (World.ownsRow_made (base := wg.heap.size) (e := 9) (size := 1) w2 #[] 0 HB2.out.size (by simp) (by simp))
  have HB3 := Lib.hid (HB2.out.alloc HB2.out.size (.cells #[] 9))
  have HST3 := Lib.hid (HST2.out.up ((Below.refl w2.heap.size w2).alloc (Nat.le_refl _) (.cells #[] 9)))
  have tokA : True := trivial
  go_upto_region 8 with (first | (have _t := tokA; clear tokA; at_builtin; refine wpList_app rfl (.tmp 23) (.tmp 24) rfl wg.heap.size _ 0 [] rfl HO0.out _ _ _ x rfl rfl HST3.out HN1.out (by omega) HB3.out.size ?_; intro v3 w3 hown hg; rw [List.nil_append] at hown; have HO3 := Lib.hid hown; have HB4 := Lib.hid (HB3.out.grown hg HB3.out.size (fun q hq => (HO0.out.lt q hq).1)); clear hown hg HO0 HB3 HST3 HST2; have tokB : True := trivial) | (have _t := tokB; clear tokB; at_builtin; refine wpList_app rfl (.tmp 25) (.tmp 27) rfl wg.heap.size _ _ _ rfl (HO3.out.alloc (.cells #[.string ⟨V.toArray⟩] 9)) _ _ _ [V] rfl rfl (one_strs _ _) (fun h => by cases h) (by omega) (by rw [size_alloc]; have := HB4.out.size; omega) ?_; intro v4 w4 hown hg; rw [HW.out] at hown; have HO4 := Lib.hid hown; have HB5 := Lib.hid ((HB4.out.alloc HB4.out.size _).grown hg (by rw [size_alloc]; have := HB4.out.size; omega) (fun q hq => (HO3.out.lt q hq).1)); clear hown hg HO3 HB4))
  obtain ⟨A4, c4, rfl, _, hst, hc5, hc6, _⟩ := own_strs HO4.out
  have HST := Lib.hid hst
  clear hst HO4
  go_wp2_with fail
  refine (R.out _ _ _ HST.out).mono ?_
  rintro e w5 ⟨rfl, hb⟩
  have HST5 := Lib.hid (HST.out.up hb)
  have HB6 := Lib.hid (Below.step HB5.out hb)
  clear hb HST HB5
  go_wp2
  go_loopw [7] (fun i wr => ∃ k : Nat, k ≤ a.length ∧ i = .int .i64 k ∧ Below w5.heap.size w5 wr) (fun i _ => a.length - (intOf i).toNat)
  case atStart => exact ⟨0, by omega, rfl, Below.refl _ w5⟩
  case round =>
    obtain ⟨k, hk, rfl, hbel⟩ := hrel
    have HB := Lib.hid hbel
    by_cases hlt : k < a.length
    · have hlt' : (k : Int) < (a.length : Int) := by omega
      obtain ⟨b, o, rfl, hbl, hcell⟩ : ∃ b o, A4 = some ⟨b, o, none⟩ ∧ b < w5.heap.size ∧ ∀ j (hj : j < a.length), w5.cell? ⟨b, o + j, none⟩ = some (.string ⟨(a[j]).toArray⟩) := by
        rcases HST5.out with h | h
        · rw [h] at hlt; simp at hlt
        · exact h
      have hc := (hbel.cell (p := ⟨b, o + k, none⟩) hbl).trans (hcell k hlt)
      have HC := Lib.hid (hcell k hlt)
      have hMk := Lib.hid (M.out k hlt)
      rw [MV.out k hlt] at hMk
      generalize a[k] = s at hc HC hMk
      have HBL := Lib.hid hbl
      clear hcell hbel hbl
      go_wp2_with fail
      refine (hMk.out _ _ _ (HST5.out.up HB.out)).mono ?_
      rintro e w6 ⟨rfl, hb⟩
      have HB7 := Lib.hid (Below.step HB.out hb)
      have hc2 := (HB7.out.cell (p := ⟨b, o + k, none⟩) HBL.out).trans HC.out
      clear hb hc
      go_wp2
      go_roundw
      case rel => exact ⟨k + 1, by omega, by go_num, HB7.out⟩
      case measure => simp [intOf]; omega
    · have hlt' : (a.length : Int) ≤ (k : Int) := by omega
      clear hbel
      go_wp2_with fail
      refine (K.out _).mono ?_
      rintro e w6 ⟨rfl, hb⟩
      have HB7 := Lib.hid (Below.step HB6.out (Below.step HB.out hb))
      clear hb
      go_wp2
      go_ret
      exact ⟨rfl, HB7.out⟩
theorem back_walk (A : Option Addr) (c : Nat) (L : List (List UInt8)) (hL : L.length ≤ maxLen) (hs : ∀ s ∈ L, s.length ≤ maxLen) (w : World) (hA : StrsAt w w.heap.size A L) :
    Calls Try.prog 4 #[.slice A L.length c] w fun e w' => e = .returned (.bool true) ∧ Below w.heap.size w w' := by
  cases hg : grV L
  · exact back_main A c L hL hs w hA hg
  · exact back_great A c L hL hs w hA hg
end Go.Proofs.Ytlocjjaipahhoaa
