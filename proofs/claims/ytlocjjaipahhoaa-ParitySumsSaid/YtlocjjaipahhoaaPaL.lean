/- The walk through the law ParitySums: it answers true. Condition: texts that a memory can hold. -/
import Derived.Test.YtlocjjaipahhoaaPaM
import Derived.Deep.QuietTactic
import Derived.BigQuiet
namespace Go.Proofs.Ytlocjjaipahhoaa
set_option linter.unusedVariables false
set_option linter.unusedSimpArgs false
set_option maxRecDepth 100000
open Go.RowKit
attribute [local go_sem ↓] Go.wp_at_zero Go.wp_at_succ

theorem refPa_nil (w : World) : Calls Try.prog 12 #[.slice none 0 0] w fun e w' => e = .returned (.tuple #[.string ⟨z64.toArray⟩, .bool true]) ∧ Below w.heap.size w w' :=
  refPa_any none 0 [] (by simp [maxLen]) (by simp) w (Or.inl rfl)

theorem sums_great (A : Option Addr) (c : Nat) (L : List (List UInt8)) (hL : L.length ≤ maxLen) (hs : ∀ s ∈ L, s.length ≤ maxLen) (w : World) (hA : StrsAt w w.heap.size A L) (hg : grV L = true) :
    Calls Try.prog 3 #[.slice A L.length c] w fun e w' => e = .returned (.bool true) ∧ Below w.heap.size w w' := by
  have G := Lib.hid (great_any A c L hL hs w hA)
  rw [hg] at G
  have K := Lib.hid wakes_any
  clear hL hs hA hg
  go_enter Try.func3, Try.ntmps3
  go_wp2_with fail
  refine G.out.mono ?_
  rintro e w1 ⟨rfl, rfl⟩
  go_wp2_with fail
  refine (K.out _).mono ?_
  rintro e w2 ⟨rfl, hb⟩
  have HB := Lib.hid hb
  clear hb
  go_wp2
  go_ret
  exact ⟨rfl, HB.out⟩

set_option maxHeartbeats 1000000 in
theorem sums_eq (A : Option Addr) (c : Nat) (L : List (List UInt8)) (V Z0 : List UInt8) (hL : L.length ≤ 20) (hs : ∀ s ∈ L, s.length ≤ maxLen) (w : World) (hA : StrsAt w w.heap.size A L)
    (G : Hid (Calls Try.prog 9 #[.slice A L.length c] w fun e w' => e = .returned (.bool false) ∧ w' = w))
    (S : Hid (∀ w1, StrsAt w1 w1.heap.size A L → Calls Try.prog 11 #[.slice A L.length c] w1 fun e w' => e = .returned (.tuple #[.string ⟨(Z0 : List UInt8).toArray⟩, .int .i64 0]) ∧ Below w1.heap.size w1 w'))
    (T : Hid (∀ w1, StrsAt w1 w1.heap.size A L → Calls Try.prog 12 #[.slice A L.length c] w1 fun e w' => e = .returned (.tuple #[.string ⟨(Z0 : List UInt8).toArray⟩, .bool true]) ∧ Below w1.heap.size w1 w'))
    (R : Hid (∀ w1, StrsAt w1 w1.heap.size A L → Calls Try.prog 15 #[.slice A L.length c] w1 fun e w' => e = .returned (.bool true) ∧ Below w1.heap.size w1 w'))
    (N : Hid (∀ w1, Calls Try.prog 12 #[.slice none 0 0] w1 fun e w' => e = .returned (.tuple #[.string ⟨Z0.toArray⟩, .bool true]) ∧ Below w1.heap.size w1 w'))
    (Z : Hid (∀ w1, Calls Try.prog 14 #[] w1 fun e w' => e = .returned (.string ⟨Z0.toArray⟩) ∧ Below w1.heap.size w1 w')) :
    Calls Try.prog 3 #[.slice A L.length c] w fun e w' => e = .returned (.bool true) ∧ Below w.heap.size w w' := by
  have K := Lib.hid wakes_any
  have HS := Lib.hid hs
  have HA := Lib.hid hA
  have hLm : L.length ≤ 9223372036854775807 := by omega
  have HSB : Hid (∀ w', Below w.heap.size w w' → StrsAt w' w'.heap.size A L) := Lib.hid (fun w' hb => by
    rcases hA.below hb with h | ⟨b, o, h1, h2, h3⟩
    · exact Or.inl h
    · exact Or.inr ⟨b, o, h1, Nat.lt_of_lt_of_le h2 hb.size, h3⟩)
  clear hs hA
  go_enter Try.func3, Try.ntmps3
  go_wp2_with fail
  refine G.out.mono ?_
  rintro e wg ⟨rfl, hwg⟩
  subst hwg
  go_wp2_with fail
  refine (S.out _ HA.out).mono ?_
  rintro e w1 ⟨rfl, hb⟩
  have HB1 := Lib.hid hb
  clear hb
  go_wp2_with fail
  refine (T.out _ (HSB.out _ HB1.out)).mono ?_
  rintro e w2 ⟨rfl, hb⟩
  have HB2 := Lib.hid (Below.step HB1.out hb)
  clear hb HB1
  go_wp2_with fail
  refine (N.out _).mono ?_
  rintro e w3 ⟨rfl, hb⟩
  have HB3 := Lib.hid (Below.step HB2.out hb)
  clear hb HB2
  go_wp2
  go_loopw [9] (fun i wr => ∃ k : Nat, k ≤ L.length ∧ i = .int .i64 k ∧ Below wg.heap.size wg wr) (fun i _ => L.length - (intOf i).toNat)
  case atStart => exact ⟨0, by omega, rfl, HB3.out⟩
  case round =>
    obtain ⟨k, hk, rfl, hbel⟩ := hrel
    have HB := Lib.hid hbel
    by_cases hlt : k < L.length
    · have hlt' : (k : Int) < (L.length : Int) := by omega
      obtain ⟨b, o, rfl, hbl, hcell⟩ : ∃ b o, A = some ⟨b, o, none⟩ ∧ b < wg.heap.size ∧ ∀ j (hj : j < L.length), wr.cell? ⟨b, o + j, none⟩ = some (.string ⟨(L[j]).toArray⟩) := by
        rcases HA.out.below hbel with h | h
        · rw [h] at hlt; simp at hlt
        · exact h
      have hc := hcell k hlt
      have hsl : (L[k]).length ≤ maxLen := HS.out _ (List.getElem_mem hlt)
      obtain ⟨s, hsd⟩ : ∃ s, s = L[k] := ⟨_, rfl⟩
      rw [← hsd] at hc hsl
      have hse : ((s.length : Int) == 64) = (s.length == 64) := by rw [Bool.eq_iff_iff, beq_iff_eq, beq_iff_eq]; omega
      have I := Lib.hid (fun w => pa_is s w)
      rw [← hse] at I
      clear hsd hcell hbel hse
      go_wp2
      go_quiet ((go_at_call 13; exact Calls.quiet_of_same (I.out _)))
      go_wp2
      go_roundw
      case rel => exact ⟨k + 1, by omega, by go_num, Below.drewN HB.out _⟩
      case measure => simp [intOf]; omega
    · have hlt' : (L.length : Int) ≤ (k : Int) := by omega
      clear hbel
      go_wp2_with fail
      refine (Z.out _).mono ?_
      rintro e w4 ⟨rfl, hb⟩
      have HB4 := Lib.hid (Below.step HB.out hb)
      clear hb HB
      go_wp2_with fail
      refine (R.out _ (HSB.out _ HB4.out)).mono ?_
      rintro e w5 ⟨rfl, hb⟩
      have HB5 := Lib.hid (Below.step HB4.out hb)
      clear hb HB4
      go_wp2_with fail
      refine (K.out _).mono ?_
      rintro e w6 ⟨rfl, hb⟩
      have HB6 := Lib.hid (Below.step HB5.out hb)
      clear hb HB5
      go_wp2
      go_ret
      exact ⟨rfl, HB6.out⟩

set_option maxHeartbeats 1000000 in
theorem sums_ne (A : Option Addr) (c : Nat) (L : List (List UInt8)) (V Z0 : List UInt8) (hz : ¬ V = Z0) (hz2 : (V == Z0) = false) (hL : L.length ≤ 20) (hs : ∀ s ∈ L, s.length ≤ maxLen) (w : World) (hA : StrsAt w w.heap.size A L)
    (G : Hid (Calls Try.prog 9 #[.slice A L.length c] w fun e w' => e = .returned (.bool false) ∧ w' = w))
    (S : Hid (∀ w1, StrsAt w1 w1.heap.size A L → Calls Try.prog 11 #[.slice A L.length c] w1 fun e w' => e = .returned (.tuple #[.string ⟨(V : List UInt8).toArray⟩, .int .i64 0]) ∧ Below w1.heap.size w1 w'))
    (T : Hid (∀ w1, StrsAt w1 w1.heap.size A L → Calls Try.prog 12 #[.slice A L.length c] w1 fun e w' => e = .returned (.tuple #[.string ⟨(V : List UInt8).toArray⟩, .bool true]) ∧ Below w1.heap.size w1 w'))
    (R : Hid (∀ w1, StrsAt w1 w1.heap.size A L → Calls Try.prog 15 #[.slice A L.length c] w1 fun e w' => e = .returned (.bool false) ∧ Below w1.heap.size w1 w'))
    (N : Hid (∀ w1, Calls Try.prog 12 #[.slice none 0 0] w1 fun e w' => e = .returned (.tuple #[.string ⟨Z0.toArray⟩, .bool true]) ∧ Below w1.heap.size w1 w'))
    (Z : Hid (∀ w1, Calls Try.prog 14 #[] w1 fun e w' => e = .returned (.string ⟨Z0.toArray⟩) ∧ Below w1.heap.size w1 w')) :
    Calls Try.prog 3 #[.slice A L.length c] w fun e w' => e = .returned (.bool true) ∧ Below w.heap.size w w' := by
  have K := Lib.hid wakes_any
  have HS := Lib.hid hs
  have HA := Lib.hid hA
  have hLm : L.length ≤ 9223372036854775807 := by omega
  have HSB : Hid (∀ w', Below w.heap.size w w' → StrsAt w' w'.heap.size A L) := Lib.hid (fun w' hb => by
    rcases hA.below hb with h | ⟨b, o, h1, h2, h3⟩
    · exact Or.inl h
    · exact Or.inr ⟨b, o, h1, Nat.lt_of_lt_of_le h2 hb.size, h3⟩)
  clear hs hA
  go_enter Try.func3, Try.ntmps3
  go_wp2_with fail
  refine G.out.mono ?_
  rintro e wg ⟨rfl, hwg⟩
  subst hwg
  go_wp2_with fail
  refine (S.out _ HA.out).mono ?_
  rintro e w1 ⟨rfl, hb⟩
  have HB1 := Lib.hid hb
  clear hb
  go_wp2_with fail
  refine (T.out _ (HSB.out _ HB1.out)).mono ?_
  rintro e w2 ⟨rfl, hb⟩
  have HB2 := Lib.hid (Below.step HB1.out hb)
  clear hb HB1
  go_wp2_with fail
  refine (N.out _).mono ?_
  rintro e w3 ⟨rfl, hb⟩
  have HB3 := Lib.hid (Below.step HB2.out hb)
  clear hb HB2
  go_wp2
  go_loopw [9] (fun i wr => ∃ k : Nat, k ≤ L.length ∧ i = .int .i64 k ∧ Below wg.heap.size wg wr) (fun i _ => L.length - (intOf i).toNat)
  case atStart => exact ⟨0, by omega, rfl, HB3.out⟩
  case round =>
    obtain ⟨k, hk, rfl, hbel⟩ := hrel
    have HB := Lib.hid hbel
    by_cases hlt : k < L.length
    · have hlt' : (k : Int) < (L.length : Int) := by omega
      obtain ⟨b, o, rfl, hbl, hcell⟩ : ∃ b o, A = some ⟨b, o, none⟩ ∧ b < wg.heap.size ∧ ∀ j (hj : j < L.length), wr.cell? ⟨b, o + j, none⟩ = some (.string ⟨(L[j]).toArray⟩) := by
        rcases HA.out.below hbel with h | h
        · rw [h] at hlt; simp at hlt
        · exact h
      have hc := hcell k hlt
      have hsl : (L[k]).length ≤ maxLen := HS.out _ (List.getElem_mem hlt)
      obtain ⟨s, hsd⟩ : ∃ s, s = L[k] := ⟨_, rfl⟩
      rw [← hsd] at hc hsl
      have hse : ((s.length : Int) == 64) = (s.length == 64) := by rw [Bool.eq_iff_iff, beq_iff_eq, beq_iff_eq]; omega
      have I := Lib.hid (fun w => pa_is s w)
      rw [← hse] at I
      clear hsd hcell hbel hse
      go_wp2
      go_quiet ((go_at_call 13; exact Calls.quiet_of_same (I.out _)))
      go_wp2
      go_roundw
      case rel => exact ⟨k + 1, by omega, by go_num, Below.drewN HB.out _⟩
      case measure => simp [intOf]; omega
    · have hlt' : (L.length : Int) ≤ (k : Int) := by omega
      clear hbel
      go_wp2_with fail
      refine (Z.out _).mono ?_
      rintro e w4 ⟨rfl, hb⟩
      have HB4 := Lib.hid (Below.step HB.out hb)
      clear hb HB
      go_wp2_with fail
      refine (R.out _ (HSB.out _ HB4.out)).mono ?_
      rintro e w5 ⟨rfl, hb⟩
      have HB5 := Lib.hid (Below.step HB4.out hb)
      clear hb HB4
      go_wp2_with fail
      refine (K.out _).mono ?_
      rintro e w6 ⟨rfl, hb⟩
      have HB6 := Lib.hid (Below.step HB5.out hb)
      clear hb HB5
      go_wp2
      go_ret
      exact ⟨rfl, HB6.out⟩

set_option maxHeartbeats 1000000 in
theorem sums_no (A : Option Addr) (c : Nat) (L : List (List UInt8)) (V Z0 : List UInt8) (hL : L.length ≤ 20) (hs : ∀ s ∈ L, s.length ≤ maxLen) (w : World) (hA : StrsAt w w.heap.size A L)
    (G : Hid (Calls Try.prog 9 #[.slice A L.length c] w fun e w' => e = .returned (.bool false) ∧ w' = w))
    (S : Hid (∀ w1, StrsAt w1 w1.heap.size A L → Calls Try.prog 11 #[.slice A L.length c] w1 fun e w' => e = .returned (.tuple #[.string ⟨([] : List UInt8).toArray⟩, .int .i64 1]) ∧ Below w1.heap.size w1 w'))
    (T : Hid (∀ w1, StrsAt w1 w1.heap.size A L → Calls Try.prog 12 #[.slice A L.length c] w1 fun e w' => e = .returned (.tuple #[.string ⟨([] : List UInt8).toArray⟩, .bool false]) ∧ Below w1.heap.size w1 w'))
    (R : Hid (∀ w1, StrsAt w1 w1.heap.size A L → Calls Try.prog 15 #[.slice A L.length c] w1 fun e w' => e = .returned (.bool false) ∧ Below w1.heap.size w1 w'))
    (N : Hid (∀ w1, Calls Try.prog 12 #[.slice none 0 0] w1 fun e w' => e = .returned (.tuple #[.string ⟨Z0.toArray⟩, .bool true]) ∧ Below w1.heap.size w1 w'))
    (Z : Hid (∀ w1, Calls Try.prog 14 #[] w1 fun e w' => e = .returned (.string ⟨Z0.toArray⟩) ∧ Below w1.heap.size w1 w')) :
    Calls Try.prog 3 #[.slice A L.length c] w fun e w' => e = .returned (.bool true) ∧ Below w.heap.size w w' := by
  have K := Lib.hid wakes_any
  have HS := Lib.hid hs
  have HA := Lib.hid hA
  have hLm : L.length ≤ 9223372036854775807 := by omega
  have HSB : Hid (∀ w', Below w.heap.size w w' → StrsAt w' w'.heap.size A L) := Lib.hid (fun w' hb => by
    rcases hA.below hb with h | ⟨b, o, h1, h2, h3⟩
    · exact Or.inl h
    · exact Or.inr ⟨b, o, h1, Nat.lt_of_lt_of_le h2 hb.size, h3⟩)
  clear hs hA
  go_enter Try.func3, Try.ntmps3
  go_wp2_with fail
  refine G.out.mono ?_
  rintro e wg ⟨rfl, hwg⟩
  subst hwg
  go_wp2_with fail
  refine (S.out _ HA.out).mono ?_
  rintro e w1 ⟨rfl, hb⟩
  have HB1 := Lib.hid hb
  clear hb
  go_wp2_with fail
  refine (T.out _ (HSB.out _ HB1.out)).mono ?_
  rintro e w2 ⟨rfl, hb⟩
  have HB2 := Lib.hid (Below.step HB1.out hb)
  clear hb HB1
  go_wp2_with fail
  refine (N.out _).mono ?_
  rintro e w3 ⟨rfl, hb⟩
  have HB3 := Lib.hid (Below.step HB2.out hb)
  clear hb HB2
  go_wp2
  go_loopw [9] (fun i wr => ∃ k : Nat, k ≤ L.length ∧ i = .int .i64 k ∧ Below wg.heap.size wg wr) (fun i _ => L.length - (intOf i).toNat)
  case atStart => exact ⟨0, by omega, rfl, HB3.out⟩
  case round =>
    obtain ⟨k, hk, rfl, hbel⟩ := hrel
    have HB := Lib.hid hbel
    by_cases hlt : k < L.length
    · have hlt' : (k : Int) < (L.length : Int) := by omega
      obtain ⟨b, o, rfl, hbl, hcell⟩ : ∃ b o, A = some ⟨b, o, none⟩ ∧ b < wg.heap.size ∧ ∀ j (hj : j < L.length), wr.cell? ⟨b, o + j, none⟩ = some (.string ⟨(L[j]).toArray⟩) := by
        rcases HA.out.below hbel with h | h
        · rw [h] at hlt; simp at hlt
        · exact h
      have hc := hcell k hlt
      have hsl : (L[k]).length ≤ maxLen := HS.out _ (List.getElem_mem hlt)
      obtain ⟨s, hsd⟩ : ∃ s, s = L[k] := ⟨_, rfl⟩
      rw [← hsd] at hc hsl
      have hse : ((s.length : Int) == 64) = (s.length == 64) := by rw [Bool.eq_iff_iff, beq_iff_eq, beq_iff_eq]; omega
      have I := Lib.hid (fun w => pa_is s w)
      rw [← hse] at I
      clear hsd hcell hbel hse
      go_wp2
      go_quiet ((go_at_call 13; exact Calls.quiet_of_same (I.out _)))
      go_wp2
      go_roundw
      case rel => exact ⟨k + 1, by omega, by go_num, Below.drewN HB.out _⟩
      case measure => simp [intOf]; omega
    · have hlt' : (L.length : Int) ≤ (k : Int) := by omega
      clear hbel
      go_wp2_with fail
      refine (Z.out _).mono ?_
      rintro e w4 ⟨rfl, hb⟩
      have HB4 := Lib.hid (Below.step HB.out hb)
      clear hb HB
      go_wp2_with fail
      refine (R.out _ (HSB.out _ HB4.out)).mono ?_
      rintro e w5 ⟨rfl, hb⟩
      have HB5 := Lib.hid (Below.step HB4.out hb)
      clear hb HB4
      go_wp2_with fail
      refine (K.out _).mono ?_
      rintro e w6 ⟨rfl, hb⟩
      have HB6 := Lib.hid (Below.step HB5.out hb)
      clear hb HB5
      go_wp2
      go_ret
      exact ⟨rfl, HB6.out⟩

theorem sums_walk (A : Option Addr) (c : Nat) (L : List (List UInt8)) (hL : L.length ≤ maxLen) (hs : ∀ s ∈ L, s.length ≤ maxLen) (w : World) (hA : StrsAt w w.heap.size A L) :
    Calls Try.prog 3 #[.slice A L.length c] w fun e w' => e = .returned (.bool true) ∧ Below w.heap.size w w' := by
  cases hg : grV L
  · have h20 := (grV_no hg).1
    have G := Lib.hid (great_any A c L hL hs w hA)
    rw [hg] at G
    have S := Lib.hid (fun w1 h => paSum_any A c L hL hs w1 h)
    have T := Lib.hid (fun w1 h => refPa_any A c L hL hs w1 h)
    have R := Lib.hid (fun w1 h => right_any A c L hL hs w1 h)
    cases hok : paOk L
    · have h1 : paV L = ([], 1) := by rw [paV, hok]; rfl
      have h2 : riV L = false := by rw [riV, hok]; rfl
      rw [h1] at S
      rw [h1, hok] at T
      rw [h2] at R
      exact sums_no A c L [] z64 h20 hs w hA G S T R (Lib.hid refPa_nil) (Lib.hid zero_any)
    · have h1 : paV L = (paS L, 0) := by rw [paV, hok]; rfl
      rw [h1] at S
      rw [h1, hok] at T
      by_cases hz : paS L = z64
      · have h2 : riV L = true := by rw [riV, hok, hz]; rfl
        rw [hz] at S T
        rw [h2] at R
        exact sums_eq A c L [] z64 h20 hs w hA G S T R (Lib.hid refPa_nil) (Lib.hid zero_any)
      · have hz2 : (paS L == z64) = false := beq_eq_false_iff_ne.2 hz
        have h2 : riV L = false := by rw [riV, hok, hz2]; rfl
        rw [h2] at R
        exact sums_ne A c L (paS L) z64 hz hz2 h20 hs w hA G S T R (Lib.hid refPa_nil) (Lib.hid zero_any)
  · exact sums_great A c L hL hs w hA hg
end Go.Proofs.Ytlocjjaipahhoaa
