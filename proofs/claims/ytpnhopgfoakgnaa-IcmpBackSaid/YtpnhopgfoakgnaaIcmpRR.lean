/- What the reference's Read of a message computes: what package icmp's does. -/
import Derived.Test.YtpnhopgfoakgnaaIcmpA
import Derived.Test.YtpnhopgfoakgnaaSumR
namespace Go.Proofs.Ytpnhopgfoakgnaa
set_option linter.unusedVariables false
open Go.RowKit
attribute [local go_sem ↓] Go.wp_at_zero Go.wp_at_succ

theorem refr_short (s : ByteArray) (w : World) (h : s.size < 8) :
    Calls Try.prog 19 #[.string s] w fun e w' => e = .returned (.tuple #[ic0, .int .i64 7]) ∧ Below w.heap.size w w' := by
  go_enter Try.func19, Try.ntmps19
  go_wp2
  exact bodyPost_ret (results_blk Try.results19 _ _ w.heap.size _ _ _ rfl (Blk.new w _ _ 0 0 (Or.inl (Nat.le_refl _))) Try.underlying24 rfl size_ic) rfl ⟨rfl, (Below.refl _ _).alloc (Nat.le_refl _) _⟩

theorem refr_long (s : ByteArray) (w : World) (h : 566 < s.size) (hs : s.size ≤ 9223372036854775807) :
    Calls Try.prog 19 #[.string s] w fun e w' => e = .returned (.tuple #[ic0, .int .i64 3]) ∧ Below w.heap.size w w' := by
  go_enter Try.func19, Try.ntmps19
  go_wp2
  exact bodyPost_ret (results_blk Try.results19 _ _ w.heap.size _ _ _ rfl (Blk.new w _ _ 0 0 (Or.inl (Nat.le_refl _))) Try.underlying24 rfl size_ic) rfl ⟨rfl, (Below.refl _ _).alloc (Nat.le_refl _) _⟩

theorem refr_sum (l : List UInt8) (w : World) (h : 8 ≤ l.length) (h2 : l.length ≤ 566) (hn : sumE ⟨l.toArray⟩ ≠ 0) :
    Calls Try.prog 19 #[.string ⟨l.toArray⟩] w fun e w' => e = .returned (.tuple #[ic0, .int .i64 9]) ∧ Below w.heap.size w w' := by
  have h1 : ¬ (l.length : Int) < 8 := by omega
  have h3 : ¬ 566 < (l.length : Int) := by omega
  go_enter Try.func19, Try.ntmps19
  go_wp2_with fail
  refine (refSum_any _ l (by omega)).mono ?_
  rintro e w1 ⟨rfl, hb1⟩
  have hK := (Blk.new w 24 ic0.cells 0 0 (Or.inl (Nat.le_refl _))).step hb1
  have HB := Lib.hid (Below.step ((Below.refl _ w).alloc (Nat.le_refl _) (.cells ic0.cells 24)) hb1)
  have c0 : w1.cell? ⟨w.heap.size, 0, none⟩ = some (.int .i64 0) := by rw [hK.cell]; rfl
  have c1 : w1.cell? ⟨w.heap.size, 1, none⟩ = some (.int .i64 0) := by rw [hK.cell]; rfl
  have c2 : w1.cell? ⟨w.heap.size, 2, none⟩ = some (.int .u32 0) := by rw [hK.cell]; rfl
  have c3 : w1.cell? ⟨w.heap.size, 3, none⟩ = some (.string ⟨#[]⟩) := by rw [hK.cell]; rfl
  have f0 := hK.free 0 (by decide)
  have f1 := hK.free 1 (by decide)
  have f2 := hK.free 2 (by decide)
  have f3 := hK.free 3 (by decide)
  have HK := Lib.hid ((((hK.set 0 (.int .i64 0)).set 1 (.int .i64 0)).set 2 (.int .u32 0)).set 3 (.string ⟨#[]⟩))
  clear hK hb1
  go_wp2
  exact bodyPost_ret (results_blk Try.results19 _ _ w.heap.size _ _ _ rfl HK.out Try.underlying24 rfl size_ic) rfl ⟨rfl, (((HB.out.setCell (Nat.le_refl _) _).setCell (Nat.le_refl _) _).setCell (Nat.le_refl _) _).setCell (Nat.le_refl _) _⟩

set_option maxRecDepth 100000 in
set_option maxHeartbeats 1000000 in
theorem refr_ok (l : List UInt8) (w : World) (h : 8 ≤ l.length) (h2 : l.length ≤ 566) (hn : sumE ⟨l.toArray⟩ = 0) :
    Calls Try.prog 19 #[.string ⟨l.toArray⟩] w fun e w' => e = .returned (.tuple #[icOf ⟨l.toArray⟩, .int .i64 0]) ∧ Below w.heap.size w w' := by
  obtain ⟨s, hsd⟩ : ∃ s : ByteArray, s = ⟨l.toArray⟩ := ⟨_, rfl⟩
  have hsz : s.size = l.length := by rw [hsd]; rfl
  have hS := fun w : World => refSum_any w l (by omega)
  rw [← hsd] at hn hS ⊢
  rw [hn] at hS
  have HS := Lib.hid hS
  have hs8 : 8 ≤ s.size := by omega
  have hs9 : s.size ≤ 566 := by omega
  clear hS hsd h h2 hsz
  have b0 : s[0]'(by omega) = bat s 0 := bat_get s 0 (by omega)
  have b1 : s[1]'(by omega) = bat s 1 := bat_get s 1 (by omega)
  have b4 : s[4]'(by omega) = bat s 4 := bat_get s 4 (by omega)
  have b5 : s[5]'(by omega) = bat s 5 := bat_get s 5 (by omega)
  have b6 : s[6]'(by omega) = bat s 6 := bat_get s 6 (by omega)
  have b7 : s[7]'(by omega) = bat s 7 := bat_get s 7 (by omega)
  have l0 := (bat s 0).toNat_lt
  have l1 := (bat s 1).toNat_lt
  have l4 := (bat s 4).toNat_lt
  have l5 := (bat s 5).toNat_lt
  have l6 := (bat s 6).toNat_lt
  have l7 := (bat s 7).toNat_lt
  have hrd := rd4 s 4 (by omega)
  rw [show ((4 : Nat) : Int) = 4 from rfl, show 4 + 1 = 5 from rfl, show 4 + 2 = 6 from rfl, show 4 + 3 = 7 from rfl] at hrd
  have HR := Lib.hid hrd
  clear hrd
  go_enter Try.func19, Try.ntmps19
  go_wp2_with fail
  refine (HS.out _).mono ?_
  rintro e w1 ⟨rfl, hb1⟩
  have hB1 : Below w.heap.size w w1 := ((Below.refl _ _).alloc (Nat.le_refl _) _).trans (hb1.mono (by simp))
  have hR0 : Blk w1 w.heap.size 24 ic0.cells := ((Blk.new w _ _ 0 0 (Or.inl (Nat.le_refl _))).below hb1 (by simp))
  have c0 : w1.cell? ⟨w.heap.size, 0, none⟩ = some (.int .i64 0) := by rw [hR0.cell]; rfl
  have c1 : w1.cell? ⟨w.heap.size, 1, none⟩ = some (.int .i64 0) := by rw [hR0.cell]; rfl
  have c2 : w1.cell? ⟨w.heap.size, 2, none⟩ = some (.int .u32 0) := by rw [hR0.cell]; rfl
  have c3 : w1.cell? ⟨w.heap.size, 3, none⟩ = some (.string ⟨#[]⟩) := by rw [hR0.cell]; rfl
  have f0 := hR0.free 0 (by decide)
  have f1 := hR0.free 1 (by decide)
  have f2 := hR0.free 2 (by decide)
  have f3 := hR0.free 3 (by decide)
  have HK := Lib.hid hR0
  have HB := Lib.hid hB1
  clear hb1 hB1 hR0
  go_wp2
  go_quiet (fail)
  go_wp2
  go_region
  go_wp2
  have hx : rdBig s 4 4 = (bat s 4).toNat * 16777216 + (bat s 5).toNat * 65536 + (bat s 6).toNat * 256 + (bat s 7).toNat := by rw [HR.out]; omega
  rw [← hx]
  have hK := (((((HK.out.drewN (nq + 1)).set 0 (.int .i64 (bat s 0).toNat)).set 1 (.int .i64 (bat s 1).toNat)).set 2 (.int .u32 (rdBig s 4 4))).set 3 (.string (s.extract 8 s.size)))
  exact bodyPost_ret (results_blk Try.results19 _ _ w.heap.size _ _ _ rfl hK Try.underlying24 rfl size_ic) rfl ⟨rfl, ((((Below.drewN HB.out (nq + 1)).setCell (Nat.le_refl _) _).setCell (Nat.le_refl _) _).setCell (Nat.le_refl _) _).setCell (Nat.le_refl _) _⟩

theorem refr_any (l : List UInt8) (w : World) (hs : l.length ≤ 9223372036854775807) :
    Calls Try.prog 19 #[.string ⟨l.toArray⟩] w fun e w' => e = .returned (.tuple #[(rdIc ⟨l.toArray⟩).1, .int .i64 (rdIc ⟨l.toArray⟩).2]) ∧ Below w.heap.size w w' := by
  have hz : (⟨l.toArray⟩ : ByteArray).size = l.length := rfl
  unfold rdIc
  rw [hz]
  by_cases h1 : l.length < 8
  · rw [if_pos h1]; exact refr_short _ w h1
  · rw [if_neg h1]
    by_cases h2 : 566 < l.length
    · rw [if_pos h2]; exact refr_long _ w h2 hs
    · rw [if_neg h2]
      by_cases h3 : sumE ⟨l.toArray⟩ = 0
      · rw [if_neg (by simpa using h3)]; exact refr_ok l w (by omega) (by omega) h3
      · rw [if_pos h3]; exact refr_sum l w (by omega) (by omega) h3
end Go.Proofs.Ytpnhopgfoakgnaa
