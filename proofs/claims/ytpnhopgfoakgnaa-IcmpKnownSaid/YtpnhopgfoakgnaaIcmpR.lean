/- What package icmp's Read computes. -/
import Derived.Test.YtpnhopgfoakgnaaIcmp
import Derived.Lib.LazyBuf
import Derived.Deep.MidRow
namespace Go.Proofs.Ytpnhopgfoakgnaa
set_option linter.unusedVariables false
open Go.RowKit
attribute [local go_sem ↓] Go.wp_at_zero Go.wp_at_succ

theorem rd4 (s : ByteArray) (a : Nat) (h : a + 4 ≤ s.size) : rdBig s (a : Int) 4 = (((((bat s a).toNat * 256 + (bat s (a + 1)).toNat) * 256 + (bat s (a + 2)).toNat) * 256 + (bat s (a + 3)).toNat : Nat) : Int) := by
  have h1 : rdOk s a 4 = true := by simp [rdOk]; omega
  rw [rdBig, if_pos h1, Int.toNat_natCast]
  have : pieceL s a (4 : Int).toNat = [bat s a, bat s (a + 1), bat s (a + 2), bat s (a + 3)] := by
    show pieceL s a 4 = _
    unfold pieceL
    rw [take_from s a 4 h]
    rfl
  rw [this]
  simp [bigv]

theorem rd4_in (s : ByteArray) (a : Nat) (h : a + 4 ≤ s.size) : 0 ≤ rdBig s (a : Int) 4 ∧ rdBig s (a : Int) 4 ≤ 4294967295 := by
  have h0 := (bat s a).toNat_lt
  have h1 := (bat s (a + 1)).toNat_lt
  have h2 := (bat s (a + 2)).toNat_lt
  have h3 := (bat s (a + 3)).toNat_lt
  rw [rd4 s a h]
  omega

abbrev ic0 : Value := .agg #[.int .i64 0, .int .i64 0, .int .u32 0, .string ⟨#[]⟩]
/-- the message that a text is -/
def icOf (s : ByteArray) : Value := icV (bat s 0).toNat (bat s 1).toNat (rdBig s 4 4) (s.extract 8 s.size)

theorem size_ic : (Try.prog.info? 24).map (·.size) = some 4 := by kernel_rfl

theorem icr_short (s : ByteArray) (w : World) (h : s.size < 8) :
    Calls Try.prog 18 #[.string s] w fun e w' => e = .returned (.tuple #[ic0, .int .i64 7]) ∧ Below w.heap.size w w' := by
  go_enter Try.func18, Try.ntmps18
  go_wp2
  exact bodyPost_ret (results_blk Try.results18 _ _ w.heap.size _ _ _ rfl (Blk.new w _ _ 0 0 (Or.inl (Nat.le_refl _))) Try.underlying24 rfl size_ic) rfl ⟨rfl, (Below.refl _ _).alloc (Nat.le_refl _) _⟩

theorem icr_long (s : ByteArray) (w : World) (h : 566 < s.size) (hs : s.size ≤ 9223372036854775807) :
    Calls Try.prog 18 #[.string s] w fun e w' => e = .returned (.tuple #[ic0, .int .i64 3]) ∧ Below w.heap.size w w' := by
  go_enter Try.func18, Try.ntmps18
  go_wp2
  exact bodyPost_ret (results_blk Try.results18 _ _ w.heap.size _ _ _ rfl (Blk.new w _ _ 0 0 (Or.inl (Nat.le_refl _))) Try.underlying24 rfl size_ic) rfl ⟨rfl, (Below.refl _ _).alloc (Nat.le_refl _) _⟩

theorem icr_sum (s : ByteArray) (w : World) (h : 8 ≤ s.size) (h2 : s.size ≤ 566) (hn : sumE s ≠ 0) :
    Calls Try.prog 18 #[.string s] w fun e w' => e = .returned (.tuple #[ic0, .int .i64 9]) ∧ Below w.heap.size w w' := by
  go_enter Try.func18, Try.ntmps18
  go_wp2_with fail
  refine (sum_any _ s (by omega)).mono ?_
  rintro e w1 ⟨rfl, rfl⟩
  go_wp2
  exact bodyPost_ret (results_blk Try.results18 _ _ w.heap.size _ _ _ rfl (Blk.new w _ _ 0 0 (Or.inl (Nat.le_refl _))) Try.underlying24 rfl size_ic) rfl ⟨rfl, (Below.refl _ _).alloc (Nat.le_refl _) _⟩

set_option maxRecDepth 100000 in
set_option maxHeartbeats 1000000 in
theorem icr_ok (s : ByteArray) (w : World) (h : 8 ≤ s.size) (h2 : s.size ≤ 566) (hn : sumE s = 0) :
    Calls Try.prog 18 #[.string s] w fun e w' => e = .returned (.tuple #[icOf s, .int .i64 0]) ∧ Below w.heap.size w w' := by
  have b0 : s[0]'(by omega) = bat s 0 := bat_get s 0 (by omega)
  have b1 : s[1]'(by omega) = bat s 1 := bat_get s 1 (by omega)
  have l0 := (bat s 0).toNat_lt
  have l1 := (bat s 1).toNat_lt
  obtain ⟨x, hx⟩ : ∃ x : Int, x = rdBig s 4 4 := ⟨_, rfl⟩
  have hxi := rd4_in s 4 (by omega)
  rw [show ((4 : Nat) : Int) = 4 from rfl, ← hx] at hxi
  obtain ⟨hxa, hxb⟩ := hxi
  have hu := IntWalk.u32_in x ⟨hxa, hxb⟩
  have HX := Lib.hid hx
  clear hx
  go_enter Try.func18, Try.ntmps18
  go_wp2_with fail
  refine (sum_any _ s (by omega)).mono ?_
  rintro e w1 ⟨rfl, rfl⟩
  rw [hn]
  go_wp2_with fail
  refine (readBig_any _ s 4 4 (by omega) (by omega) (by omega)).mono ?_
  rintro e w1 ⟨rfl, hb1⟩
  rw [← HX.out]
  have hB1 : Below w.heap.size w w1 := ((Below.refl _ _).alloc (Nat.le_refl _) _).trans (hb1.mono (by simp))
  have hR0 : Blk w1 w.heap.size 24 ic0.cells := ((Blk.new w _ _ 0 0 (Or.inl (Nat.le_refl _))).below hb1 (by simp))
  have c0 : w1.cell? ⟨w.heap.size, 0, none⟩ = some (.int .i64 0) := by rw [hR0.cell]; rfl
  have c1 : w1.cell? ⟨w.heap.size, 1, none⟩ = some (.int .i64 0) := by rw [hR0.cell]; rfl
  have c2 : w1.cell? ⟨w.heap.size, 2, none⟩ = some (.int .u32 0) := by rw [hR0.cell]; rfl
  have c3 : w1.cell? ⟨w.heap.size, 3, none⟩ = some (.string ⟨#[]⟩) := by rw [hR0.cell]; rfl
  have f0 := hR0.free 0 (by decide)
  have f1 := hR0.free 1 (by decide)
  have f2 := hR0.free 2 (by decide)
  have f3 := hR0.free 3 (by decide)
  have HK := Lib.hid ((((hR0.drew.set 0 (.int .i64 (bat s 0).toNat)).set 1 (.int .i64 (bat s 1).toNat)).set 2 (.int .u32 x)).set 3 (.string (s.extract 8 s.size)))
  have HR := Lib.hid hR0
  have HB := Lib.hid hB1
  clear hb1 hB1 hR0
  go_wp2
  go_region
  go_wp2
  refine bodyPost_ret (results_blk Try.results18 _ _ w.heap.size _ _ _ rfl HK.out Try.underlying24 rfl size_ic) rfl ⟨?_, (((HB.out.drew.setCell (Nat.le_refl _) _).setCell (Nat.le_refl _) _).setCell (Nat.le_refl _) _).setCell (Nat.le_refl _) _⟩
  rw [icOf, ← HX.out]
  rfl
end Go.Proofs.Ytpnhopgfoakgnaa
