/- What package icmp's Bytes computes. -/
import Derived.Test.YtpnhopgfoakgnaaSum
import Derived.Deep.RegionHeld3
import Derived.Deep.DeepCutAuto
import Derived.Deep.DrawnRows
namespace Go.Proofs.Ytpnhopgfoakgnaa
set_option linter.unusedVariables false
open Go.RowKit
attribute [local go_sem ↓] Go.wp_at_zero Go.wp_at_succ

/-- a message's value -/
abbrev icV (k c r : Int) (d : ByteArray) : Value := .agg #[.int .i64 k, .int .i64 c, .int .u32 r, .string d]

/-- a message's bytes, or why it has none -/
def icAhead (k c : Int) : List UInt8 := [UInt8.ofNat k.toNat, UInt8.ofNat c.toNat]
def icBehind (r : Int) (l : List UInt8) : List UInt8 := (litN r 4).reverse ++ l
def icBytes (k c r : Int) (l : List UInt8) : List UInt8 × Int :=
  if k < 0 ∨ 255 < k ∨ c < 0 ∨ 255 < c then ([], 1) else if 558 < l.length then ([], 3)
  else (icAhead k c ++ (litN (sumE ⟨(icAhead k c ++ icBehind r l).toArray⟩) 2).reverse ++ icBehind r l, 0)

theorem ic_arg (k c r : Int) (d : ByteArray) (w : World) (hk : -9223372036854775808 ≤ k ∧ k ≤ 9223372036854775807) (hc : -9223372036854775808 ≤ c ∧ c ≤ 9223372036854775807)
    (h : k < 0 ∨ 255 < k ∨ c < 0 ∨ 255 < c) :
    Calls Try.prog 16 #[icV k c r d] w fun e w' => e = .returned (.tuple #[.string ⟨([] : List UInt8).toArray⟩, .int .i64 1]) ∧ Below w.heap.size w w' := by
  obtain ⟨hka, hkb⟩ := hk
  obtain ⟨hca, hcb⟩ := hc
  by_cases h1 : k < 0
  · go_enter Try.func16, Try.ntmps16
    go_wp2
    go_ret2
    exact ⟨rfl, (Below.refl _ _).alloc (Nat.le_refl _) _⟩
  by_cases h2 : 255 < k
  · go_enter Try.func16, Try.ntmps16
    go_wp2
    go_ret2
    exact ⟨rfl, (Below.refl _ _).alloc (Nat.le_refl _) _⟩
  by_cases h3 : c < 0
  · go_enter Try.func16, Try.ntmps16
    go_wp2
    go_ret2
    exact ⟨rfl, (Below.refl _ _).alloc (Nat.le_refl _) _⟩
  · have h4 : 255 < c := by omega
    go_enter Try.func16, Try.ntmps16
    go_wp2
    go_ret2
    exact ⟨rfl, (Below.refl _ _).alloc (Nat.le_refl _) _⟩

theorem ic_long (k c : Nat) (r : Int) (d : ByteArray) (w : World) (hk : k < 256) (hc : c < 256) (hd : d.size ≤ 9223372036854775807) (h : 558 < d.size) :
    Calls Try.prog 16 #[icV k c r d] w fun e w' => e = .returned (.tuple #[.string ⟨([] : List UInt8).toArray⟩, .int .i64 3]) ∧ Below w.heap.size w w' := by
  have h1 : ¬ (k : Int) < 0 := by omega
  have h2 : ¬ (c : Int) < 0 := by omega
  go_enter Try.func16, Try.ntmps16
  go_wp2
  go_ret2
  exact ⟨rfl, (Below.refl _ _).alloc (Nat.le_refl _) _⟩

theorem byte_int (k : Nat) (h : k < 256) : (k : Int) = ((UInt8.ofNat k).toNat : Int) := by rw [UInt8.toNat_ofNat']; omega

theorem ic_cells {w : World} {b : Nat} {e : TypeId} {k c r : Int} {d : ByteArray} (h : Blk w b e (icV k c r d).cells) :
    w.cell? ⟨b, 2, none⟩ = some (.int .u32 r) ∧ w.cell? ⟨b, 3, none⟩ = some (.string d) := by
  refine ⟨?_, ?_⟩ <;> (rw [h.cell]; rfl)

set_option maxRecDepth 100000 in
set_option maxHeartbeats 1000000 in
theorem ic_ok (k c : Nat) (r : Int) (l : List UInt8) (w : World) (hk : k < 256) (hc : c < 256) (hr : 0 ≤ r ∧ r ≤ 4294967295) (h : l.length ≤ 558) :
    Calls Try.prog 16 #[icV k c r ⟨l.toArray⟩] w fun e w' => e = .returned (.tuple #[.string ⟨(icAhead k c ++ (litN (sumE ⟨(icAhead k c ++ icBehind r l).toArray⟩) 2).reverse ++ icBehind r l).toArray⟩, .int .i64 0]) ∧ Below w.heap.size w w' := by
  have hlen := litN_len r 4
  have h1 : ¬ (k : Int) < 0 := by omega
  have h2 : ¬ (c : Int) < 0 := by omega
  obtain ⟨hra, hrb⟩ := hr
  go_enter Try.func16, Try.ntmps16
  have hK : Blk (w.alloc (.cells (icV k c r ⟨l.toArray⟩).cells 24)) w.heap.size 24 (icV k c r ⟨l.toArray⟩).cells := Blk.new _ _ _ _ _ (Or.inl (Nat.le_refl _))
  have hB : Below w.heap.size w (w.alloc (.cells (icV k c r ⟨l.toArray⟩).cells 24)) := (Below.refl _ _).alloc (Nat.le_refl _) _
  have hK1 := hK.alloc (.cells #[.int .u8 (k : Int), .int .u8 (c : Int)] 5)
  have hB1 := hB.alloc (by simp) (.cells #[.int .u8 (k : Int), .int .u8 (c : Int)] 5)
  have htwo := run_two Try.prog (w.alloc (.cells (icV k c r ⟨l.toArray⟩).cells 24)) 84 9 5 (UInt8.ofNat k) (UInt8.ofNat c) (k : Int) (c : Int) (byte_int k hk) (byte_int c hc) Try.underlying84 Try.underlying5 Try.underlying9
  simp only [Value.cells, size_alloc] at hK hB hK1 hB1 htwo
  have h3 : ¬ 255 < (k : Int) := by omega
  have h4 : ¬ 255 < (c : Int) := by omega
  have h5 : ¬ 558 < (l.length : Int) := by omega
  have HK := Lib.hid hK1
  have HB := Lib.hid hB1
  clear hK1 hB1 hK hB
  go_wp2
  clear htwo
  generalize World.alloc (World.alloc _ _) _ = W at HK HB ⊢
  have hlt := HK.out.lt
  have hu := IntWalk.u64_in r ⟨hra, by omega⟩
  have hu2 : Hid (0 ≤ r ∧ r ≤ 18446744073709551615) := ⟨hra, by omega⟩
  have hs1 : ¬ 9223372036854775807 < (litN r 4).length + l.length := by omega
  go_region_held3 (fun w' => w'.cell? ⟨w.heap.size, 2, none⟩ = some (.int .u32 r) ∧ w'.cell? ⟨w.heap.size, 3, none⟩ = some (.string ⟨l.toArray⟩))
    (first | exact ic_cells HK.out | exact ic_cells (Blk.drew HK.out) | exact ic_cells (Blk.below (Blk.drew HK.out) hb1.out hlt))
    ((go_at_call 41; refine (big_any _ r 4 hu2.out).mono ?_; rintro e w1 ⟨rfl, hb0⟩; have hb1 := Lib.hid hb0; clear hb0))
  rw [str_append]
  have hn2 : (litN r 4 ).reverse.length + l.length ≤ 566 := by rw [List.length_reverse]; omega
  obtain ⟨B, hBd⟩ : ∃ B : List UInt8, B = (litN r 4).reverse ++ l := ⟨_, rfl⟩
  have hBl : B.length ≤ 566 := by rw [hBd, List.length_append]; exact hn2
  have HBd := Lib.hid hBd
  rw [← hBd]
  clear hBd
  go_wp2_with fail
  refine (sum_any _ _ ?_).mono ?_
  · rw [str_append [_, _] B]
    show ([_, _] ++ B : List UInt8).length ≤ _
    simp only [List.length_append, List.length_cons, List.length_nil]
    omega
  rintro e w2 ⟨rfl, rfl⟩
  rw [str_append [_, _] B]
  obtain ⟨x, hx⟩ : ∃ x, x = sumE ⟨([UInt8.ofNat k, UInt8.ofNat c] ++ B).toArray⟩ := ⟨_, rfl⟩
  have hxin := sumE_in ⟨([UInt8.ofNat k, UInt8.ofNat c] ++ B).toArray⟩
  rw [← hx] at hxin ⊢
  have HX := Lib.hid hx
  clear hx
  obtain ⟨hxa, hxb⟩ := hxin
  have hu3 := IntWalk.u64_in x ⟨hxa, by omega⟩
  have hu4 : Hid (0 ≤ x ∧ x ≤ 18446744073709551615) := ⟨hxa, by omega⟩
  go_wp2_with fail
  refine (big_any _ x 2 hu4.out).mono ?_
  rintro e w3 ⟨rfl, hb3⟩
  have hb4 := Lib.hid hb3
  clear hb3
  have hlen2 := litN_len x 2
  go_wp2
  go_ret2
  refine ⟨?_, (HB.out.drew.trans (hb1.out.mono (show w.heap.size ≤ W.heap.size from by omega))).trans (hb4.out.mono (Nat.le_trans (show w.heap.size ≤ W.heap.size from by omega) hb1.out.size))⟩
  rw [str_append [_, _], str_append]
  have e1 : icAhead k c ++ (litN (sumE ⟨(icAhead k c ++ icBehind r l).toArray⟩) 2).reverse ++ icBehind r l = [UInt8.ofNat k, UInt8.ofNat c] ++ (litN x 2).reverse ++ B := by
    simp only [icAhead, icBehind, Int.toNat_natCast, ← HBd.out, ← HX.out]
  rw [e1]
  rfl

theorem ic_any (k c r : Int) (l : List UInt8) (w : World) (hk : -9223372036854775808 ≤ k ∧ k ≤ 9223372036854775807) (hc : -9223372036854775808 ≤ c ∧ c ≤ 9223372036854775807)
    (hr : 0 ≤ r ∧ r ≤ 4294967295) (hl : l.length ≤ 9223372036854775807) :
    Calls Try.prog 16 #[icV k c r ⟨l.toArray⟩] w fun e w' => e = .returned (.tuple #[.string ⟨(icBytes k c r l).1.toArray⟩, .int .i64 (icBytes k c r l).2]) ∧ Below w.heap.size w w' := by
  by_cases h1 : k < 0 ∨ 255 < k ∨ c < 0 ∨ 255 < c
  · have e : icBytes k c r l = ([], 1) := by rw [icBytes, if_pos h1]
    rw [e]
    exact ic_arg k c r _ w hk hc h1
  · obtain ⟨k', rfl⟩ := Int.eq_ofNat_of_zero_le (show 0 ≤ k by omega)
    obtain ⟨c', rfl⟩ := Int.eq_ofNat_of_zero_le (show 0 ≤ c by omega)
    by_cases h2 : 558 < l.length
    · have e : icBytes k' c' r l = ([], 3) := by rw [icBytes, if_neg h1, if_pos h2]
      rw [e]
      exact ic_long k' c' r _ w (by omega) (by omega) hl h2
    · have e : icBytes k' c' r l = (icAhead k' c' ++ (litN (sumE ⟨(icAhead k' c' ++ icBehind r l).toArray⟩) 2).reverse ++ icBehind r l, 0) := by rw [icBytes, if_neg h1, if_neg h2]
      rw [e]
      exact ic_ok k' c' r l w (by omega) (by omega) hr (by omega)
end Go.Proofs.Ytpnhopgfoakgnaa
