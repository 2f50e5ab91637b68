/- What the reference's Bytes of a message computes: what package icmp's does. -/
import Derived.Test.YtpnhopgfoakgnaaIcmpP
import Derived.Test.YtpnhopgfoakgnaaSumR
import Derived.Lib.AppendStr
namespace Go.Proofs.Ytpnhopgfoakgnaa
set_option linter.unusedVariables false
open Go.RowKit
attribute [local go_sem ↓] Go.wp_at_zero Go.wp_at_succ

theorem strCells_list (l : List UInt8) : Lib.strCells ⟨l.toArray⟩ = l.map ubv := by
  simp [Lib.strCells]

/-- a row of the call's own that holds bytes -/
theorem Byt.of_own {w : World} {base : Nat} {e : TypeId} {v : Value} {n : Nat} {l : List UInt8} (h : w.ownsRow base e 1 v n (l.map ubv)) (hn : 0 < n) :
    ∃ g cap, v = .slice (some ⟨g, 0, none⟩) n cap ∧ base ≤ g ∧ Byt w e g l ∧ l.length = n := by
  obtain ⟨hl, h⟩ := h
  rw [List.length_map, Nat.mul_one] at hl
  rcases h with ⟨_, h0⟩ | ⟨g, cap, cur, rfl, hb, hh, hc, hm, hs, ht⟩
  · omega
  · refine ⟨g, cap, rfl, hb, ⟨cur, ⟨0, 0, hh, Or.inl (Nat.le_refl _)⟩, fun j hj => ?_⟩, hl⟩
    have h1 : (cur.toList.take (n * 1))[j]? = (l.map ubv)[j]? := by rw [ht]
    rw [List.getElem?_take, if_pos (by omega), List.getElem?_map, List.getElem?_eq_getElem hj] at h1
    simpa using h1

theorem own_new (w : World) (e : TypeId) (l : List UInt8) (C : Array Value) (hC : C = (l.map ubv).toArray) (h : l.length ≤ maxLen) :
    (w.alloc (.cells C e)).ownsRow w.heap.size e 1 (.slice (some ⟨w.heap.size, 0, none⟩) l.length l.length) l.length (l.map ubv) := by
  subst hC
  refine ⟨by simp, Or.inr ⟨w.heap.size, l.length, (l.map ubv).toArray, rfl, Nat.le_refl _, heap_alloc_new w _, Nat.le_refl _, h, by simp, ?_⟩⟩
  simp only [Nat.mul_one]
  rw [List.take_of_length_le (by simp)]

theorem sum_noughts (A B : List UInt8) (hA : A.length % 2 = 0) : sumE ⟨(A ++ [0, 0] ++ B).toArray⟩ = sumE ⟨(A ++ B).toArray⟩ := by
  rw [sumE_list, sumE_list, List.append_assoc, wsum_app _ _ hA, wsum_app _ _ hA, wsum_app [0, 0] B rfl]
  simp [wsum]

theorem refic_arg (k c r : Int) (d : ByteArray) (w : World) (hk : -9223372036854775808 ≤ k ∧ k ≤ 9223372036854775807) (hc : -9223372036854775808 ≤ c ∧ c ≤ 9223372036854775807)
    (h : k < 0 ∨ 255 < k ∨ c < 0 ∨ 255 < c) :
    Calls Try.prog 17 #[icV k c r d] w fun e w' => e = .returned (.tuple #[.string ⟨([] : List UInt8).toArray⟩, .int .i64 1]) ∧ Below w.heap.size w w' := by
  obtain ⟨hka, hkb⟩ := hk
  obtain ⟨hca, hcb⟩ := hc
  by_cases h1 : k < 0
  · clear h
    go_enter Try.func17, Try.ntmps17
    go_wp2
    go_ret2
    exact ⟨rfl, (Below.refl _ _).alloc (Nat.le_refl _) _⟩
  by_cases h2 : 255 < k
  · clear h
    go_enter Try.func17, Try.ntmps17
    go_wp2
    go_ret2
    exact ⟨rfl, (Below.refl _ _).alloc (Nat.le_refl _) _⟩
  by_cases h3 : c < 0
  · clear h
    go_enter Try.func17, Try.ntmps17
    go_wp2
    go_ret2
    exact ⟨rfl, (Below.refl _ _).alloc (Nat.le_refl _) _⟩
  · have h4 : 255 < c := by omega
    clear h
    go_enter Try.func17, Try.ntmps17
    go_wp2
    go_ret2
    exact ⟨rfl, (Below.refl _ _).alloc (Nat.le_refl _) _⟩

theorem refic_long (k c : Nat) (r : Int) (d : ByteArray) (w : World) (hk : k < 256) (hc : c < 256) (hd : d.size ≤ 9223372036854775807) (h : 558 < d.size) :
    Calls Try.prog 17 #[icV k c r d] w fun e w' => e = .returned (.tuple #[.string ⟨([] : List UInt8).toArray⟩, .int .i64 3]) ∧ Below w.heap.size w w' := by
  have h1 : ¬ (k : Int) < 0 := by omega
  have h2 : ¬ (c : Int) < 0 := by omega
  go_enter Try.func17, Try.ntmps17
  go_wp2
  go_ret2
  exact ⟨rfl, (Below.refl _ _).alloc (Nat.le_refl _) _⟩

/-- the bytes with noughts in the sum's place -/
def icZ (k c r : Nat) : List UInt8 := [UInt8.ofNat k, UInt8.ofNat c, 0, 0, UInt8.ofNat (r / 16777216), UInt8.ofNat (r / 65536), UInt8.ofNat (r / 256), UInt8.ofNat r]

set_option maxRecDepth 100000 in
set_option maxHeartbeats 1000000 in
theorem refic_ok (k c r : Nat) (l : List UInt8) (w : World) (hk : k < 256) (hc : c < 256) (hr : r ≤ 4294967295) (h : l.length ≤ 558) :
    Calls Try.prog 17 #[icV k c r ⟨l.toArray⟩] w fun e w' => e = .returned (.tuple #[.string ⟨(icBytes k c r l).1.toArray⟩, .int .i64 0]) ∧ Below w.heap.size w w' := by
  obtain ⟨i0, hi, hz0, hz1, hz2⟩ := info_parts info_u8
  have h1 : ¬ (k : Int) < 0 := by omega
  have h2 : ¬ (c : Int) < 0 := by omega
  have h3 : ¬ 255 < (k : Int) := by omega
  have h4 : ¬ 255 < (c : Int) := by omega
  have h5 : ¬ 558 < (l.length : Int) := by omega
  have hZ : (#[.int .u8 (k : Int), .int .u8 (c : Int), .int .u8 0, .int .u8 0, .int .u8 ((r : Int) / 16777216), .int .u8 ((r : Int) / 65536 % 256), .int .u8 ((r : Int) / 256 % 256), .int .u8 ((r : Int) % 256)] : Array Value) = ((icZ k c r).map ubv).toArray := by
    simp [icZ, UInt8.toNat_ofNat']
    omega
  have ho := own_new (w.alloc (.cells (icV k c r ⟨l.toArray⟩).cells 24)) 5 (icZ k c r) _ hZ (by simp [icZ, maxLen])
  have hb := ((Below.refl _ w).alloc (Nat.le_refl _) (.cells (icV k c r ⟨l.toArray⟩).cells 24)).alloc (by simp) (.cells #[.int .u8 (k : Int), .int .u8 (c : Int), .int .u8 0, .int .u8 0, .int .u8 ((r : Int) / 16777216), .int .u8 ((r : Int) / 65536 % 256), .int .u8 ((r : Int) / 256 % 256), .int .u8 ((r : Int) % 256)] 5)
  simp only [size_alloc, Value.cells] at ho hb
  have HO := Lib.hid ho
  have HB := Lib.hid hb
  clear ho hb hZ
  have hZl : (icZ k c r).length = 8 := rfl
  have hlen : (icZ k c r ++ l).length = 8 + l.length := by rw [List.length_append, hZl]
  have HL := Lib.hid hlen
  clear hZl hlen
  go_enter Try.func17, Try.ntmps17
  go_wp2_with (at_builtin; refine Lib.wpList_append_own_string _ rfl (.tmp 50) (.tmp 52) 84 9 rfl (w.heap.size + 1) 5 i0 Try.underlying84 Try.underlying9 hi hz0 hz1 hz2 _ 8 _ rfl HO.out ⟨l.toArray⟩ rfl (by unfold maxLen; show 8 + l.length ≤ _; omega) (by show 8 + l.length ≤ _; omega) (by simp) ?_; intro v1 w1 hown1 hg1 _; rw [strCells_list, ← List.map_append] at hown1; obtain ⟨g, cap, rfl, hge, hby, hln⟩ := Byt.of_own hown1 (by omega); have HB1 := Lib.hid (HB.out.grown hg1 HB.out.size (fun q hq => by have hq2 : w.heap.size + 1 = q := Option.some.inj hq; omega)); have hbk := run_back Try.prog w1 84 9 5 g 0 cap _ Try.underlying84 Try.underlying5 Try.underlying9 hby.at; rw [HL.out] at hbk; have HY := Lib.hid hby; clear hby hln hg1 hown1)
  clear hbk
  refine (refSum_any _ _ (by rw [HL.out]; omega)).mono ?_
  rintro e w2 ⟨rfl, hb2⟩
  have hs0 : sumE ⟨(icZ k c r ++ l).toArray⟩ = sumE ⟨(icAhead k c ++ icBehind r l).toArray⟩ := by
    have e : icZ k c r ++ l = icAhead k c ++ [0, 0] ++ icBehind r l := by rw [icBehind, be4]; rfl
    rw [e, sum_noughts _ _ (by simp [icAhead])]
  have hin := sumE_in ⟨(icAhead k c ++ icBehind r l).toArray⟩
  have hbe := be2 _ hin
  rw [hs0]
  obtain ⟨x, hx⟩ : ∃ x, x = sumE ⟨(icAhead k c ++ icBehind r l).toArray⟩ := ⟨_, rfl⟩
  rw [← hx] at hin hbe ⊢
  obtain ⟨X, rfl⟩ := Int.eq_ofNat_of_zero_le hin.1
  have hX : X ≤ 65535 := by omega
  have hfin : (icBytes k c r l).1 = ((icZ k c r ++ l).set 2 (UInt8.ofNat (X / 256))).set 3 (UInt8.ofNat X) := by
    rw [icBytes, if_neg (by omega), if_neg (by omega), ← hx, hbe, icBehind, be4]
    rfl
  have HF := Lib.hid hfin
  clear hfin hx hbe hs0 hin
  have hy2 := HY.out.step hb2
  have c2 := hy2.cell 2 (by rw [HL.out]; omega)
  have c3 := hy2.cell 3 (by rw [HL.out]; omega)
  have f2 := hy2.free 2 (by rw [HL.out]; omega)
  have f3 := hy2.free 3 (by rw [HL.out]; omega)
  have hy3 := (hy2.set 2 (by rw [HL.out]; omega) (UInt8.ofNat (X / 256))).set 3 (by rw [List.length_set, HL.out]; omega) (UInt8.ofNat X)
  have hbk := run_back Try.prog _ 84 9 5 g 0 cap _ Try.underlying84 Try.underlying5 Try.underlying9 hy3.at
  have e1 : ((UInt8.ofNat (X / 256)).toNat : Int) = (X : Int) / 256 := by rw [UInt8.toNat_ofNat']; omega
  have e2 : ((UInt8.ofNat X).toNat : Int) = (X : Int) % 256 := by rw [UInt8.toNat_ofNat']; omega
  rw [List.length_set, List.length_set, HL.out, e1, e2, ← HF.out] at hbk
  have HB2 := Lib.hid (Below.step HB1.out hb2)
  clear hy2 hy3 hb2 e1 e2
  go_wp2
  go_ret2
  have hgw : w.heap.size ≤ g := by omega
  exact ⟨rfl, ((HB2.out.setCell hgw _).setCell hgw _)⟩

theorem refic_any (k c r : Int) (l : List UInt8) (w : World) (hk : -9223372036854775808 ≤ k ∧ k ≤ 9223372036854775807) (hc : -9223372036854775808 ≤ c ∧ c ≤ 9223372036854775807)
    (hr : 0 ≤ r ∧ r ≤ 4294967295) (hl : l.length ≤ 9223372036854775807) :
    Calls Try.prog 17 #[icV k c r ⟨l.toArray⟩] w fun e w' => e = .returned (.tuple #[.string ⟨(icBytes k c r l).1.toArray⟩, .int .i64 (icBytes k c r l).2]) ∧ Below w.heap.size w w' := by
  by_cases h1 : k < 0 ∨ 255 < k ∨ c < 0 ∨ 255 < c
  · have e : icBytes k c r l = ([], 1) := by rw [icBytes, if_pos h1]
    rw [e]
    exact refic_arg k c r _ w hk hc h1
  · obtain ⟨k', rfl⟩ := Int.eq_ofNat_of_zero_le (show 0 ≤ k by omega)
    obtain ⟨c', rfl⟩ := Int.eq_ofNat_of_zero_le (show 0 ≤ c by omega)
    obtain ⟨r', rfl⟩ := Int.eq_ofNat_of_zero_le hr.1
    by_cases h2 : 558 < l.length
    · have e : icBytes k' c' r' l = ([], 3) := by rw [icBytes, if_neg h1, if_pos h2]
      rw [e]
      exact refic_long k' c' r' _ w (by omega) (by omega) hl h2
    · have e : (icBytes k' c' r' l).2 = 0 := by rw [icBytes, if_neg h1, if_neg h2]
      rw [e]
      exact refic_ok k' c' r' l w (by omega) (by omega) (by omega) (by omega)
end Go.Proofs.Ytpnhopgfoakgnaa
