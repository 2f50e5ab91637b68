/- Plain facts on a message's bytes: what has bytes is read from them, and the sum of them is 0. No program is in sight. -/
import Derived.Test.YtpnhopgfoakgnaaIcmpA
namespace Go.Proofs.Ytpnhopgfoakgnaa
set_option linter.unusedVariables false
open Go.RowKit

theorem wsum_app : ∀ (a b : List UInt8), a.length % 2 = 0 → wsum (a ++ b) = wsum a + wsum b
  | [], b, _ => by simp [wsum]
  | [x], b, h => by simp at h
  | x :: y :: r, b, h => by
    have := wsum_app r b (by simp only [List.length_cons] at h; omega)
    simp only [List.cons_append, wsum, this]; omega

theorem be2 (x : Int) (h : 0 ≤ x ∧ x ≤ 65535) : (litN x 2).reverse = [UInt8.ofNat (x.toNat / 256), UInt8.ofNat x.toNat] := by
  rw [litN, if_pos (by omega)]
  simp [lit, List.range_succ]
theorem be4 (x : Int) : (litN x 4).reverse = [UInt8.ofNat (x.toNat / 16777216), UInt8.ofNat (x.toNat / 65536), UInt8.ofNat (x.toNat / 256), UInt8.ofNat x.toNat] := by
  rw [litN, if_pos (by omega)]
  simp [lit, List.range_succ]
theorem wsum_be2 (x : Int) (h : 0 ≤ x ∧ x ≤ 65535) : wsum (litN x 2).reverse = x.toNat := by
  rw [be2 x h]
  simp only [wsum, UInt8.toNat_ofNat']
  omega

theorem sumE_list (l : List UInt8) : sumE ⟨l.toArray⟩ = 65535 - (fld (wsum l) : Int) := by simp [sumE, wrest]
theorem fld_whole (n : Nat) : fld (n + (65535 - fld n)) = 65535 := by
  unfold fld
  by_cases h : n = 0
  · subst h; rfl
  · rw [if_neg h, if_neg (by omega)]; omega

theorem sum_whole (A B : List UInt8) (hA : A.length % 2 = 0) : sumE ⟨(A ++ (litN (sumE ⟨(A ++ B).toArray⟩) 2).reverse ++ B).toArray⟩ = 0 := by
  have h1 := sumE_list (A ++ B)
  obtain ⟨x, hx⟩ : ∃ x, x = sumE ⟨(A ++ B).toArray⟩ := ⟨_, rfl⟩
  have hin := sumE_in ⟨(A ++ B).toArray⟩
  rw [← hx] at h1 hin ⊢
  rw [sumE_list, List.append_assoc, wsum_app _ _ hA, wsum_app _ _ (by rw [be2 x hin]; simp), wsum_be2 x hin]
  rw [wsum_app _ _ hA] at h1
  have hf := fld_le (wsum A + wsum B)
  have e : wsum A + (x.toNat + wsum B) = (wsum A + wsum B) + (65535 - fld (wsum A + wsum B)) := by omega
  rw [e, fld_whole]
  rfl

/-- the eight bytes ahead, and what is behind -/
def icL (b0 b1 b2 b3 b4 b5 b6 b7 : UInt8) (l : List UInt8) : List UInt8 := b0 :: b1 :: b2 :: b3 :: b4 :: b5 :: b6 :: b7 :: l

theorem ext_list (l : List UInt8) (i j : Nat) : (⟨l.toArray⟩ : ByteArray).extract i j = ⟨((l.drop i).take (j - i)).toArray⟩ := by
  apply ByteArray.ext
  apply Array.toList_inj.1
  rw [extract_list]

theorem icOf_list (b0 b1 b2 b3 b4 b5 b6 b7 : UInt8) (l : List UInt8) :
    icOf ⟨(icL b0 b1 b2 b3 b4 b5 b6 b7 l).toArray⟩ = icV b0.toNat b1.toNat (((((b4.toNat * 256 + b5.toNat) * 256 + b6.toNat) * 256 + b7.toNat : Nat) : Int)) ⟨l.toArray⟩ := by
  have hs : (⟨(icL b0 b1 b2 b3 b4 b5 b6 b7 l).toArray⟩ : ByteArray).size = l.length + 8 := rfl
  have h4 := rd4 ⟨(icL b0 b1 b2 b3 b4 b5 b6 b7 l).toArray⟩ 4 (by rw [hs]; omega)
  have e4 : rdBig ⟨(icL b0 b1 b2 b3 b4 b5 b6 b7 l).toArray⟩ 4 4 = (((((b4.toNat * 256 + b5.toNat) * 256 + b6.toNat) * 256 + b7.toNat : Nat) : Int)) := h4
  rw [icOf, e4, hs, ext_list]
  have e5 : ((icL b0 b1 b2 b3 b4 b5 b6 b7 l).drop 8).take (l.length + 8 - 8) = l := by simp [icL]
  rw [e5]
  rfl

theorem icBytes_list (k c r : Nat) (l : List UInt8) (hk : k < 256) (hc : c < 256) (hl : l.length ≤ 558) :
    ∃ x y : UInt8, icBytes k c r l = (icL (UInt8.ofNat k) (UInt8.ofNat c) x y (UInt8.ofNat (r / 16777216)) (UInt8.ofNat (r / 65536)) (UInt8.ofNat (r / 256)) (UInt8.ofNat r) l, 0) ∧
      sumE ⟨(icBytes k c r l).1.toArray⟩ = 0 := by
  have e : icBytes k c r l = (icAhead k c ++ (litN (sumE ⟨(icAhead k c ++ icBehind r l).toArray⟩) 2).reverse ++ icBehind r l, 0) := by rw [icBytes, if_neg (by omega), if_neg (by omega)]
  have h2 := be2 _ (sumE_in ⟨(icAhead k c ++ icBehind r l).toArray⟩)
  refine ⟨UInt8.ofNat ((sumE ⟨(icAhead k c ++ icBehind r l).toArray⟩).toNat / 256), UInt8.ofNat (sumE ⟨(icAhead k c ++ icBehind r l).toArray⟩).toNat, ?_, ?_⟩
  · rw [e, h2]
    simp only [icAhead, icBehind, be4, Int.toNat_natCast, icL, List.cons_append, List.nil_append]
  · rw [e]
    exact sum_whole _ _ (by simp [icAhead])

theorem rdIc_list (b0 b1 b2 b3 b4 b5 b6 b7 : UInt8) (l : List UInt8) (hl : l.length ≤ 558) (hs : sumE ⟨(icL b0 b1 b2 b3 b4 b5 b6 b7 l).toArray⟩ = 0) :
    rdIc ⟨(icL b0 b1 b2 b3 b4 b5 b6 b7 l).toArray⟩ = (icV b0.toNat b1.toNat (((((b4.toNat * 256 + b5.toNat) * 256 + b6.toNat) * 256 + b7.toNat : Nat) : Int)) ⟨l.toArray⟩, 0) := by
  have hz : (⟨(icL b0 b1 b2 b3 b4 b5 b6 b7 l).toArray⟩ : ByteArray).size = l.length + 8 := rfl
  rw [rdIc, if_neg (by rw [hz]; omega), if_neg (by rw [hz]; omega), if_neg (by simpa using hs), icOf_list]

theorem ofNat_toNat (n : Nat) (h : n < 256) : (UInt8.ofNat n).toNat = n := by rw [UInt8.toNat_ofNat']; omega

/-- what has bytes is read from them -/
theorem ic_back (k c r : Nat) (l : List UInt8) (hk : k < 256) (hc : c < 256) (hr : r ≤ 4294967295) (hl : l.length ≤ 558) :
    rdIc ⟨(icBytes k c r l).1.toArray⟩ = (icV k c r ⟨l.toArray⟩, 0) ∧ sumE ⟨(icBytes k c r l).1.toArray⟩ = 0 ∧ (icBytes k c r l).1.length = 8 + l.length ∧ (icBytes k c r l).2 = 0 := by
  obtain ⟨x, y, he, hs⟩ := icBytes_list k c r l hk hc hl
  refine ⟨?_, hs, ?_, by rw [he]⟩
  · rw [he] at hs ⊢
    rw [rdIc_list _ _ _ _ _ _ _ _ _ hl hs]
    have e4 : (((UInt8.ofNat (r / 16777216)).toNat * 256 + (UInt8.ofNat (r / 65536)).toNat) * 256 + (UInt8.ofNat (r / 256)).toNat) * 256 + (UInt8.ofNat r).toNat = r := by
      simp only [UInt8.toNat_ofNat']; omega
    rw [e4, ofNat_toNat k hk, ofNat_toNat c hc]
  · rw [he]
    simp only [icL, List.length_cons]; omega

theorem icBytes_no (k c r : Int) (l : List UInt8) (h : (icBytes k c r l).2 = 0) : (0 ≤ k ∧ k < 256) ∧ (0 ≤ c ∧ c < 256) ∧ l.length ≤ 558 := by
  unfold icBytes at h
  split at h
  · simp at h
  · split at h
    · simp at h
    · omega

theorem list8 (l : List UInt8) (h : 8 ≤ l.length) : ∃ b0 b1 b2 b3 b4 b5 b6 b7 r, l = icL b0 b1 b2 b3 b4 b5 b6 b7 r := by
  match l, h with
  | b0 :: b1 :: b2 :: b3 :: b4 :: b5 :: b6 :: b7 :: r, _ => exact ⟨b0, b1, b2, b3, b4, b5, b6, b7, r, rfl⟩

/-- what is read has bytes that are read as it again -/
theorem ic_forth (s : List UInt8) (h : (rdIc ⟨s.toArray⟩).2 = 0) : ∃ (k c r : Nat) (l a : List UInt8), k < 256 ∧ c < 256 ∧ r ≤ 4294967295 ∧ l.length ≤ 558 ∧ rdIc ⟨s.toArray⟩ = (icV k c r ⟨l.toArray⟩, 0) ∧
    icBytes k c r l = (a, 0) ∧ rdIc ⟨a.toArray⟩ = (icV k c r ⟨l.toArray⟩, 0) ∧ a.length = s.length ∧ a.drop 4 = s.drop 4 ∧ a.take 2 = s.take 2 ∧ 8 ≤ s.length ∧ s.length ≤ 566 := by
  have hz : (⟨s.toArray⟩ : ByteArray).size = s.length := rfl
  have h8 : 8 ≤ s.length ∧ s.length ≤ 566 ∧ sumE ⟨s.toArray⟩ = 0 := by
    unfold rdIc at h
    rw [hz] at h
    split at h
    · simp at h
    · split at h
      · simp at h
      · split at h
        · simp at h
        · rename_i h1 h2 h3
          exact ⟨by omega, by omega, by simpa using h3⟩
  obtain ⟨h8, h9, hs⟩ := h8
  obtain ⟨b0, b1, b2, b3, b4, b5, b6, b7, l, rfl⟩ := list8 s h8
  have hl : l.length ≤ 558 := by simp only [icL, List.length_cons] at h9; omega
  have g0 := b0.toNat_lt
  have g1 := b1.toNat_lt
  have g4 := b4.toNat_lt
  have g5 := b5.toNat_lt
  have g6 := b6.toNat_lt
  have g7 := b7.toNat_lt
  have hr : ((b4.toNat * 256 + b5.toNat) * 256 + b6.toNat) * 256 + b7.toNat ≤ 4294967295 := by omega
  obtain ⟨r, hrd⟩ : ∃ r, r = ((b4.toNat * 256 + b5.toNat) * 256 + b6.toNat) * 256 + b7.toNat := ⟨_, rfl⟩
  have hR := rdIc_list b0 b1 b2 b3 b4 b5 b6 b7 l hl hs
  rw [← hrd] at hR hr
  obtain ⟨x, y, he, hs2⟩ := icBytes_list b0.toNat b1.toNat r l g0 g1 hl
  have o0 : UInt8.ofNat b0.toNat = b0 := by simp
  have o1 : UInt8.ofNat b1.toNat = b1 := by simp
  have o4 : UInt8.ofNat (r / 16777216) = b4 := by apply UInt8.toNat_inj.1; rw [UInt8.toNat_ofNat']; omega
  have o5 : UInt8.ofNat (r / 65536) = b5 := by apply UInt8.toNat_inj.1; rw [UInt8.toNat_ofNat']; omega
  have o6 : UInt8.ofNat (r / 256) = b6 := by apply UInt8.toNat_inj.1; rw [UInt8.toNat_ofNat']; omega
  have o7 : UInt8.ofNat r = b7 := by apply UInt8.toNat_inj.1; rw [UInt8.toNat_ofNat']; omega
  have hb := (ic_back b0.toNat b1.toNat r l g0 g1 hr hl).1
  rw [he] at hb hs2
  rw [o0, o1, o4, o5, o6, o7] at he hb
  exact ⟨b0.toNat, b1.toNat, r, l, _, g0, g1, hr, hl, hR, he, hb, rfl, rfl, rfl, h8, h9⟩

theorem rdIc_no (s : List UInt8) (h : (rdIc ⟨s.toArray⟩).2 ≠ 0) : (rdIc ⟨s.toArray⟩).1 = ic0 := by
  unfold rdIc at h ⊢
  split
  · rfl
  · split
    · rfl
    · split
      · rfl
      · rename_i h1 h2 h3
        rw [if_neg h1, if_neg h2, if_neg h3] at h
        exact absurd rfl h
end Go.Proofs.Ytpnhopgfoakgnaa
