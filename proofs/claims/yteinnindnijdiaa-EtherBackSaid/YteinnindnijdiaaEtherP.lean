/- Frames and their bytes, without a program in sight: what has bytes is read from them; what is read has just these bytes. -/
import Derived.Test.YteinnindnijdiaaEtherLawsC
namespace Go.Proofs.Yteinnindnijdiaa
set_option linter.unusedVariables false
open Go.RowKit

theorem frBytes_cases (T F : List UInt8) (ty : Int) (l : List UInt8) : ((frBytes T F ty l).2 = 0 ∧ 0 ≤ ty ∧ ty ≤ 65535 ∧ l.length ≤ 586) ∨ 1 ≤ (frBytes T F ty l).2 := by
  unfold frBytes
  by_cases h1 : ty < 0 ∨ 65535 < ty
  · rw [if_pos h1]; exact Or.inr (by decide)
  · rw [if_neg h1]
    by_cases h2 : 586 < l.length
    · rw [if_pos h2]; exact Or.inr (by decide)
    · rw [if_neg h2]; exact Or.inl ⟨rfl, by omega, by omega, by omega⟩

theorem frBytes_list (t0 t1 t2 t3 t4 t5 f0 f1 f2 f3 f4 f5 : UInt8) (ty : Int) (l : List UInt8) (h0 : 0 ≤ ty) (h1 : ty ≤ 65535) (h2 : l.length ≤ 586) :
    frBytes [t0, t1, t2, t3, t4, t5] [f0, f1, f2, f3, f4, f5] ty l = (t0 :: t1 :: t2 :: t3 :: t4 :: t5 :: f0 :: f1 :: f2 :: f3 :: f4 :: f5 :: UInt8.ofNat (ty.toNat / 256) :: UInt8.ofNat ty.toNat :: l, 0) := by
  unfold frBytes
  rw [if_neg (by omega), if_neg (by omega), litN, if_pos (by omega), show (2 : Int).toNat = 2 from rfl, lit_two]
  rfl

theorem fr_rt (t0 t1 t2 t3 t4 t5 f0 f1 f2 f3 f4 f5 : UInt8) (ty : Int) (l : List UInt8) (h0 : 0 ≤ ty) (h1 : ty ≤ 65535) (h2 : l.length ≤ 586) :
    rdFr ⟨(frBytes [t0, t1, t2, t3, t4, t5] [f0, f1, f2, f3, f4, f5] ty l).1.toArray⟩ = (frV t0 t1 t2 t3 t4 t5 f0 f1 f2 f3 f4 f5 ty ⟨l.toArray⟩, 0) := by
  rw [frBytes_list t0 t1 t2 t3 t4 t5 f0 f1 f2 f3 f4 f5 ty l h0 h1 h2]
  obtain ⟨n, rfl⟩ := Int.eq_ofNat_of_zero_le h0
  rw [Int.toNat_natCast]
  obtain ⟨s, hs⟩ : ∃ s : ByteArray, s = ⟨(t0 :: t1 :: t2 :: t3 :: t4 :: t5 :: f0 :: f1 :: f2 :: f3 :: f4 :: f5 :: UInt8.ofNat (n / 256) :: UInt8.ofNat n :: l).toArray⟩ := ⟨_, rfl⟩
  have hl : s.data.toList = t0 :: t1 :: t2 :: t3 :: t4 :: t5 :: f0 :: f1 :: f2 :: f3 :: f4 :: f5 :: UInt8.ofNat (n / 256) :: UInt8.ofNat n :: l := by rw [hs]
  have hsz : s.size = l.length + 14 := by rw [← size_list, hl]; rfl
  have hx : s.extract 14 s.size = ⟨l.toArray⟩ := by
    apply ByteArray.ext
    apply Array.toList_inj.1
    rw [extract_list, hl]
    simp only [List.drop_succ_cons, List.drop_zero]
    rw [List.take_of_length_le (by omega)]
  show rdFr ⟨(t0 :: t1 :: t2 :: t3 :: t4 :: t5 :: f0 :: f1 :: f2 :: f3 :: f4 :: f5 :: UInt8.ofNat (n / 256) :: UInt8.ofNat n :: l).toArray⟩ = _
  rw [← hs, rdFr, if_neg (by omega), if_neg (by omega), frOf, hx]
  have hb : ∀ i, bat s i = (t0 :: t1 :: t2 :: t3 :: t4 :: t5 :: f0 :: f1 :: f2 :: f3 :: f4 :: f5 :: UInt8.ofNat (n / 256) :: UInt8.ofNat n :: l).getD i 0 := fun i => by unfold bat; rw [hl]
  have hty : (((bat s 12).toNat * 256 + (bat s 13).toNat : Nat) : Int) = (n : Int) := by
    rw [hb 12, hb 13]
    show (((UInt8.ofNat (n / 256)).toNat * 256 + (UInt8.ofNat n).toNat : Nat) : Int) = (n : Int)
    rw [UInt8.toNat_ofNat', UInt8.toNat_ofNat']
    omega
  rw [hty, hb 0, hb 1, hb 2, hb 3, hb 4, hb 5, hb 6, hb 7, hb 8, hb 9, hb 10, hb 11]
  rfl

theorem rd_back (s : ByteArray) (h1 : 14 ≤ s.size) (h2 : s.size ≤ 600) :
    frBytes [bat s 0, bat s 1, bat s 2, bat s 3, bat s 4, bat s 5] [bat s 6, bat s 7, bat s 8, bat s 9, bat s 10, bat s 11] (((bat s 12).toNat * 256 + (bat s 13).toNat : Nat) : Int) (s.extract 14 s.size).data.toList = (s.data.toList, 0) := by
  have b12 := (bat s 12).toNat_lt
  have b13 := (bat s 13).toNat_lt
  have hxl : (s.extract 14 s.size).data.toList = s.data.toList.drop 14 := by
    rw [extract_list, List.take_of_length_le (by rw [List.length_drop, size_list]; omega)]
  rw [hxl]
  rw [frBytes_list _ _ _ _ _ _ _ _ _ _ _ _ _ _ (by omega) (by omega) (by rw [List.length_drop, size_list]; omega)]
  rw [Int.toNat_natCast]
  have e1 : UInt8.ofNat (((bat s 12).toNat * 256 + (bat s 13).toNat) / 256) = bat s 12 := by
    apply UInt8.toNat_inj.1; rw [UInt8.toNat_ofNat']; omega
  have e2 : UInt8.ofNat ((bat s 12).toNat * 256 + (bat s 13).toNat) = bat s 13 := by
    apply UInt8.toNat_inj.1; rw [UInt8.toNat_ofNat']; omega
  rw [e1, e2]
  have := take_from s 0 14 (by omega)
  have h3 : s.data.toList = s.data.toList.take 14 ++ s.data.toList.drop 14 := (List.take_append_drop 14 _).symm
  rw [show s.data.toList.take 14 = _ from this] at h3
  rw [Prod.mk.injEq]
  exact ⟨h3.symm, rfl⟩

theorem u8_inj {a b : UInt8} (h : (a.toNat : Int) = (b.toNat : Int)) : a = b := UInt8.toNat_inj.1 (by omega)

theorem fr_same (t0 t1 t2 t3 t4 t5 f0 f1 f2 f3 f4 f5 a0 a1 a2 a3 a4 a5 b0 b1 b2 b3 b4 b5 : UInt8) (ty ty' : Int) (l m : List UInt8) (h0 : 0 ≤ ty) (h1 : ty ≤ 65535) (h2 : l.length ≤ 586) (k0 : 0 ≤ ty') (k1 : ty' ≤ 65535) (k2 : m.length ≤ 586) :
    ((frBytes [t0, t1, t2, t3, t4, t5] [f0, f1, f2, f3, f4, f5] ty l).1 == (frBytes [a0, a1, a2, a3, a4, a5] [b0, b1, b2, b3, b4, b5] ty' m).1) = frEq [(t0.toNat : Int), (t1.toNat : Int), (t2.toNat : Int), (t3.toNat : Int), (t4.toNat : Int), (t5.toNat : Int)] [(f0.toNat : Int), (f1.toNat : Int), (f2.toNat : Int), (f3.toNat : Int), (f4.toNat : Int), (f5.toNat : Int)] ty ⟨l.toArray⟩ [(a0.toNat : Int), (a1.toNat : Int), (a2.toNat : Int), (a3.toNat : Int), (a4.toNat : Int), (a5.toNat : Int)] [(b0.toNat : Int), (b1.toNat : Int), (b2.toNat : Int), (b3.toNat : Int), (b4.toNat : Int), (b5.toNat : Int)] ty' ⟨m.toArray⟩ := by
  rw [Bool.eq_iff_iff, beq_iff_eq]
  constructor
  · intro h
    have e := fr_rt t0 t1 t2 t3 t4 t5 f0 f1 f2 f3 f4 f5 ty l h0 h1 h2
    rw [h, fr_rt a0 a1 a2 a3 a4 a5 b0 b1 b2 b3 b4 b5 ty' m k0 k1 k2] at e
    have e' : [Value.int .u8 (t0.toNat : Int), Value.int .u8 (t1.toNat : Int), Value.int .u8 (t2.toNat : Int), Value.int .u8 (t3.toNat : Int), Value.int .u8 (t4.toNat : Int), Value.int .u8 (t5.toNat : Int), Value.int .u8 (f0.toNat : Int), Value.int .u8 (f1.toNat : Int), Value.int .u8 (f2.toNat : Int), Value.int .u8 (f3.toNat : Int), Value.int .u8 (f4.toNat : Int), Value.int .u8 (f5.toNat : Int), Value.int .i64 ty, Value.string ⟨l.toArray⟩] = [Value.int .u8 (a0.toNat : Int), Value.int .u8 (a1.toNat : Int), Value.int .u8 (a2.toNat : Int), Value.int .u8 (a3.toNat : Int), Value.int .u8 (a4.toNat : Int), Value.int .u8 (a5.toNat : Int), Value.int .u8 (b0.toNat : Int), Value.int .u8 (b1.toNat : Int), Value.int .u8 (b2.toNat : Int), Value.int .u8 (b3.toNat : Int), Value.int .u8 (b4.toNat : Int), Value.int .u8 (b5.toNat : Int), Value.int .i64 ty', Value.string ⟨m.toArray⟩] := congrArg (fun p : Value × Int => p.1.cells.toList) e.symm
    simp only [List.cons.injEq, Value.int.injEq, Value.string.injEq, true_and, and_true] at e'
    obtain ⟨e0, e1, e2, e3, e4, e5, e6, e7, e8, e9, e10, e11, ety, ed⟩ := e'
    rw [e0, e1, e2, e3, e4, e5, e6, e7, e8, e9, e10, e11, ety, ed]
    exact frEq_self _ _ _ _
  · intro h
    simp only [frEq, macEq, Bool.and_eq_true, beq_iff_eq, List.cons.injEq, and_true] at h
    obtain ⟨⟨x0, x1, x2, x3, x4, x5⟩, ⟨x6, x7, x8, x9, x10, x11⟩, ety, ed⟩ := h
    have ed' : l = m := by simpa [ByteArray.toList_eq] using ed
    rw [u8_inj x0, u8_inj x1, u8_inj x2, u8_inj x3, u8_inj x4, u8_inj x5, u8_inj x6, u8_inj x7, u8_inj x8, u8_inj x9, u8_inj x10, u8_inj x11, ety, ed']

end Go.Proofs.Yteinnindnijdiaa
