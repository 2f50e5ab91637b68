/- Plain facts for the laws SegBack and SegAddressed: a segment's bytes are read as that segment, between the same addresses; a bit that is turned, of them or of an address, is found. No walk is in sight. -/
import Derived.Test.YtccbgiapabkjbaaSgB
import Derived.Test.YtccbgiapabkjbaaSgD
import Derived.Test.YtccbgiapabkjbaaSgL
namespace Go.Proofs.Ytccbgiapabkjbaa
set_option linter.unusedVariables false
set_option maxRecDepth 100000
open Go.RowKit

/-- what a byte weighs at its place -/
def wgt (k : Nat) : Nat := if k % 2 = 0 then 256 else 1
theorem wsum_set : ∀ (l : List UInt8) (k : Nat) (h : k < l.length) (x : UInt8), wsum (l.set k x) + wgt k * (l[k]).toNat = wsum l + wgt k * x.toNat
  | [a], 0, _, x => by simp [wsum, wgt]; omega
  | [a], k + 1, h, _ => by simp at h
  | a :: b :: r, 0, _, x => by simp [wsum, wgt]; omega
  | a :: b :: r, 1, _, x => by simp [wsum, wgt]; omega
  | a :: b :: r, k + 2, h, x => by
    have hk : k < r.length := by simp only [List.length_cons] at h; omega
    have := wsum_set r k hk x
    have hw : wgt (k + 2) = wgt k := by unfold wgt; rw [Nat.add_mod_right]
    simp only [List.set_cons_succ, wsum, List.getElem_cons_succ, hw]
    omega

theorem fld_eq {x y : Nat} (h : fld x = fld y) : x % 65535 = y % 65535 := by
  unfold fld at h
  split at h <;> split at h <;> omega

theorem flip_sum (l : List UInt8) (k : Nat) (h : k < l.length) (x : UInt8) (p : Nat) (hp : 1 ≤ p ∧ p ≤ 128) (hx : x.toNat = l[k].toNat + p ∨ l[k].toNat = x.toNat + p) :
    sumE ⟨(l.set k x).toArray⟩ ≠ sumE ⟨l.toArray⟩ := by
  have hs := wsum_set l k h x
  rw [sumE_list, sumE_list]
  intro he
  have hf : fld (wsum (l.set k x)) = fld (wsum l) := by omega
  have := fld_eq hf
  unfold wgt at hs
  split at hs <;> omega
theorem xor_bit (x : UInt8) (j : Nat) (h : j < 8) : ∃ y : UInt8, bits .xor .u8 (x.toNat : Int) ((2 ^ j : Nat) : Int) = (y.toNat : Int) ∧ (y.toNat = x.toNat + 2 ^ j ∨ x.toNat = y.toNat + 2 ^ j) := by
  have hx := x.toNat_lt
  have hj : 2 ^ j < 256 := Nat.lt_of_lt_of_le (Nat.pow_lt_pow_right (by omega) h) (by decide)
  have key : ∀ x : Fin 256, ∀ j : Fin 8, (x.val ^^^ 2 ^ j.val) < 256 ∧ ((x.val ^^^ 2 ^ j.val) = x.val + 2 ^ j.val ∨ x.val = (x.val ^^^ 2 ^ j.val) + 2 ^ j.val) := by decide +kernel
  have hk := key ⟨x.toNat, hx⟩ ⟨j, h⟩
  simp only at hk
  refine ⟨UInt8.ofNat (x.toNat ^^^ 2 ^ j), ?_, ?_⟩
  · have e1 : (BitVec.ofInt 8 (x.toNat : Int)).toNat = x.toNat := by rw [BitVec.ofInt_natCast, BitVec.toNat_ofNat]; omega
    have e2 : (BitVec.ofInt 8 ((2 ^ j : Nat) : Int)).toNat = 2 ^ j := by rw [BitVec.ofInt_natCast, BitVec.toNat_ofNat, Nat.mod_eq_of_lt hj]
    show IntKind.u8.wrap ((BitVec.ofInt 8 (x.toNat : Int) ^^^ BitVec.ofInt 8 ((2 ^ j : Nat) : Int)).toNat : Int) = _
    rw [BitVec.toNat_xor, e1, e2, ofNat_toNat _ hk.1]
    exact u8in' _ ⟨by omega, by have := hk.1; omega⟩
  · rw [ofNat_toNat _ hk.1]
    exact hk.2


theorem bigv_be (n : Nat) (h : n ≤ 65535) : bigv (be n) = n := by
  simp only [be, bigv, List.foldl, UInt8.toNat_ofNat']
  omega
theorem bigv_bq (x : Int) (h : 0 ≤ x ∧ x ≤ 4294967295) : (bigv (bq x) : Int) = x := by
  unfold bq
  rw [be4]
  simp only [bigv, List.foldl, UInt8.toNat_ofNat']
  omega
theorem num_at (A M B : List UInt8) (a n : Nat) (hA : A.length = a) (hM : M.length = n) : num (A ++ M ++ B) a n = bigv M := by
  subst hA; subst hM
  rw [num, List.append_assoc, List.drop_left, List.take_left]

/-- the sum of what has its sum in it -/
theorem sgS_whole (f t A B : List UInt8) (hL : IpL f t) (hA : A.length = 16) : sgS f t (A ++ be (sgS f t (A ++ [0, 0] ++ B)).toNat ++ B) = 0 := by
  obtain ⟨S, hS⟩ : ∃ S, S = sgS f t (A ++ [0, 0] ++ B) := ⟨_, rfl⟩
  have hin : 0 ≤ S ∧ S ≤ 65535 := by rw [hS]; exact sumE_in _
  have hl : (A ++ be S.toNat ++ B).length = (A ++ [0, 0] ++ B).length := by simp only [List.length_append, be, List.length_cons, List.length_nil]
  rw [← hS, sgS, hl]
  obtain ⟨P, hP⟩ : ∃ P, P = f ++ t ++ [0] ++ [6] ++ be (A ++ [0, 0] ++ B).length ++ A := ⟨_, rfl⟩
  have hPl : P.length % 2 = 0 := by rw [hP]; simp only [List.length_append, hL.f, hL.t, hA, be, List.length_cons, List.length_nil]
  have e1 : f ++ t ++ [0] ++ [6] ++ be (A ++ [0, 0] ++ B).length ++ (A ++ be S.toNat ++ B) = P ++ be S.toNat ++ B := by rw [hP]; simp only [List.append_assoc]
  have e2 : S = sumE ⟨(P ++ [0, 0] ++ B).toArray⟩ := by rw [hS, sgS, hP]; simp only [List.append_assoc]
  rw [sum_noughts P B hPl] at e2
  have e3 := sum_whole P B hPl
  rw [← e2] at e3
  have e4 : (litN S 2).reverse = be S.toNat := by
    obtain ⟨m, rfl⟩ := Int.eq_ofNat_of_zero_le hin.1
    rw [Int.toNat_natCast]
    exact be_lit m
  rw [e1, ← e4]
  exact e3
theorem sgS_comm (f t l : List UInt8) (hL : IpL f t) : sgS t f l = sgS f t l := by
  have hf : f.length % 2 = 0 := by rw [hL.f]
  have ht : t.length % 2 = 0 := by rw [hL.t]
  simp only [sgS, List.append_assoc]
  rw [sumE_list, sumE_list, wsum_app _ _ hf, wsum_app _ _ ht, wsum_app _ _ hf, wsum_app _ _ ht, Nat.add_left_comm]
theorem sgS_flip (f t l : List UInt8) (k : Nat) (h : k < l.length) (x : UInt8) (p : Nat) (hp : 1 ≤ p ∧ p ≤ 128) (hx : x.toNat = l[k].toNat + p ∨ l[k].toNat = x.toNat + p) : sgS f t (l.set k x) ≠ sgS f t l := by
  obtain ⟨P, hP⟩ : ∃ P, P = f ++ t ++ [0] ++ [6] ++ be l.length := ⟨_, rfl⟩
  have e1 : sgS f t (l.set k x) = sumE ⟨((P ++ l).set (P.length + k) x).toArray⟩ := by
    rw [sgS, List.length_set, ← hP, List.set_append_right _ _ (by omega), Nat.add_sub_cancel_left]
  have e2 : sgS f t l = sumE ⟨(P ++ l).toArray⟩ := by rw [sgS, ← hP]
  rw [e1, e2]
  refine flip_sum (P ++ l) (P.length + k) (by rw [List.length_append]; omega) x p hp ?_
  have e3 : (P ++ l)[P.length + k]'(by rw [List.length_append]; omega) = l[k] := by rw [List.getElem_append_right (by omega)]; simp
  rw [e3]
  exact hx
theorem sgS_flip_t (f t l : List UInt8) (k : Nat) (h : k < t.length) (x : UInt8) (p : Nat) (hp : 1 ≤ p ∧ p ≤ 128) (hx : x.toNat = t[k].toNat + p ∨ t[k].toNat = x.toNat + p) : sgS f (t.set k x) l ≠ sgS f t l := by
  obtain ⟨B, hB⟩ : ∃ B, B = [0] ++ [6] ++ be l.length ++ l := ⟨_, rfl⟩
  have e1 : sgS f (t.set k x) l = sumE ⟨((f ++ t ++ B).set (f.length + k) x).toArray⟩ := by
    rw [hB, sgS, List.append_assoc f t, List.set_append_right _ _ (by omega), Nat.add_sub_cancel_left, List.set_append_left _ _ h]
    simp only [List.append_assoc]
  have e2 : sgS f t l = sumE ⟨(f ++ t ++ B).toArray⟩ := by rw [hB, sgS]; simp only [List.append_assoc]
  rw [e1, e2]
  refine flip_sum (f ++ t ++ B) (f.length + k) (by rw [List.length_append, List.length_append]; omega) x p hp ?_
  have e3 : (f ++ t ++ B)[f.length + k]'(by rw [List.length_append, List.length_append]; omega) = t[k] := by
    rw [List.getElem_append_left (by rw [List.length_append]; omega), List.getElem_append_right (by omega)]; simp
  rw [e3]
  exact hx

theorem srE_zero {f t l : List UInt8} (h : srE f t l = 0) : sgS f t l = 0 := by
  unfold srE at h
  split at h
  · cases h
  split at h
  · cases h
  split at h
  · cases h
  split at h
  · cases h
  split at h
  · cases h
  · rename_i h5
    exact Classical.byContradiction h5

theorem opts_nil (n : Nat) : opts 0 [] n = some n := rfl
theorem opts_four (m : Nat) (h : m ≤ 65535) : opts 4 ([2, 4] ++ be m) 0 = some m := by
  have e1 : o0 ([2, 4] ++ be m) = 2 := rfl
  have e2 : o1 ([2, 4] ++ be m) = 4 := rfl
  have e3 : ([2, 4] ++ be m).length = 4 := rfl
  rw [opts, if_neg (by omega), if_neg (by omega), if_neg (by omega), if_pos e1, if_pos e2]
  have e4 : ([2, 4] ++ be m).drop 4 = [] := rfl
  have e5 : num ([2, 4] ++ be m) 2 2 = bigv (be m) := rfl
  rw [e4, e5, bigv_be m h]
  rw [opts, if_pos (Or.inl (List.length_nil))]

theorem sg_reads {f t : List UInt8} (hL : IpL f t) {fr tp sq ak fl wi ms : Int} {d : List UInt8} (hsq : 0 ≤ sq ∧ sq ≤ 4294967295) (hak : 0 ≤ ak ∧ ak ≤ 4294967295) (hM : sgMay fr tp fl wi ms = true) (hn : (sgOpt ms).length + d.length ≤ 546) :
    20 ≤ (sgOut f t fr tp sq ak fl wi ms d).length ∧ (sgOut f t fr tp sq ak fl wi ms d).length ≤ 566 ∧ (∀ o, sgS f o (sgOut f t fr tp sq ak fl wi ms d) ≠ 0 → srE f o (sgOut f t fr tp sq ak fl wi ms d) = 9) ∧
      ∀ f' t', sgS f' t' (sgOut f t fr tp sq ak fl wi ms d) = sgS f t (sgOut f t fr tp sq ak fl wi ms d) → srE f' t' (sgOut f t fr tp sq ak fl wi ms d) = 0 ∧ srV f' t' (sgOut f t fr tp sq ak fl wi ms d) = sgC fr tp sq ak fl wi ms d := by
  obtain ⟨⟨a1, a2⟩, ⟨b1, b2⟩, ⟨c1, c2⟩, h2, d1, d2, h3⟩ := sgMay_yes hM
  obtain ⟨m1, m2⟩ := sgTwo_yes h2
  have hol := sgOpt_len m1
  obtain ⟨n, hnl⟩ : ∃ n, n = (sgOpt ms).length := ⟨_, rfl⟩
  have hn4 : n = 0 ∨ n = 4 := by rw [hnl, hol]; split <;> simp
  obtain ⟨S, hSd⟩ : ∃ S, S = sgS f t (sgAhead fr tp sq ak fl wi n ++ [0, 0] ++ sgBehind ms d) := ⟨_, rfl⟩
  obtain ⟨X, hX⟩ : ∃ X, X = sgOut f t fr tp sq ak fl wi ms d := ⟨_, rfl⟩
  have hX1 : X = sgAhead fr tp sq ak fl wi n ++ be S.toNat ++ sgBehind ms d := by rw [hX, sgOut, hSd, hnl]
  have hsum : sgS f t X = 0 := by rw [hX1, hSd]; exact sgS_whole f t _ _ hL (sgAhead_len _ _ _ _ _ _ _)
  rw [← hX]
  have hXa : X = be fr.toNat ++ be tp.toNat ++ bq sq ++ bq ak ++ [UInt8.ofNat (4 * (20 + n)), UInt8.ofNat fl.toNat] ++ be wi.toNat ++ be S.toNat ++ [0, 0] ++ sgOpt ms ++ d := by
    rw [hX1, sgAhead, sgBehind]
    simp only [List.append_assoc]
  have hlen : X.length = 20 + n + d.length := by
    rw [hXa]
    simp only [List.length_append, bq_len, be, List.length_cons, List.length_nil, ← hnl]
  have hH : ∃ H : List UInt8, H.length = 20 ∧ X = H ++ sgOpt ms ++ d := ⟨be fr.toNat ++ be tp.toNat ++ bq sq ++ bq ak ++ [UInt8.ofNat (4 * (20 + n)), UInt8.ofNat fl.toNat] ++ be wi.toNat ++ be S.toNat ++ [0, 0], by simp only [List.length_append, bq_len, be, List.length_cons, List.length_nil], hXa⟩
  obtain ⟨H, hHl, hHX⟩ := hH
  obtain ⟨q0, q1, q2, q3, hq⟩ : ∃ q0 q1 q2 q3, bq sq = [q0, q1, q2, q3] := ⟨_, _, _, _, be4 sq⟩
  obtain ⟨k0, k1, k2, k3, hk⟩ : ∃ k0 k1 k2 k3, bq ak = [k0, k1, k2, k3] := ⟨_, _, _, _, be4 ak⟩
  have e12 : s12 X = 4 * (20 + n) := by
    rw [hXa, hq, hk]
    show (UInt8.ofNat (4 * (20 + n))).toNat = _
    rw [ofNat_toNat _ (by omega)]
  have ehz : shz X = 20 + n := by rw [shz, e12]; omega
  have efl : sgFl X = fl.toNat := by
    rw [hXa, hq, hk]
    show (UInt8.ofNat fl.toNat).toNat % 32 = _
    rw [ofNat_toNat _ (by omega)]
    omega
  have n1 : ((num X 0 2 : Nat) : Int) = fr := by
    have : num X 0 2 = bigv (be fr.toNat) := by rw [hXa]; rfl
    rw [this, bigv_be _ (by omega)]
    omega
  have n2 : ((num X 2 2 : Nat) : Int) = tp := by
    have : num X 2 2 = bigv (be tp.toNat) := by rw [hXa]; rfl
    rw [this, bigv_be _ (by omega)]
    omega
  have n3 : ((num X 4 4 : Nat) : Int) = sq := by
    have : num X 4 4 = bigv (bq sq) := by rw [hXa, hq]; rfl
    rw [this, bigv_bq _ hsq]
  have n4 : ((num X 8 4 : Nat) : Int) = ak := by
    have : num X 8 4 = bigv (bq ak) := by rw [hXa, hq, hk]; rfl
    rw [this, bigv_bq _ hak]
  have n5 : ((num X 14 2 : Nat) : Int) = wi := by
    have : num X 14 2 = bigv (be wi.toNat) := by rw [hXa, hq, hk]; rfl
    rw [this, bigv_be _ (by omega)]
    omega
  have eop : sgOp X = sgOpt ms := by
    rw [sgOp, ehz, hHX, List.take_left' (by rw [List.length_append, hHl, hnl]), ← hHl, List.drop_left]
  have ed : X.drop (shz X) = d := by
    rw [ehz, hHX, ← hHl, hnl, ← List.length_append, List.drop_left]
  have emss : sgMss X = some ms.toNat := by
    rw [sgMss, eop]
    by_cases h0 : ms = 0
    · rw [h0]; rfl
    · have e : sgOpt ms = [2, 4] ++ be ms.toNat := by rw [sgOpt, if_neg h0]
      rw [e]
      exact opts_four _ (by omega)
  have hflb : ms ≠ 0 → fl.toNat / 2 % 2 = 1 := by
    intro h0
    rcases h3 with h | h
    · exact absurd h h0
    · unfold sgF at h
      have hb := sg_bit1 fl.toNat (by omega)
      rw [Int.toNat_of_nonneg d1] at hb
      rw [hb] at h
      by_cases hc : fl.toNat / 2 % 2 = 1
      · exact hc
      · rw [if_neg hc] at h; cases h
  have ems : ((sgMs X : Nat) : Int) = ms := by
    rw [sgMs, efl, emss]
    by_cases h0 : ms = 0
    · subst h0
      split <;> rfl
    · rw [if_pos (hflb h0)]
      show ((ms.toNat : Nat) : Int) = ms
      omega
  refine ⟨by omega, by omega, fun o ho => ?_, fun f' t' hs => ?_⟩
  · rw [srE, if_neg (by omega), if_neg (by omega), if_neg (by omega), if_neg (by omega), if_pos ho]
  · have e0 : srE f' t' X = 0 := by
      rw [srE, if_neg (by omega), if_neg (by omega), if_neg (by omega), if_neg (by omega), if_neg (by rw [hs, hsum]; simp), if_neg (by rw [emss]; simp)]
    refine ⟨e0, ?_⟩
    rw [srV, if_pos e0, n1, n2, n3, n4, n5, efl, ems, ed, Int.toNat_of_nonneg d1]
end Go.Proofs.Ytccbgiapabkjbaa
