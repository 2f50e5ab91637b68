/- Plain facts for the laws Ipv4Back and Ipv4Sums: a packet's bytes are read as that packet; a byte less is short; sums of texts. No walk is in sight. -/
import Derived.Test.YticchchcobjpdaaPkD
import Derived.Test.YticchchcobjpdaaPkB
namespace Go.Proofs.Yticchchcobjpdaa
set_option linter.unusedVariables false
open Go.RowKit

/-- a head, byte by byte -/
def hd20 (x0 x1 i0 i1 p0 p1 T P s0 s1 f0 f1 f2 f3 t0 t1 t2 t3 : UInt8) : List UInt8 := [69, 0, x0, x1, i0, i1, p0, p1, T, P, s0, s1, f0, f1, f2, f3, t0, t1, t2, t3]

theorem be2_nat (x : Int) (h : 0 ≤ x ∧ x ≤ 65535) : ∃ a b : UInt8, (litN x 2).reverse = [a, b] ∧ ((a.toNat * 256 + b.toNat : Nat) : Int) = x := by
  refine ⟨_, _, be2 x h, ?_⟩
  simp only [UInt8.toNat_ofNat']
  omega

/-- what a packet's head is -/
structure HeadOf (id : Int) (f t : List UInt8) (pr tt a : Int) (mo : Bool) (n : Nat) (H : List UInt8) : Prop where
  len : H.length = 20
  sum : sumE ⟨H.toArray⟩ = 0
  b0 : ∀ r, b0 (H ++ r) = 69
  all : ∀ r, ((two (H ++ r) 2 : Nat) : Int) = 20 + n
  id : ∀ r, ((two (H ++ r) 4 : Nat) : Int) = id
  pos : ∀ r, ((two (H ++ r) 6 : Nat) : Int) = pkPos a mo
  pr : ∀ r, ((pkP (H ++ r) : Nat) : Int) = pr
  tt : ∀ r, ((pkT (H ++ r) : Nat) : Int) = tt
  f : ∀ r, four (H ++ r) 12 = f
  t : ∀ r, four (H ++ r) 16 = t

theorem pkPos_in {id pr tt a : Int} {mo : Bool} {n : Nat} (h : mayB id pr tt a mo n = true) : 0 ≤ pkPos a mo ∧ pkPos a mo ≤ 16383 := by
  obtain ⟨_, _, _, _, _, _, h1, h2, h3, _, _⟩ := mayB_yes h
  unfold pkPos
  cases mo <;> simp <;> omega

theorem head_of {id : Int} {f t : List UInt8} {pr tt a : Int} {mo : Bool} {n : Nat} (hL : PkL f t) (h : mayB id pr tt a mo n = true) (hn : n ≤ 566) :
    HeadOf id f t pr tt a mo n (pkHead id f t pr tt a mo n) := by
  obtain ⟨hi0, hi1, hp0, hp1, ht0, ht1, ha0, ha1, ha2, ha3, _⟩ := mayB_yes h
  have hpos := pkPos_in h
  have hA : (pkAhead id pr tt a mo n).length % 2 = 0 := by
    rw [pkAhead, be2 _ (by omega), be2 _ ⟨hi0, hi1⟩, be2 _ (by omega)]
    simp only [List.length_append, List.length_cons, List.length_nil]
  have hs := sum_whole (pkAhead id pr tt a mo n) (f ++ t) hA
  have hin := sumE_in ⟨(pkAhead id pr tt a mo n ++ (f ++ t)).toArray⟩
  obtain ⟨x0, x1, hx, hx'⟩ := be2_nat ((20 + n : Nat) : Int) (by omega)
  obtain ⟨i0, i1, hi, hi'⟩ := be2_nat id ⟨hi0, hi1⟩
  obtain ⟨p0, p1, hp, hp'⟩ := be2_nat (pkPos a mo) (by omega)
  obtain ⟨s0, s1, hs2, hs'⟩ := be2_nat _ hin
  obtain ⟨f0, f1, f2, f3, t0, t1, t2, t3, rfl, rfl⟩ := pk_explicit hL
  have e : pkHead id [f0, f1, f2, f3] [t0, t1, t2, t3] pr tt a mo n = hd20 x0 x1 i0 i1 p0 p1 (UInt8.ofNat tt.toNat) (UInt8.ofNat pr.toNat) s0 s1 f0 f1 f2 f3 t0 t1 t2 t3 := by
    rw [pkHead, hs2, pkAhead, hi, hp]
    have hx2 : (litN (20 + (n : Int)) 2).reverse = [x0, x1] := hx
    rw [hx2]
    rfl
  have hs3 : sumE ⟨(pkHead id [f0, f1, f2, f3] [t0, t1, t2, t3] pr tt a mo n).toArray⟩ = 0 := hs
  rw [e] at hs3 ⊢
  refine ⟨rfl, hs3, fun r => rfl, fun r => ?_, fun r => ?_, fun r => ?_, fun r => ?_, fun r => ?_, fun r => rfl, fun r => rfl⟩
  · show ((x0.toNat * 256 + x1.toNat : Nat) : Int) = _
    rw [hx']; rfl
  · exact hi'
  · exact hp'
  · show (((UInt8.ofNat pr.toNat).toNat : Nat) : Int) = pr
    rw [ofNat_toNat _ (by omega)]; omega
  · show (((UInt8.ofNat tt.toNat).toNat : Nat) : Int) = tt
    rw [ofNat_toNat _ (by omega)]; omega

section
variable {id : Int} {f t : List UInt8} {pr tt a : Int} {mo : Bool} {n : Nat} {H : List UInt8}
theorem HeadOf.hz (h : HeadOf id f t pr tt a mo n H) (r : List UInt8) : hz (H ++ r) = 20 := by unfold Proofs.Yticchchcobjpdaa.hz; rw [h.b0]
theorem HeadOf.all' (h : HeadOf id f t pr tt a mo n H) (r : List UInt8) : two (H ++ r) 2 = 20 + n := by have := h.all r; omega
theorem HeadOf.take (h : HeadOf id f t pr tt a mo n H) (r : List UInt8) : (H ++ r).take 20 = H := by rw [← h.len]; exact List.take_left
end

theorem pk_reads {id : Int} {f t : List UInt8} {pr tt a : Int} {mo : Bool} (hL : PkL f t) (d z : List UInt8) (h : mayB id pr tt a mo d.length = true) (hn : d.length ≤ 566) :
    rdE (pkHead id f t pr tt a mo d.length ++ d ++ z) = 0 ∧ rdV (pkHead id f t pr tt a mo d.length ++ d ++ z) = pkC id f t pr tt a mo d := by
  have hd := head_of hL h hn
  generalize pkHead id f t pr tt a mo d.length = H at hd ⊢
  obtain ⟨hi0, hi1, hp0, hp1, ht0, ht1, ha0, ha1, ha2, ha3, hmo⟩ := mayB_yes h
  have hpos := pkPos_in h
  obtain ⟨L, hLd⟩ : ∃ L, L = H ++ d ++ z := ⟨_, rfl⟩
  have hLa : L = H ++ (d ++ z) := by rw [hLd, List.append_assoc]
  have hlen : L.length = 20 + (d.length + z.length) := by rw [hLa, List.length_append, List.length_append, hd.len]
  rw [← hLd]
  have eb : b0 L = 69 := by rw [hLa]; exact hd.b0 _
  have ez : hz L = 20 := by rw [hLa]; exact hd.hz _
  have e2 : two L 2 = 20 + d.length := by rw [hLa]; exact hd.all' _
  have e4 : ((two L 4 : Nat) : Int) = id := by rw [hLa]; exact hd.id _
  have e6 : ((two L 6 : Nat) : Int) = pkPos a mo := by rw [hLa]; exact hd.pos _
  have eP : ((pkP L : Nat) : Int) = pr := by rw [hLa]; exact hd.pr _
  have eT : ((pkT L : Nat) : Int) = tt := by rw [hLa]; exact hd.tt _
  have ef : four L 12 = f := by rw [hLa]; exact hd.f _
  have et : four L 16 = t := by rw [hLa]; exact hd.t _
  have es : sumE ⟨(L.take 20).toArray⟩ = 0 := by rw [hLa, hd.take]; exact hd.sum
  have eD : pkData L = d := by
    rw [pkData, e2, ez, hLd, List.take_left' (by rw [List.length_append, hd.len]), ← hd.len, List.drop_left]
  have eA : pkA L = a := by
    unfold pkA
    unfold pkPos at e6
    cases mo <;> simp at e6 <;> omega
  have eM : pkM L = mo := by
    unfold pkM
    unfold pkPos at e6
    cases mo
    · simp at e6
      rw [beq_eq_false_iff_ne]
      omega
    · simp at e6
      rw [beq_iff_eq]
      omega
  have em : pkMayL L = true := by rw [pkMayL, e4, eP, eT, eA, eM, eD]; exact h
  have e0 : rdE L = 0 := by
    rw [rdE, if_neg (by omega), if_neg (by omega), if_neg (by omega), if_neg (by rw [ez, es]; simp), if_neg (by omega), if_neg (by omega), if_neg (by omega), if_neg (by rw [em]; decide)]
  refine ⟨e0, ?_⟩
  rw [rdV, if_pos e0, e4, eP, eT, eA, eM, eD, ef, et]

theorem pk_short {id : Int} {f t : List UInt8} {pr tt a : Int} {mo : Bool} (hL : PkL f t) (d : List UInt8) (h : mayB id pr tt a mo d.length = true) (hn : d.length ≤ 566) :
    rdE ((pkHead id f t pr tt a mo d.length ++ d).take (19 + d.length)) = 7 := by
  have hd := head_of hL h hn
  generalize pkHead id f t pr tt a mo d.length = H at hd ⊢
  by_cases h0 : d.length = 0
  · rw [rdE, if_pos (by rw [List.length_take]; omega)]
  · obtain ⟨L, hLd⟩ : ∃ L, L = (H ++ d).take (19 + d.length) := ⟨_, rfl⟩
    have hLa : L = H ++ d.take (d.length - 1) := by
      rw [hLd, List.take_append, hd.len, List.take_of_length_le (by rw [hd.len]; omega)]
      congr 2
      omega
    have hlen : L.length = 19 + d.length := by rw [hLa, List.length_append, List.length_take, hd.len]; omega
    rw [← hLd]
    have eb : b0 L = 69 := by rw [hLa]; exact hd.b0 _
    have ez : hz L = 20 := by rw [hLa]; exact hd.hz _
    have e2 : two L 2 = 20 + d.length := by rw [hLa]; exact hd.all' _
    have es : sumE ⟨(L.take 20).toArray⟩ = 0 := by rw [hLa, hd.take]; exact hd.sum
    rw [rdE, if_neg (by omega), if_neg (by omega), if_neg (by omega), if_neg (by rw [ez, es]; simp), if_neg (by omega), if_pos (by omega)]

theorem pkBytes_ok {id : Int} {f t : List UInt8} {pr tt a : Int} {mo : Bool} {d : List UInt8} (h : (pkBytes id f t pr tt a mo d).2 = 0) :
    mayB id pr tt a mo d.length = true ∧ d.length ≤ 566 ∧ (pkBytes id f t pr tt a mo d).1 = pkHead id f t pr tt a mo d.length ++ d := by
  unfold pkBytes at h ⊢
  by_cases h1 : mayB id pr tt a mo d.length = false
  · rw [if_pos h1] at h; cases h
  · rw [if_neg h1] at h ⊢
    by_cases h2 : 566 < d.length
    · rw [if_pos h2] at h; cases h
    · rw [if_neg h2]
      exact ⟨by simpa using h1, by omega, rfl⟩
theorem pkBytes_err {id : Int} {f t : List UInt8} {pr tt a : Int} {mo : Bool} {d : List UInt8} (h : ¬ (pkBytes id f t pr tt a mo d).2 = 0) : (pkBytes id f t pr tt a mo d).1 = [] := by
  unfold pkBytes at h ⊢
  by_cases h1 : mayB id pr tt a mo d.length = false
  · rw [if_pos h1]
  · rw [if_neg h1] at h ⊢
    by_cases h2 : 566 < d.length
    · rw [if_pos h2]
    · rw [if_neg h2] at h; exact absurd rfl h

/-! sums -/
theorem sum_comm (A B : List UInt8) (hA : A.length % 2 = 0) (hB : B.length % 2 = 0) : sumE ⟨(A ++ B).toArray⟩ = sumE ⟨(B ++ A).toArray⟩ := by
  rw [sumE_list, sumE_list, wsum_app _ _ hA, wsum_app _ _ hB, Nat.add_comm]
theorem sum_behind (A : List UInt8) (hA : A.length % 2 = 0) : sumE ⟨(A ++ (litN (sumE ⟨A.toArray⟩) 2).reverse).toArray⟩ = 0 := by
  have := sum_whole A [] hA
  simpa using this
theorem sum_ahead (A : List UInt8) : sumE ⟨((litN (sumE ⟨A.toArray⟩) 2).reverse ++ A).toArray⟩ = 0 := by
  have := sum_whole [] A rfl
  simpa using this

/-- what a byte weighs at its place -/
def wgt (k : Nat) : Nat := if k % 2 = 0 then 256 else 1
theorem wsum_set : ∀ (l : List UInt8) (k : Nat) (h : k < l.length) (x : UInt8), wsum (l.set k x) + wgt k * (l[k]).toNat = wsum l + wgt k * x.toNat
  | [a], 0, _, x => by simp [wsum, wgt]; omega
  | [a], k + 1, h, _ => by simp at h
  | a :: b :: r, 0, _, x => by simp [wsum, wgt]; omega
  | a :: b :: r, 1, _, x => by simp [wsum, wgt]; omega
  | a :: b :: r, k + 2, h, x => by
    have hk : k < r.length := by simp only [List.length_cons] at h; omega
    have := wsum_set r k hk x
    have hw : wgt (k + 2) = wgt k := by unfold wgt; rw [Nat.add_mod_right]
    simp only [List.set_cons_succ, wsum, List.getElem_cons_succ, hw]
    omega

theorem fld_eq {x y : Nat} (h : fld x = fld y) : x % 65535 = y % 65535 := by
  unfold fld at h
  split at h <;> split at h <;> omega

theorem flip_sum (l : List UInt8) (k : Nat) (h : k < l.length) (x : UInt8) (p : Nat) (hp : 1 ≤ p ∧ p ≤ 128) (hx : x.toNat = l[k].toNat + p ∨ l[k].toNat = x.toNat + p) :
    sumE ⟨(l.set k x).toArray⟩ ≠ sumE ⟨l.toArray⟩ := by
  have hs := wsum_set l k h x
  rw [sumE_list, sumE_list]
  intro he
  have hf : fld (wsum (l.set k x)) = fld (wsum l) := by omega
  have := fld_eq hf
  unfold wgt at hs
  split at hs <;> omega
end Go.Proofs.Yticchchcobjpdaa
