/- The options of a segment: what package seg's 'size' tells of them. -/
import Derived.Test.YtccbgiapabkjbaaSgS
namespace Go.Proofs.Ytccbgiapabkjbaa
set_option linter.unusedVariables false
set_option linter.unusedSimpArgs false
set_option maxRecDepth 100000
open Go.RowKit
attribute [local go_sem ↓] Go.wp_at_zero Go.wp_at_succ

/-- the number that n bytes are, from a place on -/
def num (l : List UInt8) (a n : Nat) : Nat := bigv ((l.drop a).take n)
theorem num_two_lt (l : List UInt8) (a : Nat) : num l a 2 ≤ 65535 := by
  have h := bigv_lt ((l.drop a).take 2)
  have h2 : ((l.drop a).take 2).length ≤ 2 := by rw [List.length_take]; omega
  have h3 : 256 ^ ((l.drop a).take 2).length ≤ 256 ^ 2 := Nat.pow_le_pow_right (by decide) h2
  unfold num
  have : (256 : Nat) ^ 2 = 65536 := by decide
  omega
theorem num_four_lt (l : List UInt8) (a : Nat) : num l a 4 ≤ 4294967295 := by
  have h := bigv_lt ((l.drop a).take 4)
  have h2 : ((l.drop a).take 4).length ≤ 4 := by rw [List.length_take]; omega
  have h3 : 256 ^ ((l.drop a).take 4).length ≤ 256 ^ 4 := Nat.pow_le_pow_right (by decide) h2
  unfold num
  have : (256 : Nat) ^ 4 = 4294967296 := by decide
  omega
theorem rd_num (l : List UInt8) (a n : Nat) (h1 : 1 ≤ n) (h8 : n ≤ 8) (h : a + n ≤ l.length) : rdBig ⟨l.toArray⟩ (a : Int) (n : Int) = (num l a n : Int) := by
  have h1 : rdOk ⟨l.toArray⟩ (a : Int) (n : Int) = true := by
    have hs : (⟨l.toArray⟩ : ByteArray).size = l.length := rfl
    simp [rdOk, hs]; omega
  rw [rdBig, if_pos h1, Int.toNat_natCast, Int.toNat_natCast]
  rfl

def o0 (l : List UInt8) : Nat := (bat ⟨l.toArray⟩ 0).toNat
def o1 (l : List UInt8) : Nat := (bat ⟨l.toArray⟩ 1).toNat
/-- the MSS that options tell; none: they are none -/
def opts : Nat → List UInt8 → Nat → Option Nat
  | 0, _, n => some n
  | k + 1, l, n =>
    if l.length = 0 ∨ o0 l = 0 then some n
    else if o0 l = 1 then opts k (l.drop 1) n
    else if l.length < 2 ∨ o1 l < 2 ∨ l.length < o1 l then none
    else if o0 l = 2 then (if o1 l = 4 then opts k (l.drop 4) (num l 2 2) else none)
    else opts k (l.drop (o1 l)) n
def optV (r : Option Nat) : Value := match r with
  | none => .tuple #[.int .i64 0, .bool false]
  | some n => .tuple #[.int .i64 (n : Int), .bool true]
theorem opts_le : ∀ (k : Nat) (l : List UInt8) (n m : Nat), n ≤ 65535 → opts k l n = some m → m ≤ 65535
  | 0, l, n, m, hn, h => by simp [opts] at h; omega
  | k + 1, l, n, m, hn, h => by
    rw [opts] at h
    split at h
    · simp at h; omega
    · split at h
      · exact opts_le k _ _ _ hn h
      · split at h
        · cases h
        · split at h
          · split at h
            · exact opts_le k _ _ _ (num_two_lt _ _) h
            · cases h
          · exact opts_le k _ _ _ hn h

def strLen : Value → Nat
  | .string s => s.size
  | _ => 0
theorem ext_tail (l : List UInt8) (a : Nat) : (⟨l.toArray⟩ : ByteArray).extract a l.length = ⟨(l.drop a).toArray⟩ := by
  rw [ext_list', List.take_of_length_le (by rw [List.length_drop]; exact Nat.le_refl _)]

set_option maxHeartbeats 2000000 in
theorem size_any (l0 : List UInt8) (hl : l0.length ≤ 1000000) (w : World) :
    Calls Try.prog 22 #[.string ⟨l0.toArray⟩] w fun e w' => e = .returned (optV (opts l0.length l0 0)) ∧ Below w.heap.size w w' := by
  obtain ⟨R, hR⟩ : ∃ R, R = opts l0.length l0 0 := ⟨_, rfl⟩
  rw [← hR]
  have HR := Lib.hid hR
  clear hR
  go_enter Try.func22, Try.ntmps22
  go_wp2
  go_loopw [0, 4] (fun b n wr => ∃ (k m : Nat) (l : List UInt8), b = .string ⟨l.toArray⟩ ∧ n = .int .i64 m ∧ m ≤ 65535 ∧ l.length ≤ k ∧ l.length ≤ 1000000 ∧ opts k l m = R ∧ Below w.heap.size w wr) (fun b _ _ => strLen b)
  case atStart => exact ⟨l0.length, 0, l0, rfl, rfl, by omega, Nat.le_refl _, hl, HR.out.symm, Below.refl _ w⟩
  case round =>
    obtain ⟨k, m, l, rfl, rfl, hm, hk, hl1, ho, hb⟩ := hrel
    clear HR hl
    have HB := Lib.hid hb
    have hm1 : (m : Int) ≤ 65535 := by omega
    clear hb
    by_cases h0 : l.length = 0
    · have hl0 : l = [] := List.eq_nil_of_length_eq_zero h0
      have hR : R = some m := by
        rw [← ho]
        cases k with
        | zero => rfl
        | succ k => rw [opts, if_pos (Or.inl h0)]
      have HRR := Lib.hid hR
      subst hl0
      clear ho hR
      go_wp2
      go_ret2
      exact ⟨by rw [HRR.out]; rfl, HB.out⟩
    obtain ⟨k, rfl⟩ : ∃ k', k = k' + 1 := ⟨k - 1, by omega⟩
    have HO := Lib.hid ho
    have hne : ¬ l = [] := by rintro rfl; exact h0 rfl
    have hp0 : (0 : Int) < (l.length : Int) := by omega
    have hie : l.isEmpty = false := by simpa using hne
    have g0 := bat_get ⟨l.toArray⟩ 0 (by show 0 < l.length; omega)
    have HX := Lib.hid (show o0 l = (bat ⟨l.toArray⟩ 0).toNat from rfl)
    generalize bat ⟨l.toArray⟩ 0 = u0 at g0 HX
    clear ho
    by_cases c0 : u0.toNat = 0
    · have d0 : (((u0.toNat : Nat) : Int) != 0) = false := by simpa using c0
      have hR : R = some m := by
        rw [← HO.out, opts, if_pos (Or.inr (HX.out.trans c0))]
      have HRR := Lib.hid hR
      clear hR
      go_wp2
      go_ret2
      exact ⟨by rw [HRR.out]; rfl, HB.out⟩
    have d0 : (((u0.toNat : Nat) : Int) != 0) = true := by simpa using c0
    have HN0 : RowKit.Hid (¬ (l.length = 0 ∨ o0 l = 0)) := by
      show ¬ (l.length = 0 ∨ o0 l = 0)
      rw [HX.out]
      omega
    clear c0
    by_cases c1 : u0.toNat = 1
    · have d1 : ((u0.toNat : Nat) : Int) = 1 := by omega
      have ho := HO.out
      rw [opts, if_neg HN0.out, if_pos (HX.out.trans c1)] at ho
      have hex := ext_tail l 1
      obtain ⟨T, hT⟩ : ∃ T, T = l.drop 1 := ⟨_, rfl⟩
      rw [← hT] at hex ho
      have HT := Lib.hid hT
      clear hT
      have h1l : (1 : Int) ≤ (l.length : Int) := by omega
      have HO2 := Lib.hid ho
      clear ho c1
      go_wp2
      go_roundw
      case rel => exact ⟨k, m, T, rfl, rfl, hm, by rw [HT.out, List.length_drop]; omega, by rw [HT.out, List.length_drop]; omega, HO2.out, HB.out⟩
      case measure => (show T.length < l.length); rw [HT.out, List.length_drop]; omega
    have d1 : (((u0.toNat : Nat) : Int) == 1) = false := by
      rw [beq_eq_false_iff_ne]; omega
    have HN1 : RowKit.Hid (¬ o0 l = 1) := by
      show ¬ o0 l = 1
      rw [HX.out]
      exact c1
    have HC1 := Lib.hid c1
    clear c1
    by_cases c2 : l.length < 2
    · have c2' : (l.length : Int) < 2 := by omega
      have hR : R = none := by rw [← HO.out, opts, if_neg HN0.out, if_neg HN1.out, if_pos (Or.inl c2)]
      have HRR := Lib.hid hR
      clear hR
      go_wp2
      go_ret2
      exact ⟨by rw [HRR.out]; rfl, HB.out⟩
    have c2' : 2 ≤ (l.length : Int) := by omega
    have g1 := bat_get ⟨l.toArray⟩ 1 (by show 1 < l.length; clear c2; omega)
    have HY := Lib.hid (show o1 l = (bat ⟨l.toArray⟩ 1).toNat from rfl)
    generalize bat ⟨l.toArray⟩ 1 = u1 at g1 HY
    have hp1 : (1 : Int) < (l.length : Int) := by omega
    by_cases c3 : u1.toNat < 2
    · have c3' : ((u1.toNat : Nat) : Int) < 2 := by omega
      have hR : R = none := by rw [← HO.out, opts, if_neg HN0.out, if_neg HN1.out, if_pos (Or.inr (Or.inl (by rw [HY.out]; exact c3)))]
      have HRR := Lib.hid hR
      clear hR
      go_wp2
      go_ret2
      exact ⟨by rw [HRR.out]; rfl, HB.out⟩
    have c3' : 2 ≤ ((u1.toNat : Nat) : Int) := by omega
    have hw1 : IntKind.i64.wrap ((u1.toNat : Nat) : Int) = ((u1.toNat : Nat) : Int) := IntWalk.i64_in _ (by have := u1.toNat_lt; omega)
    by_cases c4 : l.length < u1.toNat
    · have c4' : (l.length : Int) < ((u1.toNat : Nat) : Int) := by omega
      have hR : R = none := by rw [← HO.out, opts, if_neg HN0.out, if_neg HN1.out, if_pos (Or.inr (Or.inr (by rw [HY.out]; exact c4)))]
      have HRR := Lib.hid hR
      clear hR
      go_wp2
      go_ret2
      exact ⟨by rw [HRR.out]; rfl, HB.out⟩
    have c4' : ((u1.toNat : Nat) : Int) ≤ (l.length : Int) := by omega
    have HN2 : RowKit.Hid (¬ (l.length < 2 ∨ o1 l < 2 ∨ l.length < o1 l)) := by
      show ¬ (l.length < 2 ∨ o1 l < 2 ∨ l.length < o1 l)
      rw [HY.out]
      omega
    clear c2 c3 c4
    by_cases c5 : u0.toNat = 2
    · have d5 : ((u0.toNat : Nat) : Int) = 2 := by omega
      have HC5 := Lib.hid c5
      clear c5 d0 d1
      by_cases c6 : u1.toNat = 4
      · have d6 : ((u1.toNat : Nat) : Int) = 4 := by omega
        have ho := HO.out
        rw [opts, if_neg HN0.out, if_neg HN1.out, if_neg HN2.out, if_pos (HX.out.trans HC5.out), if_pos (HY.out.trans c6)] at ho
        have hB := fun w => readBig_any w ⟨l.toArray⟩ 2 2 (by show l.length ≤ _; omega) (by omega) (by omega)
        have hr := rd_num l 2 2 (by decide) (by decide) (by omega)
        have hr2 : rdBig ⟨l.toArray⟩ 2 2 = (num l 2 2 : Int) := hr
        rw [hr2] at hB
        have hnl := num_two_lt l 2
        have hnl' : (num l 2 2 : Int) ≤ 65535 := by omega
        generalize num l 2 2 = q at ho hB hnl hnl'
        have hwq : IntKind.i64.wrap (q : Int) = (q : Int) := IntWalk.i64_in _ (by omega)
        have hex := ext_tail l 4
        obtain ⟨T, hT⟩ : ∃ T, T = l.drop 4 := ⟨_, rfl⟩
        rw [← hT] at hex ho
        have HT := Lib.hid hT
        clear hT
        have h4l : (4 : Int) ≤ (l.length : Int) := by omega
        have HO2 := Lib.hid ho
        have HBG := Lib.hid hB
        clear ho c6 hB hr hr2
        go_wp2_with fail
        refine (HBG.out _).mono ?_
        rintro e w1 ⟨rfl, hb1⟩
        have HB1 := Lib.hid (Below.step HB.out hb1)
        clear hb1
        go_wp2
        go_roundw
        case rel => exact ⟨k, q, T, rfl, rfl, hnl, by rw [HT.out, List.length_drop]; omega, by rw [HT.out, List.length_drop]; omega, HO2.out, HB1.out⟩
        case measure => (show T.length < l.length); rw [HT.out, List.length_drop]; omega
      · have d6 : (((u1.toNat : Nat) : Int) != 4) = true := by
          rw [bne_iff_ne]; omega
        have hR : R = none := by rw [← HO.out, opts, if_neg HN0.out, if_neg HN1.out, if_neg HN2.out, if_pos (HX.out.trans HC5.out), if_neg (by rw [HY.out]; exact c6)]
        have HRR := Lib.hid hR
        clear hR
        go_wp2
        go_ret2
        exact ⟨by rw [HRR.out]; rfl, HB.out⟩
    · have d5 : (((u0.toNat : Nat) : Int) == 2) = false := by
        rw [beq_eq_false_iff_ne]; omega
      have ho := HO.out
      rw [opts, if_neg HN0.out, if_neg HN1.out, if_neg HN2.out, if_neg (by rw [HX.out]; exact c5), HY.out] at ho
      have hex := ext_tail l u1.toNat
      obtain ⟨T, hT⟩ : ∃ T, T = l.drop u1.toNat := ⟨_, rfl⟩
      rw [← hT] at hex ho
      have HT := Lib.hid hT
      clear hT
      have HO2 := Lib.hid ho
      clear ho c5
      go_wp2
      go_roundw
      case rel => exact ⟨k, m, T, rfl, rfl, hm, by rw [HT.out, List.length_drop]; omega, by rw [HT.out, List.length_drop]; omega, HO2.out, HB.out⟩
      case measure => (show T.length < l.length); rw [HT.out, List.length_drop]; omega
end Go.Proofs.Ytccbgiapabkjbaa
