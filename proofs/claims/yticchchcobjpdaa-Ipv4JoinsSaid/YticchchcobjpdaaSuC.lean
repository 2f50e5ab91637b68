/- slices.SortStableFunc at structs: swapRange and rotate: a world of the sort comes of a world of the sort. No condition beyond what each lemma says. -/
import Derived.Test.YticchchcobjpdaaStB
import Derived.Test.YticchchcobjpdaaBase
import Derived.Test.YticchchcobjpdaaLaw
import Derived.Sort.WalkB2
import Derived.Sort.WalkB12
import Derived.Deep.RegionHeld3
import Derived.Deep.DeepCutAuto
import Derived.Deep.CutRange
import Derived.Deep.DrawnRows
import Derived.Deep.LoopGhost
namespace Go.Proofs.Yticchchcobjpdaa
set_option linter.unusedVariables false
set_option linter.unusedSimpArgs false
set_option linter.unusedSectionVars false
set_option maxRecDepth 100000
open Go.RowKit Go.Proofs Go.Shelf Go.Lib Go.Sort
attribute [local go_sem ↓] Go.wp_at_zero Go.wp_at_succ

/-- the size of an element, by a name that the walk does not open -/
def stK : Nat := 14
theorem zStK (w : World) : (Go.sizeOf 25).run Try.prog w = .ok stK w := Try.sizeOf25 w
theorem zStE (w : World) : (Go.sizeOf (Try.prog.elem 51)).run Try.prog w = .ok stK w := Try.sizeOf25 w
attribute [local go_sem ↓] zStK zStE
attribute [local irreducible] stK
variable {α : Type} [Inhabited α] {enc : α → List Value} {cf : α → α → Int} {g : Nat} {cb : Array Value} {blk off : Nat} {d0 : Array α} {w0 : World}

/-- how far the exchange of two runs has gone -/
def RSt (X A Y B Z : List α) (i : Nat) (dk : Array α) : Prop := ∃ A1 A2 B1 B2, A = A1 ++ A2 ∧ B = B1 ++ B2 ∧ A1.length = i ∧ B1.length = i ∧ dk = (X ++ B1 ++ A2 ++ Y ++ A1 ++ B2 ++ Z).toArray
theorem RSt.start (X A Y B Z : List α) : RSt X A Y B Z 0 (X ++ A ++ Y ++ B ++ Z).toArray := ⟨[], A, [], B, rfl, rfl, rfl, rfl, by simp⟩
theorem RSt.step {X A Y B Z : List α} {i : Nat} {dk : Array α} (h : RSt X A Y B Z i dk) (hAB : B.length = A.length) (hi : i < A.length) : RSt X A Y B Z (i + 1) (swp dk (X.length + i) (X.length + A.length + Y.length + i)) := by
  obtain ⟨A1, A2, B1, B2, rfl, rfl, h1, h2, rfl⟩ := h
  rw [List.length_append, List.length_append] at hAB
  rw [List.length_append] at hi
  cases A2 with
  | nil => simp at hi; omega
  | cons x A2 =>
    cases B2 with
    | nil => simp at hAB; omega
    | cons y B2 =>
      refine ⟨A1 ++ [x], A2, B1 ++ [y], B2, by simp, by simp, by simp [h1], by simp [h2], ?_⟩
      have h := range_step X A1 A2 Y B1 B2 Z x y (by omega)
      rw [h1] at h
      rw [← h]
      congr 1
      simp [h1]; omega
theorem RSt.done {X A Y B Z : List α} {dk : Array α} (h : RSt X A Y B Z A.length dk) (hAB : B.length = A.length) : dk = (X ++ B ++ Y ++ A ++ Z).toArray := by
  obtain ⟨A1, A2, B1, B2, rfl, rfl, h1, h2, rfl⟩ := h
  rw [List.length_append] at h1 h2
  have e1 : A2 = [] := List.length_eq_zero_iff.1 (by omega)
  have e2 : B2 = [] := List.length_eq_zero_iff.1 (by rw [List.length_append, List.length_append] at hAB; omega)
  subst e1; subst e2
  simp

set_option maxHeartbeats 4000000 in
theorem swapRange_any (R : RowK enc stK w0 blk off d0) (X A Y B Z : List α) (a b n N cap : Nat) (hAB : B.length = A.length) (ha : a = X.length) (hb : b = X.length + A.length + Y.length) (hn : n = A.length) (hN : N = (X ++ A ++ Y ++ B ++ Z).length)
    (hs : d0.size = N) (hsz : N < 4611686018427387904) (w : World) (S : SWK enc stK w0 blk off (X ++ A ++ Y ++ B ++ Z).toArray w) :
    Calls Try.prog 76 #[.slice (some ⟨blk, off, none⟩) N cap, .int .i64 a, .int .i64 b, .int .i64 n, .func (.func g) #[] cb] w fun e w' =>
      e = .returned (.tuple #[]) ∧ SWK enc stK w0 blk off (X ++ B ++ Y ++ A ++ Z).toArray w' := by
  have S0 : Aside (SWK enc stK w0 blk off (X ++ A ++ Y ++ B ++ Z).toArray w) := S
  have hlen : N = X.length + A.length + Y.length + B.length + Z.length := by rw [hN]; simp only [List.length_append]
  have han : a + n ≤ b := by omega
  have hbn : b + n ≤ N := by omega
  have hsd : (X ++ A ++ Y ++ B ++ Z).toArray.size = N := by rw [List.size_toArray, hN]
  have HS : Hid (RSt X A Y B Z 0 (X ++ A ++ Y ++ B ++ Z).toArray) := Lib.hid (RSt.start X A Y B Z)
  have HAB := Lib.hid hAB
  have HE := Lib.hid (And.intro ha (And.intro hb hn))
  clear S hlen hAB ha hb hn hN
  generalize (X ++ A ++ Y ++ B ++ Z).toArray = d at S0 hsd HS
  obtain ⟨dq, hdq⟩ : ∃ dq, dq = (X ++ B ++ Y ++ A ++ Z).toArray := ⟨_, rfl⟩
  rw [← hdq]
  have HQ := Lib.hid hdq
  clear hdq
  have mixed : Try.prog.follows .mixedOrders = true := by kernel_rfl
  go_enter Try.func76, Try.ntmps76
  go_wp2
  go_loopg [10] n (fun kx s10 wr => ∃ (i : Nat) (dk : Array α), s10 = .int .i64 i ∧ i ≤ n ∧ n - i ≤ kx ∧ dk.size = N ∧ Aside (SWK enc stK w0 blk off dk wr) ∧ Hid (RSt X A Y B Z i dk))
  case atStart => exact ⟨0, d, rfl, by omega, by omega, hsd, S0, HS⟩
  case round =>
    clear S0 HS
    obtain ⟨i, dk, rfl, hi, hkx, hds, S1, HR⟩ := hrel
    by_cases hlt : i < n
    · have hltz : (i : Int) < (n : Int) := by omega
      have ea3 : ((a : Int) + (i : Int)).toNat = a + i := by omega
      have pa3 : (0 : Int) ≤ (a : Int) + (i : Int) := by omega
      have ba3 : (a : Int) + (i : Int) < (N : Int) := by omega
      have ra3 : IntKind.i64.wrap ((a : Int) + (i : Int)) = (a : Int) + (i : Int) := by rw [IntKind.wrap_i64]; omega
      have ec3 : ((b : Int) + (i : Int)).toNat = b + i := by omega
      have pc3 : (0 : Int) ≤ (b : Int) + (i : Int) := by omega
      have bc3 : (b : Int) + (i : Int) < (N : Int) := by omega
      have rc3 : IntKind.i64.wrap ((b : Int) + (i : Int)) = (b : Int) + (i : Int) := by rw [IntKind.wrap_i64]; omega
      have S2 : Aside (SWK enc stK w0 blk off (swp dk (a + i) (b + i)) ((wr.drew.setCells blk (off + (a + i) * stK) (enc dk[b + i]!)).setCells blk (off + (b + i) * stK) (enc dk[a + i]!))) := S1.out.swapped R (a + i) (b + i) (by omega) (by omega)
      have l3a := S1.out.ld1 R (by omega) Try.prog (a + i) (by omega)
      have l3b := S1.out.ld1 R (by omega) Try.prog (b + i) (by omega)
      have s3a := S1.out.st1 R (by omega) Try.prog (a + i) (by omega) dk[b + i]!
      have s3b := S1.out.st2 R (by omega) Try.prog (a + i) (b + i) (by omega) (by omega) dk[b + i]! dk[a + i]!
      have n3a : (enc dk[a + i]!).length = stK := R.hk _
      have n3b : (enc dk[b + i]!).length = stK := R.hk _
      generalize enc dk[a + i]! = cI3 at S2 l3a s3b n3a
      generalize enc dk[b + i]! = cJ3 at S2 l3b s3a s3b n3b
      clear S1
      go_wp2_with fail
      go_big_region_o
      clear l3a l3b s3a s3b
      generalize (wr.drew.setCells blk (off + (a + i) * stK) cJ3).setCells blk (off + (b + i) * stK) cI3 = w2 at S2 ⊢
      go_wp2
      go_roundg (n - (i + 1))
      case measure => omega
      case rel => exact ⟨i + 1, swp dk (a + i) (b + i), by go_num, by omega, Nat.le_refl _, by rw [size_swp]; exact hds, S2, Lib.hid (by
        obtain ⟨ha, hb, hn⟩ := HE.out
        have := HR.out.step HAB.out (by omega)
        rw [← hb, ← ha] at this
        exact this)⟩
    · have hltz : ¬ (i : Int) < (n : Int) := by omega
      go_wp2
      go_end0
      refine ⟨rfl, ?_⟩
      obtain ⟨ha, hb, hn⟩ := HE.out
      have e : i = A.length := by omega
      rw [e] at HR
      rw [HQ.out, ← HR.out.done HAB.out]
      exact S1.out

/-- how far a rotation has gone -/
def Rot (X U V Z : List α) (m i j : Nat) (dk : Array α) : Prop := ∃ D1 U' V' D2, U'.length = i ∧ V'.length = j ∧ 0 < i ∧ 0 < j ∧ m = X.length + D1.length + i ∧ dk = (X ++ D1 ++ U' ++ V' ++ (D2 ++ Z)).toArray ∧ V ++ U = D1 ++ V' ++ U' ++ D2

set_option maxHeartbeats 4000000 in
theorem rotate_any (R : RowK enc stK w0 blk off d0) (X U V Z : List α) (a m b N cap : Nat) (hU : 0 < U.length) (hV : 0 < V.length) (ha : a = X.length) (hm : m = X.length + U.length) (hb : b = m + V.length) (hN : N = (X ++ U ++ V ++ Z).length)
    (hs : d0.size = N) (hsz : N < 4611686018427387904) (w : World) (S : SWK enc stK w0 blk off (X ++ U ++ V ++ Z).toArray w) :
    Calls Try.prog 75 #[.slice (some ⟨blk, off, none⟩) N cap, .int .i64 a, .int .i64 m, .int .i64 b, .func (.func g) #[] cb] w fun e w' =>
      e = .returned (.tuple #[]) ∧ SWK enc stK w0 blk off (X ++ V ++ U ++ Z).toArray w' := by
  have S0 : Aside (SWK enc stK w0 blk off (X ++ U ++ V ++ Z).toArray w) := S
  have hlen : N = X.length + U.length + V.length + Z.length := by rw [hN]; simp only [List.length_append]
  have hbN : b ≤ N := by omega
  have ham : a < m := by omega
  have hmb : m < b := by omega
  have HS : Hid (Rot X U V Z m (m - a) (b - m) (X ++ U ++ V ++ Z).toArray) := Lib.hid ⟨[], U, V, [], by omega, by omega, by omega, by omega, by simp; omega, by simp, by simp⟩
  have SR : Aside (∀ (X A Y B Z : List α) (a b n : Nat) (w : World), B.length = A.length → a = X.length → b = X.length + A.length + Y.length → n = A.length → N = (X ++ A ++ Y ++ B ++ Z).length → SWK enc stK w0 blk off (X ++ A ++ Y ++ B ++ Z).toArray w →
      Calls Try.prog 76 #[.slice (some ⟨blk, off, none⟩) N cap, .int .i64 a, .int .i64 b, .int .i64 n, .func (.func g) #[] cb] w fun e w' => e = .returned (.tuple #[]) ∧ SWK enc stK w0 blk off (X ++ B ++ Y ++ A ++ Z).toArray w') :=
    fun X A Y B Z a b n w h1 h2 h3 h4 h5 h6 => swapRange_any R X A Y B Z a b n N cap h1 h2 h3 h4 h5 hs hsz w h6
  have HX := Lib.hid ha
  have HN := Lib.hid hN
  have e1 : ((m - a : Nat) : Int) = (m : Int) - (a : Int) := by omega
  have e2 : ((b - m : Nat) : Int) = (b : Int) - (m : Int) := by omega
  clear S hlen hU hV ha hm hb hN
  generalize (X ++ U ++ V ++ Z).toArray = d at S0 HS
  obtain ⟨dq, hdq⟩ : ∃ dq, dq = (X ++ V ++ U ++ Z).toArray := ⟨_, rfl⟩
  rw [← hdq]
  have HQ := Lib.hid hdq
  clear hdq
  go_enter Try.func75, Try.ntmps75
  go_wp2
  go_loopg [10, 11] (b - a) (fun kx s10 s11 wr => ∃ (i j : Nat) (dk : Array α), s10 = .int .i64 i ∧ s11 = .int .i64 j ∧ i + j ≤ kx ∧ a + i ≤ m ∧ m + j ≤ b ∧ Aside (SWK enc stK w0 blk off dk wr) ∧ Hid (Rot X U V Z m i j dk))
  case atStart => exact ⟨m - a, b - m, d, by rw [e1], by rw [e2], by omega, by omega, by omega, S0, HS⟩
  case round =>
    clear S0 HS e1 e2
    obtain ⟨i, j, dk, rfl, rfl, hkx, hai, hjb, S1, HR⟩ := hrel
    obtain ⟨D1, U', V', D2, hi, hj, hi0, hj0, hm, hd, hVU⟩ := HR.out
    have hNN : N = (X ++ D1 ++ U' ++ V' ++ (D2 ++ Z)).length := by
      have h1 := congrArg List.length hVU
      rw [HN.out]
      simp only [List.length_append] at h1 ⊢
      omega
    have HVU := Lib.hid hVU
    have HD := Lib.hid hd
    have HI := Lib.hid (And.intro hi hj)
    have HM := Lib.hid hm
    have HNN := Lib.hid hNN
    clear HR hVU hd hi hj hm hNN
    have z1 : (m : Int) - (i : Int) = ((m - i : Nat) : Int) := by omega
    by_cases hij : i = j
    · subst hij
      have hc := SR.out (X ++ D1) U' [] V' (D2 ++ Z) (m - i) m i wr (by rw [HI.out.1, HI.out.2]) (by have := HM.out; simp only [List.length_append]; omega) (by have := HM.out; have := HI.out.1; simp only [List.length_append, List.length_nil]; omega) HI.out.1.symm (by rw [HNN.out]; simp) (by have := S1.out; rw [HD.out] at this; simpa using this)
      rw [← z1] at hc
      have HC := Lib.hid hc
      clear hc S1 z1
      go_wp2_with fail
      refine HC.out.mono ?_
      rintro e w2 ⟨rfl, S2⟩
      go_wp2
      go_end0
      refine ⟨rfl, ?_⟩
      have e : X ++ V ++ U ++ Z = X ++ D1 ++ V' ++ [] ++ U' ++ (D2 ++ Z) := by
        rw [List.append_assoc X V U, HVU.out]; simp
      rw [HQ.out, e]
      exact S2
    · have hne : ((i : Int) != (j : Int)) = true := by rw [bne_iff_ne]; omega
      have hne2 : ¬ (i : Int) = (j : Int) := by omega
      by_cases hgt : j < i
      · have hgz : (j : Int) < (i : Int) := by omega
        have eU : U'.take j ++ U'.drop j = U' := List.take_append_drop j U'
        have lT : (U'.take j).length = j := by rw [List.length_take, HI.out.1]; omega
        have lD : (U'.drop j).length = i - j := by rw [List.length_drop, HI.out.1]
        have hc := SR.out (X ++ D1) (U'.take j) (U'.drop j) V' (D2 ++ Z) (m - i) m j wr (by rw [HI.out.2, lT]) (by have := HM.out; simp only [List.length_append]; omega) (by have := HM.out; rw [lT, lD]; simp only [List.length_append]; omega) lT.symm (by rw [HNN.out, List.append_assoc (X ++ D1) (U'.take j) (U'.drop j), eU]) (by have := S1.out; rw [HD.out] at this; rw [List.append_assoc (X ++ D1) (U'.take j) (U'.drop j), eU]; exact this)
        rw [← z1] at hc
        have HC := Lib.hid hc
        have HEU := Lib.hid (And.intro eU (And.intro lT lD))
        have zs : (i : Int) - (j : Int) = ((i - j : Nat) : Int) := by omega
        have HZ := Lib.hid zs
        clear hc S1 eU lT lD zs z1
        go_wp2_with fail
        refine HC.out.mono ?_
        rintro e w2 ⟨rfl, S2⟩
        have S3 : Aside (SWK enc stK w0 blk off (X ++ D1 ++ V' ++ U'.drop j ++ U'.take j ++ (D2 ++ Z)).toArray w2) := S2
        clear S2
        go_wp2
        go_roundg (i - j + j)
        case measure => omega
        case rel =>
          obtain ⟨eU, lT, lD⟩ := HEU.out
          refine ⟨i - j, j, _, by rw [HZ.out], rfl, Nat.le_refl _, by omega, by omega, S3, Lib.hid ⟨D1 ++ V', U'.drop j, U'.take j, D2, lD, lT, by omega, by omega, ?_, by simp, ?_⟩⟩
          · have := HM.out; have := HI.out.2; simp only [List.length_append]; omega
          · rw [HVU.out]
            conv => lhs; rw [← eU]
            simp
      · have hgz : ¬ (j : Int) < (i : Int) := by omega
        have hgz2 : (i : Int) < (j : Int) := by omega
        have eV : V'.take (j - i) ++ V'.drop (j - i) = V' := List.take_append_drop _ V'
        have lT : (V'.take (j - i)).length = j - i := by rw [List.length_take, HI.out.2]; omega
        have lD : (V'.drop (j - i)).length = i := by rw [List.length_drop, HI.out.2]; omega
        have hc := SR.out (X ++ D1) U' (V'.take (j - i)) (V'.drop (j - i)) (D2 ++ Z) (m - i) (m + j - i) i wr (by rw [HI.out.1, lD]) (by have := HM.out; simp only [List.length_append]; omega) (by have := HM.out; have := HI.out.1; rw [lT]; simp only [List.length_append]; omega) HI.out.1.symm (by rw [HNN.out, List.append_assoc (X ++ D1 ++ U') (V'.take (j - i)) (V'.drop (j - i)), eV]) (by have := S1.out; rw [HD.out] at this; rw [List.append_assoc (X ++ D1 ++ U') (V'.take (j - i)) (V'.drop (j - i)), eV]; exact this)
        have z2 : (m : Int) + (j : Int) - (i : Int) = ((m + j - i : Nat) : Int) := by omega
        rw [← z1, ← z2] at hc
        have HC := Lib.hid hc
        have HEU := Lib.hid (And.intro eV (And.intro lT lD))
        have zs : (j : Int) - (i : Int) = ((j - i : Nat) : Int) := by omega
        have HZ := Lib.hid zs
        clear hc S1 eV lT lD zs z1 z2
        go_wp2_with fail
        refine HC.out.mono ?_
        rintro e w2 ⟨rfl, S2⟩
        have S3 : Aside (SWK enc stK w0 blk off (X ++ D1 ++ V'.drop (j - i) ++ V'.take (j - i) ++ U' ++ (D2 ++ Z)).toArray w2) := S2
        clear S2
        go_wp2
        go_roundg (i + (j - i))
        case measure => omega
        case rel =>
          obtain ⟨eV, lT, lD⟩ := HEU.out
          refine ⟨i, j - i, _, rfl, by rw [HZ.out], Nat.le_refl _, by omega, by omega, S3, Lib.hid ⟨D1, V'.drop (j - i), V'.take (j - i), U' ++ D2, lD, lT, by omega, by omega, ?_, by simp, ?_⟩⟩
          · have := HM.out; omega
          · rw [HVU.out]
            conv => lhs; rw [← eV]
            simp
end Go.Proofs.Yticchchcobjpdaa
