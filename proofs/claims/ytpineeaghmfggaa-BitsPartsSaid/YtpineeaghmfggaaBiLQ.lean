/- The law BitsParts: the plain facts, and the close of its walk. Condition: numbers that a memory can hold. -/
import Derived.Test.YtpineeaghmfggaaBiLP
namespace Go.Proofs.Ytpineeaghmfggaa
set_option linter.unusedVariables false
set_option linter.unusedSimpArgs false
set_option maxRecDepth 100000
open Go.RowKit

theorem cnt_split (p q r o : Nat → Bool) (h : ∀ i, i < 64 → p i = (q i || r i) ∧ o i = (q i && !r i)) : ∀ l : List Nat, (∀ i ∈ l, i < 64) → (l.filter p).length = (l.filter r).length + (l.filter o).length
  | [], _ => rfl
  | i :: l, hl => by
    have ih := cnt_split p q r o h l (fun j hj => hl j (List.mem_cons_of_mem _ hj))
    obtain ⟨h1, h2⟩ := h i (hl i (List.mem_cons_self ..))
    rw [List.filter_cons, List.filter_cons, List.filter_cons, h1, h2]
    cases hq : q i <;> cases hr : r i <;> simp <;> omega
theorem len_union (a b : Nat) (hb : B64 b) : (rowsN (a ||| b)).length = (rowsN b).length + (rowsN (anN a b)).length := by
  unfold rowsN
  rw [List.length_map, List.length_map, List.length_map]
  exact cnt_split _ (fun i => a.testBit i) (fun i => b.testBit i) _ (fun i hi => ⟨Nat.testBit_or .., tb_an a b i hb hi⟩) _ (fun i hi => List.mem_range.1 hi)
theorem rows_64 (n : Nat) : (rowsN n).length ≤ 64 := by
  have h := rowsK_le n 64
  rw [rowsK_all] at h
  exact h
theorem un_minus (a b : Nat) (ha : B64 a) (hb : B64 b) : unN [anN a b, b] = a ||| b := by
  rw [un_two]
  refine tb_ext (or_b (an_b _ ha) hb) (or_b ha hb) (fun i hi => ?_)
  rw [Nat.testBit_or, Nat.testBit_or, tb_an a b i hb hi]
  cases a.testBit i <;> cases b.testBit i <;> rfl
theorem an_self (a : Nat) (ha : B64 a) : anN a a = 0 := by
  refine tb_ext (an_b _ ha) (by unfold B64; decide) (fun i hi => ?_)
  rw [tb_an a a i ha hi, Nat.zero_testBit]
  cases a.testBit i <;> rfl

theorem bitsParts_walk (A B : Option Addr) (ca cb : Nat) (K L : List Int) (q : Int) (hK : K.length ≤ maxLen) (hL : L.length ≤ maxLen) (w : World) (hA : IntsAt w w.heap.size A K) (hB : IntsAt w w.heap.size B L) :
    Calls Try.prog 7 #[.slice A K.length ca, .slice B L.length cb, .int .i64 q] w fun e w' => e = .returned (.bool true) ∧ Below w.heap.size w w' := by
  by_cases hl : K.length ≤ 200 ∧ L.length ≤ 200
  · obtain ⟨h1, h2⟩ := hl
    have ba := of_b K
    have bb := of_b L
    have bd : B64 (anN (ofN K) (ofN L)) := an_b _ ba
    have bu : B64 (ofN K ||| ofN L) := or_b ba bb
    have bx : B64 (ofN K ||| rowN q) := or_b ba (rowN_b q)
    have bY : B64 (anN (ofN K) (rowN q)) := an_b _ ba
    generalize hgk : ofN K = a at *
    generalize hgl : ofN L = b at *
    exact bitsParts_main A B ca cb K L q a b (anN a b) (a ||| b) (a ||| rowN q) (anN a (rowN q)) (rowsN a).length (rowsN b).length (rowsN (anN a b)).length (rowsN (a ||| b)).length h1 h2 w hA hB
      (Lib.hid (fun w h => by have h := of_any A ca K hK w h; rw [hgk] at h; exact h)) (Lib.hid (fun w h => by have h := of_any B cb L hL w h; rw [hgl] at h; exact h))
      (Lib.hid (fun w => minus_any a b ba bb w))
      (Lib.hid (fun A c w h => by have h := union_any A c [anN a b, b] (by simp [maxLen]) (by intro x hx; simp at hx; rcases hx with rfl | rfl <;> assumption) w h; rw [un_minus a b ba bb] at h; exact h))
      (Lib.hid (fun A c w h => by have h := union_any A c [a, b] (by simp [maxLen]) (by intro x hx; simp at hx; rcases hx with rfl | rfl <;> assumption) w h; rw [un_two] at h; exact h))
      (Lib.hid (fun w => by have h := minus_any a a ba ba w; rw [an_self a ba] at h; exact h)) (Lib.hid of_nil)
      (Lib.hid (fun w => with_any a ba q w)) (Lib.hid (fun w => without_any a ba q w))
      (Lib.hid (fun i hi w => by have h := has_any _ bx (i : Int) w; rw [has_row _ i hi] at h; exact h))
      (Lib.hid (fun i hi w => by have h := has_any _ bY (i : Int) w; rw [has_row _ i hi] at h; exact h))
      (Lib.hid (fun i hi w => by have h := has_any _ ba (i : Int) w; rw [has_row _ i hi] at h; exact h))
      (Lib.hid (fun i hi hne => by
        have e : (q == (i : Int)) = false := beq_eq_false_iff_ne.2 (fun h => hne h.symm)
        rw [Nat.testBit_or, tb_an _ _ i (rowN_b q) hi, tb_row q i hi, e]
        simp))
      (Lib.hid (fun i hi he => by
        have e : (q == (i : Int)) = true := beq_iff_eq.2 he.symm
        rw [Nat.testBit_or, tb_an _ _ i (rowN_b q) hi, tb_row q i hi, e]
        simp))
      (Lib.hid (fun w => len_any a ba w)) (Lib.hid (fun w => len_any b bb w)) (Lib.hid (fun w => len_any _ bd w)) (Lib.hid (fun w => len_any _ bu w))
      (rows_64 _) (rows_64 _) (rows_64 _) (len_union a b bb)
  · exact bitsParts_long A B ca cb K L q (by omega) w hK hL
end Go.Proofs.Ytpineeaghmfggaa
