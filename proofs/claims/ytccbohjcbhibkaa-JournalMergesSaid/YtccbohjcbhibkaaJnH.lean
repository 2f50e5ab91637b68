/- What slots are read as: plain facts, and rows of records. No walk is in sight. -/
import Derived.Test.YtccbohjcbhibkaaJnG
import Derived.Test.YtccbohjcbhibkaaStrA
namespace Go.Proofs.Ytccbohjcbhibkaa
set_option linter.unusedVariables false
set_option linter.unusedSimpArgs false
open Go.RowKit

theorem z64_len : z64.length = 64 := by decide
/-- the sector that is read at a place: noughts, where none stands there -/
def secAt (L : List (List UInt8)) (i : Nat) : List UInt8 := if (L.getD i []).length = 64 then L.getD i [] else z64
theorem secAt_len (L : List (List UInt8)) (i : Nat) : (secAt L i).length = 64 := by
  unfold secAt
  split
  · assumption
  · exact z64_len
theorem secAt_out (L : List (List UInt8)) (i : Nat) (h : L.length ≤ i) : secAt L i = z64 := by
  unfold secAt
  have e : L.getD i [] = [] := by simp [List.getD_eq_getElem?_getD, List.getElem?_eq_none h]
  rw [e, if_neg (by decide)]
theorem secAt_yes (L : List (List UInt8)) (i : Nat) (h : i < L.length) (hl : (L[i]).length = 64) : secAt L i = L[i] := by
  unfold secAt
  have e : L.getD i [] = L[i] := by simp [List.getD_eq_getElem?_getD, List.getElem?_eq_getElem h]
  rw [e, if_pos hl]
theorem secAt_no (L : List (List UInt8)) (i : Nat) (h : i < L.length) (hl : ¬ (L[i]).length = 64) : secAt L i = z64 := by
  unfold secAt
  have e : L.getD i [] = L[i] := by simp [List.getD_eq_getElem?_getD, List.getElem?_eq_getElem h]
  rw [e, if_neg hl]
/-- a slot's sectors -/
def slotP (L : List (List UInt8)) (s j : Nat) : List UInt8 := secAt L (s * 6 + j)
/-- the records of the first k slots -/
def recsK (arr ep : Int) (L : List (List UInt8)) : Nat → List Rc
  | 0 => []
  | k + 1 => recsK arr ep L k ++ (if slOk arr ep (slotP L k) then [slR (slotP L k)] else [])
theorem recs_yes {arr ep : Int} {L : List (List UInt8)} {k : Nat} (h : slOk arr ep (slotP L k) = true) : recsK arr ep L (k + 1) = recsK arr ep L k ++ [slR (slotP L k)] := by rw [recsK, if_pos h]
theorem recs_no {arr ep : Int} {L : List (List UInt8)} {k : Nat} (h : slOk arr ep (slotP L k) = false) : recsK arr ep L (k + 1) = recsK arr ep L k := by rw [recsK, h]; simp
theorem recs_le (arr ep : Int) (L : List (List UInt8)) : ∀ k, (recsK arr ep L k).length ≤ k
  | 0 => Nat.le_refl _
  | k + 1 => by
    have ih := recs_le arr ep L k
    rw [recsK, List.length_append]
    split
    · simp; omega
    · simp; omega
/-- the cells of records -/
def flat (L : List Rc) : List Value := L.flatMap (fun r => (rcC r).toList)
theorem flat_len (L : List Rc) : (flat L).length = L.length * 7 := by
  unfold flat
  induction L with
  | nil => rfl
  | cons r l ih => rw [List.flatMap_cons, List.length_append, ih, List.length_cons, Array.length_toList, rcC_size]; omega
theorem flat_snoc (L : List Rc) (r : Rc) : flat (L ++ [r]) = flat L ++ (rcC r).toList := by simp [flat]
/-- the part while it is laid down -/
def pC (P : Nat → List UInt8) (k : Nat) : Array Value := ((List.range 6).map (fun j => if j < k then sv (P j) else sv [])).toArray
theorem pC_size (P : Nat → List UInt8) (k : Nat) : (pC P k).size = 6 := by simp [pC]
theorem pC_get (P : Nat → List UInt8) (k j : Nat) (hj : j < 6) : (pC P k)[j]? = some (if j < k then sv (P j) else sv []) := by
  rw [pC, List.getElem?_toArray, List.getElem?_map, List.getElem?_range hj]; rfl
theorem pC_set (P : Nat → List UInt8) (k : Nat) (hk : k < 6) : (pC P k).setIfInBounds k (sv (P k)) = pC P (k + 1) := by
  apply Array.ext_getElem?
  intro j
  rw [Array.getElem?_setIfInBounds]
  by_cases hj : j < 6
  · rw [pC_get P (k + 1) j hj]
    by_cases h : k = j
    · subst h
      simp [pC_size, hk]
    · rw [if_neg h, pC_get P k j hj]
      congr 1
      by_cases h1 : j < k
      · rw [if_pos h1, if_pos (by omega)]
      · rw [if_neg h1, if_neg (by omega)]
  · rw [if_neg (by omega), Array.getElem?_eq_none (by rw [pC_size]; omega), Array.getElem?_eq_none (by rw [pC_size]; omega)]
theorem pC_set2 (P : Nat → List UInt8) (k : Nat) (hk : k < 6) (v : Value) : ((pC P k).setIfInBounds k v).setIfInBounds k (sv (P k)) = pC P (k + 1) := by
  rw [Array.setIfInBounds_setIfInBounds, pC_set P k hk]
theorem pC_zero (P : Nat → List UInt8) : pC P 0 = #[sv [], sv [], sv [], sv [], sv [], sv []] := by
  simp [pC, List.range, List.range.loop]
theorem Blk.part {w : World} {q : Nat} {e : TypeId} {P : Nat → List UInt8} (h : Blk w q e (pC P 6)) : PartAt w q P := by
  refine ⟨h.lt, fun j hj => ?_⟩
  rw [h.cell, pC_get P 6 j hj, if_pos hj]
theorem grown_of_below {w w' : World} (hb : Below w.heap.size w w') : w.grownBy w' none := ⟨hb.os, hb.tape, hb.output, hb.size, fun q hq _ => hb.block q hq⟩
end Go.Proofs.Ytccbohjcbhibkaa
