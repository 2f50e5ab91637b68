/- Union of rows that a call has laid down itself. Condition: numbers of 64 bits. -/
import Derived.Test.YtpineeaghmfggaaBiK
namespace Go.Proofs.Ytpineeaghmfggaa
set_option linter.unusedVariables false
set_option linter.unusedSimpArgs false
set_option maxRecDepth 100000
open Go.RowKit

abbrev encBit : Nat → Value := fun n => .int .u64 (n : Int)
theorem bits_new (w : World) (T : TypeId) (C : Array Value) (L : List Nat) (hC : C = (L.map encBit).toArray) :
    BitsAt (w.alloc (.cells C T)) (w.alloc (.cells C T)).heap.size (some ⟨w.heap.size, 0, none⟩) L := by
  right
  refine ⟨w.heap.size, 0, rfl, by simp, fun j hj => ?_⟩
  rw [(Blk.new w T C 0 0 (Or.inl (Nat.le_refl _))).cell, Nat.zero_add, hC, List.getElem?_toArray, List.getElem?_map, List.getElem?_eq_getElem hj]
  rfl
theorem union_new (L : List Nat) (hL : L.length ≤ maxLen) (h64 : ∀ x ∈ L, B64 x) (C : Array Value) (hC : C = (L.map encBit).toArray) (n : Nat) (hn : n = L.length) (w : World) :
    Calls Try.prog 23 #[.slice (some ⟨w.heap.size, 0, none⟩) n n] (w.alloc (.cells C 25)) fun e w' => e = .returned (bv (unN L)) ∧ Below w.heap.size w w' := by
  subst hn
  refine (union_any _ _ L hL h64 _ (bits_new w _ C L hC)).mono ?_
  rintro e w' ⟨rfl, hb⟩
  exact ⟨rfl, Below.step ((Below.refl _ w).alloc (Nat.le_refl _) _) hb⟩
theorem un_two (a b : Nat) : unN [a, b] = a ||| b := by simp [unN]
theorem un_three (a b c : Nat) : unN [a, b, c] = a ||| b ||| c := by simp [unN]
theorem union_nil (w : World) : Calls Try.prog 23 #[.slice none 0 0] w fun e w' => e = .returned (bv 0) ∧ Below w.heap.size w w' :=
  union_any none 0 [] (by simp [maxLen]) (by simp) w (Or.inl rfl)
theorem of_nil (w : World) : Calls Try.prog 15 #[.slice none 0 0] w fun e w' => e = .returned (bv 0) ∧ Below w.heap.size w w' :=
  of_any none 0 [] (by simp [maxLen]) w (Or.inl rfl)
end Go.Proofs.Ytpineeaghmfggaa
