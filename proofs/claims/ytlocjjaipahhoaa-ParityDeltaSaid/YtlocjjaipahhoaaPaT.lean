/- Parity's small functions: Zero, Right, Delta, Missing, the laws' Great. Condition: texts that a memory can hold. -/
import Derived.Test.YtlocjjaipahhoaaPaR
import Derived.Test.YtlocjjaipahhoaaShelf
import Derived.Sort.EncStr
namespace Go.Proofs.Ytlocjjaipahhoaa
set_option linter.unusedVariables false
set_option linter.unusedSimpArgs false
set_option maxRecDepth 100000
open Go.RowKit
attribute [local go_sem ↓] Go.wp_at_zero Go.wp_at_succ

/-! ### texts in a block of the call's own -/
theorem strs_cells (L : List (List UInt8)) (j : Nat) (hj : j < L.length) : ((L.map encStr).toArray)[j]? = some (.string ⟨(L[j]).toArray⟩) := by
  rw [List.getElem?_toArray, List.getElem?_map, List.getElem?_eq_getElem hj]; rfl
theorem strs_new (w : World) (T : TypeId) (C : Array Value) (L : List (List UInt8)) (hC : C = (L.map encStr).toArray) :
    StrsAt (w.alloc (.cells C T)) (w.alloc (.cells C T)).heap.size (some ⟨w.heap.size, 0, none⟩) L := by
  right
  refine ⟨w.heap.size, 0, rfl, by simp, fun j hj => ?_⟩
  rw [(Blk.new w T C 0 0 (Or.inl (Nat.le_refl _))).cell, Nat.zero_add, hC, strs_cells L j hj]

theorem sum_new (L : List (List UInt8)) (hL : L.length ≤ maxLen) (hs : ∀ s ∈ L, s.length ≤ maxLen) (C : Array Value) (hC : C = (L.map encStr).toArray) (n : Nat) (hn : n = L.length) (w : World) :
    Calls Try.prog 11 #[.slice (some ⟨w.heap.size, 0, none⟩) n n] (w.alloc (.cells C 9)) fun e w' => e = .returned (.tuple #[.string ⟨(paV L).1.toArray⟩, .int .i64 (paV L).2]) ∧ Below w.heap.size w w' := by
  subst hn
  refine (paSum_any _ _ L hL hs _ (strs_new w _ C L hC)).mono ?_
  rintro e w' ⟨rfl, hb⟩
  exact ⟨rfl, Below.step ((Below.refl _ w).alloc (Nat.le_refl _) _) hb⟩

theorem delta_any (a b c : List UInt8) (ha : a.length ≤ maxLen) (hb : b.length ≤ maxLen) (hc : c.length ≤ maxLen) (w : World) :
    Calls Try.prog 18 #[.string ⟨a.toArray⟩, .string ⟨b.toArray⟩, .string ⟨c.toArray⟩] w fun e w' => e = .returned (.tuple #[.string ⟨(paV [a, b, c]).1.toArray⟩, .int .i64 (paV [a, b, c]).2]) ∧ Below w.heap.size w w' := by
  have S := Lib.hid (sum_new [a, b, c] (by simp [maxLen]) (by simp; exact ⟨ha, hb, hc⟩) #[.string ⟨a.toArray⟩, .string ⟨b.toArray⟩, .string ⟨c.toArray⟩] rfl 3 rfl w)
  generalize paV [a, b, c] = V at S ⊢
  go_enter Try.func18, Try.ntmps18
  go_wp2_with fail
  refine S.out.mono ?_
  rintro e w1 ⟨rfl, hb⟩
  have HB := Lib.hid hb
  clear hb
  go_wp2
  go_ret2
  exact ⟨rfl, HB.out⟩

theorem zero_any (w : World) : Calls Try.prog 14 #[] w fun e w' => e = .returned (.string ⟨z64.toArray⟩) ∧ Below w.heap.size w w' := by
  have S := Lib.hid (fun w => sh_strings_Repeat ⟨#[0]⟩ 64 w (by omega) (by show 1 * 64 ≤ _; omega))
  have hz : Lib.repeatL (⟨#[0]⟩ : ByteArray).data.toList 64 = z64 := by decide +kernel
  rw [hz] at S
  clear hz
  go_enter Try.func14, Try.ntmps14
  go_wp2_with fail
  refine (S.out _).mono ?_
  rintro e w1 ⟨rfl, hb⟩
  have HB := Lib.hid hb
  clear hb
  go_wp2
  go_ret
  exact ⟨rfl, HB.out⟩

/-- do texts come to noughts? -/
def riV (L : List (List UInt8)) : Bool := paOk L && (paS L == z64)
theorem right_any (A : Option Addr) (c : Nat) (L : List (List UInt8)) (hL : L.length ≤ maxLen) (hs : ∀ s ∈ L, s.length ≤ maxLen) (w : World) (hA : StrsAt w w.heap.size A L) :
    Calls Try.prog 15 #[.slice A L.length c] w fun e w' => e = .returned (.bool (riV L)) ∧ Below w.heap.size w w' := by
  have S := Lib.hid (paSum_any A c L hL hs w hA)
  have Z := Lib.hid zero_any
  clear hA hs hL
  have hv : (paOk L = true ∧ paV L = (paS L, 0) ∧ riV L = (paS L == z64)) ∨ (paV L = ([], 1) ∧ riV L = false) := by
    cases h : paOk L
    · right; simp [paV, riV, h]
    · left; simp [paV, riV, h]
  rcases hv with ⟨_, h1, h2⟩ | ⟨h1, h2⟩
  · rw [h1] at S
    rw [h2]
    clear h1 h2
    generalize paS L = V at S ⊢
    generalize z64 = Z0 at Z ⊢
    go_enter Try.func15, Try.ntmps15
    go_wp2_with fail
    refine S.out.mono ?_
    rintro e w1 ⟨rfl, hb⟩
    have HB := Lib.hid hb
    clear hb
    go_wp2_with fail
    refine (Z.out _).mono ?_
    rintro e w2 ⟨rfl, hb⟩
    have HB2 := Lib.hid (Below.step HB.out hb)
    clear hb
    go_wp2
    go_ret
    exact ⟨rfl, HB2.out⟩
  · rw [h1] at S
    rw [h2]
    go_enter Try.func15, Try.ntmps15
    go_wp2_with fail
    refine S.out.mono ?_
    rintro e w1 ⟨rfl, hb⟩
    have HB := Lib.hid hb
    clear hb
    go_wp2
    go_ret
    exact ⟨rfl, HB.out⟩
theorem right_new (L : List (List UInt8)) (hL : L.length ≤ maxLen) (hs : ∀ s ∈ L, s.length ≤ maxLen) (C : Array Value) (hC : C = (L.map encStr).toArray) (n : Nat) (hn : n = L.length) (w : World) :
    Calls Try.prog 15 #[.slice (some ⟨w.heap.size, 0, none⟩) n n] (w.alloc (.cells C 9)) fun e w' => e = .returned (.bool (riV L)) ∧ Below w.heap.size w w' := by
  subst hn
  refine (right_any _ _ L hL hs _ (strs_new w _ C L hC)).mono ?_
  rintro e w' ⟨rfl, hb⟩
  exact ⟨rfl, Below.step ((Below.refl _ w).alloc (Nat.le_refl _) _) hb⟩

/-! ### Great -/
def grV (L : List (List UInt8)) : Bool := decide (20 < L.length) || L.any (fun s => decide (200 < s.length))
theorem grV_no {L : List (List UInt8)} (h : grV L = false) : L.length ≤ 20 ∧ ∀ s ∈ L, s.length ≤ 200 := by
  rw [grV, Bool.or_eq_false_iff] at h
  refine ⟨by have := h.1; simp at this; omega, fun s hs => ?_⟩
  have := List.any_eq_false.1 h.2 s hs
  simp at this
  omega
theorem great_any (A : Option Addr) (c : Nat) (L : List (List UInt8)) (hL : L.length ≤ maxLen) (hs : ∀ s ∈ L, s.length ≤ maxLen) (w : World) (hA : StrsAt w w.heap.size A L) :
    Calls Try.prog 9 #[.slice A L.length c] w fun e w' => e = .returned (.bool (grV L)) ∧ w' = w := by
  have HA := Lib.hid hA
  have HS := Lib.hid hs
  have hLm : L.length ≤ 9223372036854775807 := hL
  clear hA hs hL
  by_cases h20 : 20 < L.length
  · have hg : grV L = true := by simp [grV, h20]
    have h20' : (20 : Int) < (L.length : Int) := by omega
    rw [hg]
    clear hg h20
    go_enter Try.func9, Try.ntmps9
    go_wp2
    go_ret
    exact ⟨rfl, rfl⟩
  · have h20' : ¬ (20 : Int) < (L.length : Int) := by omega
    go_enter Try.func9, Try.ntmps9
    go_wp2
    go_loopw [3] (fun i wr => ∃ k : Nat, k ≤ L.length ∧ i = .int .i64 k ∧ (∀ s ∈ L.take k, s.length ≤ 200) ∧ wr = w) (fun i _ => L.length - (intOf i).toNat)
    case atStart => exact ⟨0, by omega, rfl, by simp, by first | rfl | trivial⟩
    case round =>
      obtain ⟨k, hk, rfl, hpre, rfl⟩ := hrel
      have HPRE := Lib.hid hpre
      clear hpre
      by_cases hlt : k < L.length
      · have hlt' : (k : Int) < (L.length : Int) := by omega
        obtain ⟨b, o, rfl, hbl, hcell⟩ : ∃ b o, A = some ⟨b, o, none⟩ ∧ b < wr.heap.size ∧ ∀ j (hj : j < L.length), wr.cell? ⟨b, o + j, none⟩ = some (.string ⟨(L[j]).toArray⟩) := by
          rcases HA.out with h | h
          · rw [h] at hlt; simp at hlt
          · exact h
        have hc := hcell k hlt
        have hsl : (L[k]).length ≤ maxLen := HS.out _ (List.getElem_mem hlt)
        obtain ⟨s, hsd⟩ : ∃ s, s = L[k] := ⟨_, rfl⟩
        rw [← hsd] at hc hsl
        have HSD := Lib.hid hsd
        clear hcell hsd
        by_cases h200 : 200 < s.length
        · have h200' : (200 : Int) < (s.length : Int) := by omega
          have hg : grV L = true := by
            rw [grV, Bool.or_eq_true]
            right
            rw [List.any_eq_true]
            exact ⟨L[k], List.getElem_mem hlt, by rw [← HSD.out]; simpa using h200⟩
          have HG := Lib.hid hg
          clear hg h200 h20
          go_wp2
          go_ret
          exact ⟨by rw [HG.out]; rfl, rfl⟩
        · have h200' : ¬ (200 : Int) < (s.length : Int) := by omega
          have hp2 : ∀ s' ∈ L.take (k + 1), s'.length ≤ 200 := by
            intro s' hs'
            rw [List.take_succ_eq_append_getElem hlt, List.mem_append] at hs'
            rcases hs' with h | h
            · exact HPRE.out s' h
            · rw [List.mem_singleton] at h
              rw [h, ← HSD.out]
              omega
          have HP2 := Lib.hid hp2
          clear hp2
          go_wp2
          go_roundw
          case rel => exact ⟨k + 1, by omega, by go_num, HP2.out, by first | rfl | trivial⟩
          case measure => simp [intOf]; omega
      · have hkn : L.take k = L := List.take_of_length_le (by omega)
        rw [hkn] at HPRE
        have hg : grV L = false := by
          rw [grV, Bool.or_eq_false_iff]
          refine ⟨by simp; omega, ?_⟩
          rw [List.any_eq_false]
          intro s hs
          have := HPRE.out s hs
          simp; omega
        have hlt' : (L.length : Int) ≤ (k : Int) := by omega
        have HG := Lib.hid hg
        clear hg hkn
        go_wp2
        go_ret
        exact ⟨by rw [HG.out]; rfl, rfl⟩
end Go.Proofs.Ytlocjjaipahhoaa
