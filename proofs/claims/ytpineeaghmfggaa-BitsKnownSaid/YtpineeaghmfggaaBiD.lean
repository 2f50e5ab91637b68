/- sameRows of the law, and Union. Condition: numbers that a memory can hold. -/
import Derived.Test.YtpineeaghmfggaaBiC
namespace Go.Proofs.Ytpineeaghmfggaa
set_option linter.unusedVariables false
set_option linter.unusedSimpArgs false
set_option maxRecDepth 100000
open Go.RowKit
attribute [local go_sem ↓] Go.wp_at_zero Go.wp_at_succ

theorem take_ne {L K : List Int} {k : Nat} (h1 : k < L.length) (h2 : k < K.length) (h : L[k] ≠ K[k]) : (L == K) = false := by
  apply beq_eq_false_iff_ne.2
  intro e
  subst e
  exact h rfl
theorem take_next {L K : List Int} {k : Nat} (h1 : k < L.length) (h2 : k < K.length) (h : L[k] = K[k]) (ht : L.take k = K.take k) : L.take (k + 1) = K.take (k + 1) := by
  rw [List.take_succ_eq_append_getElem h1, List.take_succ_eq_append_getElem h2, h, ht]

set_option maxHeartbeats 1000000 in
theorem same_any (A : Option Addr) (c : Nat) (L : List Int) (B : Option Addr) (d : Nat) (K : List Int) (hL : L.length ≤ maxLen) (hK : K.length ≤ maxLen) (w : World) (hA : IntsAt w w.heap.size A L) (hB : IntsAt w w.heap.size B K) :
    Calls Try.prog 12 #[.slice A L.length c, .slice B K.length d] w fun e w' => e = .returned (.bool (L == K)) ∧ Below w.heap.size w w' := by
  have hLm : L.length ≤ 9223372036854775807 := hL
  have hKm : K.length ≤ 9223372036854775807 := hK
  have HA := Lib.hid hA
  have HB := Lib.hid hB
  clear hA hB hL hK
  by_cases hl : L.length = K.length
  · have HL := Lib.hid hl
    rw [← hl]
    clear hl hKm
    go_enter Try.func12, Try.ntmps12
    go_wp2
    go_loopw [5] (fun i wr => ∃ k : Nat, k ≤ L.length ∧ i = .int .i64 k ∧ L.take k = K.take k ∧ Below w.heap.size w wr) (fun i _ => L.length - (intOf i).toNat)
    case atStart => exact ⟨0, by omega, rfl, rfl, Below.refl _ _⟩
    case round =>
      obtain ⟨k, hk, rfl, ht, hbel⟩ := hrel
      have HT := Lib.hid ht
      have HW := Lib.hid hbel
      clear ht
      by_cases hlt : k < L.length
      · have hlt' : (k : Int) < (L.length : Int) := by omega
        have hkK : k < K.length := by rw [← HL.out]; exact hlt
        obtain ⟨b, o, rfl, hbl, hcell⟩ : ∃ b o, A = some ⟨b, o, none⟩ ∧ b < wr.heap.size ∧ ∀ j (hj : j < L.length), wr.cell? ⟨b, o + j, none⟩ = some (.int .i64 L[j]) := by
          rcases HA.out.up hbel with h | h
          · rw [h] at hlt; simp at hlt
          · exact h
        obtain ⟨b2, o2, rfl, hbl2, hcell2⟩ : ∃ b o, B = some ⟨b, o, none⟩ ∧ b < wr.heap.size ∧ ∀ j (hj : j < K.length), wr.cell? ⟨b, o + j, none⟩ = some (.int .i64 K[j]) := by
          rcases HB.out.up hbel with h | h
          · rw [h] at hkK; simp at hkK
          · exact h
        have hc := hcell k hlt
        have hc2 := hcell2 k hkK
        clear hcell hcell2 hbel hbl hbl2
        by_cases he : L[k] = K[k]
        · have HN := Lib.hid (take_next hlt hkK he HT.out)
          rw [← he] at hc2
          clear he hkK
          generalize L[k] = r at hc hc2
          go_upto_region 6 with fail
          go_quiet (fail)
          go_wp2
          go_roundw
          case rel => exact ⟨k + 1, by omega, by go_num, HN.out, Below.drewN HW.out _⟩
          case measure => simp [intOf] <;> omega
        · have HN := Lib.hid (take_ne hlt hkK he)
          have he2 : ¬ K[k] = L[k] := fun h => he h.symm
          generalize L[k] = r at hc he he2
          generalize K[k] = r2 at hc2 he he2
          clear hkK
          go_upto_region 6 with fail
          go_quiet (fail)
          go_wp2
          go_ret
          exact ⟨by rw [HN.out]; rfl, Below.drewN HW.out _⟩
      · have hkl : k = L.length := by omega
        have he : L = K := by
          have h := HT.out
          rw [hkl, List.take_of_length_le (Nat.le_refl _), HL.out, List.take_of_length_le (Nat.le_refl _)] at h
          exact h
        subst hkl
        have HE := Lib.hid (beq_iff_eq.2 he)
        clear he
        go_wp2
        go_ret
        exact ⟨by rw [HE.out]; rfl, HW.out⟩
  · have he : (L == K) = false := beq_eq_false_iff_ne.2 (fun h => hl (by rw [h]))
    have hl1 : ¬ (L.length : Int) = (K.length : Int) := by omega
    rw [he]
    clear he
    go_enter Try.func12, Try.ntmps12
    go_wp2
    go_ret
    exact ⟨rfl, Below.refl _ _⟩

/-- rows of bits lie from an address on, below block B -/
def BitsAt (w : World) (B : Nat) (A : Option Addr) (L : List Nat) : Prop :=
  L = [] ∨ ∃ b o, A = some ⟨b, o, none⟩ ∧ b < B ∧ ∀ j (hj : j < L.length), w.cell? ⟨b, o + j, none⟩ = some (.int .u64 (L[j] : Int))
theorem BitsAt.up {w w' : World} {A : Option Addr} {L : List Nat} (h : BitsAt w w.heap.size A L) (hb : Below w.heap.size w w') : BitsAt w' w'.heap.size A L := by
  rcases h with h | ⟨b, o, e1, e2, e3⟩
  · exact Or.inl h
  · exact Or.inr ⟨b, o, e1, Nat.lt_of_lt_of_le e2 hb.size, fun j hj => (hb.cell (p := ⟨b, o + j, none⟩) e2).trans (e3 j hj)⟩
/-- what is set in one of some -/
def unN (L : List Nat) : Nat := L.foldl (fun a b => a ||| b) 0
theorem un_snoc (L : List Nat) (r : Nat) : unN (L ++ [r]) = unN L ||| r := by simp [unN]
theorem un_b : ∀ (L : List Nat) (c : Nat), B64 c → (∀ x ∈ L, B64 x) → B64 (L.foldl (fun a b => a ||| b) c)
  | [], c, h, _ => h
  | r :: L, c, h, k => un_b L _ (or_b h (k r (List.mem_cons_self ..))) (fun x hx => k x (List.mem_cons_of_mem _ hx))

set_option maxHeartbeats 1000000 in
theorem union_any (A : Option Addr) (c : Nat) (L : List Nat) (hL : L.length ≤ maxLen) (h64 : ∀ x ∈ L, B64 x) (w : World) (hA : BitsAt w w.heap.size A L) :
    Calls Try.prog 23 #[.slice A L.length c] w fun e w' => e = .returned (bv (unN L)) ∧ Below w.heap.size w w' := by
  have HA := Lib.hid hA
  have H64 := Lib.hid h64
  have hLm : L.length ≤ 9223372036854775807 := hL
  clear hA hL h64
  go_enter Try.func23, Try.ntmps23
  go_upto_region 2 with fail
  have k1 := Blk.new w 25 #[.int .u64 0] 0 0 (Or.inl (Nat.le_refl _))
  have k2 := Blk.new (w.alloc (.cells #[.int .u64 0] 25)) 25 #[.int .u64 0] 0 0 (Or.inl (Nat.le_refl _))
  rw [size_alloc] at k2
  have k1' := k1.alloc (.cells #[.int .u64 0] 25)
  have hb := ((Below.refl _ w).alloc (Nat.le_refl _) (.cells #[.int .u64 0] 25)).alloc (by simp) (.cells #[.int .u64 0] 25)
  have HK1 := Lib.hid k1'
  have HK2 := Lib.hid k2
  have HB0 := Lib.hid hb
  clear k1 k2 hb k1'
  generalize World.alloc (World.alloc _ _) _ = w1 at HK1 HK2 HB0 ⊢
  go_wp2
  go_loopw [8] (fun i wr => ∃ k : Nat, k ≤ L.length ∧ i = .int .i64 k ∧ Blk wr w.heap.size 25 #[.int .u64 0] ∧ Blk wr (w.heap.size + 1) 25 #[.int .u64 (unN (L.take k) : Int)] ∧ Below w.heap.size w wr) (fun i _ => L.length - (intOf i).toNat)
  case atStart => exact ⟨0, by omega, rfl, HK1.out, HK2.out, HB0.out⟩
  case round =>
    obtain ⟨k, hk, rfl, hk1, hk2, hbel⟩ := hrel
    have HK1' := Lib.hid hk1
    have HK2' := Lib.hid hk2
    have HB := Lib.hid hbel
    clear HK1 HK2 HB0
    by_cases hlt : k < L.length
    · have hlt' : (k : Int) < (L.length : Int) := by omega
      obtain ⟨b, o, rfl, hbl, hcell⟩ : ∃ b o, A = some ⟨b, o, none⟩ ∧ b < wr.heap.size ∧ ∀ j (hj : j < L.length), wr.cell? ⟨b, o + j, none⟩ = some (.int .u64 (L[j] : Int)) := by
        rcases HA.out.up hbel with h | h
        · rw [h] at hlt; simp at hlt
        · exact h
      have hc := hcell k hlt
      have hst : unN (L.take (k + 1)) = unN (L.take k) ||| L[k] := by rw [List.take_succ_eq_append_getElem hlt, un_snoc]
      have hor := u64_or_nat (unN (L.take k)) (L[k]) (un_b _ 0 (by unfold B64; omega) (fun x hx => H64.out x (List.mem_of_mem_take hx))) (H64.out _ (List.getElem_mem hlt))
      rw [← hst] at hor
      generalize L[k] = m at hor hc
      have hc1 := hk2.cell 0
      have hf1 := hk2.free 0 (by simp)
      generalize unN (L.take k) = q at hor hc1 HK2' ⊢
      have hbw : b ≠ wr.heap.size := by omega
      have hlt1 := hk1.lt
      have hlt2 := hk2.lt
      clear hcell hbel hk1 hk2 hbl hst
      go_upto_region 5 with fail
      have HX0 := Lib.hid (Blk.new wr 25 #[.int .u64 (m : Int)] 0 0 (Or.inl (Nat.le_refl _)))
      have HK1n := Lib.hid (HK1'.out.alloc (.cells #[.int .u64 (m : Int)] 25))
      have HK2n := Lib.hid (HK2'.out.alloc (.cells #[.int .u64 (m : Int)] 25))
      have HBn := Lib.hid (HB.out.alloc (by omega) (.cells #[.int .u64 (m : Int)] 25))
      clear hc hc1 hf1 HK1' HK2' HB
      generalize World.alloc _ _ = w2 at HX0 HK1n HK2n HBn ⊢
      have hx := HX0.out.cell 0
      have hc1 := HK2n.out.cell 0
      have hf1 := HK2n.out.free 0 (by simp)
      have HY1 := Lib.hid (HK1n.out.set_other ⟨w.heap.size + 1, 0, none⟩ (.int .u64 (unN (L.take (k + 1)) : Int)) (by show w.heap.size ≠ w.heap.size + 1; omega))
      have HY2 := Lib.hid (HK2n.out.set 0 (.int .u64 (unN (L.take (k + 1)) : Int)))
      have HY3 := Lib.hid (Below.setCell (p := ⟨w.heap.size + 1, 0, none⟩) HBn.out (Nat.le_succ _) (.int .u64 (unN (L.take (k + 1)) : Int)))
      go_wp2
      go_roundw
      case rel => exact ⟨k + 1, by omega, by go_num, HY1.out, HY2.out, HY3.out⟩
      case measure => simp [intOf] <;> omega
    · have hlt' : (L.length : Int) ≤ (k : Int) := by omega
      have htk : L.take k = L := List.take_of_length_le (by omega)
      rw [htk] at hk2
      have hc1 := hk2.cell 0
      have hc0 := hk1.cell 0
      have hf0 := hk1.free 0 (by simp)
      have hs := hk1.set 0 (.int .u64 (unN L : Int))
      have hb := Below.setCell (p := ⟨w.heap.size, 0, none⟩) HB.out (Nat.le_refl _) (.int .u64 (unN L : Int))
      have HX1 := Lib.hid hs
      have HX3 := Lib.hid hb
      clear hs hb htk hk1 hk2 HK1' HK2' hbel
      go_wp2
      exact bodyPost_ret (results_cell1 Try.results23 _ _ w.heap.size _ _ _ rfl HX1.out Try.underlying25 rfl size_bits) rfl ⟨rfl, HX3.out⟩
end Go.Proofs.Ytpineeaghmfggaa
