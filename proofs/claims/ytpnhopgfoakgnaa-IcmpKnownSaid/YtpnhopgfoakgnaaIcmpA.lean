/- The chapter's message: what the statements of this layer ask first, 'awake', is true. -/
import Derived.Test.YtpnhopgfoakgnaaIcmpR
namespace Go.Proofs.Ytpnhopgfoakgnaa
set_option linter.unusedVariables false
open Go.RowKit
attribute [local go_sem ↓] Go.wp_at_zero Go.wp_at_succ

/-- what a text is read as -/
def rdIc (s : ByteArray) : Value × Int := if s.size < 8 then (ic0, 7) else if 566 < s.size then (ic0, 3) else if sumE s ≠ 0 then (ic0, 9) else (icOf s, 0)

theorem icr_any (s : ByteArray) (w : World) (hs : s.size ≤ 9223372036854775807) :
    Calls Try.prog 18 #[.string s] w fun e w' => e = .returned (.tuple #[(rdIc s).1, .int .i64 (rdIc s).2]) ∧ Below w.heap.size w w' := by
  unfold rdIc
  by_cases h1 : s.size < 8
  · rw [if_pos h1]; exact icr_short s w h1
  · rw [if_neg h1]
    by_cases h2 : 566 < s.size
    · rw [if_pos h2]; exact icr_long s w h2 hs
    · rw [if_neg h2]
      by_cases h3 : sumE s = 0
      · rw [if_neg (by simpa using h3)]; exact icr_ok s w (by omega) (by omega) h3
      · rw [if_pos h3]; exact icr_sum s w (by omega) (by omega) h3

/-- two messages, compared -/
def icEq (k c r : Int) (d : ByteArray) (k' c' r' : Int) (d' : ByteArray) : Bool := k == k' && (c == c' && (r == r' && d.toList == d'.toList))
theorem icEq_self (k c r : Int) (d : ByteArray) : icEq k c r d k c r d = true := by simp [icEq]

theorem run_ic_equal (w : World) (k c r k' c' r' : Int) (d d' : ByteArray) :
    (Op.equalIn 10000 24 (icV k c r d) (icV k' c' r' d')).run Try.prog w = .ok (icEq k c r d k' c' r' d') w := by
  unfold icEq
  go_simp
  by_cases h1 : k = k' <;> by_cases h2 : c = c' <;> by_cases h3 : r = r' <;> by_cases h4 : d.toList = d'.toList <;> simp [h1, h2, h3, h4]

theorem run_ic_eql (w : World) (k c r k' c' r' : Int) (d d' : ByteArray) :
    (binOp .eql 24 (icV k c r d) (icV k' c' r' d')).run Try.prog w = .ok (.bool (icEq k c r d k' c' r' d')) w := by
  rw [run_eql_struct, run_ic_equal]
  rfl
theorem run_ic_neq (w : World) (k c r k' c' r' : Int) (d d' : ByteArray) :
    (binOp .neq 24 (icV k c r d) (icV k' c' r' d')).run Try.prog w = .ok (.bool (!icEq k c r d k' c' r' d')) w := by
  rw [run_neq_struct, run_ic_equal]
  rfl

abbrev icC : Array Value := #[.int .i64 8, .int .i64 0, .int .u32 1, .string ⟨#[104, 105]⟩]
abbrev icS : ByteArray := ⟨#[8, 0, 143, 149, 0, 0, 0, 1, 104, 105]⟩

theorem icex_any (w : World) : Calls Try.prog 39 #[] w fun e w' => e = .returned (.agg icC) ∧ Below w.heap.size w w' := by
  go_enter Try.func39, Try.ntmps39
  go_wp2
  exact bodyPost_ret (results_cell1 Try.results39 _ _ w.heap.size _ _ _ rfl (Blk.new w _ _ 0 0 (Or.inl (Nat.le_refl _))) Try.underlying24 rfl size_ic) rfl ⟨rfl, (Below.refl _ _).alloc (Nat.le_refl _) _⟩

theorem icex_bytes (w : World) : Calls Try.prog 16 #[.agg icC] w fun e w' => e = .returned (.tuple #[.string icS, .int .i64 0]) ∧ Below w.heap.size w w' := by
  have h := ic_any 8 0 1 [104, 105] w (by omega) (by omega) (by omega) (by decide)
  have e : icBytes 8 0 1 [104, 105] = (icS.data.toList, 0) := by decide +kernel
  rw [e] at h
  exact h

theorem icex_read (w : World) : Calls Try.prog 18 #[.string icS] w fun e w' => e = .returned (.tuple #[.agg icC, .int .i64 0]) ∧ Below w.heap.size w w' := by
  have h := icr_any icS w (by decide)
  have e : rdIc icS = (.agg icC, 0) := by kernel_rfl
  rw [e] at h
  exact h

theorem icC_cells {w : World} {b : Nat} {e : TypeId} (h : Blk w b e icC) : w.cell? ⟨b, 0, none⟩ = some (.int .i64 8) ∧ w.cell? ⟨b, 1, none⟩ = some (.int .i64 0) ∧ w.cell? ⟨b, 2, none⟩ = some (.int .u32 1) ∧ w.cell? ⟨b, 3, none⟩ = some (.string ⟨#[104, 105]⟩) := by
  refine ⟨?_, ?_, ?_, ?_⟩ <;> (rw [h.cell]; rfl)

attribute [local go_sem ↓] run_ic_eql run_ic_neq

set_option maxRecDepth 100000 in
set_option maxHeartbeats 1000000 in
theorem icawake_any (w : World) : Calls Try.prog 15 #[] w fun e w' => e = .returned (.bool true) ∧ Below w.heap.size w w' := by
  have hself := icEq_self
  go_enter Try.func15, Try.ntmps15
  go_wp2_with fail
  refine (icex_any _).mono ?_
  rintro e w1 ⟨rfl, hb1⟩
  go_wp2_with fail
  refine (icex_bytes _).mono ?_
  rintro e w2 ⟨rfl, hb2⟩
  go_wp2_with fail
  refine (icex_read _).mono ?_
  rintro e w3 ⟨rfl, hb3⟩
  go_wp2
  have hB : Below w.heap.size w (w3.alloc (.cells icC 24)) := ((hb1.trans (hb2.mono hb1.size)).trans (hb3.mono (Nat.le_trans hb1.size hb2.size))).alloc (Nat.le_trans hb1.size (Nat.le_trans hb2.size hb3.size)) _
  have hK : Blk (w3.alloc (.cells icC 24)) w3.heap.size 24 icC := Blk.new _ _ _ _ _ (Or.inl (Nat.le_refl _))
  have hle : w.heap.size ≤ w3.heap.size := Nat.le_trans hb1.size (Nat.le_trans hb2.size hb3.size)
  clear hb1 hb2 hb3
  generalize w3.alloc _ = W at hB hK ⊢
  have HB := Lib.hid hB
  have hlt := hK.lt
  have HK := Lib.hid hK
  clear hB hK
  go_region_held3 (fun w' => w'.cell? ⟨w3.heap.size, 0, none⟩ = some (.int .i64 8) ∧ w'.cell? ⟨w3.heap.size, 1, none⟩ = some (.int .i64 0) ∧ w'.cell? ⟨w3.heap.size, 2, none⟩ = some (.int .u32 1) ∧ w'.cell? ⟨w3.heap.size, 3, none⟩ = some (.string ⟨#[104, 105]⟩))
    (first | exact icC_cells HK.out | exact icC_cells (Blk.drew HK.out) | exact icC_cells ((Blk.drew HK.out).below hb4.out hlt))
    ((go_at_call 39; refine (icex_any _).mono ?_; rintro e w4 ⟨rfl, hb0⟩; have hb4 := Lib.hid hb0; clear hb0))
  go_wp2
  go_ret
  exact ⟨rfl, HB.out.drew.trans (hb4.out.mono (show w.heap.size ≤ W.heap.size from by omega))⟩
end Go.Proofs.Ytpnhopgfoakgnaa
