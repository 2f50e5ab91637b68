/- The chapter's frame: what the statements of this layer ask first, 'awake', is true. -/
import Derived.Test.YtlonhelfcacmeaaEtherS
namespace Go.Proofs.Ytlonhelfcacmeaa
set_option linter.unusedVariables false
open Go.RowKit
attribute [local go_sem ↓] Go.wp_at_zero Go.wp_at_succ

/-- the chapter's frame -/
abbrev exC : Array Value := #[.int .u8 1, .int .u8 2, .int .u8 3, .int .u8 4, .int .u8 5, .int .u8 6, .int .u8 10, .int .u8 11, .int .u8 12, .int .u8 13, .int .u8 14, .int .u8 15, .int .i64 2048, .string ⟨#[104, 105]⟩]
abbrev exS : ByteArray := ⟨#[1, 2, 3, 4, 5, 6, 10, 11, 12, 13, 14, 15, 8, 0, 104, 105]⟩

/-- two addresses, compared -/
def macEq (xs ys : List Int) : Bool := xs == ys
theorem macEq_self (xs : List Int) : macEq xs xs = true := by simp [macEq]
theorem macEq_ne {xs ys : List Int} (h : xs ≠ ys) : macEq xs ys = false := by simp [macEq, h]

theorem run_eq_mac (w : World) (d : Nat) (a0 a1 a2 a3 a4 a5 b0 b1 b2 b3 b4 b5 : Int) :
    (Op.equalIn (d + 2) 24 (.agg #[.int .u8 a0, .int .u8 a1, .int .u8 a2, .int .u8 a3, .int .u8 a4, .int .u8 a5]) (.agg #[.int .u8 b0, .int .u8 b1, .int .u8 b2, .int .u8 b3, .int .u8 b4, .int .u8 b5])).run Try.prog w = .ok (macEq [a0, a1, a2, a3, a4, a5] [b0, b1, b2, b3, b4, b5]) w := by
  rw [run_equalIn_row w d 24 5 6 Try.underlying24 Try.underlying5 size_u8 _ _
    (fun j => [a0, a1, a2, a3, a4, a5].getD j 0) (fun j => [b0, b1, b2, b3, b4, b5].getD j 0) ?_]
  · rfl
  · intro j hj
    match j, hj with
    | 0, _ | 1, _ | 2, _ | 3, _ | 4, _ | 5, _ => exact ⟨rfl, rfl⟩

theorem run_mac_eql (w : World) (a0 a1 a2 a3 a4 a5 b0 b1 b2 b3 b4 b5 : Int) :
    (binOp .eql 24 (.agg #[.int .u8 a0, .int .u8 a1, .int .u8 a2, .int .u8 a3, .int .u8 a4, .int .u8 a5]) (.agg #[.int .u8 b0, .int .u8 b1, .int .u8 b2, .int .u8 b3, .int .u8 b4, .int .u8 b5])).run Try.prog w = .ok (.bool (macEq [a0, a1, a2, a3, a4, a5] [b0, b1, b2, b3, b4, b5])) w := by
  rw [run_eql_struct, run_eq_mac w 9998]
  rfl

/-- two frames, compared -/
def frEq (T F : List Int) (ty : Int) (d : ByteArray) (T' F' : List Int) (ty' : Int) (d' : ByteArray) : Bool := macEq T T' && (macEq F F' && (ty == ty' && d.toList == d'.toList))
theorem frEq_self (T F : List Int) (ty : Int) (d : ByteArray) : frEq T F ty d T F ty d = true := by simp [frEq, macEq]

theorem run_fr_equal (w : World) (a0 a1 a2 a3 a4 a5 a6 a7 a8 a9 a10 a11 b0 b1 b2 b3 b4 b5 b6 b7 b8 b9 b10 b11 ty ty' : Int) (d d' : ByteArray) :
    (Op.equalIn 10000 26 (.agg #[.int .u8 a0, .int .u8 a1, .int .u8 a2, .int .u8 a3, .int .u8 a4, .int .u8 a5, .int .u8 a6, .int .u8 a7, .int .u8 a8, .int .u8 a9, .int .u8 a10, .int .u8 a11, .int .i64 ty, .string d]) (.agg #[.int .u8 b0, .int .u8 b1, .int .u8 b2, .int .u8 b3, .int .u8 b4, .int .u8 b5, .int .u8 b6, .int .u8 b7, .int .u8 b8, .int .u8 b9, .int .u8 b10, .int .u8 b11, .int .i64 ty', .string d'])).run Try.prog w =
      .ok (frEq [a0, a1, a2, a3, a4, a5] [a6, a7, a8, a9, a10, a11] ty d [b0, b1, b2, b3, b4, b5] [b6, b7, b8, b9, b10, b11] ty' d') w := by
  have e1 := run_eq_mac w 9997 a0 a1 a2 a3 a4 a5 b0 b1 b2 b3 b4 b5
  have e2 := run_eq_mac w 9997 a6 a7 a8 a9 a10 a11 b6 b7 b8 b9 b10 b11
  unfold frEq
  generalize macEq [a0, a1, a2, a3, a4, a5] [b0, b1, b2, b3, b4, b5] = m1 at e1 ⊢
  generalize macEq [a6, a7, a8, a9, a10, a11] [b6, b7, b8, b9, b10, b11] = m2 at e2 ⊢
  cases m1 <;> cases m2 <;> (go_simp; try simp [e1, e2])
  by_cases h1 : ty = ty' <;> by_cases h2 : d.toList = d'.toList <;> simp [h1, h2]

theorem run_fr_eql (w : World) (a0 a1 a2 a3 a4 a5 a6 a7 a8 a9 a10 a11 b0 b1 b2 b3 b4 b5 b6 b7 b8 b9 b10 b11 ty ty' : Int) (d d' : ByteArray) :
    (binOp .eql 26 (.agg #[.int .u8 a0, .int .u8 a1, .int .u8 a2, .int .u8 a3, .int .u8 a4, .int .u8 a5, .int .u8 a6, .int .u8 a7, .int .u8 a8, .int .u8 a9, .int .u8 a10, .int .u8 a11, .int .i64 ty, .string d]) (.agg #[.int .u8 b0, .int .u8 b1, .int .u8 b2, .int .u8 b3, .int .u8 b4, .int .u8 b5, .int .u8 b6, .int .u8 b7, .int .u8 b8, .int .u8 b9, .int .u8 b10, .int .u8 b11, .int .i64 ty', .string d'])).run Try.prog w =
      .ok (.bool (frEq [a0, a1, a2, a3, a4, a5] [a6, a7, a8, a9, a10, a11] ty d [b0, b1, b2, b3, b4, b5] [b6, b7, b8, b9, b10, b11] ty' d')) w := by
  rw [run_eql_struct, run_fr_equal]
  rfl

theorem run_fr_neq (w : World) (a0 a1 a2 a3 a4 a5 a6 a7 a8 a9 a10 a11 b0 b1 b2 b3 b4 b5 b6 b7 b8 b9 b10 b11 ty ty' : Int) (d d' : ByteArray) :
    (binOp .neq 26 (.agg #[.int .u8 a0, .int .u8 a1, .int .u8 a2, .int .u8 a3, .int .u8 a4, .int .u8 a5, .int .u8 a6, .int .u8 a7, .int .u8 a8, .int .u8 a9, .int .u8 a10, .int .u8 a11, .int .i64 ty, .string d]) (.agg #[.int .u8 b0, .int .u8 b1, .int .u8 b2, .int .u8 b3, .int .u8 b4, .int .u8 b5, .int .u8 b6, .int .u8 b7, .int .u8 b8, .int .u8 b9, .int .u8 b10, .int .u8 b11, .int .i64 ty', .string d'])).run Try.prog w =
      .ok (.bool (!frEq [a0, a1, a2, a3, a4, a5] [a6, a7, a8, a9, a10, a11] ty d [b0, b1, b2, b3, b4, b5] [b6, b7, b8, b9, b10, b11] ty' d')) w := by
  rw [run_neq_struct, run_fr_equal]
  rfl
attribute [local go_sem ↓] run_fr_eql run_fr_neq run_mac_eql

theorem example_any (w : World) : Calls Try.prog 17 #[] w fun e w' => e = .returned (.agg exC) ∧ Below w.heap.size w w' := by
  go_enter Try.func17, Try.ntmps17
  go_wp2
  exact bodyPost_ret (results_cell1 Try.results17 _ _ w.heap.size _ _ _ rfl (Blk.new w _ _ 0 0 (Or.inl (Nat.le_refl _))) Try.underlying26 rfl size_fr) rfl ⟨rfl, (Below.refl _ _).alloc (Nat.le_refl _) _⟩

theorem ex_bytes (w : World) : Calls Try.prog 11 #[.agg exC] w fun e w' => e = .returned (.tuple #[.string exS, .int .i64 0]) ∧ Below w.heap.size w w' := by
  have h := bytes_any 1 2 3 4 5 6 10 11 12 13 14 15 2048 [104, 105] w (by decide) (by omega)
  have e : frBytes [1, 2, 3, 4, 5, 6] [10, 11, 12, 13, 14, 15] 2048 [104, 105] = (exS.data.toList, 0) := by decide +kernel
  rw [e] at h
  exact h

theorem ex_read (w : World) : Calls Try.prog 9 #[.string exS] w fun e w' => e = .returned (.tuple #[.agg exC, .int .i64 0]) ∧ Below w.heap.size w w' := by
  have h := read_any exS w (by decide)
  have e : rdFr exS = (.agg exC, 0) := by kernel_rfl
  rw [e] at h
  exact h

theorem exC_cells {w : World} {b : Nat} {e : TypeId} (h : Blk w b e exC) : w.cell? ⟨b, 0, none⟩ = some (.int .u8 1) ∧ w.cell? ⟨b, 1, none⟩ = some (.int .u8 2) ∧ w.cell? ⟨b, 2, none⟩ = some (.int .u8 3) ∧ w.cell? ⟨b, 3, none⟩ = some (.int .u8 4) ∧ w.cell? ⟨b, 4, none⟩ = some (.int .u8 5) ∧ w.cell? ⟨b, 5, none⟩ = some (.int .u8 6) ∧ w.cell? ⟨b, 6, none⟩ = some (.int .u8 10) ∧ w.cell? ⟨b, 7, none⟩ = some (.int .u8 11) ∧ w.cell? ⟨b, 8, none⟩ = some (.int .u8 12) ∧ w.cell? ⟨b, 9, none⟩ = some (.int .u8 13) ∧ w.cell? ⟨b, 10, none⟩ = some (.int .u8 14) ∧ w.cell? ⟨b, 11, none⟩ = some (.int .u8 15) ∧ w.cell? ⟨b, 12, none⟩ = some (.int .i64 2048) ∧ w.cell? ⟨b, 13, none⟩ = some (.string ⟨#[104, 105]⟩) := by
  refine ⟨?_, ?_, ?_, ?_, ?_, ?_, ?_, ?_, ?_, ?_, ?_, ?_, ?_, ?_⟩ <;> (rw [h.cell]; rfl)

set_option maxRecDepth 100000 in
set_option maxHeartbeats 1000000 in
theorem awake_any (w : World) : Calls Try.prog 8 #[] w fun e w' => e = .returned (.bool true) ∧ Below w.heap.size w w' := by
  have hself := frEq_self
  go_enter Try.func8, Try.ntmps8
  go_wp2_with fail
  refine (example_any _).mono ?_
  rintro e w1 ⟨rfl, hb1⟩
  go_wp2_with fail
  refine (ex_bytes _).mono ?_
  rintro e w2 ⟨rfl, hb2⟩
  go_wp2_with fail
  refine (ex_read _).mono ?_
  rintro e w3 ⟨rfl, hb3⟩
  go_wp2
  have hB : Below w.heap.size w (w3.alloc (.cells exC 26)) := ((hb1.trans (hb2.mono hb1.size)).trans (hb3.mono (Nat.le_trans hb1.size hb2.size))).alloc (Nat.le_trans hb1.size (Nat.le_trans hb2.size hb3.size)) _
  have hK : Blk (w3.alloc (.cells exC 26)) w3.heap.size 26 exC := Blk.new _ _ _ _ _ (Or.inl (Nat.le_refl _))
  have hle : w.heap.size ≤ w3.heap.size := Nat.le_trans hb1.size (Nat.le_trans hb2.size hb3.size)
  clear hb1 hb2 hb3
  generalize w3.alloc _ = W at hB hK ⊢
  have HB := Lib.hid hB
  have hlt := hK.lt
  have HK := Lib.hid hK
  clear hB hK
  go_region_held3 (fun w' => w'.cell? ⟨w3.heap.size, 0, none⟩ = some (.int .u8 1) ∧ w'.cell? ⟨w3.heap.size, 1, none⟩ = some (.int .u8 2) ∧ w'.cell? ⟨w3.heap.size, 2, none⟩ = some (.int .u8 3) ∧ w'.cell? ⟨w3.heap.size, 3, none⟩ = some (.int .u8 4) ∧ w'.cell? ⟨w3.heap.size, 4, none⟩ = some (.int .u8 5) ∧ w'.cell? ⟨w3.heap.size, 5, none⟩ = some (.int .u8 6) ∧ w'.cell? ⟨w3.heap.size, 6, none⟩ = some (.int .u8 10) ∧ w'.cell? ⟨w3.heap.size, 7, none⟩ = some (.int .u8 11) ∧ w'.cell? ⟨w3.heap.size, 8, none⟩ = some (.int .u8 12) ∧ w'.cell? ⟨w3.heap.size, 9, none⟩ = some (.int .u8 13) ∧ w'.cell? ⟨w3.heap.size, 10, none⟩ = some (.int .u8 14) ∧ w'.cell? ⟨w3.heap.size, 11, none⟩ = some (.int .u8 15) ∧ w'.cell? ⟨w3.heap.size, 12, none⟩ = some (.int .i64 2048) ∧ w'.cell? ⟨w3.heap.size, 13, none⟩ = some (.string ⟨#[104, 105]⟩))
    (first | exact exC_cells HK.out | exact exC_cells (Blk.drew HK.out) | exact exC_cells ((Blk.drew HK.out).below hb4.out hlt))
    ((go_at_call 17; refine (example_any _).mono ?_; rintro e w4 ⟨rfl, hb0⟩; have hb4 := Lib.hid hb0; clear hb0))
  go_wp2
  go_ret
  exact ⟨rfl, HB.out.drew.trans (hb4.out.mono (show w.heap.size ≤ W.heap.size from by omega))⟩
end Go.Proofs.Ytlonhelfcacmeaa
