/- What the methods of package mem's Mem compute: New, Size, room, number, Text, Get, Write, Put, over a memory of bytes l. No condition but that the memory lies where its pointer says. -/
import Derived.Test.YteinnindnijdiaaMemB
import Derived.Deep.RegionHeld3
import Derived.Deep.DrawnRows
namespace Go.Proofs.Yteinnindnijdiaa
set_option linter.unusedVariables false
set_option maxRecDepth 100000
open Go.RowKit
attribute [local go_sem ↓] Go.wp_at_zero Go.wp_at_succ

/-- Block p holds a memory whose bytes are l, in block g. -/
structure MemAt (w : World) (p g : Nat) (l : List UInt8) : Prop where
  hdr : Blk w p 63 #[.slice (some ⟨g, 0, none⟩) l.length l.length]
  bytes : Byt w 5 g l
  ne : p ≠ g
  pos : 1 ≤ l.length
  small : l.length ≤ 65536

theorem MemAt.cell {w : World} {p g : Nat} {l : List UInt8} (h : MemAt w p g l) : w.cell? ⟨p, 0, none⟩ = some (.slice (some ⟨g, 0, none⟩) l.length l.length) := by rw [h.hdr.cell]; rfl
theorem MemAt.step {w w' : World} {p g : Nat} {l : List UInt8} (h : MemAt w p g l) (k : Below w.heap.size w w') : MemAt w' p g l := ⟨h.hdr.step k, h.bytes.step k, h.ne, h.pos, h.small⟩
theorem MemAt.grown {w w' : World} {p g r : Nat} {l : List UInt8} (h : MemAt w p g l) (k : w.grownBy w' (some r)) (h1 : p ≠ r) (h2 : g ≠ r) : MemAt w' p g l :=
  ⟨h.hdr.of_heap (k.block p h.hdr.lt (by simpa using h1)), h.bytes.of_heap (k.block g h.bytes.lt (by simpa using h2)), h.ne, h.pos, h.small⟩

set_option maxHeartbeats 400000 in
theorem new_ok (w : World) (n : Nat) (h1 : 1 ≤ n) (h2 : n ≤ 65536) :
    Calls Try.prog 25 #[.int .i64 n] w fun e w' => e = .returned (.tuple #[.pointer (some ⟨w.heap.size + 1, 0, none⟩), .int .i64 0]) ∧
      MemAt w' (w.heap.size + 1) w.heap.size (List.replicate n 0) ∧ Below w.heap.size w w' := by
  obtain ⟨i0, hi, hz0, hz1, hz2⟩ := info_parts info_u8
  have hmk := run_make (P := Try.prog) w 47 5 i0 (.int .u8 0) Try.underlying47 hi hz0 .i64 .i64 n n (by omega) (by omega) (by rw [hz2]; omega) (by omega)
  rw [hz1] at hmk
  simp only [Int.toNat_natCast] at hmk
  have hm := made_u8 w n
  have HM := Lib.hid hm
  clear hm hi hz0 hz1 hz2
  go_enter Try.func25, Try.ntmps25
  go_wp2
  go_ret2
  refine ⟨rfl, ⟨?_, ?_, by omega, by simpa using h1, by simpa using h2⟩, ((Below.refl _ _).alloc (Nat.le_refl _) _).alloc (by simp) _⟩
  · have h := Blk.new (w.alloc (.cells (madeCells #[Value.int .u8 0] n) 5)) 63 #[.slice (some ⟨w.heap.size, 0, none⟩) n n] 0 0 (Or.inl (Nat.le_refl _))
    rw [size_alloc] at h
    simpa using h
  · exact HM.out.alloc _

theorem new_no (w : World) (n : Int) (h : n < 1 ∨ 65536 < n) :
    Calls Try.prog 25 #[.int .i64 n] w fun e w' => e = .returned (.tuple #[.pointer none, .int .i64 1]) ∧ w = w' := by
  rcases h with h | h
  · go_enter Try.func25, Try.ntmps25
    go_wp2
    go_ret2
    exact ⟨rfl, rfl⟩
  · have h' : ¬ n < 1 := by omega
    go_enter Try.func25, Try.ntmps25
    go_wp2
    go_ret2
    exact ⟨rfl, rfl⟩

theorem size_any {w : World} {p g : Nat} {l : List UInt8} (h : MemAt w p g l) :
    Calls Try.prog 26 #[.pointer (some ⟨p, 0, none⟩)] w fun e w' => e = .returned (.int .i64 l.length) ∧ w = w' := by
  have hc := h.cell
  clear h
  go_enter Try.func26, Try.ntmps26
  go_wp2
  go_ret
  exact ⟨rfl, rfl⟩

theorem size_bare {w : World} {p : Nat} (hc : w.cell? ⟨p, 0, none⟩ = some (.slice none 0 0)) :
    Calls Try.prog 26 #[.pointer (some ⟨p, 0, none⟩)] w fun e w' => e = .returned (.int .i64 0) ∧ w = w' := by
  go_enter Try.func26, Try.ntmps26
  go_wp2
  go_ret
  exact ⟨rfl, rfl⟩

theorem size_nil (w : World) :
    Calls Try.prog 26 #[.pointer none] w fun e w' => e = .returned (.int .i64 0) ∧ w = w' := by
  go_enter Try.func26, Try.ntmps26
  go_wp2
  go_ret
  exact ⟨rfl, rfl⟩

/-- whether there are n bytes from a place on -/
def roomE (len at' n : Int) : Int := if 0 ≤ at' ∧ 0 ≤ n ∧ at' + n ≤ len then 0 else 13
/-- whether there is a number of n bytes at a place -/
def numE (len at' n : Int) : Int := if n < 1 ∨ 8 < n then 1 else roomE len at' n

set_option maxHeartbeats 400000 in
theorem room_any {w : World} {p g : Nat} {l : List UInt8} (h : MemAt w p g l) (at' n : Int) (h1 : -9223372036854775808 ≤ at' ∧ at' ≤ 9223372036854775807)
    (h2 : -9223372036854775808 ≤ n ∧ n ≤ 9223372036854775807) :
    Calls Try.prog 47 #[.pointer (some ⟨p, 0, none⟩), .int .i64 at', .int .i64 n] w fun e w' => e = .returned (.int .i64 (roomE l.length at' n)) ∧ w = w' := by
  have hc := h.cell
  have hp := h.pos
  have hs := h.small
  have H := Lib.hid h
  obtain ⟨h1a, h1b⟩ := h1
  obtain ⟨h2a, h2b⟩ := h2
  clear h
  by_cases c1 : at' < 0
  · go_enter Try.func47, Try.ntmps47
    go_wp2_with fail
    refine (size_any H.out).mono ?_
    rintro e w1 ⟨rfl, rfl⟩
    go_wp2
    go_ret
    exact ⟨ret_int (by rw [roomE, if_neg (by omega)]), rfl⟩
  by_cases c2 : n < 0
  · go_enter Try.func47, Try.ntmps47
    go_wp2_with fail
    refine (size_any H.out).mono ?_
    rintro e w1 ⟨rfl, rfl⟩
    go_wp2
    go_ret
    exact ⟨ret_int (by rw [roomE, if_neg (by omega)]), rfl⟩
  by_cases c3 : (l.length : Int) < n
  · go_enter Try.func47, Try.ntmps47
    go_wp2_with fail
    refine (size_any H.out).mono ?_
    rintro e w1 ⟨rfl, rfl⟩
    go_wp2
    go_ret
    exact ⟨ret_int (by rw [roomE, if_neg (by omega)]), rfl⟩
  by_cases c4 : (l.length : Int) - n < at'
  · go_enter Try.func47, Try.ntmps47
    go_wp2_with fail
    refine (size_any H.out).mono ?_
    rintro e w1 ⟨rfl, rfl⟩
    go_wp2
    go_ret
    exact ⟨ret_int (by rw [roomE, if_neg (by omega)]), rfl⟩
  · go_enter Try.func47, Try.ntmps47
    go_wp2_with fail
    refine (size_any H.out).mono ?_
    rintro e w1 ⟨rfl, rfl⟩
    go_wp2
    go_ret
    exact ⟨ret_int (by rw [roomE, if_pos (by omega)]), rfl⟩

theorem room_nil (w : World) (at' n : Int) :
    Calls Try.prog 47 #[.pointer none, .int .i64 at', .int .i64 n] w fun e w' => e = .returned (.int .i64 2) ∧ w = w' := by
  go_enter Try.func47, Try.ntmps47
  go_wp2_with fail
  refine (size_nil _).mono ?_
  rintro e w1 ⟨rfl, rfl⟩
  go_wp2
  go_ret
  exact ⟨rfl, rfl⟩

theorem room_bare {w : World} {p : Nat} (hc : w.cell? ⟨p, 0, none⟩ = some (.slice none 0 0)) (at' n : Int) :
    Calls Try.prog 47 #[.pointer (some ⟨p, 0, none⟩), .int .i64 at', .int .i64 n] w fun e w' => e = .returned (.int .i64 2) ∧ w = w' := by
  have HC := Lib.hid hc
  clear hc
  go_enter Try.func47, Try.ntmps47
  go_wp2_with fail
  refine (size_bare HC.out).mono ?_
  rintro e w1 ⟨rfl, rfl⟩
  go_wp2
  go_ret
  exact ⟨rfl, rfl⟩

theorem number_any {w : World} {p g : Nat} {l : List UInt8} (h : MemAt w p g l) (at' n : Int) (h1 : -9223372036854775808 ≤ at' ∧ at' ≤ 9223372036854775807)
    (h2 : -9223372036854775808 ≤ n ∧ n ≤ 9223372036854775807) :
    Calls Try.prog 45 #[.pointer (some ⟨p, 0, none⟩), .int .i64 at', .int .i64 n] w fun e w' => e = .returned (.int .i64 (numE l.length at' n)) ∧ w = w' := by
  have hp := h.pos
  have H := Lib.hid h
  clear h
  have H1 := Lib.hid h1
  have H2 := Lib.hid h2
  clear h1 h2
  by_cases c1 : n < 1
  · go_enter Try.func45, Try.ntmps45
    go_wp2_with fail
    refine (size_any H.out).mono ?_
    rintro e w1 ⟨rfl, rfl⟩
    go_wp2
    go_ret
    exact ⟨ret_int (by rw [numE, if_pos (by omega)]), rfl⟩
  by_cases c2 : 8 < n
  · go_enter Try.func45, Try.ntmps45
    go_wp2_with fail
    refine (size_any H.out).mono ?_
    rintro e w1 ⟨rfl, rfl⟩
    go_wp2
    go_ret
    exact ⟨ret_int (by rw [numE, if_pos (by omega)]), rfl⟩
  · go_enter Try.func45, Try.ntmps45
    go_wp2_with fail
    refine (size_any H.out).mono ?_
    rintro e w1 ⟨rfl, rfl⟩
    go_wp2_with fail
    refine (room_any H.out _ _ H1.out H2.out).mono ?_
    rintro e w2 ⟨rfl, rfl⟩
    go_wp2
    go_ret
    exact ⟨ret_int (by rw [numE, if_neg (by omega)]), rfl⟩

theorem number_nil (w : World) (at' n : Int) :
    Calls Try.prog 45 #[.pointer none, .int .i64 at', .int .i64 n] w fun e w' => e = .returned (.int .i64 2) ∧ w = w' := by
  go_enter Try.func45, Try.ntmps45
  go_wp2_with fail
  refine (size_nil _).mono ?_
  rintro e w1 ⟨rfl, rfl⟩
  go_wp2_with fail
  refine (room_nil _ _ _).mono ?_
  rintro e w1 ⟨rfl, rfl⟩
  go_wp2
  go_ret
  exact ⟨rfl, rfl⟩

theorem number_bare {w : World} {p : Nat} (hc : w.cell? ⟨p, 0, none⟩ = some (.slice none 0 0)) (at' n : Int) :
    Calls Try.prog 45 #[.pointer (some ⟨p, 0, none⟩), .int .i64 at', .int .i64 n] w fun e w' => e = .returned (.int .i64 2) ∧ w = w' := by
  have HC := Lib.hid hc
  clear hc
  go_enter Try.func45, Try.ntmps45
  go_wp2_with fail
  refine (size_bare HC.out).mono ?_
  rintro e w1 ⟨rfl, rfl⟩
  go_wp2_with fail
  refine (room_bare HC.out _ _).mono ?_
  rintro e w1 ⟨rfl, rfl⟩
  go_wp2
  go_ret
  exact ⟨rfl, rfl⟩

end Go.Proofs.Yteinnindnijdiaa
