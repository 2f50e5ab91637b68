/- What the reference's functions Get, Write, Put and Text compute, of a memory's bytes l: as package mem's methods. No condition but that the memory is not longer than 65536 bytes. -/
import Derived.Test.YteinnindnijdiaaMemR
import Derived.Test.YteinnindnijdiaaMemS
namespace Go.Proofs.Yteinnindnijdiaa
set_option linter.unusedVariables false
set_option maxRecDepth 100000
open Go.RowKit
attribute [local go_sem ↓] Go.wp_at_zero Go.wp_at_succ

/-- the text that is told -/
def txtL (l : List UInt8) (at' n : Int) : List UInt8 := if roomE l.length at' n = 0 then (l.drop at'.toNat).take n.toNat else []

theorem text_any {w : World} {p g : Nat} {l : List UInt8} (h : MemAt w p g l) (at' n : Int) (h1 : -9223372036854775808 ≤ at' ∧ at' ≤ 9223372036854775807)
    (h2 : -9223372036854775808 ≤ n ∧ n ≤ 9223372036854775807) :
    Calls Try.prog 33 #[.pointer (some ⟨p, 0, none⟩), .int .i64 at', .int .i64 n] w fun e w' => e = .returned (.tuple #[.string ⟨(txtL l at' n).toArray⟩, .int .i64 (roomE l.length at' n)]) ∧ w = w' := by
  by_cases hin : 0 ≤ at' ∧ 0 ≤ n ∧ at' + n ≤ l.length
  · have hE : roomE l.length at' n = 0 := by rw [roomE, if_pos hin]
    obtain ⟨a, rfl⟩ := Int.eq_ofNat_of_zero_le hin.1
    obtain ⟨m, rfl⟩ := Int.eq_ofNat_of_zero_le hin.2.1
    rw [txtL, if_pos hE, hE]
    exact text_ok h a m (by omega)
  · have hE : roomE l.length at' n = 13 := by rw [roomE, if_neg hin]
    rw [txtL, if_neg (by rw [hE]; decide), hE]
    exact text_no h at' n h1 h2 hin

theorem refText_any (w : World) (l : List UInt8) (hl : l.length ≤ 65536) (at' n : Int) (h1 : -9223372036854775808 ≤ at' ∧ at' ≤ 9223372036854775807) (h2 : -9223372036854775808 ≤ n ∧ n ≤ 9223372036854775807) :
    Calls Try.prog 34 #[.string ⟨l.toArray⟩, .int .i64 at', .int .i64 n] w fun e w' => e = .returned (.tuple #[.string ⟨(txtL l at' n).toArray⟩, .int .i64 (roomE l.length at' n)]) ∧ w = w' := by
  by_cases hin : 0 ≤ at' ∧ 0 ≤ n ∧ at' + n ≤ l.length
  · have hE : roomE l.length at' n = 0 := by rw [roomE, if_pos hin]
    rw [txtL, if_pos hE, hE]
    have HT := Lib.hid (fun w => there_yes w l.length at' n (by omega) h1 h2 hin)
    obtain ⟨a, rfl⟩ := Int.eq_ofNat_of_zero_le hin.1
    obtain ⟨m, rfl⟩ := Int.eq_ofNat_of_zero_le hin.2.1
    simp only [Int.toNat_natCast]
    have he : (⟨l.toArray⟩ : ByteArray).extract a (a + m) = ⟨((l.drop a).take m).toArray⟩ := by
      rw [ext_list']
      congr 3
      omega
    have hle : (a : Int) + (m : Int) ≤ (l.length : Int) := by omega
    clear hE h1 h2 hin
    go_enter Try.func34, Try.ntmps34
    go_wp2_with fail
    refine (HT.out _).mono ?_
    rintro e w1 ⟨rfl, rfl⟩
    go_wp2
    go_ret2
    exact ⟨congrArg (fun s => Ending.returned (.tuple #[.string s, .int .i64 0])) he, rfl⟩
  · have hE : roomE l.length at' n = 13 := by rw [roomE, if_neg hin]
    rw [txtL, if_neg (by rw [hE]; decide), hE]
    have HT := Lib.hid (fun w => there_no w l.length at' n (by omega) h1 h2 hin)
    clear hE h1 h2 hin
    go_enter Try.func34, Try.ntmps34
    go_wp2_with fail
    refine (HT.out _).mono ?_
    rintro e w1 ⟨rfl, rfl⟩
    go_wp2
    go_ret2
    exact ⟨rfl, rfl⟩

theorem refWrite_any (w : World) (l : List UInt8) (hl : l.length ≤ 65536) (at' : Int) (s : List UInt8) (h1 : -9223372036854775808 ≤ at' ∧ at' ≤ 9223372036854775807) (h2 : s.length ≤ 9223372036854775807) :
    Calls Try.prog 29 #[.string ⟨l.toArray⟩, .int .i64 at', .string ⟨s.toArray⟩] w fun e w' => e = .returned (.tuple #[.string ⟨(wrL l at' s).toArray⟩, .int .i64 (roomE l.length at' s.length)]) ∧ ∃ n, w' = w.drewN n := by
  by_cases hin : 0 ≤ at' ∧ 0 ≤ (s.length : Int) ∧ at' + (s.length : Int) ≤ l.length
  · have hE : roomE l.length at' s.length = 0 := by rw [roomE, if_pos hin]
    rw [wrL, if_pos hE, hE]
    have HT := Lib.hid (fun w => there_yes w l.length at' s.length (by omega) h1 (by omega) hin)
    obtain ⟨a, rfl⟩ := Int.eq_ofNat_of_zero_le hin.1
    rw [Int.toNat_natCast]
    have he : (⟨l.toArray⟩ : ByteArray).extract 0 a = ⟨(l.take a).toArray⟩ := by rw [ext_list', List.drop_zero, Nat.sub_zero]
    have he2 : (⟨l.toArray⟩ : ByteArray).extract (a + s.length) l.length = ⟨(l.drop (a + s.length)).toArray⟩ := by rw [ext_list', List.take_of_length_le (by rw [List.length_drop]; omega)]
    have hle : (a : Int) + (s.length : Int) ≤ (l.length : Int) := by omega
    have hw : IntKind.i64.wrap ((a : Int) + (s.length : Int)) = (a : Int) + (s.length : Int) := IntWalk.i64_in _ (by omega)
    have hn : ((a : Int) + (s.length : Int)).toNat = a + s.length := by omega
    have ht1 : (l.take a).length ≤ 65536 := by rw [List.length_take]; omega
    have ht2 : (l.drop (a + s.length)).length ≤ 65536 := by rw [List.length_drop]; omega
    clear hE h1 h2 hin
    go_enter Try.func29, Try.ntmps29
    go_wp2_with fail
    refine (HT.out _).mono ?_
    rintro e w1 ⟨rfl, rfl⟩
    go_wp2
    go_quiet (fail)
    go_wp2
    go_ret2
    refine ⟨?_, _, rfl⟩
    have e : (({ data := (l.take a).toArray } : ByteArray) ++ { data := s.toArray } ++ { data := (l.drop (a + s.length)).toArray }) = ⟨(spl l a s).toArray⟩ := by
      rw [str_append, str_append, spl]
    exact congrArg (fun s => Ending.returned (.tuple #[.string s, .int .i64 0])) e
  · have hE : roomE l.length at' s.length = 13 := by rw [roomE, if_neg hin]
    rw [wrL, if_neg (by rw [hE]; decide), hE]
    have HT := Lib.hid (fun w => there_no w l.length at' s.length (by omega) h1 (by omega) hin)
    clear hE h1 hin
    go_enter Try.func29, Try.ntmps29
    go_wp2_with fail
    refine (HT.out _).mono ?_
    rintro e w1 ⟨rfl, rfl⟩
    go_wp2
    go_ret2
    exact ⟨rfl, 0, rfl⟩

theorem refGet_any (w : World) (l : List UInt8) (hl : l.length ≤ 65536) (at' n : Int) (h1 : -9223372036854775808 ≤ at' ∧ at' ≤ 9223372036854775807) (h2 : -9223372036854775808 ≤ n ∧ n ≤ 9223372036854775807) :
    Calls Try.prog 32 #[.string ⟨l.toArray⟩, .int .i64 at', .int .i64 n] w fun e w' => e = .returned (.tuple #[.int .u64 (gotE l at' n), .int .i64 (numE l.length at' n)]) ∧ Below w.heap.size w w' := by
  have hz : (⟨l.toArray⟩ : ByteArray).size = l.length := rfl
  by_cases hn : n < 1 ∨ 8 < n
  · have hE : numE l.length at' n = 1 := by rw [numE, if_pos hn]
    rw [gotE, if_neg (by rw [hE]; decide), hE]
    by_cases hn1 : n < 1
    · clear hn hE
      go_enter Try.func32, Try.ntmps32
      go_wp2
      go_ret2
      exact ⟨rfl, Below.refl _ _⟩
    · have hn2 : 8 < n := by omega
      clear hn hE
      go_enter Try.func32, Try.ntmps32
      go_wp2
      go_ret2
      exact ⟨rfl, Below.refl _ _⟩
  · have HR := Lib.hid (fun w => refReadLittle_any w ⟨l.toArray⟩ at' n (by rw [hz]; omega) h1 h2)
    have hn1 : ¬ n < 1 := by omega
    have hn2 : ¬ 8 < n := by omega
    by_cases hE : numE l.length at' n = 0
    · have hin : 0 ≤ at' ∧ at' + n ≤ l.length := by
        rw [numE, if_neg hn] at hE
        unfold roomE at hE
        split at hE
        · omega
        · omega
      have e1 : rdOk ⟨l.toArray⟩ at' n = true := by simp only [rdOk, hz, decide_eq_true_eq]; omega
      have e2 : rdLittle ⟨l.toArray⟩ at' n = ((bigv ((l.drop at'.toNat).take n.toNat).reverse : Nat) : Int) := by
        rw [rdLittle, if_pos e1]
        rfl
      rw [gotE, if_pos hE, hE]
      have hR := HR.out
      rw [e1, e2] at hR
      have HR2 := Lib.hid hR
      clear HR hR e1 e2 hE hin h1 h2 hn
      go_enter Try.func32, Try.ntmps32
      go_wp2_with fail
      refine (HR2.out _).mono ?_
      rintro e w1 ⟨rfl, rfl⟩
      go_wp2
      go_ret2
      exact ⟨rfl, Below.refl _ _⟩
    · have hE2 : numE l.length at' n = 13 := by
        rw [numE, if_neg hn] at hE ⊢
        unfold roomE at hE ⊢
        split
        · rename_i h; rw [if_pos h] at hE; exact absurd rfl hE
        · rfl
      have e1 : rdOk ⟨l.toArray⟩ at' n = false := by
        rw [numE, if_neg hn] at hE2
        unfold roomE at hE2
        split at hE2
        · omega
        · rename_i h; simp only [rdOk, hz, decide_eq_false_iff_not]; omega
      rw [gotE, if_neg hE, hE2]
      have hR := HR.out
      rw [e1] at hR
      have HR2 := Lib.hid hR
      clear HR hR e1 hE hE2 h1 h2 hn
      go_enter Try.func32, Try.ntmps32
      go_wp2_with fail
      refine (HR2.out _).mono ?_
      rintro e w1 ⟨rfl, rfl⟩
      go_wp2
      go_ret2
      exact ⟨rfl, Below.refl _ _⟩

theorem refPut_any (w : World) (l : List UInt8) (hl : l.length ≤ 65536) (at' n x : Int) (h1 : -9223372036854775808 ≤ at' ∧ at' ≤ 9223372036854775807) (h2 : -9223372036854775808 ≤ n ∧ n ≤ 9223372036854775807) (hx : 0 ≤ x ∧ x ≤ 18446744073709551615) :
    Calls Try.prog 27 #[.string ⟨l.toArray⟩, .int .i64 at', .int .i64 n, .int .u64 x] w fun e w' => e = .returned (.tuple #[.string ⟨(putL l at' n x).toArray⟩, .int .i64 (numE l.length at' n)]) ∧ Below w.heap.size w w' := by
  by_cases hn : n < 1 ∨ 8 < n
  · have hE : numE l.length at' n = 1 := by rw [numE, if_pos hn]
    rw [putL, if_neg (by rw [hE]; decide), hE]
    by_cases hn1 : n < 1
    · clear hn hE
      go_enter Try.func27, Try.ntmps27
      go_wp2
      go_ret2
      exact ⟨rfl, Below.refl _ _⟩
    · have hn2 : 8 < n := by omega
      clear hn hE
      go_enter Try.func27, Try.ntmps27
      go_wp2
      go_ret2
      exact ⟨rfl, Below.refl _ _⟩
  · have hn1 : ¬ n < 1 := by omega
    have hn2 : ¬ 8 < n := by omega
    have hll : ((litN x n).length : Int) = n := by rw [litN, if_pos (by omega), lit_len]; omega
    have HL := Lib.hid (fun w => refLittle_any w x n hx)
    have hW := fun w => refWrite_any w l hl at' (litN x n) h1 (by have := litN_len x n; omega)
    have e1 : numE l.length at' n = roomE l.length at' (litN x n).length := by rw [numE, if_neg hn, hll]
    have e2 : putL l at' n x = wrL l at' (litN x n) := by rw [putL, wrL, e1]
    rw [← e1, ← e2] at hW
    have HW := Lib.hid hW
    clear hW e1 e2 hll hx h1 h2 hn
    generalize litN x n = s at HL HW
    go_enter Try.func27, Try.ntmps27
    go_wp2_with fail
    refine (HL.out _).mono ?_
    rintro e w1 ⟨rfl, hb⟩
    go_wp2_with fail
    refine (HW.out _).mono ?_
    rintro e w2 ⟨rfl, k, rfl⟩
    go_wp2
    go_ret2
    exact ⟨rfl, Below.drewN hb k⟩
end Go.Proofs.Yteinnindnijdiaa
