/- What the reference's functions on numbers of bytes compute: Little, Big, there, ReadBig, ReadLittle, as package mem's. No condition but that lengths are those of memory that is there. -/
import Derived.Test.YteinnindnijdiaaMemL
namespace Go.Proofs.Yteinnindnijdiaa
set_option linter.unusedVariables false
open Go.RowKit

theorem there_any (w : World) (size at' n : Int) (h0 : 0 ≤ size ∧ size ≤ 9223372036854775807) (h1 : -9223372036854775808 ≤ at' ∧ at' ≤ 9223372036854775807)
    (h2 : -9223372036854775808 ≤ n ∧ n ≤ 9223372036854775807) :
    Calls Try.prog 46 #[.int .i64 size, .int .i64 at', .int .i64 n] w fun e w' => e = .returned (.bool (decide (0 ≤ at' ∧ 0 ≤ n ∧ at' + n ≤ size))) ∧ w = w' := by
  obtain ⟨h0a, h0b⟩ := h0
  obtain ⟨h1a, h1b⟩ := h1
  obtain ⟨h2a, h2b⟩ := h2
  by_cases c1 : 0 ≤ at'
  · by_cases c2 : 0 ≤ n
    · by_cases c3 : at' ≤ size
      · by_cases c4 : n ≤ size - at'
        · go_enter Try.func46, Try.ntmps46
          go_wp2
          go_ret
          exact ⟨by simp; omega, rfl⟩
        · go_enter Try.func46, Try.ntmps46
          go_wp2
          go_ret
          exact ⟨by simp; omega, rfl⟩
      · go_enter Try.func46, Try.ntmps46
        go_wp2
        go_ret
        exact ⟨by simp; omega, rfl⟩
    · go_enter Try.func46, Try.ntmps46
      go_wp2
      go_ret
      exact ⟨by simp; omega, rfl⟩
  · go_enter Try.func46, Try.ntmps46
    go_wp2
    go_ret
    exact ⟨by simp; omega, rfl⟩

theorem there_no (w : World) (size at' n : Int) (h0 : 0 ≤ size ∧ size ≤ 9223372036854775807) (h1 : -9223372036854775808 ≤ at' ∧ at' ≤ 9223372036854775807)
    (h2 : -9223372036854775808 ≤ n ∧ n ≤ 9223372036854775807) (h : ¬ (0 ≤ at' ∧ 0 ≤ n ∧ at' + n ≤ size)) :
    Calls Try.prog 46 #[.int .i64 size, .int .i64 at', .int .i64 n] w fun e w' => e = .returned (.bool false) ∧ w = w' :=
  (there_any w size at' n h0 h1 h2).mono fun e w' ⟨a, b⟩ => ⟨by rw [a, decide_eq_false h], b⟩
theorem there_yes (w : World) (size at' n : Int) (h0 : 0 ≤ size ∧ size ≤ 9223372036854775807) (h1 : -9223372036854775808 ≤ at' ∧ at' ≤ 9223372036854775807)
    (h2 : -9223372036854775808 ≤ n ∧ n ≤ 9223372036854775807) (h : 0 ≤ at' ∧ 0 ≤ n ∧ at' + n ≤ size) :
    Calls Try.prog 46 #[.int .i64 size, .int .i64 at', .int .i64 n] w fun e w' => e = .returned (.bool true) ∧ w = w' :=
  (there_any w size at' n h0 h1 h2).mono fun e w' ⟨a, b⟩ => ⟨by rw [a, decide_eq_true h], b⟩

set_option maxHeartbeats 400000 in
theorem refReadBig_no (w : World) (s : ByteArray) (at' n : Int) (hs : s.size ≤ 9223372036854775807) (h1 : -9223372036854775808 ≤ at' ∧ at' ≤ 9223372036854775807)
    (h2 : -9223372036854775808 ≤ n ∧ n ≤ 9223372036854775807) (h : ¬ (1 ≤ n ∧ n ≤ 8 ∧ 0 ≤ at' ∧ at' + n ≤ (s.size : Int))) :
    Calls Try.prog 38 #[.string s, .int .i64 at', .int .i64 n] w fun e w' => e = .returned (.tuple #[.int .u64 0, .bool false]) ∧ w = w' := by
  by_cases c1 : n < 1
  · clear h
    obtain ⟨h2a, h2b⟩ := h2
    go_enter Try.func38, Try.ntmps38
    go_wp2
    go_ret2
    exact ⟨rfl, rfl⟩
  by_cases c2 : 8 < n
  · clear h
    obtain ⟨h2a, h2b⟩ := h2
    go_enter Try.func38, Try.ntmps38
    go_wp2
    go_ret2
    exact ⟨rfl, rfl⟩
  have h3 : ¬ (0 ≤ at' ∧ 0 ≤ n ∧ at' + n ≤ (s.size : Int)) := by omega
  have c2' : n ≤ 8 := by omega
  have H3 := Lib.hid h3
  have H1 := Lib.hid h1
  have H2 := Lib.hid h2
  clear h3 h h1 h2
  go_enter Try.func38, Try.ntmps38
  go_wp2_with fail
  refine (there_no _ _ at' n ⟨by omega, by omega⟩ H1.out H2.out H3.out).mono ?_
  rintro e w1 ⟨rfl, rfl⟩
  go_wp2
  go_ret2
  exact ⟨rfl, rfl⟩

theorem refReadLittle_no (w : World) (s : ByteArray) (at' n : Int) (hs : s.size ≤ 9223372036854775807) (h1 : -9223372036854775808 ≤ at' ∧ at' ≤ 9223372036854775807)
    (h2 : -9223372036854775808 ≤ n ∧ n ≤ 9223372036854775807) (h : ¬ (1 ≤ n ∧ n ≤ 8 ∧ 0 ≤ at' ∧ at' + n ≤ (s.size : Int))) :
    Calls Try.prog 37 #[.string s, .int .i64 at', .int .i64 n] w fun e w' => e = .returned (.tuple #[.int .u64 0, .bool false]) ∧ w = w' := by
  by_cases c1 : n < 1
  · clear h
    obtain ⟨h2a, h2b⟩ := h2
    go_enter Try.func37, Try.ntmps37
    go_wp2
    go_ret2
    exact ⟨rfl, rfl⟩
  by_cases c2 : 8 < n
  · clear h
    obtain ⟨h2a, h2b⟩ := h2
    go_enter Try.func37, Try.ntmps37
    go_wp2
    go_ret2
    exact ⟨rfl, rfl⟩
  have h3 : ¬ (0 ≤ at' ∧ 0 ≤ n ∧ at' + n ≤ (s.size : Int)) := by omega
  have c2' : n ≤ 8 := by omega
  have H3 := Lib.hid h3
  have H1 := Lib.hid h1
  have H2 := Lib.hid h2
  clear h3 h h1 h2
  go_enter Try.func37, Try.ntmps37
  go_wp2_with fail
  refine (there_no _ _ at' n ⟨by omega, by omega⟩ H1.out H2.out H3.out).mono ?_
  rintro e w1 ⟨rfl, rfl⟩
  go_wp2
  go_ret2
  exact ⟨rfl, rfl⟩

theorem pieceL_get (s : ByteArray) (a m k : Nat) (h : a + m ≤ s.size) (hk : k < m) : (pieceL s a m)[k]'(by rw [pieceL_len s a m h]; exact hk) = s[a + k]'(by omega) := by
  simp [pieceL]
  rfl

set_option maxHeartbeats 400000 in
theorem refReadBig_yes (w : World) (s : ByteArray) (a m : Nat) (hs : s.size ≤ 9223372036854775807) (h1 : 1 ≤ m) (h8 : m ≤ 8) (h : a + m ≤ s.size) :
    Calls Try.prog 38 #[.string s, .int .i64 a, .int .i64 m] w fun e w' => e = .returned (.tuple #[.int .u64 (bigv (pieceL s a m)), .bool true]) ∧ w = w' := by
  have hlen := Lib.hid (pieceL_len s a m h)
  go_enter Try.func38, Try.ntmps38
  go_wp2_with fail
  refine (there_yes _ _ a m ⟨by omega, by omega⟩ ⟨by omega, by omega⟩ ⟨by omega, by omega⟩ ⟨by omega, by omega, by omega⟩).mono ?_
  rintro e w1 ⟨rfl, rfl⟩
  go_wp2
  go_loop [8, 9] (fun x i => ∃ k : Nat, k ≤ m ∧ i = .int .i64 k ∧ x = .int .u64 (bigv ((pieceL s a m).take k))) (fun _ i => m - (intOf i).toNat)
  case atStart => exact ⟨0, by omega, rfl, rfl⟩
  case round =>
    obtain ⟨k, hk, rfl, rfl⟩ := hrel
    by_cases hlt : k < m
    · have H1 := Lib.hid (bigv_step (pieceL s a m) k (by rw [hlen.out]; exact hlt))
      have H2 := Lib.hid (mul_step (bigv ((pieceL s a m).take k)) (s[a + k]'(by omega)).toNat (bigv_take_lt (pieceL s a m) k (by omega)) (UInt8.toNat_lt _))
      have hg := Lib.hid (pieceL_get s a m k h hlt)
      go_wp2
      go_round
      case rel => exact ⟨k + 1, by omega, by go_num, by rw [H1.out, H2.out, hg.out]⟩
      case measure => simp [intOf]; omega
    · have hkm := Lib.hid (show k = m by omega)
      go_wp2
      go_ret2
      exact ⟨ret2_int (by rw [hkm.out, List.take_of_length_le (by rw [hlen.out]; omega)]), rfl⟩

theorem pieceL_rget (s : ByteArray) (a m k : Nat) (h : a + m ≤ s.size) (hk : k < m) : (pieceL s a m).reverse[k]'(by rw [List.length_reverse, pieceL_len s a m h]; exact hk) = s[a + (m - 1 - k)]'(by omega) := by
  have := pieceL_get s a m (m - 1 - k) h (by omega)
  rw [List.getElem_reverse, ← this]
  congr 1
  rw [pieceL_len s a m h]

set_option maxHeartbeats 400000 in
theorem refReadLittle_yes (w : World) (s : ByteArray) (a m : Nat) (hs : s.size ≤ 9223372036854775807) (h1 : 1 ≤ m) (h8 : m ≤ 8) (h : a + m ≤ s.size) :
    Calls Try.prog 37 #[.string s, .int .i64 a, .int .i64 m] w fun e w' => e = .returned (.tuple #[.int .u64 (bigv (pieceL s a m).reverse), .bool true]) ∧ w = w' := by
  have hlen := Lib.hid (pieceL_len s a m h)
  go_enter Try.func37, Try.ntmps37
  go_wp2_with fail
  refine (there_yes _ _ a m ⟨by omega, by omega⟩ ⟨by omega, by omega⟩ ⟨by omega, by omega⟩ ⟨by omega, by omega, by omega⟩).mono ?_
  rintro e w1 ⟨rfl, rfl⟩
  go_wp2
  go_loop [8, 9] (fun x i => ∃ k : Nat, k ≤ m ∧ i = .int .i64 ((m : Int) - 1 - k) ∧ x = .int .u64 (bigv ((pieceL s a m).reverse.take k))) (fun _ i => (intOf i + 1).toNat)
  case atStart => exact ⟨0, by omega, by simp, rfl⟩
  case round =>
    obtain ⟨k, hk, rfl, rfl⟩ := hrel
    by_cases hlt : k < m
    · have H1 := Lib.hid (bigv_step (pieceL s a m).reverse k (by rw [List.length_reverse, hlen.out]; exact hlt))
      have H2 := Lib.hid (mul_step (bigv ((pieceL s a m).reverse.take k)) (s[a + (m - 1 - k)]'(by omega)).toNat (bigv_take_lt (pieceL s a m).reverse k (by omega)) (UInt8.toNat_lt _))
      have hg := Lib.hid (pieceL_rget s a m k h hlt)
      go_wp2
      go_round
      case rel => exact ⟨k + 1, by omega, by go_num, by rw [H1.out, H2.out, hg.out]⟩
      case measure => simp [intOf]; omega
    · have hkm := Lib.hid (show k = m by omega)
      go_wp2
      go_ret2
      exact ⟨ret2_int (by rw [hkm.out, List.take_of_length_le (by rw [List.length_reverse, hlen.out]; omega)]), rfl⟩

theorem refReadBig_any (w : World) (s : ByteArray) (at' n : Int) (hs : s.size ≤ 9223372036854775807) (h1 : -9223372036854775808 ≤ at' ∧ at' ≤ 9223372036854775807)
    (h2 : -9223372036854775808 ≤ n ∧ n ≤ 9223372036854775807) :
    Calls Try.prog 38 #[.string s, .int .i64 at', .int .i64 n] w fun e w' => e = .returned (.tuple #[.int .u64 (rdBig s at' n), .bool (rdOk s at' n)]) ∧ w = w' := by
  by_cases h : rdOk s at' n = true
  · have hv : rdBig s at' n = (bigv (pieceL s at'.toNat n.toNat) : Int) := by simp [rdBig, h]
    rw [hv, h]
    simp only [rdOk, decide_eq_true_eq] at h
    obtain ⟨ha, hb, hc, hd⟩ := h
    obtain ⟨a, rfl⟩ := Int.eq_ofNat_of_zero_le hc
    obtain ⟨m, rfl⟩ := Int.eq_ofNat_of_zero_le (show 0 ≤ n by omega)
    exact refReadBig_yes w s a m hs (by omega) (by omega) (by omega)
  · have h' : rdOk s at' n = false := by simpa using h
    have hv : rdBig s at' n = 0 := by simp [rdBig, h']
    rw [hv, h']
    exact refReadBig_no w s at' n hs h1 h2 (by simpa [rdOk] using h)

theorem refReadLittle_any (w : World) (s : ByteArray) (at' n : Int) (hs : s.size ≤ 9223372036854775807) (h1 : -9223372036854775808 ≤ at' ∧ at' ≤ 9223372036854775807)
    (h2 : -9223372036854775808 ≤ n ∧ n ≤ 9223372036854775807) :
    Calls Try.prog 37 #[.string s, .int .i64 at', .int .i64 n] w fun e w' => e = .returned (.tuple #[.int .u64 (rdLittle s at' n), .bool (rdOk s at' n)]) ∧ w = w' := by
  by_cases h : rdOk s at' n = true
  · have hv : rdLittle s at' n = (bigv (pieceL s at'.toNat n.toNat).reverse : Int) := by simp [rdLittle, h]
    rw [hv, h]
    simp only [rdOk, decide_eq_true_eq] at h
    obtain ⟨ha, hb, hc, hd⟩ := h
    obtain ⟨a, rfl⟩ := Int.eq_ofNat_of_zero_le hc
    obtain ⟨m, rfl⟩ := Int.eq_ofNat_of_zero_le (show 0 ≤ n by omega)
    exact refReadLittle_yes w s a m hs (by omega) (by omega) (by omega)
  · have h' : rdOk s at' n = false := by simpa using h
    have hv : rdLittle s at' n = 0 := by simp [rdLittle, h']
    rw [hv, h']
    exact refReadLittle_no w s at' n hs h1 h2 (by simpa [rdOk] using h)

set_option maxRecDepth 100000 in
set_option maxHeartbeats 400000 in
theorem refLittle_yes (w : World) (x n : Nat) (hx : x < 18446744073709551616) (h8 : n ≤ 8) :
    Calls Try.prog 40 #[.int .u64 x, .int .i64 n] w fun e w' => e = .returned (.string ⟨(lit x n).toArray⟩) ∧ Below w.heap.size w w' := by
  go_enter Try.func40, Try.ntmps40
  go_wp2
  go_loopw [0, 5, 6] (fun y s i wr => ∃ k : Nat, k ≤ n ∧ i = .int .i64 k ∧ y = .int .u64 (sh x k : Int) ∧ s = .string ⟨(lit x k).toArray⟩ ∧ Below w.heap.size w wr) (fun _ _ i _ => n - (intOf i).toNat)
  case atStart => exact ⟨0, by omega, rfl, by simp [sh_zero], by simp [lit], Below.refl _ _⟩
  case round =>
    obtain ⟨k, hk, rfl, rfl, rfl, hbel⟩ := hrel
    by_cases hlt : k < n
    · have hb8 : (n : Int) ≤ 8 := by omega
      have HB := Lib.hid hbel
      have hlen := lit_len x k
      have hsl := sh_lt x k hx
      clear hbel
      have hone := run_one Try.prog wr 47 9 5 (UInt8.ofNat (sh x k)) ((sh x k : Int) % 256) (mod256 _) Try.underlying47 Try.underlying5 Try.underlying9
      go_wp2
      go_roundw
      case rel => exact ⟨k + 1, by omega, by go_num, by rw [sh_succ]; rfl, by rw [str_snoc, lit_snoc], HB.out.alloc HB.out.size _⟩
      case measure => simp [intOf]; omega
    · have hkm := Lib.hid (show k = n by omega)
      have HB := Lib.hid hbel
      clear hbel
      go_wp2
      go_ret
      exact ⟨ret_str (by rw [hkm.out]), HB.out⟩

theorem refLittle_no (w : World) (x n : Int) (h : n < 1 ∨ 8 < n) :
    Calls Try.prog 40 #[.int .u64 x, .int .i64 n] w fun e w' => e = .returned (.string ⟨([] : List UInt8).toArray⟩) ∧ w = w' := by
  rcases h with h | h
  · go_enter Try.func40, Try.ntmps40
    go_wp2
    refine wp_loop_rounds 1 ?_
    rw [rounds_succ]
    go_wp2
    go_ret
    exact ⟨rfl, rfl⟩
  · have h' : 0 < n := by omega
    go_enter Try.func40, Try.ntmps40
    go_wp2
    refine wp_loop_rounds 1 ?_
    rw [rounds_succ]
    go_wp2
    go_ret
    exact ⟨rfl, rfl⟩

theorem refLittle_any (w : World) (x n : Int) (hx : 0 ≤ x ∧ x ≤ 18446744073709551615) :
    Calls Try.prog 40 #[.int .u64 x, .int .i64 n] w fun e w' => e = .returned (.string ⟨(litN x n).toArray⟩) ∧ Below w.heap.size w w' := by
  by_cases h : 1 ≤ n ∧ n ≤ 8
  · obtain ⟨y, rfl⟩ := Int.eq_ofNat_of_zero_le hx.1
    obtain ⟨m, rfl⟩ := Int.eq_ofNat_of_zero_le (show 0 ≤ n by omega)
    rw [litN, if_pos h]
    exact refLittle_yes w y m (by omega) (by omega)
  · rw [litN, if_neg h]
    exact (refLittle_no w x n (by omega)).mono fun e w' ⟨h1, h2⟩ => ⟨h1, h2 ▸ Below.refl _ _⟩

set_option maxRecDepth 100000 in
set_option maxHeartbeats 400000 in
theorem refBig_yes (w : World) (x n : Nat) (hx : x < 18446744073709551616) (h8 : n ≤ 8) :
    Calls Try.prog 42 #[.int .u64 x, .int .i64 n] w fun e w' => e = .returned (.string ⟨(lit x n).reverse.toArray⟩) ∧ Below w.heap.size w w' := by
  go_enter Try.func42, Try.ntmps42
  go_wp2
  go_loopw [0, 5, 6] (fun y s i wr => ∃ k : Nat, k ≤ n ∧ i = .int .i64 k ∧ y = .int .u64 (sh x k : Int) ∧ s = .string ⟨(lit x k).reverse.toArray⟩ ∧ Below w.heap.size w wr) (fun _ _ i _ => n - (intOf i).toNat)
  case atStart => exact ⟨0, by omega, rfl, by simp [sh_zero], by simp [lit], Below.refl _ _⟩
  case round =>
    obtain ⟨k, hk, rfl, rfl, rfl, hbel⟩ := hrel
    by_cases hlt : k < n
    · have hb8 : (n : Int) ≤ 8 := by omega
      have HB := Lib.hid hbel
      have hlen := lit_len x k
      have hsl := sh_lt x k hx
      clear hbel
      obtain ⟨r, hr⟩ : ∃ r, r = (lit x k).reverse := ⟨_, rfl⟩
      have hrl : r.length = k := by rw [hr, List.length_reverse, hlen]
      have HR := Lib.hid hr
      rw [← hr]
      clear hr hlen
      have hone := run_one Try.prog wr 47 9 5 (UInt8.ofNat (sh x k)) ((sh x k : Int) % 256) (mod256 _) Try.underlying47 Try.underlying5 Try.underlying9
      go_wp2
      go_roundw
      case rel => exact ⟨k + 1, by omega, by go_num, by rw [sh_succ]; rfl, by rw [str_cons, lit_snoc, List.reverse_append, HR.out]; rfl, HB.out.alloc HB.out.size _⟩
      case measure => simp [intOf]; omega
    · have hkm := Lib.hid (show k = n by omega)
      have HB := Lib.hid hbel
      clear hbel
      go_wp2
      go_ret
      exact ⟨ret_str (by rw [hkm.out]), HB.out⟩

theorem refBig_no (w : World) (x n : Int) (h : n < 1 ∨ 8 < n) :
    Calls Try.prog 42 #[.int .u64 x, .int .i64 n] w fun e w' => e = .returned (.string ⟨([] : List UInt8).toArray⟩) ∧ w = w' := by
  rcases h with h | h
  · go_enter Try.func42, Try.ntmps42
    go_wp2
    refine wp_loop_rounds 1 ?_
    rw [rounds_succ]
    go_wp2
    go_ret
    exact ⟨rfl, rfl⟩
  · have h' : 0 < n := by omega
    go_enter Try.func42, Try.ntmps42
    go_wp2
    refine wp_loop_rounds 1 ?_
    rw [rounds_succ]
    go_wp2
    go_ret
    exact ⟨rfl, rfl⟩

theorem refBig_any (w : World) (x n : Int) (hx : 0 ≤ x ∧ x ≤ 18446744073709551615) :
    Calls Try.prog 42 #[.int .u64 x, .int .i64 n] w fun e w' => e = .returned (.string ⟨(litN x n).reverse.toArray⟩) ∧ Below w.heap.size w w' := by
  by_cases h : 1 ≤ n ∧ n ≤ 8
  · obtain ⟨y, rfl⟩ := Int.eq_ofNat_of_zero_le hx.1
    obtain ⟨m, rfl⟩ := Int.eq_ofNat_of_zero_le (show 0 ≤ n by omega)
    rw [litN, if_pos h]
    exact refBig_yes w y m (by omega) (by omega)
  · rw [litN, if_neg h]
    exact (refBig_no w x n (by omega)).mono fun e w' ⟨h1, h2⟩ => ⟨h1, h2 ▸ Below.refl _ _⟩

end Go.Proofs.Yteinnindnijdiaa
