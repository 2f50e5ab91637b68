/- What the functions of package mem that are handed numbers and texts compute: ReadBig, ReadLittle, Little, Big. No condition but that lengths are those of memory that is there. -/
import Derived.Test.YticchchcobjpdaaMemA
namespace Go.Proofs.Yticchchcobjpdaa
set_option linter.unusedVariables false
open Go.RowKit

theorem reverse_nil (w : World) :
    Calls Try.prog 54 #[.slice none 0 0] w fun e w' => e = .returned (.tuple #[]) ∧ w = w' := by
  go_enter Try.func54, Try.ntmps54
  go_wp2
  refine wp_loop_rounds 1 ?_
  rw [rounds_succ]
  go_wp2
  go_end0
  exact ⟨rfl, rfl⟩

/-- are there n bytes, one to eight, from a place on? -/
def rdOk (s : ByteArray) (at' n : Int) : Bool := decide (1 ≤ n ∧ n ≤ 8 ∧ 0 ≤ at' ∧ at' + n ≤ (s.size : Int))
def rdBig (s : ByteArray) (at' n : Int) : Int := if rdOk s at' n then (bigv (pieceL s at'.toNat n.toNat) : Int) else 0
def rdLittle (s : ByteArray) (at' n : Int) : Int := if rdOk s at' n then (bigv (pieceL s at'.toNat n.toNat).reverse : Int) else 0

theorem readBig_any (w : World) (s : ByteArray) (at' n : Int) (hs : s.size ≤ 9223372036854775807) (h1 : -9223372036854775808 ≤ at' ∧ at' ≤ 9223372036854775807)
    (h2 : -9223372036854775808 ≤ n ∧ n ≤ 9223372036854775807) :
    Calls Try.prog 46 #[.string s, .int .i64 at', .int .i64 n] w fun e w' => e = .returned (.tuple #[.int .u64 (rdBig s at' n), .bool (rdOk s at' n)]) ∧ Below w.heap.size w w' := by
  by_cases h : rdOk s at' n = true
  · have hv : rdBig s at' n = (bigv (pieceL s at'.toNat n.toNat) : Int) := by simp [rdBig, h]
    rw [hv, h]
    simp only [rdOk, decide_eq_true_eq] at h
    obtain ⟨ha, hb, hc, hd⟩ := h
    obtain ⟨a, rfl⟩ := Int.eq_ofNat_of_zero_le hc
    obtain ⟨m, rfl⟩ := Int.eq_ofNat_of_zero_le (show 0 ≤ n by omega)
    simp only [Int.toNat_natCast]
    clear hv
    have hlen := Lib.hid (pieceL_len s a m (by omega))
    go_enter Try.func46, Try.ntmps46
    go_wp2_with fail
    refine (piece_yes _ s a m hs (by omega) (by omega) (by omega)).mono ?_
    rintro e w1 ⟨c, rfl, hby, hbel⟩
    go_wp2_with fail
    refine (value_any _ _ c m (pieceL s a m) (by rw [hlen.out]; omega) hlen.out hby.at).mono ?_
    rintro e w2 ⟨rfl, rfl⟩
    go_wp2
    go_ret2
    exact ⟨rfl, hbel⟩
  · have h' : rdOk s at' n = false := by simpa using h
    have hv : rdBig s at' n = 0 := by simp [rdBig, h']
    rw [hv, h']
    simp only [rdOk, decide_eq_true_eq] at h
    clear hv h'
    go_enter Try.func46, Try.ntmps46
    go_wp2_with fail
    refine (piece_no _ s at' n hs h1 h2 (by omega)).mono ?_
    rintro e w1 ⟨rfl, rfl⟩
    go_wp2_with fail
    refine (value_nil _).mono ?_
    rintro e w2 ⟨rfl, rfl⟩
    go_wp2
    go_ret2
    exact ⟨rfl, Below.refl _ _⟩

theorem info_u8 : (Try.prog.info? 5).map (fun i => (i.zero, i.size, i.bytes)) = some (some (.int .u8 0), 1, 1) := by kernel_rfl

theorem Byt.snoc {w : World} {b k n : Nat} {l : List UInt8} (h : Byt w 5 b (l ++ List.replicate (n + 1) 0)) (x : UInt8) (hk : k = l.length) :
    Byt (w.setCell ⟨b, k, none⟩ (.int .u8 (x.toNat : Int))) 5 b ((l ++ [x]) ++ List.replicate n 0) := by
  subst hk
  have := h.set l.length (by simp) x
  rw [List.set_append_right _ _ (Nat.le_refl _)] at this
  simpa [List.replicate_succ] using this

theorem made_u8 (w : World) (n : Nat) : Byt (w.alloc (.cells (madeCells #[Value.int .u8 0] n) 5)) 5 w.heap.size (List.replicate n 0) := by
  refine ⟨_, Blk.new w 5 _ 0 0 (Or.inl (Nat.le_refl _)), fun j hj => ?_⟩
  have hj' : j < n := by simpa using hj
  have e1 : j % 1 = 0 := Nat.mod_one j
  simp [madeCells, hj', e1]

set_option maxRecDepth 100000 in
set_option maxHeartbeats 400000 in
theorem little_yes (w : World) (x n : Nat) (hx : x < 18446744073709551616) (h1 : 1 ≤ n) (h8 : n ≤ 8) :
    Calls Try.prog 53 #[.int .u64 x, .int .i64 n] w fun e w' => e = .returned (.string ⟨(lit x n).toArray⟩) ∧ Below w.heap.size w w' := by
  obtain ⟨i0, hi, hz0, hz1, hz2⟩ := info_parts info_u8
  have hmk := run_make (P := Try.prog) w 47 5 i0 (.int .u8 0) Try.underlying47 hi hz0 .i64 .i64 n n (by omega) (by omega) (by rw [hz2]; omega) (by omega)
  rw [hz1] at hmk
  simp only [Int.toNat_natCast] at hmk
  have hm := made_u8 w n
  go_enter Try.func53, Try.ntmps53
  go_wp2
  go_loopw [6, 16] (fun _ i wr => ∃ k : Nat, k ≤ n ∧ i = .int .i64 k ∧ Byt wr 5 w.heap.size (lit x k ++ List.replicate (n - k) 0) ∧ Below w.heap.size w wr) (fun _ i _ => n - (intOf i).toNat)
  case atStart => exact ⟨0, by omega, rfl, by simpa [lit] using hm, (Below.refl _ _).alloc (Nat.le_refl _) _⟩
  case round =>
    obtain ⟨k, hk, rfl, hby, hbel⟩ := hrel
    clear hmk hm
    by_cases hlt : k < n
    · obtain ⟨m, rfl⟩ : ∃ m, n = k + (m + 1) := ⟨n - k - 1, by omega⟩
      have e1 : k + (m + 1) - k = m + 1 := by omega
      rw [e1] at hby
      have hfr := hby.free k (by simp [lit_len])
      have hce := hby.cell k (by simp [lit_len])
      have hsn := hby.snoc (UInt8.ofNat (x / 256 ^ k)) (lit_len x k).symm
      rw [← lit_succ] at hsn
      have HS := Lib.hid hsn
      have HB := Lib.hid hbel
      have hsh := Lib.hid (shr_step x k)
      clear hsn hby e1 hbel
      go_wp2
      go_roundw
      case rel =>
        rw [hsh.out]
        refine ⟨k + 1, by omega, by go_num, ?_, HB.out.setCell (Nat.le_refl _) _⟩
        rw [show k + (m + 1) - (k + 1) = m by omega]
        exact HS.out
      case measure => simp [intOf]; omega
    · obtain rfl : k = n := by omega
      have hbk := run_back Try.prog wr 47 9 5 w.heap.size 0 k (lit x k) Try.underlying47 Try.underlying5 Try.underlying9 (by simpa using hby.at)
      rw [lit_len] at hbk
      have HB := Lib.hid hbel
      clear hby hbel
      go_wp2
      go_ret
      exact ⟨rfl, HB.out⟩

theorem little_no (w : World) (x n : Int) (h : n < 1 ∨ 8 < n) :
    Calls Try.prog 53 #[.int .u64 x, .int .i64 n] w fun e w' => e = .returned (.string ByteArray.empty) ∧ w = w' := by
  rcases h with h | h
  · go_enter Try.func53, Try.ntmps53
    go_wp2
    go_ret
    exact ⟨rfl, rfl⟩
  · have h' : ¬ n < 1 := by omega
    go_enter Try.func53, Try.ntmps53
    go_wp2
    go_ret
    exact ⟨rfl, rfl⟩

/-- a number's bytes, either way; none where n is not from one to eight -/
def litN (x n : Int) : List UInt8 := if 1 ≤ n ∧ n ≤ 8 then lit x.toNat n.toNat else []

theorem litN_len (x n : Int) : (litN x n).length ≤ 8 := by
  unfold litN; split
  · rw [lit_len]; omega
  · simp

theorem little_any (w : World) (x n : Int) (hx : 0 ≤ x ∧ x ≤ 18446744073709551615) :
    Calls Try.prog 53 #[.int .u64 x, .int .i64 n] w fun e w' => e = .returned (.string ⟨(litN x n).toArray⟩) ∧ Below w.heap.size w w' := by
  by_cases h : 1 ≤ n ∧ n ≤ 8
  · obtain ⟨y, rfl⟩ := Int.eq_ofNat_of_zero_le hx.1
    obtain ⟨m, rfl⟩ := Int.eq_ofNat_of_zero_le (show 0 ≤ n by omega)
    rw [litN, if_pos h]
    exact little_yes w y m (by omega) (by omega) (by omega)
  · rw [litN, if_neg h]
    exact (little_no w x n (by omega)).mono fun e w' ⟨h1, h2⟩ => ⟨h1, h2 ▸ Below.refl _ _⟩

theorem big_any (w : World) (x n : Int) (hx : 0 ≤ x ∧ x ≤ 18446744073709551615) :
    Calls Try.prog 30 #[.int .u64 x, .int .i64 n] w fun e w' => e = .returned (.string ⟨(litN x n).reverse.toArray⟩) ∧ Below w.heap.size w w' := by
  have hcv := fun w s => run_bytes_of_string (P := Try.prog) w 9 47 5 s Try.underlying9 Try.underlying47 Try.underlying5
  obtain ⟨hx1, hx2⟩ := hx
  have hlen := litN_len x n
  obtain ⟨l, hl⟩ : ∃ l, l = litN x n := ⟨_, rfl⟩
  have HL := Lib.hid hl
  rw [← hl] at hlen ⊢
  clear hl
  go_enter Try.func30, Try.ntmps30
  go_wp2_with fail
  refine (little_any _ x n ⟨hx1, hx2⟩).mono ?_
  rintro e w1 ⟨rfl, hb1⟩
  rw [← HL.out]
  go_wp2_with fail
  refine (reverse_any _ _ _ _ l (by omega) rfl (by exact (Byt.new w1 5 ⟨l.toArray⟩ _ _ _ (Nat.le_refl _)).drew)).mono ?_
  rintro e w2 ⟨rfl, hby, honly⟩
  have hbk := run_back Try.prog w2 47 9 5 w1.heap.size 0 (grownCap w1 l.length 0 5) l.reverse Try.underlying47 Try.underlying5 Try.underlying9 hby.at
  rw [List.length_reverse] at hbk
  have HB := Lib.hid (hb1.trans (((Below.refl _ _).alloc hb1.size _).drew.trans (honly.toBelow hb1.size)))
  clear hby honly hb1 hcv
  go_wp2
  go_ret
  exact ⟨by simp, HB.out⟩
end Go.Proofs.Yticchchcobjpdaa
