/- What the methods Get, Write and Put of package mem's Mem compute, over a memory of bytes l. No condition but that the memory lies where its pointer says. -/
import Derived.Test.YteinnindnijdiaaMemP
import Derived.Test.YteinnindnijdiaaMemL
import Derived.Test.YteinnindnijdiaaBaseC
import Derived.Deep.RegionHeld3
namespace Go.Proofs.Yteinnindnijdiaa
set_option linter.unusedVariables false
set_option maxRecDepth 100000
open Go.RowKit
attribute [local go_sem ↓] Go.wp_at_zero Go.wp_at_succ

theorem MemAt.drew {w : World} {p g : Nat} {l : List UInt8} (h : MemAt w p g l) : MemAt w.drew p g l := ⟨h.hdr.drew, h.bytes.drew, h.ne, h.pos, h.small⟩
theorem MemAt.drewN {w : World} {p g : Nat} {l : List UInt8} (h : MemAt w p g l) (n : Nat) : MemAt (w.drewN n) p g l := ⟨h.hdr.drewN n, h.bytes.drewN n, h.ne, h.pos, h.small⟩

/-- the number that n bytes are, from a place on -/
def gotE (l : List UInt8) (at' n : Int) : Int := if numE l.length at' n = 0 then ((bigv ((l.drop at'.toNat).take n.toNat).reverse : Nat) : Int) else 0

theorem rd_piece (l : List UInt8) (a n : Nat) (h1 : 1 ≤ n) (h8 : n ≤ 8) (h : a + n ≤ l.length) (w : World) :
    Calls Try.prog 35 #[.string ⟨((l.drop a).take n).toArray⟩, .int .i64 0, .int .i64 n] w fun e w' => e = .returned (.tuple #[.int .u64 ((bigv ((l.drop a).take n).reverse : Nat) : Int), .bool true]) ∧ Below w.heap.size w w' := by
  have hl := part_len l a n h
  have hz : (⟨((l.drop a).take n).toArray⟩ : ByteArray).size = n := hl
  have hr := readLittle_any w ⟨((l.drop a).take n).toArray⟩ 0 n (by rw [hz]; omega) (by omega) (by omega)
  have e1 : rdOk ⟨((l.drop a).take n).toArray⟩ 0 n = true := by simp only [rdOk, hz, decide_eq_true_eq]; omega
  have e2 : rdLittle ⟨((l.drop a).take n).toArray⟩ 0 n = ((bigv ((l.drop a).take n).reverse : Nat) : Int) := by
    rw [rdLittle, if_pos e1]
    have : pieceL ⟨((l.drop a).take n).toArray⟩ 0 n = (l.drop a).take n := by
      unfold pieceL
      show (((l.drop a).take n).drop 0).take n = _
      rw [List.drop_zero, List.take_of_length_le (by omega)]
    show ((bigv (pieceL _ 0 n).reverse : Nat) : Int) = _
    rw [this]
  rw [e1, e2] at hr
  exact hr

set_option maxHeartbeats 400000 in
theorem get_any {w : World} {p g : Nat} {l : List UInt8} (h : MemAt w p g l) (at' n : Int) (h1 : -9223372036854775808 ≤ at' ∧ at' ≤ 9223372036854775807)
    (h2 : -9223372036854775808 ≤ n ∧ n ≤ 9223372036854775807) :
    Calls Try.prog 31 #[.pointer (some ⟨p, 0, none⟩), .int .i64 at', .int .i64 n] w fun e w' => e = .returned (.tuple #[.int .u64 (gotE l at' n), .int .i64 (numE l.length at' n)]) ∧ Below w.heap.size w w' := by
  by_cases hE : numE l.length at' n = 0
  · have hin : 1 ≤ n ∧ n ≤ 8 ∧ 0 ≤ at' ∧ at' + n ≤ l.length := by
      unfold numE roomE at hE
      split at hE
      · omega
      · split at hE
        · omega
        · omega
    obtain ⟨a, rfl⟩ := Int.eq_ofNat_of_zero_le hin.2.2.1
    obtain ⟨m, rfl⟩ := Int.eq_ofNat_of_zero_le (show 0 ≤ n by omega)
    rw [gotE, if_pos hE, hE]
    simp only [Int.toNat_natCast]
    have hc := h.cell
    have hs := h.small
    have hbk := run_back Try.prog w 47 9 5 g a (l.length - a) _ Try.underlying47 Try.underlying5 Try.underlying9 (h.bytes.from a m (by omega))
    rw [part_len l a m (by omega)] at hbk
    have HR := Lib.hid (fun w => rd_piece l a m (by omega) (by omega) (by omega) w)
    have H := Lib.hid h
    have HE := Lib.hid hE
    have H1 := Lib.hid h1
    have H2 := Lib.hid h2
    have hlt : a < l.length := by omega
    have hne : ¬ l.length = a := by omega
    have hm1 : 1 ≤ m := by omega
    have hm8 : m ≤ 8 := by omega
    have ham : a + m ≤ l.length := by omega
    clear h hE h1 h2 hin
    go_enter Try.func31, Try.ntmps31
    go_wp2_with fail
    refine (number_any H.out _ _ H1.out H2.out).mono ?_
    rintro e w1 ⟨rfl, rfl⟩
    rw [HE.out]
    go_wp2_with fail
    refine (HR.out _).mono ?_
    rintro e w2 ⟨rfl, hb⟩
    go_wp2
    go_ret2
    exact ⟨rfl, hb⟩
  · have H := Lib.hid h
    have H1 := Lib.hid h1
    have H2 := Lib.hid h2
    rw [gotE, if_neg hE]
    generalize hN : numE l.length at' n = N at hE
    have HN := Lib.hid hN
    have hN2 : (N != 0) = true := by rw [bne_iff_ne]; exact hE
    clear h hE h1 h2 hN
    go_enter Try.func31, Try.ntmps31
    go_wp2_with fail
    refine (number_any H.out _ _ H1.out H2.out).mono ?_
    rintro e w1 ⟨rfl, rfl⟩
    rw [HN.out]
    go_wp2
    go_ret2
    exact ⟨rfl, Below.refl _ _⟩

/-- the bytes behind a write -/
def wrL (l : List UInt8) (at' : Int) (s : List UInt8) : List UInt8 := if roomE l.length at' s.length = 0 then spl l at'.toNat s else l

theorem grown_refl (w : World) (g : Nat) : w.grownBy w (some g) := ⟨rfl, rfl, rfl, Nat.le_refl _, fun _ _ _ => rfl⟩
theorem grown_drewN {a w : World} {row : Option Nat} (h : a.grownBy w row) (n : Nat) : a.grownBy (w.drewN n) row := ⟨h.os, h.tape, h.output, h.size, h.block⟩
theorem grown_below {w v : World} (h : Below w.heap.size w v) (row : Option Nat) : w.grownBy v row := ⟨h.os, h.tape, h.output, h.size, fun i hi _ => h.block i hi⟩
theorem grown_trans {u v w : World} {row : Option Nat} (h : u.grownBy v row) (k : v.grownBy w row) : u.grownBy w row :=
  ⟨k.os.trans h.os, k.tape.trans h.tape, k.output.trans h.output, Nat.le_trans h.size k.size, fun i hi hn => (k.block i (Nat.lt_of_lt_of_le hi h.size) hn).trans (h.block i hi hn)⟩

theorem Byt.thereAt {w : World} {e : TypeId} {b : Nat} {l : List UInt8} (h : Byt w e b l) (o n : Nat) (hf : o + n ≤ l.length) : w.there b o n := by
  intro j hj
  exact ⟨by rw [h.cell (o + j) (by omega)]; rfl, h.free (o + j) (by omega)⟩

set_option maxHeartbeats 400000 in
theorem write_any {w : World} {p g : Nat} {l : List UInt8} (h : MemAt w p g l) (at' : Int) (s : List UInt8) (h1 : -9223372036854775808 ≤ at' ∧ at' ≤ 9223372036854775807) (h2 : s.length ≤ 9223372036854775807) :
    Calls Try.prog 30 #[.pointer (some ⟨p, 0, none⟩), .int .i64 at', .string ⟨s.toArray⟩] w fun e w' => e = .returned (.int .i64 (roomE l.length at' s.length)) ∧ MemAt w' p g (wrL l at' s) ∧ w.grownBy w' (some g) := by
  by_cases hE : roomE l.length at' s.length = 0
  · have hin : 0 ≤ at' ∧ at' + s.length ≤ l.length := by
      unfold roomE at hE
      split at hE
      · omega
      · omega
    obtain ⟨a, rfl⟩ := Int.eq_ofNat_of_zero_le hin.1
    rw [wrL, if_pos hE, hE, Int.toNat_natCast]
    have hc := h.cell
    have hsm := h.small
    have H := Lib.hid h
    have HE := Lib.hid hE
    have H1 := Lib.hid h1
    have H2 := Lib.hid (show -9223372036854775808 ≤ (s.length : Int) ∧ (s.length : Int) ≤ 9223372036854775807 by omega)
    have hal : a + s.length ≤ l.length := by omega
    have HT := Lib.hid (h.bytes.thereAt a s.length hal)
    have HS := Lib.hid (h.spl a s hal)
    have HG := Lib.hid (grown_setCells w g a (s.map ubv))
    clear h hE h1 hin
    by_cases e : a = l.length
    · have hs0 : s = [] := List.eq_nil_of_length_eq_zero (by omega)
      subst hs0
      subst e
      have HE2 := Lib.hid (show roomE (l.length : Int) (l.length : Int) 0 = 0 from HE.out)
      go_enter Try.func30, Try.ntmps30
      go_wp2_with fail
      refine (room_any H.out _ _ H1.out (by omega)).mono ?_
      rintro e w1 ⟨rfl, rfl⟩
      rw [HE2.out]
      go_wp2_with (refine wpList_copy_str rfl (.tmp 21) (.tmp 22) 47 9 rfl 5 g 0 0 0 0 ⟨([] : List UInt8).toArray⟩ rfl rfl Try.underlying47 (info_size info_u8) rfl (fun j hj => absurd hj (by omega)) ?_)
      go_ret
      refine ⟨rfl, ?_, grown_refl _ _⟩
      rw [spl_nil]
      exact H.out
    · have hlt : a < l.length := by omega
      have hne : ¬ l.length = a := fun h => e h.symm
      have HN := Lib.hid (show Nat.min (⟨s.toArray⟩ : ByteArray).size (l.length - a) = s.length from Nat.min_eq_left (by show s.length ≤ _; omega))
      clear e
      go_enter Try.func30, Try.ntmps30
      go_wp2_with fail
      refine (room_any H.out _ _ H1.out H2.out).mono ?_
      rintro e w1 ⟨rfl, rfl⟩
      rw [HE.out]
      go_wp2_with (refine wpList_copy_str rfl (.tmp 21) (.tmp 22) 47 9 rfl 5 g a (l.length - a) (l.length - a) s.length ⟨s.toArray⟩ rfl rfl Try.underlying47 (info_size info_u8) HN.out HT.out ?_)
      go_ret
      exact ⟨rfl, HS.out, HG.out⟩
  · have H := Lib.hid h
    have H1 := Lib.hid h1
    have H2 := Lib.hid (show -9223372036854775808 ≤ (s.length : Int) ∧ (s.length : Int) ≤ 9223372036854775807 by omega)
    rw [wrL, if_neg hE]
    generalize hN : roomE l.length at' s.length = N at hE
    have HN := Lib.hid hN
    have hN2 : (N != 0) = true := by rw [bne_iff_ne]; exact hE
    clear h hE h1 hN
    go_enter Try.func30, Try.ntmps30
    go_wp2_with fail
    refine (room_any H.out _ _ H1.out H2.out).mono ?_
    rintro e w1 ⟨rfl, rfl⟩
    rw [HN.out]
    go_wp2
    go_ret
    exact ⟨rfl, H.out, grown_refl _ _⟩
end Go.Proofs.Yteinnindnijdiaa
