/- What the functions of package mem that make numbers of bytes compute: value, piece, Reverse, ReadBig, ReadLittle. No condition but that lengths are those of memory that is there. -/
import Derived.Test.YticchchcobjpdaaProg
import Derived.Test.YticchchcobjpdaaNum
namespace Go.Proofs.Yticchchcobjpdaa
set_option linter.unusedVariables false
open Go.RowKit

set_option maxHeartbeats 400000 in
theorem value_any (w : World) (a : Addr) (cap n : Nat) (l : List UInt8) (hl : l.length ≤ 8) (hn : l.length = n)
    (hc : BytesAt w a l) :
    Calls Try.prog 69 #[.slice (some a) n cap] w fun e w' => e = .returned (.int .u64 (bigv l)) ∧ w = w' := by
  subst hn
  go_enter Try.func69, Try.ntmps69
  go_wp2
  go_loop [3, 4, 7] (fun x _ i => ∃ k : Nat, k ≤ l.length ∧ i = .int .i64 k ∧ x = .int .u64 (bigv (l.take k))) (fun _ _ i => l.length - (intOf i).toNat)
  case atStart => exact ⟨0, by omega, rfl, rfl⟩
  case round =>
    obtain ⟨k, hk, rfl, rfl⟩ := hrel
    by_cases hlt : k < l.length
    · have hck := hc k hlt
      have H1 := Lib.hid (bigv_step l k hlt)
      have H2 := Lib.hid (or_step (bigv (l.take k)) l[k].toNat (bigv_take_lt l k (by omega)) l[k].toNat_lt)
      clear hc
      go_wp2
      go_round
      case rel => exact ⟨k + 1, by omega, by go_num, by rw [H1.out, H2.out]⟩
      case measure => simp [intOf]; omega
    · clear hc
      go_wp2
      go_ret
      exact ⟨ret_int (by rw [List.take_of_length_le (by omega)]), rfl⟩

theorem value_nil (w : World) :
    Calls Try.prog 69 #[.slice none 0 0] w fun e w' => e = .returned (.int .u64 0) ∧ w = w' := by
  go_enter Try.func69, Try.ntmps69
  go_wp2
  refine wp_loop_rounds 1 ?_
  rw [rounds_succ]
  go_wp2
  go_ret
  exact ⟨rfl, rfl⟩

set_option maxHeartbeats 400000 in
theorem piece_no (w : World) (s : ByteArray) (at' n : Int) (hs : s.size ≤ 9223372036854775807) (h1 : -9223372036854775808 ≤ at' ∧ at' ≤ 9223372036854775807)
    (h2 : -9223372036854775808 ≤ n ∧ n ≤ 9223372036854775807) (h : n < 1 ∨ 8 < n ∨ at' < 0 ∨ (s.size : Int) < n ∨ (s.size : Int) - n < at') :
    Calls Try.prog 68 #[.string s, .int .i64 at', .int .i64 n] w fun e w' => e = .returned (.tuple #[.slice none 0 0, .bool false]) ∧ w = w' := by
  obtain ⟨h1a, h1b⟩ := h1
  obtain ⟨h2a, h2b⟩ := h2
  by_cases c1 : n < 1
  · clear h
    go_enter Try.func68, Try.ntmps68
    go_wp2
    go_ret2
    exact ⟨rfl, rfl⟩
  by_cases c2 : 8 < n
  · clear h
    go_enter Try.func68, Try.ntmps68
    go_wp2
    go_ret2
    exact ⟨rfl, rfl⟩
  by_cases c3 : at' < 0
  · clear h
    go_enter Try.func68, Try.ntmps68
    go_wp2
    go_ret2
    exact ⟨rfl, rfl⟩
  by_cases c4 : (s.size : Int) < n
  · clear h
    go_enter Try.func68, Try.ntmps68
    go_wp2
    go_ret2
    exact ⟨rfl, rfl⟩
  have c5 : (s.size : Int) - n < at' := by omega
  · clear h
    go_enter Try.func68, Try.ntmps68
    go_wp2
    go_ret2
    exact ⟨rfl, rfl⟩

def pieceL (s : ByteArray) (at' n : Nat) : List UInt8 := (s.data.toList.drop at').take n
theorem pieceL_len (s : ByteArray) (at' n : Nat) (h : at' + n ≤ s.size) : (pieceL s at' n).length = n := by
  unfold pieceL; rw [List.length_take, List.length_drop]; have : s.data.toList.length = s.size := by simp
  omega
theorem pieceL_extract (s : ByteArray) (at' n : Nat) : (s.extract at' (at' + n)).data.toList = pieceL s at' n := by
  rw [extract_list]; unfold pieceL; congr 1; omega

set_option maxHeartbeats 400000 in
theorem piece_yes (w : World) (s : ByteArray) (at' n : Nat) (hs : s.size ≤ 9223372036854775807) (h1 : 1 ≤ n) (h8 : n ≤ 8) (h : at' + n ≤ s.size) :
    Calls Try.prog 68 #[.string s, .int .i64 at', .int .i64 n] w fun e w' => ∃ c, e = .returned (.tuple #[.slice (some ⟨w.heap.size, 0, none⟩) n c, .bool true]) ∧
      Byt w' 5 w.heap.size (pieceL s at' n) ∧ Below w.heap.size w w' := by
  have hcv := fun w s => run_bytes_of_string (P := Try.prog) w 9 47 5 s Try.underlying9 Try.underlying47 Try.underlying5
  go_enter Try.func68, Try.ntmps68
  go_wp2
  go_ret2
  refine ⟨_, rfl, ?_, (Below.refl _ _).alloc (Nat.le_refl _) _ |>.drew⟩
  rw [← pieceL_extract]
  exact Byt.new w 5 _ _ _ _ (Nat.le_refl _)

theorem getD_of (l : List UInt8) (j : Nat) (h : j < l.length) : l.getD j 0 = l[j] := by simp [h]

/-- after k swaps -/
def halfRev (l : List UInt8) (k j : Nat) : UInt8 := if j < k ∨ l.length ≤ j + k then l.getD (l.length - 1 - j) 0 else l.getD j 0

def HalfRev (w : World) (e : TypeId) (b : Nat) (l : List UInt8) (k : Nat) : Prop :=
  ∃ C, Blk w b e C ∧ ∀ j, j < l.length → C[j]? = some (ubv (halfRev l k j))

theorem HalfRev.start {w : World} {e : TypeId} {b : Nat} {l : List UInt8} (h : Byt w e b l) : HalfRev w e b l 0 := by
  obtain ⟨C, hb, hc⟩ := h
  refine ⟨C, hb, fun j hj => ?_⟩
  rw [hc j hj]
  have : ¬ (j < 0 ∨ l.length ≤ j + 0) := by omega
  rw [halfRev, if_neg this, getD_of l j hj]

theorem HalfRev.step {w : World} {e : TypeId} {b : Nat} {l : List UInt8} {k : Nat} (h : HalfRev w e b l k) (hk : k + k + 1 < l.length) :
    HalfRev ((w.setCell ⟨b, k, none⟩ (ubv (halfRev l k (l.length - 1 - k)))).setCell ⟨b, l.length - 1 - k, none⟩ (ubv (halfRev l k k))) e b l (k + 1) := by
  obtain ⟨C, hb, hc⟩ := h
  refine ⟨_, (hb.set k _).set (l.length - 1 - k) _, fun j hj => ?_⟩
  have h1 : k < C.size := (Array.getElem?_eq_some_iff.1 (hc k (by omega))).1
  have h2 : l.length - 1 - k < C.size := (Array.getElem?_eq_some_iff.1 (hc (l.length - 1 - k) (by omega))).1
  rw [Array.getElem?_setIfInBounds, Array.getElem?_setIfInBounds]
  by_cases e1 : l.length - 1 - k = j
  · subst e1
    simp only [if_true, Array.size_setIfInBounds, h2]
    have a1 : ¬ (k < k ∨ l.length ≤ k + k) := by omega
    have a2 : (l.length - 1 - k < k + 1 ∨ l.length ≤ l.length - 1 - k + (k + 1)) := by omega
    rw [halfRev, if_neg a1, halfRev, if_pos a2]
    congr 3
    omega
  · rw [if_neg e1]
    by_cases e2 : k = j
    · subst e2
      simp only [if_true, h1]
      have a1 : ¬ (l.length - 1 - k < k ∨ l.length ≤ l.length - 1 - k + k) := by omega
      have a2 : (k < k + 1 ∨ l.length ≤ k + (k + 1)) := by omega
      rw [halfRev, if_neg a1, halfRev, if_pos a2]
    · rw [if_neg e2, hc j hj]
      congr 2
      unfold halfRev
      by_cases a1 : j < k ∨ l.length ≤ j + k
      · rw [if_pos a1, if_pos (by omega)]
      · rw [if_neg a1, if_neg (by omega)]

theorem HalfRev.done {w : World} {e : TypeId} {b : Nat} {l : List UInt8} {k : Nat} (h : HalfRev w e b l k) (hk : l.length ≤ k + k + 1) : Byt w e b l.reverse := by
  obtain ⟨C, hb, hc⟩ := h
  refine ⟨C, hb, fun j hj => ?_⟩
  have hj' : j < l.length := by simpa using hj
  rw [hc j hj']
  have : halfRev l k j = l.reverse[j] := by
    rw [List.getElem_reverse]
    unfold halfRev
    by_cases a1 : j < k ∨ l.length ≤ j + k
    · rw [if_pos a1, getD_of _ _ (by omega)]
    · rw [if_neg a1, getD_of _ _ (by omega)]
      congr 1
      omega
  rw [this]

theorem HalfRev.cell {w : World} {e : TypeId} {b : Nat} {l : List UInt8} {k : Nat} (h : HalfRev w e b l k) (j : Nat) (hj : j < l.length) :
    w.cell? ⟨b, j, none⟩ = some (ubv (halfRev l k j)) ∧ w.frozen? ⟨b, j, none⟩ = false := by
  obtain ⟨C, hb, hc⟩ := h
  have := hc j hj
  exact ⟨by rw [hb.cell, this], hb.free j (Array.getElem?_eq_some_iff.1 this).1⟩

set_option maxHeartbeats 1000000 in
theorem reverse_any (w : World) (b cap n : Nat) (l : List UInt8) (hl : l.length ≤ 9223372036854775807) (hn : l.length = n) (h : Byt w 5 b l) :
    Calls Try.prog 54 #[.slice (some ⟨b, 0, none⟩) n cap] w fun e w' => e = .returned (.tuple #[]) ∧ Byt w' 5 b l.reverse ∧ Only b w w' := by
  subst hn
  have h0 := HalfRev.start h
  clear h
  go_enter Try.func54, Try.ntmps54
  go_wp2
  go_loopw [2, 3] (fun i j wr => ∃ k : Nat, k + k ≤ l.length ∧ i = .int .i64 k ∧ j = .int .i64 ((l.length : Int) - 1 - k) ∧ HalfRev wr 5 b l k ∧ Only b w wr) (fun i _ _ => l.length - (intOf i).toNat)
  case atStart => exact ⟨0, by omega, rfl, by simp, h0, Only.refl _ _⟩
  case round =>
    obtain ⟨k, hk, rfl, rfl, hh, ho⟩ := hrel
    by_cases hlt : k + k + 1 < l.length
    · obtain ⟨c1, f1⟩ := hh.cell k (by omega)
      obtain ⟨c2, f2⟩ := hh.cell (l.length - 1 - k) (by omega)
      have hs := hh.step hlt
      have HS := Lib.hid hs
      clear hs
      go_wp2
      go_region
      go_wp2
      go_roundw
      case rel => exact ⟨k + 1, by omega, by go_num, by go_num, HS.out, ((ho.setCell _ _).setCell _ _).drew⟩
      case measure => simp [intOf]; omega
    · have hd := Lib.hid (hh.done (by omega))
      have HO := Lib.hid ho
      clear hh ho h0
      go_wp2
      go_end0
      exact ⟨rfl, hd.out, HO.out⟩
end Go.Proofs.Yticchchcobjpdaa
