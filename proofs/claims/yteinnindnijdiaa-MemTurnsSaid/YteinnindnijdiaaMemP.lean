/- What the methods Text, Get, Write and Put of package mem's Mem compute, over a memory of bytes l. No condition but that the memory lies where its pointer says. -/
import Derived.Test.YteinnindnijdiaaMemO
namespace Go.Proofs.Yteinnindnijdiaa
set_option linter.unusedVariables false
set_option maxRecDepth 100000
open Go.RowKit
attribute [local go_sem ↓] Go.wp_at_zero Go.wp_at_succ

/-- bytes put from a place on -/
def spl (l : List UInt8) (a : Nat) (s : List UInt8) : List UInt8 := l.take a ++ s ++ l.drop (a + s.length)
theorem spl_len (l : List UInt8) (a : Nat) (s : List UInt8) (h : a + s.length ≤ l.length) : (spl l a s).length = l.length := by
  unfold spl
  rw [List.length_append, List.length_append, List.length_take, List.length_drop]
  omega
theorem spl_nil (l : List UInt8) (a : Nat) : spl l a [] = l := by simp [spl]

theorem spl_get (l : List UInt8) (a : Nat) (s : List UInt8) (h : a + s.length ≤ l.length) (j : Nat) (hj : j < l.length) :
    (spl l a s)[j]'(by rw [spl_len l a s h]; exact hj) = if h2 : a ≤ j ∧ j < a + s.length then s[j - a]'(by omega) else l[j] := by
  unfold spl
  by_cases h1 : j < a
  · rw [dif_neg (by omega), List.getElem_append_left (by rw [List.length_append, List.length_take]; omega), List.getElem_append_left (by rw [List.length_take]; omega), List.getElem_take]
  · by_cases h2 : j < a + s.length
    · rw [dif_pos ⟨by omega, h2⟩, List.getElem_append_left (by rw [List.length_append, List.length_take]; omega), List.getElem_append_right (by rw [List.length_take]; omega)]
      congr 1
      rw [List.length_take]; omega
    · rw [dif_neg (by omega), List.getElem_append_right (by rw [List.length_append, List.length_take]; omega), List.getElem_drop]
      congr 1
      rw [List.length_append, List.length_take]; omega

theorem Byt.spl {w : World} {e : TypeId} {b : Nat} {l : List UInt8} (h : Byt w e b l) (a : Nat) (s : List UInt8) (ha : a + s.length ≤ l.length) :
    Byt (w.setCells b a (s.map ubv)) e b (Proofs.Yteinnindnijdiaa.spl l a s) := by
  obtain ⟨C, hb, hc⟩ := h
  have hsz : l.length ≤ C.size := by
    rcases Nat.eq_zero_or_pos l.length with h0 | h0
    · omega
    · have := hc (l.length - 1) (by omega)
      have := (Array.getElem?_eq_some_iff.1 this).1
      omega
  have hk := Blk.setCells (s.map ubv) a w C hb (by rw [List.length_map]; omega)
  refine ⟨_, hk, fun j hj => ?_⟩
  have hj' : j < l.length := by rw [spl_len l a s ha] at hj; exact hj
  rw [spl_get l a s ha j hj']
  rw [List.getElem?_toArray]
  have hCl : C.toList.length = C.size := by simp
  by_cases h1 : j < a
  · rw [dif_neg (by omega), List.getElem?_append_left (by rw [List.length_append, List.length_take]; omega), List.getElem?_append_left (by rw [List.length_take]; omega), List.getElem?_take, if_pos h1]
    simpa using hc j hj'
  · by_cases h2 : j < a + s.length
    · rw [dif_pos ⟨by omega, h2⟩, List.getElem?_append_left (by rw [List.length_append, List.length_take, List.length_map]; omega), List.getElem?_append_right (by rw [List.length_take]; omega)]
      have e1 : j - (List.take a C.toList).length = j - a := by rw [List.length_take]; omega
      rw [e1, List.getElem?_map, List.getElem?_eq_getElem (by omega)]
      rfl
    · rw [dif_neg (by omega), List.getElem?_append_right (by rw [List.length_append, List.length_take, List.length_map]; omega), List.getElem?_drop]
      have e1 : a + (s.map ubv).length + (j - (List.take a C.toList ++ s.map ubv).length) = j := by rw [List.length_append, List.length_take, List.length_map]; omega
      rw [e1]
      simpa using hc j hj'

theorem grown_setCells (w : World) (b o : Nat) (vs : List Value) : w.grownBy (w.setCells b o vs) (some b) := by
  have h : ∀ (vs : List Value) (o : Nat) (w : World), (w.setCells b o vs).os = w.os ∧ (w.setCells b o vs).tape = w.tape ∧ (w.setCells b o vs).output = w.output := by
    intro vs
    induction vs with
    | nil => intro o w; exact ⟨rfl, rfl, rfl⟩
    | cons v r ih => intro o w; exact ih (o + 1) _
  exact ⟨(h vs o w).1, (h vs o w).2.1, (h vs o w).2.2, by rw [size_setCells]; exact Nat.le_refl _, fun k _ hk => heap_setCells b vs o w k (fun e => hk (by rw [e]))⟩

theorem MemAt.spl {w : World} {p g : Nat} {l : List UInt8} (h : MemAt w p g l) (a : Nat) (s : List UInt8) (ha : a + s.length ≤ l.length) : MemAt (w.setCells g a (s.map ubv)) p g (Proofs.Yteinnindnijdiaa.spl l a s) := by
  have hl := spl_len l a s ha
  refine ⟨?_, h.bytes.spl a s ha, h.ne, by rw [hl]; exact h.pos, by rw [hl]; exact h.small⟩
  rw [hl]
  exact h.hdr.setCells_other g a _ h.ne

/-- the bytes from a place on -/
theorem Byt.from {w : World} {e : TypeId} {b : Nat} {l : List UInt8} (h : Byt w e b l) (a n : Nat) (ha : a + n ≤ l.length) : BytesAt w ⟨b, a, none⟩ ((l.drop a).take n) := by
  intro j hj
  have hj' : j < n := by rw [List.length_take, List.length_drop] at hj; omega
  rw [addr_add, h.cell (a + j) (by omega)]
  simp

theorem part_len (l : List UInt8) (a n : Nat) (h : a + n ≤ l.length) : ((l.drop a).take n).length = n := by rw [List.length_take, List.length_drop]; omega

set_option maxHeartbeats 400000 in
theorem text_ok {w : World} {p g : Nat} {l : List UInt8} (h : MemAt w p g l) (a n : Nat) (ha : a + n ≤ l.length) :
    Calls Try.prog 33 #[.pointer (some ⟨p, 0, none⟩), .int .i64 a, .int .i64 n] w fun e w' => e = .returned (.tuple #[.string ⟨((l.drop a).take n).toArray⟩, .int .i64 0]) ∧ w = w' := by
  have hc := h.cell
  have hs := h.small
  have hbk := run_back Try.prog w 47 9 5 g a (l.length - a) _ Try.underlying47 Try.underlying5 Try.underlying9 (h.bytes.from a n ha)
  have hb0 := run_back Try.prog w 47 9 5 g 0 0 [] Try.underlying47 Try.underlying5 Try.underlying9 (fun j hj => absurd hj (by simp))
  rw [part_len l a n ha] at hbk
  simp only [List.length_nil] at hb0
  have H := Lib.hid h
  have hE : roomE l.length a n = 0 := by rw [roomE, if_pos (by omega)]
  have HE := Lib.hid hE
  clear h hE
  by_cases e : a = l.length
  · have hn0 : n = 0 := by omega
    subst hn0
    subst e
    have HE2 := Lib.hid (show roomE (l.length : Int) (l.length : Int) 0 = 0 from HE.out)
    clear hbk
    go_enter Try.func33, Try.ntmps33
    go_wp2_with fail
    refine (room_any H.out _ _ (by omega) (by omega)).mono ?_
    rintro e w1 ⟨rfl, rfl⟩
    rw [HE2.out]
    go_wp2
    go_ret2
    exact ⟨by simp, rfl⟩
  · have hlt : a < l.length := by omega
    have hne : ¬ l.length = a := fun h => e h.symm
    clear hb0
    go_enter Try.func33, Try.ntmps33
    go_wp2_with fail
    refine (room_any H.out _ _ (by omega) (by omega)).mono ?_
    rintro e w1 ⟨rfl, rfl⟩
    rw [HE.out]
    go_wp2
    go_ret2
    exact ⟨rfl, rfl⟩

theorem text_no {w : World} {p g : Nat} {l : List UInt8} (h : MemAt w p g l) (at' n : Int) (h1 : -9223372036854775808 ≤ at' ∧ at' ≤ 9223372036854775807)
    (h2 : -9223372036854775808 ≤ n ∧ n ≤ 9223372036854775807) (hno : ¬ (0 ≤ at' ∧ 0 ≤ n ∧ at' + n ≤ l.length)) :
    Calls Try.prog 33 #[.pointer (some ⟨p, 0, none⟩), .int .i64 at', .int .i64 n] w fun e w' => e = .returned (.tuple #[.string ⟨([] : List UInt8).toArray⟩, .int .i64 13]) ∧ w = w' := by
  have hE : roomE l.length at' n = 13 := by rw [roomE, if_neg hno]
  have HE := Lib.hid hE
  have H := Lib.hid h
  have H1 := Lib.hid h1
  have H2 := Lib.hid h2
  clear h hE hno h1 h2
  go_enter Try.func33, Try.ntmps33
  go_wp2_with fail
  refine (room_any H.out _ _ H1.out H2.out).mono ?_
  rintro e w1 ⟨rfl, rfl⟩
  rw [HE.out]
  go_wp2
  go_ret2
  exact ⟨rfl, rfl⟩

end Go.Proofs.Yteinnindnijdiaa
