/- Great of the law's, given, and the reference's Right. Condition: texts and numbers that a memory can hold. -/
import Derived.Test.YtccbohjcbhibkaaJnJ
import Derived.Test.YtccbohjcbhibkaaJnI
namespace Go.Proofs.Ytccbohjcbhibkaa
set_option linter.unusedVariables false
set_option linter.unusedSimpArgs false
set_option maxRecDepth 100000
open Go.RowKit
attribute [local go_sem ↓] Go.wp_at_zero Go.wp_at_succ ix_dat ld_rec

/-- records lie from an address on, below block B -/
def RsAt (w : World) (B : Nat) (A : Option Addr) (L : List Rc) : Prop :=
  L = [] ∨ ∃ b o, A = some ⟨b, o, none⟩ ∧ b < B ∧ ∀ j (hj : j < L.length), w.rangeAt b (o + j * 7) (encR L[j])
theorem RsAt.below {w w' : World} {B : Nat} {A : Option Addr} {L : List Rc} (h : RsAt w B A L) (hb : Below B w w') : RsAt w' B A L := by
  rcases h with h | ⟨b, o, e1, e2, e3⟩
  · exact Or.inl h
  · exact Or.inr ⟨b, o, e1, e2, fun j hj i v hv => (hb.cell (p := ⟨b, o + j * 7 + i, none⟩) e2).trans (e3 j hj i v hv)⟩
theorem RsAt.up {w w' : World} {A : Option Addr} {L : List Rc} (h : RsAt w w.heap.size A L) (hb : Below w.heap.size w w') : RsAt w' w'.heap.size A L := by
  rcases h.below hb with h | ⟨b, o, e1, e2, e3⟩
  · exact Or.inl h
  · exact Or.inr ⟨b, o, e1, Nat.lt_of_lt_of_le e2 hb.size, e3⟩
def gS (s : List UInt8) : Bool := decide (200 < s.length)
/-- is one of the first k texts of a record great? -/
def gK (r : Rc) : Nat → Bool
  | 0 => false
  | k + 1 => gK r k || gS (dk r k)
/-- is one of the first k records great? -/
def gL (L : List Rc) (k : Nat) : Bool := (L.take k).any (fun r => gK r 4)
def greatB (L : List Rc) : Bool := decide (40 < L.length) || L.any (fun r => gK r 4)
theorem gK_all (r : Rc) (k : Nat) (hk : k < 4) (h : gS (dk r k) = true) : gK r 4 = true := by
  obtain rfl | rfl | rfl | rfl : k = 0 ∨ k = 1 ∨ k = 2 ∨ k = 3 := by omega
  all_goals simp [gK, h]
theorem gL_next (L : List Rc) (k : Nat) (hk : k < L.length) (h : gL L k = false) (h2 : gK L[k] 4 = false) : gL L (k + 1) = false := by
  unfold gL at *
  rw [List.take_add_one, List.any_append, h, List.getElem?_eq_getElem hk]
  simp [h2]
theorem great_yes (L : List Rc) (k : Nat) (hk : k < L.length) (h : gK L[k] 4 = true) : greatB L = true := by
  unfold greatB
  rw [List.any_eq_true.2 ⟨L[k], List.getElem_mem hk, h⟩, Bool.or_true]
theorem great_no (L : List Rc) (h40 : L.length ≤ 40) (h : gL L L.length = false) : greatB L = false := by
  unfold greatB gL at *
  rw [List.take_length] at h
  rw [h, decide_eq_false (by omega)]; rfl
theorem rs_cell {w : World} {B b o : Nat} {L : List Rc} (h : ∀ j (hj : j < L.length), w.rangeAt b (o + j * 7) (encR L[j])) (k j : Nat) (hk : k < L.length) (hj : j < 4) : w.cell? ⟨b, o + k * 7 + 3 + j, none⟩ = some (sv (dk L[k] j)) := by
  have h1 := h k hk (3 + j) (sv (dk L[k] j)) (by
    obtain rfl | rfl | rfl | rfl : j = 0 ∨ j = 1 ∨ j = 2 ∨ j = 3 := by omega
    all_goals rfl)
  rw [← Nat.add_assoc] at h1
  exact h1

set_option maxHeartbeats 1000000 in
theorem great_any (A : Option Addr) (c : Nat) (L : List Rc) (hl : L.length ≤ maxLen) (hd : ∀ r ∈ L, Data r) (w : World) (h : RsAt w w.heap.size A L) :
    Calls Try.prog 11 #[.slice A L.length c] w fun e w' => e = .returned (.bool (greatB L)) ∧ w' = w := by
  have hl2 : L.length ≤ 9223372036854775807 := hl
  by_cases h40 : 40 < L.length
  · have HG : Hid (greatB L = true) := Lib.hid (by unfold greatB; rw [decide_eq_true h40]; rfl)
    have h40i : (40 : Int) < L.length := by omega
    go_enter Try.func11, Try.ntmps11
    go_wp2
    go_ret
    exact ⟨by rw [HG.out]; rfl, rfl⟩
  · have h40i : ¬ (40 : Int) < L.length := by omega
    have h40n : L.length ≤ 40 := by omega
    have HD := Lib.hid hd
    have HR := Lib.hid h
    clear hd h h40
    go_enter Try.func11, Try.ntmps11
    go_wp2
    go_loopw [3] (fun i wr => ∃ k : Nat, k ≤ L.length ∧ i = .int .i64 k ∧ gL L k = false ∧ wr = w) (fun i _ => 40 - (intOf i).toNat)
    case atStart => exact ⟨0, by omega, rfl, rfl, rfl⟩
    case round =>
      obtain ⟨k, hk, rfl, hno, rfl⟩ := hrel
      have HNO := Lib.hid hno
      clear hno
      by_cases hlt : k < L.length
      · have hlt' : (k : Int) < L.length := by omega
        have h0 : L ≠ [] := by intro h; rw [h] at hlt; simp at hlt
        obtain ⟨b, o, rfl, hbw, hcells⟩ : ∃ b o, A = some ⟨b, o, none⟩ ∧ b < wr.heap.size ∧ ∀ j (hj : j < L.length), wr.rangeAt b (o + j * 7) (encR L[j]) := by
          rcases HR.out with h | h
          · exact absurd h h0
          · exact h
        have hcell := fun j hj => rs_cell (B := wr.heap.size) hcells k j hlt hj
        have HN := Lib.hid (gL_next L k hlt HNO.out)
        have HY := Lib.hid (great_yes L k hlt)
        have HDk := Lib.hid (HD.out L[k] (List.getElem_mem hlt))
        have HC := Lib.hid hcell
        generalize L[k] = r at HC HN HY HDk
        clear h0 hcells hcell
        go_wp2
        go_loopw [4] (fun i wz => ∃ m : Nat, m ≤ 4 ∧ i = .int .i64 m ∧ gK r m = false ∧ wz = wr) (fun i _ => 4 - (intOf i).toNat)
        case atStart => exact ⟨0, by omega, rfl, rfl, rfl⟩
        case round =>
          obtain ⟨m, hm, rfl, hgk, hwz⟩ := hrel
          subst hwz
          have HGK := Lib.hid hgk
          clear hgk
          by_cases hm4 : m < 4
          · have hm4' : (m : Int) < 4 := by omega
            have hc := HC.out m hm4
            have hsl : (dk r m).length ≤ 9223372036854775807 := HDk.out m
            have HGS : Hid (gS (dk r m) = decide (200 < (dk r m).length)) := Lib.hid rfl
            have HA := Lib.hid (gK_all r m hm4)
            have HZ : Hid (gS (dk r m) = false → gK r (m + 1) = false) := Lib.hid (fun h => by rw [gK, HGK.out, h]; rfl)
            generalize dk r m = s at hc hsl HGS HA HZ
            by_cases hs : 200 < s.length
            · have hsi : (200 : Int) < s.length := by omega
              have HF := Lib.hid (HY.out (HA.out (HGS.out.trans (decide_eq_true hs))))
              clear HN HY HA HZ
              go_wp2
              go_ret
              exact ⟨by rw [HF.out]; rfl, rfl⟩
            · have hsi : ¬ (200 : Int) < s.length := by omega
              have HF := Lib.hid (HZ.out (HGS.out.trans (decide_eq_false hs)))
              clear HN HY HA HZ
              go_wp2
              go_roundw
              case rel => exact ⟨m + 1, by omega, by go_num, HF.out, by trivial⟩
              case measure => simp [intOf] <;> omega
          · have h4 : m = 4 := by omega
            subst h4
            have HF := Lib.hid (HN.out HGK.out)
            go_wp2
            go_roundw
            case rel => exact ⟨k + 1, by omega, by go_num, HF.out, by trivial⟩
            case measure => simp [intOf] <;> omega
      · have hke : k = L.length := by omega
        subst hke
        have HF := Lib.hid (great_no L h40n HNO.out)
        go_wp2
        go_ret
        exact ⟨by rw [HF.out]; rfl, rfl⟩
end Go.Proofs.Ytccbohjcbhibkaa
