/- The sum of a text: what package ipv4's Sum computes, and the reference's. No condition but that the text is not longer than memory can be. -/
import Derived.Test.YticchchcobjpdaaMemB
namespace Go.Proofs.Yticchchcobjpdaa
set_option linter.unusedVariables false
open Go.RowKit

/-- the sum of the pairs -/
def wsum : List UInt8 → Nat
  | [] => 0
  | [a] => 256 * a.toNat
  | a :: b :: r => 256 * a.toNat + b.toNat + wsum r

theorem wsum_le : ∀ l : List UInt8, wsum l ≤ 65535 * l.length
  | [] => by simp [wsum]
  | [a] => by have := a.toNat_lt; simp only [wsum, List.length_singleton]; omega
  | a :: b :: r => by have := a.toNat_lt; have := b.toNat_lt; have := wsum_le r; simp only [wsum, List.length_cons]; omega

theorem wsum_two (l : List UInt8) (i : Nat) (h : i + 1 < l.length) : wsum (l.drop i) = 256 * (l[i]'(by omega)).toNat + l[i + 1].toNat + wsum (l.drop (i + 2)) := by
  rw [List.drop_eq_getElem_cons (by omega : i < l.length), List.drop_eq_getElem_cons h]
  rfl
theorem wsum_one (l : List UInt8) (i : Nat) (h : i + 1 = l.length) : wsum (l.drop i) = 256 * (l[i]'(by omega)).toNat := by
  rw [List.drop_eq_getElem_cons (by omega : i < l.length), List.drop_eq_nil_of_le (by omega)]
  rfl
theorem wsum_end (l : List UInt8) (i : Nat) (h : l.length ≤ i) : wsum (l.drop i) = 0 := by rw [List.drop_eq_nil_of_le h]; rfl

/-- a number made of its ends, until it has 16 bits -/
def fld (n : Nat) : Nat := if n = 0 then 0 else (n - 1) % 65535 + 1
theorem fld_small (n : Nat) (h : n ≤ 65535) : fld n = n := by unfold fld; split <;> omega
theorem fld_le (n : Nat) : fld n ≤ 65535 := by unfold fld; split <;> omega
theorem fld_step (n : Nat) (h : 65535 < n) : fld (n / 65536 + n % 65536) = fld n := by
  unfold fld
  rw [if_neg (by omega), if_neg (by omega)]
  have : n - 1 = (n / 65536 + n % 65536 - 1) + 65535 * (n / 65536) := by omega
  rw [this, Nat.add_mul_mod_self_left]

/-- what is left of a text from a place on -/
def wrest (s : ByteArray) (i : Nat) : Nat := wsum (s.data.toList.drop i)
theorem wrest_two (s : ByteArray) (i : Nat) (h : i + 1 < s.size) : wrest s i = 256 * (bat s i).toNat + (bat s (i + 1)).toNat + wrest s (i + 2) := by
  have hl := size_list s
  unfold wrest
  rw [wsum_two _ i (by omega)]
  simp only [bat, List.getD_eq_getElem?_getD]
  rw [List.getElem?_eq_getElem (by omega : i < s.data.toList.length), List.getElem?_eq_getElem (by omega : i + 1 < s.data.toList.length)]
  rfl
theorem wrest_one (s : ByteArray) (i : Nat) (h : i + 1 = s.size) : wrest s i = 256 * (bat s i).toNat + wrest s (i + 2) := by
  have hl := size_list s
  unfold wrest
  rw [wsum_one _ i (by omega), wsum_end _ (i + 2) (by omega)]
  simp only [bat, List.getD_eq_getElem?_getD]
  rw [List.getElem?_eq_getElem (by omega : i < s.data.toList.length)]
  rfl
theorem wrest_end (s : ByteArray) (i : Nat) (h : s.size ≤ i) : wrest s i = 0 := wsum_end _ i (by rw [size_list]; exact h)
theorem wrest_le (s : ByteArray) : wrest s 0 ≤ 65535 * s.size := by
  have := wsum_le s.data.toList
  rw [size_list] at this
  exact this

/-- a text's sum -/
def sumE (s : ByteArray) : Int := 65535 - (fld (wrest s 0) : Int)
theorem sumE_in (s : ByteArray) : 0 ≤ sumE s ∧ sumE s ≤ 65535 := by have := fld_le (wrest s 0); unfold sumE; omega

theorem and_ones (n : Nat) (h : n < 9223372036854775808) : bits .and .i64 (n : Int) 65535 = ((n % 65536 : Nat) : Int) := by
  have := bits_mask .i64 63 (by decide) (fun m h0 h1 => IntWalk.i64_in m (by omega)) 16 (by omega) (n : Int) (by omega) (by omega)
  rw [show ((65535 : Int)) = 2 ^ 16 - 1 by decide, this]
  omega

set_option maxHeartbeats 400000 in
theorem sum_any (w : World) (s : ByteArray) (hs : s.size ≤ 1000000) :
    Calls Try.prog 15 #[.string s] w fun e w' => e = .returned (.int .i64 (sumE s)) ∧ w = w' := by
  have hW := wrest_le s
  obtain ⟨W, hWd⟩ : ∃ W, W = wrest s 0 := ⟨_, rfl⟩
  have hE := Lib.hid (show sumE s = 65535 - (fld W : Int) by rw [hWd]; rfl)
  rw [← hWd] at hW
  go_enter Try.func15, Try.ntmps15
  go_wp2
  go_loop [3, 4] (fun n i => ∃ k m : Nat, k ≤ s.size + 1 ∧ i = .int .i64 k ∧ n = .int .i64 m ∧ m + wrest s k = W) (fun _ i => s.size + 1 - (intOf i).toNat)
  case atStart => exact ⟨0, 0, by omega, rfl, rfl, by rw [hWd]; omega⟩
  case round =>
    obtain ⟨k, m, hk, rfl, rfl, hm⟩ := hrel
    clear hWd
    by_cases h0 : k < s.size
    · have b0 : s[k]'h0 = bat s k := bat_get s k h0
      have l0 := (bat s k).toNat_lt
      by_cases h1 : k + 1 < s.size
      · have b1 : s[k + 1]'h1 = bat s (k + 1) := bat_get s (k + 1) h1
        have l1 := (bat s (k + 1)).toNat_lt
        have hr := wrest_two s k h1
        obtain ⟨r, hrd⟩ : ∃ r, r = wrest s (k + 2) := ⟨_, rfl⟩
        rw [← hrd] at hr
        have HR := Lib.hid hrd
        have hm2 : m + (256 * (bat s k).toNat + (bat s (k + 1)).toNat + r) = W := by omega
        clear hrd hr hm
        go_wp2
        go_round
        case rel => exact ⟨k + 2, m + 256 * (bat s k).toNat + (bat s (k + 1)).toNat, by omega, by go_num, by go_num, by rw [← HR.out]; omega⟩
        case measure => simp [intOf]; omega
      · have hr := wrest_one s k (by omega)
        obtain ⟨r, hrd⟩ : ∃ r, r = wrest s (k + 2) := ⟨_, rfl⟩
        rw [← hrd] at hr
        have HR := Lib.hid hrd
        have hm2 : m + (256 * (bat s k).toNat + r) = W := by omega
        clear hrd hr hm
        go_wp2
        go_round
        case rel => exact ⟨k + 2, m + 256 * (bat s k).toNat, by omega, by go_num, by go_num, by rw [← HR.out]; omega⟩
        case measure => simp [intOf]; omega
    · have hz := wrest_end s k (by omega)
      have hmW : m = W := by omega
      subst hmW
      clear hm hz
      go_wp2
      go_loop [3] (fun n => ∃ x : Nat, n = .int .i64 x ∧ x ≤ m ∧ fld x = fld m) (fun n => (intOf n).toNat)
      case atStart => exact ⟨m, rfl, Nat.le_refl _, rfl⟩
      case round =>
        obtain ⟨x, rfl, hx, hf⟩ := hrel
        by_cases hb : 65535 < x
        · have ha := and_ones x (by omega)
          have HF := Lib.hid (fld_step x hb)
          have hf' := Lib.hid hf
          clear hf
          go_wp2
          go_round
          case rel => exact ⟨x / 65536 + x % 65536, by go_num, by omega, by rw [HF.out, hf'.out]⟩
          case measure => simp [intOf]; omega
        · have hf2 := fld_small x (by omega)
          have hE2 := Lib.hid (show sumE s = 65535 - (x : Int) by rw [hE.out, ← hf, hf2])
          clear hf hf2
          go_wp2
          go_ret
          exact ⟨ret_int hE2.out.symm, rfl⟩
end Go.Proofs.Yticchchcobjpdaa
