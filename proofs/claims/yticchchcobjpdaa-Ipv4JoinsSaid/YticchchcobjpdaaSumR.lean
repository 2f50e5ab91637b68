/- The sum of a text: what the reference's Sum computes. -/
import Derived.Test.YticchchcobjpdaaSum
import Derived.Deep.DrawnRows
namespace Go.Proofs.Yticchchcobjpdaa
set_option linter.unusedVariables false
open Go.RowKit
attribute [local go_sem ↓] Go.wp_at_zero Go.wp_at_succ

theorem wsum_pad : ∀ l : List UInt8, l.length % 2 = 1 → wsum (l ++ [0]) = wsum l
  | [], h => by simp at h
  | [a], _ => by simp [wsum]
  | a :: b :: r, h => by
    have := wsum_pad r (by simp only [List.length_cons] at h; omega)
    simp only [List.cons_append, wsum, this]

set_option maxRecDepth 100000 in
set_option maxHeartbeats 1000000 in
theorem refSum_any (w : World) (l : List UInt8) (hs : l.length ≤ 1000000) :
    Calls Try.prog 16 #[.string ⟨l.toArray⟩] w fun e w' => e = .returned (.int .i64 (sumE ⟨l.toArray⟩)) ∧ Below w.heap.size w w' := by
  obtain ⟨s, hsd⟩ : ∃ s : ByteArray, s = ⟨l.toArray⟩ := ⟨_, rfl⟩
  have hsz : s.size = l.length := by rw [hsd]; rfl
  obtain ⟨W, hWd⟩ : ∃ W, W = wrest s 0 := ⟨_, rfl⟩
  have hW := wrest_le s
  rw [← hWd] at hW
  rw [← hsd]
  have hE := Lib.hid (show sumE s = 65535 - (fld W : Int) by rw [hWd]; rfl)
  have hone := run_one Try.prog w 47 9 5 0 0 rfl Try.underlying47 Try.underlying5 Try.underlying9
  have HB := Lib.hid (Below.refl w.heap.size w)
  have HB1 := Lib.hid ((Below.refl w.heap.size w).alloc (Nat.le_refl _) (.cells #[.int .u8 0] 5))
  by_cases hp : l.length % 2 = 1
  · obtain ⟨T, hT⟩ : ∃ T : ByteArray, T = s ++ ⟨#[0]⟩ := ⟨_, rfl⟩
    have hTl : T = ⟨(l ++ [0]).toArray⟩ := by rw [hT, hsd, str_snoc]
    have hTz : T.size = l.length + 1 := by rw [hTl]; simp [ByteArray.size]
    have hev : T.size % 2 = 0 := by omega
    have hT0 : wrest T 0 = W := by
      rw [hWd, hTl, hsd]
      exact wsum_pad l hp
    have hTW : wrest T 0 = W := hT0
    have hW2 : W ≤ 65535 * 1000001 := by omega
    have HTz := Lib.hid hT
    have hpz : (l.length : Int) % 2 = 1 := by omega
    clear HB hTl hT0 hsd hWd
    clear hW
    go_enter Try.func16, Try.ntmps16
    go_wp2
    rw [← hT]
    have HB := HB1
    clear hone hT HB1 hp hpz
    generalize w.alloc _ = w1 at HB ⊢
    go_loopw [3, 4] (fun n i wr => ∃ k m : Nat, k ≤ T.size ∧ k % 2 = 0 ∧ i = .int .i64 k ∧ n = .int .i64 m ∧ m + wrest T k = W ∧ Below w.heap.size w wr) (fun _ i _ => T.size + 1 - (intOf i).toNat)
    case atStart => exact ⟨0, 0, by omega, by omega, rfl, rfl, by omega, HB.out⟩
    case round =>
      obtain ⟨k, m, hk, hk2, rfl, rfl, hm, hbel⟩ := hrel
      have HB2 := Lib.hid hbel
      clear hTW hbel
      by_cases h0 : k < T.size
      · have h1 : k + 1 < T.size := by omega
        have b0 : T[k]'h0 = bat T k := bat_get T k h0
        have l0 := (bat T k).toNat_lt
        have b1 : T[k + 1]'h1 = bat T (k + 1) := bat_get T (k + 1) h1
        have l1 := (bat T (k + 1)).toNat_lt
        have hr := wrest_two T k h1
        obtain ⟨r, hrd⟩ : ∃ r, r = wrest T (k + 2) := ⟨_, rfl⟩
        rw [← hrd] at hr
        have HR := Lib.hid hrd
        have hm2 : m + (256 * (bat T k).toNat + (bat T (k + 1)).toNat + r) = W := by omega
        clear hrd hr hm
        go_wp2
        go_region
        go_wp2
        go_roundw
        case rel => exact ⟨k + 2, m + 256 * (bat T k).toNat + (bat T (k + 1)).toNat, by omega, by omega, by go_num, by go_num, by rw [← HR.out]; omega, HB2.out.drew⟩
        case measure => simp [intOf]; omega
      · have hz := wrest_end T k (by omega)
        have hmW : m = W := by omega
        subst hmW
        clear hm hz
        obtain ⟨wo, rfl⟩ : ∃ wo : World, wo = wr := ⟨_, rfl⟩
        go_wp2
        go_loop [3] (fun n => ∃ x : Nat, n = .int .i64 x ∧ x ≤ m ∧ fld x = fld m) (fun n => (intOf n).toNat)
        case atStart => exact ⟨m, rfl, Nat.le_refl _, rfl⟩
        case round =>
          obtain ⟨x, rfl, hx, hf⟩ := hrel
          by_cases hb : 65535 < x
          · have HF := Lib.hid (fld_step x hb)
            have hf' := Lib.hid hf
            clear hf
            go_wp2
            go_round
            case rel => exact ⟨x / 65536 + x % 65536, by go_num, by omega, by rw [HF.out, hf'.out]⟩
            case measure => simp [intOf]; omega
          · have hf2 := fld_small x (by omega)
            have hE2 := Lib.hid (show sumE s = 65535 - (x : Int) by rw [hE.out, ← hf, hf2])
            clear hf hf2
            go_wp2
            go_ret
            exact ⟨ret_int hE2.out.symm, HB2.out⟩
  · have hpz : (l.length : Int) % 2 = 0 := by omega
    have hTW : wrest s 0 = W := hWd.symm
    have hW2 : W ≤ 65535 * 1000001 := by omega
    obtain ⟨T, hT⟩ : ∃ T : ByteArray, T = s := ⟨_, rfl⟩
    have hTz : T.size = l.length := by rw [hT, hsz]
    rw [← hT] at hTW
    have hev : T.size % 2 = 0 := by omega
    clear hone HB1 hsd hWd hW
    go_enter Try.func16, Try.ntmps16
    go_wp2
    rw [← hT]
    clear hT
    go_loopw [3, 4] (fun n i wr => ∃ k m : Nat, k ≤ T.size ∧ k % 2 = 0 ∧ i = .int .i64 k ∧ n = .int .i64 m ∧ m + wrest T k = W ∧ Below w.heap.size w wr) (fun _ i _ => T.size + 1 - (intOf i).toNat)
    case atStart => exact ⟨0, 0, by omega, by omega, rfl, rfl, by omega, HB.out⟩
    case round =>
      obtain ⟨k, m, hk, hk2, rfl, rfl, hm, hbel⟩ := hrel
      have HB2 := Lib.hid hbel
      clear hTW hbel
      by_cases h0 : k < T.size
      · have h1 : k + 1 < T.size := by omega
        have b0 : T[k]'h0 = bat T k := bat_get T k h0
        have l0 := (bat T k).toNat_lt
        have b1 : T[k + 1]'h1 = bat T (k + 1) := bat_get T (k + 1) h1
        have l1 := (bat T (k + 1)).toNat_lt
        have hr := wrest_two T k h1
        obtain ⟨r, hrd⟩ : ∃ r, r = wrest T (k + 2) := ⟨_, rfl⟩
        rw [← hrd] at hr
        have HR := Lib.hid hrd
        have hm2 : m + (256 * (bat T k).toNat + (bat T (k + 1)).toNat + r) = W := by omega
        clear hrd hr hm
        go_wp2
        go_region
        go_wp2
        go_roundw
        case rel => exact ⟨k + 2, m + 256 * (bat T k).toNat + (bat T (k + 1)).toNat, by omega, by omega, by go_num, by go_num, by rw [← HR.out]; omega, HB2.out.drew⟩
        case measure => simp [intOf]; omega
      · have hz := wrest_end T k (by omega)
        have hmW : m = W := by omega
        subst hmW
        clear hm hz
        obtain ⟨wo, rfl⟩ : ∃ wo : World, wo = wr := ⟨_, rfl⟩
        go_wp2
        go_loop [3] (fun n => ∃ x : Nat, n = .int .i64 x ∧ x ≤ m ∧ fld x = fld m) (fun n => (intOf n).toNat)
        case atStart => exact ⟨m, rfl, Nat.le_refl _, rfl⟩
        case round =>
          obtain ⟨x, rfl, hx, hf⟩ := hrel
          by_cases hb : 65535 < x
          · have HF := Lib.hid (fld_step x hb)
            have hf' := Lib.hid hf
            clear hf
            go_wp2
            go_round
            case rel => exact ⟨x / 65536 + x % 65536, by go_num, by omega, by rw [HF.out, hf'.out]⟩
            case measure => simp [intOf]; omega
          · have hf2 := fld_small x (by omega)
            have hE2 := Lib.hid (show sumE s = 65535 - (x : Int) by rw [hE.out, ← hf, hf2])
            clear hf hf2
            go_wp2
            go_ret
            exact ⟨ret_int hE2.out.symm, HB2.out⟩
end Go.Proofs.Yticchchcobjpdaa
