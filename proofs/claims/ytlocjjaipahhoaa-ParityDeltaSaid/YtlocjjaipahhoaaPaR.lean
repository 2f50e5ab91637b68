/- The sum of texts by the reference, and the texts of one byte that the laws make. -/
import Derived.Test.YtlocjjaipahhoaaPaS
namespace Go.Proofs.Ytlocjjaipahhoaa
set_option linter.unusedVariables false
set_option linter.unusedSimpArgs false
set_option maxRecDepth 100000
open Go.RowKit
attribute [local go_sem ↓] Go.wp_at_zero Go.wp_at_succ

theorem z64_get (i : Nat) : z64.getD i 0 = 0 := by
  unfold z64
  rw [List.getD_eq_getElem?_getD, List.getElem?_replicate]
  split <;> rfl
theorem xor_zero (a : UInt8) : (0 : UInt8) ^^^ a = a := by
  apply UInt8.toNat_inj.1
  rw [UInt8.toNat_xor]
  simp

set_option maxHeartbeats 2000000 in
theorem refPa_any (A : Option Addr) (c : Nat) (L : List (List UInt8)) (hL : L.length ≤ maxLen) (hs : ∀ s ∈ L, s.length ≤ maxLen) (w : World) (hA : StrsAt w w.heap.size A L) :
    Calls Try.prog 12 #[.slice A L.length c] w fun e w' => e = .returned (.tuple #[.string ⟨(paV L).1.toArray⟩, .bool (paOk L)]) ∧ Below w.heap.size w w' := by
  have HA := Lib.hid hA
  have hLm : L.length ≤ 9223372036854775807 := hL
  have HS := Lib.hid hs
  have hone := fun (w : World) (v : UInt8) => run_one Try.prog w 40 9 5 v (v.toNat : Int) rfl Try.underlying40 Try.underlying5 Try.underlying9
  clear hA hs hL
  go_enter Try.func12, Try.ntmps12
  go_wp2
  go_loopw [4, 5] (fun s i wr => ∃ k : Nat, k ≤ 64 ∧ i = .int .i64 k ∧ s = .string ⟨((paS L).take k).toArray⟩ ∧ (0 < k → paOk L = true) ∧ Below w.heap.size w wr) (fun _ i _ => 64 - (intOf i).toNat)
  case atStart => exact ⟨0, by omega, rfl, rfl, by omega, Below.refl _ w⟩
  case round =>
    obtain ⟨i, hi, rfl, rfl, hok, hbel⟩ := hrel
    have HOK := Lib.hid hok
    have HB := Lib.hid hbel
    by_cases hlt : i < 64
    · have hlt' : (i : Int) < 64 := by omega
      have hcells := HA.out.below hbel
      have HC := Lib.hid hcells
      clear hok hbel hcells
      obtain ⟨wo, rfl⟩ : ∃ wo : World, wo = wr := ⟨_, rfl⟩
      go_wp2
      go_loopw [6, 7] (fun b j wq => ∃ k : Nat, k ≤ L.length ∧ j = .int .i64 k ∧ (∀ s ∈ L.take k, s.length = 64) ∧ b = .int .u8 (((paS (L.take k)).getD i 0).toNat : Int) ∧ wq = wo) (fun _ j _ => L.length - (intOf j).toNat)
      case atStart => exact ⟨0, by omega, rfl, by simp, by rw [List.take_zero]; show _ = Value.int .u8 ((z64.getD i 0).toNat : Int); rw [z64_get]; rfl, rfl⟩
      case round =>
        obtain ⟨k, hk, rfl, hpre, rfl, rfl⟩ := hrel
        have HPRE := Lib.hid hpre
        clear hpre
        by_cases hkl : k < L.length
        · have hkl' : (k : Int) < (L.length : Int) := by omega
          obtain ⟨b, o, rfl, hbl, hcell⟩ : ∃ b o, A = some ⟨b, o, none⟩ ∧ b < w.heap.size ∧ ∀ j (hj : j < L.length), wr.cell? ⟨b, o + j, none⟩ = some (.string ⟨(L[j]).toArray⟩) := by
            rcases HC.out with h | h
            · rw [h] at hkl; simp at hkl
            · exact h
          have hc := hcell k hkl
          have hsl : (L[k]).length ≤ maxLen := HS.out _ (List.getElem_mem hkl)
          obtain ⟨s, hsd⟩ : ∃ s, s = L[k] := ⟨_, rfl⟩
          rw [← hsd] at hc hsl
          have HSD := Lib.hid hsd
          clear hcell hsd
          by_cases h64 : s.length = 64
          · have hsi : ((s.length : Int) != 64) = false := by
              rw [bne_eq_false_iff_eq]; omega
            have his : (i : Int) < (s.length : Int) := by omega
            have hcl : (paS (L.take k)).length = 64 := paS_len _ _ (by simp [z64]) HPRE.out
            have gs := str_get s i (by omega)
            have hstep : (paS (L.take (k + 1))).getD i 0 = (paS (L.take k)).getD i 0 ^^^ s[i]'(by omega) := by
              rw [List.take_succ_eq_append_getElem hkl, paS_snoc, ← HSD.out, List.getD_eq_getElem?_getD, xorL_get _ _ i (by omega) (by omega), List.getD_eq_getElem?_getD, List.getElem?_eq_getElem (by omega)]
              rfl
            have HST := Lib.hid hstep
            obtain ⟨x, hx⟩ : ∃ x, x = (paS (L.take k)).getD i 0 := ⟨_, rfl⟩
            rw [← hx] at HST
            have hxo := xor_u8 x (s[i]'(by omega))
            generalize s[i]'(by omega) = y at gs HST hxo
            have hpre2 : ∀ s' ∈ L.take (k + 1), s'.length = 64 := by
              intro s' hs'
              rw [List.take_succ_eq_append_getElem hkl, List.mem_append] at hs'
              rcases hs' with h | h
              · exact HPRE.out s' h
              · rw [List.mem_singleton] at h
                rw [h, ← HSD.out]
                exact h64
            have HP2 := Lib.hid hpre2
            rw [← hx]
            clear hstep hpre2 hcl hx
            go_wp2
            go_roundw
            case rel => exact ⟨k + 1, by omega, by go_num, HP2.out, by rw [HST.out, UInt8.toNat_xor], by first | rfl | trivial⟩
            case measure => simp [intOf]; omega
          · have hsi : ((s.length : Int) != 64) = true := by
              rw [bne_iff_ne]; omega
            have hno : paOk L = false := by
              rw [Bool.eq_false_iff]
              intro h
              exact h64 (by have := paOk_mem h L[k] (List.getElem_mem hkl); rw [← HSD.out] at this; exact this)
            have e : paV L = ([], 1) := by rw [paV, hno]; rfl
            have HE := Lib.hid e
            have HNO := Lib.hid hno
            clear hno e h64
            go_wp2
            go_ret2
            exact ⟨by rw [HE.out, HNO.out]; rfl, HB.out⟩
        · have hkn : L.take k = L := List.take_of_length_le (by omega)
          rw [hkn] at HPRE
          rw [hkn]
          have hlen : (paS L).length = 64 := paS_len _ _ (by simp [z64]) HPRE.out
          have hokL : paOk L = true := by
            rw [paOk, List.all_eq_true]
            intro s hs
            rw [HPRE.out s hs]; rfl
          have HOKL := Lib.hid hokL
          have hsn : ((⟨((paS L).take i).toArray⟩ : ByteArray) ++ ⟨#[(paS L).getD i 0]⟩) = ⟨((paS L).take (i + 1)).toArray⟩ := by
            have e : (paS L).getD i 0 = (paS L)[i]'(by omega) := by rw [List.getD_eq_getElem?_getD, List.getElem?_eq_getElem (by omega)]; rfl
            rw [e, List.take_succ_eq_append_getElem (by omega)]
            exact str_append _ _
          have HSN := Lib.hid hsn
          have hlt2 : ((paS L).take i).length ≤ 64 := by rw [List.length_take]; omega
          have hkl' : (L.length : Int) ≤ (k : Int) := by omega
          generalize (paS L).getD i 0 = y at HSN ⊢
          generalize (paS L).take i = P at HSN hlt2 ⊢
          obtain ⟨wo2, rfl⟩ : ∃ wo2 : World, wo2 = wr := ⟨_, rfl⟩
          clear hkn hlen hokL hsn
          go_wp2
          go_roundw
          case rel => exact ⟨i + 1, by omega, by go_num, by rw [HSN.out], fun _ => HOKL.out, HB.out.alloc HB.out.size _⟩
          case measure => simp [intOf]; omega
    · have hi64 : i = 64 := by omega
      have hokL := hok (by omega)
      have hlen : (paS L).length = 64 := paS_len _ _ (by simp [z64]) (paOk_mem hokL)
      have htk : (paS L).take i = paS L := List.take_of_length_le (by omega)
      have e : paV L = (paS L, 0) := by rw [paV, hokL]; rfl
      have HE := Lib.hid e
      have HOKL := Lib.hid hokL
      have hlt' : (64 : Int) ≤ (i : Int) := by omega
      rw [htk]
      clear hok hbel htk e hokL hlen
      go_wp2
      go_ret2
      exact ⟨by rw [HE.out, HOKL.out]; rfl, HB.out⟩

def full (b : UInt8) : List UInt8 := List.replicate 64 b
set_option maxHeartbeats 1000000 in
theorem full_any (b : UInt8) (w : World) : Calls Try.prog 19 #[.int .u8 (b.toNat : Int)] w fun e w' => e = .returned (.string ⟨(full b).toArray⟩) ∧ Below w.heap.size w w' := by
  obtain ⟨i0, hi, hz0, hz1, hz2⟩ := info_parts info_u8
  have hmk := fun w => run_make (P := Try.prog) w 40 5 i0 (.int .u8 0) Try.underlying40 hi hz0 .i64 .i64 64 64 (by omega) (by omega) (by rw [hz2]; omega) (by omega)
  rw [hz1] at hmk
  have e64 : (64 : Int).toNat = 64 := rfl
  simp only [e64] at hmk
  have HMD := Lib.hid (made_u8 w 64)
  have HBM := Lib.hid ((Below.refl _ w).alloc (Nat.le_refl _) (.cells (madeCells #[Value.int .u8 0] 64) 5))
  clear hi hz0 hz1 hz2 e64
  go_enter Try.func19, Try.ntmps19
  go_upto_region 2 with fail
  generalize World.alloc _ _ = w1 at HMD HBM ⊢
  clear hmk
  go_wp2
  go_loopw [4] (fun i wr => ∃ k : Nat, k ≤ 64 ∧ i = .int .i64 k ∧ Byt wr 5 w.heap.size (List.replicate k b ++ List.replicate (64 - k) 0) ∧ Below w.heap.size w wr) (fun i _ => 64 - (intOf i).toNat)
  case atStart => exact ⟨0, by omega, rfl, HMD.out, HBM.out⟩
  case round =>
    obtain ⟨k, hk, rfl, hby, hbel⟩ := hrel
    have HB := Lib.hid hbel
    by_cases hlt : k < 64
    · have hlt' : (k : Int) < 64 := by omega
      have hl : (List.replicate k b ++ List.replicate (64 - k) 0).length = 64 := by simp; omega
      have hc := hby.cell k (by rw [hl]; exact hlt)
      have hf := hby.free k (by rw [hl]; exact hlt)
      have hy2 := hby.set k (by rw [hl]; exact hlt) b
      have hset : (List.replicate k b ++ List.replicate (64 - k) 0).set k b = List.replicate (k + 1) b ++ List.replicate (64 - (k + 1)) 0 := by
        rw [List.set_append_right _ _ (by simp), List.length_replicate, Nat.sub_self]
        have e : 64 - k = (64 - (k + 1)) + 1 := by omega
        rw [e, List.replicate_succ, List.set_cons_zero, List.replicate_succ' (n := k), List.append_assoc]
        rfl
      rw [hset] at hy2
      have HY2 := Lib.hid hy2
      have HB2 := Lib.hid (Below.setCell (p := ⟨w.heap.size, k, none⟩) HB.out (Nat.le_refl _) (.int .u8 (b.toNat : Int)))
      clear hby hbel hy2 hset
      go_wp2
      go_roundw
      case rel => exact ⟨k + 1, by omega, by go_num, HY2.out, HB2.out⟩
      case measure => simp [intOf]; omega
    · have hk64 : k = 64 := by omega
      subst hk64
      have hcv := byt_conv hby (n := 64) (by simp) 64
      have e : List.replicate 64 b ++ List.replicate (64 - 64) 0 = full b := by simp [full]
      rw [e] at hcv
      clear hby hbel e
      go_wp2
      go_ret
      exact ⟨rfl, HB.out⟩
end Go.Proofs.Ytlocjjaipahhoaa
