/- The sum of texts: what package parity's Sum and the reference's compute. Condition: texts that a memory can hold. -/
import Derived.Test.YtlocjjaipahhoaaPaP
import Derived.Test.YtlocjjaipahhoaaPaW
import Derived.Deep.RegionHeld3
import Derived.Deep.DeepCutAuto
import Derived.Deep.CutRange
import Derived.Deep.DrawnRows
import Derived.BigRegion
import Derived.BigQuiet
namespace Go.Proofs.Ytlocjjaipahhoaa
set_option linter.unusedVariables false
set_option linter.unusedSimpArgs false
set_option maxRecDepth 100000
open Go.RowKit
attribute [local go_sem ↓] Go.wp_at_zero Go.wp_at_succ

theorem pa_is (s : List UInt8) (w : World) : Calls Try.prog 13 #[.string ⟨s.toArray⟩] w fun e w' => e = .returned (.bool (s.length == 64)) ∧ w' = w := by
  have hb : ((s.length : Int) == 64) = (s.length == 64) := by
    rw [Bool.eq_iff_iff, beq_iff_eq, beq_iff_eq]; omega
  go_enter Try.func13, Try.ntmps13
  go_wp2
  go_ret
  exact ⟨by first | rfl | exact congrArg (fun b => Ending.returned (.bool b)) hb | simp, rfl⟩

theorem info_u8 : (Try.prog.info? 5).map (fun i => (i.zero, i.size, i.bytes)) = some (some (.int .u8 0), 1, 1) := by kernel_rfl
theorem made_u8 (w : World) (n : Nat) : Byt (w.alloc (.cells (madeCells #[Value.int .u8 0] n) 5)) 5 w.heap.size (List.replicate n 0) := by
  refine ⟨_, Blk.new w 5 _ 0 0 (Or.inl (Nat.le_refl _)), fun j hj => ?_⟩
  have hj' : j < n := by simpa using hj
  have e1 : j % 1 = 0 := Nat.mod_one j
  simp [madeCells, hj', e1]
theorem byt_conv {w : World} {b n : Nat} {l : List UInt8} (h : Byt w 5 b l) (hn : l.length = n) (cap : Nat) :
    (convert 40 9 (.slice (some ⟨b, 0, none⟩) n cap)).run Try.prog w = .ok (.string ⟨l.toArray⟩) w := by
  subst hn
  exact run_back Try.prog w 40 9 5 b 0 cap l Try.underlying40 Try.underlying5 Try.underlying9 h.at
def bat (s : ByteArray) (i : Nat) : UInt8 := s.data.toList.getD i 0
theorem str_get (s : List UInt8) (i : Nat) (h : i < s.length) : (⟨s.toArray⟩ : ByteArray)[i]'h = s[i] := rfl

set_option maxHeartbeats 2000000 in
theorem paSum_any (A : Option Addr) (c : Nat) (L : List (List UInt8)) (hL : L.length ≤ maxLen) (hs : ∀ s ∈ L, s.length ≤ maxLen) (w : World) (hA : StrsAt w w.heap.size A L) :
    Calls Try.prog 11 #[.slice A L.length c] w fun e w' => e = .returned (.tuple #[.string ⟨(paV L).1.toArray⟩, .int .i64 (paV L).2]) ∧ Below w.heap.size w w' := by
  obtain ⟨i0, hi, hz0, hz1, hz2⟩ := info_parts info_u8
  have hmk := fun w => run_make (P := Try.prog) w 40 5 i0 (.int .u8 0) Try.underlying40 hi hz0 .i64 .i64 64 64 (by omega) (by omega) (by rw [hz2]; omega) (by omega)
  rw [hz1] at hmk
  have e64 : (64 : Int).toNat = 64 := rfl
  simp only [e64] at hmk
  have HA := Lib.hid hA
  have hLm : L.length ≤ 9223372036854775807 := hL
  have HS := Lib.hid hs
  have HMD := Lib.hid (made_u8 w 64)
  have HBM := Lib.hid ((Below.refl _ w).alloc (Nat.le_refl _) (.cells (madeCells #[Value.int .u8 0] 64) 5))
  clear hA hs hL hi hz0 hz1 hz2 e64
  go_enter Try.func11, Try.ntmps11
  go_upto_region 2 with fail
  generalize World.alloc _ _ = w1 at HMD HBM ⊢
  clear hmk
  go_wp2
  go_loopw [11] (fun i wr => ∃ k : Nat, k ≤ L.length ∧ i = .int .i64 k ∧ (∀ s ∈ L.take k, s.length = 64) ∧ Byt wr 5 w.heap.size (paS (L.take k)) ∧ Below w.heap.size w wr) (fun i _ => L.length - (intOf i).toNat)
  case atStart => exact ⟨0, by omega, rfl, by simp, HMD.out, HBM.out⟩
  case round =>
    obtain ⟨k, hk, rfl, hpre, hby, hbel⟩ := hrel
    have HPRE := Lib.hid hpre
    have HBY := Lib.hid hby
    have HB := Lib.hid hbel
    by_cases hlt : k < L.length
    · have hlt' : (k : Int) < (L.length : Int) := by omega
      obtain ⟨b, o, rfl, hbl, hcell⟩ : ∃ b o, A = some ⟨b, o, none⟩ ∧ b < w.heap.size ∧ ∀ j (hj : j < L.length), wr.cell? ⟨b, o + j, none⟩ = some (.string ⟨(L[j]).toArray⟩) := by
        rcases HA.out.below hbel with h | h
        · rw [h] at hlt; simp at hlt
        · exact h
      have hc := hcell k hlt
      have hsl : (L[k]).length ≤ maxLen := HS.out _ (List.getElem_mem hlt)
      obtain ⟨s, hsd⟩ : ∃ s, s = L[k] := ⟨_, rfl⟩
      rw [← hsd] at hc hsl
      have HSD := Lib.hid hsd
      have HIS := Lib.hid (fun w => pa_is s w)
      clear hpre hby hbel hcell hsd
      by_cases h64 : s.length = 64
      · have hok : (s.length == 64) = true := by rw [h64]; rfl
        rw [hok] at HIS
        obtain ⟨cur, hcur⟩ : ∃ cur, cur = paS (L.take k) := ⟨_, rfl⟩
        have hcl : cur.length = 64 := by rw [hcur]; exact paS_len _ _ (by simp [z64]) HPRE.out
        have HCUR := Lib.hid hcur
        rw [← hcur] at HBY
        have HCL := Lib.hid hcl
        have H64 := Lib.hid h64
        have hsi : (s.length : Int) = 64 := by omega
        clear hcur hcl hok h64
        go_wp2_with (go_at_call 13; refine (HIS.out _).mono ?_; rintro e wi ⟨rfl, rfl⟩)
        go_loopw [20] (fun i wq => ∃ j : Nat, j ≤ 64 ∧ i = .int .i64 j ∧ Byt wq 5 w.heap.size (mix cur s j) ∧ Below w.heap.size w wq) (fun i _ => 64 - (intOf i).toNat)
        case atStart => exact ⟨0, by omega, rfl, by rw [mix_zero]; exact HBY.out, HB.out⟩
        case round =>
          obtain ⟨j, hj, rfl, hby, hbel⟩ := hrel
          have HBQ := Lib.hid hbel
          have HYQ := Lib.hid hby
          have hcs : cur.length = s.length := by rw [HCL.out, H64.out]
          have HCS := Lib.hid hcs
          by_cases hjl : j < 64
          · have hji : (j : Int) < 64 := by omega
            have hjs : (j : Int) < (s.length : Int) := by omega
            have hml : (mix cur s j).length = 64 := by rw [mix_len cur s j hcs (by rw [HCL.out]; omega)]; exact HCL.out
            have hcj := hby.cell j (by rw [hml]; exact hjl)
            have hfj := hby.free j (by rw [hml]; exact hjl)
            have hmg := mix_get cur s j hcs (by rw [HCL.out]; exact hjl)
            rw [List.getElem?_eq_getElem (by rw [hml]; exact hjl)] at hmg
            have hmg' : (mix cur s j)[j]'(by rw [hml]; exact hjl) = cur[j]'(by rw [HCL.out]; exact hjl) := by simpa using hmg
            rw [hmg'] at hcj
            have hset := mix_step cur s j hcs (by rw [HCL.out]; exact hjl)
            have hy2 := hby.set j (by rw [hml]; exact hjl) (cur[j]'(by rw [HCL.out]; exact hjl) ^^^ s[j]'(by rw [H64.out]; exact hjl))
            rw [hset] at hy2
            have gs := str_get s j (by rw [H64.out]; exact hjl)
            have hxo := xor_u8 (cur[j]'(by rw [HCL.out]; exact hjl)) (s[j]'(by rw [H64.out]; exact hjl))
            generalize cur[j]'(by rw [HCL.out]; exact hjl) = x at hcj hy2 hxo
            generalize s[j]'(by rw [H64.out]; exact hjl) = y at gs hy2 hxo
            generalize x ^^^ y = z at hy2 hxo
            have HY2 := Lib.hid hy2
            have HB2 := Lib.hid (Below.setCell (p := ⟨w.heap.size, j, none⟩) HBQ.out (Nat.le_refl _) (.int .u8 (z.toNat : Int)))
            clear hby hbel hml hmg hmg' hset hy2 hcs
            go_upto_region 10 with fail
            go_region
            generalize World.setCell _ _ _ = W5 at HY2 HB2 ⊢
            go_wp2
            go_roundw
            case rel => exact ⟨j + 1, by omega, by go_num, HY2.out, HB2.out.drew⟩
            case measure => simp [intOf]; omega
          · have hj64 : j = 64 := by omega
            have hmx : mix cur s j = xorL cur s := mix_all cur s j hcs (by rw [HCL.out]; omega)
            rw [hmx] at hby
            have hnext : paS (L.take (k + 1)) = xorL cur s := by
              rw [List.take_succ_eq_append_getElem hlt, paS_snoc, ← HCUR.out, ← HSD.out]
            rw [← hnext] at hby
            have HYN := Lib.hid hby
            have hpre2 : ∀ s' ∈ L.take (k + 1), s'.length = 64 := by
              intro s' hs'
              rw [List.take_succ_eq_append_getElem hlt, List.mem_append] at hs'
              rcases hs' with h | h
              · exact HPRE.out s' h
              · rw [List.mem_singleton] at h
                rw [h, ← HSD.out]
                exact H64.out
            have HP2 := Lib.hid hpre2
            have hji : (64 : Int) ≤ (j : Int) := by omega
            clear hby hbel hmx hnext hpre2 hcs
            obtain ⟨wo, rfl⟩ : ∃ wo : World, wo = wr := ⟨_, rfl⟩
            go_wp2
            go_roundw
            case rel => exact ⟨k + 1, by omega, by go_num, HP2.out, HYN.out, HBQ.out⟩
            case measure => simp [intOf]; omega
      · have hok : (s.length == 64) = false := by simpa using h64
        rw [hok] at HIS
        have hno : paOk L = false := by
          rw [Bool.eq_false_iff]
          intro h
          exact h64 (by have := paOk_mem h L[k] (List.getElem_mem hlt); rw [← HSD.out] at this; exact this)
        have e : paV L = ([], 1) := by rw [paV, hno]; rfl
        have HE := Lib.hid e
        clear hno e hok
        go_wp2_with (go_at_call 13; refine (HIS.out _).mono ?_; rintro e wi ⟨rfl, rfl⟩)
        go_ret2
        exact ⟨by rw [HE.out]; rfl, HB.out⟩
    · have hkn : L.take k = L := List.take_of_length_le (by omega)
      rw [hkn] at hby HPRE
      have hlen : (paS L).length = 64 := paS_len _ _ (by simp [z64]) HPRE.out
      have hcv := byt_conv hby hlen 64
      have e : paV L = (paS L, 0) := by
        have : paOk L = true := by
          rw [paOk, List.all_eq_true]
          intro s hs
          rw [HPRE.out s hs]; rfl
        rw [paV, this]; rfl
      have HE := Lib.hid e
      have hlt' : (L.length : Int) ≤ (k : Int) := by omega
      clear hpre hby hbel hkn hlen e
      go_wp2
      go_ret2
      exact ⟨by rw [HE.out]; rfl, HB.out⟩
end Go.Proofs.Ytlocjjaipahhoaa
