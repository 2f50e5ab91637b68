/- The laws' sectors: texts cut, or filled up with noughts. Condition: at most 20 texts of at most 200 bytes. -/
import Derived.Test.YtlocjjaipahhoaaPaX
namespace Go.Proofs.Ytlocjjaipahhoaa
set_option linter.unusedVariables false
set_option linter.unusedSimpArgs false
set_option maxRecDepth 100000
open Go.RowKit
attribute [local go_sem ↓] Go.wp_at_zero Go.wp_at_succ

def sec (s : List UInt8) : List UInt8 := (s ++ z64).take 64
def secs (L : List (List UInt8)) : List (List UInt8) := L.map sec
theorem sec_len (s : List UInt8) : (sec s).length = 64 := by rw [sec, List.length_take, List.length_append, z64, List.length_replicate]; omega
theorem secs_len (L : List (List UInt8)) : (secs L).length = L.length := List.length_map _
theorem secs_64 (L : List (List UInt8)) : ∀ s ∈ secs L, s.length = 64 := by
  intro s hs
  obtain ⟨x, _, rfl⟩ := List.mem_map.1 hs
  exact sec_len x

theorem one_strs (w : World) (s : List UInt8) : StrsAt (w.alloc (.cells #[.string ⟨s.toArray⟩] 9)) (w.alloc (.cells #[.string ⟨s.toArray⟩] 9)).heap.size (some ⟨w.heap.size, 0, none⟩) [s] := strs_new w _ _ [s] rfl

theorem conv64 (w : World) : (convert 40 9 (.slice (some ⟨w.heap.size, 0, none⟩) 64 64)).run Try.prog (w.alloc (.cells (madeCells #[Value.int .u8 0] 64) 5)).drew = .ok (.string ⟨z64.toArray⟩) (w.alloc (.cells (madeCells #[Value.int .u8 0] 64) 5)).drew :=
  byt_conv (Byt.drew (made_u8 w 64)) (by simp) 64
theorem ex_take (l : List UInt8) : (({ data := l.toArray } : ByteArray).extract 0 64) = { data := (l.take 64).toArray } := by
  apply ByteArray.ext
  apply Array.ext'
  rw [extract_list]
  simp

set_option maxHeartbeats 1000000 in
theorem sectors_any (A : Option Addr) (c : Nat) (L : List (List UInt8)) (hL : L.length ≤ 20) (hs : ∀ s ∈ L, s.length ≤ 200) (w : World) (hA : StrsAt w w.heap.size A L) :
    Calls Try.prog 16 #[.slice A L.length c] w fun e w' => ∃ v, e = .returned v ∧ w'.ownsRow w.heap.size 9 1 v L.length ((secs L).map encStr) ∧ Below w.heap.size w w' := by
  obtain ⟨i0, hi, hz0, hz1, hz2⟩ := info_parts info_u8
  have hmk := fun w => run_make (P := Try.prog) w 40 5 i0 (.int .u8 0) Try.underlying40 hi hz0 .i64 .i64 64 64 (by omega) (by omega) (by rw [hz2]; omega) (by omega)
  rw [hz1] at hmk
  have e64 : (64 : Int).toNat = 64 := rfl
  simp only [e64] at hmk
  have hcv := conv64
  have HMK := Lib.hid hmk
  have HCV := Lib.hid hcv
  have HA := Lib.hid hA
  have HS := Lib.hid hs
  clear hA hs hi hz0 hz1 hz2 e64 hmk hcv
  go_enter Try.func16, Try.ntmps16
  go_wp2
  go_loopw [4, 3] (fun i v wr => ∃ k : Nat, k ≤ L.length ∧ i = .int .i64 k ∧ wr.ownsRow w.heap.size 9 1 v k ((secs (L.take k)).map encStr) ∧ Below w.heap.size w wr) (fun i _ _ => L.length - (intOf i).toNat)
  case atStart => exact ⟨0, by omega, rfl, World.ownsRow_nil _ _ _ _, Below.refl _ w⟩
  case round =>
    obtain ⟨k, hk, rfl, hown, hbel⟩ := hrel
    have HO := Lib.hid hown
    have HB := Lib.hid hbel
    by_cases hlt : k < L.length
    · have hlt' : (k : Int) < (L.length : Int) := by omega
      obtain ⟨b, o, rfl, hbl, hcell⟩ : ∃ b o, A = some ⟨b, o, none⟩ ∧ b < wr.heap.size ∧ ∀ j (hj : j < L.length), wr.cell? ⟨b, o + j, none⟩ = some (.string ⟨(L[j]).toArray⟩) := by
        rcases HA.out.up hbel with h | h
        · rw [h] at hlt; simp at hlt
        · exact h
      have hc := hcell k hlt
      have hsl : (L[k]).length ≤ 200 := HS.out _ (List.getElem_mem hlt)
      have htk : secs (L.take (k + 1)) = secs (L.take k) ++ [sec L[k]] := by
        rw [secs, List.take_succ_eq_append_getElem hlt, List.map_append]; rfl
      obtain ⟨s, hsd⟩ : ∃ s, s = L[k] := ⟨_, rfl⟩
      rw [← hsd] at hc hsl htk
      have HTK := Lib.hid htk
      have hmk := HMK.out
      have hcv := HCV.out
      have hap := str_append s z64
      have hex := ex_take (s ++ z64)
      have hzl : z64.length = 64 := by simp [z64]
      have hov : ¬ 9223372036854775807 < (s.length : Int) + (z64.length : Int) := by omega
      have hov2 : ¬ 9223372036854775807 < s.length + z64.length := by omega
      clear hsd hcell hown hbel htk hzl
      obtain ⟨c', hc'⟩ : ∃ x, x = s ++ z64 := ⟨_, rfl⟩
      rw [← hc'] at hap hex
      have hcl : c'.length = s.length + 64 := by rw [hc', List.length_append]; simp [z64]
      have h64a : (64 : Int) ≤ (c'.length : Int) := by omega
      have h64b : 64 ≤ c'.length := by omega
      have hse : c'.take 64 = sec s := by rw [sec, hc']
      rw [hse] at hex
      have HC' := Lib.hid hcl
      clear hcl hse hc'
      generalize sec s = T at hex HTK
      generalize z64 = Z at *
      go_wp2
      go_region
      have HB1 : Hid (Below w.heap.size w (wr.alloc (.cells (madeCells #[Value.int .u8 0] 64) 5)).drew) := Below.drewN (HB.out.alloc HB.out.size _) 1
      have HO1 : Hid ((wr.alloc (.cells (madeCells #[Value.int .u8 0] 64) 5)).drew.ownsRow w.heap.size 9 1 _ k ((secs (L.take k)).map encStr)) := HO.out.alloc _
      generalize (wr.alloc (.cells (madeCells #[Value.int .u8 0] 64) 5)).drew = w2 at HB1 HO1 ⊢
      have tokA : True := trivial
      go_wp2_with (have _t := tokA; clear tokA; at_builtin; go_loud (refine wpList_app rfl (.tmp 19) (.tmp 22) rfl w.heap.size _ _ _ rfl (HO1.out.alloc _) _ _ _ [T] rfl rfl (one_strs _ _) (fun h => by cases h) (by omega) (by rw [size_alloc]; have := HB1.out.size; omega) ?_; intro v' w3 hown hg; have HO2 := Lib.hid hown; have HB2 := Lib.hid ((HB1.out.alloc HB1.out.size _).grown hg (by rw [size_alloc]; have := HB1.out.size; omega) (fun q hq => (HO1.out.lt q hq).1)); clear hown hg HO1 HB1))
      go_roundw
      case rel => exact ⟨k + 1, by omega, by go_num, by rw [HTK.out]; exact HO2.out, HB2.out⟩
      case measure => simp [intOf]; omega
    · have hlt' : (L.length : Int) ≤ (k : Int) := by omega
      have htk : L.take k = L := List.take_of_length_le (by omega)
      have hkl : k = L.length := by omega
      rw [htk] at HO
      have HKL := Lib.hid hkl
      clear hown hbel htk
      go_wp2
      go_ret
      exact ⟨_, rfl, by rw [← HKL.out]; exact HO.out, HB.out⟩
end Go.Proofs.Ytlocjjaipahhoaa
