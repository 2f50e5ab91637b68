/- The sum of a segment's bytes between two addresses, by the reference. -/
import Derived.Test.YtccbgiapabkjbaaSgS
namespace Go.Proofs.Ytccbgiapabkjbaa
set_option linter.unusedVariables false
set_option linter.unusedSimpArgs false
set_option maxRecDepth 100000
open Go.RowKit
attribute [local go_sem ↓] Go.wp_at_zero Go.wp_at_succ
attribute [local go_sem ↓] ld_sg ld_ip

theorem ip_cell {w : World} {b : Nat} {e : TypeId} {f : List UInt8} (h : Blk w b e (f.map ubv).toArray) (j : Nat) (hj : j < f.length) : w.cell? ⟨b, j, none⟩ = some (.int .u8 (f[j].toNat : Int)) := by
  rw [h.cell]
  simp [List.getElem?_eq_getElem hj]

set_option maxHeartbeats 2000000 in
theorem refSgSum_any (b f t : List UInt8) (hL : IpL f t) (hb : b.length ≤ 65535) (w : World) :
    Calls Try.prog 25 #[.string ⟨b.toArray⟩, arrV f, arrV t] w fun e w' => e = .returned (.int .i64 (sgS f t b)) ∧ Below w.heap.size w w' := by
  have HQ := Lib.hid (ip_new w f t)
  have HF := Lib.hid hL.f
  have HT := Lib.hid hL.t
  have hone := fun (w : World) (v : UInt8) => run_one Try.prog w 26 9 5 v (v.toNat : Int) rfl Try.underlying26 Try.underlying5 Try.underlying9
  have hSum := fun w => refSum_any w (f ++ t ++ [0, 6, UInt8.ofNat (b.length / 256), UInt8.ofNat b.length] ++ b) (by
    simp only [List.length_append, List.length_cons, List.length_nil]
    have := hL.f
    have := hL.t
    omega)
  have hV : sgS f t b = sumE ⟨(f ++ t ++ [0, 6, UInt8.ofNat (b.length / 256), UInt8.ofNat b.length] ++ b).toArray⟩ := by
    unfold sgS be
    simp
  rw [hV]
  clear hV
  generalize sumE ⟨(f ++ t ++ [0, 6, UInt8.ofNat (b.length / 256), UInt8.ofNat b.length] ++ b).toArray⟩ = V at hSum ⊢
  have hlb : (b.length : Int) ≤ 65535 := by omega
  have hyy : ((b.length % 256 : Nat) : Int) = ((UInt8.ofNat b.length).toNat : Int) := by rw [UInt8.toNat_ofNat']
  have hxx : ((b.length / 256 : Nat) : Int) = ((UInt8.ofNat (b.length / 256)).toNat : Int) := by rw [ofNat_toNat _ (by omega)]
  have hwx : IntKind.i64.wrap ((b.length : Int) / 256) = ((b.length / 256 : Nat) : Int) := by rw [IntWalk.i64_in _ (by omega)]; omega
  have hty : (b.length : Int).tmod 256 = ((b.length % 256 : Nat) : Int) := by rw [Int.tmod_eq_emod_of_nonneg (by omega)]; omega
  have hux : IntKind.u8.wrap ((b.length / 256 : Nat) : Int) = ((b.length / 256 : Nat) : Int) := by simp [IntKind.wrap, IntKind.bits, IntKind.signed]; omega
  have huy : IntKind.u8.wrap ((b.length % 256 : Nat) : Int) = ((b.length % 256 : Nat) : Int) := by simp [IntKind.wrap, IntKind.bits, IntKind.signed]
  generalize UInt8.ofNat (b.length / 256) = hi at hSum hxx
  generalize UInt8.ofNat b.length = lo at hSum hyy
  generalize b.length / 256 = x at hxx hwx hux
  generalize b.length % 256 = y at hyy hty huy
  have HXX := Lib.hid hxx
  have HYY := Lib.hid hyy
  have HSum := Lib.hid hSum
  have hnb : ¬ 9223372036854775807 < 12 + b.length := by omega
  clear hSum hL hb hxx hyy
  go_enter Try.func25, Try.ntmps25
  go_upto_region 1 with fail
  generalize World.alloc _ _ = w1 at HQ ⊢
  go_wp2
  go_loopw [7, 8] (fun s i wr => ∃ k : Nat, k ≤ 4 ∧ i = .int .i64 k ∧ s = .string ⟨(f.take k).toArray⟩ ∧ IpS w f t w.heap.size (w.heap.size + 1) wr) (fun _ i _ => 4 - (intOf i).toNat)
  case atStart => exact ⟨0, by omega, rfl, rfl, HQ.out⟩
  case round =>
    obtain ⟨k, hk, rfl, rfl, hs⟩ := hrel
    have HS := Lib.hid hs
    by_cases hlt : k < 4
    · have hc := ip_cell hs.f k (by rw [HF.out]; exact hlt)
      have HSN := Lib.hid (take_snoc f k (by rw [HF.out]; exact hlt))
      have hlen : (f.take k).length ≤ 4 := by rw [List.length_take]; omega
      clear hs
      go_wp2
      go_roundw
      case rel => exact ⟨k + 1, by omega, by go_num, by rw [HSN.out, ← str_append], HS.out.alloc _⟩
      case measure => simp [intOf]; omega
    · have hkT : f.take k = f := List.take_of_length_le (by rw [HF.out]; omega)
      clear hs
      obtain ⟨wo, rfl⟩ : ∃ wo : World, wo = wr := ⟨_, rfl⟩
      go_wp2
      rw [hkT]
      clear hkT
      go_loopw [7, 9] (fun s i wq => ∃ k : Nat, k ≤ 4 ∧ i = .int .i64 k ∧ s = .string ⟨(f ++ t.take k).toArray⟩ ∧ IpS w f t w.heap.size (w.heap.size + 1) wq) (fun _ i _ => 4 - (intOf i).toNat)
      case atStart => exact ⟨0, by omega, rfl, by simp, HS.out⟩
      case round =>
        obtain ⟨q, hq, rfl, rfl, hs⟩ := hrel
        have HS2 := Lib.hid hs
        have hlen : (f ++ t.take q).length ≤ 8 := by rw [List.length_append, List.length_take, HF.out]; omega
        by_cases hlt2 : q < 4
        · have hc := ip_cell hs.t q (by rw [HT.out]; exact hlt2)
          have HSN := Lib.hid (take_snoc t q (by rw [HT.out]; exact hlt2))
          obtain ⟨S, hS⟩ : ∃ S, S = f ++ t.take q := ⟨_, rfl⟩
          have HSS := Lib.hid hS
          rw [← hS] at hlen ⊢
          clear hs hS
          go_wp2
          go_roundw
          case rel => exact ⟨q + 1, by omega, by go_num, by rw [HSN.out, ← List.append_assoc, ← HSS.out, ← str_append], HS2.out.alloc _⟩
          case measure => simp [intOf]; omega
        · have hkT : t.take q = t := List.take_of_length_le (by rw [HT.out]; omega)
          rw [hkT] at hlen ⊢
          have h8 : (f ++ t).length = 8 := by rw [List.length_append, HF.out, HT.out]
          obtain ⟨S, hS⟩ : ∃ S, S = f ++ t := ⟨_, rfl⟩
          rw [← hS] at hlen h8 HSum ⊢
          have hcv := byt_conv (byt_lit wr 5 [0, 6, hi, lo] #[.int .u8 0, .int .u8 6, .int .u8 (x : Int), .int .u8 (y : Int)] (by simp [HXX.out, HYY.out])) (n := 4) rfl 4
          have hS2 := HSum.out
          simp only [← str_append] at hS2
          have HSum2 := Lib.hid hS2
          have HBL := Lib.hid (HS2.out.bel.alloc HS2.out.bel.size (.cells #[.int .u8 0, .int .u8 6, .int .u8 (x : Int), .int .u8 (y : Int)] 5))
          clear hs hkT hS2 hS
          go_wp2_with fail
          refine (HSum2.out _).mono ?_
          rintro e w5 ⟨rfl, hb5⟩
          have HB5 := Lib.hid (Below.step HBL.out hb5)
          clear hb5
          go_wp2
          go_ret
          exact ⟨rfl, HB5.out⟩
end Go.Proofs.Ytccbgiapabkjbaa
