/- What the reference's Bytes of a packet computes. -/
import Derived.Test.YticchchcobjpdaaPkB
import Derived.Lib.AppendStr
import Derived.Test.YticchchcobjpdaaSumR
namespace Go.Proofs.Yticchchcobjpdaa
set_option linter.unusedVariables false
set_option maxRecDepth 100000
open Go.RowKit
attribute [local go_sem ↓] Go.wp_at_zero Go.wp_at_succ
attribute [local go_sem ↓] ld_pk ld_ip

theorem set_two {A B : List UInt8} {p q : UInt8} (x y : UInt8) (h : A.length = 10) : ((A ++ [p, q] ++ B).set 10 x).set 11 y = A ++ [x, y] ++ B := by
  rw [List.append_assoc, List.append_assoc, List.set_append_right _ _ (by omega), List.set_append_right _ _ (by omega), h]
  rfl
theorem row_lower {w : World} {base base' : Nat} {e : TypeId} {v : Value} {n : Nat} {xs : List Value} (h : w.ownsRow base e 1 v n xs) (hb : base' ≤ base) : w.ownsRow base' e 1 v n xs := by
  obtain ⟨hl, h⟩ := h
  refine ⟨hl, ?_⟩
  rcases h with h0 | ⟨g, cap, cur, h1, h2, h3⟩
  · exact Or.inl h0
  · exact Or.inr ⟨g, cap, cur, h1, Nat.le_trans hb h2, h3⟩
theorem u8id (x : Int) (h : 0 ≤ x ∧ x ≤ 255) : Value.int .u8 x = ubv (UInt8.ofNat x.toNat) := by
  rw [ubv, ofNat_toNat _ (by omega), Int.toNat_of_nonneg h.1]
theorem u8hi (x : Int) (h : 0 ≤ x ∧ x ≤ 65535) : Value.int .u8 (x / 256) = ubv (UInt8.ofNat (x.toNat / 256)) := by
  rw [ubv, ofNat_toNat _ (by omega)]
  exact congrArg _ (by omega)
theorem u8lo (x : Int) (h : 0 ≤ x ∧ x ≤ 65535) : Value.int .u8 (x % 256) = ubv (UInt8.ofNat x.toNat) := by
  rw [ubv, UInt8.toNat_ofNat']
  exact congrArg _ (by omega)

set_option maxHeartbeats 2000000 in
theorem pkr_no (id : Int) (f t : List UInt8) (pr tt a : Int) (mo : Bool) (d : List UInt8) (hL : PkL f t) (hid : -9223372036854775808 ≤ id ∧ id ≤ 9223372036854775807) (hpr : -9223372036854775808 ≤ pr ∧ pr ≤ 9223372036854775807)
    (htt : -9223372036854775808 ≤ tt ∧ tt ≤ 9223372036854775807) (ha : -9223372036854775808 ≤ a ∧ a ≤ 9223372036854775807) (hd : d.length ≤ 9223372036854000000) (w : World) (h : mayB id pr tt a mo d.length = false ∨ (mayB id pr tt a mo d.length = true ∧ 566 < d.length)) :
    Calls Try.prog 14 #[.agg (pkC id f t pr tt a mo d)] w fun e w' => e = .returned (.tuple #[.string ⟨(pkBytes id f t pr tt a mo d).1.toArray⟩, .int .i64 (pkBytes id f t pr tt a mo d).2]) ∧ Below w.heap.size w w' := by
  have hK := Blk.new w 25 (pkC id f t pr tt a mo d) 0 0 (Or.inl (Nat.le_refl _))
  have HK := Lib.hid hK
  have HB := Lib.hid ((Below.refl _ w).alloc (Nat.le_refl _) (.cells (pkC id f t pr tt a mo d) 25))
  have dl := hK.ld_pk hL
  have HMay := Lib.hid (fun w => refMay_any id f t pr tt a mo d hL hid hpr htt ha hd w)
  have HL := Lib.hid hL
  clear hK hL hid hpr htt ha
  rcases h with h | ⟨h, h2⟩
  · have e : pkBytes id f t pr tt a mo d = ([], 1) := by rw [pkBytes, if_pos h]
    rw [e]
    have HM := Lib.hid h
    clear h e
    go_enter Try.func14, Try.ntmps14
    go_wp2_with fail
    refine (HMay.out _).mono ?_
    rintro e w1 ⟨rfl, hb1⟩
    rw [HM.out]
    have HB1 := Lib.hid (Below.step HB.out hb1)
    clear hb1
    go_wp2
    go_ret2
    exact ⟨rfl, HB1.out⟩
  · have e : pkBytes id f t pr tt a mo d = ([], 3) := by rw [pkBytes, if_neg (by rw [h]; decide), if_pos h2]
    rw [e]
    have HM := Lib.hid h
    clear h e
    go_enter Try.func14, Try.ntmps14
    go_wp2_with fail
    refine (HMay.out _).mono ?_
    rintro e w1 ⟨rfl, hb1⟩
    rw [HM.out]
    have c13 := (pk_at (HK.out.step hb1) HL.out).d
    have HB1 := Lib.hid (Below.step HB.out hb1)
    clear hb1
    go_wp2
    go_ret2
    exact ⟨rfl, HB1.out⟩

end Go.Proofs.Yticchchcobjpdaa
