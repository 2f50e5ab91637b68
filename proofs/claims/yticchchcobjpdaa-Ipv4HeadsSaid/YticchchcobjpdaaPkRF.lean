/- What the reference's Bytes computes of a packet behind which none comes. -/
import Derived.Test.YticchchcobjpdaaPkR
namespace Go.Proofs.Yticchchcobjpdaa
set_option linter.unusedVariables false
set_option maxRecDepth 100000
open Go.RowKit
attribute [local go_sem ↓] Go.wp_at_zero Go.wp_at_succ
attribute [local go_sem ↓] ld_pk ld_ip

set_option maxHeartbeats 4000000 in
theorem pkr_ok_f (id : Int) (f t : List UInt8) (pr tt a : Int) (d : List UInt8) (hL : PkL f t) (hid : -9223372036854775808 ≤ id ∧ id ≤ 9223372036854775807) (hpr : -9223372036854775808 ≤ pr ∧ pr ≤ 9223372036854775807)
    (htt : -9223372036854775808 ≤ tt ∧ tt ≤ 9223372036854775807) (ha : -9223372036854775808 ≤ a ∧ a ≤ 9223372036854775807) (w : World) (h : mayB id pr tt a false d.length = true) (h2 : d.length ≤ 566) :
    Calls Try.prog 14 #[.agg (pkC id f t pr tt a false d)] w fun e w' => e = .returned (.tuple #[.string ⟨(pkHead id f t pr tt a false d.length ++ d).toArray⟩, .int .i64 0]) ∧ Below w.heap.size w w' := by
  obtain ⟨i0, hi, hz0, hz1, hz2⟩ := info_parts info_u8
  have hK := Blk.new w 25 (pkC id f t pr tt a false d) 0 0 (Or.inl (Nat.le_refl _))
  have HK := Lib.hid hK
  have HB := Lib.hid ((Below.refl _ w).alloc (Nat.le_refl _) (.cells (pkC id f t pr tt a false d) 25))
  have dl := hK.ld_pk hL
  have HMay := Lib.hid (fun w => refMay_any id f t pr tt a false d hL hid hpr htt ha (by omega) w)
  have HL := Lib.hid hL
  obtain ⟨g1, g2, g3, g4, g5, g6, g7, g8, g9, g10, g11⟩ := mayB_yes h
  have HM := Lib.hid h
  clear hK hid hpr htt ha h g9 g11
  have g12 : ¬ 566 < (d.length : Int) := by omega
  obtain ⟨P0, hP0⟩ : ∃ P : List UInt8, P = pkAhead id pr tt a false d.length ++ [0, 0] := ⟨_, rfl⟩
  have hpos : pkPos a false = a / 8 := by simp [pkPos]
  have hZ : (#[.int .u8 69, .int .u8 0, .int .u8 ((20 + (d.length : Int)) / 256), .int .u8 ((20 + (d.length : Int)) % 256), .int .u8 (id / 256), .int .u8 (id % 256), .int .u8 ((a / 8) / 256), .int .u8 ((a / 8) % 256), .int .u8 tt, .int .u8 pr, .int .u8 0, .int .u8 0] : Array Value) = (P0.map ubv).toArray := by
    rw [hP0, pkAhead, hpos, be2 _ (by omega), be2 _ (by omega), be2 _ (by omega)]
    simp only [List.cons_append, List.nil_append, List.map_cons, List.map_nil]
    rw [u8hi _ (by omega), u8lo _ (by omega), u8hi _ (by omega), u8lo _ (by omega), u8hi _ (by omega), u8lo _ (by omega), u8id tt (by omega), u8id pr (by omega)]
    rfl
  have hl0 : P0.length = 12 := by have := congrArg Array.size hZ; simpa using this.symm
  have ha0 : 0 ≤ a / 8 ∧ a / 8 ≤ 8191 := by omega
  obtain ⟨ha1, ha2⟩ := ha0
  have hwn : IntKind.i64.wrap (20 + (d.length : Int)) = 20 + (d.length : Int) := IntWalk.i64_in _ (by omega)
  have hw1 : IntKind.u8.wrap ((20 + (d.length : Int)) / 256) = (20 + (d.length : Int)) / 256 := u8_in _ (by omega)
  have hw2 : IntKind.u8.wrap ((20 + (d.length : Int)) % 256) = (20 + (d.length : Int)) % 256 := u8_in _ (by omega)
  have hw3 : IntKind.u8.wrap (id / 256) = id / 256 := u8_in _ (by omega)
  have hw4 : IntKind.u8.wrap (id % 256) = id % 256 := u8_in _ (by omega)
  have hw5 : IntKind.u8.wrap ((a / 8) / 256) = (a / 8) / 256 := u8_in _ (by omega)
  have hw6 : IntKind.u8.wrap ((a / 8) % 256) = (a / 8) % 256 := u8_in _ (by omega)
  have hw7 : IntKind.u8.wrap tt = tt := u8_in _ (by omega)
  have hw8 : IntKind.u8.wrap pr = pr := u8_in _ (by omega)
  go_enter Try.func14, Try.ntmps14
  go_wp2_with fail
  refine (HMay.out _).mono ?_
  rintro e w1 ⟨rfl, hb1⟩
  rw [HM.out]
  have hK1 := HK.out.step hb1
  have hB1 := Below.step HB.out hb1
  obtain ⟨c0, c9, c10, c11, c12, c13⟩ := pk_at hK1 HL.out
  have hww := hK1.lt
  have hAA := hK1.alloc (.cells #[.int .u8 69, .int .u8 0, .int .u8 ((20 + (d.length : Int)) / 256), .int .u8 ((20 + (d.length : Int)) % 256), .int .u8 (id / 256), .int .u8 (id % 256), .int .u8 ((a / 8) / 256), .int .u8 ((a / 8) % 256), .int .u8 tt, .int .u8 pr, .int .u8 0, .int .u8 0] 5)
  have hBB := hB1.alloc hB1.size (.cells #[.int .u8 69, .int .u8 0, .int .u8 ((20 + (d.length : Int)) / 256), .int .u8 ((20 + (d.length : Int)) % 256), .int .u8 (id / 256), .int .u8 (id % 256), .int .u8 ((a / 8) / 256), .int .u8 ((a / 8) % 256), .int .u8 tt, .int .u8 pr, .int .u8 0, .int .u8 0] 5)
  have hR := row_new w1 5 P0 _ hZ (by rw [hl0]; simp [maxLen])
  rw [hl0] at hR
  have HR := Lib.hid (row_lower hR (show w.heap.size + 1 ≤ w1.heap.size from hww))
  have HA := Lib.hid hAA
  have HBB := Lib.hid hBB
  have HP0 := Lib.hid hP0
  clear hb1 dl hK1 hB1 hAA hBB hR hZ hP0 hl0
  go_wp2_with fail
  clear c0 c9 c10 c11 c12 c13 hw1 hw2 hw3 hw4 hw5 hw6 hw7 hw8 hwn HK HMay HM
  generalize w1.alloc _ = W at HR HA HBB ⊢
  obtain ⟨P1, hP1⟩ : ∃ P, P = P0 ++ f := ⟨_, rfl⟩
  obtain ⟨P2, hP2⟩ : ∃ P, P = P1 ++ t := ⟨_, rfl⟩
  have HP1 := Lib.hid hP1
  have HP2 := Lib.hid hP2
  clear hP1 hP2
  go_loopw [6, 7] (fun v ix wr0 => ∃ k : Nat, k ≤ 4 ∧ ix = .int .i64 k ∧ World.ownsRow wr0 (w.heap.size + 1) 5 1 v (12 + k) ((P0 ++ f.take k).map ubv) ∧ Blk wr0 w.heap.size 25 (pkC id f t pr tt a false d) ∧ Below w.heap.size w wr0) (fun _ ix _ => 4 - (intOf ix).toNat)
  case atStart => exact ⟨0, by omega, rfl, by simpa using HR.out, HA.out, HBB.out⟩
  case round =>
    obtain ⟨k0, hk, rfl, hown, hblk, hbel⟩ := hrel
    have HO0 := Lib.hid hown
    have HA0 := Lib.hid hblk
    have HB0 := Lib.hid hbel
    have hge0 := hbel.size
    have hlw0 := hblk.lt
    by_cases hlt : k0 < 4
    · have hx : k0 < f.length := by rw [HL.out.f]; exact hlt
      have hce : wr.cell? ⟨w.heap.size, 1 + k0, none⟩ = some (.int .u8 ((f[k0]).toNat : Int)) := pk_f hblk HL.out k0 hx
      have HMs := Lib.hid (map_snoc P0 f k0 hx)
      generalize (f[k0]).toNat = b at hce HMs
      clear hown hblk hbel hx
      go_wp2_with (at_builtin; refine wpList_append_own _ rfl (.tmp 59) (.tmp 64) 47 rfl (w.heap.size + 1) 5 i0 (.int .u8 0) 1 1 Try.underlying47 hi hz0 hz1 hz2 rfl (by decide) _ _ _ rfl (HO0.out.alloc (.cells #[.int .u8 (b : Int)] 5)) ⟨wr.heap.size, 0, none⟩ 1 1 [.int .u8 (b : Int)] rfl rfl (one_cell _ _ _) (one_one _ _) (by unfold maxLen; omega) (by omega) (by simp; omega) ?_; intro v' w3 hown1 hg1 _)
      rw [HMs.out] at hown1
      have hA1 := (HA0.out.alloc (.cells #[.int .u8 (b : Int)] 5)).grown hg1 (row_ne (t := 5) HO0.out (by omega))
      have hB1 := (HB0.out.alloc HB0.out.size (.cells #[.int .u8 (b : Int)] 5)).grown hg1 (HB0.out.alloc HB0.out.size (.cells #[.int .u8 (b : Int)] 5)).size (fun q hq => Nat.le_of_succ_le (HO0.out.lt q hq).1)
      have HO' := Lib.hid hown1
      have HA' := Lib.hid hA1
      have HB' := Lib.hid hB1
      clear hown1 hg1 hA1 hB1
      go_wp2
      go_roundw
      case rel => exact ⟨k0 + 1, by omega, by go_num, HO'.out, HA'.out, HB'.out⟩
      case measure => simp [intOf]; omega
    · have hkn : k0 = 4 := by omega
      rw [hkn, List.take_of_length_le (by rw [HL.out.f]; omega), ← HP1.out] at hown
      have HR0 := Lib.hid hown
      clear hown hblk hbel hkn
      obtain ⟨wo0, rfl⟩ : ∃ wo : World, wo = wr := ⟨_, rfl⟩
      go_wp2
      clear HO0
      go_loopw [6, 8] (fun v ix wr1 => ∃ k : Nat, k ≤ 4 ∧ ix = .int .i64 k ∧ World.ownsRow wr1 (w.heap.size + 1) 5 1 v (16 + k) ((P1 ++ t.take k).map ubv) ∧ Blk wr1 w.heap.size 25 (pkC id f t pr tt a false d) ∧ Below w.heap.size w wr1) (fun _ ix _ => 4 - (intOf ix).toNat)
      case atStart => exact ⟨0, by omega, rfl, by simpa using HR0.out, HA0.out, HB0.out⟩
      case round =>
        obtain ⟨k1, hk, rfl, hown, hblk, hbel⟩ := hrel
        have HO1 := Lib.hid hown
        have HA1 := Lib.hid hblk
        have HB1 := Lib.hid hbel
        have hge1 := hbel.size
        have hlw1 := hblk.lt
        by_cases hlt : k1 < 4
        · have hx : k1 < t.length := by rw [HL.out.t]; exact hlt
          have hce : wr.cell? ⟨w.heap.size, 5 + k1, none⟩ = some (.int .u8 ((t[k1]).toNat : Int)) := pk_t hblk HL.out k1 hx
          have HMs := Lib.hid (map_snoc P1 t k1 hx)
          generalize (t[k1]).toNat = b at hce HMs
          clear hown hblk hbel hx
          go_wp2_with (at_builtin; refine wpList_append_own _ rfl (.tmp 70) (.tmp 75) 47 rfl (w.heap.size + 1) 5 i0 (.int .u8 0) 1 1 Try.underlying47 hi hz0 hz1 hz2 rfl (by decide) _ _ _ rfl (HO1.out.alloc (.cells #[.int .u8 (b : Int)] 5)) ⟨wr.heap.size, 0, none⟩ 1 1 [.int .u8 (b : Int)] rfl rfl (one_cell _ _ _) (one_one _ _) (by unfold maxLen; omega) (by omega) (by simp; omega) ?_; intro v' w3 hown1 hg1 _)
          rw [HMs.out] at hown1
          have hA1 := (HA1.out.alloc (.cells #[.int .u8 (b : Int)] 5)).grown hg1 (row_ne (t := 5) HO1.out (by omega))
          have hB1 := (HB1.out.alloc HB1.out.size (.cells #[.int .u8 (b : Int)] 5)).grown hg1 (HB1.out.alloc HB1.out.size (.cells #[.int .u8 (b : Int)] 5)).size (fun q hq => Nat.le_of_succ_le (HO1.out.lt q hq).1)
          have HO' := Lib.hid hown1
          have HA' := Lib.hid hA1
          have HB' := Lib.hid hB1
          clear hown1 hg1 hA1 hB1
          go_wp2
          go_roundw
          case rel => exact ⟨k1 + 1, by omega, by go_num, HO'.out, HA'.out, HB'.out⟩
          case measure => simp [intOf]; omega
        · have hkn : k1 = 4 := by omega
          rw [hkn, List.take_of_length_le (by rw [HL.out.t]; omega), ← HP2.out] at hown
          have HR1 := Lib.hid hown
          clear hown hblk hbel hkn
          obtain ⟨g, cap, rfl, hg, hby, hln⟩ := Byt.of_row HR1.out (by omega)
          have hbk := run_back Try.prog wr 47 9 5 g 0 cap _ Try.underlying47 Try.underlying5 Try.underlying9 hby.at
          rw [hln] at hbk
          have HS := Lib.hid (fun w => refSum_any w P2 (by omega))
          have HY := Lib.hid hby
          have hin := sumE_in ⟨P2.toArray⟩
          have hP2f : P2 = pkAhead id pr tt a false d.length ++ [0, 0] ++ (f ++ t) := by rw [HP2.out, HP1.out, HP0.out, List.append_assoc (_ ++ _) f t]
          have hA10 : (pkAhead id pr tt a false d.length).length = 10 := by
            have := congrArg List.length hP2f
            simp only [List.length_append, List.length_cons, List.length_nil, HL.out.f, HL.out.t] at this
            omega
          have hsn : sumE ⟨P2.toArray⟩ = sumE ⟨(pkAhead id pr tt a false d.length ++ (f ++ t)).toArray⟩ := by rw [hP2f, sum_noughts _ _ (by omega)]
          have hset : ∀ x y, (P2.set 10 x).set 11 y = pkAhead id pr tt a false d.length ++ [x, y] ++ (f ++ t) := by intro x y; rw [hP2f, set_two _ _ hA10]
          have hfin : (P2.set 10 (UInt8.ofNat ((sumE ⟨P2.toArray⟩).toNat / 256))).set 11 (UInt8.ofNat (sumE ⟨P2.toArray⟩).toNat) ++ d = pkHead id f t pr tt a false d.length ++ d := by
            rw [hset, pkHead, ← hsn, be2 _ hin]
          have HFIN := Lib.hid hfin
          clear hset hby HR1 HO1 hP2f hsn hfin
          generalize sumE ⟨P2.toArray⟩ = M at hin HFIN HS
          obtain ⟨hm0, hm1⟩ := hin
          have hq1 : IntKind.u8.wrap (M / 256) = M / 256 := u8_in _ (by omega)
          have hq2 : IntKind.u8.wrap (M % 256) = M % 256 := u8_in _ (by omega)
          go_wp2_with fail
          refine (HS.out _).mono ?_
          rintro e w4 ⟨rfl, hb4⟩
          have hY4 := HY.out.step hb4
          have hA4 := HA1.out.step hb4
          have hB4 := Below.step HB1.out hb4
          have hgl := hY4.lt
          have hgne : w.heap.size ≠ g := by omega
          have f10 := hY4.free 10 (by omega)
          have f11 := hY4.free 11 (by omega)
          have e10 := hY4.at 10 (by omega)
          have e11 := hY4.at 11 (by omega)
          rw [addr_add] at e10 e11
          simp only [Nat.zero_add] at e10 e11
          have hY5 := (hY4.set 10 (by omega) (UInt8.ofNat (M.toNat / 256))).set 11 (by rw [List.length_set]; omega) (UInt8.ofNat M.toNat)
          have u1 : Value.int .u8 ((UInt8.ofNat (M.toNat / 256)).toNat : Int) = .int .u8 (M / 256) := (u8hi M ⟨hm0, hm1⟩).symm
          have u2 : Value.int .u8 ((UInt8.ofNat M.toNat).toNat : Int) = .int .u8 (M % 256) := (u8lo M ⟨hm0, hm1⟩).symm
          have hA5 := (hA4.set_other ⟨g, 10, none⟩ (.int .u8 (M / 256)) hgne).set_other ⟨g, 11, none⟩ (.int .u8 (M % 256)) hgne
          have hB5 := (hB4.setCell (p := ⟨g, 10, none⟩) (show w.heap.size ≤ g by omega) (.int .u8 (M / 256))).setCell (p := ⟨g, 11, none⟩) (show w.heap.size ≤ g by omega) (.int .u8 (M % 256))
          have hcv := run_back Try.prog _ 47 9 5 g 0 cap _ Try.underlying47 Try.underlying5 Try.underlying9 hY5.at
          rw [List.length_set, List.length_set, hln] at hcv
          rw [u1, u2] at hcv
          have c13 := (pk_at hA5 HL.out).d
          have HB5 := Lib.hid hB5
          have hl3 : ((P2.set 10 (UInt8.ofNat (M.toNat / 256))).set 11 (UInt8.ofNat M.toNat)).length = 20 := by rw [List.length_set, List.length_set, hln]
          generalize (P2.set 10 (UInt8.ofNat (M.toNat / 256))).set 11 (UInt8.ofNat M.toNat) = P3 at hcv HFIN hl3
          have hs3 : (({ data := P3.toArray } : ByteArray) ++ { data := d.toArray }) = { data := (pkHead id f t pr tt a false d.length ++ d).toArray } := by rw [str_append, HFIN.out]
          clear hY4 hY5 hA4 hA5 hB4 hB5 u1 u2 hbk hb4
          go_wp2_with fail
          go_ret2
          exact ⟨rfl, HB5.out⟩
end Go.Proofs.Yticchchcobjpdaa
