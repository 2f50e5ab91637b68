/- What the reference's Bytes of a packet computes: as package arp's. -/
import Derived.Test.YtpnhopgfoakgnaaArpA
import Derived.Lib.AppendStr
namespace Go.Proofs.Ytpnhopgfoakgnaa
set_option linter.unusedVariables false
open Go.RowKit
attribute [local go_sem ↓] Go.wp_at_zero Go.wp_at_succ

/-- a row of the call's own that holds bytes -/
theorem Byt.of_row {w : World} {base : Nat} {e : TypeId} {v : Value} {n : Nat} {l : List UInt8} (h : w.ownsRow base e 1 v n (l.map ubv)) (hn : 0 < n) :
    ∃ g cap, v = .slice (some ⟨g, 0, none⟩) n cap ∧ base ≤ g ∧ Byt w e g l ∧ l.length = n := by
  obtain ⟨hl, h⟩ := h
  rw [List.length_map, Nat.mul_one] at hl
  rcases h with ⟨_, h0⟩ | ⟨g, cap, cur, rfl, hb, hh, hc, hm, hs, ht⟩
  · omega
  · refine ⟨g, cap, rfl, hb, ⟨cur, ⟨0, 0, hh, Or.inl (Nat.le_refl _)⟩, fun j hj => ?_⟩, hl⟩
    have h1 : (cur.toList.take (n * 1))[j]? = (l.map ubv)[j]? := by rw [ht]
    rw [List.getElem?_take, if_pos (by omega), List.getElem?_map, List.getElem?_eq_getElem hj] at h1
    simpa using h1

theorem row_new (w : World) (e : TypeId) (l : List UInt8) (C : Array Value) (hC : C = (l.map ubv).toArray) (h : l.length ≤ maxLen) :
    (w.alloc (.cells C e)).ownsRow w.heap.size e 1 (.slice (some ⟨w.heap.size, 0, none⟩) l.length l.length) l.length (l.map ubv) := by
  subst hC
  refine ⟨by simp, Or.inr ⟨w.heap.size, l.length, (l.map ubv).toArray, rfl, Nat.le_refl _, heap_alloc_new w _, Nat.le_refl _, h, by simp, ?_⟩⟩
  simp only [Nat.mul_one]
  rw [List.take_of_length_le (by simp)]

theorem row_ne {w : World} {base : Nat} {e t : TypeId} {v : Value} {n : Nat} {xs : List Value} {b : Nat} (h : w.ownsRow base e 1 v n xs) (hb : b < base) : v.ownBlock ≠ some b := by
  intro he
  have := h.lt b he
  omega

theorem Blk.grown {w w' : World} {row : Option Nat} {b : Nat} {e : TypeId} {C : Array Value} (h : Blk w b e C) (hg : w.grownBy w' row) (hne : row ≠ some b) : Blk w' b e C :=
  h.of_heap (hg.block b h.lt (fun e => hne e.symm))

theorem map_snoc (P X : List UInt8) (k : Nat) (h : k < X.length) : (P ++ X.take k).map ubv ++ [.int .u8 ((X[k]).toNat : Int)] = (P ++ X.take (k + 1)).map ubv := by
  rw [take_snoc X k h, ← List.append_assoc, List.map_append (l₂ := [X[k]])]
  rfl

theorem one_cell (w : World) (e : TypeId) (x : Value) : ∀ j u, ([x] : List Value)[j]? = some u → (w.alloc (.cells #[x] e)).cell? ((⟨w.heap.size, 0, none⟩ : Addr).add j) = some u := by
  intro j u hj
  match j, hj with
  | 0, hj =>
    rw [addr_add, (Blk.new w e #[x] 0 0 (Or.inl (Nat.le_refl _))).cell]
    exact hj
theorem one_one (k : IntKind) (b : Int) : ∀ u ∈ [Value.int k b], u.oneCell' = true := by
  intro u hu
  rw [List.mem_singleton] at hu
  subst hu
  rfl

theorem refar_no (op : Int) (m i tm ti : List UInt8) (w : World) (h : knB op = false) :
    Calls Try.prog 23 #[.agg (arC op m i tm ti)] w fun e w' => e = .returned (.tuple #[.string ⟨([] : List UInt8).toArray⟩, .int .i64 10]) ∧ Below w.heap.size w w' := by
  have h1 : (op != 1) = true := by rw [bne_iff_ne]; intro e; subst e; simp [knB] at h
  have h2 : (op != 2) = true := by rw [bne_iff_ne]; intro e; subst e; simp [knB] at h
  have hc : (w.alloc (.cells (arC op m i tm ti) 42)).cell? ⟨w.heap.size, 0, none⟩ = some (.int .i64 op) := by
    rw [(Blk.new w 42 (arC op m i tm ti) 0 0 (Or.inl (Nat.le_refl _))).cell]; exact arC_op _ _ _ _ _
  clear h
  go_enter Try.func23, Try.ntmps23
  go_wp2
  go_ret2
  exact ⟨rfl, (Below.refl _ _).alloc (Nat.le_refl _) _⟩

set_option maxRecDepth 100000 in
set_option maxHeartbeats 4000000 in
theorem refar_yes1 (m i tm ti : List UInt8) (hL : ArL m i tm ti) (w : World) :
    Calls Try.prog 23 #[.agg (arC 1 m i tm ti)] w fun e w' => e = .returned (.tuple #[.string ⟨(([0, 1, 8, 0, 6, 4, 0, 1] : List UInt8) ++ m ++ i ++ tm ++ ti).toArray⟩, .int .i64 0]) ∧ Below w.heap.size w w' := by
  obtain ⟨i0, hi, hz0, hz1, hz2⟩ := info_parts info_u8
  have hN := Blk.new w 42 (arC 1 m i tm ti) 0 0 (Or.inl (Nat.le_refl _))
  have hc : (w.alloc (.cells (arC 1 m i tm ti) 42)).cell? ⟨w.heap.size, 0, none⟩ = some (.int .i64 1) := by rw [hN.cell]; exact arC_op _ _ _ _ _
  obtain ⟨P0, hP0⟩ : ∃ P : List UInt8, P = [0, 1, 8, 0, 6, 4, 0, 1] := ⟨_, rfl⟩
  have hZ : (#[.int .u8 0, .int .u8 1, .int .u8 8, .int .u8 0, .int .u8 6, .int .u8 4, .int .u8 0, .int .u8 1] : Array Value) = (P0.map ubv).toArray := by
    rw [hP0]
    rfl
  have hl0 : P0.length = 8 := by rw [hP0]; rfl
  have hR := row_new (w.alloc (.cells (arC 1 m i tm ti) 42)) 5 P0 _ hZ (by rw [hl0]; simp [maxLen])
  have hA := hN.alloc (.cells #[.int .u8 0, .int .u8 1, .int .u8 8, .int .u8 0, .int .u8 6, .int .u8 4, .int .u8 0, .int .u8 1] 5)
  have hB := ((Below.refl _ w).alloc (Nat.le_refl _) (.cells (arC 1 m i tm ti) 42)).alloc (by simp) (.cells #[.int .u8 0, .int .u8 1, .int .u8 8, .int .u8 0, .int .u8 6, .int .u8 4, .int .u8 0, .int .u8 1] 5)
  rw [hl0] at hR
  rw [size_alloc] at hR
  obtain ⟨P1, hP1⟩ : ∃ P, P = P0 ++ m := ⟨_, rfl⟩
  obtain ⟨P2, hP2⟩ : ∃ P, P = P1 ++ i := ⟨_, rfl⟩
  obtain ⟨P3, hP3⟩ : ∃ P, P = P2 ++ tm := ⟨_, rfl⟩
  obtain ⟨P4, hP4⟩ : ∃ P, P = P3 ++ ti := ⟨_, rfl⟩
  have HP1 := Lib.hid hP1
  have HP2 := Lib.hid hP2
  have HP3 := Lib.hid hP3
  have HP4 := Lib.hid hP4
  have hfin : P4 = [0, 1, 8, 0, 6, 4, 0, 1] ++ m ++ i ++ tm ++ ti := by rw [hP4, hP3, hP2, hP1, hP0]
  have HF := Lib.hid hfin
  rw [← hfin]
  have HR := Lib.hid hR
  have HA := Lib.hid hA
  have HB := Lib.hid hB
  clear hN hP0 hZ hl0 hR hA hB hP1 hP2 hP3 hP4 hfin
  go_enter Try.func23, Try.ntmps23
  go_wp2
  clear hc
  generalize (w.alloc _).alloc _ = W at HR HA HB ⊢
  go_loopw [4, 5] (fun v ix wr0 => ∃ k : Nat, k ≤ 6 ∧ ix = .int .i64 k ∧ World.ownsRow wr0 (w.heap.size + 1) 5 1 v (8 + k) ((P0 ++ m.take k).map ubv) ∧ Blk wr0 w.heap.size 42 (arC 1 m i tm ti) ∧ Below w.heap.size w wr0) (fun _ ix _ => 6 - (intOf ix).toNat)
  case atStart => exact ⟨0, by omega, rfl, by simpa using HR.out, HA.out, HB.out⟩
  case round =>
    obtain ⟨k0, hk, rfl, hown, hblk, hbel⟩ := hrel
    have HO0 := Lib.hid hown
    have HA0 := Lib.hid hblk
    have HB0 := Lib.hid hbel
    have hge0 := hbel.size
    have hlw0 := hblk.lt
    by_cases hlt : k0 < 6
    · have hx : k0 < m.length := by rw [hL.m]; exact hlt
      have hce : wr.cell? ⟨w.heap.size, 1 + k0, none⟩ = some (.int .u8 ((m[k0]).toNat : Int)) := by rw [hblk.cell]; exact arC_m hL k0 hx
      have HM := Lib.hid (map_snoc P0 m k0 hx)
      generalize (m[k0]).toNat = b at hce HM
      clear hown hblk hbel hx
      go_wp2_with (at_builtin; refine wpList_append_own _ rfl (.tmp 25) (.tmp 30) 84 rfl (w.heap.size + 1) 5 i0 (.int .u8 0) 1 1 Try.underlying84 hi hz0 hz1 hz2 rfl (by decide) _ _ _ rfl (HO0.out.alloc (.cells #[.int .u8 (b : Int)] 5)) ⟨wr.heap.size, 0, none⟩ 1 1 [.int .u8 (b : Int)] rfl rfl (one_cell _ _ _) (one_one _ _) (by unfold maxLen; omega) (by omega) (by simp; omega) ?_; intro v' w1 hown1 hg1 _)
      rw [HM.out] at hown1
      have hA1 := (HA0.out.alloc (.cells #[.int .u8 (b : Int)] 5)).grown hg1 (row_ne (t := 5) HO0.out (by omega))
      have hB1 := (HB0.out.alloc HB0.out.size (.cells #[.int .u8 (b : Int)] 5)).grown hg1 (HB0.out.alloc HB0.out.size (.cells #[.int .u8 (b : Int)] 5)).size (fun q hq => Nat.le_of_succ_le (HO0.out.lt q hq).1)
      have HO' := Lib.hid hown1
      have HA' := Lib.hid hA1
      have HB' := Lib.hid hB1
      clear hown1 hg1 hA1 hB1
      go_wp2
      go_roundw
      case rel => exact ⟨k0 + 1, by omega, by go_num, HO'.out, HA'.out, HB'.out⟩
      case measure => simp [intOf]; omega
    · have hkn : k0 = 6 := by omega
      rw [hkn, List.take_of_length_le (by rw [hL.m]; omega), ← HP1.out] at hown
      have HR0 := Lib.hid hown
      clear hown hblk hbel hkn
      obtain ⟨wo0, rfl⟩ : ∃ wo : World, wo = wr := ⟨_, rfl⟩
      go_wp2
      clear HO0
      go_loopw [4, 6] (fun v ix wr1 => ∃ k : Nat, k ≤ 4 ∧ ix = .int .i64 k ∧ World.ownsRow wr1 (w.heap.size + 1) 5 1 v (14 + k) ((P1 ++ i.take k).map ubv) ∧ Blk wr1 w.heap.size 42 (arC 1 m i tm ti) ∧ Below w.heap.size w wr1) (fun _ ix _ => 4 - (intOf ix).toNat)
      case atStart => exact ⟨0, by omega, rfl, by simpa using HR0.out, HA0.out, HB0.out⟩
      case round =>
        obtain ⟨k1, hk, rfl, hown, hblk, hbel⟩ := hrel
        have HO1 := Lib.hid hown
        have HA1 := Lib.hid hblk
        have HB1 := Lib.hid hbel
        have hge1 := hbel.size
        have hlw1 := hblk.lt
        by_cases hlt : k1 < 4
        · have hx : k1 < i.length := by rw [hL.i]; exact hlt
          have hce : wr.cell? ⟨w.heap.size, 7 + k1, none⟩ = some (.int .u8 ((i[k1]).toNat : Int)) := by rw [hblk.cell]; exact arC_i hL k1 hx
          have HM := Lib.hid (map_snoc P1 i k1 hx)
          generalize (i[k1]).toNat = b at hce HM
          clear hown hblk hbel hx
          go_wp2_with (at_builtin; refine wpList_append_own _ rfl (.tmp 36) (.tmp 41) 84 rfl (w.heap.size + 1) 5 i0 (.int .u8 0) 1 1 Try.underlying84 hi hz0 hz1 hz2 rfl (by decide) _ _ _ rfl (HO1.out.alloc (.cells #[.int .u8 (b : Int)] 5)) ⟨wr.heap.size, 0, none⟩ 1 1 [.int .u8 (b : Int)] rfl rfl (one_cell _ _ _) (one_one _ _) (by unfold maxLen; omega) (by omega) (by simp; omega) ?_; intro v' w1 hown1 hg1 _)
          rw [HM.out] at hown1
          have hA1 := (HA1.out.alloc (.cells #[.int .u8 (b : Int)] 5)).grown hg1 (row_ne (t := 5) HO1.out (by omega))
          have hB1 := (HB1.out.alloc HB1.out.size (.cells #[.int .u8 (b : Int)] 5)).grown hg1 (HB1.out.alloc HB1.out.size (.cells #[.int .u8 (b : Int)] 5)).size (fun q hq => Nat.le_of_succ_le (HO1.out.lt q hq).1)
          have HO' := Lib.hid hown1
          have HA' := Lib.hid hA1
          have HB' := Lib.hid hB1
          clear hown1 hg1 hA1 hB1
          go_wp2
          go_roundw
          case rel => exact ⟨k1 + 1, by omega, by go_num, HO'.out, HA'.out, HB'.out⟩
          case measure => simp [intOf]; omega
        · have hkn : k1 = 4 := by omega
          rw [hkn, List.take_of_length_le (by rw [hL.i]; omega), ← HP2.out] at hown
          have HR1 := Lib.hid hown
          clear hown hblk hbel hkn
          obtain ⟨wo1, rfl⟩ : ∃ wo : World, wo = wr := ⟨_, rfl⟩
          go_wp2
          clear HO1
          go_loopw [4, 7] (fun v ix wr2 => ∃ k : Nat, k ≤ 6 ∧ ix = .int .i64 k ∧ World.ownsRow wr2 (w.heap.size + 1) 5 1 v (18 + k) ((P2 ++ tm.take k).map ubv) ∧ Blk wr2 w.heap.size 42 (arC 1 m i tm ti) ∧ Below w.heap.size w wr2) (fun _ ix _ => 6 - (intOf ix).toNat)
          case atStart => exact ⟨0, by omega, rfl, by simpa using HR1.out, HA1.out, HB1.out⟩
          case round =>
            obtain ⟨k2, hk, rfl, hown, hblk, hbel⟩ := hrel
            have HO2 := Lib.hid hown
            have HA2 := Lib.hid hblk
            have HB2 := Lib.hid hbel
            have hge2 := hbel.size
            have hlw2 := hblk.lt
            by_cases hlt : k2 < 6
            · have hx : k2 < tm.length := by rw [hL.tm]; exact hlt
              have hce : wr.cell? ⟨w.heap.size, 11 + k2, none⟩ = some (.int .u8 ((tm[k2]).toNat : Int)) := by rw [hblk.cell]; exact arC_tm hL k2 hx
              have HM := Lib.hid (map_snoc P2 tm k2 hx)
              generalize (tm[k2]).toNat = b at hce HM
              clear hown hblk hbel hx
              go_wp2_with (at_builtin; refine wpList_append_own _ rfl (.tmp 47) (.tmp 52) 84 rfl (w.heap.size + 1) 5 i0 (.int .u8 0) 1 1 Try.underlying84 hi hz0 hz1 hz2 rfl (by decide) _ _ _ rfl (HO2.out.alloc (.cells #[.int .u8 (b : Int)] 5)) ⟨wr.heap.size, 0, none⟩ 1 1 [.int .u8 (b : Int)] rfl rfl (one_cell _ _ _) (one_one _ _) (by unfold maxLen; omega) (by omega) (by simp; omega) ?_; intro v' w1 hown1 hg1 _)
              rw [HM.out] at hown1
              have hA1 := (HA2.out.alloc (.cells #[.int .u8 (b : Int)] 5)).grown hg1 (row_ne (t := 5) HO2.out (by omega))
              have hB1 := (HB2.out.alloc HB2.out.size (.cells #[.int .u8 (b : Int)] 5)).grown hg1 (HB2.out.alloc HB2.out.size (.cells #[.int .u8 (b : Int)] 5)).size (fun q hq => Nat.le_of_succ_le (HO2.out.lt q hq).1)
              have HO' := Lib.hid hown1
              have HA' := Lib.hid hA1
              have HB' := Lib.hid hB1
              clear hown1 hg1 hA1 hB1
              go_wp2
              go_roundw
              case rel => exact ⟨k2 + 1, by omega, by go_num, HO'.out, HA'.out, HB'.out⟩
              case measure => simp [intOf]; omega
            · have hkn : k2 = 6 := by omega
              rw [hkn, List.take_of_length_le (by rw [hL.tm]; omega), ← HP3.out] at hown
              have HR2 := Lib.hid hown
              clear hown hblk hbel hkn
              obtain ⟨wo2, rfl⟩ : ∃ wo : World, wo = wr := ⟨_, rfl⟩
              go_wp2
              clear HO2
              go_loopw [4, 8] (fun v ix wr3 => ∃ k : Nat, k ≤ 4 ∧ ix = .int .i64 k ∧ World.ownsRow wr3 (w.heap.size + 1) 5 1 v (24 + k) ((P3 ++ ti.take k).map ubv) ∧ Blk wr3 w.heap.size 42 (arC 1 m i tm ti) ∧ Below w.heap.size w wr3) (fun _ ix _ => 4 - (intOf ix).toNat)
              case atStart => exact ⟨0, by omega, rfl, by simpa using HR2.out, HA2.out, HB2.out⟩
              case round =>
                obtain ⟨k3, hk, rfl, hown, hblk, hbel⟩ := hrel
                have HO3 := Lib.hid hown
                have HA3 := Lib.hid hblk
                have HB3 := Lib.hid hbel
                have hge3 := hbel.size
                have hlw3 := hblk.lt
                by_cases hlt : k3 < 4
                · have hx : k3 < ti.length := by rw [hL.ti]; exact hlt
                  have hce : wr.cell? ⟨w.heap.size, 17 + k3, none⟩ = some (.int .u8 ((ti[k3]).toNat : Int)) := by rw [hblk.cell]; exact arC_ti hL k3 hx
                  have HM := Lib.hid (map_snoc P3 ti k3 hx)
                  generalize (ti[k3]).toNat = b at hce HM
                  clear hown hblk hbel hx
                  go_wp2_with (at_builtin; refine wpList_append_own _ rfl (.tmp 58) (.tmp 63) 84 rfl (w.heap.size + 1) 5 i0 (.int .u8 0) 1 1 Try.underlying84 hi hz0 hz1 hz2 rfl (by decide) _ _ _ rfl (HO3.out.alloc (.cells #[.int .u8 (b : Int)] 5)) ⟨wr.heap.size, 0, none⟩ 1 1 [.int .u8 (b : Int)] rfl rfl (one_cell _ _ _) (one_one _ _) (by unfold maxLen; omega) (by omega) (by simp; omega) ?_; intro v' w1 hown1 hg1 _)
                  rw [HM.out] at hown1
                  have hA1 := (HA3.out.alloc (.cells #[.int .u8 (b : Int)] 5)).grown hg1 (row_ne (t := 5) HO3.out (by omega))
                  have hB1 := (HB3.out.alloc HB3.out.size (.cells #[.int .u8 (b : Int)] 5)).grown hg1 (HB3.out.alloc HB3.out.size (.cells #[.int .u8 (b : Int)] 5)).size (fun q hq => Nat.le_of_succ_le (HO3.out.lt q hq).1)
                  have HO' := Lib.hid hown1
                  have HA' := Lib.hid hA1
                  have HB' := Lib.hid hB1
                  clear hown1 hg1 hA1 hB1
                  go_wp2
                  go_roundw
                  case rel => exact ⟨k3 + 1, by omega, by go_num, HO'.out, HA'.out, HB'.out⟩
                  case measure => simp [intOf]; omega
                · have hkn : k3 = 4 := by omega
                  rw [hkn, List.take_of_length_le (by rw [hL.ti]; omega), ← HP4.out] at hown
                  have HR3 := Lib.hid hown
                  clear hown hblk hbel hkn
                  obtain ⟨g, cap, rfl, hg, hby, hln⟩ := Byt.of_row HR3.out (by omega)
                  have hbk := run_back Try.prog wr 84 9 5 g 0 cap _ Try.underlying84 Try.underlying5 Try.underlying9 hby.at
                  rw [hln] at hbk
                  clear hby hln HR3 HO3
                  go_wp2
                  go_ret2
                  exact ⟨rfl, HB3.out⟩

set_option maxRecDepth 100000 in
set_option maxHeartbeats 4000000 in
theorem refar_yes2 (m i tm ti : List UInt8) (hL : ArL m i tm ti) (w : World) :
    Calls Try.prog 23 #[.agg (arC 2 m i tm ti)] w fun e w' => e = .returned (.tuple #[.string ⟨(([0, 1, 8, 0, 6, 4, 0, 2] : List UInt8) ++ m ++ i ++ tm ++ ti).toArray⟩, .int .i64 0]) ∧ Below w.heap.size w w' := by
  obtain ⟨i0, hi, hz0, hz1, hz2⟩ := info_parts info_u8
  have hN := Blk.new w 42 (arC 2 m i tm ti) 0 0 (Or.inl (Nat.le_refl _))
  have hc : (w.alloc (.cells (arC 2 m i tm ti) 42)).cell? ⟨w.heap.size, 0, none⟩ = some (.int .i64 2) := by rw [hN.cell]; exact arC_op _ _ _ _ _
  obtain ⟨P0, hP0⟩ : ∃ P : List UInt8, P = [0, 1, 8, 0, 6, 4, 0, 2] := ⟨_, rfl⟩
  have hZ : (#[.int .u8 0, .int .u8 1, .int .u8 8, .int .u8 0, .int .u8 6, .int .u8 4, .int .u8 0, .int .u8 2] : Array Value) = (P0.map ubv).toArray := by
    rw [hP0]
    rfl
  have hl0 : P0.length = 8 := by rw [hP0]; rfl
  have hR := row_new (w.alloc (.cells (arC 2 m i tm ti) 42)) 5 P0 _ hZ (by rw [hl0]; simp [maxLen])
  have hA := hN.alloc (.cells #[.int .u8 0, .int .u8 1, .int .u8 8, .int .u8 0, .int .u8 6, .int .u8 4, .int .u8 0, .int .u8 2] 5)
  have hB := ((Below.refl _ w).alloc (Nat.le_refl _) (.cells (arC 2 m i tm ti) 42)).alloc (by simp) (.cells #[.int .u8 0, .int .u8 1, .int .u8 8, .int .u8 0, .int .u8 6, .int .u8 4, .int .u8 0, .int .u8 2] 5)
  rw [hl0] at hR
  rw [size_alloc] at hR
  obtain ⟨P1, hP1⟩ : ∃ P, P = P0 ++ m := ⟨_, rfl⟩
  obtain ⟨P2, hP2⟩ : ∃ P, P = P1 ++ i := ⟨_, rfl⟩
  obtain ⟨P3, hP3⟩ : ∃ P, P = P2 ++ tm := ⟨_, rfl⟩
  obtain ⟨P4, hP4⟩ : ∃ P, P = P3 ++ ti := ⟨_, rfl⟩
  have HP1 := Lib.hid hP1
  have HP2 := Lib.hid hP2
  have HP3 := Lib.hid hP3
  have HP4 := Lib.hid hP4
  have hfin : P4 = [0, 1, 8, 0, 6, 4, 0, 2] ++ m ++ i ++ tm ++ ti := by rw [hP4, hP3, hP2, hP1, hP0]
  have HF := Lib.hid hfin
  rw [← hfin]
  have HR := Lib.hid hR
  have HA := Lib.hid hA
  have HB := Lib.hid hB
  clear hN hP0 hZ hl0 hR hA hB hP1 hP2 hP3 hP4 hfin
  go_enter Try.func23, Try.ntmps23
  go_wp2
  clear hc
  generalize (w.alloc _).alloc _ = W at HR HA HB ⊢
  go_loopw [4, 5] (fun v ix wr0 => ∃ k : Nat, k ≤ 6 ∧ ix = .int .i64 k ∧ World.ownsRow wr0 (w.heap.size + 1) 5 1 v (8 + k) ((P0 ++ m.take k).map ubv) ∧ Blk wr0 w.heap.size 42 (arC 2 m i tm ti) ∧ Below w.heap.size w wr0) (fun _ ix _ => 6 - (intOf ix).toNat)
  case atStart => exact ⟨0, by omega, rfl, by simpa using HR.out, HA.out, HB.out⟩
  case round =>
    obtain ⟨k0, hk, rfl, hown, hblk, hbel⟩ := hrel
    have HO0 := Lib.hid hown
    have HA0 := Lib.hid hblk
    have HB0 := Lib.hid hbel
    have hge0 := hbel.size
    have hlw0 := hblk.lt
    by_cases hlt : k0 < 6
    · have hx : k0 < m.length := by rw [hL.m]; exact hlt
      have hce : wr.cell? ⟨w.heap.size, 1 + k0, none⟩ = some (.int .u8 ((m[k0]).toNat : Int)) := by rw [hblk.cell]; exact arC_m hL k0 hx
      have HM := Lib.hid (map_snoc P0 m k0 hx)
      generalize (m[k0]).toNat = b at hce HM
      clear hown hblk hbel hx
      go_wp2_with (at_builtin; refine wpList_append_own _ rfl (.tmp 25) (.tmp 30) 84 rfl (w.heap.size + 1) 5 i0 (.int .u8 0) 1 1 Try.underlying84 hi hz0 hz1 hz2 rfl (by decide) _ _ _ rfl (HO0.out.alloc (.cells #[.int .u8 (b : Int)] 5)) ⟨wr.heap.size, 0, none⟩ 1 1 [.int .u8 (b : Int)] rfl rfl (one_cell _ _ _) (one_one _ _) (by unfold maxLen; omega) (by omega) (by simp; omega) ?_; intro v' w1 hown1 hg1 _)
      rw [HM.out] at hown1
      have hA1 := (HA0.out.alloc (.cells #[.int .u8 (b : Int)] 5)).grown hg1 (row_ne (t := 5) HO0.out (by omega))
      have hB1 := (HB0.out.alloc HB0.out.size (.cells #[.int .u8 (b : Int)] 5)).grown hg1 (HB0.out.alloc HB0.out.size (.cells #[.int .u8 (b : Int)] 5)).size (fun q hq => Nat.le_of_succ_le (HO0.out.lt q hq).1)
      have HO' := Lib.hid hown1
      have HA' := Lib.hid hA1
      have HB' := Lib.hid hB1
      clear hown1 hg1 hA1 hB1
      go_wp2
      go_roundw
      case rel => exact ⟨k0 + 1, by omega, by go_num, HO'.out, HA'.out, HB'.out⟩
      case measure => simp [intOf]; omega
    · have hkn : k0 = 6 := by omega
      rw [hkn, List.take_of_length_le (by rw [hL.m]; omega), ← HP1.out] at hown
      have HR0 := Lib.hid hown
      clear hown hblk hbel hkn
      obtain ⟨wo0, rfl⟩ : ∃ wo : World, wo = wr := ⟨_, rfl⟩
      go_wp2
      clear HO0
      go_loopw [4, 6] (fun v ix wr1 => ∃ k : Nat, k ≤ 4 ∧ ix = .int .i64 k ∧ World.ownsRow wr1 (w.heap.size + 1) 5 1 v (14 + k) ((P1 ++ i.take k).map ubv) ∧ Blk wr1 w.heap.size 42 (arC 2 m i tm ti) ∧ Below w.heap.size w wr1) (fun _ ix _ => 4 - (intOf ix).toNat)
      case atStart => exact ⟨0, by omega, rfl, by simpa using HR0.out, HA0.out, HB0.out⟩
      case round =>
        obtain ⟨k1, hk, rfl, hown, hblk, hbel⟩ := hrel
        have HO1 := Lib.hid hown
        have HA1 := Lib.hid hblk
        have HB1 := Lib.hid hbel
        have hge1 := hbel.size
        have hlw1 := hblk.lt
        by_cases hlt : k1 < 4
        · have hx : k1 < i.length := by rw [hL.i]; exact hlt
          have hce : wr.cell? ⟨w.heap.size, 7 + k1, none⟩ = some (.int .u8 ((i[k1]).toNat : Int)) := by rw [hblk.cell]; exact arC_i hL k1 hx
          have HM := Lib.hid (map_snoc P1 i k1 hx)
          generalize (i[k1]).toNat = b at hce HM
          clear hown hblk hbel hx
          go_wp2_with (at_builtin; refine wpList_append_own _ rfl (.tmp 36) (.tmp 41) 84 rfl (w.heap.size + 1) 5 i0 (.int .u8 0) 1 1 Try.underlying84 hi hz0 hz1 hz2 rfl (by decide) _ _ _ rfl (HO1.out.alloc (.cells #[.int .u8 (b : Int)] 5)) ⟨wr.heap.size, 0, none⟩ 1 1 [.int .u8 (b : Int)] rfl rfl (one_cell _ _ _) (one_one _ _) (by unfold maxLen; omega) (by omega) (by simp; omega) ?_; intro v' w1 hown1 hg1 _)
          rw [HM.out] at hown1
          have hA1 := (HA1.out.alloc (.cells #[.int .u8 (b : Int)] 5)).grown hg1 (row_ne (t := 5) HO1.out (by omega))
          have hB1 := (HB1.out.alloc HB1.out.size (.cells #[.int .u8 (b : Int)] 5)).grown hg1 (HB1.out.alloc HB1.out.size (.cells #[.int .u8 (b : Int)] 5)).size (fun q hq => Nat.le_of_succ_le (HO1.out.lt q hq).1)
          have HO' := Lib.hid hown1
          have HA' := Lib.hid hA1
          have HB' := Lib.hid hB1
          clear hown1 hg1 hA1 hB1
          go_wp2
          go_roundw
          case rel => exact ⟨k1 + 1, by omega, by go_num, HO'.out, HA'.out, HB'.out⟩
          case measure => simp [intOf]; omega
        · have hkn : k1 = 4 := by omega
          rw [hkn, List.take_of_length_le (by rw [hL.i]; omega), ← HP2.out] at hown
          have HR1 := Lib.hid hown
          clear hown hblk hbel hkn
          obtain ⟨wo1, rfl⟩ : ∃ wo : World, wo = wr := ⟨_, rfl⟩
          go_wp2
          clear HO1
          go_loopw [4, 7] (fun v ix wr2 => ∃ k : Nat, k ≤ 6 ∧ ix = .int .i64 k ∧ World.ownsRow wr2 (w.heap.size + 1) 5 1 v (18 + k) ((P2 ++ tm.take k).map ubv) ∧ Blk wr2 w.heap.size 42 (arC 2 m i tm ti) ∧ Below w.heap.size w wr2) (fun _ ix _ => 6 - (intOf ix).toNat)
          case atStart => exact ⟨0, by omega, rfl, by simpa using HR1.out, HA1.out, HB1.out⟩
          case round =>
            obtain ⟨k2, hk, rfl, hown, hblk, hbel⟩ := hrel
            have HO2 := Lib.hid hown
            have HA2 := Lib.hid hblk
            have HB2 := Lib.hid hbel
            have hge2 := hbel.size
            have hlw2 := hblk.lt
            by_cases hlt : k2 < 6
            · have hx : k2 < tm.length := by rw [hL.tm]; exact hlt
              have hce : wr.cell? ⟨w.heap.size, 11 + k2, none⟩ = some (.int .u8 ((tm[k2]).toNat : Int)) := by rw [hblk.cell]; exact arC_tm hL k2 hx
              have HM := Lib.hid (map_snoc P2 tm k2 hx)
              generalize (tm[k2]).toNat = b at hce HM
              clear hown hblk hbel hx
              go_wp2_with (at_builtin; refine wpList_append_own _ rfl (.tmp 47) (.tmp 52) 84 rfl (w.heap.size + 1) 5 i0 (.int .u8 0) 1 1 Try.underlying84 hi hz0 hz1 hz2 rfl (by decide) _ _ _ rfl (HO2.out.alloc (.cells #[.int .u8 (b : Int)] 5)) ⟨wr.heap.size, 0, none⟩ 1 1 [.int .u8 (b : Int)] rfl rfl (one_cell _ _ _) (one_one _ _) (by unfold maxLen; omega) (by omega) (by simp; omega) ?_; intro v' w1 hown1 hg1 _)
              rw [HM.out] at hown1
              have hA1 := (HA2.out.alloc (.cells #[.int .u8 (b : Int)] 5)).grown hg1 (row_ne (t := 5) HO2.out (by omega))
              have hB1 := (HB2.out.alloc HB2.out.size (.cells #[.int .u8 (b : Int)] 5)).grown hg1 (HB2.out.alloc HB2.out.size (.cells #[.int .u8 (b : Int)] 5)).size (fun q hq => Nat.le_of_succ_le (HO2.out.lt q hq).1)
              have HO' := Lib.hid hown1
              have HA' := Lib.hid hA1
              have HB' := Lib.hid hB1
              clear hown1 hg1 hA1 hB1
              go_wp2
              go_roundw
              case rel => exact ⟨k2 + 1, by omega, by go_num, HO'.out, HA'.out, HB'.out⟩
              case measure => simp [intOf]; omega
            · have hkn : k2 = 6 := by omega
              rw [hkn, List.take_of_length_le (by rw [hL.tm]; omega), ← HP3.out] at hown
              have HR2 := Lib.hid hown
              clear hown hblk hbel hkn
              obtain ⟨wo2, rfl⟩ : ∃ wo : World, wo = wr := ⟨_, rfl⟩
              go_wp2
              clear HO2
              go_loopw [4, 8] (fun v ix wr3 => ∃ k : Nat, k ≤ 4 ∧ ix = .int .i64 k ∧ World.ownsRow wr3 (w.heap.size + 1) 5 1 v (24 + k) ((P3 ++ ti.take k).map ubv) ∧ Blk wr3 w.heap.size 42 (arC 2 m i tm ti) ∧ Below w.heap.size w wr3) (fun _ ix _ => 4 - (intOf ix).toNat)
              case atStart => exact ⟨0, by omega, rfl, by simpa using HR2.out, HA2.out, HB2.out⟩
              case round =>
                obtain ⟨k3, hk, rfl, hown, hblk, hbel⟩ := hrel
                have HO3 := Lib.hid hown
                have HA3 := Lib.hid hblk
                have HB3 := Lib.hid hbel
                have hge3 := hbel.size
                have hlw3 := hblk.lt
                by_cases hlt : k3 < 4
                · have hx : k3 < ti.length := by rw [hL.ti]; exact hlt
                  have hce : wr.cell? ⟨w.heap.size, 17 + k3, none⟩ = some (.int .u8 ((ti[k3]).toNat : Int)) := by rw [hblk.cell]; exact arC_ti hL k3 hx
                  have HM := Lib.hid (map_snoc P3 ti k3 hx)
                  generalize (ti[k3]).toNat = b at hce HM
                  clear hown hblk hbel hx
                  go_wp2_with (at_builtin; refine wpList_append_own _ rfl (.tmp 58) (.tmp 63) 84 rfl (w.heap.size + 1) 5 i0 (.int .u8 0) 1 1 Try.underlying84 hi hz0 hz1 hz2 rfl (by decide) _ _ _ rfl (HO3.out.alloc (.cells #[.int .u8 (b : Int)] 5)) ⟨wr.heap.size, 0, none⟩ 1 1 [.int .u8 (b : Int)] rfl rfl (one_cell _ _ _) (one_one _ _) (by unfold maxLen; omega) (by omega) (by simp; omega) ?_; intro v' w1 hown1 hg1 _)
                  rw [HM.out] at hown1
                  have hA1 := (HA3.out.alloc (.cells #[.int .u8 (b : Int)] 5)).grown hg1 (row_ne (t := 5) HO3.out (by omega))
                  have hB1 := (HB3.out.alloc HB3.out.size (.cells #[.int .u8 (b : Int)] 5)).grown hg1 (HB3.out.alloc HB3.out.size (.cells #[.int .u8 (b : Int)] 5)).size (fun q hq => Nat.le_of_succ_le (HO3.out.lt q hq).1)
                  have HO' := Lib.hid hown1
                  have HA' := Lib.hid hA1
                  have HB' := Lib.hid hB1
                  clear hown1 hg1 hA1 hB1
                  go_wp2
                  go_roundw
                  case rel => exact ⟨k3 + 1, by omega, by go_num, HO'.out, HA'.out, HB'.out⟩
                  case measure => simp [intOf]; omega
                · have hkn : k3 = 4 := by omega
                  rw [hkn, List.take_of_length_le (by rw [hL.ti]; omega), ← HP4.out] at hown
                  have HR3 := Lib.hid hown
                  clear hown hblk hbel hkn
                  obtain ⟨g, cap, rfl, hg, hby, hln⟩ := Byt.of_row HR3.out (by omega)
                  have hbk := run_back Try.prog wr 84 9 5 g 0 cap _ Try.underlying84 Try.underlying5 Try.underlying9 hby.at
                  rw [hln] at hbk
                  clear hby hln HR3 HO3
                  go_wp2
                  go_ret2
                  exact ⟨rfl, HB3.out⟩

theorem refar_any (op : Int) (m i tm ti : List UInt8) (hl : ArL m i tm ti) (w : World) :
    Calls Try.prog 23 #[.agg (arC op m i tm ti)] w fun e w' => e = .returned (.tuple #[.string ⟨(arBytes op m i tm ti).1.toArray⟩, .int .i64 (arBytes op m i tm ti).2]) ∧ Below w.heap.size w w' := by
  unfold arBytes
  by_cases h : knB op = true
  · rw [if_pos h]
    rcases (show op = 1 ∨ op = 2 by simpa [knB] using h) with rfl | rfl
    · exact refar_yes1 m i tm ti hl w
    · exact refar_yes2 m i tm ti hl w
  · rw [if_neg h]; exact refar_no op m i tm ti w (by simpa using h)
end Go.Proofs.Ytpnhopgfoakgnaa
