/- slot of the journal: what six sectors are read as. Condition: sectors of 64 bytes. -/
import Derived.Test.YtccbohjcbhibkaaJnF
namespace Go.Proofs.Ytccbohjcbhibkaa
set_option linter.unusedVariables false
set_option linter.unusedSimpArgs false
set_option maxRecDepth 100000
open Go.RowKit
attribute [local go_sem ↓] Go.wp_at_zero Go.wp_at_succ ix_dat ld_rec

/-- six sectors lie in a block -/
def PartAt (w : World) (q : Nat) (P : Nat → List UInt8) : Prop := q < w.heap.size ∧ ∀ j, j < 6 → w.cell? ⟨q, j, none⟩ = some (sv (P j))
theorem PartAt.up {w w' : World} {q : Nat} {P : Nat → List UInt8} (h : PartAt w q P) (hb : Below w.heap.size w w') : PartAt w' q P :=
  ⟨Nat.lt_of_lt_of_le h.1 hb.size, fun j hj => (hb.cell (p := ⟨q, j, none⟩) h.1).trans (h.2 j hj)⟩

theorem PartAt.drew {w : World} {q : Nat} {P : Nat → List UInt8} (h : PartAt w q P) : PartAt w.drew q P := h
theorem PartAt.at {w : World} {q : Nat} {P : Nat → List UInt8} (h : PartAt w q P) {j : Nat} (hj : j < 6) {l : List UInt8} (hp : P j = l) : w.cell? ⟨q, j, none⟩ = some (sv l) := by
  rw [h.2 j hj, hp]
theorem PartAt.other {w : World} {q rb o : Nat} {v : Value} {P : Nat → List UInt8} (h : PartAt w q P) (hne : q ≠ rb) : PartAt (w.setCell ⟨rb, o, none⟩ v) q P := by
  have hh := Below.heap_setCell w ⟨rb, o, none⟩ v q hne
  refine ⟨by simpa using h.1, fun j hj => ?_⟩
  rw [← h.2 j hj]
  simp only [World.cell?, hh]
abbrev zrec : Array Value := #[.int .i64 0, .int .i64 0, .int .i64 0, .string ⟨#[]⟩, .string ⟨#[]⟩, .string ⟨#[]⟩, .string ⟨#[]⟩]
theorem zrec_eq : zrec = rcC rc0 := rfl
abbrev lit7 (a b c : Nat) : Array Value := #[.int .i64 (a : Int), .int .i64 (b : Int), .int .i64 (c : Int), .string ⟨#[]⟩, .string ⟨#[]⟩, .string ⟨#[]⟩, .string ⟨#[]⟩]
set_option maxHeartbeats 4000000 in
theorem slot_any (arr ep : Int) (q : Nat) (P : Nat → List UInt8) (hP : ∀ j, j < 6 → (P j).length = 64) (w : World) (hq : PartAt w q P) :
    Calls Try.prog 42 #[.int .i64 arr, .int .i64 ep, .slice (some ⟨q, 0, none⟩) 6 6] w fun e w' => e = .returned (.tuple #[.agg (rcC (slRc arr ep P)), .bool (slOk arr ep P)]) ∧ Below w.heap.size w w' := by
  have IS := Lib.hid (fun w => is_any (P 0) w)
  have hl0 : (P 0).length = 64 := hP 0 (by decide)
  have hlb : ((P 0).length == 64) = true := beq_iff_eq.2 hl0
  rw [hlb] at IS
  have NB := Lib.hid (fun p g cap i h1 h2 h3 w h4 h5 => number_any (P 0) hl0 p g cap i h1 h2 h3 w h4 h5)
  have HQ := Lib.hid hq
  have hqlt := hq.1
  clear hlb hq
  go_enter Try.func42, Try.ntmps42
  go_upto_region 1 with fail
  have hk0 := Blk.new w 29 zrec 0 0 (Or.inl (Nat.le_refl _))
  have hb0 := (Below.refl _ w).alloc (Nat.le_refl _) (.cells zrec 29)
  have hq0 := HQ.out.up hb0
  generalize World.alloc _ _ = w1 at hk0 hb0 hq0 ⊢
  rw [zrec_eq] at hk0
  have HK1 := Lib.hid hk0
  have HB1 := Lib.hid hb0
  have HQ1 := Lib.hid hq0
  have hlt1 := hk0.lt
  have hc0 := hq0.2 0 (by decide)
  obtain ⟨hcv, hrow, hbw⟩ := conv_row w1 (P 0) (by rw [hl0]; decide)
  rw [hl0] at hrow
  have HK2 := Lib.hid (HK1.out.step hbw)
  have HB2 := Lib.hid (Below.step HB1.out hbw)
  have HQ2 := Lib.hid (HQ1.out.up hbw)
  have hlt2 := HK2.out.lt
  have HR2 := Lib.hid hrow
  clear hk0 hb0 hq0 hrow
  go_upto_region 2 with fail
  generalize hgc : grownCap w1 64 0 5 = cap at HR2 ⊢
  clear hgc
  generalize hgw : Lib.bytesWorld w1 5 _ = w2 at HK2 HB2 HQ2 HR2 hlt2 hbw ⊢
  clear hgw hcv hc0
  generalize w1.heap.size = g at HR2 ⊢
  obtain ⟨g1, cap1, C, hv, hgB, hkC, hcap1, hcap2, hcap3, htk⟩ := HR2.out
  obtain ⟨rfl, rfl⟩ : g = g1 ∧ cap = cap1 := by
    injection hv with h1 h2 h3
    injection h1 with h1
    injection h1 with h1
    exact ⟨h1, h3⟩
  have HBY2 : Hid (Byt w2 5 g (P 0)) := by
    obtain ⟨g2, cap2, hv2, _, hby⟩ := HR2.out.byt
    injection hv2 with h1 h2 h3
    injection h1 with h1
    injection h1 with h1
    subst h1
    exact hby
  rw [hl0] at hcap1
  clear HR2 hkC hcap3 htk hv hgB HK1 HB1 HQ1 hbw
  have hkp := Blk.new w2 75 #[.slice (some ⟨g, 0, none⟩) 64 cap] 0 0 (Or.inl (Nat.le_refl _))
  have hal := (Below.refl _ w2).alloc (Nat.le_refl _) (.cells #[.slice (some ⟨g, 0, none⟩) 64 cap] 75)
  have hk3 := HK2.out.step hal
  have hb3 := Below.step HB2.out hal
  have hq3 := HQ2.out.up hal
  have hy3 := HBY2.out.step hal
  generalize World.alloc _ _ = w3 at hkp hk3 hb3 hq3 hy3 ⊢
  generalize w2.heap.size = p at hkp hlt2 ⊢
  have HP3 := Lib.hid hkp
  have HK3 := Lib.hid hk3
  have HB3 := Lib.hid hb3
  have HQ3 := Lib.hid hq3
  have HY3 := Lib.hid hy3
  have hc0 := hq3.2 0 (by decide)
  clear hkp hk3 hb3 hq3 hy3 hal HK2 HB2 HQ2 HBY2
  go_wp2_with fail
  refine (IS.out _).mono ?_
  rintro e w4 ⟨rfl, hw4⟩
  subst hw4
  clear hc0
  have hN := fun i h3 w h4 h5 => NB.out p g cap i hcap1 hcap2 h3 w h4 h5
  have N1 : Hid (∀ w, w.cell? ⟨p, 0, none⟩ = some (.slice (some ⟨g, 0, none⟩) 64 cap) → Byt w 5 g (P 0) → Calls Try.prog 56 #[.int .i64 1, .pointer (some ⟨p, 0, none⟩)] w fun e w' => e = .returned (.int .i64 (nmA (P 0) 8 : Int)) ∧ Below w.heap.size w w') := Lib.hid (fun w h4 h5 => (hN 1 (by decide) w h4 h5).mono (fun e w' ⟨h6, n, h7⟩ => ⟨h6, by rw [h7]; exact Below.drewN (Below.refl _ w) n⟩))
  have N2 : Hid (∀ w, w.cell? ⟨p, 0, none⟩ = some (.slice (some ⟨g, 0, none⟩) 64 cap) → Byt w 5 g (P 0) → Calls Try.prog 56 #[.int .i64 2, .pointer (some ⟨p, 0, none⟩)] w fun e w' => e = .returned (.int .i64 (nmA (P 0) 12 : Int)) ∧ Below w.heap.size w w') := Lib.hid (fun w h4 h5 => (hN 2 (by decide) w h4 h5).mono (fun e w' ⟨h6, n, h7⟩ => ⟨h6, by rw [h7]; exact Below.drewN (Below.refl _ w) n⟩))
  have N3 : Hid (∀ w, w.cell? ⟨p, 0, none⟩ = some (.slice (some ⟨g, 0, none⟩) 64 cap) → Byt w 5 g (P 0) → Calls Try.prog 56 #[.int .i64 3, .pointer (some ⟨p, 0, none⟩)] w fun e w' => e = .returned (.int .i64 (nmA (P 0) 16 : Int)) ∧ Below w.heap.size w w') := Lib.hid (fun w h4 h5 => (hN 3 (by decide) w h4 h5).mono (fun e w' ⟨h6, n, h7⟩ => ⟨h6, by rw [h7]; exact Below.drewN (Below.refl _ w) n⟩))
  have N4 : Hid (∀ w, w.cell? ⟨p, 0, none⟩ = some (.slice (some ⟨g, 0, none⟩) 64 cap) → Byt w 5 g (P 0) → Calls Try.prog 56 #[.int .i64 4, .pointer (some ⟨p, 0, none⟩)] w fun e w' => e = .returned (.int .i64 (nmA (P 0) 20 : Int)) ∧ Below w.heap.size w w') := Lib.hid (fun w h4 h5 => (hN 4 (by decide) w h4 h5).mono (fun e w' ⟨h6, n, h7⟩ => ⟨h6, by rw [h7]; exact Below.drewN (Below.refl _ w) n⟩))
  clear hN NB
  go_wp2_with fail
  refine (N1.out _ (HP3.out.cell 0) HY3.out).mono ?_
  rintro e v1 ⟨rfl, hb⟩
  have HP4 := Lib.hid (HP3.out.step hb)
  have HK4 := Lib.hid (HK3.out.step hb)
  have HY4 := Lib.hid (HY3.out.step hb)
  have HQ4 := Lib.hid (HQ3.out.up hb)
  have HB4 := Lib.hid (Below.step HB3.out hb)
  clear hb HP3 HK3 HY3 HQ3 HB3 N1
  go_wp2_with fail
  refine (N2.out _ (HP4.out.cell 0) HY4.out).mono ?_
  rintro e v2 ⟨rfl, hb⟩
  have HP5 := Lib.hid (HP4.out.step hb)
  have HK5 := Lib.hid (HK4.out.step hb)
  have HY5 := Lib.hid (HY4.out.step hb)
  have HQ5 := Lib.hid (HQ4.out.up hb)
  have HB5 := Lib.hid (Below.step HB4.out hb)
  clear hb HP4 HK4 HY4 HQ4 HB4 N2
  go_wp2_with fail
  refine (N3.out _ (HP5.out.cell 0) HY5.out).mono ?_
  rintro e v3 ⟨rfl, hb⟩
  have HP6 := Lib.hid (HP5.out.step hb)
  have HK6 := Lib.hid (HK5.out.step hb)
  have HY6 := Lib.hid (HY5.out.step hb)
  have HQ6 := Lib.hid (HQ5.out.up hb)
  have HB6 := Lib.hid (Below.step HB5.out hb)
  clear hb HP5 HK5 HY5 HQ5 HB5 N3
  have HM : Hid (slM P = nmA (P 0) 20) := rfl
  have HZ := Lib.hid (slK_zero P)
  have hm32 := slM_lt P
  rw [HM.out] at hm32
  have HYS := Lib.hid (slK_yes P)
  have HNO := Lib.hid (slK_no P)
  rw [HM.out] at HYS HNO
  generalize nmA (P 0) 8 = n1 at HZ ⊢
  generalize nmA (P 0) 12 = n2 at HZ ⊢
  generalize nmA (P 0) 16 = n3 at HZ ⊢
  generalize nmA (P 0) 20 = m at HYS HNO hm32 N4
  go_upto_region 6 with fail
  have hkr := Blk.new v3 29 (lit7 n1 n2 n3) 0 0 (Or.inl (Nat.le_refl _))
  have hal := (Below.refl _ v3).alloc (Nat.le_refl _) (.cells (lit7 n1 n2 n3) 29)
  have hp7 := HP6.out.step hal
  have hk7 := HK6.out.step hal
  have hb7 := Below.step HB6.out hal
  have hq7 := HQ6.out.up hal
  have hy7 := HY6.out.step hal
  have hpr := HP6.out.lt
  have hgr := HY6.out.lt
  have hqr := HQ6.out.1
  have h0r := HK6.out.lt
  clear hal HP6 HK6 HB6 HQ6 HY6
  generalize World.alloc _ _ = w7 at hkr hp7 hk7 hb7 hq7 hy7 ⊢
  generalize v3.heap.size = rb at hkr hpr hgr hqr h0r ⊢
  have hkr2 : Blk w7 rb 29 (rcC (slK P 0)) := by rw [HZ.out]; exact hkr
  have HP7 := Lib.hid hp7
  have HK7 := Lib.hid hk7
  have HB7 := Lib.hid hb7
  have HQ7 := Lib.hid hq7
  have HY7 := Lib.hid hy7
  have HR7 := Lib.hid hkr2
  clear hkr hkr2 hp7 hk7 hb7 hq7 hy7 HZ
  go_wp2
  go_loopw [32] (fun i wr => ∃ k : Nat, k ≤ 4 ∧ i = .int .i64 k ∧ Blk wr p 75 #[.slice (some ⟨g, 0, none⟩) 64 cap] ∧ Byt wr 5 g (P 0) ∧ Blk wr w.heap.size 29 (rcC rc0) ∧ PartAt wr q P ∧ Blk wr rb 29 (rcC (slK P k)) ∧ Below w.heap.size w wr) (fun i _ => 4 - (intOf i).toNat)
  case atStart => exact ⟨0, by omega, rfl, HP7.out, HY7.out, HK7.out, HQ7.out, HR7.out, HB7.out⟩
  case round =>
    obtain ⟨k, hk, rfl, hp, hy, hk0, hq, hr, hbel⟩ := hrel
    have HP := Lib.hid hp
    have HY := Lib.hid hy
    have HK := Lib.hid hk0
    have HQ0 := Lib.hid hq
    have HR := Lib.hid hr
    have HB := Lib.hid hbel
    clear HP7 HY7 HK7 HQ7 HR7 HB7 hp hy hk0 hq hr hbel
    by_cases hlt : k < 4
    · have hlt' : (k : Int) < 4 := by omega
      have hcast : ((m / 2 ^ k % 2 : Nat) : Int) = (m : Int) / 2 ^ k % 2 := by
        rw [Int.natCast_emod, Int.natCast_ediv, Int.natCast_pow]
        rfl
      have hbv : bits .and .i64 ((m : Int) / 2 ^ k) 1 = (m : Int) / 2 ^ k % 2 := by
        have h := i64_and_one (m / 2 ^ k) (Nat.lt_of_le_of_lt (Nat.div_le_self _ _) (by omega))
        rw [hcast] at h
        rw [← h, Int.natCast_ediv, Int.natCast_pow]
        rfl
      have hbe := bit_val m k
      rw [hcast] at hbe
      clear hcast
      go_wp2_with fail
      refine (N4.out _ (HP.out.cell 0) HY.out).mono ?_
      rintro e w8 ⟨rfl, hb⟩
      have HP8 := Lib.hid (HP.out.step hb)
      have HY8 := Lib.hid (HY.out.step hb)
      have HK8 := Lib.hid (HK.out.step hb)
      have HQ8 := Lib.hid (HQ0.out.up hb)
      have HR8 := Lib.hid (HR.out.step hb)
      have HB8 := Lib.hid (Below.step HB.out hb)
      clear hb HP HY HK HQ0 HR HB
      have hcl := HQ8.out.2 (1 + k) (by omega)
      have hfr := HR8.out.free (3 + k) (by rw [rcC_size]; omega)
      have hcr : ∃ v, w8.cell? ⟨rb, 3 + k, none⟩ = some v := by
        rw [HR8.out.cell, Array.getElem?_eq_getElem (by rw [rcC_size]; omega)]
        exact ⟨_, rfl⟩
      obtain ⟨vo, hcr⟩ := hcr
      cases hbit : m.testBit k
      · rw [hbit] at hbe
        have HE := Lib.hid (HNO.out k hlt hbit)
        go_wp2
        go_roundw
        case rel => exact ⟨k + 1, by omega, by go_num, HP8.out, HY8.out, HK8.out, HQ8.out, by rw [HE.out]; exact HR8.out, HB8.out⟩
        case measure => simp [intOf] <;> omega
      · rw [hbit] at hbe
        have hkn := HR8.out.set (3 + k) (sv (P (1 + k)))
        rw [HYS.out k hlt hbit] at hkn
        have HRN := Lib.hid hkn
        have HPN := Lib.hid (HP8.out.set_other ⟨rb, 3 + k, none⟩ (sv (P (1 + k))) (show p ≠ rb by omega))
        have HKN := Lib.hid (HK8.out.set_other ⟨rb, 3 + k, none⟩ (sv (P (1 + k))) (show w.heap.size ≠ rb by omega))
        have HBN := Lib.hid (Below.setCell (p := ⟨rb, 3 + k, none⟩) HB8.out (show w.heap.size ≤ rb by omega) (sv (P (1 + k))))
        have HYN : Hid (Byt (w8.setCell ⟨rb, 3 + k, none⟩ (sv (P (1 + k)))) 5 g (P 0)) := Lib.hid (HY8.out.of_heap (Below.heap_setCell _ _ _ _ (show g ≠ rb by omega)))
        have HQN : Hid (PartAt (w8.setCell ⟨rb, 3 + k, none⟩ (sv (P (1 + k)))) q P) := Lib.hid (HQ8.out.other (show q ≠ rb by omega))
        clear hkn
        generalize P (1 + k) = pk at hcl HRN HPN HKN HBN HYN HQN
        go_wp2
        go_roundw
        case rel => exact ⟨k + 1, by omega, by go_num, HPN.out, HYN.out, HKN.out, HQN.out, HRN.out, HBN.out⟩
        case measure => simp [intOf] <;> omega
    · have h4 : k = 4 := by omega
      subst h4
      have HD := Lib.hid (fun w => head_any arr (slR P) (slR_data P hP) w)
      have SC := Lib.hid (fun w => (sector_any mgC rfl arr (slR P) w : Calls Try.prog 55 #[.string ⟨#[74, 67, 77, 1]⟩, .int .i64 arr, .agg (rcC (slR P))] w _))
      have HMY := Lib.hid (slot_may arr ep P)
      have HHD := Lib.hid (slot_head arr ep P)
      have HCM := Lib.hid (slot_commit arr ep P)
      have HEP := Lib.hid (slot_epoch arr ep P)
      have HOK0 := Lib.hid (fun h h1 h2 h3 => slot_ok arr ep P h h1 h2 h3)
      have HRr : Hid (Blk wr rb 29 (rcC (slR P))) := HR.out
      obtain ⟨r, hrd⟩ : ∃ r, slR P = r := ⟨_, rfl⟩
      have HRD := Lib.hid (fun _ : Unit => hrd)
      rw [hrd] at HRr HD SC HMY HHD HCM HEP HOK0
      obtain ⟨h, E, hV⟩ : ∃ h E, mayV mgH arr r = (h, E) := ⟨_, _, rfl⟩
      rw [hV] at HD HMY HHD HCM HOK0
      obtain ⟨p0, hp0⟩ : ∃ p0, P 0 = p0 := ⟨_, rfl⟩
      obtain ⟨p5, hp5⟩ : ∃ p5, P 5 = p5 := ⟨_, rfl⟩
      obtain ⟨X, hX⟩ : ∃ X, secV mgC arr r = X := ⟨_, rfl⟩
      rw [hX] at SC HCM HOK0
      rw [hp0] at HHD HOK0
      rw [hp5] at HCM HOK0
      have hld := HRr.out.ldR
      clear hV hX hrd
      go_wp2_with fail
      refine (HD.out _).mono ?_
      rintro e w9 ⟨rfl, hb⟩
      have hq9 := HQ0.out.up hb
      have HR9 := Lib.hid (HRr.out.step hb)
      have HK9 := Lib.hid (HK.out.step hb)
      have HB9 := Lib.hid (Below.step HB.out hb)
      clear hb HQ0 HRr HK HB HR HP HY hld
      go_upto_region 13 with fail
      have HQ9 := Lib.hid hq9
      clear hq9
      have HPA := Lib.hid (fun _ : Unit => And.intro hp0 hp5)
      clear hp0 hp5
      by_cases hE : E = 0
      · subst hE
        by_cases hh : h = p0
        · subst hh
          by_cases hc : p5 = X
          · subst hc
            by_cases he : r.ep = ep
            · have HOK := Lib.hid (fun (_ : True = True) (_ : True = True) => HOK0.out rfl rfl rfl he)
              have heb : (r.ep != ep) = false := by rw [bne_eq_false_iff_eq]; exact he
              clear he
              refine wp_region_noPanic ?_
              refine wp_region_held_drew (S := (fun w' => w'.cell? ⟨q, 0, none⟩ = some (sv h) ∧ w'.cell? ⟨q, 5, none⟩ = some (sv p5) ∧ w'.cell? ⟨rb, 0, none⟩ = some (.int .i64 r.ep) ∧ (Ld 29 (.pointer (some ⟨rb, 0, none⟩))).run Try.prog w' = .ok (.agg (rcC r)) w')) (by kernel_rfl) (by first | exact ⟨PartAt.at (PartAt.drew HQ9.out) (j := 0) (by decide) (HPA.out ()).1, PartAt.at (PartAt.drew HQ9.out) (j := 5) (by decide) (HPA.out ()).2, (Blk.drew HR9.out).rc.1, (Blk.drew HR9.out).ldR⟩) (fun hHeld => ?_)
              refine wpAnyH_take (i := 0) (oi := _) (v := ?vr1n0_1) rfl (by kernel_rfl) (by kernel_rfl) (by kernel_rfl) (fun _ _ _ h => h) (Or.inl ⟨by kernel_rfl, ?hr1n0_1⟩) hHeld ?_
              case hr1n0_1 => (intro w hSw; (try dsimp only at hSw); go_simp; try (with_reducible rfl))
              try simp only [List.getElem_toArray, List.getElem_cons_zero, List.getElem_cons_succ, Act.put, List.setIfInBounds_toArray, List.set_cons_zero, List.set_cons_succ]
              refine wpAnyH_take (i := 1) (oi := _) (v := ?vr1n1_2) rfl (by kernel_rfl) (by kernel_rfl) (by kernel_rfl) (fun _ _ _ h => h) (Or.inl ⟨by kernel_rfl, ?hr1n1_2⟩) hHeld ?_
              case hr1n1_2 => (intro w hSw; (try dsimp only at hSw); go_simp; try (with_reducible rfl))
              try simp only [List.getElem_toArray, List.getElem_cons_zero, List.getElem_cons_succ, Act.put, List.setIfInBounds_toArray, List.set_cons_zero, List.set_cons_succ]
              refine wpAnyH_take (i := 2) (oi := _) (v := ?vr1n2_3) rfl (by kernel_rfl) (by kernel_rfl) (by kernel_rfl) (fun _ _ _ h => h) (Or.inl ⟨by kernel_rfl, ?hr1n2_3⟩) hHeld ?_
              case hr1n2_3 => (intro w hSw; (try dsimp only at hSw); go_simp; try (with_reducible rfl))
              try simp only [List.getElem_toArray, List.getElem_cons_zero, List.getElem_cons_succ, Act.put, List.setIfInBounds_toArray, List.set_cons_zero, List.set_cons_succ]
              refine wpAnyH_take (i := 3) (oi := _) (v := ?vr1n3_4) rfl (by kernel_rfl) (by kernel_rfl) (by kernel_rfl) (fun _ _ _ h => h) (Or.inl ⟨by kernel_rfl, ?hr1n3_4⟩) hHeld ?_
              case hr1n3_4 => (intro w hSw; (try dsimp only at hSw); go_simp; try (with_reducible rfl))
              try simp only [List.getElem_toArray, List.getElem_cons_zero, List.getElem_cons_succ, Act.put, List.setIfInBounds_toArray, List.set_cons_zero, List.set_cons_succ]
              refine wpAnyH_take (i := 4) (oi := _) (v := ?vr1n4_5) rfl (by kernel_rfl) (by kernel_rfl) (by kernel_rfl) (fun _ _ _ h => h) (Or.inl ⟨by kernel_rfl, ?hr1n4_5⟩) hHeld ?_
              case hr1n4_5 => (intro w hSw; (try dsimp only at hSw); go_simp; try (with_reducible rfl))
              try simp only [List.getElem_toArray, List.getElem_cons_zero, List.getElem_cons_succ, Act.put, List.setIfInBounds_toArray, List.set_cons_zero, List.set_cons_succ]
              refine wpAnyH_take (i := 5) (oi := _) (v := ?vr1n5_6) rfl (by kernel_rfl) (by kernel_rfl) (by kernel_rfl) (fun _ _ _ h => h) (Or.inl ⟨by kernel_rfl, ?hr1n5_6⟩) hHeld ?_
              case hr1n5_6 => (intro w hSw; (try dsimp only at hSw); go_simp; try (with_reducible rfl))
              try simp only [List.getElem_toArray, List.getElem_cons_zero, List.getElem_cons_succ, Act.put, List.setIfInBounds_toArray, List.set_cons_zero, List.set_cons_succ]
              refine wpAnyH_take (i := 6) (oi := _) (v := ?vr1n6_7) rfl (by kernel_rfl) (by kernel_rfl) (by kernel_rfl) (fun _ _ _ h => h) (Or.inl ⟨by kernel_rfl, ?hr1n6_7⟩) hHeld ?_
              case hr1n6_7 => (intro w hSw; (try dsimp only at hSw); go_simp; try (with_reducible rfl))
              try simp only [List.getElem_toArray, List.getElem_cons_zero, List.getElem_cons_succ, Act.put, List.setIfInBounds_toArray, List.set_cons_zero, List.set_cons_succ]
              refine wpAnyH_take (i := 7) (oi := _) (v := ?vr1n7_8) rfl (by kernel_rfl) (by kernel_rfl) (by kernel_rfl) (fun _ _ _ h => h) (Or.inl ⟨by kernel_rfl, ?hr1n7_8⟩) hHeld ?_
              case hr1n7_8 => (intro w hSw; (try dsimp only at hSw); go_simp; try (with_reducible rfl))
              try simp only [List.getElem_toArray, List.getElem_cons_zero, List.getElem_cons_succ, Act.put, List.setIfInBounds_toArray, List.set_cons_zero, List.set_cons_succ]
              refine wpAnyH_take (i := 8) (oi := _) (v := ?vr1n8_9) rfl (by kernel_rfl) (by kernel_rfl) (by kernel_rfl) (fun _ _ _ h => h) (Or.inl ⟨by kernel_rfl, ?hr1n8_9⟩) hHeld ?_
              case hr1n8_9 => (intro w hSw; (try dsimp only at hSw); go_simp; try (with_reducible rfl))
              try simp only [List.getElem_toArray, List.getElem_cons_zero, List.getElem_cons_succ, Act.put, List.setIfInBounds_toArray, List.set_cons_zero, List.set_cons_succ]
              refine wpAnyH_take (i := 9) (oi := _) (v := ?vr1n9_10) rfl (by kernel_rfl) (by kernel_rfl) (by kernel_rfl) (fun _ _ _ h => h) (Or.inl ⟨by kernel_rfl, ?hr1n9_10⟩) hHeld ?_
              case hr1n9_10 => (intro w hSw; (try dsimp only at hSw); go_simp; try (with_reducible rfl))
              try simp only [List.getElem_toArray, List.getElem_cons_zero, List.getElem_cons_succ, Act.put, List.setIfInBounds_toArray, List.set_cons_zero, List.set_cons_succ]
              refine wpAnyH_take (i := 10) (oi := _) (v := ?vr1n10_11) rfl (by kernel_rfl) (by kernel_rfl) (by kernel_rfl) (fun _ _ _ h => h) (Or.inl ⟨by kernel_rfl, ?hr1n10_11⟩) hHeld ?_
              case hr1n10_11 => (intro w hSw; (try dsimp only at hSw); go_simp; try (with_reducible rfl))
              try simp only [List.getElem_toArray, List.getElem_cons_zero, List.getElem_cons_succ, Act.put, List.setIfInBounds_toArray, List.set_cons_zero, List.set_cons_succ]
              refine wpAnyH_take (i := 11) (oi := _) (v := ?vr1n11_12) rfl (by kernel_rfl) (by kernel_rfl) (by kernel_rfl) (fun _ _ _ h => h) (Or.inl ⟨by kernel_rfl, ?hr1n11_12⟩) hHeld ?_
              case hr1n11_12 => (intro w hSw; (try dsimp only at hSw); go_simp; try (with_reducible rfl))
              try simp only [List.getElem_toArray, List.getElem_cons_zero, List.getElem_cons_succ, Act.put, List.setIfInBounds_toArray, List.set_cons_zero, List.set_cons_succ]
              refine wpAnyH_take (i := 12) (oi := _) (v := ?vr1n12_13) rfl (by kernel_rfl) (by kernel_rfl) (by kernel_rfl) (fun _ _ _ h => h) (Or.inl ⟨by kernel_rfl, ?hr1n12_13⟩) hHeld ?_
              case hr1n12_13 => (intro w hSw; (try dsimp only at hSw); go_simp; try (with_reducible rfl))
              try simp only [List.getElem_toArray, List.getElem_cons_zero, List.getElem_cons_succ, Act.put, List.setIfInBounds_toArray, List.set_cons_zero, List.set_cons_succ]
              refine wpAnyH_take (i := 13) (oi := _) (v := ?vr1n13_14) rfl (by kernel_rfl) (by kernel_rfl) (by kernel_rfl) (fun _ _ _ h => h) (Or.inl ⟨by kernel_rfl, ?hr1n13_14⟩) hHeld ?_
              case hr1n13_14 => (intro w hSw; (try dsimp only at hSw); go_simp; try (with_reducible rfl))
              try simp only [List.getElem_toArray, List.getElem_cons_zero, List.getElem_cons_succ, Act.put, List.setIfInBounds_toArray, List.set_cons_zero, List.set_cons_succ]
              refine wpAnyH_take (i := 14) (oi := _) (v := ?vr1n14_15) rfl (by kernel_rfl) (by kernel_rfl) (by kernel_rfl) (fun _ _ _ h => h) (Or.inl ⟨by kernel_rfl, ?hr1n14_15⟩) hHeld ?_
              case hr1n14_15 => (intro w hSw; (try dsimp only at hSw); go_simp; try (with_reducible rfl))
              try simp only [List.getElem_toArray, List.getElem_cons_zero, List.getElem_cons_succ, Act.put, List.setIfInBounds_toArray, List.set_cons_zero, List.set_cons_succ]
              refine wpAnyH_ready (rs := [15]) (by kernel_rfl) (by simp) ?_
              refine AllReadyH.cons (o := _) rfl (fun K hK => ?_) AllReadyH.nil
              go_simp
              (go_at_call 55; refine (SC.out _).mono ?_; rintro e wa ⟨rfl, hb0⟩; have hb := (Below.drewN (Below.refl _ w9) 1).trans hb0; have HQa := Lib.hid (HQ9.out.up hb); have HRa := Lib.hid (HR9.out.step hb); have HKa := Lib.hid (HK9.out.step hb); have HBa := Lib.hid (Below.step HB9.out hb); clear hb hb0)
              refine hK.out _ _ ?_ (fun hHeld1 => ?_)
              · (first | exact ⟨PartAt.at (HQa.out) (j := 0) (by decide) (HPA.out ()).1, PartAt.at (HQa.out) (j := 5) (by decide) (HPA.out ()).2, HRa.out.rc.1, HRa.out.ldR⟩)
              clear hHeld hK K
              try simp only [List.getElem_toArray, List.getElem_cons_zero, List.getElem_cons_succ, Act.put, List.setIfInBounds_toArray, List.set_cons_zero, List.set_cons_succ]
              refine wpAnyH_take (i := 16) (oi := _) (v := ?vr1n16_16) rfl (by kernel_rfl) (by kernel_rfl) (by kernel_rfl) (fun _ _ _ h => h) (Or.inl ⟨by kernel_rfl, ?hr1n16_16⟩) hHeld1 ?_
              case hr1n16_16 => (intro w hSw; (try dsimp only at hSw); go_simp; try (with_reducible rfl))
              try simp only [List.getElem_toArray, List.getElem_cons_zero, List.getElem_cons_succ, Act.put, List.setIfInBounds_toArray, List.set_cons_zero, List.set_cons_succ]
              refine wpAnyH_take (i := 17) (oi := _) (v := ?vr1n17_17) rfl (by kernel_rfl) (by kernel_rfl) (by kernel_rfl) (fun _ _ _ h => h) (Or.inl ⟨by kernel_rfl, ?hr1n17_17⟩) hHeld1 ?_
              case hr1n17_17 => (intro w hSw; (try dsimp only at hSw); go_simp; try (with_reducible rfl))
              try simp only [List.getElem_toArray, List.getElem_cons_zero, List.getElem_cons_succ, Act.put, List.setIfInBounds_toArray, List.set_cons_zero, List.set_cons_succ]
              refine wpAnyH_take (i := 18) (oi := _) (v := ?vr1n18_18) rfl (by kernel_rfl) (by kernel_rfl) (by kernel_rfl) (fun _ _ _ h => h) (Or.inl ⟨by kernel_rfl, ?hr1n18_18⟩) hHeld1 ?_
              case hr1n18_18 => (intro w hSw; (try dsimp only at hSw); go_simp; try (with_reducible rfl))
              try simp only [List.getElem_toArray, List.getElem_cons_zero, List.getElem_cons_succ, Act.put, List.setIfInBounds_toArray, List.set_cons_zero, List.set_cons_succ]
              refine wpAnyH_take (i := 19) (oi := _) (v := ?vr1n19_19) rfl (by kernel_rfl) (by kernel_rfl) (by kernel_rfl) (fun _ _ _ h => h) (Or.inl ⟨by kernel_rfl, ?hr1n19_19⟩) hHeld1 ?_
              case hr1n19_19 => (intro w hSw; (try dsimp only at hSw); go_simp; try (with_reducible rfl))
              try simp only [List.getElem_toArray, List.getElem_cons_zero, List.getElem_cons_succ, Act.put, List.setIfInBounds_toArray, List.set_cons_zero, List.set_cons_succ]
              refine wpAnyH_take (i := 20) (oi := _) (v := ?vr1n20_20) rfl (by kernel_rfl) (by kernel_rfl) (by kernel_rfl) (fun _ _ _ h => h) (Or.inl ⟨by kernel_rfl, ?hr1n20_20⟩) hHeld1 ?_
              case hr1n20_20 => (intro w hSw; (try dsimp only at hSw); go_simp; try (with_reducible rfl))
              try simp only [List.getElem_toArray, List.getElem_cons_zero, List.getElem_cons_succ, Act.put, List.setIfInBounds_toArray, List.set_cons_zero, List.set_cons_succ]
              refine wpAnyH_take (i := 21) (oi := _) (v := ?vr1n21_21) rfl (by kernel_rfl) (by kernel_rfl) (by kernel_rfl) (fun _ _ _ h => h) (Or.inl ⟨by kernel_rfl, ?hr1n21_21⟩) hHeld1 ?_
              case hr1n21_21 => (intro w hSw; (try dsimp only at hSw); go_simp; try (with_reducible rfl))
              try simp only [List.getElem_toArray, List.getElem_cons_zero, List.getElem_cons_succ, Act.put, List.setIfInBounds_toArray, List.set_cons_zero, List.set_cons_succ]
              refine wpAnyH_take (i := 22) (oi := _) (v := ?vr1n22_22) rfl (by kernel_rfl) (by kernel_rfl) (by kernel_rfl) (fun _ _ _ h => h) (Or.inl ⟨by kernel_rfl, ?hr1n22_22⟩) hHeld1 ?_
              case hr1n22_22 => (intro w hSw; (try dsimp only at hSw); go_simp; try (with_reducible rfl))
              try simp only [List.getElem_toArray, List.getElem_cons_zero, List.getElem_cons_succ, Act.put, List.setIfInBounds_toArray, List.set_cons_zero, List.set_cons_succ]
              refine wpAnyH_take (i := 23) (oi := _) (v := ?vr1n23_23) rfl (by kernel_rfl) (by kernel_rfl) (by kernel_rfl) (fun _ _ _ h => h) (Or.inl ⟨by kernel_rfl, ?hr1n23_23⟩) hHeld1 ?_
              case hr1n23_23 => (intro w hSw; (try dsimp only at hSw); go_simp; try (with_reducible rfl))
              try simp only [List.getElem_toArray, List.getElem_cons_zero, List.getElem_cons_succ, Act.put, List.setIfInBounds_toArray, List.set_cons_zero, List.set_cons_succ]
              refine wpAnyH_done (by kernel_rfl) ?_ _
              refine NoPanic.normal ?_
              have HV := Lib.hid (HOK.out rfl rfl)
              have HV2 := Lib.hid (slRc_yes HV.out)
              have HX1 := Lib.hid (HKa.out.setAll (cs := rcC r) rfl)
              have hld := HRa.out.ldR
              have tokA : True := trivial
              go_wp2_with (have _t := tokA; refine wpList_store_blk rfl 29 _ _ rfl w.heap.size (rcC r) rfl rfl (rcC rc0) 29 HKa.out rfl size_rec rfl ?_; clear tokA)
              exact bodyPost_ret (results_blk Try.results42 _ _ w.heap.size _ _ _ rfl HX1.out Try.underlying29 rfl size_rec) rfl ⟨by rw [HV.out, HV2.out, HRD.out ()]; rfl, Below.setCells HBa.out (Nat.le_refl _) _ _⟩
            · have HNO := Lib.hid (HEP.out he)
              have heb : (r.ep != ep) = true := by rw [bne_iff_ne]; exact he
              clear he
              refine wp_region_noPanic ?_
              refine wp_region_held_drew (S := (fun w' => w'.cell? ⟨q, 0, none⟩ = some (sv h) ∧ w'.cell? ⟨q, 5, none⟩ = some (sv p5) ∧ w'.cell? ⟨rb, 0, none⟩ = some (.int .i64 r.ep) ∧ (Ld 29 (.pointer (some ⟨rb, 0, none⟩))).run Try.prog w' = .ok (.agg (rcC r)) w')) (by kernel_rfl) (by first | exact ⟨PartAt.at (PartAt.drew HQ9.out) (j := 0) (by decide) (HPA.out ()).1, PartAt.at (PartAt.drew HQ9.out) (j := 5) (by decide) (HPA.out ()).2, (Blk.drew HR9.out).rc.1, (Blk.drew HR9.out).ldR⟩) (fun hHeld => ?_)
              refine wpAnyH_take (i := 0) (oi := _) (v := ?vr2n0_24) rfl (by kernel_rfl) (by kernel_rfl) (by kernel_rfl) (fun _ _ _ h => h) (Or.inl ⟨by kernel_rfl, ?hr2n0_24⟩) hHeld ?_
              case hr2n0_24 => (intro w hSw; (try dsimp only at hSw); go_simp; try (with_reducible rfl))
              try simp only [List.getElem_toArray, List.getElem_cons_zero, List.getElem_cons_succ, Act.put, List.setIfInBounds_toArray, List.set_cons_zero, List.set_cons_succ]
              refine wpAnyH_take (i := 1) (oi := _) (v := ?vr2n1_25) rfl (by kernel_rfl) (by kernel_rfl) (by kernel_rfl) (fun _ _ _ h => h) (Or.inl ⟨by kernel_rfl, ?hr2n1_25⟩) hHeld ?_
              case hr2n1_25 => (intro w hSw; (try dsimp only at hSw); go_simp; try (with_reducible rfl))
              try simp only [List.getElem_toArray, List.getElem_cons_zero, List.getElem_cons_succ, Act.put, List.setIfInBounds_toArray, List.set_cons_zero, List.set_cons_succ]
              refine wpAnyH_take (i := 2) (oi := _) (v := ?vr2n2_26) rfl (by kernel_rfl) (by kernel_rfl) (by kernel_rfl) (fun _ _ _ h => h) (Or.inl ⟨by kernel_rfl, ?hr2n2_26⟩) hHeld ?_
              case hr2n2_26 => (intro w hSw; (try dsimp only at hSw); go_simp; try (with_reducible rfl))
              try simp only [List.getElem_toArray, List.getElem_cons_zero, List.getElem_cons_succ, Act.put, List.setIfInBounds_toArray, List.set_cons_zero, List.set_cons_succ]
              refine wpAnyH_take (i := 3) (oi := _) (v := ?vr2n3_27) rfl (by kernel_rfl) (by kernel_rfl) (by kernel_rfl) (fun _ _ _ h => h) (Or.inl ⟨by kernel_rfl, ?hr2n3_27⟩) hHeld ?_
              case hr2n3_27 => (intro w hSw; (try dsimp only at hSw); go_simp; try (with_reducible rfl))
              try simp only [List.getElem_toArray, List.getElem_cons_zero, List.getElem_cons_succ, Act.put, List.setIfInBounds_toArray, List.set_cons_zero, List.set_cons_succ]
              refine wpAnyH_take (i := 4) (oi := _) (v := ?vr2n4_28) rfl (by kernel_rfl) (by kernel_rfl) (by kernel_rfl) (fun _ _ _ h => h) (Or.inl ⟨by kernel_rfl, ?hr2n4_28⟩) hHeld ?_
              case hr2n4_28 => (intro w hSw; (try dsimp only at hSw); go_simp; try (with_reducible rfl))
              try simp only [List.getElem_toArray, List.getElem_cons_zero, List.getElem_cons_succ, Act.put, List.setIfInBounds_toArray, List.set_cons_zero, List.set_cons_succ]
              refine wpAnyH_take (i := 5) (oi := _) (v := ?vr2n5_29) rfl (by kernel_rfl) (by kernel_rfl) (by kernel_rfl) (fun _ _ _ h => h) (Or.inl ⟨by kernel_rfl, ?hr2n5_29⟩) hHeld ?_
              case hr2n5_29 => (intro w hSw; (try dsimp only at hSw); go_simp; try (with_reducible rfl))
              try simp only [List.getElem_toArray, List.getElem_cons_zero, List.getElem_cons_succ, Act.put, List.setIfInBounds_toArray, List.set_cons_zero, List.set_cons_succ]
              refine wpAnyH_take (i := 6) (oi := _) (v := ?vr2n6_30) rfl (by kernel_rfl) (by kernel_rfl) (by kernel_rfl) (fun _ _ _ h => h) (Or.inl ⟨by kernel_rfl, ?hr2n6_30⟩) hHeld ?_
              case hr2n6_30 => (intro w hSw; (try dsimp only at hSw); go_simp; try (with_reducible rfl))
              try simp only [List.getElem_toArray, List.getElem_cons_zero, List.getElem_cons_succ, Act.put, List.setIfInBounds_toArray, List.set_cons_zero, List.set_cons_succ]
              refine wpAnyH_take (i := 7) (oi := _) (v := ?vr2n7_31) rfl (by kernel_rfl) (by kernel_rfl) (by kernel_rfl) (fun _ _ _ h => h) (Or.inl ⟨by kernel_rfl, ?hr2n7_31⟩) hHeld ?_
              case hr2n7_31 => (intro w hSw; (try dsimp only at hSw); go_simp; try (with_reducible rfl))
              try simp only [List.getElem_toArray, List.getElem_cons_zero, List.getElem_cons_succ, Act.put, List.setIfInBounds_toArray, List.set_cons_zero, List.set_cons_succ]
              refine wpAnyH_take (i := 8) (oi := _) (v := ?vr2n8_32) rfl (by kernel_rfl) (by kernel_rfl) (by kernel_rfl) (fun _ _ _ h => h) (Or.inl ⟨by kernel_rfl, ?hr2n8_32⟩) hHeld ?_
              case hr2n8_32 => (intro w hSw; (try dsimp only at hSw); go_simp; try (with_reducible rfl))
              try simp only [List.getElem_toArray, List.getElem_cons_zero, List.getElem_cons_succ, Act.put, List.setIfInBounds_toArray, List.set_cons_zero, List.set_cons_succ]
              refine wpAnyH_take (i := 9) (oi := _) (v := ?vr2n9_33) rfl (by kernel_rfl) (by kernel_rfl) (by kernel_rfl) (fun _ _ _ h => h) (Or.inl ⟨by kernel_rfl, ?hr2n9_33⟩) hHeld ?_
              case hr2n9_33 => (intro w hSw; (try dsimp only at hSw); go_simp; try (with_reducible rfl))
              try simp only [List.getElem_toArray, List.getElem_cons_zero, List.getElem_cons_succ, Act.put, List.setIfInBounds_toArray, List.set_cons_zero, List.set_cons_succ]
              refine wpAnyH_take (i := 10) (oi := _) (v := ?vr2n10_34) rfl (by kernel_rfl) (by kernel_rfl) (by kernel_rfl) (fun _ _ _ h => h) (Or.inl ⟨by kernel_rfl, ?hr2n10_34⟩) hHeld ?_
              case hr2n10_34 => (intro w hSw; (try dsimp only at hSw); go_simp; try (with_reducible rfl))
              try simp only [List.getElem_toArray, List.getElem_cons_zero, List.getElem_cons_succ, Act.put, List.setIfInBounds_toArray, List.set_cons_zero, List.set_cons_succ]
              refine wpAnyH_take (i := 11) (oi := _) (v := ?vr2n11_35) rfl (by kernel_rfl) (by kernel_rfl) (by kernel_rfl) (fun _ _ _ h => h) (Or.inl ⟨by kernel_rfl, ?hr2n11_35⟩) hHeld ?_
              case hr2n11_35 => (intro w hSw; (try dsimp only at hSw); go_simp; try (with_reducible rfl))
              try simp only [List.getElem_toArray, List.getElem_cons_zero, List.getElem_cons_succ, Act.put, List.setIfInBounds_toArray, List.set_cons_zero, List.set_cons_succ]
              refine wpAnyH_take (i := 12) (oi := _) (v := ?vr2n12_36) rfl (by kernel_rfl) (by kernel_rfl) (by kernel_rfl) (fun _ _ _ h => h) (Or.inl ⟨by kernel_rfl, ?hr2n12_36⟩) hHeld ?_
              case hr2n12_36 => (intro w hSw; (try dsimp only at hSw); go_simp; try (with_reducible rfl))
              try simp only [List.getElem_toArray, List.getElem_cons_zero, List.getElem_cons_succ, Act.put, List.setIfInBounds_toArray, List.set_cons_zero, List.set_cons_succ]
              refine wpAnyH_take (i := 13) (oi := _) (v := ?vr2n13_37) rfl (by kernel_rfl) (by kernel_rfl) (by kernel_rfl) (fun _ _ _ h => h) (Or.inl ⟨by kernel_rfl, ?hr2n13_37⟩) hHeld ?_
              case hr2n13_37 => (intro w hSw; (try dsimp only at hSw); go_simp; try (with_reducible rfl))
              try simp only [List.getElem_toArray, List.getElem_cons_zero, List.getElem_cons_succ, Act.put, List.setIfInBounds_toArray, List.set_cons_zero, List.set_cons_succ]
              refine wpAnyH_take (i := 14) (oi := _) (v := ?vr2n14_38) rfl (by kernel_rfl) (by kernel_rfl) (by kernel_rfl) (fun _ _ _ h => h) (Or.inl ⟨by kernel_rfl, ?hr2n14_38⟩) hHeld ?_
              case hr2n14_38 => (intro w hSw; (try dsimp only at hSw); go_simp; try (with_reducible rfl))
              try simp only [List.getElem_toArray, List.getElem_cons_zero, List.getElem_cons_succ, Act.put, List.setIfInBounds_toArray, List.set_cons_zero, List.set_cons_succ]
              refine wpAnyH_ready (rs := [15]) (by kernel_rfl) (by simp) ?_
              refine AllReadyH.cons (o := _) rfl (fun K hK => ?_) AllReadyH.nil
              go_simp
              (go_at_call 55; refine (SC.out _).mono ?_; rintro e wa ⟨rfl, hb0⟩; have hb := (Below.drewN (Below.refl _ w9) 1).trans hb0; have HQa := Lib.hid (HQ9.out.up hb); have HRa := Lib.hid (HR9.out.step hb); have HKa := Lib.hid (HK9.out.step hb); have HBa := Lib.hid (Below.step HB9.out hb); clear hb hb0)
              refine hK.out _ _ ?_ (fun hHeld1 => ?_)
              · (first | exact ⟨PartAt.at (HQa.out) (j := 0) (by decide) (HPA.out ()).1, PartAt.at (HQa.out) (j := 5) (by decide) (HPA.out ()).2, HRa.out.rc.1, HRa.out.ldR⟩)
              clear hHeld hK K
              try simp only [List.getElem_toArray, List.getElem_cons_zero, List.getElem_cons_succ, Act.put, List.setIfInBounds_toArray, List.set_cons_zero, List.set_cons_succ]
              refine wpAnyH_take (i := 16) (oi := _) (v := ?vr2n16_39) rfl (by kernel_rfl) (by kernel_rfl) (by kernel_rfl) (fun _ _ _ h => h) (Or.inl ⟨by kernel_rfl, ?hr2n16_39⟩) hHeld1 ?_
              case hr2n16_39 => (intro w hSw; (try dsimp only at hSw); go_simp; try (with_reducible rfl))
              try simp only [List.getElem_toArray, List.getElem_cons_zero, List.getElem_cons_succ, Act.put, List.setIfInBounds_toArray, List.set_cons_zero, List.set_cons_succ]
              refine wpAnyH_take (i := 17) (oi := _) (v := ?vr2n17_40) rfl (by kernel_rfl) (by kernel_rfl) (by kernel_rfl) (fun _ _ _ h => h) (Or.inl ⟨by kernel_rfl, ?hr2n17_40⟩) hHeld1 ?_
              case hr2n17_40 => (intro w hSw; (try dsimp only at hSw); go_simp; try (with_reducible rfl))
              try simp only [List.getElem_toArray, List.getElem_cons_zero, List.getElem_cons_succ, Act.put, List.setIfInBounds_toArray, List.set_cons_zero, List.set_cons_succ]
              refine wpAnyH_take (i := 18) (oi := _) (v := ?vr2n18_41) rfl (by kernel_rfl) (by kernel_rfl) (by kernel_rfl) (fun _ _ _ h => h) (Or.inl ⟨by kernel_rfl, ?hr2n18_41⟩) hHeld1 ?_
              case hr2n18_41 => (intro w hSw; (try dsimp only at hSw); go_simp; try (with_reducible rfl))
              try simp only [List.getElem_toArray, List.getElem_cons_zero, List.getElem_cons_succ, Act.put, List.setIfInBounds_toArray, List.set_cons_zero, List.set_cons_succ]
              refine wpAnyH_take (i := 19) (oi := _) (v := ?vr2n19_42) rfl (by kernel_rfl) (by kernel_rfl) (by kernel_rfl) (fun _ _ _ h => h) (Or.inl ⟨by kernel_rfl, ?hr2n19_42⟩) hHeld1 ?_
              case hr2n19_42 => (intro w hSw; (try dsimp only at hSw); go_simp; try (with_reducible rfl))
              try simp only [List.getElem_toArray, List.getElem_cons_zero, List.getElem_cons_succ, Act.put, List.setIfInBounds_toArray, List.set_cons_zero, List.set_cons_succ]
              refine wpAnyH_take (i := 20) (oi := _) (v := ?vr2n20_43) rfl (by kernel_rfl) (by kernel_rfl) (by kernel_rfl) (fun _ _ _ h => h) (Or.inl ⟨by kernel_rfl, ?hr2n20_43⟩) hHeld1 ?_
              case hr2n20_43 => (intro w hSw; (try dsimp only at hSw); go_simp; try (with_reducible rfl))
              try simp only [List.getElem_toArray, List.getElem_cons_zero, List.getElem_cons_succ, Act.put, List.setIfInBounds_toArray, List.set_cons_zero, List.set_cons_succ]
              refine wpAnyH_take (i := 21) (oi := _) (v := ?vr2n21_44) rfl (by kernel_rfl) (by kernel_rfl) (by kernel_rfl) (fun _ _ _ h => h) (Or.inl ⟨by kernel_rfl, ?hr2n21_44⟩) hHeld1 ?_
              case hr2n21_44 => (intro w hSw; (try dsimp only at hSw); go_simp; try (with_reducible rfl))
              try simp only [List.getElem_toArray, List.getElem_cons_zero, List.getElem_cons_succ, Act.put, List.setIfInBounds_toArray, List.set_cons_zero, List.set_cons_succ]
              refine wpAnyH_take (i := 22) (oi := _) (v := ?vr2n22_45) rfl (by kernel_rfl) (by kernel_rfl) (by kernel_rfl) (fun _ _ _ h => h) (Or.inl ⟨by kernel_rfl, ?hr2n22_45⟩) hHeld1 ?_
              case hr2n22_45 => (intro w hSw; (try dsimp only at hSw); go_simp; try (with_reducible rfl))
              try simp only [List.getElem_toArray, List.getElem_cons_zero, List.getElem_cons_succ, Act.put, List.setIfInBounds_toArray, List.set_cons_zero, List.set_cons_succ]
              refine wpAnyH_take (i := 23) (oi := _) (v := ?vr2n23_46) rfl (by kernel_rfl) (by kernel_rfl) (by kernel_rfl) (fun _ _ _ h => h) (Or.inl ⟨by kernel_rfl, ?hr2n23_46⟩) hHeld1 ?_
              case hr2n23_46 => (intro w hSw; (try dsimp only at hSw); go_simp; try (with_reducible rfl))
              try simp only [List.getElem_toArray, List.getElem_cons_zero, List.getElem_cons_succ, Act.put, List.setIfInBounds_toArray, List.set_cons_zero, List.set_cons_succ]
              refine wpAnyH_done (by kernel_rfl) ?_ _
              refine NoPanic.normal ?_
              have HV := Lib.hid (HNO.out)
              have HV2 := Lib.hid (slRc_no HV.out)
              have HX1 := Lib.hid (HKa.out.setAll (cs := zrec) rfl)
              have tokA : True := trivial
              go_wp2_with (have _t := tokA; refine wpList_store_blk rfl 29 _ _ rfl w.heap.size zrec rfl rfl (rcC rc0) 29 HKa.out rfl size_rec rfl ?_; clear tokA)
              exact bodyPost_ret (results_blk Try.results42 _ _ w.heap.size _ _ _ rfl HX1.out Try.underlying29 rfl size_rec) rfl ⟨by rw [HV.out, HV2.out]; rfl, Below.setCells HBa.out (Nat.le_refl _) _ _⟩
          · have HNO := Lib.hid (HCM.out rfl hc)
            have hcb : (p5 != X) = true := by rw [bne_iff_ne]; exact hc
            have hcb2 : (p5 == X) = false := beq_eq_false_iff_ne.2 hc
            refine wp_region_noPanic ?_
            refine wp_region_held_drew (S := (fun w' => w'.cell? ⟨q, 0, none⟩ = some (sv h) ∧ w'.cell? ⟨q, 5, none⟩ = some (sv p5) ∧ w'.cell? ⟨rb, 0, none⟩ = some (.int .i64 r.ep) ∧ (Ld 29 (.pointer (some ⟨rb, 0, none⟩))).run Try.prog w' = .ok (.agg (rcC r)) w')) (by kernel_rfl) (by first | exact ⟨PartAt.at (PartAt.drew HQ9.out) (j := 0) (by decide) (HPA.out ()).1, PartAt.at (PartAt.drew HQ9.out) (j := 5) (by decide) (HPA.out ()).2, (Blk.drew HR9.out).rc.1, (Blk.drew HR9.out).ldR⟩) (fun hHeld => ?_)
            refine wpAnyH_take (i := 0) (oi := _) (v := ?vr3n0_47) rfl (by kernel_rfl) (by kernel_rfl) (by kernel_rfl) (fun _ _ _ h => h) (Or.inl ⟨by kernel_rfl, ?hr3n0_47⟩) hHeld ?_
            case hr3n0_47 => (intro w hSw; (try dsimp only at hSw); go_simp; try (with_reducible rfl))
            try simp only [List.getElem_toArray, List.getElem_cons_zero, List.getElem_cons_succ, Act.put, List.setIfInBounds_toArray, List.set_cons_zero, List.set_cons_succ]
            refine wpAnyH_take (i := 1) (oi := _) (v := ?vr3n1_48) rfl (by kernel_rfl) (by kernel_rfl) (by kernel_rfl) (fun _ _ _ h => h) (Or.inl ⟨by kernel_rfl, ?hr3n1_48⟩) hHeld ?_
            case hr3n1_48 => (intro w hSw; (try dsimp only at hSw); go_simp; try (with_reducible rfl))
            try simp only [List.getElem_toArray, List.getElem_cons_zero, List.getElem_cons_succ, Act.put, List.setIfInBounds_toArray, List.set_cons_zero, List.set_cons_succ]
            refine wpAnyH_take (i := 2) (oi := _) (v := ?vr3n2_49) rfl (by kernel_rfl) (by kernel_rfl) (by kernel_rfl) (fun _ _ _ h => h) (Or.inl ⟨by kernel_rfl, ?hr3n2_49⟩) hHeld ?_
            case hr3n2_49 => (intro w hSw; (try dsimp only at hSw); go_simp; try (with_reducible rfl))
            try simp only [List.getElem_toArray, List.getElem_cons_zero, List.getElem_cons_succ, Act.put, List.setIfInBounds_toArray, List.set_cons_zero, List.set_cons_succ]
            refine wpAnyH_take (i := 3) (oi := _) (v := ?vr3n3_50) rfl (by kernel_rfl) (by kernel_rfl) (by kernel_rfl) (fun _ _ _ h => h) (Or.inl ⟨by kernel_rfl, ?hr3n3_50⟩) hHeld ?_
            case hr3n3_50 => (intro w hSw; (try dsimp only at hSw); go_simp; try (with_reducible rfl))
            try simp only [List.getElem_toArray, List.getElem_cons_zero, List.getElem_cons_succ, Act.put, List.setIfInBounds_toArray, List.set_cons_zero, List.set_cons_succ]
            refine wpAnyH_take (i := 4) (oi := _) (v := ?vr3n4_51) rfl (by kernel_rfl) (by kernel_rfl) (by kernel_rfl) (fun _ _ _ h => h) (Or.inl ⟨by kernel_rfl, ?hr3n4_51⟩) hHeld ?_
            case hr3n4_51 => (intro w hSw; (try dsimp only at hSw); go_simp; try (with_reducible rfl))
            try simp only [List.getElem_toArray, List.getElem_cons_zero, List.getElem_cons_succ, Act.put, List.setIfInBounds_toArray, List.set_cons_zero, List.set_cons_succ]
            refine wpAnyH_take (i := 5) (oi := _) (v := ?vr3n5_52) rfl (by kernel_rfl) (by kernel_rfl) (by kernel_rfl) (fun _ _ _ h => h) (Or.inl ⟨by kernel_rfl, ?hr3n5_52⟩) hHeld ?_
            case hr3n5_52 => (intro w hSw; (try dsimp only at hSw); go_simp; try (with_reducible rfl))
            try simp only [List.getElem_toArray, List.getElem_cons_zero, List.getElem_cons_succ, Act.put, List.setIfInBounds_toArray, List.set_cons_zero, List.set_cons_succ]
            refine wpAnyH_take (i := 6) (oi := _) (v := ?vr3n6_53) rfl (by kernel_rfl) (by kernel_rfl) (by kernel_rfl) (fun _ _ _ h => h) (Or.inl ⟨by kernel_rfl, ?hr3n6_53⟩) hHeld ?_
            case hr3n6_53 => (intro w hSw; (try dsimp only at hSw); go_simp; try (with_reducible rfl))
            try simp only [List.getElem_toArray, List.getElem_cons_zero, List.getElem_cons_succ, Act.put, List.setIfInBounds_toArray, List.set_cons_zero, List.set_cons_succ]
            refine wpAnyH_take (i := 7) (oi := _) (v := ?vr3n7_54) rfl (by kernel_rfl) (by kernel_rfl) (by kernel_rfl) (fun _ _ _ h => h) (Or.inl ⟨by kernel_rfl, ?hr3n7_54⟩) hHeld ?_
            case hr3n7_54 => (intro w hSw; (try dsimp only at hSw); go_simp; try (with_reducible rfl))
            try simp only [List.getElem_toArray, List.getElem_cons_zero, List.getElem_cons_succ, Act.put, List.setIfInBounds_toArray, List.set_cons_zero, List.set_cons_succ]
            refine wpAnyH_take (i := 8) (oi := _) (v := ?vr3n8_55) rfl (by kernel_rfl) (by kernel_rfl) (by kernel_rfl) (fun _ _ _ h => h) (Or.inl ⟨by kernel_rfl, ?hr3n8_55⟩) hHeld ?_
            case hr3n8_55 => (intro w hSw; (try dsimp only at hSw); go_simp; try (with_reducible rfl))
            try simp only [List.getElem_toArray, List.getElem_cons_zero, List.getElem_cons_succ, Act.put, List.setIfInBounds_toArray, List.set_cons_zero, List.set_cons_succ]
            refine wpAnyH_take (i := 9) (oi := _) (v := ?vr3n9_56) rfl (by kernel_rfl) (by kernel_rfl) (by kernel_rfl) (fun _ _ _ h => h) (Or.inl ⟨by kernel_rfl, ?hr3n9_56⟩) hHeld ?_
            case hr3n9_56 => (intro w hSw; (try dsimp only at hSw); go_simp; try (with_reducible rfl))
            try simp only [List.getElem_toArray, List.getElem_cons_zero, List.getElem_cons_succ, Act.put, List.setIfInBounds_toArray, List.set_cons_zero, List.set_cons_succ]
            refine wpAnyH_take (i := 10) (oi := _) (v := ?vr3n10_57) rfl (by kernel_rfl) (by kernel_rfl) (by kernel_rfl) (fun _ _ _ h => h) (Or.inl ⟨by kernel_rfl, ?hr3n10_57⟩) hHeld ?_
            case hr3n10_57 => (intro w hSw; (try dsimp only at hSw); go_simp; try (with_reducible rfl))
            try simp only [List.getElem_toArray, List.getElem_cons_zero, List.getElem_cons_succ, Act.put, List.setIfInBounds_toArray, List.set_cons_zero, List.set_cons_succ]
            refine wpAnyH_take (i := 11) (oi := _) (v := ?vr3n11_58) rfl (by kernel_rfl) (by kernel_rfl) (by kernel_rfl) (fun _ _ _ h => h) (Or.inl ⟨by kernel_rfl, ?hr3n11_58⟩) hHeld ?_
            case hr3n11_58 => (intro w hSw; (try dsimp only at hSw); go_simp; try (with_reducible rfl))
            try simp only [List.getElem_toArray, List.getElem_cons_zero, List.getElem_cons_succ, Act.put, List.setIfInBounds_toArray, List.set_cons_zero, List.set_cons_succ]
            refine wpAnyH_take (i := 12) (oi := _) (v := ?vr3n12_59) rfl (by kernel_rfl) (by kernel_rfl) (by kernel_rfl) (fun _ _ _ h => h) (Or.inl ⟨by kernel_rfl, ?hr3n12_59⟩) hHeld ?_
            case hr3n12_59 => (intro w hSw; (try dsimp only at hSw); go_simp; try (with_reducible rfl))
            try simp only [List.getElem_toArray, List.getElem_cons_zero, List.getElem_cons_succ, Act.put, List.setIfInBounds_toArray, List.set_cons_zero, List.set_cons_succ]
            refine wpAnyH_take (i := 13) (oi := _) (v := ?vr3n13_60) rfl (by kernel_rfl) (by kernel_rfl) (by kernel_rfl) (fun _ _ _ h => h) (Or.inl ⟨by kernel_rfl, ?hr3n13_60⟩) hHeld ?_
            case hr3n13_60 => (intro w hSw; (try dsimp only at hSw); go_simp; try (with_reducible rfl))
            try simp only [List.getElem_toArray, List.getElem_cons_zero, List.getElem_cons_succ, Act.put, List.setIfInBounds_toArray, List.set_cons_zero, List.set_cons_succ]
            refine wpAnyH_take (i := 14) (oi := _) (v := ?vr3n14_61) rfl (by kernel_rfl) (by kernel_rfl) (by kernel_rfl) (fun _ _ _ h => h) (Or.inl ⟨by kernel_rfl, ?hr3n14_61⟩) hHeld ?_
            case hr3n14_61 => (intro w hSw; (try dsimp only at hSw); go_simp; try (with_reducible rfl))
            try simp only [List.getElem_toArray, List.getElem_cons_zero, List.getElem_cons_succ, Act.put, List.setIfInBounds_toArray, List.set_cons_zero, List.set_cons_succ]
            refine wpAnyH_ready (rs := [15]) (by kernel_rfl) (by simp) ?_
            refine AllReadyH.cons (o := _) rfl (fun K hK => ?_) AllReadyH.nil
            go_simp
            (go_at_call 55; refine (SC.out _).mono ?_; rintro e wa ⟨rfl, hb0⟩; have hb := (Below.drewN (Below.refl _ w9) 1).trans hb0; have HQa := Lib.hid (HQ9.out.up hb); have HRa := Lib.hid (HR9.out.step hb); have HKa := Lib.hid (HK9.out.step hb); have HBa := Lib.hid (Below.step HB9.out hb); clear hb hb0)
            refine hK.out _ _ ?_ (fun hHeld1 => ?_)
            · (first | exact ⟨PartAt.at (HQa.out) (j := 0) (by decide) (HPA.out ()).1, PartAt.at (HQa.out) (j := 5) (by decide) (HPA.out ()).2, HRa.out.rc.1, HRa.out.ldR⟩)
            clear hHeld hK K
            try simp only [List.getElem_toArray, List.getElem_cons_zero, List.getElem_cons_succ, Act.put, List.setIfInBounds_toArray, List.set_cons_zero, List.set_cons_succ]
            refine wpAnyH_take (i := 16) (oi := _) (v := ?vr3n16_62) rfl (by kernel_rfl) (by kernel_rfl) (by kernel_rfl) (fun _ _ _ h => h) (Or.inl ⟨by kernel_rfl, ?hr3n16_62⟩) hHeld1 ?_
            case hr3n16_62 => (intro w hSw; (try dsimp only at hSw); go_simp; try (with_reducible rfl))
            try simp only [List.getElem_toArray, List.getElem_cons_zero, List.getElem_cons_succ, Act.put, List.setIfInBounds_toArray, List.set_cons_zero, List.set_cons_succ]
            refine wpAnyH_take (i := 17) (oi := _) (v := ?vr3n17_63) rfl (by kernel_rfl) (by kernel_rfl) (by kernel_rfl) (fun _ _ _ h => h) (Or.inl ⟨by kernel_rfl, ?hr3n17_63⟩) hHeld1 ?_
            case hr3n17_63 => (intro w hSw; (try dsimp only at hSw); go_simp; try (with_reducible rfl))
            try simp only [List.getElem_toArray, List.getElem_cons_zero, List.getElem_cons_succ, Act.put, List.setIfInBounds_toArray, List.set_cons_zero, List.set_cons_succ]
            refine wpAnyH_take (i := 18) (oi := _) (v := ?vr3n18_64) rfl (by kernel_rfl) (by kernel_rfl) (by kernel_rfl) (fun _ _ _ h => h) (Or.inl ⟨by kernel_rfl, ?hr3n18_64⟩) hHeld1 ?_
            case hr3n18_64 => (intro w hSw; (try dsimp only at hSw); go_simp; try (with_reducible rfl))
            try simp only [List.getElem_toArray, List.getElem_cons_zero, List.getElem_cons_succ, Act.put, List.setIfInBounds_toArray, List.set_cons_zero, List.set_cons_succ]
            refine wpAnyH_take (i := 19) (oi := _) (v := undef) rfl (by kernel_rfl) (by kernel_rfl) (by kernel_rfl) (fun _ _ _ h => h) (Or.inr ⟨by kernel_rfl, rfl⟩) hHeld1 ?_
            try simp only [List.getElem_toArray, List.getElem_cons_zero, List.getElem_cons_succ, Act.put, List.setIfInBounds_toArray, List.set_cons_zero, List.set_cons_succ]
            refine wpAnyH_take (i := 20) (oi := _) (v := undef) rfl (by kernel_rfl) (by kernel_rfl) (by kernel_rfl) (fun _ _ _ h => h) (Or.inr ⟨by kernel_rfl, rfl⟩) hHeld1 ?_
            try simp only [List.getElem_toArray, List.getElem_cons_zero, List.getElem_cons_succ, Act.put, List.setIfInBounds_toArray, List.set_cons_zero, List.set_cons_succ]
            refine wpAnyH_take (i := 21) (oi := _) (v := undef) rfl (by kernel_rfl) (by kernel_rfl) (by kernel_rfl) (fun _ _ _ h => h) (Or.inr ⟨by kernel_rfl, rfl⟩) hHeld1 ?_
            try simp only [List.getElem_toArray, List.getElem_cons_zero, List.getElem_cons_succ, Act.put, List.setIfInBounds_toArray, List.set_cons_zero, List.set_cons_succ]
            refine wpAnyH_take (i := 22) (oi := _) (v := undef) rfl (by kernel_rfl) (by kernel_rfl) (by kernel_rfl) (fun _ _ _ h => h) (Or.inr ⟨by kernel_rfl, rfl⟩) hHeld1 ?_
            try simp only [List.getElem_toArray, List.getElem_cons_zero, List.getElem_cons_succ, Act.put, List.setIfInBounds_toArray, List.set_cons_zero, List.set_cons_succ]
            refine wpAnyH_take (i := 23) (oi := _) (v := ?vr3n23_65) rfl (by kernel_rfl) (by kernel_rfl) (by kernel_rfl) (fun _ _ _ h => h) (Or.inl ⟨by kernel_rfl, ?hr3n23_65⟩) hHeld1 ?_
            case hr3n23_65 => (intro w hSw; (try dsimp only at hSw); go_simp; try (with_reducible rfl))
            try simp only [List.getElem_toArray, List.getElem_cons_zero, List.getElem_cons_succ, Act.put, List.setIfInBounds_toArray, List.set_cons_zero, List.set_cons_succ]
            refine wpAnyH_done (by kernel_rfl) ?_ _
            refine NoPanic.normal ?_
            have HV := Lib.hid (HNO.out)
            have HV2 := Lib.hid (slRc_no HV.out)
            have HX1 := Lib.hid (HKa.out.setAll (cs := zrec) rfl)
            have tokA : True := trivial
            go_wp2_with (have _t := tokA; refine wpList_store_blk rfl 29 _ _ rfl w.heap.size zrec rfl rfl (rcC rc0) 29 HKa.out rfl size_rec rfl ?_; clear tokA)
            exact bodyPost_ret (results_blk Try.results42 _ _ w.heap.size _ _ _ rfl HX1.out Try.underlying29 rfl size_rec) rfl ⟨by rw [HV.out, HV2.out]; rfl, Below.setCells HBa.out (Nat.le_refl _) _ _⟩
        · have HNO := Lib.hid (HHD.out rfl hh)
          have hhb : (h != p0) = true := by rw [bne_iff_ne]; exact hh
          have hhb2 : (h == p0) = false := beq_eq_false_iff_ne.2 hh
          refine wp_region_noPanic ?_
          refine wp_region_held_drew (S := (fun w' => w'.cell? ⟨q, 0, none⟩ = some (sv p0) ∧ w'.cell? ⟨q, 5, none⟩ = some (sv p5) ∧ w'.cell? ⟨rb, 0, none⟩ = some (.int .i64 r.ep) ∧ (Ld 29 (.pointer (some ⟨rb, 0, none⟩))).run Try.prog w' = .ok (.agg (rcC r)) w')) (by kernel_rfl) (by first | exact ⟨PartAt.at (PartAt.drew HQ9.out) (j := 0) (by decide) (HPA.out ()).1, PartAt.at (PartAt.drew HQ9.out) (j := 5) (by decide) (HPA.out ()).2, (Blk.drew HR9.out).rc.1, (Blk.drew HR9.out).ldR⟩) (fun hHeld => ?_)
          refine wpAnyH_take (i := 0) (oi := _) (v := ?vr4n0_66) rfl (by kernel_rfl) (by kernel_rfl) (by kernel_rfl) (fun _ _ _ h => h) (Or.inl ⟨by kernel_rfl, ?hr4n0_66⟩) hHeld ?_
          case hr4n0_66 => (intro w hSw; (try dsimp only at hSw); go_simp; try (with_reducible rfl))
          try simp only [List.getElem_toArray, List.getElem_cons_zero, List.getElem_cons_succ, Act.put, List.setIfInBounds_toArray, List.set_cons_zero, List.set_cons_succ]
          refine wpAnyH_take (i := 1) (oi := _) (v := ?vr4n1_67) rfl (by kernel_rfl) (by kernel_rfl) (by kernel_rfl) (fun _ _ _ h => h) (Or.inl ⟨by kernel_rfl, ?hr4n1_67⟩) hHeld ?_
          case hr4n1_67 => (intro w hSw; (try dsimp only at hSw); go_simp; try (with_reducible rfl))
          try simp only [List.getElem_toArray, List.getElem_cons_zero, List.getElem_cons_succ, Act.put, List.setIfInBounds_toArray, List.set_cons_zero, List.set_cons_succ]
          refine wpAnyH_take (i := 2) (oi := _) (v := ?vr4n2_68) rfl (by kernel_rfl) (by kernel_rfl) (by kernel_rfl) (fun _ _ _ h => h) (Or.inl ⟨by kernel_rfl, ?hr4n2_68⟩) hHeld ?_
          case hr4n2_68 => (intro w hSw; (try dsimp only at hSw); go_simp; try (with_reducible rfl))
          try simp only [List.getElem_toArray, List.getElem_cons_zero, List.getElem_cons_succ, Act.put, List.setIfInBounds_toArray, List.set_cons_zero, List.set_cons_succ]
          refine wpAnyH_take (i := 3) (oi := _) (v := ?vr4n3_69) rfl (by kernel_rfl) (by kernel_rfl) (by kernel_rfl) (fun _ _ _ h => h) (Or.inl ⟨by kernel_rfl, ?hr4n3_69⟩) hHeld ?_
          case hr4n3_69 => (intro w hSw; (try dsimp only at hSw); go_simp; try (with_reducible rfl))
          try simp only [List.getElem_toArray, List.getElem_cons_zero, List.getElem_cons_succ, Act.put, List.setIfInBounds_toArray, List.set_cons_zero, List.set_cons_succ]
          refine wpAnyH_take (i := 4) (oi := _) (v := ?vr4n4_70) rfl (by kernel_rfl) (by kernel_rfl) (by kernel_rfl) (fun _ _ _ h => h) (Or.inl ⟨by kernel_rfl, ?hr4n4_70⟩) hHeld ?_
          case hr4n4_70 => (intro w hSw; (try dsimp only at hSw); go_simp; try (with_reducible rfl))
          try simp only [List.getElem_toArray, List.getElem_cons_zero, List.getElem_cons_succ, Act.put, List.setIfInBounds_toArray, List.set_cons_zero, List.set_cons_succ]
          refine wpAnyH_take (i := 5) (oi := _) (v := ?vr4n5_71) rfl (by kernel_rfl) (by kernel_rfl) (by kernel_rfl) (fun _ _ _ h => h) (Or.inl ⟨by kernel_rfl, ?hr4n5_71⟩) hHeld ?_
          case hr4n5_71 => (intro w hSw; (try dsimp only at hSw); go_simp; try (with_reducible rfl))
          try simp only [List.getElem_toArray, List.getElem_cons_zero, List.getElem_cons_succ, Act.put, List.setIfInBounds_toArray, List.set_cons_zero, List.set_cons_succ]
          refine wpAnyH_take (i := 6) (oi := _) (v := ?vr4n6_72) rfl (by kernel_rfl) (by kernel_rfl) (by kernel_rfl) (fun _ _ _ h => h) (Or.inl ⟨by kernel_rfl, ?hr4n6_72⟩) hHeld ?_
          case hr4n6_72 => (intro w hSw; (try dsimp only at hSw); go_simp; try (with_reducible rfl))
          try simp only [List.getElem_toArray, List.getElem_cons_zero, List.getElem_cons_succ, Act.put, List.setIfInBounds_toArray, List.set_cons_zero, List.set_cons_succ]
          refine wpAnyH_take (i := 7) (oi := _) (v := ?vr4n7_73) rfl (by kernel_rfl) (by kernel_rfl) (by kernel_rfl) (fun _ _ _ h => h) (Or.inl ⟨by kernel_rfl, ?hr4n7_73⟩) hHeld ?_
          case hr4n7_73 => (intro w hSw; (try dsimp only at hSw); go_simp; try (with_reducible rfl))
          try simp only [List.getElem_toArray, List.getElem_cons_zero, List.getElem_cons_succ, Act.put, List.setIfInBounds_toArray, List.set_cons_zero, List.set_cons_succ]
          refine wpAnyH_take (i := 8) (oi := _) (v := ?vr4n8_74) rfl (by kernel_rfl) (by kernel_rfl) (by kernel_rfl) (fun _ _ _ h => h) (Or.inl ⟨by kernel_rfl, ?hr4n8_74⟩) hHeld ?_
          case hr4n8_74 => (intro w hSw; (try dsimp only at hSw); go_simp; try (with_reducible rfl))
          try simp only [List.getElem_toArray, List.getElem_cons_zero, List.getElem_cons_succ, Act.put, List.setIfInBounds_toArray, List.set_cons_zero, List.set_cons_succ]
          refine wpAnyH_take (i := 9) (oi := _) (v := ?vr4n9_75) rfl (by kernel_rfl) (by kernel_rfl) (by kernel_rfl) (fun _ _ _ h => h) (Or.inl ⟨by kernel_rfl, ?hr4n9_75⟩) hHeld ?_
          case hr4n9_75 => (intro w hSw; (try dsimp only at hSw); go_simp; try (with_reducible rfl))
          try simp only [List.getElem_toArray, List.getElem_cons_zero, List.getElem_cons_succ, Act.put, List.setIfInBounds_toArray, List.set_cons_zero, List.set_cons_succ]
          refine wpAnyH_take (i := 10) (oi := _) (v := undef) rfl (by kernel_rfl) (by kernel_rfl) (by kernel_rfl) (fun _ _ _ h => h) (Or.inr ⟨by kernel_rfl, rfl⟩) hHeld ?_
          try simp only [List.getElem_toArray, List.getElem_cons_zero, List.getElem_cons_succ, Act.put, List.setIfInBounds_toArray, List.set_cons_zero, List.set_cons_succ]
          refine wpAnyH_take (i := 11) (oi := _) (v := undef) rfl (by kernel_rfl) (by kernel_rfl) (by kernel_rfl) (fun _ _ _ h => h) (Or.inr ⟨by kernel_rfl, rfl⟩) hHeld ?_
          try simp only [List.getElem_toArray, List.getElem_cons_zero, List.getElem_cons_succ, Act.put, List.setIfInBounds_toArray, List.set_cons_zero, List.set_cons_succ]
          refine wpAnyH_take (i := 12) (oi := _) (v := undef) rfl (by kernel_rfl) (by kernel_rfl) (by kernel_rfl) (fun _ _ _ h => h) (Or.inr ⟨by kernel_rfl, rfl⟩) hHeld ?_
          try simp only [List.getElem_toArray, List.getElem_cons_zero, List.getElem_cons_succ, Act.put, List.setIfInBounds_toArray, List.set_cons_zero, List.set_cons_succ]
          refine wpAnyH_take (i := 13) (oi := _) (v := undef) rfl (by kernel_rfl) (by kernel_rfl) (by kernel_rfl) (fun _ _ _ h => h) (Or.inr ⟨by kernel_rfl, rfl⟩) hHeld ?_
          try simp only [List.getElem_toArray, List.getElem_cons_zero, List.getElem_cons_succ, Act.put, List.setIfInBounds_toArray, List.set_cons_zero, List.set_cons_succ]
          refine wpAnyH_take (i := 14) (oi := _) (v := undef) rfl (by kernel_rfl) (by kernel_rfl) (by kernel_rfl) (fun _ _ _ h => h) (Or.inr ⟨by kernel_rfl, rfl⟩) hHeld ?_
          try simp only [List.getElem_toArray, List.getElem_cons_zero, List.getElem_cons_succ, Act.put, List.setIfInBounds_toArray, List.set_cons_zero, List.set_cons_succ]
          refine wpAnyH_take (i := 15) (oi := _) (v := undef) rfl (by kernel_rfl) (by kernel_rfl) (by kernel_rfl) (fun _ _ _ h => h) (Or.inr ⟨by kernel_rfl, rfl⟩) hHeld ?_
          try simp only [List.getElem_toArray, List.getElem_cons_zero, List.getElem_cons_succ, Act.put, List.setIfInBounds_toArray, List.set_cons_zero, List.set_cons_succ]
          refine wpAnyH_take (i := 16) (oi := _) (v := undef) rfl (by kernel_rfl) (by kernel_rfl) (by kernel_rfl) (fun _ _ _ h => h) (Or.inr ⟨by kernel_rfl, rfl⟩) hHeld ?_
          try simp only [List.getElem_toArray, List.getElem_cons_zero, List.getElem_cons_succ, Act.put, List.setIfInBounds_toArray, List.set_cons_zero, List.set_cons_succ]
          refine wpAnyH_take (i := 17) (oi := _) (v := ?vr4n17_76) rfl (by kernel_rfl) (by kernel_rfl) (by kernel_rfl) (fun _ _ _ h => h) (Or.inl ⟨by kernel_rfl, ?hr4n17_76⟩) hHeld ?_
          case hr4n17_76 => (intro w hSw; (try dsimp only at hSw); go_simp; try (with_reducible rfl))
          try simp only [List.getElem_toArray, List.getElem_cons_zero, List.getElem_cons_succ, Act.put, List.setIfInBounds_toArray, List.set_cons_zero, List.set_cons_succ]
          refine wpAnyH_take (i := 18) (oi := _) (v := ?vr4n18_77) rfl (by kernel_rfl) (by kernel_rfl) (by kernel_rfl) (fun _ _ _ h => h) (Or.inl ⟨by kernel_rfl, ?hr4n18_77⟩) hHeld ?_
          case hr4n18_77 => (intro w hSw; (try dsimp only at hSw); go_simp; try (with_reducible rfl))
          try simp only [List.getElem_toArray, List.getElem_cons_zero, List.getElem_cons_succ, Act.put, List.setIfInBounds_toArray, List.set_cons_zero, List.set_cons_succ]
          refine wpAnyH_take (i := 19) (oi := _) (v := undef) rfl (by kernel_rfl) (by kernel_rfl) (by kernel_rfl) (fun _ _ _ h => h) (Or.inr ⟨by kernel_rfl, rfl⟩) hHeld ?_
          try simp only [List.getElem_toArray, List.getElem_cons_zero, List.getElem_cons_succ, Act.put, List.setIfInBounds_toArray, List.set_cons_zero, List.set_cons_succ]
          refine wpAnyH_take (i := 20) (oi := _) (v := undef) rfl (by kernel_rfl) (by kernel_rfl) (by kernel_rfl) (fun _ _ _ h => h) (Or.inr ⟨by kernel_rfl, rfl⟩) hHeld ?_
          try simp only [List.getElem_toArray, List.getElem_cons_zero, List.getElem_cons_succ, Act.put, List.setIfInBounds_toArray, List.set_cons_zero, List.set_cons_succ]
          refine wpAnyH_take (i := 21) (oi := _) (v := undef) rfl (by kernel_rfl) (by kernel_rfl) (by kernel_rfl) (fun _ _ _ h => h) (Or.inr ⟨by kernel_rfl, rfl⟩) hHeld ?_
          try simp only [List.getElem_toArray, List.getElem_cons_zero, List.getElem_cons_succ, Act.put, List.setIfInBounds_toArray, List.set_cons_zero, List.set_cons_succ]
          refine wpAnyH_take (i := 22) (oi := _) (v := undef) rfl (by kernel_rfl) (by kernel_rfl) (by kernel_rfl) (fun _ _ _ h => h) (Or.inr ⟨by kernel_rfl, rfl⟩) hHeld ?_
          try simp only [List.getElem_toArray, List.getElem_cons_zero, List.getElem_cons_succ, Act.put, List.setIfInBounds_toArray, List.set_cons_zero, List.set_cons_succ]
          refine wpAnyH_take (i := 23) (oi := _) (v := ?vr4n23_78) rfl (by kernel_rfl) (by kernel_rfl) (by kernel_rfl) (fun _ _ _ h => h) (Or.inl ⟨by kernel_rfl, ?hr4n23_78⟩) hHeld ?_
          case hr4n23_78 => (intro w hSw; (try dsimp only at hSw); go_simp; try (with_reducible rfl))
          try simp only [List.getElem_toArray, List.getElem_cons_zero, List.getElem_cons_succ, Act.put, List.setIfInBounds_toArray, List.set_cons_zero, List.set_cons_succ]
          refine wpAnyH_done (by kernel_rfl) ?_ _
          refine NoPanic.normal ?_
          have HKd := Lib.hid (Blk.drew HK9.out)
          have HBd := Lib.hid (HB9.out.drew)
          have HV := Lib.hid (HNO.out)
          have HV2 := Lib.hid (slRc_no HV.out)
          have HX1 := Lib.hid (HKd.out.setAll (cs := zrec) rfl)
          have tokA : True := trivial
          go_wp2_with (have _t := tokA; refine wpList_store_blk rfl 29 _ _ rfl w.heap.size zrec rfl rfl (rcC rc0) 29 HKd.out rfl size_rec rfl ?_; clear tokA)
          exact bodyPost_ret (results_blk Try.results42 _ _ w.heap.size _ _ _ rfl HX1.out Try.underlying29 rfl size_rec) rfl ⟨by rw [HV.out, HV2.out]; rfl, Below.setCells HBd.out (Nat.le_refl _) _ _⟩
      · have HNO := Lib.hid (HMY.out hE)
        have hEb : (E != 0) = true := by rw [bne_iff_ne]; exact hE
        refine wp_region_noPanic ?_
        refine wp_region_held_drew (S := (fun w' => w'.cell? ⟨q, 0, none⟩ = some (sv p0) ∧ w'.cell? ⟨q, 5, none⟩ = some (sv p5) ∧ w'.cell? ⟨rb, 0, none⟩ = some (.int .i64 r.ep) ∧ (Ld 29 (.pointer (some ⟨rb, 0, none⟩))).run Try.prog w' = .ok (.agg (rcC r)) w')) (by kernel_rfl) (by first | exact ⟨PartAt.at (PartAt.drew HQ9.out) (j := 0) (by decide) (HPA.out ()).1, PartAt.at (PartAt.drew HQ9.out) (j := 5) (by decide) (HPA.out ()).2, (Blk.drew HR9.out).rc.1, (Blk.drew HR9.out).ldR⟩) (fun hHeld => ?_)
        refine wpAnyH_take (i := 0) (oi := _) (v := ?vr5n0_79) rfl (by kernel_rfl) (by kernel_rfl) (by kernel_rfl) (fun _ _ _ h => h) (Or.inl ⟨by kernel_rfl, ?hr5n0_79⟩) hHeld ?_
        case hr5n0_79 => (intro w hSw; (try dsimp only at hSw); go_simp; try (with_reducible rfl))
        try simp only [List.getElem_toArray, List.getElem_cons_zero, List.getElem_cons_succ, Act.put, List.setIfInBounds_toArray, List.set_cons_zero, List.set_cons_succ]
        refine wpAnyH_take (i := 1) (oi := _) (v := ?vr5n1_80) rfl (by kernel_rfl) (by kernel_rfl) (by kernel_rfl) (fun _ _ _ h => h) (Or.inl ⟨by kernel_rfl, ?hr5n1_80⟩) hHeld ?_
        case hr5n1_80 => (intro w hSw; (try dsimp only at hSw); go_simp; try (with_reducible rfl))
        try simp only [List.getElem_toArray, List.getElem_cons_zero, List.getElem_cons_succ, Act.put, List.setIfInBounds_toArray, List.set_cons_zero, List.set_cons_succ]
        refine wpAnyH_take (i := 2) (oi := _) (v := ?vr5n2_81) rfl (by kernel_rfl) (by kernel_rfl) (by kernel_rfl) (fun _ _ _ h => h) (Or.inl ⟨by kernel_rfl, ?hr5n2_81⟩) hHeld ?_
        case hr5n2_81 => (intro w hSw; (try dsimp only at hSw); go_simp; try (with_reducible rfl))
        try simp only [List.getElem_toArray, List.getElem_cons_zero, List.getElem_cons_succ, Act.put, List.setIfInBounds_toArray, List.set_cons_zero, List.set_cons_succ]
        refine wpAnyH_take (i := 3) (oi := _) (v := undef) rfl (by kernel_rfl) (by kernel_rfl) (by kernel_rfl) (fun _ _ _ h => h) (Or.inr ⟨by kernel_rfl, rfl⟩) hHeld ?_
        try simp only [List.getElem_toArray, List.getElem_cons_zero, List.getElem_cons_succ, Act.put, List.setIfInBounds_toArray, List.set_cons_zero, List.set_cons_succ]
        refine wpAnyH_take (i := 4) (oi := _) (v := undef) rfl (by kernel_rfl) (by kernel_rfl) (by kernel_rfl) (fun _ _ _ h => h) (Or.inr ⟨by kernel_rfl, rfl⟩) hHeld ?_
        try simp only [List.getElem_toArray, List.getElem_cons_zero, List.getElem_cons_succ, Act.put, List.setIfInBounds_toArray, List.set_cons_zero, List.set_cons_succ]
        refine wpAnyH_take (i := 5) (oi := _) (v := undef) rfl (by kernel_rfl) (by kernel_rfl) (by kernel_rfl) (fun _ _ _ h => h) (Or.inr ⟨by kernel_rfl, rfl⟩) hHeld ?_
        try simp only [List.getElem_toArray, List.getElem_cons_zero, List.getElem_cons_succ, Act.put, List.setIfInBounds_toArray, List.set_cons_zero, List.set_cons_succ]
        refine wpAnyH_take (i := 6) (oi := _) (v := undef) rfl (by kernel_rfl) (by kernel_rfl) (by kernel_rfl) (fun _ _ _ h => h) (Or.inr ⟨by kernel_rfl, rfl⟩) hHeld ?_
        try simp only [List.getElem_toArray, List.getElem_cons_zero, List.getElem_cons_succ, Act.put, List.setIfInBounds_toArray, List.set_cons_zero, List.set_cons_succ]
        refine wpAnyH_take (i := 7) (oi := _) (v := undef) rfl (by kernel_rfl) (by kernel_rfl) (by kernel_rfl) (fun _ _ _ h => h) (Or.inr ⟨by kernel_rfl, rfl⟩) hHeld ?_
        try simp only [List.getElem_toArray, List.getElem_cons_zero, List.getElem_cons_succ, Act.put, List.setIfInBounds_toArray, List.set_cons_zero, List.set_cons_succ]
        refine wpAnyH_take (i := 8) (oi := _) (v := ?vr5n8_82) rfl (by kernel_rfl) (by kernel_rfl) (by kernel_rfl) (fun _ _ _ h => h) (Or.inl ⟨by kernel_rfl, ?hr5n8_82⟩) hHeld ?_
        case hr5n8_82 => (intro w hSw; (try dsimp only at hSw); go_simp; try (with_reducible rfl))
        try simp only [List.getElem_toArray, List.getElem_cons_zero, List.getElem_cons_succ, Act.put, List.setIfInBounds_toArray, List.set_cons_zero, List.set_cons_succ]
        refine wpAnyH_take (i := 9) (oi := _) (v := ?vr5n9_83) rfl (by kernel_rfl) (by kernel_rfl) (by kernel_rfl) (fun _ _ _ h => h) (Or.inl ⟨by kernel_rfl, ?hr5n9_83⟩) hHeld ?_
        case hr5n9_83 => (intro w hSw; (try dsimp only at hSw); go_simp; try (with_reducible rfl))
        try simp only [List.getElem_toArray, List.getElem_cons_zero, List.getElem_cons_succ, Act.put, List.setIfInBounds_toArray, List.set_cons_zero, List.set_cons_succ]
        refine wpAnyH_take (i := 10) (oi := _) (v := undef) rfl (by kernel_rfl) (by kernel_rfl) (by kernel_rfl) (fun _ _ _ h => h) (Or.inr ⟨by kernel_rfl, rfl⟩) hHeld ?_
        try simp only [List.getElem_toArray, List.getElem_cons_zero, List.getElem_cons_succ, Act.put, List.setIfInBounds_toArray, List.set_cons_zero, List.set_cons_succ]
        refine wpAnyH_take (i := 11) (oi := _) (v := undef) rfl (by kernel_rfl) (by kernel_rfl) (by kernel_rfl) (fun _ _ _ h => h) (Or.inr ⟨by kernel_rfl, rfl⟩) hHeld ?_
        try simp only [List.getElem_toArray, List.getElem_cons_zero, List.getElem_cons_succ, Act.put, List.setIfInBounds_toArray, List.set_cons_zero, List.set_cons_succ]
        refine wpAnyH_take (i := 12) (oi := _) (v := undef) rfl (by kernel_rfl) (by kernel_rfl) (by kernel_rfl) (fun _ _ _ h => h) (Or.inr ⟨by kernel_rfl, rfl⟩) hHeld ?_
        try simp only [List.getElem_toArray, List.getElem_cons_zero, List.getElem_cons_succ, Act.put, List.setIfInBounds_toArray, List.set_cons_zero, List.set_cons_succ]
        refine wpAnyH_take (i := 13) (oi := _) (v := undef) rfl (by kernel_rfl) (by kernel_rfl) (by kernel_rfl) (fun _ _ _ h => h) (Or.inr ⟨by kernel_rfl, rfl⟩) hHeld ?_
        try simp only [List.getElem_toArray, List.getElem_cons_zero, List.getElem_cons_succ, Act.put, List.setIfInBounds_toArray, List.set_cons_zero, List.set_cons_succ]
        refine wpAnyH_take (i := 14) (oi := _) (v := undef) rfl (by kernel_rfl) (by kernel_rfl) (by kernel_rfl) (fun _ _ _ h => h) (Or.inr ⟨by kernel_rfl, rfl⟩) hHeld ?_
        try simp only [List.getElem_toArray, List.getElem_cons_zero, List.getElem_cons_succ, Act.put, List.setIfInBounds_toArray, List.set_cons_zero, List.set_cons_succ]
        refine wpAnyH_take (i := 15) (oi := _) (v := undef) rfl (by kernel_rfl) (by kernel_rfl) (by kernel_rfl) (fun _ _ _ h => h) (Or.inr ⟨by kernel_rfl, rfl⟩) hHeld ?_
        try simp only [List.getElem_toArray, List.getElem_cons_zero, List.getElem_cons_succ, Act.put, List.setIfInBounds_toArray, List.set_cons_zero, List.set_cons_succ]
        refine wpAnyH_take (i := 16) (oi := _) (v := undef) rfl (by kernel_rfl) (by kernel_rfl) (by kernel_rfl) (fun _ _ _ h => h) (Or.inr ⟨by kernel_rfl, rfl⟩) hHeld ?_
        try simp only [List.getElem_toArray, List.getElem_cons_zero, List.getElem_cons_succ, Act.put, List.setIfInBounds_toArray, List.set_cons_zero, List.set_cons_succ]
        refine wpAnyH_take (i := 17) (oi := _) (v := ?vr5n17_84) rfl (by kernel_rfl) (by kernel_rfl) (by kernel_rfl) (fun _ _ _ h => h) (Or.inl ⟨by kernel_rfl, ?hr5n17_84⟩) hHeld ?_
        case hr5n17_84 => (intro w hSw; (try dsimp only at hSw); go_simp; try (with_reducible rfl))
        try simp only [List.getElem_toArray, List.getElem_cons_zero, List.getElem_cons_succ, Act.put, List.setIfInBounds_toArray, List.set_cons_zero, List.set_cons_succ]
        refine wpAnyH_take (i := 18) (oi := _) (v := ?vr5n18_85) rfl (by kernel_rfl) (by kernel_rfl) (by kernel_rfl) (fun _ _ _ h => h) (Or.inl ⟨by kernel_rfl, ?hr5n18_85⟩) hHeld ?_
        case hr5n18_85 => (intro w hSw; (try dsimp only at hSw); go_simp; try (with_reducible rfl))
        try simp only [List.getElem_toArray, List.getElem_cons_zero, List.getElem_cons_succ, Act.put, List.setIfInBounds_toArray, List.set_cons_zero, List.set_cons_succ]
        refine wpAnyH_take (i := 19) (oi := _) (v := undef) rfl (by kernel_rfl) (by kernel_rfl) (by kernel_rfl) (fun _ _ _ h => h) (Or.inr ⟨by kernel_rfl, rfl⟩) hHeld ?_
        try simp only [List.getElem_toArray, List.getElem_cons_zero, List.getElem_cons_succ, Act.put, List.setIfInBounds_toArray, List.set_cons_zero, List.set_cons_succ]
        refine wpAnyH_take (i := 20) (oi := _) (v := undef) rfl (by kernel_rfl) (by kernel_rfl) (by kernel_rfl) (fun _ _ _ h => h) (Or.inr ⟨by kernel_rfl, rfl⟩) hHeld ?_
        try simp only [List.getElem_toArray, List.getElem_cons_zero, List.getElem_cons_succ, Act.put, List.setIfInBounds_toArray, List.set_cons_zero, List.set_cons_succ]
        refine wpAnyH_take (i := 21) (oi := _) (v := undef) rfl (by kernel_rfl) (by kernel_rfl) (by kernel_rfl) (fun _ _ _ h => h) (Or.inr ⟨by kernel_rfl, rfl⟩) hHeld ?_
        try simp only [List.getElem_toArray, List.getElem_cons_zero, List.getElem_cons_succ, Act.put, List.setIfInBounds_toArray, List.set_cons_zero, List.set_cons_succ]
        refine wpAnyH_take (i := 22) (oi := _) (v := undef) rfl (by kernel_rfl) (by kernel_rfl) (by kernel_rfl) (fun _ _ _ h => h) (Or.inr ⟨by kernel_rfl, rfl⟩) hHeld ?_
        try simp only [List.getElem_toArray, List.getElem_cons_zero, List.getElem_cons_succ, Act.put, List.setIfInBounds_toArray, List.set_cons_zero, List.set_cons_succ]
        refine wpAnyH_take (i := 23) (oi := _) (v := ?vr5n23_86) rfl (by kernel_rfl) (by kernel_rfl) (by kernel_rfl) (fun _ _ _ h => h) (Or.inl ⟨by kernel_rfl, ?hr5n23_86⟩) hHeld ?_
        case hr5n23_86 => (intro w hSw; (try dsimp only at hSw); go_simp; try (with_reducible rfl))
        try simp only [List.getElem_toArray, List.getElem_cons_zero, List.getElem_cons_succ, Act.put, List.setIfInBounds_toArray, List.set_cons_zero, List.set_cons_succ]
        refine wpAnyH_done (by kernel_rfl) ?_ _
        refine NoPanic.normal ?_
        have HKd := Lib.hid (Blk.drew HK9.out)
        have HBd := Lib.hid (HB9.out.drew)
        have HV := Lib.hid (HNO.out)
        have HV2 := Lib.hid (slRc_no HV.out)
        have HX1 := Lib.hid (HKd.out.setAll (cs := zrec) rfl)
        have tokA : True := trivial
        go_wp2_with (have _t := tokA; refine wpList_store_blk rfl 29 _ _ rfl w.heap.size zrec rfl rfl (rcC rc0) 29 HKd.out rfl size_rec rfl ?_; clear tokA)
        exact bodyPost_ret (results_blk Try.results42 _ _ w.heap.size _ _ _ rfl HX1.out Try.underlying29 rfl size_rec) rfl ⟨by rw [HV.out, HV2.out]; rfl, Below.setCells HBd.out (Nat.le_refl _) _ _⟩
end Go.Proofs.Ytccbohjcbhibkaa
