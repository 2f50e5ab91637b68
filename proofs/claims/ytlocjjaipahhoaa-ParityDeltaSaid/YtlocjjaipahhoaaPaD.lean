/- The walk through the law ParityDelta: it answers true. Condition: texts and numbers that a memory can hold. -/
import Derived.Test.YtlocjjaipahhoaaLstI
import Derived.Test.YtlocjjaipahhoaaPaY
namespace Go.Proofs.Ytlocjjaipahhoaa
set_option linter.unusedVariables false
set_option linter.unusedSimpArgs false
set_option maxRecDepth 100000
open Go.RowKit
attribute [local go_sem ↓] Go.wp_at_zero Go.wp_at_succ

theorem own_sts {w : World} {B n : Nat} {v : Value} {L : List (List UInt8)} (h : w.ownsRow B 9 1 v n (L.map encStr)) (hL : L ≠ []) :
    ∃ g cap, v = .slice (some ⟨g, 0, none⟩) L.length cap ∧ B ≤ g ∧ Sts w g L := by
  obtain ⟨g, cap, h1, _, h2, h3, _, _, h4⟩ := own_holds h hL
  exact ⟨g, cap, h1, h2, sts_of h4 h3⟩

theorem now_of {w : World} {B n : Nat} {v : Value} {L : List (List UInt8)} (h : w.ownsRow B 9 1 v n (L.map encStr)) :
    ∃ A c, v = .slice A L.length c ∧ (L = [] ∨ ∃ g, A = some ⟨g, 0, none⟩ ∧ B ≤ g ∧ Sts w g L) := by
  by_cases hL : L = []
  · obtain ⟨A, c, h1, _⟩ := own_strs h
    exact ⟨A, c, h1, Or.inl hL⟩
  · obtain ⟨g, cap, h1, h2, h3⟩ := own_sts h hL
    exact ⟨_, cap, h1, Or.inr ⟨g, rfl, h2, h3⟩⟩

set_option maxHeartbeats 4000000 in
theorem deltas_main (A : Option Addr) (c : Nat) (L : List (List UInt8)) (AP : Option Addr) (cP : Nat) (P : List Int) (A2 : Option Addr) (c2 : Nat) (L2 : List (List UInt8))
    (hL : L.length ≤ maxLen) (hs : ∀ s ∈ L, s.length ≤ maxLen) (hL2 : L2.length ≤ maxLen) (hs2 : ∀ s ∈ L2, s.length ≤ maxLen) (hP : P.length ≤ 60) (hPi : ∀ n ∈ P, -9223372036854775808 ≤ n ∧ n ≤ 9223372036854775807) (hne : L ≠ []) (w : World) (hA : StrsAt w w.heap.size A L) (hA2 : StrsAt w w.heap.size A2 L2) (hAP : IntsAt w w.heap.size AP P)
    (hg : grV L = false) (hg2 : grV L2 = false) :
    Calls Try.prog 7 #[.slice A L.length c, .slice AP P.length cP, .slice A2 L2.length c2] w fun e w' => e = .returned (.bool true) ∧ Below w.heap.size w w' := by
  have h20 := (grV_no hg).1
  have h200 := (grV_no hg).2
  have h20b := (grV_no hg2).1
  have h200b := (grV_no hg2).2
  have G := Lib.hid (great_any A c L hL hs w hA)
  have G2 := Lib.hid (great_any A2 c2 L2 hL2 hs2 w hA2)
  rw [hg] at G
  rw [hg2] at G2
  have K := Lib.hid wakes_any
  have X := Lib.hid (sectors_any A c L h20 h200 w hA)
  have N := Lib.hid (fun w1 h => sectors_any A2 c2 L2 h20b h200b w1 h)
  have HA2 := Lib.hid hA2
  have HAP := Lib.hid hAP
  have HPI := Lib.hid hPi
  have hLp : 0 < L.length := List.length_pos_iff.2 hne
  have HX64 := Lib.hid (secs_64 L)
  have hxl := secs_len L
  have HN64 := Lib.hid (secs_64 L2)
  have hnl := secs_len L2
  generalize secs L = x at X HX64 hxl
  generalize secs L2 = nw at N HN64 hnl
  have S := Lib.hid (fun (cur : List (List UInt8)) (h64 : ∀ s ∈ cur, s.length = 64) (hl : cur.length ≤ 20) (A c w1) (h : StrsAt w1 w1.heap.size A cur) => (by
    have h2 := paSum_any A c cur (by unfold maxLen; omega) (small_len h64) w1 h
    rw [paV_of h64] at h2
    exact h2 : Calls Try.prog 11 #[.slice A cur.length c] w1 fun e w' => e = .returned (.tuple #[.string ⟨(paS cur).toArray⟩, .int .i64 0]) ∧ Below w1.heap.size w1 w'))
  have hX20 : x.length ≤ 20 := by omega
  have hXp : 0 < x.length := by omega
  have hN20 : nw.length ≤ 20 := by omega
  have hPm : P.length ≤ 9223372036854775807 := by omega
  have hLe : ¬ (L.length : Int) = 0 := by omega
  have hLe2 : ((L.length : Int) == 0) = false := beq_eq_false_iff_ne.2 hLe
  have hP60 : ¬ (60 : Int) < (P.length : Int) := by omega
  have HXL := Lib.hid hxl
  have HNL := Lib.hid hnl
  clear hL hs hL2 hs2 hPi hne hA hA2 hAP hg hg2 h20 h200 h20b h200b hxl hnl
  go_enter Try.func7, Try.ntmps7
  go_wp2_with fail
  refine G.out.mono ?_
  rintro e wg ⟨rfl, hw⟩
  subst hw
  go_wp2_with fail
  refine G2.out.mono ?_
  rintro e wg2 ⟨rfl, hw⟩
  subst hw
  go_wp2_with fail
  refine X.out.mono ?_
  rintro e w1 ⟨v, rfl, hown, hb⟩
  rw [← HXL.out] at hown
  obtain ⟨g1, cap1, rfl, hg1, hst⟩ := own_sts hown (by intro h; rw [h] at hXp; simp at hXp)
  have HST := Lib.hid hst
  have HB1 := Lib.hid hb
  clear hb hst hown
  go_wp2_with fail
  refine (S.out x HX64.out hX20 _ _ _ HST.out.at).mono ?_
  rintro e w2 ⟨rfl, hb⟩
  have HST2 := Lib.hid (HST.out.up hb)
  have HB2 := Lib.hid (Below.step HB1.out hb)
  have hg12 : g1 < w2.heap.size := HST2.out.1
  clear hb HST HB1
  go_wp2_with fail
  refine (N.out _ (HA2.out.up HB2.out)).mono ?_
  rintro e w3 ⟨v2, rfl, hown, hb⟩
  rw [← HNL.out] at hown
  obtain ⟨A3, c3, rfl, hnow⟩ := now_of hown
  have HNOW : Hid (nw.length = 0 ∨ ∃ g2, A3 = some ⟨g2, 0, none⟩ ∧ g1 < g2 ∧ Sts w3 g2 nw) := by
    rcases hnow with h | ⟨g2, h1, h2, h3⟩
    · left; rw [h]; rfl
    · exact Or.inr ⟨g2, h1, by omega, h3⟩
  have HST3 := Lib.hid (HST2.out.up hb)
  have HB3 := Lib.hid (Below.step HB2.out hb)
  clear hb HST2 HB2 hown hnow hg12
  go_wp2
  go_loopw [11, 8] (fun i sv wr => ∃ (k : Nat) (cur : List (List UInt8)), k ≤ P.length ∧ i = .int .i64 k ∧ sv = .string ⟨(paS cur).toArray⟩ ∧ cur.length = x.length ∧ (∀ s ∈ cur, s.length = 64) ∧ Sts wr g1 cur ∧ (nw.length = 0 ∨ ∃ g2, A3 = some ⟨g2, 0, none⟩ ∧ g1 < g2 ∧ Sts wr g2 nw) ∧ Below wg2.heap.size wg2 wr) (fun i _ _ => P.length - (intOf i).toNat)
  case atStart => exact ⟨0, x, by omega, rfl, rfl, rfl, HX64.out, HST3.out, HNOW.out, HB3.out⟩
  case round =>
    obtain ⟨k, cur, hk, rfl, rfl, hcl, hc64, hst, hnow, hbel⟩ := hrel
    have HC64 := Lib.hid hc64
    have HST := Lib.hid hst
    have HNOW2 := Lib.hid hnow
    have HB := Lib.hid hbel
    clear hc64 hst hnow hbel HNOW HST3 HB3
    by_cases hgo : k < P.length ∧ 0 < nw.length
    · obtain ⟨hlt, hnp⟩ := hgo
      obtain ⟨bp, o, rfl, hbp, hpc⟩ : ∃ b o, AP = some ⟨b, o, none⟩ ∧ b < wg2.heap.size ∧ ∀ j (hj : j < P.length), wg2.cell? ⟨b, o + j, none⟩ = some (.int .i64 P[j]) := by
        rcases HAP.out with h | h
        · rw [h] at hlt; simp at hlt
        · exact h
      have hcp := (HB.out.cell (p := ⟨bp, o + k, none⟩) hbp).trans (hpc k hlt)
      have hpr := HPI.out _ (List.getElem_mem hlt)
      generalize P[k] = p at hcp hpr
      obtain ⟨g2, rfl, hg2, hst2⟩ : ∃ g2, A3 = some ⟨g2, 0, none⟩ ∧ g1 < g2 ∧ Sts wr g2 nw := by
        rcases HNOW2.out with h | h
        · omega
        · exact h
      obtain ⟨T, hT⟩ : ∃ T, p.tmod (x.length : Int) = T := ⟨_, rfl⟩
      have hnx : (0 : Int) < (x.length : Int) := by omega
      have hT1 : T < (x.length : Int) := by rw [← hT]; exact Int.tmod_lt_of_pos _ hnx
      have hT2 : -(x.length : Int) < T := by
        rw [← hT]
        have := Int.lt_tmod_of_pos p hnx
        omega
      obtain ⟨Kn, hKn, hKlt, hKc⟩ : ∃ Kn : Nat, Kn < x.length ∧ (0 ≤ T → T = (Kn : Int)) ∧ (T < 0 → T + (x.length : Int) = (Kn : Int)) := by
        rcases Int.lt_or_le T 0 with h | h
        · exact ⟨(T + x.length).toNat, by omega, fun h2 => by omega, fun _ => by omega⟩
        · exact ⟨T.toNat, by omega, fun _ => by omega, fun h2 => by omega⟩
      obtain ⟨J, hJl, hJ⟩ : ∃ J : Nat, J < nw.length ∧ (k : Int).tmod (nw.length : Int) = (J : Int) := ⟨k % nw.length, Nat.mod_lt _ hnp, rfl⟩
      have hKc2 : Kn < cur.length := by omega
      have hb64 : (nw[J]).length = 64 := HN64.out _ (List.getElem_mem hJl)
      have ha64 : (cur[Kn]).length = 64 := HC64.out _ (List.getElem_mem hKc2)
      have hs64 : (paS cur).length = 64 := paS_64 HC64.out
      have hde := delta_same HC64.out Kn hKc2 nw[J] hb64
      have D := Lib.hid (fun w => delta_any (paS cur) cur[Kn] nw[J] (by rw [hs64]; decide) (by rw [ha64]; decide) (by rw [hb64]; decide) w)
      rw [hde] at D
      have hc1 := HST.out.2 Kn hKc2
      have hc2 := hst2.2 J hJl
      have HSET := Lib.hid (fun (w' : World) (h : Sts w' g1 cur) => h.set Kn nw[J])
      have h64' : ∀ s ∈ cur.set Kn nw[J], s.length = 64 := by
        intro s hs
        rcases List.mem_or_eq_of_mem_set hs with h | h
        · exact HC64.out s h
        · rw [h]; exact hb64
      have hsl : (cur.set Kn nw[J]).length = x.length := by rw [List.length_set]; exact hcl
      generalize cur[Kn] = a at D hc1 ha64
      generalize nw[J] = b at D hc2 hb64 HSET h64' hsl
      obtain ⟨cur2, hcur2⟩ : ∃ l, cur.set Kn b = l := ⟨_, rfl⟩
      rw [hcur2] at D HSET h64' hsl
      have HSL := Lib.hid hsl
      have H64' := Lib.hid h64'
      have HC1 := Lib.hid hc1
      have HC2 := Lib.hid hc2
      have HST2 := Lib.hid hst2
      have hlt' : (k : Int) < (P.length : Int) := by omega
      have hnp' : (0 : Int) < (nw.length : Int) := by omega
      have hn0 : ¬ nw.length = 0 := by omega
      have hx0 : ¬ x.length = 0 := by omega
      have hKi : (Kn : Int) < (x.length : Int) := by omega
      have hJi : (J : Int) < (nw.length : Int) := by omega
      have HG1 : Hid (g1 < wr.heap.size) := HST.out.1
      have HG2 : Hid (g2 < wr.heap.size) := hst2.1
      have HGW : Hid (wg2.heap.size ≤ g1) := hg1
      have HNE : Hid (g1 < g2) := hg2
      clear hpc hbp hst2 hs64 ha64 hb64 hde hsl h64' hcur2 hc1 hc2 hcl hnx hg1 hg2 HNOW2 hKc2
      have hsign : (T < 0 ∧ p.tmod (x.length : Int) = T ∧ IntKind.i64.wrap (T + (x.length : Int)) = (Kn : Int)) ∨ (p.tmod (x.length : Int) = (Kn : Int)) := by
        rcases Int.lt_or_le T 0 with h | h
        · exact Or.inl ⟨h, hT, by rw [hKc h]; exact IntWalk.i64_in _ (by omega)⟩
        · exact Or.inr (by rw [hT]; exact hKlt h)
      clear hT hKc hKlt hT1 hT2
      rcases hsign with ⟨hTn, hTm, hw⟩ | hTm
      all_goals
        go_upto_region 12 with fail
        go_region_held3 (fun w' => w'.cell? ⟨g1, Kn, none⟩ = some (.string ⟨a.toArray⟩) ∧ w'.cell? ⟨g2, J, none⟩ = some (.string ⟨b.toArray⟩))
          (first | exact ⟨HC1.out.1, HC2.out.1⟩ | exact ⟨(hb1.out.cell (p := ⟨g1, Kn, none⟩) HG1.out).trans HC1.out.1, (hb1.out.cell (p := ⟨g2, J, none⟩) HG2.out).trans HC2.out.1⟩)
          ((go_at_call 18; refine (D.out _).mono ?_; rintro e w6 ⟨rfl, hb0⟩; have hb1 := Lib.hid hb0; clear hb0))
        have hb2 : Hid (Below wr.heap.size wr w6) := (Below.drewN (Below.refl _ wr) 1).trans hb1.out
        have st6 := Sts.up (w' := w6) HST.out hb2.out
        have sn6 := Sts.up (w' := w6) HST2.out hb2.out
        have HB6 : Hid (Below wg2.heap.size wg2 w6) := Below.step HB.out hb2.out
        have hc1 := (hb1.out.cell (p := ⟨g1, Kn, none⟩) HG1.out).trans HC1.out.1
        have hf1 := (hb1.out.frozen (p := ⟨g1, Kn, none⟩) HG1.out).trans HC1.out.2
        have hc2 := (hb1.out.cell (p := ⟨g2, J, none⟩) HG2.out).trans HC2.out.1
        have st7 := Lib.hid (HSET.out w6 st6)
        have hgn : g2 ≠ g1 := by have := HNE.out; omega
        have sn7 := Lib.hid (sn6.other g1 Kn (.string ⟨b.toArray⟩) hgn)
        have HB7 := Lib.hid (HB6.out.setCell (p := ⟨g1, Kn, none⟩) HGW.out (.string ⟨b.toArray⟩))
        clear st6 sn6 hgn hcp
        go_wp2
        go_roundw
        case rel => exact ⟨k + 1, cur2, by omega, by go_num, rfl, HSL.out, H64'.out, st7.out, Or.inr ⟨g2, rfl, HNE.out, sn7.out⟩, HB7.out⟩
        case measure => simp [intOf] <;> omega
    · have HCL := Lib.hid hcl
      have hend : (P.length : Int) ≤ (k : Int) ∨ ((k : Int) < (P.length : Int) ∧ ¬ (0 : Int) < (nw.length : Int)) := by omega
      have HS := Lib.hid (fun h => S.out cur HC64.out h)
      have hcl20 : cur.length ≤ 20 := by omega
      rw [← hcl]
      clear hcl hgo
      rcases hend with h1 | ⟨h1, h2⟩
      all_goals
        go_wp2_with fail
        refine (HS.out hcl20 _ _ _ HST.out.at).mono ?_
        rintro e w6 ⟨rfl, hb⟩
        have HB6 := Lib.hid (Below.step HB.out hb)
        clear hb
        go_wp2_with fail
        refine (K.out _).mono ?_
        rintro e w7 ⟨rfl, hb⟩
        have HB7 := Lib.hid (Below.step HB6.out hb)
        clear hb
        go_wp2
        go_ret
        exact ⟨rfl, HB7.out⟩
theorem deltas_great (A : Option Addr) (c : Nat) (L : List (List UInt8)) (AP : Option Addr) (cP : Nat) (n : Nat) (A2 : Option Addr) (c2 : Nat) (L2 : List (List UInt8))
    (hL : L.length ≤ maxLen) (hs : ∀ s ∈ L, s.length ≤ maxLen) (hL2 : L2.length ≤ maxLen) (hs2 : ∀ s ∈ L2, s.length ≤ maxLen) (hn : n ≤ maxLen) (w : World) (hA : StrsAt w w.heap.size A L) (hA2 : StrsAt w w.heap.size A2 L2)
    (hg : grV L = true ∨ (grV L = false ∧ grV L2 = true) ∨ (grV L = false ∧ grV L2 = false ∧ 60 < n) ∨ (grV L = false ∧ grV L2 = false ∧ ¬ 60 < n ∧ L.length = 0)) :
    Calls Try.prog 7 #[.slice A L.length c, .slice AP n cP, .slice A2 L2.length c2] w fun e w' => e = .returned (.bool true) ∧ Below w.heap.size w w' := by
  have G := Lib.hid (great_any A c L hL hs w hA)
  have G2 := Lib.hid (great_any A2 c2 L2 hL2 hs2 w hA2)
  have K := Lib.hid wakes_any
  have hnm : n ≤ 9223372036854775807 := hn
  have hLm : L.length ≤ 9223372036854775807 := hL
  clear hL hs hL2 hs2 hA hA2 hn
  rcases hg with hg | ⟨hg, hg2⟩ | ⟨hg, hg2, hn⟩ | ⟨hg, hg2, hn, hl⟩
  · rw [hg] at G
    clear hg
    go_enter Try.func7, Try.ntmps7
    go_wp2_with fail
    refine G.out.mono ?_
    rintro e wg ⟨rfl, hw⟩
    subst hw
    go_wp2_with fail
    refine (K.out _).mono ?_
    rintro e w2 ⟨rfl, hb⟩
    have HB := Lib.hid hb
    clear hb
    go_wp2
    go_ret
    exact ⟨rfl, HB.out⟩
  · rw [hg] at G
    rw [hg2] at G2
    clear hg hg2
    go_enter Try.func7, Try.ntmps7
    go_wp2_with fail
    refine G.out.mono ?_
    rintro e wg ⟨rfl, hw⟩
    subst hw
    go_wp2_with fail
    refine G2.out.mono ?_
    rintro e wg2 ⟨rfl, hw⟩
    subst hw
    go_wp2_with fail
    refine (K.out _).mono ?_
    rintro e w2 ⟨rfl, hb⟩
    have HB := Lib.hid hb
    clear hb
    go_wp2
    go_ret
    exact ⟨rfl, HB.out⟩
  · rw [hg] at G
    rw [hg2] at G2
    have hni : (60 : Int) < (n : Int) := by omega
    clear hg hg2 hn
    go_enter Try.func7, Try.ntmps7
    go_wp2_with fail
    refine G.out.mono ?_
    rintro e wg ⟨rfl, hw⟩
    subst hw
    go_wp2_with fail
    refine G2.out.mono ?_
    rintro e wg2 ⟨rfl, hw⟩
    subst hw
    go_wp2_with fail
    refine (K.out _).mono ?_
    rintro e w2 ⟨rfl, hb⟩
    have HB := Lib.hid hb
    clear hb
    go_wp2
    go_ret
    exact ⟨rfl, HB.out⟩
  · rw [hg] at G
    rw [hg2] at G2
    have hni : ¬ (60 : Int) < (n : Int) := by omega
    have hl2 : ((L.length : Int) == 0) = true := by rw [hl]; rfl
    clear hg hg2 hn hLm
    generalize L.length = m at G hl2 hl ⊢
    subst hl
    go_enter Try.func7, Try.ntmps7
    go_wp2_with fail
    refine G.out.mono ?_
    rintro e wg ⟨rfl, hw⟩
    subst hw
    go_wp2_with fail
    refine G2.out.mono ?_
    rintro e wg2 ⟨rfl, hw⟩
    subst hw
    go_wp2_with fail
    refine (K.out _).mono ?_
    rintro e w2 ⟨rfl, hb⟩
    have HB := Lib.hid hb
    clear hb
    go_wp2
    go_ret
    exact ⟨rfl, HB.out⟩
end Go.Proofs.Ytlocjjaipahhoaa
