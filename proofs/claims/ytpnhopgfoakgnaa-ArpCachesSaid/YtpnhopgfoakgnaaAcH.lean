/- Tick of package arp's cache. Condition: good entries. -/
import Derived.Test.YtpnhopgfoakgnaaAcG
namespace Go.Proofs.Ytpnhopgfoakgnaa
set_option linter.unusedVariables false
set_option linter.unusedSimpArgs false
set_option maxRecDepth 100000
open Go.RowKit Go.Proofs Go.Shelf
attribute [local go_sem ↓] ld_arp ld_mac ld_ip ld_ent bld_en st_en

theorem flatE_age : ∀ (D : List En) (k : Nat) (hk : k < D.length), (flatE D).set (k * 11 + 10) (.int .i64 (D[k].age + 1)) = flatE (D.set k (older D[k]))
  | [], k, hk => by simp at hk
  | r :: l, 0, hk => by
    rw [show flatE (r :: l) = enE r ++ flatE l from rfl, List.set_append_left _ _ (by rw [enE_len]; omega)]
    rfl
  | r :: l, k + 1, hk => by
    rw [List.length_cons] at hk
    rw [show flatE (r :: l) = enE r ++ flatE l from rfl, List.set_append_right _ _ (by rw [enE_len]; omega), enE_len, show (k + 1) * 11 + 10 - 11 = k * 11 + 10 by omega]
    have ih := flatE_age l k (by omega)
    rw [show (r :: l)[k + 1] = l[k] from rfl, ih]
    rfl
/-- the first k are older -/
def incK (L : List En) (k : Nat) : List En := (L.take k).map older ++ L.drop k
theorem incK_len (L : List En) (k : Nat) : (incK L k).length = L.length := by
  unfold incK
  rw [List.length_append, List.length_map, List.length_take, List.length_drop]
  omega
theorem incK_zero (L : List En) : incK L 0 = L := by simp [incK]
theorem incK_all (L : List En) : incK L L.length = L.map older := by simp [incK]
theorem incK_get (L : List En) (k : Nat) (hk : k < L.length) : (incK L k)[k]'(by rw [incK_len]; exact hk) = L[k] := by
  have h : (incK L k)[k]? = some L[k] := by
    unfold incK
    rw [List.getElem?_append_right (by simp; omega), List.length_map, List.length_take, Nat.min_eq_left (by omega), Nat.sub_self, List.getElem?_drop, Nat.add_zero, List.getElem?_eq_getElem hk]
  rw [List.getElem?_eq_getElem (by rw [incK_len]; exact hk)] at h
  exact Option.some.inj h
theorem incK_set (L : List En) (k : Nat) (hk : k < L.length) : (incK L k).set k (older L[k]) = incK L (k + 1) := by
  unfold incK
  rw [List.set_append_right _ _ (by simp; omega), List.length_map, List.length_take, Nat.min_eq_left (by omega), Nat.sub_self, List.drop_eq_getElem_cons hk, List.set_cons_zero, List.take_add_one, List.getElem?_eq_getElem hk, List.map_append]
  simp
theorem delf_nil (fv : Value) (w : World) : Calls Try.prog 49 #[.slice none 0 0, fv] w fun e w' => e = .returned (.slice none 0 0) ∧ w' = w := by
  go_enter Try.func49, Try.ntmps49
  go_wp2_with fail
  refine (idx_nil fv w).mono ?_
  rintro e w' ⟨rfl, hw⟩
  subst hw
  go_wp2
  go_ret
  exact ⟨rfl, rfl⟩

set_option maxHeartbeats 8000000 in
theorem tick_any {w : World} {B cb : Nat} {lim : Int} {v : Value} {L : List En} (h : CaAt w B cb lim v L) (hl : 1 ≤ lim) (hl2 : lim ≤ 1048576) (hG : Good lim L) :
    Calls Try.prog 31 #[.pointer (some ⟨cb, 0, none⟩)] w fun e w' => e = .returned (.tuple #[]) ∧ ∃ v', CaAt w' B cb lim v' (tickV lim L) ∧ Ap cb v.ownBlock w w' ∧ v'.ownBlock = v.ownBlock := by
  have hL := hG.len
  have HG := Lib.hid hG
  have HLT := Lib.hid h.lt
  have hcb := h.blk.lt
  have hBcb := h.ge
  have HA1 := Lib.hid (h.alloc (.cells #[.pointer (some ⟨cb, 0, none⟩)] 59))
  have HP1 := Lib.hid (Blk.new w 59 #[.pointer (some ⟨cb, 0, none⟩)] 0 0 (Or.inl (Nat.le_refl _)))
  have HB1 := Lib.hid ((Below.refl _ w).alloc (Nat.le_refl _) (.cells #[.pointer (some ⟨cb, 0, none⟩)] 59))
  clear h hG
  go_enter Try.func31, Try.ntmps31
  go_upto_region 1 with fail
  generalize World.alloc _ _ = w1 at HA1 HB1 HP1 ⊢
  obtain ⟨pb, hpb⟩ : ∃ pb, pb = w.heap.size := ⟨_, rfl⟩
  rw [← hpb] at HP1 ⊢
  have HPB : Hid (w.heap.size ≤ pb) := Lib.hid (by omega)
  clear hpb
  have hcp := HP1.out.cell 0
  go_wp2_with fail
  refine (none_no HA1.out hl).mono ?_
  rintro e w' ⟨rfl, hw⟩
  rw [hw]
  clear hw hcp
  have HPC : Hid (pb ≠ cb) := Lib.hid (by have := HPB.out; omega)
  rcases (own_es HA1.out.own).2 with ⟨e1, e2⟩ | ⟨g, c, e2, hBg, hg, hc1, hc2, _⟩
  · subst e1
    subst e2
    have hcp := HP1.out.cell 0
    have c1 := HA1.out.blk.cell 1
    go_upto_region 3 with fail
    go_loopw [10] (fun i wr => i = .int .i64 0 ∧ wr = w1) (fun _ _ => 0)
    case atStart => exact ⟨rfl, rfl⟩
    case round =>
      obtain ⟨rfl, hw⟩ := hrel
      subst hw
      have HKC := Lib.hid HA1.out.blk.drew
      have HKP := Lib.hid HP1.out.drew
      have HNE := Lib.hid HA1.out.ne
      have HKP2 := Lib.hid (HP1.out.drew.set_other ⟨cb, 1, none⟩ (.slice none 0 0) HPC.out)
      clear hcp c1
      go_upto_region 7 with fail
      refine wp_region_noPanic ?_
      refine wp_region_held_drew (S := (fun w' => w'.cell? ⟨pb, 0, none⟩ = some (.pointer (some ⟨cb, 0, none⟩)))) (by kernel_rfl) (by first | exact HKP.out.cell 0) (fun hHeld => ?_)
      refine wpAnyH_take (i := 0) (oi := _) (v := ?vr1n0_1) rfl (by kernel_rfl) (by kernel_rfl) (by kernel_rfl) (fun _ _ _ h => h) (Or.inl ⟨by kernel_rfl, ?hr1n0_1⟩) hHeld ?_
      case hr1n0_1 => (intro w hSw; (try dsimp only at hSw); go_simp; try (with_reducible rfl))
      try simp only [List.getElem_toArray, List.getElem_cons_zero, List.getElem_cons_succ, Act.put, List.setIfInBounds_toArray, List.set_cons_zero, List.set_cons_succ]
      refine wpAnyH_take (i := 1) (oi := _) (v := ?vr1n1_2) rfl (by kernel_rfl) (by kernel_rfl) (by kernel_rfl) (fun _ _ _ h => h) (Or.inl ⟨by kernel_rfl, ?hr1n1_2⟩) hHeld ?_
      case hr1n1_2 => (intro w hSw; (try dsimp only at hSw); go_simp; try (with_reducible rfl))
      try simp only [List.getElem_toArray, List.getElem_cons_zero, List.getElem_cons_succ, Act.put, List.setIfInBounds_toArray, List.set_cons_zero, List.set_cons_succ]
      refine wpAnyH_take (i := 2) (oi := _) (v := ?vr1n2_3) rfl (by kernel_rfl) (by kernel_rfl) (by kernel_rfl) (fun _ _ _ h => h) (Or.inl ⟨by kernel_rfl, ?hr1n2_3⟩) hHeld ?_
      case hr1n2_3 => (intro w hSw; (try dsimp only at hSw); go_simp; try (with_reducible rfl))
      try simp only [List.getElem_toArray, List.getElem_cons_zero, List.getElem_cons_succ, Act.put, List.setIfInBounds_toArray, List.set_cons_zero, List.set_cons_succ]
      refine wpAnyH_take (i := 3) (oi := _) (v := ?vr1n3_4) rfl (by kernel_rfl) (by kernel_rfl) (by kernel_rfl) (fun _ _ _ h => h) (Or.inl ⟨by kernel_rfl, ?hr1n3_4⟩) hHeld ?_
      case hr1n3_4 => (intro w hSw; (try dsimp only at hSw); go_simp; try (with_reducible rfl))
      try simp only [List.getElem_toArray, List.getElem_cons_zero, List.getElem_cons_succ, Act.put, List.setIfInBounds_toArray, List.set_cons_zero, List.set_cons_succ]
      refine wpAnyH_take (i := 5) (oi := _) (v := ?vr1n5_5) rfl (by kernel_rfl) (by kernel_rfl) (by kernel_rfl) (fun _ _ _ h => h) (Or.inl ⟨by kernel_rfl, ?hr1n5_5⟩) hHeld ?_
      case hr1n5_5 => (intro w hSw; (try dsimp only at hSw); go_simp; try (with_reducible rfl))
      try simp only [List.getElem_toArray, List.getElem_cons_zero, List.getElem_cons_succ, Act.put, List.setIfInBounds_toArray, List.set_cons_zero, List.set_cons_succ]
      refine wpAnyH_ready (rs := [4]) (by kernel_rfl) (by simp) ?_
      refine AllReadyH.cons (o := _) rfl (fun K hK => ?_) AllReadyH.nil
      (have c1 := HKC.out.cell 1)
      go_simp
      (clear c1)
      refine hK.out _ _ ?_ (fun hHeld1 => ?_)
      · (first | exact HKP.out.cell 0)
      clear hHeld hK K
      try simp only [List.getElem_toArray, List.getElem_cons_zero, List.getElem_cons_succ, Act.put, List.setIfInBounds_toArray, List.set_cons_zero, List.set_cons_succ]
      refine wpAnyH_ready (rs := [6]) (by kernel_rfl) (by simp) ?_
      refine AllReadyH.cons (o := _) rfl (fun K hK => ?_) AllReadyH.nil
      go_simp
      (go_at_call 49; refine (delf_nil _ _).mono ?_; rintro e w6 ⟨rfl, hw6⟩; rw [hw6]; clear hw6)
      refine hK.out _ _ ?_ (fun hHeld2 => ?_)
      · (first | exact HKP.out.cell 0)
      clear hHeld1 hK K
      try simp only [List.getElem_toArray, List.getElem_cons_zero, List.getElem_cons_succ, Act.put, List.setIfInBounds_toArray, List.set_cons_zero, List.set_cons_succ]
      refine wpAnyH_take (i := 7) (oi := _) (v := ?vr1n7_6) rfl (by kernel_rfl) (by kernel_rfl) (by kernel_rfl) (fun _ _ _ h => h) (Or.inl ⟨by kernel_rfl, ?hr1n7_6⟩) hHeld2 ?_
      case hr1n7_6 => (intro w hSw; (try dsimp only at hSw); go_simp; try (with_reducible rfl))
      try simp only [List.getElem_toArray, List.getElem_cons_zero, List.getElem_cons_succ, Act.put, List.setIfInBounds_toArray, List.set_cons_zero, List.set_cons_succ]
      refine wpAnyH_take (i := 8) (oi := _) (v := ?vr1n8_7) rfl (by kernel_rfl) (by kernel_rfl) (by kernel_rfl) (fun _ _ _ h => h) (Or.inl ⟨by kernel_rfl, ?hr1n8_7⟩) hHeld2 ?_
      case hr1n8_7 => (intro w hSw; (try dsimp only at hSw); go_simp; try (with_reducible rfl))
      try simp only [List.getElem_toArray, List.getElem_cons_zero, List.getElem_cons_succ, Act.put, List.setIfInBounds_toArray, List.set_cons_zero, List.set_cons_succ]
      refine wpAnyH_ready (rs := [9]) (by kernel_rfl) (by simp) ?_
      refine AllReadyH.cons (o := _) rfl (fun K hK => ?_) AllReadyH.nil
      (have c1 := HKC.out.cell 1; have f1 := HKC.out.free 1 (show 1 < 2 from by decide))
      go_simp
      (clear c1 f1)
      refine hK.out _ _ ?_ (fun hHeld3 => ?_)
      · (first | exact HKP2.out.cell 0)
      clear hHeld2 hK K
      try simp only [List.getElem_toArray, List.getElem_cons_zero, List.getElem_cons_succ, Act.put, List.setIfInBounds_toArray, List.set_cons_zero, List.set_cons_succ]
      refine wpAnyH_done (by kernel_rfl) ?_ _
      refine NoPanic.normal ?_
      go_wp2_with fail
      exact bodyPost_end (results_none Try.results31 _ _ _) rfl ⟨rfl, .slice none 0 0, CaAt.put (n := 0) HKC.out hBcb rfl HA1.out.own.drew HNE.out, ((Ap.of_below (o := none) HB1.out).trans (Ap.of_below (o := none) (Below.drewN (Below.refl _ _) 1)) (fun q hq => by cases hq)).trans (Ap.field (o := none) _) (fun q hq => by cases hq), rfl⟩
  · subst e2
    have hgl := (HLT.out g rfl).2
    have hpg : pb ≠ g := by have := HPB.out; omega
    have hcg : cb ≠ g := fun e => hgl.2 e.symm
    have HNN := Lib.hid (And.intro hcg hpg)
    have hw1 : w.heap.size ≤ w1.heap.size := HB1.out.size
    clear hcg hpg
    have hcp := HP1.out.cell 0
    have c1 := HA1.out.blk.cell 1
    go_upto_region 3 with fail
    clear hcp c1
    go_loopw [10] (fun i wr => ∃ k : Nat, k ≤ L.length ∧ i = .int .i64 k ∧ wr.ownsRow B 96 11 (.slice (some ⟨g, 0, none⟩) L.length c) L.length (flatE (incK L k)) ∧ Ap g (some g) w1 wr) (fun i _ => 8 - (intOf i).toNat)
    case atStart => exact ⟨0, by omega, rfl, by rw [incK_zero]; exact HA1.out.own, Ap.of_below (Below.refl _ _)⟩
    case round =>
      obtain ⟨k, hk, rfl, hown, hap⟩ := hrel
      have HO2 := Lib.hid hown
      have HA2 := Lib.hid hap
      have HKC := Lib.hid (HA1.out.blk.of_heap (hap.block cb HA1.out.blk.lt HNN.out.1 (fun e => HNN.out.1 (Option.some.inj e))))
      have HKP := Lib.hid (HP1.out.of_heap (hap.block pb HP1.out.lt HNN.out.2 (fun e => HNN.out.2 (Option.some.inj e))))
      clear hown hap
      by_cases hlt : k < L.length
      · have hlt' : (k : Int) < (L.length : Int) := by omega
        have hk0 : 0 ≤ (k : Int) := by omega
        have hil : k < (incK L k).length := by rw [incK_len]; exact hlt
        have hxl : (flatE (incK L k)).length = L.length * 11 := HO2.out.1
        have hag : wr.cell? ⟨g, k * 11 + 10, none⟩ = some (.int .i64 L[k].age) := by
          rw [HO2.out.cellAt _ (by omega), flatE_get (incK L k) k 10 hil (by decide), incK_get L k hlt]
          rfl
        have hfg := HO2.out.frozenAt (k * 11 + 10)
        have hst := (HO2.out.stored (k * 11 + 10) (.int .i64 (L[k].age + 1))).1
        have HE : Hid ((flatE (incK L k)).set (k * 11 + 10) (.int .i64 (L[k].age + 1)) = flatE (incK L (k + 1))) := Lib.hid (by
          have h1 := flatE_age (incK L k) k hil
          rw [incK_get L k hlt, incK_set L k hlt] at h1
          exact h1)
        rw [HE.out] at hst
        have HO3 := Lib.hid hst
        have HA3 : Hid (Ap g (some g) w1 (wr.setCell ⟨g, k * 11 + 10, none⟩ (.int .i64 (L[k].age + 1)))) := Lib.hid (HA2.out.trans (Ap.field (o := some g) _) (fun q hq => Or.inl hq))
        have hpr := HG.out.age _ (List.getElem_mem hlt)
        have hwa : IntKind.i64.wrap (L[k].age + 1) = L[k].age + 1 := IntWalk.i64_in _ ⟨by omega, by omega⟩
        have hcp := HKP.out.cell 0
        have c1 := HKC.out.cell 1
        clear hst HE hil hxl HO2 HA2
        generalize L[k].age = a at hag HO3 HA3 hpr hwa
        go_wp2
        go_roundw
        case rel => exact ⟨k + 1, by omega, by go_num, HO3.out, HA3.out⟩
        case measure => simp [intOf] <;> omega
      · have hkn : k = L.length := by omega
        have hlt' : ¬ (k : Int) < (L.length : Int) := by omega
        have HI : Hid (incK L k = L.map older) := Lib.hid (by rw [hkn]; exact incK_all L)
        rw [HI.out] at HO2
        clear hkn HI
        have HTV : Hid (tickV lim L = (L.map older).filter (tk lim)) := Lib.hid rfl
        have hml : (L.map older).length = L.length := List.length_map ..
        have HO2' := HO2
        rw [← hml] at HO2'
        have DEL := Lib.hid (delf_any (w := wr.drew) lim pb cb HO2'.out.drew (by rw [hml]; exact hL) (by rw [hml]; exact hc1) hc2 HKP.out.drew.lt HKC.out.drew.lt HNN.out.2 HNN.out.1 (HKP.out.drew.cell 0) (HKC.out.drew.cell 0))
        rw [hml] at DEL
        have HKCd := Lib.hid HKC.out.drew
        have HKPd := Lib.hid HKP.out.drew
        have HAd : Hid (Ap g (some g) w1 wr.drew) := Lib.hid (HA2.out.trans (Ap.of_below (o := some g) (Below.drewN (Below.refl _ wr) 1)) (fun q hq => Or.inl hq))
        clear HO2 HO2' hml HA2 HKC HKP
        generalize (L.map older).filter (tk lim) = KK at DEL HTV
        go_upto_region 7 with fail
        refine wp_region_noPanic ?_
        refine wp_region_held_drew (S := (fun w' => w'.cell? ⟨pb, 0, none⟩ = some (.pointer (some ⟨cb, 0, none⟩)))) (by kernel_rfl) (by first | exact HKPd.out.cell 0) (fun hHeld => ?_)
        refine wpAnyH_take (i := 0) (oi := _) (v := ?vr2n0_8) rfl (by kernel_rfl) (by kernel_rfl) (by kernel_rfl) (fun _ _ _ h => h) (Or.inl ⟨by kernel_rfl, ?hr2n0_8⟩) hHeld ?_
        case hr2n0_8 => (intro w hSw; (try dsimp only at hSw); go_simp; try (with_reducible rfl))
        try simp only [List.getElem_toArray, List.getElem_cons_zero, List.getElem_cons_succ, Act.put, List.setIfInBounds_toArray, List.set_cons_zero, List.set_cons_succ]
        refine wpAnyH_take (i := 1) (oi := _) (v := ?vr2n1_9) rfl (by kernel_rfl) (by kernel_rfl) (by kernel_rfl) (fun _ _ _ h => h) (Or.inl ⟨by kernel_rfl, ?hr2n1_9⟩) hHeld ?_
        case hr2n1_9 => (intro w hSw; (try dsimp only at hSw); go_simp; try (with_reducible rfl))
        try simp only [List.getElem_toArray, List.getElem_cons_zero, List.getElem_cons_succ, Act.put, List.setIfInBounds_toArray, List.set_cons_zero, List.set_cons_succ]
        refine wpAnyH_take (i := 2) (oi := _) (v := ?vr2n2_10) rfl (by kernel_rfl) (by kernel_rfl) (by kernel_rfl) (fun _ _ _ h => h) (Or.inl ⟨by kernel_rfl, ?hr2n2_10⟩) hHeld ?_
        case hr2n2_10 => (intro w hSw; (try dsimp only at hSw); go_simp; try (with_reducible rfl))
        try simp only [List.getElem_toArray, List.getElem_cons_zero, List.getElem_cons_succ, Act.put, List.setIfInBounds_toArray, List.set_cons_zero, List.set_cons_succ]
        refine wpAnyH_take (i := 3) (oi := _) (v := ?vr2n3_11) rfl (by kernel_rfl) (by kernel_rfl) (by kernel_rfl) (fun _ _ _ h => h) (Or.inl ⟨by kernel_rfl, ?hr2n3_11⟩) hHeld ?_
        case hr2n3_11 => (intro w hSw; (try dsimp only at hSw); go_simp; try (with_reducible rfl))
        try simp only [List.getElem_toArray, List.getElem_cons_zero, List.getElem_cons_succ, Act.put, List.setIfInBounds_toArray, List.set_cons_zero, List.set_cons_succ]
        refine wpAnyH_take (i := 5) (oi := _) (v := ?vr2n5_12) rfl (by kernel_rfl) (by kernel_rfl) (by kernel_rfl) (fun _ _ _ h => h) (Or.inl ⟨by kernel_rfl, ?hr2n5_12⟩) hHeld ?_
        case hr2n5_12 => (intro w hSw; (try dsimp only at hSw); go_simp; try (with_reducible rfl))
        try simp only [List.getElem_toArray, List.getElem_cons_zero, List.getElem_cons_succ, Act.put, List.setIfInBounds_toArray, List.set_cons_zero, List.set_cons_succ]
        refine wpAnyH_ready (rs := [4]) (by kernel_rfl) (by simp) ?_
        refine AllReadyH.cons (o := _) rfl (fun K hK => ?_) AllReadyH.nil
        (have c1 := HKCd.out.cell 1)
        go_simp
        (clear c1)
        refine hK.out _ _ ?_ (fun hHeld1 => ?_)
        · (first | exact HKPd.out.cell 0)
        clear hHeld hK K
        try simp only [List.getElem_toArray, List.getElem_cons_zero, List.getElem_cons_succ, Act.put, List.setIfInBounds_toArray, List.set_cons_zero, List.set_cons_succ]
        refine wpAnyH_ready (rs := [6]) (by kernel_rfl) (by simp) ?_
        refine AllReadyH.cons (o := _) rfl (fun K hK => ?_) AllReadyH.nil
        go_simp
        (go_at_call 49; refine DEL.out.mono ?_; rintro e w6 ⟨rfl, ho6, ha6⟩; have HO6 := Lib.hid ho6; have HKC6 := Lib.hid (HKCd.out.of_heap (ha6.block cb HKCd.out.lt HNN.out.1 (fun e => HNN.out.1 (Option.some.inj e)))); have HKP6 := Lib.hid (HKPd.out.of_heap (ha6.block pb HKPd.out.lt HNN.out.2 (fun e => HNN.out.2 (Option.some.inj e)))); have HA6 : Hid (Ap cb (some g) w w6) := Lib.hid ((Ap.of_below (o := some g) HB1.out).trans (Ap.weak (cb := cb) (HAd.out.trans ha6 (fun q hq => Or.inl hq))) (fun q hq => Or.inl hq)); clear ho6 ha6)
        refine hK.out _ _ ?_ (fun hHeld2 => ?_)
        · (first | exact HKP6.out.cell 0)
        clear hHeld1 hK K
        try simp only [List.getElem_toArray, List.getElem_cons_zero, List.getElem_cons_succ, Act.put, List.setIfInBounds_toArray, List.set_cons_zero, List.set_cons_succ]
        refine wpAnyH_take (i := 7) (oi := _) (v := ?vr2n7_13) rfl (by kernel_rfl) (by kernel_rfl) (by kernel_rfl) (fun _ _ _ h => h) (Or.inl ⟨by kernel_rfl, ?hr2n7_13⟩) hHeld2 ?_
        case hr2n7_13 => (intro w hSw; (try dsimp only at hSw); go_simp; try (with_reducible rfl))
        try simp only [List.getElem_toArray, List.getElem_cons_zero, List.getElem_cons_succ, Act.put, List.setIfInBounds_toArray, List.set_cons_zero, List.set_cons_succ]
        refine wpAnyH_take (i := 8) (oi := _) (v := ?vr2n8_14) rfl (by kernel_rfl) (by kernel_rfl) (by kernel_rfl) (fun _ _ _ h => h) (Or.inl ⟨by kernel_rfl, ?hr2n8_14⟩) hHeld2 ?_
        case hr2n8_14 => (intro w hSw; (try dsimp only at hSw); go_simp; try (with_reducible rfl))
        try simp only [List.getElem_toArray, List.getElem_cons_zero, List.getElem_cons_succ, Act.put, List.setIfInBounds_toArray, List.set_cons_zero, List.set_cons_succ]
        refine wpAnyH_ready (rs := [9]) (by kernel_rfl) (by simp) ?_
        refine AllReadyH.cons (o := _) rfl (fun K hK => ?_) AllReadyH.nil
        (have c1 := HKC6.out.cell 1; have f1 := HKC6.out.free 1 (show 1 < 2 from by decide); have HKP7 := Lib.hid (HKP6.out.set_other ⟨cb, 1, none⟩ (.slice (some ⟨g, 0, none⟩) KK.length c) HPC.out))
        go_simp
        (clear c1 f1)
        refine hK.out _ _ ?_ (fun hHeld3 => ?_)
        · (first | exact HKP7.out.cell 0)
        clear hHeld2 hK K
        try simp only [List.getElem_toArray, List.getElem_cons_zero, List.getElem_cons_succ, Act.put, List.setIfInBounds_toArray, List.set_cons_zero, List.set_cons_succ]
        refine wpAnyH_done (by kernel_rfl) ?_ _
        refine NoPanic.normal ?_
        go_wp2_with fail
        exact bodyPost_end (results_none Try.results31 _ _ _) rfl ⟨rfl, .slice (some ⟨g, 0, none⟩) KK.length c, by rw [HTV.out]; exact CaAt.put HKC6.out hBcb rfl HO6.out HA1.out.ne, HA6.out.trans (Ap.field (o := none) _) (fun q hq => by cases hq), rfl⟩
end Go.Proofs.Ytpnhopgfoakgnaa
