/- slices.Delete of one entry of at most eight. No condition but that it fits a memory. -/
import Derived.Test.YtpnhopgfoakgnaaAcD
namespace Go.Proofs.Ytpnhopgfoakgnaa
set_option linter.unusedVariables false
set_option linter.unusedSimpArgs false
set_option maxRecDepth 100000
open Go.RowKit Go.Proofs Go.Shelf
attribute [local go_sem ↓] ld_arp ld_mac ld_ip

theorem info_en : (Try.prog.info? 96).map (fun i => (i.zero, i.size, i.bytes)) = some (some (.agg (enC en0)), 11, 24) := by kernel_rfl
theorem zeros_en (n : Nat) (h : n ≤ 8) : (Builtin.zeroCells (enC en0) n).toList = flatE (List.replicate n en0) := by
  obtain rfl | rfl | rfl | rfl | rfl | rfl | rfl | rfl | rfl : n = 0 ∨ n = 1 ∨ n = 2 ∨ n = 3 ∨ n = 4 ∨ n = 5 ∨ n = 6 ∨ n = 7 ∨ n = 8 := by omega
  all_goals kernel_rfl
theorem flatE_one (L : List En) : ∀ u ∈ flatE L, u.oneCell' = true := fun u hu => by
  obtain ⟨x, _, hx⟩ := List.mem_flatMap.1 hu
  exact enE_one x u hx
theorem run_clear_en (w : World) (ty : TypeId) (b o n c : Nat) (hn : 0 < n) (h8 : n ≤ 8) (ht : w.there b o (n * 11)) :
    (Builtin.clear_ #[60] ty #[.slice (some ⟨b, o, none⟩) n c]).run Try.prog w = .ok (.tuple #[]) (w.setCells b o (flatE (List.replicate n en0))) := by
  have hlen : (flatE (List.replicate n en0)).length = n * 11 := by rw [flatE_len, List.length_replicate]
  have hst := run_storeCells_cells (P := Try.prog) b o (flatE (List.replicate n en0)) 0 w (fun j hj => by rw [Nat.add_zero]; exact (ht j (by omega)).1) (fun j hj => by rw [Nat.add_zero]; exact (ht j (by omega)).2) (flatE_one _)
  simp only [Nat.add_zero] at hst
  have hz : ∀ w, (zeroValue 96).run Try.prog w = .ok (.agg (enC en0)) w := Try.zeroValue96
  have hzc := zeros_en n h8
  obtain ⟨m, rfl⟩ : ∃ m, n = m + 1 := ⟨n - 1, by omega⟩
  simp [Builtin.clear_, run_underlying Try.underlying60, hz, Value.cells, hzc, hst]

theorem erase_en {L : List En} {i n1 : Nat} (hi : i < L.length) (hn : L.length = n1 + 1) : L.take i ++ L.drop (i + 1) = L.eraseIdx i := (List.eraseIdx_eq_take_drop_succ ..).symm
set_option maxHeartbeats 4000000 in
theorem delete_any (cb : Nat) {w : World} {B g cap n1 : Nat} {L : List En} (h : w.ownsRow B 96 11 (.slice (some ⟨g, 0, none⟩) L.length cap) L.length (flatE L)) (i : Nat) (hi : i < L.length) (hL : L.length ≤ 8) (hn : L.length = n1 + 1) (hcap : L.length ≤ cap) (hcm : cap ≤ maxLen) :
    Calls Try.prog 48 #[.slice (some ⟨g, 0, none⟩) (n1 + 1) cap, .int .i64 i, .int .i64 ((i : Int) + 1)] w fun e w' => e = .returned (.slice (some ⟨g, 0, none⟩) n1 cap) ∧ w'.ownsRow B 96 11 (.slice (some ⟨g, 0, none⟩) n1 cap) n1 (flatE (L.eraseIdx i)) ∧ Ap cb (some g) w w' := by
  obtain ⟨news, hnews⟩ : ∃ news, news = flatE (L.drop (i + 1)) := ⟨_, rfl⟩
  have hlen : news.length = (n1 - i) * 11 := by rw [hnews, flatE_len, List.length_drop]; congr 1; omega
  -- the world behind the append
  have hd : w.drew.ownsRow B 96 11 (.slice (some ⟨g, 0, none⟩) L.length cap) L.length (flatE L) := h.drew
  have h1 := own_storedK news (i * 11) w.drew _ hd (by rw [hlen, flatE_len]; omega)
  have e1 : (flatE L).take (i * 11) ++ news ++ (flatE L).drop (i * 11 + news.length) = flatE (L.eraseIdx i ++ L.drop n1) := by
    rw [hlen, show i * 11 + (n1 - i) * 11 = n1 * 11 by omega, flatE_take, flatE_drop, hnews, ← flatE_app, ← flatE_app, erase_en hi hn]
  rw [e1] at h1
  have hel : (L.eraseIdx i).length = n1 := by rw [List.length_eraseIdx, if_pos hi, hn]; omega
  have hW : Hid (∀ W, W = w.drew.setCells g (i * 11) news → W.ownsRow B 96 11 (.slice (some ⟨g, 0, none⟩) (n1 + 1) cap) (n1 + 1) (flatE (L.eraseIdx i ++ L.drop n1)) ∧ Ap cb (some g) w W) := Lib.hid (fun W e => by
    rw [e]
    refine ⟨by rw [hn] at h1; exact h1, ?_⟩
    have h2 : Ap cb (some g) w w.drew := Ap.of_below (Below.drewN (Below.refl _ w) 1)
    exact h2.trans (Ap.cells news) (fun q hq => Or.inl hq))
  have s1 : Hid (news.length = (n1 - i) * 11) := Lib.hid hlen
  have s2 : Hid (∀ u ∈ news, u.oneCell' = true) := Lib.hid (by rw [hnews]; exact flatE_one _)
  have s3 : Hid (∀ t, t < news.length → (w.drew.cell? ⟨g, 0 + i * 11 + t, none⟩).isSome = true ∧ w.drew.frozen? ⟨g, 0 + i * 11 + t, none⟩ = false) := Lib.hid (fun t ht => by
    rw [hlen] at ht
    rw [Nat.zero_add]
    refine ⟨?_, hd.frozenAt _⟩
    rw [hd.cellAt (i * 11 + t) (by omega), List.getElem?_eq_getElem (by rw [flatE_len]; omega)]
    rfl)
  obtain ⟨A, hA, hsrc⟩ : ∃ A : Addr, (if cap = i + 1 then (⟨g, 0, none⟩ : Addr) else ⟨g, (i + 1) * 11, none⟩) = A ∧ Hid (∀ t u, news[t]? = some u → w.drew.cell? (A.add t) = some u) := by
    by_cases hc : cap = i + 1
    · refine ⟨⟨g, 0, none⟩, by rw [if_pos hc], Lib.hid (fun t u hu => ?_)⟩
      have h0 : news.length = 0 := by rw [hlen]; omega
      rw [List.length_eq_zero_iff.1 h0] at hu
      simp at hu
    · refine ⟨⟨g, (i + 1) * 11, none⟩, by rw [if_neg hc], Lib.hid (fun t u hu => ?_)⟩
      have ht : t < (n1 - i) * 11 := by
        have := (List.getElem?_eq_some_iff.1 hu).1
        rwa [hlen] at this
      rw [hnews, ← flatE_drop, List.getElem?_drop] at hu
      rw [Addr.add_lit, hd.cellAt _ (by omega)]
      exact hu
  obtain ⟨i0, hi0, hz0, hz1, hz2⟩ := info_parts info_en
  have HI : Hid (Try.prog.info? 96 = some i0) := Lib.hid hi0
  have HZ1 : Hid (i0.size = 11) := Lib.hid hz1
  have HSH : Hid (∀ W : World, W.ownsRow B 96 11 (.slice (some ⟨g, 0, none⟩) (n1 + 1) cap) (n1 + 1) (flatE (L.eraseIdx i ++ L.drop n1)) → ∀ ty, (Builtin.clear_ #[60] ty #[.slice (some ⟨g, n1 * 11, none⟩) 1 (cap - n1)]).run Try.prog W = .ok (.tuple #[]) (W.setCells g (n1 * 11) (flatE [en0]))) := Lib.hid (fun W hW ty => run_clear_en W ty g (n1 * 11) 1 (cap - n1) (by decide) (by decide) (own_there hW n1 (by omega)))
  have HFIN : Hid (∀ W : World, W.ownsRow B 96 11 (.slice (some ⟨g, 0, none⟩) (n1 + 1) cap) (n1 + 1) (flatE (L.eraseIdx i ++ L.drop n1)) → (W.setCells g (n1 * 11) (flatE [en0])).ownsRow B 96 11 (.slice (some ⟨g, 0, none⟩) n1 cap) n1 (flatE (L.eraseIdx i))) := Lib.hid (fun W hW => by
    have hxl : (flatE (L.eraseIdx i ++ L.drop n1)).length = (n1 + 1) * 11 := by rw [flatE_len, List.length_append, hel, List.length_drop, hn]; omega
    have h2 := own_storedK (flatE [en0]) (n1 * 11) W _ hW (by rw [hxl, flatE_len]; simp; omega)
    have h3 := own_shrink h2 n1 (by omega)
    rw [List.append_assoc, List.take_append_of_le_length (by rw [List.length_take, hxl]; omega), List.take_take, Nat.min_self, flatE_take, List.take_append_of_le_length (by omega), List.take_of_length_le (by omega)] at h3
    exact h3)
  have hne : ((i : Int) == (i : Int) + 1) = false := beq_eq_false_iff_ne.2 (by omega)
  have hne2 : ¬ (i : Int) = (i : Int) + 1 := by omega
  have hi1 : i ≤ n1 := by omega
  have hc1 : n1 + 1 ≤ cap := by omega
  have hcm2 : cap ≤ 9223372036854775807 := hcm
  have h8 : n1 ≤ 7 := by omega
  clear h hd h1 e1 hel hlen hnews hi0 hz0 hz1 hz2 hcm hcap hL hi
  clear hn
  go_enter Try.func48, Try.ntmps48
  go_upto_region 5 with fail
  go_cut [0] from 20 to 26 (fun v wx => v = .slice (some ⟨g, 0, none⟩) n1 cap ∧ wx.ownsRow B 96 11 (.slice (some ⟨g, 0, none⟩) (n1 + 1) cap) (n1 + 1) (flatE (L.eraseIdx i ++ L.drop n1)) ∧ Ap cb (some g) w wx)
  case first =>
    by_cases hce : cap = i + 1
    · have hA2 : (⟨g, 0, none⟩ : Addr) = A := by rw [← hA, if_pos hce]
      clear hA
      subst hA2
      obtain rfl : n1 = i := by omega
      subst hce
      have hle : (n1 : Int) ≤ (n1 : Int) + 1 := by omega
      have hle0 : 0 ≤ (n1 : Int) + 1 := by omega
      have hle2 : n1 ≤ n1 + 1 := by omega
      refine wp_region_noPanic ?_
      refine wp_region_held_drew (S := (fun w' => Below 0 w w')) (by kernel_rfl) (by first | exact Below.drewN (Below.refl _ w) 1) (fun hHeld => ?_)
      refine wpAnyH_take (i := 0) (oi := _) (v := ?vr1n0_1) rfl (by kernel_rfl) (by kernel_rfl) (by kernel_rfl) (fun _ _ _ h => h) (Or.inl ⟨by kernel_rfl, ?hr1n0_1⟩) hHeld ?_
      case hr1n0_1 => (intro w hSw; (try dsimp only at hSw); go_simp; try (with_reducible rfl))
      try simp only [List.getElem_toArray, List.getElem_cons_zero, List.getElem_cons_succ, Act.put, List.setIfInBounds_toArray, List.set_cons_zero, List.set_cons_succ]
      refine wpAnyH_take (i := 1) (oi := _) (v := ?vr1n1_2) rfl (by kernel_rfl) (by kernel_rfl) (by kernel_rfl) (fun _ _ _ h => h) (Or.inl ⟨by kernel_rfl, ?hr1n1_2⟩) hHeld ?_
      case hr1n1_2 => (intro w hSw; (try dsimp only at hSw); go_simp; try (with_reducible rfl))
      try simp only [List.getElem_toArray, List.getElem_cons_zero, List.getElem_cons_succ, Act.put, List.setIfInBounds_toArray, List.set_cons_zero, List.set_cons_succ]
      refine wpAnyH_take (i := 2) (oi := _) (v := ?vr1n2_3) rfl (by kernel_rfl) (by kernel_rfl) (by kernel_rfl) (fun _ _ _ h => h) (Or.inl ⟨by kernel_rfl, ?hr1n2_3⟩) hHeld ?_
      case hr1n2_3 => (intro w hSw; (try dsimp only at hSw); go_simp; try (with_reducible rfl))
      try simp only [List.getElem_toArray, List.getElem_cons_zero, List.getElem_cons_succ, Act.put, List.setIfInBounds_toArray, List.set_cons_zero, List.set_cons_succ]
      refine wpAnyH_take (i := 3) (oi := _) (v := ?vr1n3_4) rfl (by kernel_rfl) (by kernel_rfl) (by kernel_rfl) (fun _ _ _ h => h) (Or.inl ⟨by kernel_rfl, ?hr1n3_4⟩) hHeld ?_
      case hr1n3_4 => (intro w hSw; (try dsimp only at hSw); go_simp; try (with_reducible rfl))
      try simp only [List.getElem_toArray, List.getElem_cons_zero, List.getElem_cons_succ, Act.put, List.setIfInBounds_toArray, List.set_cons_zero, List.set_cons_succ]
      refine wpAnyH_take (i := 4) (oi := _) (v := ?vr1n4_5) rfl (by kernel_rfl) (by kernel_rfl) (by kernel_rfl) (fun _ _ _ h => h) (Or.inl ⟨by kernel_rfl, ?hr1n4_5⟩) hHeld ?_
      case hr1n4_5 => (intro w hSw; (try dsimp only at hSw); go_simp; try (with_reducible rfl))
      try simp only [List.getElem_toArray, List.getElem_cons_zero, List.getElem_cons_succ, Act.put, List.setIfInBounds_toArray, List.set_cons_zero, List.set_cons_succ]
      refine wpAnyH_take (i := 5) (oi := _) (v := ?vr1n5_6) rfl (by kernel_rfl) (by kernel_rfl) (by kernel_rfl) (fun _ _ _ h => h) (Or.inl ⟨by kernel_rfl, ?hr1n5_6⟩) hHeld ?_
      case hr1n5_6 => (intro w hSw; (try dsimp only at hSw); go_simp; try (with_reducible rfl))
      try simp only [List.getElem_toArray, List.getElem_cons_zero, List.getElem_cons_succ, Act.put, List.setIfInBounds_toArray, List.set_cons_zero, List.set_cons_succ]
      refine wpAnyH_ready (rs := [6]) (by kernel_rfl) (by simp) ?_
      refine AllReadyH.cons (o := _) rfl (fun K hK => ?_) AllReadyH.nil
      (refine step_append_room rfl (.tmp 22) (.tmp 25) 60 rfl 96 i0 11 Try.underlying60 HI.out HZ1.out g 0 n1 (n1 + 1) rfl ⟨g, 0, none⟩ 0 0 news rfl (by first | exact s1.out | (rw [s1.out]; congr 1; omega)) hsrc.out s2.out (by omega) s3.out ?_)
      refine hK.out _ _ ?_ (fun hHeld1 => ?_)
      · (first | exact Below.setCells (Below.drewN (Below.refl _ w) 1) (Nat.zero_le _) _ _)
      clear hHeld hK K
      try simp only [List.getElem_toArray, List.getElem_cons_zero, List.getElem_cons_succ, Act.put, List.setIfInBounds_toArray, List.set_cons_zero, List.set_cons_succ]
      refine wpAnyH_take (i := 7) (oi := _) (v := ?vr1n7_7) rfl (by kernel_rfl) (by kernel_rfl) (by kernel_rfl) (fun _ _ _ h => h) (Or.inl ⟨by kernel_rfl, ?hr1n7_7⟩) hHeld1 ?_
      case hr1n7_7 => (intro w hSw; (try dsimp only at hSw); go_simp; try (with_reducible rfl))
      try simp only [List.getElem_toArray, List.getElem_cons_zero, List.getElem_cons_succ, Act.put, List.setIfInBounds_toArray, List.set_cons_zero, List.set_cons_succ]
      refine wpAnyH_done (by kernel_rfl) ?_ _
      refine NoPanic.normal ?_
      go_wp2_with fail
      go_meet
      exact ⟨by first | rfl | (congr 1; omega), hW.out _ (by rw [Nat.zero_add])⟩
    · have hA2 : (⟨g, (i + 1) * 11, none⟩ : Addr) = A := by rw [← hA, if_neg hce]
      clear hA
      subst hA2
      have hle : (i : Int) ≤ (cap : Int) := by omega
      have hle0 : 0 ≤ (i : Int) + 1 := by omega
      have hle2 : i ≤ cap := by omega
      have hle3 : (i : Int) + 1 ≤ (n1 : Int) + 1 := by omega
      have hle4 : i ≤ n1 := by omega
      refine wp_region_noPanic ?_
      refine wp_region_held_drew (S := (fun w' => Below 0 w w')) (by kernel_rfl) (by first | exact Below.drewN (Below.refl _ w) 1) (fun hHeld => ?_)
      refine wpAnyH_take (i := 0) (oi := _) (v := ?vr2n0_8) rfl (by kernel_rfl) (by kernel_rfl) (by kernel_rfl) (fun _ _ _ h => h) (Or.inl ⟨by kernel_rfl, ?hr2n0_8⟩) hHeld ?_
      case hr2n0_8 => (intro w hSw; (try dsimp only at hSw); go_simp; try (with_reducible rfl))
      try simp only [List.getElem_toArray, List.getElem_cons_zero, List.getElem_cons_succ, Act.put, List.setIfInBounds_toArray, List.set_cons_zero, List.set_cons_succ]
      refine wpAnyH_take (i := 1) (oi := _) (v := ?vr2n1_9) rfl (by kernel_rfl) (by kernel_rfl) (by kernel_rfl) (fun _ _ _ h => h) (Or.inl ⟨by kernel_rfl, ?hr2n1_9⟩) hHeld ?_
      case hr2n1_9 => (intro w hSw; (try dsimp only at hSw); go_simp; try (with_reducible rfl))
      try simp only [List.getElem_toArray, List.getElem_cons_zero, List.getElem_cons_succ, Act.put, List.setIfInBounds_toArray, List.set_cons_zero, List.set_cons_succ]
      refine wpAnyH_take (i := 2) (oi := _) (v := ?vr2n2_10) rfl (by kernel_rfl) (by kernel_rfl) (by kernel_rfl) (fun _ _ _ h => h) (Or.inl ⟨by kernel_rfl, ?hr2n2_10⟩) hHeld ?_
      case hr2n2_10 => (intro w hSw; (try dsimp only at hSw); go_simp; try (with_reducible rfl))
      try simp only [List.getElem_toArray, List.getElem_cons_zero, List.getElem_cons_succ, Act.put, List.setIfInBounds_toArray, List.set_cons_zero, List.set_cons_succ]
      refine wpAnyH_take (i := 3) (oi := _) (v := ?vr2n3_11) rfl (by kernel_rfl) (by kernel_rfl) (by kernel_rfl) (fun _ _ _ h => h) (Or.inl ⟨by kernel_rfl, ?hr2n3_11⟩) hHeld ?_
      case hr2n3_11 => (intro w hSw; (try dsimp only at hSw); go_simp; try (with_reducible rfl))
      try simp only [List.getElem_toArray, List.getElem_cons_zero, List.getElem_cons_succ, Act.put, List.setIfInBounds_toArray, List.set_cons_zero, List.set_cons_succ]
      refine wpAnyH_take (i := 4) (oi := _) (v := ?vr2n4_12) rfl (by kernel_rfl) (by kernel_rfl) (by kernel_rfl) (fun _ _ _ h => h) (Or.inl ⟨by kernel_rfl, ?hr2n4_12⟩) hHeld ?_
      case hr2n4_12 => (intro w hSw; (try dsimp only at hSw); go_simp; try (with_reducible rfl))
      try simp only [List.getElem_toArray, List.getElem_cons_zero, List.getElem_cons_succ, Act.put, List.setIfInBounds_toArray, List.set_cons_zero, List.set_cons_succ]
      refine wpAnyH_take (i := 5) (oi := _) (v := ?vr2n5_13) rfl (by kernel_rfl) (by kernel_rfl) (by kernel_rfl) (fun _ _ _ h => h) (Or.inl ⟨by kernel_rfl, ?hr2n5_13⟩) hHeld ?_
      case hr2n5_13 => (intro w hSw; (try dsimp only at hSw); go_simp; try (with_reducible rfl))
      try simp only [List.getElem_toArray, List.getElem_cons_zero, List.getElem_cons_succ, Act.put, List.setIfInBounds_toArray, List.set_cons_zero, List.set_cons_succ]
      refine wpAnyH_ready (rs := [6]) (by kernel_rfl) (by simp) ?_
      refine AllReadyH.cons (o := _) rfl (fun K hK => ?_) AllReadyH.nil
      (refine step_append_room rfl (.tmp 22) (.tmp 25) 60 rfl 96 i0 11 Try.underlying60 HI.out HZ1.out g 0 i cap rfl ⟨g, (i + 1) * 11, none⟩ (n1 - i) (cap - (i + 1)) news rfl (by first | exact s1.out | (rw [s1.out]; congr 1; omega)) hsrc.out s2.out (by omega) s3.out ?_)
      refine hK.out _ _ ?_ (fun hHeld1 => ?_)
      · (first | exact Below.setCells (Below.drewN (Below.refl _ w) 1) (Nat.zero_le _) _ _)
      clear hHeld hK K
      try simp only [List.getElem_toArray, List.getElem_cons_zero, List.getElem_cons_succ, Act.put, List.setIfInBounds_toArray, List.set_cons_zero, List.set_cons_succ]
      refine wpAnyH_take (i := 7) (oi := _) (v := ?vr2n7_14) rfl (by kernel_rfl) (by kernel_rfl) (by kernel_rfl) (fun _ _ _ h => h) (Or.inl ⟨by kernel_rfl, ?hr2n7_14⟩) hHeld1 ?_
      case hr2n7_14 => (intro w hSw; (try dsimp only at hSw); go_simp; try (with_reducible rfl))
      try simp only [List.getElem_toArray, List.getElem_cons_zero, List.getElem_cons_succ, Act.put, List.setIfInBounds_toArray, List.set_cons_zero, List.set_cons_succ]
      refine wpAnyH_done (by kernel_rfl) ?_ _
      refine NoPanic.normal ?_
      go_wp2_with fail
      go_meet
      exact ⟨by first | rfl | (congr 1; omega), hW.out _ (by rw [Nat.zero_add])⟩
  case rest =>
    obtain ⟨rfl, hown, hap⟩ := hcut
    have HF := Lib.hid (HFIN.out wc hown)
    have hcl := HSH.out wc hown
    have HAP : Hid (Ap cb (some g) w (wc.setCells g (n1 * 11) (flatE [en0]))) := Lib.hid (hap.trans (Ap.cells _) (fun q hq => Or.inl hq))
    have hcn : ¬ cap = n1 := by omega
    have hle : (n1 : Int) ≤ (n1 : Int) + 1 := by omega
    have hle2 : n1 + 1 - n1 = 1 := by omega
    have hle3 : n1 ≤ cap := by omega
    have hle4 : (n1 : Int) + 1 ≤ (cap : Int) := by omega
    clear hown hap HSH HFIN hA hsrc s1 s2 s3 hW
    go_wp2
    go_ret
    exact ⟨rfl, HF.out, HAP.out⟩
end Go.Proofs.Ytpnhopgfoakgnaa
