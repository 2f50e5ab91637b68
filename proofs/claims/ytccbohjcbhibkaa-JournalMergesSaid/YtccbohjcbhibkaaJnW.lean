/- The law's examples (wakes): true. No condition. -/
import Derived.Test.YtccbohjcbhibkaaJnM
import Derived.Deep.RegionLawGrows
namespace Go.Proofs.Ytccbohjcbhibkaa
set_option linter.unusedVariables false
set_option linter.unusedSimpArgs false
set_option maxRecDepth 100000
open Go.RowKit
attribute [local go_sem ↓] Go.wp_at_zero Go.wp_at_succ ix_dat ld_rec

theorem mk_cells {w : World} {g : Nat} (h : Blk w g 9 (madeCells #[Value.string ⟨#[]⟩] 6)) : ∀ b, (some ⟨g, 0, none⟩ : Option Addr) = some b → ∀ j u, (([[], [], [], [], [], []] : List (List UInt8)).map encStr)[j]? = some u → w.cell? (b.add j) = some u := by
  intro b hb j u hj
  obtain rfl := Option.some.inj hb
  rw [made_six] at h
  rw [addr_add, h.cell, Nat.zero_add, List.getElem?_toArray, hj]
theorem st_cells {w : World} {b o : Nat} {L : List (List UInt8)} (h : StrsAt w w.heap.size (some ⟨b, o, none⟩) L) : ∀ j u, (L.map encStr)[j]? = some u → w.cell? ((⟨b, o, none⟩ : Addr).add j) = some u := by
  intro j u hj
  rcases h with h | ⟨b', o', e, _, hc⟩
  · subst h; simp at hj
  · obtain ⟨rfl, rfl⟩ : b = b' ∧ o = o' := by
      have := Option.some.inj e
      injection this with h1 h2
      exact ⟨h1, h2⟩
    rw [List.getElem?_map] at hj
    obtain ⟨y, hy1, hy2⟩ := Option.map_eq_some_iff.1 hj
    obtain ⟨hjl, rfl⟩ := List.getElem?_eq_some_iff.1 hy1
    rw [addr_add, hc j hjl, ← hy2]
theorem st_some {w : World} {B : Nat} {A : Option Addr} {L : List (List UInt8)} (h : StrsAt w B A L) (hl : L.length = 6) : ∃ b o, A = some ⟨b, o, none⟩ := by
  rcases h with h | ⟨b, o, h, _⟩
  · rw [h] at hl; cases hl
  · exact ⟨b, o, h⟩
theorem grown_step {w0 w w' : World} (h : Below w0.heap.size w0 w) (hg : w.grownBy w' none) : Below w0.heap.size w0 w' :=
  ⟨hg.os.trans h.os, hg.tape.trans h.tape, hg.output.trans h.output, Nat.le_trans h.size hg.size, fun k hk => (hg.block k (Nat.lt_of_lt_of_le hk h.size) (by simp)).trans (h.block k hk)⟩
theorem holds_step {w w' : World} {g : Nat} {d : Array Rc} (h : Sort.HoldsK encR 7 w g 0 d) (hg : g < w.heap.size) (hb : Below w.heap.size w w') : Sort.HoldsK encR 7 w' g 0 d :=
  fun j hj => ⟨(hb.cell (p := ⟨g, 0 + j, none⟩) hg).trans (h j hj).1, (hb.frozen (p := ⟨g, 0 + j, none⟩) hg).trans (h j hj).2⟩
theorem RecAt.step {w w' : World} {B : Nat} {v : Value} {L : List Rc} (h : RecAt w B v L) (hb : Below w.heap.size w w') : RecAt w' B v L := by
  rcases h with h | ⟨g, cap, e1, e2, e3, e4, e5, e6⟩
  · exact Or.inl h
  · exact Or.inr ⟨g, cap, e1, e2, Nat.lt_of_lt_of_le e3 hb.size, e4, e5, holds_step e6 e3 hb⟩
theorem holds_ld {w : World} {g i : Nat} {L : List Rc} (h : Sort.HoldsK encR 7 w g 0 L.toArray) (hi : i < L.length) : (Ld 29 (.pointer (some ⟨g, i * 7, none⟩))).run Try.prog w = .ok (.agg (rcC L[i])) w := by
  have hr : w.rangeAt g (i * 7) (encR L[i]) := by
    intro j v hv
    have hj : j < 7 := by
      have h1 := (List.getElem?_eq_some_iff.1 hv).1
      have h2 : (encR L[i]).length = 7 := rfl
      omega
    have hs : i * 7 + j < (Sort.flatK encR 7 L.toArray).size := by
      rw [Sort.size_flatK, List.size_toArray]
      have : (i + 1) * 7 ≤ L.length * 7 := Nat.mul_le_mul_right 7 hi
      omega
    have hc := (h (i * 7 + j) hs).1
    rw [Nat.zero_add] at hc
    rw [hc]
    rw [Sort.size_flatK, List.size_toArray] at hs
    show some ((Sort.flatK encR 7 L.toArray)[i * 7 + j]!) = some v
    rw [Sort.get_flatK encR 7 L.toArray (i * 7 + j) (by rw [List.size_toArray]; exact hs)]
    have e1 : (i * 7 + j) / 7 = i := by omega
    have e2 : (i * 7 + j) % 7 = j := by omega
    have e3 : (L.toArray)[i]! = L[i] := by simp [hi]
    rw [e1, e2, e3]
    rw [List.getElem!_eq_getElem?_getD, hv]
    rfl
  unfold Ld
  have hl := run_loadVar_mid (P := Try.prog) w g (i * 7) 29 (encR L[i]) _ hr Try.underlying29 rfl (by rw [Array.length_toList, rcC_size]; exact size_rec)
  simp only [Array.toArray_toList] at hl
  simp only [Instr.loadAt, Instr.sureAddr, Sem.run_bind, Sem.run_pure, Result.andThen_ok, hl]

set_option maxHeartbeats 2000000 in
theorem wakes_any (w : World) : Calls Try.prog 12 #[] w fun e w' => e = .returned (.bool true) ∧ Below w.heap.size w w' := by
  have ON := Lib.hid (fun w => one_any w)
  have SX := Lib.hid (fun w => six_any 1 (oneX (full 9)) one_data w)
  have R2 := Lib.hid (fun A c w hA => by have h := read_any 1 2 A c W12 (by rw [W12_len]; decide) W12_max w hA; rw [read_2] at h; exact h)
  have R3 := Lib.hid (fun A c w hA => by have h := read_any 1 3 A c W12 (by rw [W12_len]; decide) W12_max w hA; rw [read_3] at h; exact h)
  have h6 := sixV_len 1 (oneX (full 9))
  have HW : Hid (W12 = [[], [], [], [], [], []] ++ sixV 1 (oneX (full 9))) := rfl
  generalize oneX (full 9) = one at ON SX R2 R3 h6 HW
  generalize sixV 1 one = L6 at SX h6 HW
  obtain ⟨i0, hi, hz0, hz1, hz2⟩ := info_parts str_info
  have hmk := fun w => run_make (P := Try.prog) w 41 9 i0 (.string ⟨#[]⟩) Try.underlying41 hi hz0 .i64 .i64 6 6 (by omega) (by omega) (by rw [hz2]; omega) (by omega)
  rw [hz1] at hmk
  have e64 : (6 : Int).toNat = 6 := rfl
  simp only [e64] at hmk
  clear e64
  have HB0 := Lib.hid (Below.refl w.heap.size w)
  go_enter Try.func12, Try.ntmps12
  go_upto_region 1 with fail
  go_cut [1] from 4 to 7 (fun v wx => ∃ n, wx.ownsRow w.heap.size 9 1 v n (W12.map encStr) ∧ Below w.heap.size w wx)
  case first =>
    refine wp_region_noPanic ?_
    refine wp_region_held_drew (S := (fun _ => True)) (by kernel_rfl) (by first | trivial) (fun hHeld => ?_)
    refine wpAnyH_ready (rs := [0, 1]) (by kernel_rfl) (by simp) ?_
    refine AllReadyH.cons (o := _) rfl (fun K hK => ?_) ?_
    · skip
      go_simp
      (skip; have HM1 := Lib.hid ((Blk.new w 9 (madeCells #[Value.string ⟨#[]⟩] 6) 0 0 (Or.inl (Nat.le_refl _))).drew); have HB1 := Lib.hid ((HB0.out.alloc HB0.out.size (.cells (madeCells #[Value.string ⟨#[]⟩] 6) 9)).drew); generalize World.drew (World.alloc _ _) = x1 at HM1 HB1 ⊢)
      refine hK.out _ _ ?_ (fun hHeld1 => ?_)
      · (first | trivial)
      clear hHeld hK K
      try simp only [List.getElem_toArray, List.getElem_cons_zero, List.getElem_cons_succ, Act.put, List.setIfInBounds_toArray, List.set_cons_zero, List.set_cons_succ]
      refine wpAnyH_ready (rs := [1]) (by kernel_rfl) (by simp) ?_
      refine AllReadyH.cons (o := _) rfl (fun K hK => ?_) AllReadyH.nil
      go_simp
      (go_at_call 27; refine (ON.out _).mono ?_; rintro e x2 ⟨rfl, hb⟩; have HM2 := Lib.hid (HM1.out.step hb); have HB2 := Lib.hid (Below.step HB1.out hb); clear hb)
      refine hK.out _ _ ?_ (fun hHeld2 => ?_)
      · (first | trivial)
      clear hHeld1 hK K
      try simp only [List.getElem_toArray, List.getElem_cons_zero, List.getElem_cons_succ, Act.put, List.setIfInBounds_toArray, List.set_cons_zero, List.set_cons_succ]
      refine wpAnyH_ready (rs := [2]) (by kernel_rfl) (by simp) ?_
      refine AllReadyH.cons (o := _) rfl (fun K hK => ?_) AllReadyH.nil
      go_simp
      (go_at_call 20; refine (SX.out _).mono ?_; rintro e x3 ⟨v6, rfl, hown, hb⟩; have HM3 := Lib.hid (HM2.out.step hb); have HB3 := Lib.hid (Below.step HB2.out hb); obtain ⟨A6, c6, rfl, hq1, hst, hq2, hq3, hq4⟩ := own_strs hown; obtain ⟨b6, o6, rfl⟩ := st_some hst h6; have HX3 := Lib.hid hst; clear hst hown hq1 hq2 hq3 hq4; (try rw [h6]); clear hb)
      refine hK.out _ _ ?_ (fun hHeld3 => ?_)
      · (first | trivial)
      clear hHeld2 hK K
      try simp only [List.getElem_toArray, List.getElem_cons_zero, List.getElem_cons_succ, Act.put, List.setIfInBounds_toArray, List.set_cons_zero, List.set_cons_succ]
      refine wpAnyH_ready (rs := [3]) (by kernel_rfl) (by simp) ?_
      refine AllReadyH.cons (o := _) rfl (fun K hK => ?_) AllReadyH.nil
      (refine step_append_grows rfl (.tmp 4) (.tmp 6) 41 rfl 9 i0 (.string ⟨#[]⟩) 1 16 Try.underlying41 hi hz0 hz1 hz2 rfl (by decide) (some ⟨w.heap.size, 0, none⟩) 6 6 (([[], [], [], [], [], []] : List (List UInt8)).map encStr) rfl (fun h => by cases h) rfl (fun b hb j u hj => mk_cells HM3.out b hb j u hj) ⟨b6, o6, none⟩ 6 c6 (L6.map encStr) rfl (by rw [List.length_map, h6]) (fun j u hj => st_cells HX3.out j u hj) (enc_one _) (by decide) (by decide) (by decide) ?_; intro v9 w9 hown hg; have HO9 := Lib.hid hown; have HB9 := Lib.hid (grown_step HB3.out hg); clear hown hg; (try go_simp))
      refine hK.out _ _ ?_ (fun hHeld4 => ?_)
      · (first | trivial)
      clear hHeld3 hK K
      try simp only [List.getElem_toArray, List.getElem_cons_zero, List.getElem_cons_succ, Act.put, List.setIfInBounds_toArray, List.set_cons_zero, List.set_cons_succ]
      refine wpAnyH_take (i := 4) (oi := _) (v := ?vr1n4_1) rfl (by kernel_rfl) (by kernel_rfl) (by kernel_rfl) (fun _ _ _ h => h) (Or.inl ⟨by kernel_rfl, ?hr1n4_1⟩) hHeld4 ?_
      case hr1n4_1 => (intro w hSw; (try dsimp only at hSw); rfl)
      try simp only [List.getElem_toArray, List.getElem_cons_zero, List.getElem_cons_succ, Act.put, List.setIfInBounds_toArray, List.set_cons_zero, List.set_cons_succ]
      refine wpAnyH_done (by kernel_rfl) ?_ _
      refine NoPanic.normal ?_
      go_wp2_with fail
      go_meet
      exact ⟨6 + 6, by rw [HW.out, List.map_append]; exact own_weak HO9.out HB3.out.size, HB9.out⟩
    refine AllReadyH.cons (o := _) rfl (fun K hK => ?_) AllReadyH.nil
    go_simp
    (go_at_call 27; refine (ON.out _).mono ?_; rintro e x5 ⟨rfl, hb⟩; have hb := (Below.drewN (Below.refl _ w) 1).trans hb; have HB5 := Lib.hid (Below.step HB0.out hb); clear hb)
    refine hK.out _ _ ?_ (fun hHeld5 => ?_)
    · (first | trivial)
    clear hHeld hK K
    try simp only [List.getElem_toArray, List.getElem_cons_zero, List.getElem_cons_succ, Act.put, List.setIfInBounds_toArray, List.set_cons_zero, List.set_cons_succ]
    refine wpAnyH_ready (rs := [0, 2]) (by kernel_rfl) (by simp) ?_
    refine AllReadyH.cons (o := _) rfl (fun K hK => ?_) ?_
    · skip
      go_simp
      (skip; have HM6 := Lib.hid (Blk.new x5 9 (madeCells #[Value.string ⟨#[]⟩] 6) 0 0 (Or.inl (Nat.le_refl _))); have HB6 := Lib.hid (HB5.out.alloc HB5.out.size (.cells (madeCells #[Value.string ⟨#[]⟩] 6) 9)); generalize World.alloc _ _ = x6 at HM6 HB6 ⊢)
      refine hK.out _ _ ?_ (fun hHeld6 => ?_)
      · (first | trivial)
      clear hHeld5 hK K
      try simp only [List.getElem_toArray, List.getElem_cons_zero, List.getElem_cons_succ, Act.put, List.setIfInBounds_toArray, List.set_cons_zero, List.set_cons_succ]
      refine wpAnyH_ready (rs := [2]) (by kernel_rfl) (by simp) ?_
      refine AllReadyH.cons (o := _) rfl (fun K hK => ?_) AllReadyH.nil
      go_simp
      (go_at_call 20; refine (SX.out _).mono ?_; rintro e x7 ⟨v6, rfl, hown, hb⟩; have HM7 := Lib.hid (HM6.out.step hb); have HB7 := Lib.hid (Below.step HB6.out hb); obtain ⟨A6, c6, rfl, hq1, hst, hq2, hq3, hq4⟩ := own_strs hown; obtain ⟨b6, o6, rfl⟩ := st_some hst h6; have HX7 := Lib.hid hst; clear hst hown hq1 hq2 hq3 hq4; (try rw [h6]); clear hb)
      refine hK.out _ _ ?_ (fun hHeld7 => ?_)
      · (first | trivial)
      clear hHeld6 hK K
      try simp only [List.getElem_toArray, List.getElem_cons_zero, List.getElem_cons_succ, Act.put, List.setIfInBounds_toArray, List.set_cons_zero, List.set_cons_succ]
      refine wpAnyH_ready (rs := [3]) (by kernel_rfl) (by simp) ?_
      refine AllReadyH.cons (o := _) rfl (fun K hK => ?_) AllReadyH.nil
      (refine step_append_grows rfl (.tmp 4) (.tmp 6) 41 rfl 9 i0 (.string ⟨#[]⟩) 1 16 Try.underlying41 hi hz0 hz1 hz2 rfl (by decide) (some ⟨x5.heap.size, 0, none⟩) 6 6 (([[], [], [], [], [], []] : List (List UInt8)).map encStr) rfl (fun h => by cases h) rfl (fun b hb j u hj => mk_cells HM7.out b hb j u hj) ⟨b6, o6, none⟩ 6 c6 (L6.map encStr) rfl (by rw [List.length_map, h6]) (fun j u hj => st_cells HX7.out j u hj) (enc_one _) (by decide) (by decide) (by decide) ?_; intro v9 w9 hown hg; have HO9 := Lib.hid hown; have HB9 := Lib.hid (grown_step HB7.out hg); clear hown hg; (try go_simp))
      refine hK.out _ _ ?_ (fun hHeld8 => ?_)
      · (first | trivial)
      clear hHeld7 hK K
      try simp only [List.getElem_toArray, List.getElem_cons_zero, List.getElem_cons_succ, Act.put, List.setIfInBounds_toArray, List.set_cons_zero, List.set_cons_succ]
      refine wpAnyH_take (i := 4) (oi := _) (v := ?vr1n4_2) rfl (by kernel_rfl) (by kernel_rfl) (by kernel_rfl) (fun _ _ _ h => h) (Or.inl ⟨by kernel_rfl, ?hr1n4_2⟩) hHeld8 ?_
      case hr1n4_2 => (intro w hSw; (try dsimp only at hSw); rfl)
      try simp only [List.getElem_toArray, List.getElem_cons_zero, List.getElem_cons_succ, Act.put, List.setIfInBounds_toArray, List.set_cons_zero, List.set_cons_succ]
      refine wpAnyH_done (by kernel_rfl) ?_ _
      refine NoPanic.normal ?_
      go_wp2_with fail
      go_meet
      exact ⟨6 + 6, by rw [HW.out, List.map_append]; exact own_weak HO9.out HB7.out.size, HB9.out⟩
    refine AllReadyH.cons (o := _) rfl (fun K hK => ?_) AllReadyH.nil
    go_simp
    (go_at_call 20; refine (SX.out _).mono ?_; rintro e x9 ⟨v6, rfl, hown, hb⟩; have HB9 := Lib.hid (Below.step HB5.out hb); obtain ⟨A6, c6, rfl, hq1, hst, hq2, hq3, hq4⟩ := own_strs hown; obtain ⟨b6, o6, rfl⟩ := st_some hst h6; have HX9 := Lib.hid hst; clear hst hown hq1 hq2 hq3 hq4; (try rw [h6]); clear hb)
    refine hK.out _ _ ?_ (fun hHeld9 => ?_)
    · (first | trivial)
    clear hHeld5 hK K
    try simp only [List.getElem_toArray, List.getElem_cons_zero, List.getElem_cons_succ, Act.put, List.setIfInBounds_toArray, List.set_cons_zero, List.set_cons_succ]
    refine wpAnyH_ready (rs := [0]) (by kernel_rfl) (by simp) ?_
    refine AllReadyH.cons (o := _) rfl (fun K hK => ?_) AllReadyH.nil
    go_simp
    (skip; have HM10 := Lib.hid (Blk.new x9 9 (madeCells #[Value.string ⟨#[]⟩] 6) 0 0 (Or.inl (Nat.le_refl _))); have HX10 := Lib.hid (HX9.out.up ((Below.refl _ x9).alloc (Nat.le_refl _) (.cells (madeCells #[Value.string ⟨#[]⟩] 6) 9))); have HB10 := Lib.hid (HB9.out.alloc HB9.out.size (.cells (madeCells #[Value.string ⟨#[]⟩] 6) 9)); generalize World.alloc _ _ = x10 at HM10 HB10 HX10 ⊢)
    refine hK.out _ _ ?_ (fun hHeld10 => ?_)
    · (first | trivial)
    clear hHeld9 hK K
    try simp only [List.getElem_toArray, List.getElem_cons_zero, List.getElem_cons_succ, Act.put, List.setIfInBounds_toArray, List.set_cons_zero, List.set_cons_succ]
    refine wpAnyH_ready (rs := [3]) (by kernel_rfl) (by simp) ?_
    refine AllReadyH.cons (o := _) rfl (fun K hK => ?_) AllReadyH.nil
    (refine step_append_grows rfl (.tmp 4) (.tmp 6) 41 rfl 9 i0 (.string ⟨#[]⟩) 1 16 Try.underlying41 hi hz0 hz1 hz2 rfl (by decide) (some ⟨x9.heap.size, 0, none⟩) 6 6 (([[], [], [], [], [], []] : List (List UInt8)).map encStr) rfl (fun h => by cases h) rfl (fun b hb j u hj => mk_cells HM10.out b hb j u hj) ⟨b6, o6, none⟩ 6 c6 (L6.map encStr) rfl (by rw [List.length_map, h6]) (fun j u hj => st_cells HX10.out j u hj) (enc_one _) (by decide) (by decide) (by decide) ?_; intro v9 w9 hown hg; have HO9 := Lib.hid hown; have HB9 := Lib.hid (grown_step HB10.out hg); clear hown hg; (try go_simp))
    refine hK.out _ _ ?_ (fun hHeld11 => ?_)
    · (first | trivial)
    clear hHeld10 hK K
    try simp only [List.getElem_toArray, List.getElem_cons_zero, List.getElem_cons_succ, Act.put, List.setIfInBounds_toArray, List.set_cons_zero, List.set_cons_succ]
    refine wpAnyH_take (i := 4) (oi := _) (v := ?vr1n4_3) rfl (by kernel_rfl) (by kernel_rfl) (by kernel_rfl) (fun _ _ _ h => h) (Or.inl ⟨by kernel_rfl, ?hr1n4_3⟩) hHeld11 ?_
    case hr1n4_3 => (intro w hSw; (try dsimp only at hSw); rfl)
    try simp only [List.getElem_toArray, List.getElem_cons_zero, List.getElem_cons_succ, Act.put, List.setIfInBounds_toArray, List.set_cons_zero, List.set_cons_succ]
    refine wpAnyH_done (by kernel_rfl) ?_ _
    refine NoPanic.normal ?_
    go_wp2_with fail
    go_meet
    exact ⟨6 + 6, by rw [HW.out, List.map_append]; exact own_weak HO9.out HB10.out.size, HB9.out⟩
  case rest =>
    obtain ⟨n, hown, hbel⟩ := hcut
    clear hmk hi hz0 hz1 hz2
    have hlen : W12.length = 12 := by rw [HW.out, List.length_append, h6]; rfl
    clear h6
    obtain ⟨A, c, rfl, hq1, hst, hq2, hq3, hq4⟩ := own_strs hown
    clear hq1 hq2 hq3 hq4
    rw [hlen]
    have HST := Lib.hid hst
    have HB1 := Lib.hid hbel
    have HR2 := Lib.hid (fun w hA => R2.out A c w hA)
    have HR3 := Lib.hid (fun w hA => R3.out A c w hA)
    rw [hlen] at HR2 HR3
    clear hown hst hbel HB0 R2 R3 HW hlen
    go_wp2_with fail
    refine (HR2.out _ HST.out).mono ?_
    rintro e w2 ⟨v2, rfl, hr2, hb⟩
    have HST2 := Lib.hid (HST.out.up hb)
    have HB2 := Lib.hid (Below.step HB1.out hb)
    have HX2 := Lib.hid hr2
    clear hb hr2 HST HB1
    go_wp2_with fail
    refine (HR3.out _ HST2.out).mono ?_
    rintro e w3 ⟨v3, rfl, hr3, hb⟩
    have HB3 := Lib.hid (Below.step HB2.out hb)
    have hx3 := HX2.out.step hb
    clear hb HB2 HST2 HX2
    obtain ⟨g, cap, rfl, hgB, hg, _, _, hH⟩ : ∃ g cap, v2 = .slice (some ⟨g, 0, none⟩) 1 cap ∧ w.heap.size ≤ w.heap.size ∧ g < w3.heap.size ∧ True ∧ True ∧ Sort.HoldsK encR 7 w3 g 0 [one].toArray := by
      rcases hx3 with ⟨h, _⟩ | ⟨g, cap, e1, e2, e3, e4, e5, e6⟩
      · cases h
      · exact ⟨g, cap, e1, Nat.le_refl _, e3, trivial, trivial, e6⟩
    obtain ⟨A3, c3, rfl⟩ : ∃ A c, v3 = .slice A 0 c := by
      rcases hr3 with ⟨_, h⟩ | ⟨g, cap, e1, _⟩
      · exact ⟨none, 0, h⟩
      · exact ⟨_, cap, e1⟩
    have HH := Lib.hid hH
    have HG := Lib.hid hg
    clear hH hg hgB hr3 hx3
    have hself : ∀ w, (binOp .eql 29 (.agg (rcC one)) (.agg (rcC one))).run Try.prog w = .ok (.bool true) w := fun w => by have h := run_rc_eql w one one; rw [rcEq_self] at h; exact h
    go_upto_region 4 with fail
    refine wp_region_noPanic ?_
    refine wp_region_held_drew (S := (fun w' => (Ld 29 (.pointer (some ⟨g, 0, none⟩))).run Try.prog w' = .ok (.agg (rcC one)) w')) (by kernel_rfl) (by first | exact holds_ld (i := 0) (L := [one]) (show Sort.HoldsK encR 7 w3.drew g 0 [one].toArray from HH.out) (by simp)) (fun hHeld => ?_)
    refine wpAnyH_take (i := 0) (oi := _) (v := ?vr2n0_4) rfl (by kernel_rfl) (by kernel_rfl) (by kernel_rfl) (fun _ _ _ h => h) (Or.inl ⟨by kernel_rfl, ?hr2n0_4⟩) hHeld ?_
    case hr2n0_4 => (intro w hSw; (try dsimp only at hSw); go_simp; try (with_reducible rfl))
    try simp only [List.getElem_toArray, List.getElem_cons_zero, List.getElem_cons_succ, Act.put, List.setIfInBounds_toArray, List.set_cons_zero, List.set_cons_succ]
    refine wpAnyH_take (i := 1) (oi := _) (v := ?vr2n1_5) rfl (by kernel_rfl) (by kernel_rfl) (by kernel_rfl) (fun _ _ _ h => h) (Or.inl ⟨by kernel_rfl, ?hr2n1_5⟩) hHeld ?_
    case hr2n1_5 => (intro w hSw; (try dsimp only at hSw); go_simp; try (with_reducible rfl))
    try simp only [List.getElem_toArray, List.getElem_cons_zero, List.getElem_cons_succ, Act.put, List.setIfInBounds_toArray, List.set_cons_zero, List.set_cons_succ]
    refine wpAnyH_take (i := 2) (oi := _) (v := ?vr2n2_6) rfl (by kernel_rfl) (by kernel_rfl) (by kernel_rfl) (fun _ _ _ h => h) (Or.inl ⟨by kernel_rfl, ?hr2n2_6⟩) hHeld ?_
    case hr2n2_6 => (intro w hSw; (try dsimp only at hSw); go_simp; try (with_reducible rfl))
    try simp only [List.getElem_toArray, List.getElem_cons_zero, List.getElem_cons_succ, Act.put, List.setIfInBounds_toArray, List.set_cons_zero, List.set_cons_succ]
    refine wpAnyH_take (i := 3) (oi := _) (v := ?vr2n3_7) rfl (by kernel_rfl) (by kernel_rfl) (by kernel_rfl) (fun _ _ _ h => h) (Or.inl ⟨by kernel_rfl, ?hr2n3_7⟩) hHeld ?_
    case hr2n3_7 => (intro w hSw; (try dsimp only at hSw); go_simp; try (with_reducible rfl))
    try simp only [List.getElem_toArray, List.getElem_cons_zero, List.getElem_cons_succ, Act.put, List.setIfInBounds_toArray, List.set_cons_zero, List.set_cons_succ]
    refine wpAnyH_take (i := 4) (oi := _) (v := ?vr2n4_8) rfl (by kernel_rfl) (by kernel_rfl) (by kernel_rfl) (fun _ _ _ h => h) (Or.inl ⟨by kernel_rfl, ?hr2n4_8⟩) hHeld ?_
    case hr2n4_8 => (intro w hSw; (try dsimp only at hSw); go_simp; try (with_reducible rfl))
    try simp only [List.getElem_toArray, List.getElem_cons_zero, List.getElem_cons_succ, Act.put, List.setIfInBounds_toArray, List.set_cons_zero, List.set_cons_succ]
    refine wpAnyH_take (i := 5) (oi := _) (v := ?vr2n5_9) rfl (by kernel_rfl) (by kernel_rfl) (by kernel_rfl) (fun _ _ _ h => h) (Or.inl ⟨by kernel_rfl, ?hr2n5_9⟩) hHeld ?_
    case hr2n5_9 => (intro w hSw; (try dsimp only at hSw); go_simp; try (with_reducible rfl))
    try simp only [List.getElem_toArray, List.getElem_cons_zero, List.getElem_cons_succ, Act.put, List.setIfInBounds_toArray, List.set_cons_zero, List.set_cons_succ]
    refine wpAnyH_take (i := 6) (oi := _) (v := ?vr2n6_10) rfl (by kernel_rfl) (by kernel_rfl) (by kernel_rfl) (fun _ _ _ h => h) (Or.inl ⟨by kernel_rfl, ?hr2n6_10⟩) hHeld ?_
    case hr2n6_10 => (intro w hSw; (try dsimp only at hSw); go_simp; try (with_reducible rfl))
    try simp only [List.getElem_toArray, List.getElem_cons_zero, List.getElem_cons_succ, Act.put, List.setIfInBounds_toArray, List.set_cons_zero, List.set_cons_succ]
    refine wpAnyH_ready (rs := [7]) (by kernel_rfl) (by simp) ?_
    refine AllReadyH.cons (o := _) rfl (fun K hK => ?_) AllReadyH.nil
    go_simp
    (go_at_call 27; refine (ON.out _).mono ?_; rintro e w4 ⟨rfl, hb0⟩; have hb := (Below.drewN (Below.refl _ w3) 1).trans hb0; have HH4 := Lib.hid (holds_step HH.out HG.out hb); have HB4 := Lib.hid (Below.step HB3.out hb); clear hb hb0)
    refine hK.out _ _ ?_ (fun hHeld1 => ?_)
    · (first | exact holds_ld (i := 0) (L := [one]) HH4.out (by simp))
    clear hHeld hK K
    try simp only [List.getElem_toArray, List.getElem_cons_zero, List.getElem_cons_succ, Act.put, List.setIfInBounds_toArray, List.set_cons_zero, List.set_cons_succ]
    refine wpAnyH_take (i := 8) (oi := _) (v := ?vr2n8_11) rfl (by kernel_rfl) (by kernel_rfl) (by kernel_rfl) (fun _ _ _ h => h) (Or.inl ⟨by kernel_rfl, ?hr2n8_11⟩) hHeld1 ?_
    case hr2n8_11 => (intro w hSw; (try dsimp only at hSw); go_simp; try (with_reducible rfl))
    try simp only [List.getElem_toArray, List.getElem_cons_zero, List.getElem_cons_succ, Act.put, List.setIfInBounds_toArray, List.set_cons_zero, List.set_cons_succ]
    refine wpAnyH_take (i := 9) (oi := _) (v := ?vr2n9_12) rfl (by kernel_rfl) (by kernel_rfl) (by kernel_rfl) (fun _ _ _ h => h) (Or.inl ⟨by kernel_rfl, ?hr2n9_12⟩) hHeld1 ?_
    case hr2n9_12 => (intro w hSw; (try dsimp only at hSw); go_simp; try (with_reducible rfl))
    try simp only [List.getElem_toArray, List.getElem_cons_zero, List.getElem_cons_succ, Act.put, List.setIfInBounds_toArray, List.set_cons_zero, List.set_cons_succ]
    refine wpAnyH_take (i := 10) (oi := _) (v := ?vr2n10_13) rfl (by kernel_rfl) (by kernel_rfl) (by kernel_rfl) (fun _ _ _ h => h) (Or.inl ⟨by kernel_rfl, ?hr2n10_13⟩) hHeld1 ?_
    case hr2n10_13 => (intro w hSw; (try dsimp only at hSw); go_simp; try (with_reducible rfl))
    try simp only [List.getElem_toArray, List.getElem_cons_zero, List.getElem_cons_succ, Act.put, List.setIfInBounds_toArray, List.set_cons_zero, List.set_cons_succ]
    refine wpAnyH_take (i := 11) (oi := _) (v := ?vr2n11_14) rfl (by kernel_rfl) (by kernel_rfl) (by kernel_rfl) (fun _ _ _ h => h) (Or.inl ⟨by kernel_rfl, ?hr2n11_14⟩) hHeld1 ?_
    case hr2n11_14 => (intro w hSw; (try dsimp only at hSw); go_simp; try (with_reducible rfl))
    try simp only [List.getElem_toArray, List.getElem_cons_zero, List.getElem_cons_succ, Act.put, List.setIfInBounds_toArray, List.set_cons_zero, List.set_cons_succ]
    refine wpAnyH_take (i := 12) (oi := _) (v := ?vr2n12_15) rfl (by kernel_rfl) (by kernel_rfl) (by kernel_rfl) (fun _ _ _ h => h) (Or.inl ⟨by kernel_rfl, ?hr2n12_15⟩) hHeld1 ?_
    case hr2n12_15 => (intro w hSw; (try dsimp only at hSw); go_simp; try (with_reducible rfl))
    try simp only [List.getElem_toArray, List.getElem_cons_zero, List.getElem_cons_succ, Act.put, List.setIfInBounds_toArray, List.set_cons_zero, List.set_cons_succ]
    refine wpAnyH_take (i := 13) (oi := _) (v := ?vr2n13_16) rfl (by kernel_rfl) (by kernel_rfl) (by kernel_rfl) (fun _ _ _ h => h) (Or.inl ⟨by kernel_rfl, ?hr2n13_16⟩) hHeld1 ?_
    case hr2n13_16 => (intro w hSw; (try dsimp only at hSw); go_simp; try (with_reducible rfl))
    try simp only [List.getElem_toArray, List.getElem_cons_zero, List.getElem_cons_succ, Act.put, List.setIfInBounds_toArray, List.set_cons_zero, List.set_cons_succ]
    refine wpAnyH_take (i := 14) (oi := _) (v := ?vr2n14_17) rfl (by kernel_rfl) (by kernel_rfl) (by kernel_rfl) (fun _ _ _ h => h) (Or.inl ⟨by kernel_rfl, ?hr2n14_17⟩) hHeld1 ?_
    case hr2n14_17 => (intro w hSw; (try dsimp only at hSw); go_simp; try (with_reducible rfl))
    try simp only [List.getElem_toArray, List.getElem_cons_zero, List.getElem_cons_succ, Act.put, List.setIfInBounds_toArray, List.set_cons_zero, List.set_cons_succ]
    refine wpAnyH_take (i := 15) (oi := _) (v := ?vr2n15_18) rfl (by kernel_rfl) (by kernel_rfl) (by kernel_rfl) (fun _ _ _ h => h) (Or.inl ⟨by kernel_rfl, ?hr2n15_18⟩) hHeld1 ?_
    case hr2n15_18 => (intro w hSw; (try dsimp only at hSw); go_simp; try (with_reducible rfl))
    try simp only [List.getElem_toArray, List.getElem_cons_zero, List.getElem_cons_succ, Act.put, List.setIfInBounds_toArray, List.set_cons_zero, List.set_cons_succ]
    refine wpAnyH_done (by kernel_rfl) ?_ _
    refine NoPanic.normal ?_
    go_wp2
    go_ret
    exact ⟨rfl, HB4.out⟩
end Go.Proofs.Ytccbohjcbhibkaa
