/- The walk of the document's Put. Condition: at most 4 datagrams that are not whole, of at most 900 pieces; the packet's numbers are numbers. -/
import Derived.Test.YticchchcobjpdaaJjF
import Derived.Deep.CutBlock
import Derived.BigQuiet
namespace Go.Proofs.Yticchchcobjpdaa
set_option linter.unusedVariables false
set_option linter.unusedSimpArgs false
set_option maxRecDepth 100000
open Go.RowKit Go.Proofs Go.Shelf Go.Lib Go.Sort
attribute [local go_sem ↓] Go.wp_at_zero Go.wp_at_succ
attribute [local go_sem ↓] ld_pk ld_ip ld_wh st_pk st_rjJ
set_option maxHeartbeats 32000000 in
theorem refPut_any (B : Nat) (lim : Int) (v : Value) (n : Nat) (E : List Rd) (h4 : n ≤ 4) (p : Pkt) (hp : Pin p) (hpd : p.d.length ≤ 100000) (w : World) (hown : w.ownsRow B 100 2 v n (flatR E)) (hE : ∀ r ∈ E, PsAt w w.heap.size r.A r.L ∧ r.L ≠ [] ∧ LOk r.L ∧ r.L.length ≤ 900) :
    Calls Try.prog 26 #[.agg #[.int .i64 lim, v], .agg p.c] w fun e w' => ∃ v' E' out ok, e = .returned (.tuple #[.agg #[.int .i64 lim, v'], .agg out.c, .bool ok]) ∧ RefR E p E' out ok ∧ ((v' = v ∧ E' = E) ∨ (w'.ownsRow w.heap.size 100 2 v' E'.length (flatR E') ∧ ∀ r ∈ E', r ∈ E ∨ ∃ g, r.A = some ⟨g, 0, none⟩ ∧ w.heap.size ≤ g ∧ PkRow w' g r.c r.L)) ∧ Below w.heap.size w w' := by
  obtain ⟨Q, hQ⟩ : ∃ Q : Ending → World → Prop, Q = fun e w' => ∃ v' E' out ok, e = .returned (.tuple #[.agg #[.int .i64 lim, v'], .agg out.c, .bool ok]) ∧ RefR E p E' out ok ∧ ((v' = v ∧ E' = E) ∨ (w'.ownsRow w.heap.size 100 2 v' E'.length (flatR E') ∧ ∀ r ∈ E', r ∈ E ∨ ∃ g, r.A = some ⟨g, 0, none⟩ ∧ w.heap.size ≤ g ∧ PkRow w' g r.c r.L)) ∧ Below w.heap.size w w' := ⟨_, rfl⟩
  rw [← hQ]
  have HQ : Hid (∀ w' v' E' out ok, RefR E p E' out ok → ((v' = v ∧ E' = E) ∨ (w'.ownsRow w.heap.size 100 2 v' E'.length (flatR E') ∧ ∀ r ∈ E', r ∈ E ∨ ∃ g, r.A = some ⟨g, 0, none⟩ ∧ w.heap.size ≤ g ∧ PkRow w' g r.c r.L)) → Below w.heap.size w w' → Q (.returned (.tuple #[.agg #[.int .i64 lim, v'], .agg out.c, .bool ok])) w') := Lib.hid (fun w' v' E' out ok h1 h2 h3 => by rw [hQ]; exact ⟨v', E', out, ok, rfl, h1, h2, h3⟩)
  clear hQ
  obtain ⟨A, c, hv, hc1, hc2, hsrc⟩ := slice_of v w hown
  subst hv
  have HRW := Lib.hid hsrc
  have HEN := Lib.hid (own_dg hown).1
  have HE := Lib.hid hE
  have HONE : Hid ((Value.slice A n c).oneCell' = true) := Lib.hid rfl
  have hb1 : Below w.heap.size w ((((w.alloc (.cells #[.int .i64 lim, .slice A n c] 62)).alloc (.cells p.c 25)).alloc (.cells zrj 62)).alloc (.cells pk0 25)) := ((((Below.refl w.heap.size w).alloc (Nat.le_refl _) _).alloc (by rw [size_alloc]; omega) _).alloc (by rw [size_alloc, size_alloc]; omega) _).alloc (by rw [size_alloc, size_alloc, size_alloc]; omega) _
  have hBJ := (((Blk.new w 62 #[.int .i64 lim, .slice A n c] 0 0 (Or.inl (Nat.le_refl _))).alloc (.cells p.c 25)).alloc (.cells zrj 62)).alloc (.cells pk0 25)
  have hBP := ((Blk.new (w.alloc (.cells #[.int .i64 lim, .slice A n c] 62)) 25 p.c 0 0 (Or.inl (Nat.le_refl _))).alloc (.cells zrj 62)).alloc (.cells pk0 25)
  have hBR := (Blk.new ((w.alloc (.cells #[.int .i64 lim, .slice A n c] 62)).alloc (.cells p.c 25)) 62 zrj 0 0 (Or.inl (Nat.le_refl _))).alloc (.cells pk0 25)
  have hBQ := Blk.new (((w.alloc (.cells #[.int .i64 lim, .slice A n c] 62)).alloc (.cells p.c 25)).alloc (.cells zrj 62)) 25 pk0 0 0 (Or.inl (Nat.le_refl _))
  have hsz : ((((w.alloc (.cells #[.int .i64 lim, .slice A n c] 62)).alloc (.cells p.c 25)).alloc (.cells zrj 62)).alloc (.cells pk0 25)).heap.size = w.heap.size + 1 + 1 + 1 + 1 := by rw [size_alloc, size_alloc, size_alloc, size_alloc]
  rw [size_alloc] at hBP
  rw [size_alloc, size_alloc] at hBR
  rw [size_alloc, size_alloc, size_alloc] at hBQ
  have HJ0 := Lib.hid hBJ
  have HP0 := Lib.hid hBP
  have HR0 := Lib.hid hBR
  have HQ0 := Lib.hid hBQ
  have HB1 := Lib.hid hb1
  have HS1 := Lib.hid hsz
  rw [pk0_lit] at HJ0 HP0 HR0 HQ0 HB1 HS1
  clear hown hE hsrc hb1 hBJ hBP hBR hBQ hsz
  go_enter Try.func26, Try.ntmps26
  go_upto_region 1 with fail
  generalize World.alloc _ _ = w1 at HJ0 HP0 HR0 HQ0 HB1 HS1 ⊢
  obtain ⟨b0, hb0⟩ : ∃ q, q = w.heap.size := ⟨_, rfl⟩
  rw [← hb0] at HJ0 HP0 HR0 HQ0 HS1 ⊢
  have HB0 := Lib.hid hb0
  clear hb0
  rw [← pk0_lit] at HQ0
  have hal := (Below.refl w1.heap.size w1).alloc (Nat.le_refl _) (.cells pk0 25)
  have HN := Lib.hid (Blk.new w1 25 pk0 0 0 (Or.inl (Nat.le_refl _)))
  have HX1 := Lib.hid (And.intro (HJ0.out.step hal) (And.intro (HP0.out.step hal) (And.intro (HR0.out.step hal) (HQ0.out.step hal))))
  have HB2 := Lib.hid (Below.step HB1.out hal)
  have HS2 : Hid ((w1.alloc (.cells pk0 25)).heap.size = w1.heap.size + 1) := Lib.hid (by rw [size_alloc])
  rw [pk0_lit] at HN HX1 HB2 HS2
  clear hal HJ0 HP0 HR0 HQ0 HB1
  have tokA : True := trivial
  go_upto_region 2 with (have _t := tokA; generalize World.alloc _ _ = w2 at HN HX1 HB2 HS2 ⊢; rw [← pk0_lit] at HN HX1; refine wp_st_over rfl _ _ rfl w1.heap.size pkt0 pkt0 (by rw [pkt0_c]; exact HN) rfl (by rw [pkt0_c]; rfl) ?_; clear tokA)
  rw [HS1.out] at HN HS2 ⊢
  have HX : Hid (Bx (World.setCells w2 (b0 + 1 + 1 + 1 + 1) 0 pkt0.c.toList) b0 lim (.slice A n c) p) := Lib.hid ⟨HX1.out.1.setCells_other _ 0 _ (by omega), HX1.out.2.1.setCells_other _ 0 _ (by omega), HX1.out.2.2.1.setCells_other _ 0 _ (by omega), HX1.out.2.2.2.setCells_other _ 0 _ (by omega), blk_over (by rw [pkt0_c]; exact HN.out)⟩
  have HWB : Hid (Below b0 w (World.setCells w2 (b0 + 1 + 1 + 1 + 1) 0 pkt0.c.toList)) := Lib.hid (Below.setCells (by rw [HB0.out]; exact HB2.out) (by omega) 0 _)
  have HS3 : Hid ((World.setCells w2 (b0 + 1 + 1 + 1 + 1) 0 pkt0.c.toList).heap.size = b0 + 5) := Lib.hid (by rw [size_setCells, HS2.out])
  clear HN HX1 HB2 HS2 HS1
  generalize World.setCells _ _ _ _ = w3 at HX HWB HS3 ⊢
  have lp := HX.out.p.ld_pkt
  have HMY := Lib.hid (refMayP_any p hp hpd w3)
  obtain ⟨m, hm⟩ : ∃ m, m = mayP p := ⟨_, rfl⟩
  rw [← hm] at HMY
  have HM : Hid (mayP p = m) := Lib.hid hm.symm
  clear hm hp
  go_wp2_with fail
  refine HMY.out.mono ?_
  rintro e w4 ⟨rfl, hb4⟩
  have HB4 : Hid (Below (b0 + 5) w3 w4) := Lib.hid (by rw [← HS3.out]; exact hb4)
  have HX4 := Lib.hid (HX.out.at HB4.out)
  have HW4 : Hid (Below b0 w w4) := Lib.hid (HWB.out.trans (Below.mono HB4.out (by omega)))
  clear hb4 lp HMY
  cases m with
  | false =>
    go_upto_region 3 with fail
    have HNk : Hid (Blk w4 (b0 + 1 + 1 + 1 + 1) 25 pkt0.c) := Lib.hid HX4.out.nb
    have HSB1 : Hid ((b0 + 1 + 1 + 1 + 1) ≠ b0 + 1 + 1 ∧ (b0 + 1 + 1 + 1 + 1) ≠ b0 + 1 + 1 + 1) := Lib.hid (by omega)
    have hS1 : Bx (World.drew w4) b0 lim (.slice A n c) p ∧ Blk (World.drew w4) (b0 + 1 + 1 + 1 + 1) 25 (pkt0).c := ⟨⟨HX4.out.j.drew, HX4.out.p.drew, HX4.out.rj.drew, HX4.out.rp.drew, HX4.out.nb.drew⟩, HNk.out.drew⟩
    have HS1 := Lib.hid hS1
    have hst1 := st_rj_run hS1.1.rj rfl lim (.slice A n c) HONE.out
    clear hS1
    refine wp_region_noPanic ?_
    refine wp_region_held_drew (S := (fun w' => w'.cell? ⟨b0, 0, none⟩ = some (.int .i64 lim) ∧ w'.cell? ⟨b0, 1, none⟩ = some (.slice A n c) ∧ (Ld 25 (.pointer (some ⟨(b0 + 1 + 1 + 1 + 1), 0, none⟩))).run Try.prog w' = .ok (.agg (pkt0).c) w')) (by kernel_rfl) (by first | exact ⟨(by rw [HS1.out.1.j.cell]; rfl), (by rw [HS1.out.1.j.cell]; rfl), HS1.out.2.ld_pkt⟩) (fun hHeld => ?_)
    refine wpAnyH_take (i := 0) (oi := _) (v := ?vr1n0_1) rfl (by kernel_rfl) (by kernel_rfl) (by kernel_rfl) (fun _ _ _ h => h) (Or.inl ⟨by kernel_rfl, ?hr1n0_1⟩) hHeld ?_
    case hr1n0_1 => (intro w hSw; (try dsimp only at hSw); go_simp; try (with_reducible rfl))
    try simp only [List.getElem_toArray, List.getElem_cons_zero, List.getElem_cons_succ, Act.put, List.setIfInBounds_toArray, List.set_cons_zero, List.set_cons_succ]
    refine wpAnyH_take (i := 1) (oi := _) (v := ?vr1n1_2) rfl (by kernel_rfl) (by kernel_rfl) (by kernel_rfl) (fun _ _ _ h => h) (Or.inl ⟨by kernel_rfl, ?hr1n1_2⟩) hHeld ?_
    case hr1n1_2 => (intro w hSw; (try dsimp only at hSw); go_simp; try (with_reducible rfl))
    try simp only [List.getElem_toArray, List.getElem_cons_zero, List.getElem_cons_succ, Act.put, List.setIfInBounds_toArray, List.set_cons_zero, List.set_cons_succ]
    refine wpAnyH_ready (rs := [2]) (by kernel_rfl) (by simp) ?_
    refine AllReadyH.cons (o := _) rfl (fun K hK => ?_) AllReadyH.nil
    go_simp
    (have HY1 : Hid (Blk (World.setCells (World.drew w4) (b0 + 1 + 1) 0 [.int .i64 lim, .slice A n c]) (b0 + 1 + 1) 62 #[.int .i64 lim, .slice A n c]) := Lib.hid (HS1.out.1.rj.setAll (cs := #[.int .i64 lim, .slice A n c]) rfl); have HYp1 : Hid (Blk (World.setCells (World.drew w4) (b0 + 1 + 1) 0 [.int .i64 lim, .slice A n c]) (b0 + 1 + 1 + 1) 25 pk0) := Lib.hid (HS1.out.1.rp.setCells_other (b0 + 1 + 1) 0 _ (by omega)); have HYj1 : Hid (Blk (World.setCells (World.drew w4) (b0 + 1 + 1) 0 [.int .i64 lim, .slice A n c]) b0 62 #[.int .i64 lim, .slice A n c]) := Lib.hid (HS1.out.1.j.setCells_other (b0 + 1 + 1) 0 _ (by omega)); have HYs1 : Hid (Blk (World.setCells (World.drew w4) (b0 + 1 + 1) 0 [.int .i64 lim, .slice A n c]) (b0 + 1 + 1 + 1 + 1) 25 (pkt0).c) := Lib.hid (HS1.out.2.setCells_other (b0 + 1 + 1) 0 _ HSB1.out.1); have HYb1 : Hid (Below b0 w (World.setCells (World.drew w4) (b0 + 1 + 1) 0 [.int .i64 lim, .slice A n c])) := Lib.hid (Below.setCells (Below.drewN HW4.out 1) (by omega) 0 _); have HYf1 : Hid (∀ q, q ≠ b0 + 1 + 1 → (World.setCells (World.drew w4) (b0 + 1 + 1) 0 [.int .i64 lim, .slice A n c]).heap[q]? = (w4).heap[q]?) := Lib.hid (fun q hq => heap_setCells _ _ _ _ _ hq); clear hst1; generalize World.setCells _ _ _ _ = Y1 at HY1 HYp1 HYj1 HYs1 HYb1 HYf1 ⊢; have hsu1 := st_pk_run HYp1.out rfl (pkt0))
    refine hK.out _ _ ?_ (fun hHeld1 => ?_)
    · (first | exact ⟨(by rw [HYj1.out.cell]; rfl), (by rw [HYj1.out.cell]; rfl), HYs1.out.ld_pkt⟩)
    clear hHeld hK K
    try simp only [List.getElem_toArray, List.getElem_cons_zero, List.getElem_cons_succ, Act.put, List.setIfInBounds_toArray, List.set_cons_zero, List.set_cons_succ]
    refine wpAnyH_ready (rs := [3]) (by kernel_rfl) (by simp) ?_
    refine AllReadyH.cons (o := _) rfl (fun K hK => ?_) AllReadyH.nil
    go_simp
    (have HZ1 : Hid (Blk (World.setCells Y1 (b0 + 1 + 1 + 1) 0 (pkt0).c.toList) (b0 + 1 + 1 + 1) 25 (pkt0).c) := Lib.hid (HYp1.out.setAll (Pkt.c_size _)); have HZr1 : Hid (Blk (World.setCells Y1 (b0 + 1 + 1 + 1) 0 (pkt0).c.toList) (b0 + 1 + 1) 62 #[.int .i64 lim, .slice A n c]) := Lib.hid (HY1.out.setCells_other (b0 + 1 + 1 + 1) 0 _ (by omega)); have HZj1 : Hid (Blk (World.setCells Y1 (b0 + 1 + 1 + 1) 0 (pkt0).c.toList) b0 62 #[.int .i64 lim, .slice A n c]) := Lib.hid (HYj1.out.setCells_other (b0 + 1 + 1 + 1) 0 _ (by omega)); have HZs1 : Hid (Blk (World.setCells Y1 (b0 + 1 + 1 + 1) 0 (pkt0).c.toList) (b0 + 1 + 1 + 1 + 1) 25 (pkt0).c) := Lib.hid (HYs1.out.setCells_other (b0 + 1 + 1 + 1) 0 _ HSB1.out.2); have HZb1 : Hid (Below b0 w (World.setCells Y1 (b0 + 1 + 1 + 1) 0 (pkt0).c.toList)) := Lib.hid (Below.setCells HYb1.out (show b0 ≤ b0 + 1 + 1 + 1 by omega) 0 _); have HZf1 : Hid (∀ q, q ≠ b0 + 1 + 1 → q ≠ b0 + 1 + 1 + 1 → (World.setCells Y1 (b0 + 1 + 1 + 1) 0 (pkt0).c.toList).heap[q]? = (w4).heap[q]?) := Lib.hid (fun q hq hq2 => (heap_setCells _ _ _ _ _ hq2).trans (HYf1.out q hq)); clear hsu1; generalize World.setCells _ _ _ _ = Z1 at HZ1 HZr1 HZj1 HZs1 HZb1 HZf1 ⊢)
    refine hK.out _ _ ?_ (fun hHeld2 => ?_)
    · (first | exact ⟨(by rw [HZj1.out.cell]; rfl), (by rw [HZj1.out.cell]; rfl), HZs1.out.ld_pkt⟩)
    clear hHeld1 hK K
    try simp only [List.getElem_toArray, List.getElem_cons_zero, List.getElem_cons_succ, Act.put, List.setIfInBounds_toArray, List.set_cons_zero, List.set_cons_succ]
    refine wpAnyH_take (i := 4) (oi := _) (v := ?vr1n4_3) rfl (by kernel_rfl) (by kernel_rfl) (by kernel_rfl) (fun _ _ _ h => h) (Or.inl ⟨by kernel_rfl, ?hr1n4_3⟩) hHeld2 ?_
    case hr1n4_3 => (intro w hSw; (try dsimp only at hSw); go_simp; try (with_reducible rfl))
    try simp only [List.getElem_toArray, List.getElem_cons_zero, List.getElem_cons_succ, Act.put, List.setIfInBounds_toArray, List.set_cons_zero, List.set_cons_succ]
    refine wpAnyH_done (by kernel_rfl) ?_ _
    refine NoPanic.normal ?_
    go_wp2_with fail
    exact bodyPost_ret (results_cct Try.results26 _ _ (b0 + 1 + 1) (b0 + 1 + 1 + 1) _ _ _ _ _ _ rfl HZr1.out Try.underlying62 rfl size_rj rfl HZ1.out Try.underlying25 rfl (by rw [Pkt.c_size]; exact size_pk)) rfl (HQ.out _ _ _ _ _ (.bad (fun h => by have := HM.out; rw [show mayP p = true from h] at this; cases this)) (Or.inl ⟨rfl, rfl⟩) (by have := HZb1.out; rw [HB0.out] at this; exact this))
  | true =>
    have HMT : Hid (May p) := HM
    have hmb := HMT.out.b
    have lp := HX4.out.p.ld_pkt
    obtain ⟨c11, c12, c13⟩ := pk_c5 HX4.out.p
    go_upto_region 4 with fail
    go_cut [33] from 27 to 32 (fun u wx => u = .bool (decide (p.a = 0 ∧ p.mo = false)) ∧ wx = w4)
    case first =>
      by_cases h1 : p.a = 0
      · obtain ⟨mo, hmo⟩ : ∃ mo, mo = p.mo := ⟨_, rfl⟩
        rw [← hmo] at c12
        have HMO := Lib.hid hmo
        clear hmo hmb
        rw [h1] at c11
        have HA := Lib.hid h1
        clear h1
        cases mo with
        | false =>
          go_wp2_with fail
          go_meet
          exact ⟨congrArg Value.bool (decide_eq_true (p := p.a = 0 ∧ p.mo = false) ⟨HA.out, HMO.out.symm⟩).symm, rfl⟩
        | true =>
          go_wp2_with fail
          go_meet
          exact ⟨congrArg Value.bool (decide_eq_false (p := p.a = 0 ∧ p.mo = false) (fun h => by have := HMO.out; rw [h.2] at this; cases this)).symm, rfl⟩
      · have h1b : (p.a == 0) = false := beq_eq_false_iff_ne.2 h1
        have HA := Lib.hid h1
        clear hmb
        go_wp2_with fail
        go_meet
        exact ⟨congrArg Value.bool (decide_eq_false (p := p.a = 0 ∧ p.mo = false) (fun h => HA.out h.1)).symm, rfl⟩
    case rest =>
      obtain ⟨rfl, rfl⟩ := hcut
      obtain ⟨w4, rfl⟩ : ∃ w4 : World, w4 = wc := ⟨_, rfl⟩
      clear c11 c12 c13
      by_cases hwh : p.a = 0 ∧ p.mo = false
      · have hd := decide_eq_true hwh
        have HWH := Lib.hid hwh
        clear hwh
        go_upto_region 5 with fail
        have HPk : Hid (Blk w4 (b0 + 1) 25 p.c) := Lib.hid HX4.out.p
        clear lp hmb
        have HSB2 : Hid ((b0 + 1) ≠ b0 + 1 + 1 ∧ (b0 + 1) ≠ b0 + 1 + 1 + 1) := Lib.hid (by omega)
        have hS2 : Bx (World.drew w4) b0 lim (.slice A n c) p ∧ Blk (World.drew w4) (b0 + 1) 25 (p).c := ⟨⟨HX4.out.j.drew, HX4.out.p.drew, HX4.out.rj.drew, HX4.out.rp.drew, HX4.out.nb.drew⟩, HPk.out.drew⟩
        have HS2 := Lib.hid hS2
        have hst2 := st_rj_run hS2.1.rj rfl lim (.slice A n c) HONE.out
        clear hS2
        refine wp_region_noPanic ?_
        refine wp_region_held_drew (S := (fun w' => w'.cell? ⟨b0, 0, none⟩ = some (.int .i64 lim) ∧ w'.cell? ⟨b0, 1, none⟩ = some (.slice A n c) ∧ (Ld 25 (.pointer (some ⟨(b0 + 1), 0, none⟩))).run Try.prog w' = .ok (.agg (p).c) w')) (by kernel_rfl) (by first | exact ⟨(by rw [HS2.out.1.j.cell]; rfl), (by rw [HS2.out.1.j.cell]; rfl), HS2.out.2.ld_pkt⟩) (fun hHeld => ?_)
        refine wpAnyH_take (i := 0) (oi := _) (v := ?vr2n0_4) rfl (by kernel_rfl) (by kernel_rfl) (by kernel_rfl) (fun _ _ _ h => h) (Or.inl ⟨by kernel_rfl, ?hr2n0_4⟩) hHeld ?_
        case hr2n0_4 => (intro w hSw; (try dsimp only at hSw); go_simp; try (with_reducible rfl))
        try simp only [List.getElem_toArray, List.getElem_cons_zero, List.getElem_cons_succ, Act.put, List.setIfInBounds_toArray, List.set_cons_zero, List.set_cons_succ]
        refine wpAnyH_take (i := 1) (oi := _) (v := ?vr2n1_5) rfl (by kernel_rfl) (by kernel_rfl) (by kernel_rfl) (fun _ _ _ h => h) (Or.inl ⟨by kernel_rfl, ?hr2n1_5⟩) hHeld ?_
        case hr2n1_5 => (intro w hSw; (try dsimp only at hSw); go_simp; try (with_reducible rfl))
        try simp only [List.getElem_toArray, List.getElem_cons_zero, List.getElem_cons_succ, Act.put, List.setIfInBounds_toArray, List.set_cons_zero, List.set_cons_succ]
        refine wpAnyH_ready (rs := [2]) (by kernel_rfl) (by simp) ?_
        refine AllReadyH.cons (o := _) rfl (fun K hK => ?_) AllReadyH.nil
        go_simp
        (have HY2 : Hid (Blk (World.setCells (World.drew w4) (b0 + 1 + 1) 0 [.int .i64 lim, .slice A n c]) (b0 + 1 + 1) 62 #[.int .i64 lim, .slice A n c]) := Lib.hid (HS2.out.1.rj.setAll (cs := #[.int .i64 lim, .slice A n c]) rfl); have HYp2 : Hid (Blk (World.setCells (World.drew w4) (b0 + 1 + 1) 0 [.int .i64 lim, .slice A n c]) (b0 + 1 + 1 + 1) 25 pk0) := Lib.hid (HS2.out.1.rp.setCells_other (b0 + 1 + 1) 0 _ (by omega)); have HYj2 : Hid (Blk (World.setCells (World.drew w4) (b0 + 1 + 1) 0 [.int .i64 lim, .slice A n c]) b0 62 #[.int .i64 lim, .slice A n c]) := Lib.hid (HS2.out.1.j.setCells_other (b0 + 1 + 1) 0 _ (by omega)); have HYs2 : Hid (Blk (World.setCells (World.drew w4) (b0 + 1 + 1) 0 [.int .i64 lim, .slice A n c]) (b0 + 1) 25 (p).c) := Lib.hid (HS2.out.2.setCells_other (b0 + 1 + 1) 0 _ HSB2.out.1); have HYb2 : Hid (Below b0 w (World.setCells (World.drew w4) (b0 + 1 + 1) 0 [.int .i64 lim, .slice A n c])) := Lib.hid (Below.setCells (Below.drewN HW4.out 1) (by omega) 0 _); have HYf2 : Hid (∀ q, q ≠ b0 + 1 + 1 → (World.setCells (World.drew w4) (b0 + 1 + 1) 0 [.int .i64 lim, .slice A n c]).heap[q]? = (w4).heap[q]?) := Lib.hid (fun q hq => heap_setCells _ _ _ _ _ hq); clear hst2; generalize World.setCells _ _ _ _ = Y2 at HY2 HYp2 HYj2 HYs2 HYb2 HYf2 ⊢; have hsu2 := st_pk_run HYp2.out rfl (p))
        refine hK.out _ _ ?_ (fun hHeld1 => ?_)
        · (first | exact ⟨(by rw [HYj2.out.cell]; rfl), (by rw [HYj2.out.cell]; rfl), HYs2.out.ld_pkt⟩)
        clear hHeld hK K
        try simp only [List.getElem_toArray, List.getElem_cons_zero, List.getElem_cons_succ, Act.put, List.setIfInBounds_toArray, List.set_cons_zero, List.set_cons_succ]
        refine wpAnyH_ready (rs := [3]) (by kernel_rfl) (by simp) ?_
        refine AllReadyH.cons (o := _) rfl (fun K hK => ?_) AllReadyH.nil
        go_simp
        (have HZ2 : Hid (Blk (World.setCells Y2 (b0 + 1 + 1 + 1) 0 (p).c.toList) (b0 + 1 + 1 + 1) 25 (p).c) := Lib.hid (HYp2.out.setAll (Pkt.c_size _)); have HZr2 : Hid (Blk (World.setCells Y2 (b0 + 1 + 1 + 1) 0 (p).c.toList) (b0 + 1 + 1) 62 #[.int .i64 lim, .slice A n c]) := Lib.hid (HY2.out.setCells_other (b0 + 1 + 1 + 1) 0 _ (by omega)); have HZj2 : Hid (Blk (World.setCells Y2 (b0 + 1 + 1 + 1) 0 (p).c.toList) b0 62 #[.int .i64 lim, .slice A n c]) := Lib.hid (HYj2.out.setCells_other (b0 + 1 + 1 + 1) 0 _ (by omega)); have HZs2 : Hid (Blk (World.setCells Y2 (b0 + 1 + 1 + 1) 0 (p).c.toList) (b0 + 1) 25 (p).c) := Lib.hid (HYs2.out.setCells_other (b0 + 1 + 1 + 1) 0 _ HSB2.out.2); have HZb2 : Hid (Below b0 w (World.setCells Y2 (b0 + 1 + 1 + 1) 0 (p).c.toList)) := Lib.hid (Below.setCells HYb2.out (show b0 ≤ b0 + 1 + 1 + 1 by omega) 0 _); have HZf2 : Hid (∀ q, q ≠ b0 + 1 + 1 → q ≠ b0 + 1 + 1 + 1 → (World.setCells Y2 (b0 + 1 + 1 + 1) 0 (p).c.toList).heap[q]? = (w4).heap[q]?) := Lib.hid (fun q hq hq2 => (heap_setCells _ _ _ _ _ hq2).trans (HYf2.out q hq)); clear hsu2; generalize World.setCells _ _ _ _ = Z2 at HZ2 HZr2 HZj2 HZs2 HZb2 HZf2 ⊢)
        refine hK.out _ _ ?_ (fun hHeld2 => ?_)
        · (first | exact ⟨(by rw [HZj2.out.cell]; rfl), (by rw [HZj2.out.cell]; rfl), HZs2.out.ld_pkt⟩)
        clear hHeld1 hK K
        try simp only [List.getElem_toArray, List.getElem_cons_zero, List.getElem_cons_succ, Act.put, List.setIfInBounds_toArray, List.set_cons_zero, List.set_cons_succ]
        refine wpAnyH_take (i := 4) (oi := _) (v := ?vr2n4_6) rfl (by kernel_rfl) (by kernel_rfl) (by kernel_rfl) (fun _ _ _ h => h) (Or.inl ⟨by kernel_rfl, ?hr2n4_6⟩) hHeld2 ?_
        case hr2n4_6 => (intro w hSw; (try dsimp only at hSw); go_simp; try (with_reducible rfl))
        try simp only [List.getElem_toArray, List.getElem_cons_zero, List.getElem_cons_succ, Act.put, List.setIfInBounds_toArray, List.set_cons_zero, List.set_cons_succ]
        refine wpAnyH_done (by kernel_rfl) ?_ _
        refine NoPanic.normal ?_
        go_wp2_with fail
        exact bodyPost_ret (results_cct Try.results26 _ _ (b0 + 1 + 1) (b0 + 1 + 1 + 1) _ _ _ _ _ _ rfl HZr2.out Try.underlying62 rfl size_rj rfl HZ2.out Try.underlying25 rfl (by rw [Pkt.c_size]; exact size_pk)) rfl (HQ.out _ _ _ _ _ (.whole HMT.out HWH.out.1 HWH.out.2) (Or.inl ⟨rfl, rfl⟩) (by have := HZb2.out; rw [HB0.out] at this; exact this))
      · have hd := decide_eq_false hwh
        have HWH := Lib.hid hwh
        clear hwh lp hmb
        have c1j : w4.cell? ⟨b0, 1, none⟩ = some (.slice A n c) := by rw [HX4.out.j.cell]; rfl
        have HS4 : Hid (b0 + 5 ≤ w4.heap.size) := Lib.hid (by have := HB4.out.size; have := HS3.out; omega)
        have HSRW : Hid (∀ W, Below b0 w W → (A = none ∧ c = 0 ∧ E = []) ∨ ∃ g o', A = some ⟨g, o', none⟩ ∧ ∀ j u, (flatR E)[j]? = some u → W.cell? ⟨g, o' + j, none⟩ = some u) := Lib.hid (fun W hb => by
          rcases HRW.out with ⟨h1, h2, _, h3⟩ | ⟨g, h1, h2, h3, h4⟩
          · exact Or.inl ⟨h1, h2, h3⟩
          · exact Or.inr ⟨g, 0, h1, fun j u hj => by rw [Nat.zero_add]; exact (hb.cell (p := ⟨g, j, none⟩) (show g < b0 by have := HB0.out; omega)).trans (h4 j u hj)⟩)
        have h0 : w4.ownsRow (b0 + 5) 100 2 (.slice none 0 0) 0 (flatR []) := ⟨rfl, Or.inl ⟨rfl, rfl⟩⟩
        have HO0 := Lib.hid h0
        clear h0
        have tokC : True := trivial
        go_upto_region 8 with (have _t := tokC; clear tokC; at_builtin; go_loud (refine wpList_appD rfl (.tmp 36) (.tmp 38) rfl (b0 + 5) (.slice none 0 0) 0 [] rfl HO0.out A n c E rfl HEN.out (HSRW.out w4 HW4.out) (by omega) HS4.out ?_; intro v1 w5 hown1 hg1; have HO5 := Lib.hid hown1; have HB5 := Lib.hid (HB4.out.trans (grown_below hg1 (fun q hq => by simp [Value.ownBlock] at hq) HS4.out)); clear hown1 hg1))
        clear c1j
        rw [Nat.zero_add, List.nil_append] at HO5
        have HX5 := Lib.hid (HX.out.at HB5.out)
        have HW5 : Hid (Below b0 w w5) := Lib.hid (HWB.out.trans (Below.mono HB5.out (by omega)))
        have HS5 : Hid (b0 + 5 ≤ w5.heap.size) := Lib.hid (by have := HB5.out.size; have := HS3.out; omega)
        obtain ⟨A1, c1, hv1, hc11, hc12, hsrc1⟩ := slice_of v1 w5 HO5.out
        subst hv1
        have HL1 := Lib.hid hsrc1
        clear hsrc1 HO0 HS4 HX4 HB4 HW4
        have hc12' : c1 ≤ 9223372036854775807 := hc12
        clear hc12
        have HHD : Hid (∀ W, Below b0 w W → ∀ i (hi : i < E.length), ∃ gi oi, E[i].A = some ⟨gi, oi, none⟩ ∧ (Ld 25 (.pointer (some ⟨gi, oi, none⟩))).run Try.prog W = .ok (.agg (hdP E[i]).c) W) := Lib.hid (fun W hb i hi => by
          obtain ⟨h1, h2, _, _⟩ := HE.out E[i] (List.getElem_mem _)
          have hpos : 0 < E[i].L.length := List.length_pos_iff.2 h2
          rcases h1 with h1 | ⟨g, o', e1, e2, e3⟩
          · exact absurd h1 h2
          · refine ⟨g, o', e1, ?_⟩
            have := ps_ld (w := W) (g := g) (o := o') (L := E[i].L) (fun j hj u v hv => (hb.cell (p := ⟨g, o' + j * 14 + u, none⟩) (show g < b0 by have := HB0.out; omega)).trans (e3 j hj u v hv)) 0 hpos
            rw [Nat.zero_mul, Nat.add_zero] at this
            have e4 : hdP E[i] = E[i].L[0] := headD_get _ hpos
            rw [e4]
            exact this)
        go_upto_block 0 with fail
        go_cut [9] from 40 to 57 (fun x9 wx => ∃ i : Nat, x9 = .int .i64 (i : Int) ∧ i ≤ n ∧ (∀ j (hj : j < E.length), j < i → sameW (hdP E[j]) p = false) ∧ (∀ h : i < E.length, sameW (hdP E[i]) p = true) ∧ Below w5.heap.size w5 wx)
        case first =>
          go_wp2_with fail
          go_loopg [9] n (fun kx s9 wr => ∃ i : Nat, s9 = .int .i64 (i : Int) ∧ i ≤ n ∧ n - i ≤ kx ∧ Hid (∀ j (hj : j < E.length), j < i → sameW (hdP E[j]) p = false) ∧ Hid (Below w5.heap.size w5 wr))
          case atStart => exact ⟨0, rfl, Nat.zero_le _, by omega, Lib.hid (fun j hj h => by omega), Lib.hid (Below.refl _ _)⟩
          case round =>
            obtain ⟨i, rfl, hi, hkx, HNO, HBR⟩ := hrel
            by_cases hlt : i < n
            · have hltz : (i : Int) < (n : Int) := by omega
              have hi0 : 0 ≤ (i : Int) := by omega
              have hiE : i < E.length := by have := HEN.out; omega
              obtain ⟨g1, rfl, hg5, hg1, hcells⟩ : ∃ g, A1 = some ⟨g, 0, none⟩ ∧ b0 + 5 ≤ g ∧ g < w5.heap.size ∧ ∀ j u, (flatR E)[j]? = some u → w5.cell? ⟨g, j, none⟩ = some u := by
                rcases HL1.out with ⟨_, _, h0, _⟩ | h
                · omega
                · exact h
              obtain ⟨gi, oi, hA, _⟩ := HHD.out w5 HW5.out i hiE
              have hlr : 0 < E[i].L.length := List.length_pos_iff.2 (HE.out E[i] (List.getElem_mem _)).2.1
              have HCE0 : ∀ W, Below w5.heap.size w5 W → W.cell? ⟨g1, i * 2, none⟩ = some (.slice (some ⟨gi, oi, none⟩) E[i].L.length E[i].c) ∧ (Ld 25 (.pointer (some ⟨gi, oi, none⟩))).run Try.prog W = .ok (.agg (hdP E[i]).c) W ∧ (Ld 25 (.pointer (some ⟨b0 + 1, 0, none⟩))).run Try.prog W = .ok (.agg p.c) W := fun W hb => by
                refine ⟨?_, ?_, ?_⟩
                · rw [← hA]
                  exact (hb.cell (p := ⟨g1, i * 2, none⟩) hg1).trans (hcells _ _ (flatR_get E i hiE).1)
                · obtain ⟨gi', oi', hA', hl⟩ := HHD.out W (HW5.out.trans (hb.mono (by have := HS5.out; omega))) i hiE
                  rw [hA] at hA'
                  injection hA' with hA'
                  injection hA' with e1 e2
                  subst e1
                  subst e2
                  exact hl
                · exact (HX5.out.at (hb.mono HS5.out)).p.ld_pkt
              have HNXa : Hid (sameW (hdP E[i]) p = false → ∀ j (hj : j < E.length), j < i + 1 → sameW (hdP E[j]) p = false) := Lib.hid (fun h j hj hlt => by
                by_cases e : j = i
                · subst e; exact h
                · exact HNO.out j hj (by omega))
              have HYES : Hid (sameW (hdP E[i]) p = true → ∀ h : i < E.length, sameW (hdP E[i]) p = true) := Lib.hid (fun h _ => h)
              obtain ⟨r, hr⟩ : ∃ r, r = E[i] := ⟨_, rfl⟩
              rw [← hr] at HCE0 HNXa hlr
              have HYE : Hid (sameW (hdP r) p = true → ∀ h : i < E.length, sameW (hdP E[i]) p = true) := Lib.hid (fun h _ => by rw [← hr]; exact h)
              obtain ⟨rl, hrl⟩ : ∃ x, x = r.L.length := ⟨_, rfl⟩
              obtain ⟨rc, hrc⟩ : ∃ x, x = r.c := ⟨_, rfl⟩
              rw [← hrl, ← hrc] at HCE0
              rw [← hrl] at hlr
              have HCE := Lib.hid HCE0
              have hrz : (0 : Int) < (rl : Int) := by omega
              have hSA := fun w => same_any (hdP r) p w
              obtain ⟨sb, hsb⟩ : ∃ sb, sb = sameW (hdP r) p := ⟨_, rfl⟩
              rw [← hsb] at hSA HNXa HYE
              have HSA := Lib.hid hSA
              clear hcells hA HCE0 hr hrl hrc hSA HYES hsb
              cases sb with
              | true =>
                go_upto_region 9 with fail
                have hb0 : Below w5.heap.size w5 (World.drew wr) := Below.drewN HBR.out 1
                have HY0 := Lib.hid hb0
                clear hb0
                refine wp_region_noPanic ?_
                refine wp_region_held_drew (S := (fun w' => w'.cell? ⟨g1, i * 2, none⟩ = some (.slice (some ⟨gi, oi, none⟩) rl rc) ∧ (Ld 25 (.pointer (some ⟨gi, oi, none⟩))).run Try.prog w' = .ok (.agg (hdP r).c) w' ∧ (Ld 25 (.pointer (some ⟨b0 + 1, 0, none⟩))).run Try.prog w' = .ok (.agg p.c) w')) (by kernel_rfl) (by first | exact HCE.out _ HY0.out) (fun hHeld => ?_)
                refine wpAnyH_take (i := 0) (oi := _) (v := ?vr7n0_19) rfl (by kernel_rfl) (by kernel_rfl) (by kernel_rfl) (fun _ _ _ h => h) (Or.inl ⟨by kernel_rfl, ?hr7n0_19⟩) hHeld ?_
                case hr7n0_19 => (intro w hSw; (try dsimp only at hSw); go_simp; try (with_reducible rfl))
                try simp only [List.getElem_toArray, List.getElem_cons_zero, List.getElem_cons_succ, Act.put, List.setIfInBounds_toArray, List.set_cons_zero, List.set_cons_succ]
                refine wpAnyH_take (i := 1) (oi := _) (v := ?vr7n1_20) rfl (by kernel_rfl) (by kernel_rfl) (by kernel_rfl) (fun _ _ _ h => h) (Or.inl ⟨by kernel_rfl, ?hr7n1_20⟩) hHeld ?_
                case hr7n1_20 => (intro w hSw; (try dsimp only at hSw); go_simp; try (with_reducible rfl))
                try simp only [List.getElem_toArray, List.getElem_cons_zero, List.getElem_cons_succ, Act.put, List.setIfInBounds_toArray, List.set_cons_zero, List.set_cons_succ]
                refine wpAnyH_take (i := 2) (oi := _) (v := ?vr7n2_21) rfl (by kernel_rfl) (by kernel_rfl) (by kernel_rfl) (fun _ _ _ h => h) (Or.inl ⟨by kernel_rfl, ?hr7n2_21⟩) hHeld ?_
                case hr7n2_21 => (intro w hSw; (try dsimp only at hSw); go_simp; try (with_reducible rfl))
                try simp only [List.getElem_toArray, List.getElem_cons_zero, List.getElem_cons_succ, Act.put, List.setIfInBounds_toArray, List.set_cons_zero, List.set_cons_succ]
                refine wpAnyH_take (i := 3) (oi := _) (v := ?vr7n3_22) rfl (by kernel_rfl) (by kernel_rfl) (by kernel_rfl) (fun _ _ _ h => h) (Or.inl ⟨by kernel_rfl, ?hr7n3_22⟩) hHeld ?_
                case hr7n3_22 => (intro w hSw; (try dsimp only at hSw); go_simp; try (with_reducible rfl))
                try simp only [List.getElem_toArray, List.getElem_cons_zero, List.getElem_cons_succ, Act.put, List.setIfInBounds_toArray, List.set_cons_zero, List.set_cons_succ]
                refine wpAnyH_take (i := 4) (oi := _) (v := ?vr7n4_23) rfl (by kernel_rfl) (by kernel_rfl) (by kernel_rfl) (fun _ _ _ h => h) (Or.inl ⟨by kernel_rfl, ?hr7n4_23⟩) hHeld ?_
                case hr7n4_23 => (intro w hSw; (try dsimp only at hSw); go_simp; try (with_reducible rfl))
                try simp only [List.getElem_toArray, List.getElem_cons_zero, List.getElem_cons_succ, Act.put, List.setIfInBounds_toArray, List.set_cons_zero, List.set_cons_succ]
                refine wpAnyH_take (i := 5) (oi := _) (v := ?vr7n5_24) rfl (by kernel_rfl) (by kernel_rfl) (by kernel_rfl) (fun _ _ _ h => h) (Or.inl ⟨by kernel_rfl, ?hr7n5_24⟩) hHeld ?_
                case hr7n5_24 => (intro w hSw; (try dsimp only at hSw); go_simp; try (with_reducible rfl))
                try simp only [List.getElem_toArray, List.getElem_cons_zero, List.getElem_cons_succ, Act.put, List.setIfInBounds_toArray, List.set_cons_zero, List.set_cons_succ]
                refine wpAnyH_take (i := 6) (oi := _) (v := ?vr7n6_25) rfl (by kernel_rfl) (by kernel_rfl) (by kernel_rfl) (fun _ _ _ h => h) (Or.inl ⟨by kernel_rfl, ?hr7n6_25⟩) hHeld ?_
                case hr7n6_25 => (intro w hSw; (try dsimp only at hSw); go_simp; try (with_reducible rfl))
                try simp only [List.getElem_toArray, List.getElem_cons_zero, List.getElem_cons_succ, Act.put, List.setIfInBounds_toArray, List.set_cons_zero, List.set_cons_succ]
                refine wpAnyH_take (i := 7) (oi := _) (v := ?vr7n7_26) rfl (by kernel_rfl) (by kernel_rfl) (by kernel_rfl) (fun _ _ _ h => h) (Or.inl ⟨by kernel_rfl, ?hr7n7_26⟩) hHeld ?_
                case hr7n7_26 => (intro w hSw; (try dsimp only at hSw); go_simp; try (with_reducible rfl))
                try simp only [List.getElem_toArray, List.getElem_cons_zero, List.getElem_cons_succ, Act.put, List.setIfInBounds_toArray, List.set_cons_zero, List.set_cons_succ]
                refine wpAnyH_take (i := 8) (oi := _) (v := ?vr7n8_27) rfl (by kernel_rfl) (by kernel_rfl) (by kernel_rfl) (fun _ _ _ h => h) (Or.inl ⟨by kernel_rfl, ?hr7n8_27⟩) hHeld ?_
                case hr7n8_27 => (intro w hSw; (try dsimp only at hSw); go_simp; try (with_reducible rfl))
                try simp only [List.getElem_toArray, List.getElem_cons_zero, List.getElem_cons_succ, Act.put, List.setIfInBounds_toArray, List.set_cons_zero, List.set_cons_succ]
                refine wpAnyH_take (i := 9) (oi := _) (v := ?vr7n9_28) rfl (by kernel_rfl) (by kernel_rfl) (by kernel_rfl) (fun _ _ _ h => h) (Or.inl ⟨by kernel_rfl, ?hr7n9_28⟩) hHeld ?_
                case hr7n9_28 => (intro w hSw; (try dsimp only at hSw); go_simp; try (with_reducible rfl))
                try simp only [List.getElem_toArray, List.getElem_cons_zero, List.getElem_cons_succ, Act.put, List.setIfInBounds_toArray, List.set_cons_zero, List.set_cons_succ]
                refine wpAnyH_take (i := 10) (oi := _) (v := ?vr7n10_29) rfl (by kernel_rfl) (by kernel_rfl) (by kernel_rfl) (fun _ _ _ h => h) (Or.inl ⟨by kernel_rfl, ?hr7n10_29⟩) hHeld ?_
                case hr7n10_29 => (intro w hSw; (try dsimp only at hSw); go_simp; try (with_reducible rfl))
                try simp only [List.getElem_toArray, List.getElem_cons_zero, List.getElem_cons_succ, Act.put, List.setIfInBounds_toArray, List.set_cons_zero, List.set_cons_succ]
                refine wpAnyH_take (i := 11) (oi := _) (v := ?vr7n11_30) rfl (by kernel_rfl) (by kernel_rfl) (by kernel_rfl) (fun _ _ _ h => h) (Or.inl ⟨by kernel_rfl, ?hr7n11_30⟩) hHeld ?_
                case hr7n11_30 => (intro w hSw; (try dsimp only at hSw); go_simp; try (with_reducible rfl))
                try simp only [List.getElem_toArray, List.getElem_cons_zero, List.getElem_cons_succ, Act.put, List.setIfInBounds_toArray, List.set_cons_zero, List.set_cons_succ]
                refine wpAnyH_take (i := 12) (oi := _) (v := ?vr7n12_31) rfl (by kernel_rfl) (by kernel_rfl) (by kernel_rfl) (fun _ _ _ h => h) (Or.inl ⟨by kernel_rfl, ?hr7n12_31⟩) hHeld ?_
                case hr7n12_31 => (intro w hSw; (try dsimp only at hSw); go_simp; try (with_reducible rfl))
                try simp only [List.getElem_toArray, List.getElem_cons_zero, List.getElem_cons_succ, Act.put, List.setIfInBounds_toArray, List.set_cons_zero, List.set_cons_succ]
                refine wpAnyH_ready (rs := [13]) (by kernel_rfl) (by simp) ?_
                refine AllReadyH.cons (o := _) rfl (fun K hK => ?_) AllReadyH.nil
                go_simp
                (go_at_call 49; refine (HSA.out _).mono ?_; rintro e y1 ⟨rfl, hb⟩; have HY1 := Lib.hid (Below.step HY0.out hb); clear hb)
                refine hK.out _ _ ?_ (fun hHeld1 => ?_)
                · (first | exact HCE.out _ HY1.out)
                clear hHeld hK K
                try simp only [List.getElem_toArray, List.getElem_cons_zero, List.getElem_cons_succ, Act.put, List.setIfInBounds_toArray, List.set_cons_zero, List.set_cons_succ]
                refine wpAnyH_take (i := 14) (oi := _) (v := ?vr7n14_32) rfl (by kernel_rfl) (by kernel_rfl) (by kernel_rfl) (fun _ _ _ h => h) (Or.inl ⟨by kernel_rfl, ?hr7n14_32⟩) hHeld1 ?_
                case hr7n14_32 => (intro w hSw; (try dsimp only at hSw); go_simp; try (with_reducible rfl))
                try simp only [List.getElem_toArray, List.getElem_cons_zero, List.getElem_cons_succ, Act.put, List.setIfInBounds_toArray, List.set_cons_zero, List.set_cons_succ]
                refine wpAnyH_take (i := 15) (oi := _) (v := ?vr7n15_33) rfl (by kernel_rfl) (by kernel_rfl) (by kernel_rfl) (fun _ _ _ h => h) (Or.inl ⟨by kernel_rfl, ?hr7n15_33⟩) hHeld1 ?_
                case hr7n15_33 => (intro w hSw; (try dsimp only at hSw); go_simp; try (with_reducible rfl))
                try simp only [List.getElem_toArray, List.getElem_cons_zero, List.getElem_cons_succ, Act.put, List.setIfInBounds_toArray, List.set_cons_zero, List.set_cons_succ]
                refine wpAnyH_done (by kernel_rfl) ?_ _
                refine NoPanic.normal ?_
                go_wp2_with fail
                go_meet
                exact ⟨i, rfl, hi, HNO.out, HYE.out (by first | rfl | trivial), HY1.out⟩
              | false =>
                go_upto_region 9 with fail
                have hb0 : Below w5.heap.size w5 (World.drew wr) := Below.drewN HBR.out 1
                have HY0 := Lib.hid hb0
                clear hb0
                refine wp_region_noPanic ?_
                refine wp_region_held_drew (S := (fun w' => w'.cell? ⟨g1, i * 2, none⟩ = some (.slice (some ⟨gi, oi, none⟩) rl rc) ∧ (Ld 25 (.pointer (some ⟨gi, oi, none⟩))).run Try.prog w' = .ok (.agg (hdP r).c) w' ∧ (Ld 25 (.pointer (some ⟨b0 + 1, 0, none⟩))).run Try.prog w' = .ok (.agg p.c) w')) (by kernel_rfl) (by first | exact HCE.out _ HY0.out) (fun hHeld => ?_)
                refine wpAnyH_take (i := 0) (oi := _) (v := ?vr8n0_34) rfl (by kernel_rfl) (by kernel_rfl) (by kernel_rfl) (fun _ _ _ h => h) (Or.inl ⟨by kernel_rfl, ?hr8n0_34⟩) hHeld ?_
                case hr8n0_34 => (intro w hSw; (try dsimp only at hSw); go_simp; try (with_reducible rfl))
                try simp only [List.getElem_toArray, List.getElem_cons_zero, List.getElem_cons_succ, Act.put, List.setIfInBounds_toArray, List.set_cons_zero, List.set_cons_succ]
                refine wpAnyH_take (i := 1) (oi := _) (v := ?vr8n1_35) rfl (by kernel_rfl) (by kernel_rfl) (by kernel_rfl) (fun _ _ _ h => h) (Or.inl ⟨by kernel_rfl, ?hr8n1_35⟩) hHeld ?_
                case hr8n1_35 => (intro w hSw; (try dsimp only at hSw); go_simp; try (with_reducible rfl))
                try simp only [List.getElem_toArray, List.getElem_cons_zero, List.getElem_cons_succ, Act.put, List.setIfInBounds_toArray, List.set_cons_zero, List.set_cons_succ]
                refine wpAnyH_take (i := 2) (oi := _) (v := ?vr8n2_36) rfl (by kernel_rfl) (by kernel_rfl) (by kernel_rfl) (fun _ _ _ h => h) (Or.inl ⟨by kernel_rfl, ?hr8n2_36⟩) hHeld ?_
                case hr8n2_36 => (intro w hSw; (try dsimp only at hSw); go_simp; try (with_reducible rfl))
                try simp only [List.getElem_toArray, List.getElem_cons_zero, List.getElem_cons_succ, Act.put, List.setIfInBounds_toArray, List.set_cons_zero, List.set_cons_succ]
                refine wpAnyH_take (i := 3) (oi := _) (v := ?vr8n3_37) rfl (by kernel_rfl) (by kernel_rfl) (by kernel_rfl) (fun _ _ _ h => h) (Or.inl ⟨by kernel_rfl, ?hr8n3_37⟩) hHeld ?_
                case hr8n3_37 => (intro w hSw; (try dsimp only at hSw); go_simp; try (with_reducible rfl))
                try simp only [List.getElem_toArray, List.getElem_cons_zero, List.getElem_cons_succ, Act.put, List.setIfInBounds_toArray, List.set_cons_zero, List.set_cons_succ]
                refine wpAnyH_take (i := 4) (oi := _) (v := ?vr8n4_38) rfl (by kernel_rfl) (by kernel_rfl) (by kernel_rfl) (fun _ _ _ h => h) (Or.inl ⟨by kernel_rfl, ?hr8n4_38⟩) hHeld ?_
                case hr8n4_38 => (intro w hSw; (try dsimp only at hSw); go_simp; try (with_reducible rfl))
                try simp only [List.getElem_toArray, List.getElem_cons_zero, List.getElem_cons_succ, Act.put, List.setIfInBounds_toArray, List.set_cons_zero, List.set_cons_succ]
                refine wpAnyH_take (i := 5) (oi := _) (v := ?vr8n5_39) rfl (by kernel_rfl) (by kernel_rfl) (by kernel_rfl) (fun _ _ _ h => h) (Or.inl ⟨by kernel_rfl, ?hr8n5_39⟩) hHeld ?_
                case hr8n5_39 => (intro w hSw; (try dsimp only at hSw); go_simp; try (with_reducible rfl))
                try simp only [List.getElem_toArray, List.getElem_cons_zero, List.getElem_cons_succ, Act.put, List.setIfInBounds_toArray, List.set_cons_zero, List.set_cons_succ]
                refine wpAnyH_take (i := 6) (oi := _) (v := ?vr8n6_40) rfl (by kernel_rfl) (by kernel_rfl) (by kernel_rfl) (fun _ _ _ h => h) (Or.inl ⟨by kernel_rfl, ?hr8n6_40⟩) hHeld ?_
                case hr8n6_40 => (intro w hSw; (try dsimp only at hSw); go_simp; try (with_reducible rfl))
                try simp only [List.getElem_toArray, List.getElem_cons_zero, List.getElem_cons_succ, Act.put, List.setIfInBounds_toArray, List.set_cons_zero, List.set_cons_succ]
                refine wpAnyH_take (i := 7) (oi := _) (v := ?vr8n7_41) rfl (by kernel_rfl) (by kernel_rfl) (by kernel_rfl) (fun _ _ _ h => h) (Or.inl ⟨by kernel_rfl, ?hr8n7_41⟩) hHeld ?_
                case hr8n7_41 => (intro w hSw; (try dsimp only at hSw); go_simp; try (with_reducible rfl))
                try simp only [List.getElem_toArray, List.getElem_cons_zero, List.getElem_cons_succ, Act.put, List.setIfInBounds_toArray, List.set_cons_zero, List.set_cons_succ]
                refine wpAnyH_take (i := 8) (oi := _) (v := ?vr8n8_42) rfl (by kernel_rfl) (by kernel_rfl) (by kernel_rfl) (fun _ _ _ h => h) (Or.inl ⟨by kernel_rfl, ?hr8n8_42⟩) hHeld ?_
                case hr8n8_42 => (intro w hSw; (try dsimp only at hSw); go_simp; try (with_reducible rfl))
                try simp only [List.getElem_toArray, List.getElem_cons_zero, List.getElem_cons_succ, Act.put, List.setIfInBounds_toArray, List.set_cons_zero, List.set_cons_succ]
                refine wpAnyH_take (i := 9) (oi := _) (v := ?vr8n9_43) rfl (by kernel_rfl) (by kernel_rfl) (by kernel_rfl) (fun _ _ _ h => h) (Or.inl ⟨by kernel_rfl, ?hr8n9_43⟩) hHeld ?_
                case hr8n9_43 => (intro w hSw; (try dsimp only at hSw); go_simp; try (with_reducible rfl))
                try simp only [List.getElem_toArray, List.getElem_cons_zero, List.getElem_cons_succ, Act.put, List.setIfInBounds_toArray, List.set_cons_zero, List.set_cons_succ]
                refine wpAnyH_take (i := 10) (oi := _) (v := ?vr8n10_44) rfl (by kernel_rfl) (by kernel_rfl) (by kernel_rfl) (fun _ _ _ h => h) (Or.inl ⟨by kernel_rfl, ?hr8n10_44⟩) hHeld ?_
                case hr8n10_44 => (intro w hSw; (try dsimp only at hSw); go_simp; try (with_reducible rfl))
                try simp only [List.getElem_toArray, List.getElem_cons_zero, List.getElem_cons_succ, Act.put, List.setIfInBounds_toArray, List.set_cons_zero, List.set_cons_succ]
                refine wpAnyH_take (i := 11) (oi := _) (v := ?vr8n11_45) rfl (by kernel_rfl) (by kernel_rfl) (by kernel_rfl) (fun _ _ _ h => h) (Or.inl ⟨by kernel_rfl, ?hr8n11_45⟩) hHeld ?_
                case hr8n11_45 => (intro w hSw; (try dsimp only at hSw); go_simp; try (with_reducible rfl))
                try simp only [List.getElem_toArray, List.getElem_cons_zero, List.getElem_cons_succ, Act.put, List.setIfInBounds_toArray, List.set_cons_zero, List.set_cons_succ]
                refine wpAnyH_take (i := 12) (oi := _) (v := ?vr8n12_46) rfl (by kernel_rfl) (by kernel_rfl) (by kernel_rfl) (fun _ _ _ h => h) (Or.inl ⟨by kernel_rfl, ?hr8n12_46⟩) hHeld ?_
                case hr8n12_46 => (intro w hSw; (try dsimp only at hSw); go_simp; try (with_reducible rfl))
                try simp only [List.getElem_toArray, List.getElem_cons_zero, List.getElem_cons_succ, Act.put, List.setIfInBounds_toArray, List.set_cons_zero, List.set_cons_succ]
                refine wpAnyH_ready (rs := [13]) (by kernel_rfl) (by simp) ?_
                refine AllReadyH.cons (o := _) rfl (fun K hK => ?_) AllReadyH.nil
                go_simp
                (go_at_call 49; refine (HSA.out _).mono ?_; rintro e y1 ⟨rfl, hb⟩; have HY1 := Lib.hid (Below.step HY0.out hb); clear hb)
                refine hK.out _ _ ?_ (fun hHeld1 => ?_)
                · (first | exact HCE.out _ HY1.out)
                clear hHeld hK K
                try simp only [List.getElem_toArray, List.getElem_cons_zero, List.getElem_cons_succ, Act.put, List.setIfInBounds_toArray, List.set_cons_zero, List.set_cons_succ]
                refine wpAnyH_take (i := 14) (oi := _) (v := ?vr8n14_47) rfl (by kernel_rfl) (by kernel_rfl) (by kernel_rfl) (fun _ _ _ h => h) (Or.inl ⟨by kernel_rfl, ?hr8n14_47⟩) hHeld1 ?_
                case hr8n14_47 => (intro w hSw; (try dsimp only at hSw); go_simp; try (with_reducible rfl))
                try simp only [List.getElem_toArray, List.getElem_cons_zero, List.getElem_cons_succ, Act.put, List.setIfInBounds_toArray, List.set_cons_zero, List.set_cons_succ]
                refine wpAnyH_take (i := 15) (oi := _) (v := ?vr8n15_48) rfl (by kernel_rfl) (by kernel_rfl) (by kernel_rfl) (fun _ _ _ h => h) (Or.inl ⟨by kernel_rfl, ?hr8n15_48⟩) hHeld1 ?_
                case hr8n15_48 => (intro w hSw; (try dsimp only at hSw); go_simp; try (with_reducible rfl))
                try simp only [List.getElem_toArray, List.getElem_cons_zero, List.getElem_cons_succ, Act.put, List.setIfInBounds_toArray, List.set_cons_zero, List.set_cons_succ]
                refine wpAnyH_done (by kernel_rfl) ?_ _
                refine NoPanic.normal ?_
                go_wp2
                go_roundg (n - (i + 1))
                case measure => omega
                case rel => exact ⟨i + 1, by go_num, by omega, Nat.le_refl _, Lib.hid (HNXa.out (by first | rfl | trivial)), HY1⟩
            · have hltz : ¬ (i : Int) < (n : Int) := by omega
              have mixed : Try.prog.follows .mixedOrders = true := by kernel_rfl
              go_upto_region 9 with fail
              go_quiet (fail)
              go_wp2_with fail
              go_meet
              exact ⟨i, rfl, hi, HNO.out, fun h => by have := HEN.out; omega, Below.drewN HBR.out _⟩
        case rest =>
          obtain ⟨i, rfl, hi, hno, hyes, hb6⟩ := hcut
          obtain ⟨w6, rfl⟩ : ∃ w6 : World, w6 = wc := ⟨_, rfl⟩
          have HNO := Lib.hid hno
          have HYES := Lib.hid hyes
          have HB56 := Lib.hid hb6
          have HO6 := Lib.hid (own_keptB HO5.out hb6)
          have HB6 := Lib.hid (HB5.out.trans (hb6.mono HS5.out))
          have HS6 : Hid (b0 + 5 ≤ w6.heap.size) := Lib.hid (by have := HB6.out.size; have := HS3.out; omega)
          clear hno hyes hb6
          go_upto_if 61 with fail
          go_cut [8, 9, 10, 11] from 58 to 84 (fun x8 x9 x10 x11 wx => ∃ (pre : List Rd) (d : Rd) (post : List Rd) (A8 : Option Addr) (c8 : Nat) (A10 : Option Addr) (c10 : Nat), x8 = .slice A8 (pre ++ d :: post).length c8 ∧ x9 = .int .i64 (pre.length : Int) ∧ x10 = .slice A10 d.L.length c10 ∧ x11 = .int .i64 d.age ∧ FindV E p pre d post ∧ (pre ++ d :: post).length ≤ 4 ∧ wx.ownsRow (b0 + 5) 100 2 (.slice A8 (pre ++ d :: post).length c8) (pre ++ d :: post).length (flatR (pre ++ d :: post)) ∧ PkO wx A10 c10 d.L ∧ (∀ g, A10 = some ⟨g, 0, none⟩ → b0 + 5 ≤ g) ∧ LOk d.L ∧ d.L.length ≤ 900 ∧ Below (b0 + 5) w3 wx)
          case first =>
            by_cases hlt : i < n
            · have hltz : (i : Int) < (n : Int) := by omega
              have hi0 : 0 ≤ (i : Int) := by omega
              have hiE : i < E.length := by have := HEN.out; omega
              obtain ⟨g1, rfl, hg5, hg1, hcells⟩ : ∃ g, A1 = some ⟨g, 0, none⟩ ∧ b0 + 5 ≤ g ∧ g < w5.heap.size ∧ ∀ j u, (flatR E)[j]? = some u → w5.cell? ⟨g, j, none⟩ = some u := by
                rcases HL1.out with ⟨_, _, h0, _⟩ | h
                · omega
                · exact h
              have hsplit : E.take i ++ E[i] :: E.drop (i + 1) = E := by rw [List.getElem_cons_drop, List.take_append_drop]
              have hfv : FindV E p (E.take i) E[i] (E.drop (i + 1)) := by
                refine Or.inl ⟨hsplit.symm, HYES.out hiE, fun x hx => ?_⟩
                obtain ⟨j, hj, rfl⟩ := List.getElem_of_mem hx
                rw [List.length_take] at hj
                rw [List.getElem_take]
                exact HNO.out j (by omega) (by omega)
              obtain ⟨hP, hne, hok, h900⟩ := HE.out E[i] (List.getElem_mem _)
              have hpre : (E.take i).length = i := by rw [List.length_take]; omega
              have ch : w6.cell? ⟨g1, i * 2, none⟩ = some (.slice E[i].A E[i].L.length E[i].c) := (HB56.out.cell (p := ⟨g1, i * 2, none⟩) hg1).trans (hcells _ _ (flatR_get E i hiE).1)
              have HCA : Hid (∀ W, Below w6.heap.size w6 W → W.cell? ⟨g1, i * 2 + 1, none⟩ = some (.int .i64 E[i].age)) := Lib.hid (fun W hb => (hb.cell (p := ⟨g1, i * 2 + 1, none⟩) (Nat.lt_of_lt_of_le hg1 HB56.out.size)).trans ((HB56.out.cell (p := ⟨g1, i * 2 + 1, none⟩) hg1).trans (hcells _ _ (flatR_get E i hiE).2)))
              have HFV := Lib.hid hfv
              have HSP := Lib.hid hsplit
              have HPRE := Lib.hid hpre
              have HP6 : Hid (PsAt w6 w.heap.size E[i].A E[i].L) := Lib.hid (by
                have hb := HWB.out.trans (Below.mono HB6.out (show b0 ≤ b0 + 5 by omega))
                rw [HB0.out] at hb
                exact hP.below hb)
              have HME := Lib.hid (And.intro hne (And.intro hok h900))
              clear hcells hfv hsplit hpre hP hne hok
              generalize E[i] = r at ch HCA HFV HSP HP6 HME h900
              obtain ⟨rA, hrA⟩ : ∃ x, x = r.A := ⟨_, rfl⟩
              rw [← hrA] at ch HP6
              have rfl_ : True := trivial
              clear hrA rfl_
              have tokD : True := trivial
              go_upto_region 15 with (have _t := tokD; clear tokD; at_builtin; go_loud (refine wpList_appPs rfl (.tmp 62) (.tmp 67) rfl (b0 + 5) r.L rfl rA r.c rfl w.heap.size HP6.out HME.out.1 (by omega) HS6.out ?_; intro gp cp w7 hrow hb7 hgp; have HR7 := Lib.hid hrow; have HB67 := Lib.hid hb7; have HGP := Lib.hid hgp; clear hrow hb7 hgp))
              have ca := HCA.out w7 HB67.out
              have HO7 := Lib.hid (own_keptB HO6.out HB67.out)
              have HB7 := Lib.hid (HB6.out.trans (HB67.out.mono HS6.out))
              go_wp2_with fail
              go_meet
              refine ⟨E.take i, r, E.drop (i + 1), some ⟨g1, 0, none⟩, c1, some ⟨gp, 0, none⟩, cp, ?_, ?_, rfl, rfl, HFV.out, ?_, ?_, Or.inr ⟨gp, rfl, HR7.out⟩, fun g e => by have := HGP.out; injection e with e; injection e with e; omega, HME.out.2.1, HME.out.2.2, HB7.out⟩
              · rw [HSP.out, ← HEN.out]
              · rw [HPRE.out]
              · rw [HSP.out, ← HEN.out]; exact h4
              · rw [HSP.out, ← HEN.out]; exact HO7.out
            · have hltz : ¬ (i : Int) < (n : Int) := by omega
              have HNO2 : Hid (∀ x ∈ E, sameW (hdP x) p = false) := Lib.hid (fun x hx => by
                obtain ⟨j, hj, rfl⟩ := List.getElem_of_mem hx
                exact HNO.out j hj (by have := HEN.out; omega))
              by_cases hn4 : n = 4
              · have hnz : ((n : Int) == 4) = true := by rw [hn4]; rfl
                have HWO := Lib.hid (without_any (b0 + 5) (.slice A1 n c1) n E 0 (by omega) (by omega) w6 HS6.out HO6.out)
                have HKE : Hid (E.take 0 ++ E.drop (0 + 1) = keepR E) := Lib.hid (by unfold keepR; rw [if_pos (by have := HEN.out; omega)]; simp)
                rw [HKE.out] at HWO
                have HN4 := Lib.hid hn4
                clear hn4
                go_wp2_with fail
                refine HWO.out.mono ?_
                rintro e w7 ⟨v7, rfl, ho7, hb7⟩
                have HB7 := Lib.hid (HB6.out.trans (hb7.mono HS6.out))
                have HS7 : Hid (b0 + 5 ≤ w7.heap.size) := Lib.hid (by have := HB7.out.size; have := HS3.out; omega)
                have HO7 : Hid (w7.ownsRow (b0 + 5) 100 2 v7 (n - 1) (flatR (keepR E))) := Lib.hid (own_weakR ho7 HS6.out)
                have HK3 : Hid ((keepR E).length ≤ 3 ∧ n - 1 = (keepR E).length) := Lib.hid (by have := (own_dg ho7).1; have := HN4.out; omega)
                obtain ⟨n0, hn0⟩ : ∃ x, x = n - 1 := ⟨_, rfl⟩
                rw [← hn0] at HO7 HK3
                obtain ⟨A0, c0, hv0, hc01, hc02, _⟩ := slice_of v7 w7 HO7.out
                subst hv0
                clear ho7 hb7 HWO hn0
                have hn0z : (0 : Int) ≤ (n0 : Int) := by omega
                have hn63 : (n0 : Int) ≤ 3 := by have := HK3.out; omega
                have h0l : (Below w7.heap.size w7 (w7.alloc (.cells (rdC ⟨none, 0, [], 0⟩) 100))) := (Below.refl _ w7).alloc (Nat.le_refl _) _
                have HOa := Lib.hid (own_keptB HO7.out h0l)
                have HBa := Lib.hid (HB7.out.trans (h0l.mono HS7.out))
                have HEa := Lib.hid (Blk.new w7 100 (rdC ⟨none, 0, [], 0⟩) 0 0 (Or.inl (Nat.le_refl _)))
                clear h0l
                have tokS : True := trivial
                go_wp2_with (first
                  | (have _t := tokS; refine wpList_bsD rfl (.tmp 82) rfl ⟨none, 0, [], 0⟩ rfl ?_; clear tokS; generalize World.alloc _ _ = y8 at HOa HBa HEa ⊢; have tokT : True := trivial)
                  | (have _t := tokT; clear tokT; at_builtin; go_loud (refine wpList_appD rfl (.tmp 81) (.tmp 83) rfl (b0 + 5) (.slice A0 n0 c0) n0 (keepR E) rfl HOa.out (some ⟨w7.heap.size, 0, none⟩) 1 1 [⟨none, 0, [], 0⟩] rfl rfl (Or.inr ⟨w7.heap.size, 0, rfl, fun j u hj => by have := rblk_cells HEa.out j u hj; rw [addr_add] at this; exact this⟩) (by have := HK3.out; omega) (by have := HBa.out.size; have := HS3.out; omega) ?_; intro v9 w9 hown9 hg9; have HO9 := Lib.hid hown9; have HB9 := Lib.hid (HBa.out.trans (grown_below hg9 (fun q hq => (HOa.out.lt q hq).1) (by have := HBa.out.size; have := HS3.out; omega))); obtain ⟨A9, c9, hv9, _, _, _⟩ := slice_of v9 w9 hown9; subst hv9; clear hown9 hg9)))
                go_meet
                have hlen : (keepR E ++ (⟨none, 0, [], 0⟩ : Rd) :: []).length = n0 + 1 := by rw [List.length_append]; have := HK3.out.2; simp; omega
                exact ⟨keepR E, ⟨none, 0, [], 0⟩, [], A9, c9, none, 0, by rw [hlen], by rw [← HK3.out.2], rfl, rfl, Or.inr ⟨HNO2.out, rfl, rfl, rfl, rfl⟩, by rw [hlen]; have := HK3.out; omega, by rw [hlen]; exact HO9.out, Or.inl ⟨rfl, rfl, rfl⟩, (fun g e => (by cases e)), LOk.nil, (by show 0 ≤ 900; omega), HB9.out⟩
              · have hnz : ((n : Int) == 4) = false := beq_eq_false_iff_ne.2 (by omega)
                have HB7 := HB6
                have HS7 := HS6
                have HK0 : Hid (keepR E = E) := Lib.hid (by unfold keepR; rw [if_neg (by have := HEN.out; omega)])
                have HO7 : Hid (w6.ownsRow (b0 + 5) 100 2 (.slice A1 n c1) n (flatR (keepR E))) := Lib.hid (by rw [HK0.out]; exact HO6.out)
                have HK3 : Hid ((keepR E).length ≤ 3 ∧ n = (keepR E).length) := Lib.hid (by rw [HK0.out]; have := HEN.out; omega)
                clear hn4
                have hn0z : (0 : Int) ≤ (n : Int) := by omega
                have hn63 : (n : Int) ≤ 3 := by have := HK3.out; omega
                have h0l : (Below w6.heap.size w6 (w6.alloc (.cells (rdC ⟨none, 0, [], 0⟩) 100))) := (Below.refl _ w6).alloc (Nat.le_refl _) _
                have HOa := Lib.hid (own_keptB HO7.out h0l)
                have HBa := Lib.hid (HB7.out.trans (h0l.mono HS7.out))
                have HEa := Lib.hid (Blk.new w6 100 (rdC ⟨none, 0, [], 0⟩) 0 0 (Or.inl (Nat.le_refl _)))
                clear h0l
                have tokS : True := trivial
                go_wp2_with (first
                  | (have _t := tokS; refine wpList_bsD rfl (.tmp 82) rfl ⟨none, 0, [], 0⟩ rfl ?_; clear tokS; generalize World.alloc _ _ = y8 at HOa HBa HEa ⊢; have tokT : True := trivial)
                  | (have _t := tokT; clear tokT; at_builtin; go_loud (refine wpList_appD rfl (.tmp 81) (.tmp 83) rfl (b0 + 5) (.slice A1 n c1) n (keepR E) rfl HOa.out (some ⟨w6.heap.size, 0, none⟩) 1 1 [⟨none, 0, [], 0⟩] rfl rfl (Or.inr ⟨w6.heap.size, 0, rfl, fun j u hj => by have := rblk_cells HEa.out j u hj; rw [addr_add] at this; exact this⟩) (by have := HK3.out; omega) (by have := HBa.out.size; have := HS3.out; omega) ?_; intro v9 w9 hown9 hg9; have HO9 := Lib.hid hown9; have HB9 := Lib.hid (HBa.out.trans (grown_below hg9 (fun q hq => (HOa.out.lt q hq).1) (by have := HBa.out.size; have := HS3.out; omega))); obtain ⟨A9, c9, hv9, _, _, _⟩ := slice_of v9 w9 hown9; subst hv9; clear hown9 hg9)))
                go_meet
                have hlen : (keepR E ++ (⟨none, 0, [], 0⟩ : Rd) :: []).length = n + 1 := by rw [List.length_append]; have := HK3.out.2; simp; omega
                exact ⟨keepR E, ⟨none, 0, [], 0⟩, [], A9, c9, none, 0, by rw [hlen], by rw [← HK3.out.2], rfl, rfl, Or.inr ⟨HNO2.out, rfl, rfl, rfl, rfl⟩, by rw [hlen]; have := HK3.out; omega, by rw [hlen]; exact HO9.out, Or.inl ⟨rfl, rfl, rfl⟩, (fun g e => (by cases e)), LOk.nil, (by show 0 ≤ 900; omega), HB9.out⟩
          case rest =>
            obtain ⟨pre, d, post, A8, c8, A10, c10, rfl, rfl, rfl, rfl, hfv, hl4, ho7, hpk, hpb, hok, h900, hb7⟩ := hcut
            obtain ⟨w7, rfl⟩ : ∃ w7 : World, w7 = wc := ⟨_, rfl⟩
            obtain ⟨n8, hn8⟩ : ∃ x, x = (pre ++ d :: post).length := ⟨_, rfl⟩
            rw [← hn8] at ho7 hl4 ⊢
            have HN8 : Hid (n8 = pre.length + post.length + 1) := Lib.hid (by rw [hn8]; simp; omega)
            clear hn8
            have HFV := Lib.hid hfv
            have HO7 := Lib.hid ho7
            have HPK := Lib.hid hpk
            have HPB := Lib.hid hpb
            have HLO := Lib.hid hok
            have HB7 := Lib.hid hb7
            have HX7 := Lib.hid (HX.out.at hb7)
            have HS7 : Hid (b0 + 5 ≤ w7.heap.size) := Lib.hid (by have := hb7.size; have := HS3.out; omega)
            have HL4 := Lib.hid hl4
            clear hfv ho7 hpk hpb hok hb7 HO5 HB5 HX5 HW5 HS5 HL1 HHD HNO HYES HB56 HO6 HB6 HS6 hi HSRW hc11 hc12'
            obtain ⟨m, hm⟩ : ∃ m, m = d.L.length := ⟨_, rfl⟩
            rw [← hm] at h900 ⊢
            have HM2 := Lib.hid hm
            clear hm hl4
            obtain ⟨c11, c12, c13⟩ := pk_c5 HX7.out.p
            have hmb := HMT.out.b
            obtain ⟨ev, hev⟩ : ∃ e, e = endP p := ⟨_, rfl⟩
            have hsum : p.a + (p.d.length : Int) = ev := hev.symm
            have hwe : IntKind.i64.wrap ev = ev := IntWalk.i64_in _ ⟨by omega, by omega⟩
            have HEV := Lib.hid hev
            clear hev hmb
            go_upto_region 22 with fail
            clear c11 c12 c13 hsum
            go_wp2_with fail
            go_loopg [13, 14] m (fun kx s13 s14 wr => ∃ (k : Nat) (fk : Bool), s13 = .bool fk ∧ s14 = .int .i64 (k : Int) ∧ k ≤ m ∧ m - k ≤ kx ∧ Hid (fk = (decide (ev ≤ 1200) && (d.L.take k).all (fun x => !clash x p))) ∧ Hid (∀ x ∈ d.L.take k, sameB x p = false) ∧ Hid (Below w7.heap.size w7 wr))
            case atStart => exact ⟨0, _, rfl, rfl, Nat.zero_le _, by omega, Lib.hid (by simp), Lib.hid (fun x hx => by simp at hx), Lib.hid (Below.refl _ _)⟩
            case round =>
              obtain ⟨k, fk, rfl, rfl, hk, hkx, HFK, HSB, HBR⟩ := hrel
              obtain ⟨wo, rfl⟩ : ∃ wo : World, wo = wr := ⟨_, rfl⟩
              by_cases hlt : k < m
              · have hltz : (k : Int) < (m : Int) := by omega
                have hk0 : 0 ≤ (k : Int) := by omega
                have hkL : k < d.L.length := by rw [← HM2.out]; exact hlt
                obtain ⟨gp, rfl, hrow⟩ : ∃ g, A10 = some ⟨g, 0, none⟩ ∧ PkRow w7 g c10 d.L := by
                  rcases HPK.out with ⟨_, _, h0⟩ | h
                  · rw [h0] at hkL; simp at hkL
                  · exact h
                have hld : (Ld 25 (.pointer (some ⟨gp, k * 14, none⟩))).run Try.prog wo = .ok (.agg d.L[k].c) wo := by
                  obtain ⟨g', o', he, _, hcs⟩ := (hrow.below HBR.out).ps.cells k hkL
                  injection he with he
                  injection he with he1 he2
                  subst he1
                  subst he2
                  have := ps_ld hcs k hkL
                  rw [Nat.zero_add] at this
                  exact this
                have hmx : May d.L[k] := (HLO.out.each _ (List.getElem_mem _)).1
                have HSN : Hid (d.L.take (k + 1) = d.L.take k ++ [d.L[k]]) := Lib.hid (take_snocP d.L k hkL)
                have HIN : Hid (d.L[k] ∈ d.L) := Lib.hid (List.getElem_mem _)
                have HCR : Hid ((ovN d.L[k] p p.d.length || cl2 d.L[k] p) = clash d.L[k] p) := Lib.hid (clash_ref hmx HMT.out)
                have HMX := Lib.hid hmx
                have HROW := Lib.hid hrow
                clear hmx hrow
                generalize d.L[k] = x at hld HSN HIN HCR HMX
                have hal := (Below.refl wo.heap.size wo).alloc (Nat.le_refl _) (.cells pk0 25)
                have HN := Lib.hid (Blk.new wo 25 pk0 0 0 (Or.inl (Nat.le_refl _)))
                have HA := Lib.hid hal
                rw [pk0_lit] at HN HA
                clear hal
                have tokX : True := trivial
                go_upto_region 26 with (have _t := tokX; generalize World.alloc _ _ = y0 at HN HA ⊢; rw [← pk0_lit] at HN; refine wp_st_pkt rfl _ _ rfl wo.heap.size x HN rfl rfl ?_; clear tokX; have HQx : Hid (Blk (World.setCells y0 wo.heap.size 0 x.c.toList) wo.heap.size 25 x.c) := Lib.hid (HN.out.setAll (Pkt.c_size _)); have HBq := Lib.hid (Below.setCells HA.out (Nat.le_refl _) 0 x.c.toList); clear HN HA; generalize World.setCells _ _ _ _ = z0 at HQx HBq ⊢)
                obtain ⟨qb, hqb⟩ : ∃ q, q = wo.heap.size := ⟨_, rfl⟩
                rw [← hqb] at HQx ⊢
                have HBZ := Lib.hid (Below.step HBR.out HBq.out)
                have HB3Z := Lib.hid (HB7.out.trans (HBZ.out.mono HS7.out))
                have HXZ := Lib.hid (HX.out.at HB3Z.out)
                have HWZ : Hid (Below b0 w z0) := Lib.hid (HWB.out.trans (Below.mono HB3Z.out (by omega)))
                clear hqb hld HBq
                obtain ⟨x11, x12, x13⟩ := pk_c5 HQx.out
                obtain ⟨p11, p12, p13⟩ := pk_c5 HXZ.out.p
                have hxb := HMX.out.b
                have hpb' := HMT.out.b
                obtain ⟨ex, hex⟩ : ∃ e, e = endP x := ⟨_, rfl⟩
                have hsum : x.a + (x.d.length : Int) = ex := hex.symm
                have hwx : IntKind.i64.wrap ex = ex := IntWalk.i64_in _ ⟨by omega, by omega⟩
                have HEX := Lib.hid hex
                have HSBV : Hid (sameB x p = (decide (x.a = p.a) && ((x.d == p.d) && (x.mo == p.mo)))) := Lib.hid rfl
                have HCL : Hid (cl2 x p = ((!x.mo && decide (ex < ev)) || (!p.mo && (decide (ev < ex) || !x.mo)))) := Lib.hid (by rw [HEX.out, HEV.out]; rfl)
                have hxa : 0 ≤ x.a ∧ x.a ≤ 65528 := ⟨hxb.1, hxb.2.1⟩
                have hpa : 0 ≤ p.a ∧ p.a ≤ 65528 := ⟨hpb'.1, hpb'.2.1⟩
                have hplen : p.a + (p.d.length : Int) ≤ 65515 := hpb'.2.2.2.1
                obtain ⟨hxa1, hxa2⟩ := hxa
                obtain ⟨hpa1, hpa2⟩ := hpa
                clear hex hxb hpb'
                go_upto_region 27 with fail
                clear hsum
                go_cut [127] from 109 to 126 (fun u wx => u = .bool (sameB x p) ∧ wx = z0)
                case first =>
                  by_cases h1 : x.a = p.a
                  · have h1' : (x.a == p.a) = true := beq_iff_eq.2 h1
                    have H1 := Lib.hid h1
                    by_cases h2 : x.d = p.d
                    · have h2' : (x.d == p.d) = true := beq_iff_eq.2 h2
                      have H2 := Lib.hid h2
                      rw [h2] at x13
                      clear h1 h2
                      rw [H1.out] at x11
                      by_cases h3 : x.mo = p.mo
                      · have H3 := Lib.hid h3
                        rw [h3] at x12
                        clear h3
                        go_wp2_with fail
                        go_meet
                        exact ⟨congrArg Value.bool (by rw [HSBV.out, H1.out, H2.out, H3.out]; simp), rfl⟩
                      · have h3' : (x.mo == p.mo) = false := beq_eq_false_iff_ne.2 h3
                        have H3 := Lib.hid h3'
                        go_wp2_with fail
                        go_meet
                        exact ⟨congrArg Value.bool (by rw [HSBV.out, H3.out]; simp), rfl⟩
                    · have h2' : (x.d == p.d) = false := beq_eq_false_iff_ne.2 h2
                      have H2 := Lib.hid h2'
                      rw [h1] at x11
                      clear h1
                      go_wp2_with fail
                      go_meet
                      exact ⟨congrArg Value.bool (by rw [HSBV.out, H2.out]; simp), rfl⟩
                  · have h1' : (x.a == p.a) = false := beq_eq_false_iff_ne.2 h1
                    have H1 := Lib.hid h1
                    go_wp2_with fail
                    go_meet
                    exact ⟨congrArg Value.bool (by rw [HSBV.out, decide_eq_false H1.out]; simp), rfl⟩
                case rest =>
                  obtain ⟨rfl, rfl⟩ := hcut
                  obtain ⟨z0, rfl⟩ : ∃ z0 : World, z0 = wc := ⟨_, rfl⟩
                  obtain ⟨sb, hsb⟩ : ∃ sb, sb = sameB x p := ⟨_, rfl⟩
                  rw [← hsb]
                  have HSBX : Hid (sameB x p = sb) := Lib.hid hsb.symm
                  clear hsb
                  cases sb with
                  | true =>
                    go_upto_region 28 with fail
                    have HNk : Hid (Blk z0 (b0 + 1 + 1 + 1 + 1) 25 pkt0.c) := Lib.hid HXZ.out.nb
                    clear x11 x12 x13 p11 p12 p13
                    have HSB3 : Hid ((b0 + 1 + 1 + 1 + 1) ≠ b0 + 1 + 1 ∧ (b0 + 1 + 1 + 1 + 1) ≠ b0 + 1 + 1 + 1) := Lib.hid (by omega)
                    have hS3 : Bx (World.drew z0) b0 lim (.slice A n c) p ∧ Blk (World.drew z0) (b0 + 1 + 1 + 1 + 1) 25 (pkt0).c := ⟨⟨HXZ.out.j.drew, HXZ.out.p.drew, HXZ.out.rj.drew, HXZ.out.rp.drew, HXZ.out.nb.drew⟩, HNk.out.drew⟩
                    have HS3 := Lib.hid hS3
                    have hst3 := st_rj_run hS3.1.rj rfl lim (.slice A n c) HONE.out
                    clear hS3
                    refine wp_region_noPanic ?_
                    refine wp_region_held_drew (S := (fun w' => w'.cell? ⟨b0, 0, none⟩ = some (.int .i64 lim) ∧ w'.cell? ⟨b0, 1, none⟩ = some (.slice A n c) ∧ (Ld 25 (.pointer (some ⟨(b0 + 1 + 1 + 1 + 1), 0, none⟩))).run Try.prog w' = .ok (.agg (pkt0).c) w')) (by kernel_rfl) (by first | exact ⟨(by rw [HS3.out.1.j.cell]; rfl), (by rw [HS3.out.1.j.cell]; rfl), HS3.out.2.ld_pkt⟩) (fun hHeld => ?_)
                    refine wpAnyH_take (i := 0) (oi := _) (v := ?vr3n0_7) rfl (by kernel_rfl) (by kernel_rfl) (by kernel_rfl) (fun _ _ _ h => h) (Or.inl ⟨by kernel_rfl, ?hr3n0_7⟩) hHeld ?_
                    case hr3n0_7 => (intro w hSw; (try dsimp only at hSw); go_simp; try (with_reducible rfl))
                    try simp only [List.getElem_toArray, List.getElem_cons_zero, List.getElem_cons_succ, Act.put, List.setIfInBounds_toArray, List.set_cons_zero, List.set_cons_succ]
                    refine wpAnyH_take (i := 1) (oi := _) (v := ?vr3n1_8) rfl (by kernel_rfl) (by kernel_rfl) (by kernel_rfl) (fun _ _ _ h => h) (Or.inl ⟨by kernel_rfl, ?hr3n1_8⟩) hHeld ?_
                    case hr3n1_8 => (intro w hSw; (try dsimp only at hSw); go_simp; try (with_reducible rfl))
                    try simp only [List.getElem_toArray, List.getElem_cons_zero, List.getElem_cons_succ, Act.put, List.setIfInBounds_toArray, List.set_cons_zero, List.set_cons_succ]
                    refine wpAnyH_ready (rs := [2]) (by kernel_rfl) (by simp) ?_
                    refine AllReadyH.cons (o := _) rfl (fun K hK => ?_) AllReadyH.nil
                    go_simp
                    (have HY3 : Hid (Blk (World.setCells (World.drew z0) (b0 + 1 + 1) 0 [.int .i64 lim, .slice A n c]) (b0 + 1 + 1) 62 #[.int .i64 lim, .slice A n c]) := Lib.hid (HS3.out.1.rj.setAll (cs := #[.int .i64 lim, .slice A n c]) rfl); have HYp3 : Hid (Blk (World.setCells (World.drew z0) (b0 + 1 + 1) 0 [.int .i64 lim, .slice A n c]) (b0 + 1 + 1 + 1) 25 pk0) := Lib.hid (HS3.out.1.rp.setCells_other (b0 + 1 + 1) 0 _ (by omega)); have HYj3 : Hid (Blk (World.setCells (World.drew z0) (b0 + 1 + 1) 0 [.int .i64 lim, .slice A n c]) b0 62 #[.int .i64 lim, .slice A n c]) := Lib.hid (HS3.out.1.j.setCells_other (b0 + 1 + 1) 0 _ (by omega)); have HYs3 : Hid (Blk (World.setCells (World.drew z0) (b0 + 1 + 1) 0 [.int .i64 lim, .slice A n c]) (b0 + 1 + 1 + 1 + 1) 25 (pkt0).c) := Lib.hid (HS3.out.2.setCells_other (b0 + 1 + 1) 0 _ HSB3.out.1); have HYb3 : Hid (Below b0 w (World.setCells (World.drew z0) (b0 + 1 + 1) 0 [.int .i64 lim, .slice A n c])) := Lib.hid (Below.setCells (Below.drewN HWZ.out 1) (by omega) 0 _); have HYf3 : Hid (∀ q, q ≠ b0 + 1 + 1 → (World.setCells (World.drew z0) (b0 + 1 + 1) 0 [.int .i64 lim, .slice A n c]).heap[q]? = (z0).heap[q]?) := Lib.hid (fun q hq => heap_setCells _ _ _ _ _ hq); clear hst3; generalize World.setCells _ _ _ _ = Y3 at HY3 HYp3 HYj3 HYs3 HYb3 HYf3 ⊢; have hsu3 := st_pk_run HYp3.out rfl (pkt0))
                    refine hK.out _ _ ?_ (fun hHeld1 => ?_)
                    · (first | exact ⟨(by rw [HYj3.out.cell]; rfl), (by rw [HYj3.out.cell]; rfl), HYs3.out.ld_pkt⟩)
                    clear hHeld hK K
                    try simp only [List.getElem_toArray, List.getElem_cons_zero, List.getElem_cons_succ, Act.put, List.setIfInBounds_toArray, List.set_cons_zero, List.set_cons_succ]
                    refine wpAnyH_ready (rs := [3]) (by kernel_rfl) (by simp) ?_
                    refine AllReadyH.cons (o := _) rfl (fun K hK => ?_) AllReadyH.nil
                    go_simp
                    (have HZ3 : Hid (Blk (World.setCells Y3 (b0 + 1 + 1 + 1) 0 (pkt0).c.toList) (b0 + 1 + 1 + 1) 25 (pkt0).c) := Lib.hid (HYp3.out.setAll (Pkt.c_size _)); have HZr3 : Hid (Blk (World.setCells Y3 (b0 + 1 + 1 + 1) 0 (pkt0).c.toList) (b0 + 1 + 1) 62 #[.int .i64 lim, .slice A n c]) := Lib.hid (HY3.out.setCells_other (b0 + 1 + 1 + 1) 0 _ (by omega)); have HZj3 : Hid (Blk (World.setCells Y3 (b0 + 1 + 1 + 1) 0 (pkt0).c.toList) b0 62 #[.int .i64 lim, .slice A n c]) := Lib.hid (HYj3.out.setCells_other (b0 + 1 + 1 + 1) 0 _ (by omega)); have HZs3 : Hid (Blk (World.setCells Y3 (b0 + 1 + 1 + 1) 0 (pkt0).c.toList) (b0 + 1 + 1 + 1 + 1) 25 (pkt0).c) := Lib.hid (HYs3.out.setCells_other (b0 + 1 + 1 + 1) 0 _ HSB3.out.2); have HZb3 : Hid (Below b0 w (World.setCells Y3 (b0 + 1 + 1 + 1) 0 (pkt0).c.toList)) := Lib.hid (Below.setCells HYb3.out (show b0 ≤ b0 + 1 + 1 + 1 by omega) 0 _); have HZf3 : Hid (∀ q, q ≠ b0 + 1 + 1 → q ≠ b0 + 1 + 1 + 1 → (World.setCells Y3 (b0 + 1 + 1 + 1) 0 (pkt0).c.toList).heap[q]? = (z0).heap[q]?) := Lib.hid (fun q hq hq2 => (heap_setCells _ _ _ _ _ hq2).trans (HYf3.out q hq)); clear hsu3; generalize World.setCells _ _ _ _ = Z3 at HZ3 HZr3 HZj3 HZs3 HZb3 HZf3 ⊢)
                    refine hK.out _ _ ?_ (fun hHeld2 => ?_)
                    · (first | exact ⟨(by rw [HZj3.out.cell]; rfl), (by rw [HZj3.out.cell]; rfl), HZs3.out.ld_pkt⟩)
                    clear hHeld1 hK K
                    try simp only [List.getElem_toArray, List.getElem_cons_zero, List.getElem_cons_succ, Act.put, List.setIfInBounds_toArray, List.set_cons_zero, List.set_cons_succ]
                    refine wpAnyH_take (i := 4) (oi := _) (v := ?vr3n4_9) rfl (by kernel_rfl) (by kernel_rfl) (by kernel_rfl) (fun _ _ _ h => h) (Or.inl ⟨by kernel_rfl, ?hr3n4_9⟩) hHeld2 ?_
                    case hr3n4_9 => (intro w hSw; (try dsimp only at hSw); go_simp; try (with_reducible rfl))
                    try simp only [List.getElem_toArray, List.getElem_cons_zero, List.getElem_cons_succ, Act.put, List.setIfInBounds_toArray, List.set_cons_zero, List.set_cons_succ]
                    refine wpAnyH_done (by kernel_rfl) ?_ _
                    refine NoPanic.normal ?_
                    go_wp2_with fail
                    exact bodyPost_ret (results_cct Try.results26 _ _ (b0 + 1 + 1) (b0 + 1 + 1 + 1) _ _ _ _ _ _ rfl HZr3.out Try.underlying62 rfl size_rj rfl HZ3.out Try.underlying25 rfl (by rw [Pkt.c_size]; exact size_pk)) rfl (HQ.out _ _ _ _ _ (.same HMT.out HWH.out HFV.out (List.any_eq_true.2 ⟨x, HIN.out, HSBX.out⟩)) (Or.inl ⟨rfl, rfl⟩) (by have := HZb3.out; rw [HB0.out] at this; exact this))
                  | false =>
                    obtain ⟨pl, hpl⟩ : ∃ l, l = p.d.length := ⟨_, rfl⟩
                    have HPL := Lib.hid hpl
                    rw [← hpl] at hplen HCR
                    have p13' : ∃ D : ByteArray, z0.cell? ⟨b0 + 1, 13, none⟩ = some (.string D) ∧ D.size = pl := ⟨_, p13, by rw [hpl]; exact List.size_toArray ..⟩
                    obtain ⟨D, p13b, hD⟩ := p13'
                    clear hpl p13
                    go_wp2_with fail
                    go_loopg [13, 17] pl (fun kx s13 s17 wq => ∃ (t : Nat) (f : Bool), s13 = .bool f ∧ s17 = .int .i64 (t : Int) ∧ t ≤ pl ∧ pl - t ≤ kx ∧ Hid (f = (fk && !ovN x p t)) ∧ Hid (wq = z0))
                    case atStart => exact ⟨0, fk, rfl, rfl, Nat.zero_le _, by omega, Lib.hid (by simp [ovN]), Lib.hid rfl⟩
                    case round =>
                      obtain ⟨t, f, rfl, rfl, ht, hkt, HF, HWq⟩ := hrel
                      have hw := HWq.out
                      clear HWq
                      obtain ⟨wq, rfl⟩ : ∃ wq : World, wq = wr := ⟨_, rfl⟩
                      subst hw
                      by_cases htl : t < pl
                      · have htz : (t : Int) < (pl : Int) := by omega
                        have hwt : IntKind.i64.wrap (p.a + (t : Int)) = p.a + (t : Int) := IntWalk.i64_in _ ⟨by omega, by omega⟩
                        have HFN : Hid ((fk && !ovN x p (t + 1)) = (f && !(decide (x.a ≤ p.a + (t : Int)) && decide (p.a + (t : Int) < ex)))) := Lib.hid (by rw [ovN_succ, HF.out, HEX.out]; cases fk <;> cases ovN x p t <;> simp)
                        by_cases g1 : x.a ≤ p.a + (t : Int)
                        · by_cases g2 : p.a + (t : Int) < ex
                          · have HG : Hid ((fk && !ovN x p (t + 1)) = false) := Lib.hid (by rw [HFN.out, decide_eq_true g1, decide_eq_true g2]; simp)
                            go_wp2
                            go_roundg (pl - (t + 1))
                            case measure => omega
                            case rel => exact ⟨t + 1, false, rfl, by go_num, by omega, Nat.le_refl _, Lib.hid HG.out.symm, Lib.hid rfl⟩
                          · have HG : Hid ((fk && !ovN x p (t + 1)) = f) := Lib.hid (by rw [HFN.out, decide_eq_true g1, decide_eq_false g2]; simp)
                            go_wp2
                            go_roundg (pl - (t + 1))
                            case measure => omega
                            case rel => exact ⟨t + 1, f, rfl, by go_num, by omega, Nat.le_refl _, Lib.hid HG.out.symm, Lib.hid rfl⟩
                        · have HG : Hid ((fk && !ovN x p (t + 1)) = f) := Lib.hid (by rw [HFN.out, decide_eq_false g1]; simp)
                          go_wp2
                          go_roundg (pl - (t + 1))
                          case measure => omega
                          case rel => exact ⟨t + 1, f, rfl, by go_num, by omega, Nat.le_refl _, Lib.hid HG.out.symm, Lib.hid rfl⟩
                      · have htz : ¬ (t : Int) < (pl : Int) := by omega
                        have htp : t = pl := by omega
                        rw [htp] at HF
                        clear htp
                        go_upto_region 34 with fail
                        obtain ⟨xm, hxm⟩ : ∃ y, y = x.mo := ⟨_, rfl⟩
                        obtain ⟨pm, hpm⟩ : ∃ y, y = p.mo := ⟨_, rfl⟩
                        rw [← hxm] at x12 HCL
                        rw [← hpm] at p12 HCL
                        clear hxm hpm
                        go_cut [174] from 130 to 173 (fun u wx => u = .bool (cl2 x p) ∧ wx = wq)
                        case first =>
                          by_cases e1 : ex < ev
                          · have E1 := Lib.hid (decide_eq_true e1)
                            have e2 : ¬ ev < ex := by omega
                            have E2 := Lib.hid (decide_eq_false e2)
                            cases xm <;> cases pm <;> (go_wp2_with fail; go_meet; exact ⟨congrArg Value.bool (by rw [HCL.out, E1.out, E2.out]; rfl), rfl⟩)
                          · have E1 := Lib.hid (decide_eq_false e1)
                            by_cases e2 : ev < ex
                            · have E2 := Lib.hid (decide_eq_true e2)
                              cases xm <;> cases pm <;> (go_wp2_with fail; go_meet; exact ⟨congrArg Value.bool (by rw [HCL.out, E1.out, E2.out]; rfl), rfl⟩)
                            · have E2 := Lib.hid (decide_eq_false e2)
                              cases xm <;> cases pm <;> (go_wp2_with fail; go_meet; exact ⟨congrArg Value.bool (by rw [HCL.out, E1.out, E2.out]; rfl), rfl⟩)
                        case rest =>
                          obtain ⟨rfl, rfl⟩ := hcut
                          have HFN : Hid ((fk && !(ovN x p pl || cl2 x p)) = (decide (ev ≤ 1200) && (d.L.take (k + 1)).all (fun x => !clash x p))) := Lib.hid (by rw [HCR.out, HFK.out, HSN.out, List.all_append]; simp [Bool.and_assoc])
                          have HSBN : Hid (∀ y ∈ d.L.take (k + 1), sameB y p = false) := Lib.hid (fun y hy => by
                            rw [HSN.out] at hy
                            rcases List.mem_append.1 hy with hy | hy
                            · exact HSB.out y hy
                            · rw [List.mem_singleton.1 hy]; exact HSBX.out)
                          obtain ⟨cb, hcb⟩ : ∃ cb, cb = cl2 x p := ⟨_, rfl⟩
                          rw [← hcb] at HFN ⊢
                          clear hcb HCL
                          cases cb with
                          | true =>
                            go_wp2
                            go_roundg (m - (k + 1))
                            case measure => omega
                            case rel => exact ⟨k + 1, false, rfl, by go_num, by omega, Nat.le_refl _, Lib.hid (by rw [← HFN.out]; simp), HSBN, HBZ⟩
                          | false =>
                            go_wp2
                            go_roundg (m - (k + 1))
                            case measure => omega
                            case rel => exact ⟨k + 1, f, rfl, by go_num, by omega, Nat.le_refl _, Lib.hid (by rw [← HFN.out, HF.out]; simp), HSBN, HBZ⟩
              · have hltz : ¬ (k : Int) < (m : Int) := by omega
                have hkm : d.L.take k = d.L := List.take_of_length_le (by rw [← HM2.out]; omega)
                rw [hkm] at HFK HSB
                have HFI : Hid (fitsV d.L p = fk) := Lib.hid (by unfold fitsV; rw [HFK.out, HEV.out])
                have HAN : Hid (d.L.any (fun x => sameB x p) = false) := Lib.hid (List.any_eq_false.2 (fun x hx => by rw [HSB.out x hx]; simp))
                clear hkm HFK HSB
                have HBo := Lib.hid (HB7.out.trans (HBR.out.mono HS7.out))
                have HXo := Lib.hid (HX.out.at HBo.out)
                have HWo : Hid (Below b0 w wo) := Lib.hid (HWB.out.trans (Below.mono HBo.out (by omega)))
                have HSo : Hid (b0 + 5 ≤ wo.heap.size) := Lib.hid (by have := HBo.out.size; have := HS3.out; omega)
                have HOo := Lib.hid (own_keptB HO7.out HBR.out)
                have HPo := Lib.hid (PkO.same HPK.out (fun g e => HBR.out.block g (HPK.out.lt e)))
                have hpre0 : (0 : Int) ≤ (pre.length : Int) := by omega
                have hprel : (pre.length : Int) < (n8 : Int) := by have := HN8.out; omega
                cases fk with
                | false =>
                  have HWO1 := Lib.hid (without_any (b0 + 5) (.slice A8 n8 c8) n8 (pre ++ d :: post) pre.length (by have := HN8.out; omega) (by have := HL4.out; omega) wo HSo.out HOo.out)
                  have HEQ1 : Hid ((pre ++ d :: post).take pre.length ++ (pre ++ d :: post).drop (pre.length + 1) = pre ++ post) := Lib.hid (by simp)
                  rw [HEQ1.out] at HWO1
                  go_wp2_with fail
                  refine HWO1.out.mono ?_
                  rintro e Wa1 ⟨v1, rfl, ho1, hb1⟩
                  have HOa1 := Lib.hid ho1
                  have HBa1 := Lib.hid hb1
                  have HXa1 : Hid (Bx Wa1 b0 lim (.slice A n c) p) := Lib.hid (HXo.out.at (hb1.mono HSo.out))
                  have HWa1 : Hid (Below b0 w Wa1) := Lib.hid (HWo.out.trans (hb1.mono (by have := HSo.out; omega)))
                  obtain ⟨nk, hnk⟩ : ∃ x, x = n8 - 1 := ⟨_, rfl⟩
                  rw [← hnk] at HOa1
                  obtain ⟨Ak, ck, hvk, _, _, _⟩ := slice_of v1 Wa1 HOa1.out
                  subst hvk
                  have HNK : Hid (nk = (pre ++ post).length) := Lib.hid (own_dg HOa1.out).1
                  clear ho1 hb1 HWO1 hnk
                  have c1 : Wa1.cell? ⟨b0, 1, none⟩ = some (.slice A n c) := by rw [HXa1.out.j.cell]; rfl
                  have f1 := HXa1.out.j.free 1 (show 1 < 2 from by decide)
                  go_upto_region 38 with fail
                  have HXn1 := Lib.hid (HXa1.out.set (.slice Ak nk ck))
                  have HOW1 := Lib.hid (own_ge HOa1.out)
                  have HWn1 : Hid (Below b0 w (World.setCell Wa1 ⟨b0, 1, none⟩ (.slice Ak nk ck))) := Lib.hid (Below.setCell (p := ⟨b0, 1, none⟩) HWa1.out (Nat.le_refl _) _)
                  have HFn1 : Hid (∀ q, q ≠ b0 → (World.setCell Wa1 ⟨b0, 1, none⟩ (.slice Ak nk ck)).heap[q]? = Wa1.heap[q]?) := Lib.hid (fun q hq => RowKit.Below.heap_setCell _ ⟨b0, 1, none⟩ _ q hq)
                  clear c1 f1
                  have HNk : Hid (Blk (World.setCell Wa1 ⟨b0, 1, none⟩ (.slice Ak nk ck)) (b0 + 1 + 1 + 1 + 1) 25 pkt0.c) := Lib.hid HXn1.out.nb
                  have HONE : Hid ((Value.slice Ak nk ck).oneCell' = true) := Lib.hid rfl
                  generalize World.setCell _ _ _ = Wn at HXn1 HWn1 HFn1 HNk ⊢
                  have HSB4 : Hid ((b0 + 1 + 1 + 1 + 1) ≠ b0 + 1 + 1 ∧ (b0 + 1 + 1 + 1 + 1) ≠ b0 + 1 + 1 + 1) := Lib.hid (by omega)
                  have hS4 : Bx (World.drew Wn) b0 lim (.slice Ak nk ck) p ∧ Blk (World.drew Wn) (b0 + 1 + 1 + 1 + 1) 25 (pkt0).c := ⟨⟨HXn1.out.j.drew, HXn1.out.p.drew, HXn1.out.rj.drew, HXn1.out.rp.drew, HXn1.out.nb.drew⟩, HNk.out.drew⟩
                  have HS4 := Lib.hid hS4
                  have hst4 := st_rj_run hS4.1.rj rfl lim (.slice Ak nk ck) HONE.out
                  clear hS4
                  refine wp_region_noPanic ?_
                  refine wp_region_held_drew (S := (fun w' => w'.cell? ⟨b0, 0, none⟩ = some (.int .i64 lim) ∧ w'.cell? ⟨b0, 1, none⟩ = some (.slice Ak nk ck) ∧ (Ld 25 (.pointer (some ⟨(b0 + 1 + 1 + 1 + 1), 0, none⟩))).run Try.prog w' = .ok (.agg (pkt0).c) w')) (by kernel_rfl) (by first | exact ⟨(by rw [HS4.out.1.j.cell]; rfl), (by rw [HS4.out.1.j.cell]; rfl), HS4.out.2.ld_pkt⟩) (fun hHeld => ?_)
                  refine wpAnyH_take (i := 0) (oi := _) (v := ?vr4n0_10) rfl (by kernel_rfl) (by kernel_rfl) (by kernel_rfl) (fun _ _ _ h => h) (Or.inl ⟨by kernel_rfl, ?hr4n0_10⟩) hHeld ?_
                  case hr4n0_10 => (intro w hSw; (try dsimp only at hSw); go_simp; try (with_reducible rfl))
                  try simp only [List.getElem_toArray, List.getElem_cons_zero, List.getElem_cons_succ, Act.put, List.setIfInBounds_toArray, List.set_cons_zero, List.set_cons_succ]
                  refine wpAnyH_take (i := 1) (oi := _) (v := ?vr4n1_11) rfl (by kernel_rfl) (by kernel_rfl) (by kernel_rfl) (fun _ _ _ h => h) (Or.inl ⟨by kernel_rfl, ?hr4n1_11⟩) hHeld ?_
                  case hr4n1_11 => (intro w hSw; (try dsimp only at hSw); go_simp; try (with_reducible rfl))
                  try simp only [List.getElem_toArray, List.getElem_cons_zero, List.getElem_cons_succ, Act.put, List.setIfInBounds_toArray, List.set_cons_zero, List.set_cons_succ]
                  refine wpAnyH_ready (rs := [2]) (by kernel_rfl) (by simp) ?_
                  refine AllReadyH.cons (o := _) rfl (fun K hK => ?_) AllReadyH.nil
                  go_simp
                  (have HY4 : Hid (Blk (World.setCells (World.drew Wn) (b0 + 1 + 1) 0 [.int .i64 lim, .slice Ak nk ck]) (b0 + 1 + 1) 62 #[.int .i64 lim, .slice Ak nk ck]) := Lib.hid (HS4.out.1.rj.setAll (cs := #[.int .i64 lim, .slice Ak nk ck]) rfl); have HYp4 : Hid (Blk (World.setCells (World.drew Wn) (b0 + 1 + 1) 0 [.int .i64 lim, .slice Ak nk ck]) (b0 + 1 + 1 + 1) 25 pk0) := Lib.hid (HS4.out.1.rp.setCells_other (b0 + 1 + 1) 0 _ (by omega)); have HYj4 : Hid (Blk (World.setCells (World.drew Wn) (b0 + 1 + 1) 0 [.int .i64 lim, .slice Ak nk ck]) b0 62 #[.int .i64 lim, .slice Ak nk ck]) := Lib.hid (HS4.out.1.j.setCells_other (b0 + 1 + 1) 0 _ (by omega)); have HYs4 : Hid (Blk (World.setCells (World.drew Wn) (b0 + 1 + 1) 0 [.int .i64 lim, .slice Ak nk ck]) (b0 + 1 + 1 + 1 + 1) 25 (pkt0).c) := Lib.hid (HS4.out.2.setCells_other (b0 + 1 + 1) 0 _ HSB4.out.1); have HYb4 : Hid (Below b0 w (World.setCells (World.drew Wn) (b0 + 1 + 1) 0 [.int .i64 lim, .slice Ak nk ck])) := Lib.hid (Below.setCells (Below.drewN HWn1.out 1) (by omega) 0 _); have HYf4 : Hid (∀ q, q ≠ b0 + 1 + 1 → (World.setCells (World.drew Wn) (b0 + 1 + 1) 0 [.int .i64 lim, .slice Ak nk ck]).heap[q]? = (Wn).heap[q]?) := Lib.hid (fun q hq => heap_setCells _ _ _ _ _ hq); clear hst4; generalize World.setCells _ _ _ _ = Y4 at HY4 HYp4 HYj4 HYs4 HYb4 HYf4 ⊢; have hsu4 := st_pk_run HYp4.out rfl (pkt0))
                  refine hK.out _ _ ?_ (fun hHeld1 => ?_)
                  · (first | exact ⟨(by rw [HYj4.out.cell]; rfl), (by rw [HYj4.out.cell]; rfl), HYs4.out.ld_pkt⟩)
                  clear hHeld hK K
                  try simp only [List.getElem_toArray, List.getElem_cons_zero, List.getElem_cons_succ, Act.put, List.setIfInBounds_toArray, List.set_cons_zero, List.set_cons_succ]
                  refine wpAnyH_ready (rs := [3]) (by kernel_rfl) (by simp) ?_
                  refine AllReadyH.cons (o := _) rfl (fun K hK => ?_) AllReadyH.nil
                  go_simp
                  (have HZ4 : Hid (Blk (World.setCells Y4 (b0 + 1 + 1 + 1) 0 (pkt0).c.toList) (b0 + 1 + 1 + 1) 25 (pkt0).c) := Lib.hid (HYp4.out.setAll (Pkt.c_size _)); have HZr4 : Hid (Blk (World.setCells Y4 (b0 + 1 + 1 + 1) 0 (pkt0).c.toList) (b0 + 1 + 1) 62 #[.int .i64 lim, .slice Ak nk ck]) := Lib.hid (HY4.out.setCells_other (b0 + 1 + 1 + 1) 0 _ (by omega)); have HZj4 : Hid (Blk (World.setCells Y4 (b0 + 1 + 1 + 1) 0 (pkt0).c.toList) b0 62 #[.int .i64 lim, .slice Ak nk ck]) := Lib.hid (HYj4.out.setCells_other (b0 + 1 + 1 + 1) 0 _ (by omega)); have HZs4 : Hid (Blk (World.setCells Y4 (b0 + 1 + 1 + 1) 0 (pkt0).c.toList) (b0 + 1 + 1 + 1 + 1) 25 (pkt0).c) := Lib.hid (HYs4.out.setCells_other (b0 + 1 + 1 + 1) 0 _ HSB4.out.2); have HZb4 : Hid (Below b0 w (World.setCells Y4 (b0 + 1 + 1 + 1) 0 (pkt0).c.toList)) := Lib.hid (Below.setCells HYb4.out (show b0 ≤ b0 + 1 + 1 + 1 by omega) 0 _); have HZf4 : Hid (∀ q, q ≠ b0 + 1 + 1 → q ≠ b0 + 1 + 1 + 1 → (World.setCells Y4 (b0 + 1 + 1 + 1) 0 (pkt0).c.toList).heap[q]? = (Wn).heap[q]?) := Lib.hid (fun q hq hq2 => (heap_setCells _ _ _ _ _ hq2).trans (HYf4.out q hq)); clear hsu4; generalize World.setCells _ _ _ _ = Z4 at HZ4 HZr4 HZj4 HZs4 HZb4 HZf4 ⊢)
                  refine hK.out _ _ ?_ (fun hHeld2 => ?_)
                  · (first | exact ⟨(by rw [HZj4.out.cell]; rfl), (by rw [HZj4.out.cell]; rfl), HZs4.out.ld_pkt⟩)
                  clear hHeld1 hK K
                  try simp only [List.getElem_toArray, List.getElem_cons_zero, List.getElem_cons_succ, Act.put, List.setIfInBounds_toArray, List.set_cons_zero, List.set_cons_succ]
                  refine wpAnyH_take (i := 4) (oi := _) (v := ?vr4n4_12) rfl (by kernel_rfl) (by kernel_rfl) (by kernel_rfl) (fun _ _ _ h => h) (Or.inl ⟨by kernel_rfl, ?hr4n4_12⟩) hHeld2 ?_
                  case hr4n4_12 => (intro w hSw; (try dsimp only at hSw); go_simp; try (with_reducible rfl))
                  try simp only [List.getElem_toArray, List.getElem_cons_zero, List.getElem_cons_succ, Act.put, List.setIfInBounds_toArray, List.set_cons_zero, List.set_cons_succ]
                  refine wpAnyH_done (by kernel_rfl) ?_ _
                  refine NoPanic.normal ?_
                  go_wp2_with fail
                  exact bodyPost_ret (results_cct Try.results26 _ _ (b0 + 1 + 1) (b0 + 1 + 1 + 1) _ _ _ _ _ _ rfl HZr4.out Try.underlying62 rfl size_rj rfl HZ4.out Try.underlying25 rfl (by rw [Pkt.c_size]; exact size_pk)) rfl (HQ.out _ _ _ _ _ (.clash HMT.out HWH.out HFV.out HAN.out HFI.out) (Or.inr ⟨own_weakR (own_same (v := .slice Ak nk ck) (by have h5 := HOa1.out; rw [HNK.out] at h5; rw [HNK.out]; exact h5) (fun g hg => by have h6 := (HOW1.out g hg).1; have h7 := HSo.out; exact (HZf4.out g (by omega) (by omega)).trans (HFn1.out g (by omega)))) (by have h8 := HB0.out; have h9 := HSo.out; omega), fun r hr => Or.inl (HFV.out.sub r hr)⟩) (by have := HZb4.out; rw [HB0.out] at this; exact this))
                | true =>
                  have lp := HXo.out.p.ld_pkt
                  have hla : (Below wo.heap.size wo (wo.alloc (.cells p.c 25))) := (Below.refl _ wo).alloc (Nat.le_refl _) _
                  have HPy := Lib.hid (PkO.same HPo.out (fun g e => hla.block g (HPo.out.lt e)))
                  have HOy := Lib.hid (own_keptB HOo.out hla)
                  have HBy := Lib.hid (HBo.out.trans (hla.mono HSo.out))
                  have HEy := Lib.hid (Blk.new wo 25 p.c 0 0 (Or.inl (Nat.le_refl _)))
                  have HM900 : Hid (d.L.length ≤ 900) := Lib.hid (by rw [← HM2.out]; exact h900)
                  clear hla
                  have tokS : True := trivial
                  go_upto_region 40 with (first
                    | (have _t := tokS; refine wpList_bsP rfl (.tmp 184) rfl p rfl ?_; clear tokS; generalize World.alloc _ _ = y3 at HPy HOy HBy HEy ⊢; have tokT : True := trivial)
                    | (have _t := tokT; clear tokT; at_builtin; go_loud (refine wpList_appPn rfl (.tmp 183) (.tmp 185) rfl (b0 + 5) A10 m c10 d.L HM2.out rfl HPy.out HPB.out wo.heap.size 25 p rfl HEy.out (by have := HM900.out; omega) (by have := HBy.out.size; have := HS3.out; omega) ?_; intro gq cq wq hrow hfr hgo hgb; have HRQ := Lib.hid hrow; have HOq : Hid (wq.ownsRow (b0 + 5) 100 2 (.slice A8 n8 c8) n8 (flatR (pre ++ d :: post))) := Lib.hid (own_same HOy.out (fun g hg => hfr.block g (own_ge HOy.out g hg).2.1 (fun e => by obtain ⟨C, hC⟩ := HPy.out.tag e; obtain ⟨C', hC'⟩ := (own_ge HOy.out g hg).2.2; exact hC.ne hC' (by decide) rfl))); have HBq := Lib.hid (HBy.out.trans (hfr.toBelow (fun k hk => HPB.out k hk) (by have := HBy.out.size; have := HS3.out; omega))); have HGQ := Lib.hid hgb; clear hrow hfr hgo hgb HPy HOy HBy HEy)))
                  clear lp
                  have HXq := Lib.hid (HX.out.at HBq.out)
                  have HSq : Hid (b0 + 5 ≤ wq.heap.size) := Lib.hid (by have := HBq.out.size; have := HS3.out; omega)
                  obtain ⟨mq, hmq⟩ : ∃ x, x = m + 1 := ⟨_, rfl⟩
                  rw [← hmq]
                  have HMQ : Hid (mq = (d.L ++ [p]).length) := Lib.hid (by rw [hmq, HM2.out]; simp)
                  clear hmq
                  have HLS := Lib.hid (HLO.out.snoc HMT.out HWH.out HFI.out)
                  have HJN := Lib.hid (joined_any (d.L ++ [p]) (by rw [List.length_append, List.length_singleton]; have := HM900.out; omega) (fun x hx => by have h5 := HLS.out.each x hx; exact ⟨h5.1.b.1, by have := h5.2.1; omega⟩) (fun he => HLS.out.end_le he) (some ⟨gq, 0, none⟩) cq wq HRQ.out.ps)
                  obtain ⟨jo, hjo⟩ : ∃ x, x = (joinedV (d.L ++ [p])).1 := ⟨_, rfl⟩
                  obtain ⟨jd, hjd⟩ : ∃ x, x = (joinedV (d.L ++ [p])).2 := ⟨_, rfl⟩
                  rw [← hjo, ← hjd] at HJN
                  have HJO := Lib.hid hjo
                  have HJD := Lib.hid hjd
                  rw [← HMQ.out] at HJN
                  clear hjo hjd
                  go_wp2_with fail
                  refine HJN.out.mono ?_
                  rintro e u1 ⟨rfl, hb1⟩
                  have HB1 := Lib.hid (HBq.out.trans (hb1.mono HSq.out))
                  have HO1 := Lib.hid (own_keptB HOq.out hb1)
                  have HR1 := Lib.hid (HRQ.out.below hb1)
                  have hal := (Below.refl u1.heap.size u1).alloc (Nat.le_refl _) (.cells pk0 25)
                  have HN := Lib.hid (Blk.new u1 25 pk0 0 0 (Or.inl (Nat.le_refl _)))
                  have HOa := Lib.hid (own_keptB HO1.out hal)
                  have HRa := Lib.hid (HR1.out.below hal)
                  have HBa := Lib.hid (HB1.out.trans (hal.mono (by have := HB1.out.size; have := HS3.out; omega)))
                  have HX1 : Hid (b0 + 5 ≤ u1.heap.size ∧ gq < u1.heap.size) := Lib.hid ⟨by have := HB1.out.size; have := HS3.out; omega, HR1.out.1⟩
                  rw [pk0_lit] at HN HOa HRa HBa
                  clear hb1 hal HJN HO1 HR1 HB1
                  have tokV : True := trivial
                  go_upto_region 41 with (have _t := tokV; generalize World.alloc _ _ = u2 at HN HOa HRa HBa ⊢; rw [← pk0_lit] at HN; refine wp_st_pkt rfl _ _ rfl u1.heap.size jo HN rfl rfl ?_; clear tokV; have HQo : Hid (Blk (World.setCells u2 u1.heap.size 0 jo.c.toList) u1.heap.size 25 jo.c) := Lib.hid (HN.out.setAll (Pkt.c_size _)); have HOu : Hid ((World.setCells u2 u1.heap.size 0 jo.c.toList).ownsRow (b0 + 5) 100 2 (.slice A8 n8 c8) n8 (flatR (pre ++ d :: post))) := Lib.hid (own_same HOa.out (fun g hg => heap_setCells _ _ _ _ _ (fun e => by obtain ⟨C, hC⟩ := (own_ge HOa.out g hg).2.2; obtain ⟨lo, hi, hh, _⟩ := HN.out; rw [e] at hC; have := hC.symm.trans hh; injection this with this; injection this with _ h2 _; exact absurd h2 (by decide)))); have HRu := Lib.hid (PkRow.same HRa.out (heap_setCells u1.heap.size jo.c.toList 0 u2 gq (Nat.ne_of_lt HX1.out.2))); have HBu := Lib.hid (Below.setCells HBa.out HX1.out.1 0 jo.c.toList); clear HN HOa HRa HBa; generalize World.setCells _ _ _ _ = u3 at HQo HOu HRu HBu ⊢)
                  obtain ⟨ob, hob⟩ : ∃ q, q = u1.heap.size := ⟨_, rfl⟩
                  rw [← hob] at HQo HX1 ⊢
                  clear hob
                  have HXu := Lib.hid (HX.out.at HBu.out)
                  have HWu : Hid (Below b0 w u3) := Lib.hid (HWB.out.trans (Below.mono HBu.out (by omega)))
                  have HSu : Hid (b0 + 5 ≤ u3.heap.size) := Lib.hid (by have := HBu.out.size; have := HS3.out; omega)
                  cases jd with
                  | true =>
                    have HWO2 := Lib.hid (without_any (b0 + 5) (.slice A8 n8 c8) n8 (pre ++ d :: post) pre.length (by have := HN8.out; omega) (by have := HL4.out; omega) u3 HSu.out HOu.out)
                    have HEQ2 : Hid ((pre ++ d :: post).take pre.length ++ (pre ++ d :: post).drop (pre.length + 1) = pre ++ post) := Lib.hid (by simp)
                    rw [HEQ2.out] at HWO2
                    go_wp2_with fail
                    refine HWO2.out.mono ?_
                    rintro e Wa2 ⟨v2, rfl, ho2, hb2⟩
                    have HOa2 := Lib.hid ho2
                    have HBa2 := Lib.hid hb2
                    have HXa2 : Hid (Bx Wa2 b0 lim (.slice A n c) p) := Lib.hid (HXu.out.at (hb2.mono HSu.out))
                    have HWa2 : Hid (Below b0 w Wa2) := Lib.hid (HWu.out.trans (hb2.mono (by have := HSu.out; omega)))
                    obtain ⟨nk, hnk⟩ : ∃ x, x = n8 - 1 := ⟨_, rfl⟩
                    rw [← hnk] at HOa2
                    obtain ⟨Ak, ck, hvk, _, _, _⟩ := slice_of v2 Wa2 HOa2.out
                    subst hvk
                    have HNK : Hid (nk = (pre ++ post).length) := Lib.hid (own_dg HOa2.out).1
                    clear ho2 hb2 HWO2 hnk
                    have c1 : Wa2.cell? ⟨b0, 1, none⟩ = some (.slice A n c) := by rw [HXa2.out.j.cell]; rfl
                    have f1 := HXa2.out.j.free 1 (show 1 < 2 from by decide)
                    go_upto_region 43 with fail
                    have HXn2 := Lib.hid (HXa2.out.set (.slice Ak nk ck))
                    have HOW2 := Lib.hid (own_ge HOa2.out)
                    have HWn2 : Hid (Below b0 w (World.setCell Wa2 ⟨b0, 1, none⟩ (.slice Ak nk ck))) := Lib.hid (Below.setCell (p := ⟨b0, 1, none⟩) HWa2.out (Nat.le_refl _) _)
                    have HFn2 : Hid (∀ q, q ≠ b0 → (World.setCell Wa2 ⟨b0, 1, none⟩ (.slice Ak nk ck)).heap[q]? = Wa2.heap[q]?) := Lib.hid (fun q hq => RowKit.Below.heap_setCell _ ⟨b0, 1, none⟩ _ q hq)
                    clear c1 f1
                    have HNk : Hid (Blk (World.setCell Wa2 ⟨b0, 1, none⟩ (.slice Ak nk ck)) ob 25 jo.c) := Lib.hid ((HQo.out.step HBa2.out).set_other ⟨b0, 1, none⟩ _ (show ob ≠ b0 by have := HX1.out; omega))
                    have HONE : Hid ((Value.slice Ak nk ck).oneCell' = true) := Lib.hid rfl
                    have HOB : Hid (b0 + 5 ≤ ob) := Lib.hid HX1.out.1
                    generalize World.setCell _ _ _ = Wn at HXn2 HWn2 HFn2 HNk ⊢
                    have HSB5 : Hid (ob ≠ b0 + 1 + 1 ∧ ob ≠ b0 + 1 + 1 + 1) := Lib.hid (by have := HOB.out; omega)
                    have hS5 : Bx (World.drew Wn) b0 lim (.slice Ak nk ck) p ∧ Blk (World.drew Wn) ob 25 (jo).c := ⟨⟨HXn2.out.j.drew, HXn2.out.p.drew, HXn2.out.rj.drew, HXn2.out.rp.drew, HXn2.out.nb.drew⟩, HNk.out.drew⟩
                    have HS5 := Lib.hid hS5
                    have hst5 := st_rj_run hS5.1.rj rfl lim (.slice Ak nk ck) HONE.out
                    clear hS5
                    refine wp_region_noPanic ?_
                    refine wp_region_held_drew (S := (fun w' => w'.cell? ⟨b0, 0, none⟩ = some (.int .i64 lim) ∧ w'.cell? ⟨b0, 1, none⟩ = some (.slice Ak nk ck) ∧ (Ld 25 (.pointer (some ⟨ob, 0, none⟩))).run Try.prog w' = .ok (.agg (jo).c) w')) (by kernel_rfl) (by first | exact ⟨(by rw [HS5.out.1.j.cell]; rfl), (by rw [HS5.out.1.j.cell]; rfl), HS5.out.2.ld_pkt⟩) (fun hHeld => ?_)
                    refine wpAnyH_take (i := 0) (oi := _) (v := ?vr5n0_13) rfl (by kernel_rfl) (by kernel_rfl) (by kernel_rfl) (fun _ _ _ h => h) (Or.inl ⟨by kernel_rfl, ?hr5n0_13⟩) hHeld ?_
                    case hr5n0_13 => (intro w hSw; (try dsimp only at hSw); go_simp; try (with_reducible rfl))
                    try simp only [List.getElem_toArray, List.getElem_cons_zero, List.getElem_cons_succ, Act.put, List.setIfInBounds_toArray, List.set_cons_zero, List.set_cons_succ]
                    refine wpAnyH_take (i := 1) (oi := _) (v := ?vr5n1_14) rfl (by kernel_rfl) (by kernel_rfl) (by kernel_rfl) (fun _ _ _ h => h) (Or.inl ⟨by kernel_rfl, ?hr5n1_14⟩) hHeld ?_
                    case hr5n1_14 => (intro w hSw; (try dsimp only at hSw); go_simp; try (with_reducible rfl))
                    try simp only [List.getElem_toArray, List.getElem_cons_zero, List.getElem_cons_succ, Act.put, List.setIfInBounds_toArray, List.set_cons_zero, List.set_cons_succ]
                    refine wpAnyH_ready (rs := [2]) (by kernel_rfl) (by simp) ?_
                    refine AllReadyH.cons (o := _) rfl (fun K hK => ?_) AllReadyH.nil
                    go_simp
                    (have HY5 : Hid (Blk (World.setCells (World.drew Wn) (b0 + 1 + 1) 0 [.int .i64 lim, .slice Ak nk ck]) (b0 + 1 + 1) 62 #[.int .i64 lim, .slice Ak nk ck]) := Lib.hid (HS5.out.1.rj.setAll (cs := #[.int .i64 lim, .slice Ak nk ck]) rfl); have HYp5 : Hid (Blk (World.setCells (World.drew Wn) (b0 + 1 + 1) 0 [.int .i64 lim, .slice Ak nk ck]) (b0 + 1 + 1 + 1) 25 pk0) := Lib.hid (HS5.out.1.rp.setCells_other (b0 + 1 + 1) 0 _ (by omega)); have HYj5 : Hid (Blk (World.setCells (World.drew Wn) (b0 + 1 + 1) 0 [.int .i64 lim, .slice Ak nk ck]) b0 62 #[.int .i64 lim, .slice Ak nk ck]) := Lib.hid (HS5.out.1.j.setCells_other (b0 + 1 + 1) 0 _ (by omega)); have HYs5 : Hid (Blk (World.setCells (World.drew Wn) (b0 + 1 + 1) 0 [.int .i64 lim, .slice Ak nk ck]) ob 25 (jo).c) := Lib.hid (HS5.out.2.setCells_other (b0 + 1 + 1) 0 _ HSB5.out.1); have HYb5 : Hid (Below b0 w (World.setCells (World.drew Wn) (b0 + 1 + 1) 0 [.int .i64 lim, .slice Ak nk ck])) := Lib.hid (Below.setCells (Below.drewN HWn2.out 1) (by omega) 0 _); have HYf5 : Hid (∀ q, q ≠ b0 + 1 + 1 → (World.setCells (World.drew Wn) (b0 + 1 + 1) 0 [.int .i64 lim, .slice Ak nk ck]).heap[q]? = (Wn).heap[q]?) := Lib.hid (fun q hq => heap_setCells _ _ _ _ _ hq); clear hst5; generalize World.setCells _ _ _ _ = Y5 at HY5 HYp5 HYj5 HYs5 HYb5 HYf5 ⊢; have hsu5 := st_pk_run HYp5.out rfl (jo))
                    refine hK.out _ _ ?_ (fun hHeld1 => ?_)
                    · (first | exact ⟨(by rw [HYj5.out.cell]; rfl), (by rw [HYj5.out.cell]; rfl), HYs5.out.ld_pkt⟩)
                    clear hHeld hK K
                    try simp only [List.getElem_toArray, List.getElem_cons_zero, List.getElem_cons_succ, Act.put, List.setIfInBounds_toArray, List.set_cons_zero, List.set_cons_succ]
                    refine wpAnyH_ready (rs := [3]) (by kernel_rfl) (by simp) ?_
                    refine AllReadyH.cons (o := _) rfl (fun K hK => ?_) AllReadyH.nil
                    go_simp
                    (have HZ5 : Hid (Blk (World.setCells Y5 (b0 + 1 + 1 + 1) 0 (jo).c.toList) (b0 + 1 + 1 + 1) 25 (jo).c) := Lib.hid (HYp5.out.setAll (Pkt.c_size _)); have HZr5 : Hid (Blk (World.setCells Y5 (b0 + 1 + 1 + 1) 0 (jo).c.toList) (b0 + 1 + 1) 62 #[.int .i64 lim, .slice Ak nk ck]) := Lib.hid (HY5.out.setCells_other (b0 + 1 + 1 + 1) 0 _ (by omega)); have HZj5 : Hid (Blk (World.setCells Y5 (b0 + 1 + 1 + 1) 0 (jo).c.toList) b0 62 #[.int .i64 lim, .slice Ak nk ck]) := Lib.hid (HYj5.out.setCells_other (b0 + 1 + 1 + 1) 0 _ (by omega)); have HZs5 : Hid (Blk (World.setCells Y5 (b0 + 1 + 1 + 1) 0 (jo).c.toList) ob 25 (jo).c) := Lib.hid (HYs5.out.setCells_other (b0 + 1 + 1 + 1) 0 _ HSB5.out.2); have HZb5 : Hid (Below b0 w (World.setCells Y5 (b0 + 1 + 1 + 1) 0 (jo).c.toList)) := Lib.hid (Below.setCells HYb5.out (show b0 ≤ b0 + 1 + 1 + 1 by omega) 0 _); have HZf5 : Hid (∀ q, q ≠ b0 + 1 + 1 → q ≠ b0 + 1 + 1 + 1 → (World.setCells Y5 (b0 + 1 + 1 + 1) 0 (jo).c.toList).heap[q]? = (Wn).heap[q]?) := Lib.hid (fun q hq hq2 => (heap_setCells _ _ _ _ _ hq2).trans (HYf5.out q hq)); clear hsu5; generalize World.setCells _ _ _ _ = Z5 at HZ5 HZr5 HZj5 HZs5 HZb5 HZf5 ⊢)
                    refine hK.out _ _ ?_ (fun hHeld2 => ?_)
                    · (first | exact ⟨(by rw [HZj5.out.cell]; rfl), (by rw [HZj5.out.cell]; rfl), HZs5.out.ld_pkt⟩)
                    clear hHeld1 hK K
                    try simp only [List.getElem_toArray, List.getElem_cons_zero, List.getElem_cons_succ, Act.put, List.setIfInBounds_toArray, List.set_cons_zero, List.set_cons_succ]
                    refine wpAnyH_take (i := 4) (oi := _) (v := ?vr5n4_15) rfl (by kernel_rfl) (by kernel_rfl) (by kernel_rfl) (fun _ _ _ h => h) (Or.inl ⟨by kernel_rfl, ?hr5n4_15⟩) hHeld2 ?_
                    case hr5n4_15 => (intro w hSw; (try dsimp only at hSw); go_simp; try (with_reducible rfl))
                    try simp only [List.getElem_toArray, List.getElem_cons_zero, List.getElem_cons_succ, Act.put, List.setIfInBounds_toArray, List.set_cons_zero, List.set_cons_succ]
                    refine wpAnyH_done (by kernel_rfl) ?_ _
                    refine NoPanic.normal ?_
                    go_wp2_with fail
                    exact bodyPost_ret (results_cct Try.results26 _ _ (b0 + 1 + 1) (b0 + 1 + 1 + 1) _ _ _ _ _ _ rfl HZr5.out Try.underlying62 rfl size_rj rfl HZ5.out Try.underlying25 rfl (by rw [Pkt.c_size]; exact size_pk)) rfl (HQ.out _ _ _ _ _ (by rw [HJO.out]; exact .done HMT.out HWH.out HFV.out HAN.out HFI.out HJD.out.symm) (Or.inr ⟨own_weakR (own_same (v := .slice Ak nk ck) (by have h5 := HOa2.out; rw [HNK.out] at h5; rw [HNK.out]; exact h5) (fun g hg => by have h6 := (HOW2.out g hg).1; have h7 := HSu.out; exact (HZf5.out g (by omega) (by omega)).trans (HFn2.out g (by omega)))) (by have h8 := HB0.out; have h9 := HSu.out; omega), fun r hr => Or.inl (HFV.out.sub r hr)⟩) (by have := HZb5.out; rw [HB0.out] at this; exact this))
                  | false =>
                    obtain ⟨g8, rfl, hg8b, hg8, hcells8⟩ : ∃ g, A8 = some ⟨g, 0, none⟩ ∧ b0 + 5 ≤ g ∧ g < u3.heap.size ∧ ∀ j u, (flatR (pre ++ d :: post))[j]? = some u → u3.cell? ⟨g, j, none⟩ = some u := by
                      obtain ⟨A', c', hv', _, _, hs'⟩ := slice_of _ u3 HOu.out
                      injection hv' with e1 e2 e3
                      rcases hs' with ⟨_, _, h0, _⟩ | ⟨g, h1, h2, h3, h4⟩
                      · have := HN8.out; omega
                      · exact ⟨g, by rw [e1, h1], h2, h3, h4⟩
                    have hfg := flatR_get (pre ++ d :: post) pre.length (by simp)
                    have k0 := hcells8 _ _ hfg.1
                    have k1 := hcells8 _ _ hfg.2
                    have j0 := HOu.out.frozenAt (pre.length * 2)
                    have j1 := HOu.out.frozenAt (pre.length * 2 + 1)
                    have hst := ((HOu.out.stored (pre.length * 2) (.slice (some ⟨gq, 0, none⟩) mq cq)).1.stored (pre.length * 2 + 1) (.int .i64 d.age)).1
                    have hset := flatR_set (pre ++ d :: post) pre post d ⟨some ⟨gq, 0, none⟩, cq, d.L ++ [p], d.age⟩ rfl
                    rw [HMQ.out, hset] at hst
                    have hne8 : g8 ≠ gq := fun e => by
                      obtain ⟨C, hC⟩ := (own_ge HOu.out g8 rfl).2.2
                      obtain ⟨C', hC'⟩ := HRu.out.tag
                      rw [e] at hC
                      exact hC.ne hC' (by decide) rfl
                    have HOv := Lib.hid hst
                    have HGE : Hid (b0 + 5 ≤ g8 ∧ g8 ≠ gq ∧ b0 + 5 ≤ gq) := Lib.hid ⟨hg8b, hne8, HGQ.out⟩
                    have hfr2 : ∀ q, q ≠ g8 → ((u3.setCell ⟨g8, pre.length * 2, none⟩ (.slice (some ⟨gq, 0, none⟩) (d.L ++ [p]).length cq)).setCell ⟨g8, pre.length * 2 + 1, none⟩ (.int .i64 d.age)).heap[q]? = u3.heap[q]? := fun q hq => (RowKit.Below.heap_setCell _ ⟨g8, pre.length * 2 + 1, none⟩ _ q hq).trans (RowKit.Below.heap_setCell _ ⟨g8, pre.length * 2, none⟩ _ q hq)
                    have HRv : Hid (PkRow ((u3.setCell ⟨g8, pre.length * 2, none⟩ (.slice (some ⟨gq, 0, none⟩) (d.L ++ [p]).length cq)).setCell ⟨g8, pre.length * 2 + 1, none⟩ (.int .i64 d.age)) gq cq (d.L ++ [p])) := Lib.hid (PkRow.same HRu.out (hfr2 gq (fun e => hne8 e.symm)))
                    have HBv : Hid (Below (b0 + 5) w3 ((u3.setCell ⟨g8, pre.length * 2, none⟩ (.slice (some ⟨gq, 0, none⟩) (d.L ++ [p]).length cq)).setCell ⟨g8, pre.length * 2 + 1, none⟩ (.int .i64 d.age))) := Lib.hid (Below.setCell (p := ⟨g8, pre.length * 2 + 1, none⟩) (Below.setCell (p := ⟨g8, pre.length * 2, none⟩) HBu.out hg8b _) hg8b _)
                    rw [← HMQ.out] at HOv HRv HBv
                    clear hst hset hfg hfr2 hcells8 hg8 hne8
                    have h8n : (0 : Int) ≤ (pre.length : Int) := hpre0
                    go_upto_region 45 with fail
                    clear k0 k1 j0 j1
                    generalize World.setCell (World.setCell _ _ _) _ _ = u4 at HOv HRv HBv ⊢
                    have HXv := Lib.hid (HX.out.at HBv.out)
                    have HWv : Hid (Below b0 w u4) := Lib.hid (HWB.out.trans (Below.mono HBv.out (by omega)))
                    have c1 : u4.cell? ⟨b0, 1, none⟩ = some (.slice A n c) := by rw [HXv.out.j.cell]; rfl
                    have f1 := HXv.out.j.free 1 (show 1 < 2 from by decide)
                    have HNd : Hid (n8 = (pre ++ (⟨some ⟨gq, 0, none⟩, cq, d.L ++ [p], d.age⟩ : Rd) :: post).length) := Lib.hid (by rw [HN8.out]; simp; omega)
                    go_upto_region 46 with fail
                    have HXn := Lib.hid (HXv.out.set (.slice (some ⟨g8, 0, none⟩) n8 c8))
                    have HWn : Hid (Below b0 w (World.setCell u4 ⟨b0, 1, none⟩ (.slice (some ⟨g8, 0, none⟩) n8 c8))) := Lib.hid (Below.setCell (p := ⟨b0, 1, none⟩) HWv.out (Nat.le_refl _) _)
                    have HFn : Hid (∀ q, q ≠ b0 → (World.setCell u4 ⟨b0, 1, none⟩ (.slice (some ⟨g8, 0, none⟩) n8 c8)).heap[q]? = u4.heap[q]?) := Lib.hid (fun q hq => RowKit.Below.heap_setCell _ ⟨b0, 1, none⟩ _ q hq)
                    clear c1 f1
                    have HNk : Hid (Blk (World.setCell u4 ⟨b0, 1, none⟩ (.slice (some ⟨g8, 0, none⟩) n8 c8)) (b0 + 1 + 1 + 1 + 1) 25 pkt0.c) := Lib.hid HXn.out.nb
                    have HONE : Hid ((Value.slice (some ⟨g8, 0, none⟩) n8 c8).oneCell' = true) := Lib.hid rfl
                    generalize World.setCell _ _ _ = Wn at HXn HWn HFn HNk ⊢
                    have HSB6 : Hid ((b0 + 1 + 1 + 1 + 1) ≠ b0 + 1 + 1 ∧ (b0 + 1 + 1 + 1 + 1) ≠ b0 + 1 + 1 + 1) := Lib.hid (by omega)
                    have hS6 : Bx (World.drew Wn) b0 lim (.slice (some ⟨g8, 0, none⟩) n8 c8) p ∧ Blk (World.drew Wn) (b0 + 1 + 1 + 1 + 1) 25 (pkt0).c := ⟨⟨HXn.out.j.drew, HXn.out.p.drew, HXn.out.rj.drew, HXn.out.rp.drew, HXn.out.nb.drew⟩, HNk.out.drew⟩
                    have HS6 := Lib.hid hS6
                    have hst6 := st_rj_run hS6.1.rj rfl lim (.slice (some ⟨g8, 0, none⟩) n8 c8) HONE.out
                    clear hS6
                    refine wp_region_noPanic ?_
                    refine wp_region_held_drew (S := (fun w' => w'.cell? ⟨b0, 0, none⟩ = some (.int .i64 lim) ∧ w'.cell? ⟨b0, 1, none⟩ = some (.slice (some ⟨g8, 0, none⟩) n8 c8) ∧ (Ld 25 (.pointer (some ⟨(b0 + 1 + 1 + 1 + 1), 0, none⟩))).run Try.prog w' = .ok (.agg (pkt0).c) w')) (by kernel_rfl) (by first | exact ⟨(by rw [HS6.out.1.j.cell]; rfl), (by rw [HS6.out.1.j.cell]; rfl), HS6.out.2.ld_pkt⟩) (fun hHeld => ?_)
                    refine wpAnyH_take (i := 0) (oi := _) (v := ?vr6n0_16) rfl (by kernel_rfl) (by kernel_rfl) (by kernel_rfl) (fun _ _ _ h => h) (Or.inl ⟨by kernel_rfl, ?hr6n0_16⟩) hHeld ?_
                    case hr6n0_16 => (intro w hSw; (try dsimp only at hSw); go_simp; try (with_reducible rfl))
                    try simp only [List.getElem_toArray, List.getElem_cons_zero, List.getElem_cons_succ, Act.put, List.setIfInBounds_toArray, List.set_cons_zero, List.set_cons_succ]
                    refine wpAnyH_take (i := 1) (oi := _) (v := ?vr6n1_17) rfl (by kernel_rfl) (by kernel_rfl) (by kernel_rfl) (fun _ _ _ h => h) (Or.inl ⟨by kernel_rfl, ?hr6n1_17⟩) hHeld ?_
                    case hr6n1_17 => (intro w hSw; (try dsimp only at hSw); go_simp; try (with_reducible rfl))
                    try simp only [List.getElem_toArray, List.getElem_cons_zero, List.getElem_cons_succ, Act.put, List.setIfInBounds_toArray, List.set_cons_zero, List.set_cons_succ]
                    refine wpAnyH_ready (rs := [2]) (by kernel_rfl) (by simp) ?_
                    refine AllReadyH.cons (o := _) rfl (fun K hK => ?_) AllReadyH.nil
                    go_simp
                    (have HY6 : Hid (Blk (World.setCells (World.drew Wn) (b0 + 1 + 1) 0 [.int .i64 lim, .slice (some ⟨g8, 0, none⟩) n8 c8]) (b0 + 1 + 1) 62 #[.int .i64 lim, .slice (some ⟨g8, 0, none⟩) n8 c8]) := Lib.hid (HS6.out.1.rj.setAll (cs := #[.int .i64 lim, .slice (some ⟨g8, 0, none⟩) n8 c8]) rfl); have HYp6 : Hid (Blk (World.setCells (World.drew Wn) (b0 + 1 + 1) 0 [.int .i64 lim, .slice (some ⟨g8, 0, none⟩) n8 c8]) (b0 + 1 + 1 + 1) 25 pk0) := Lib.hid (HS6.out.1.rp.setCells_other (b0 + 1 + 1) 0 _ (by omega)); have HYj6 : Hid (Blk (World.setCells (World.drew Wn) (b0 + 1 + 1) 0 [.int .i64 lim, .slice (some ⟨g8, 0, none⟩) n8 c8]) b0 62 #[.int .i64 lim, .slice (some ⟨g8, 0, none⟩) n8 c8]) := Lib.hid (HS6.out.1.j.setCells_other (b0 + 1 + 1) 0 _ (by omega)); have HYs6 : Hid (Blk (World.setCells (World.drew Wn) (b0 + 1 + 1) 0 [.int .i64 lim, .slice (some ⟨g8, 0, none⟩) n8 c8]) (b0 + 1 + 1 + 1 + 1) 25 (pkt0).c) := Lib.hid (HS6.out.2.setCells_other (b0 + 1 + 1) 0 _ HSB6.out.1); have HYb6 : Hid (Below b0 w (World.setCells (World.drew Wn) (b0 + 1 + 1) 0 [.int .i64 lim, .slice (some ⟨g8, 0, none⟩) n8 c8])) := Lib.hid (Below.setCells (Below.drewN HWn.out 1) (by omega) 0 _); have HYf6 : Hid (∀ q, q ≠ b0 + 1 + 1 → (World.setCells (World.drew Wn) (b0 + 1 + 1) 0 [.int .i64 lim, .slice (some ⟨g8, 0, none⟩) n8 c8]).heap[q]? = (Wn).heap[q]?) := Lib.hid (fun q hq => heap_setCells _ _ _ _ _ hq); clear hst6; generalize World.setCells _ _ _ _ = Y6 at HY6 HYp6 HYj6 HYs6 HYb6 HYf6 ⊢; have hsu6 := st_pk_run HYp6.out rfl (pkt0))
                    refine hK.out _ _ ?_ (fun hHeld1 => ?_)
                    · (first | exact ⟨(by rw [HYj6.out.cell]; rfl), (by rw [HYj6.out.cell]; rfl), HYs6.out.ld_pkt⟩)
                    clear hHeld hK K
                    try simp only [List.getElem_toArray, List.getElem_cons_zero, List.getElem_cons_succ, Act.put, List.setIfInBounds_toArray, List.set_cons_zero, List.set_cons_succ]
                    refine wpAnyH_ready (rs := [3]) (by kernel_rfl) (by simp) ?_
                    refine AllReadyH.cons (o := _) rfl (fun K hK => ?_) AllReadyH.nil
                    go_simp
                    (have HZ6 : Hid (Blk (World.setCells Y6 (b0 + 1 + 1 + 1) 0 (pkt0).c.toList) (b0 + 1 + 1 + 1) 25 (pkt0).c) := Lib.hid (HYp6.out.setAll (Pkt.c_size _)); have HZr6 : Hid (Blk (World.setCells Y6 (b0 + 1 + 1 + 1) 0 (pkt0).c.toList) (b0 + 1 + 1) 62 #[.int .i64 lim, .slice (some ⟨g8, 0, none⟩) n8 c8]) := Lib.hid (HY6.out.setCells_other (b0 + 1 + 1 + 1) 0 _ (by omega)); have HZj6 : Hid (Blk (World.setCells Y6 (b0 + 1 + 1 + 1) 0 (pkt0).c.toList) b0 62 #[.int .i64 lim, .slice (some ⟨g8, 0, none⟩) n8 c8]) := Lib.hid (HYj6.out.setCells_other (b0 + 1 + 1 + 1) 0 _ (by omega)); have HZs6 : Hid (Blk (World.setCells Y6 (b0 + 1 + 1 + 1) 0 (pkt0).c.toList) (b0 + 1 + 1 + 1 + 1) 25 (pkt0).c) := Lib.hid (HYs6.out.setCells_other (b0 + 1 + 1 + 1) 0 _ HSB6.out.2); have HZb6 : Hid (Below b0 w (World.setCells Y6 (b0 + 1 + 1 + 1) 0 (pkt0).c.toList)) := Lib.hid (Below.setCells HYb6.out (show b0 ≤ b0 + 1 + 1 + 1 by omega) 0 _); have HZf6 : Hid (∀ q, q ≠ b0 + 1 + 1 → q ≠ b0 + 1 + 1 + 1 → (World.setCells Y6 (b0 + 1 + 1 + 1) 0 (pkt0).c.toList).heap[q]? = (Wn).heap[q]?) := Lib.hid (fun q hq hq2 => (heap_setCells _ _ _ _ _ hq2).trans (HYf6.out q hq)); clear hsu6; generalize World.setCells _ _ _ _ = Z6 at HZ6 HZr6 HZj6 HZs6 HZb6 HZf6 ⊢)
                    refine hK.out _ _ ?_ (fun hHeld2 => ?_)
                    · (first | exact ⟨(by rw [HZj6.out.cell]; rfl), (by rw [HZj6.out.cell]; rfl), HZs6.out.ld_pkt⟩)
                    clear hHeld1 hK K
                    try simp only [List.getElem_toArray, List.getElem_cons_zero, List.getElem_cons_succ, Act.put, List.setIfInBounds_toArray, List.set_cons_zero, List.set_cons_succ]
                    refine wpAnyH_take (i := 4) (oi := _) (v := ?vr6n4_18) rfl (by kernel_rfl) (by kernel_rfl) (by kernel_rfl) (fun _ _ _ h => h) (Or.inl ⟨by kernel_rfl, ?hr6n4_18⟩) hHeld2 ?_
                    case hr6n4_18 => (intro w hSw; (try dsimp only at hSw); go_simp; try (with_reducible rfl))
                    try simp only [List.getElem_toArray, List.getElem_cons_zero, List.getElem_cons_succ, Act.put, List.setIfInBounds_toArray, List.set_cons_zero, List.set_cons_succ]
                    refine wpAnyH_done (by kernel_rfl) ?_ _
                    refine NoPanic.normal ?_
                    go_wp2_with fail
                    exact bodyPost_ret (results_cct Try.results26 _ _ (b0 + 1 + 1) (b0 + 1 + 1 + 1) _ _ _ _ _ _ rfl HZr6.out Try.underlying62 rfl size_rj rfl HZ6.out Try.underlying25 rfl (by rw [Pkt.c_size]; exact size_pk)) rfl (HQ.out _ _ _ _ _ (.part HMT.out HWH.out HFV.out HAN.out HFI.out HJD.out.symm ⟨some ⟨gq, 0, none⟩, cq, d.L ++ [p], d.age⟩ rfl rfl) (Or.inr ⟨own_weakR (own_same (v := .slice (some ⟨g8, 0, none⟩) n8 c8) (by have h5 := HOv.out; rw [HNd.out] at h5; rw [HNd.out]; exact h5) (fun g hg => by have h6 : g8 = g := Option.some.inj hg; have h7 := HGE.out; subst h6; exact (HZf6.out _ (by omega) (by omega)).trans (HFn.out _ (by omega)))) (by have h8 := HB0.out; omega), fun r hr => by
                        rcases List.mem_append.1 hr with hr | hr
                        · exact Or.inl (HFV.out.sub r (List.mem_append_left _ hr))
                        · rcases List.mem_cons.1 hr with rfl | hr
                          · refine Or.inr ⟨gq, rfl, by have h7 := HGE.out; have h8 := HB0.out; omega, ?_⟩
                            have h7 := HGE.out
                            exact HRv.out.same ((HZf6.out gq (by omega) (by omega)).trans (HFn.out gq (by omega)))
                          · exact Or.inl (HFV.out.sub r (List.mem_append_right _ hr))⟩) (by have := HZb6.out; rw [HB0.out] at this; exact this))
end Go.Proofs.Yticchchcobjpdaa
