/- The walk of Put: what is told of a packet, and what is there then. Condition: at most 4 datagrams of at most 900 pieces that may be, of one name each; the packet's numbers are numbers. -/
import Derived.Test.YticchchcobjpdaaJiN
namespace Go.Proofs.Yticchchcobjpdaa
set_option linter.unusedVariables false
set_option linter.unusedSimpArgs false
set_option maxRecDepth 100000
open Go.RowKit Go.Proofs Go.Shelf Go.Lib Go.Sort
attribute [local go_sem ↓] Go.wp_at_zero Go.wp_at_succ
attribute [local go_sem ↓] ld_pk ld_ip ld_wh
set_option maxHeartbeats 16000000 in
theorem put_any {w : World} {B jb : Nat} {lim : Int} {o : Option Addr} {c : Nat} {D : List Dg} {N : Nat} (h : JS w B jb lim o c D) (hok : JOk N D) (hN : N ≤ 900) (hl : 0 < lim) (p : Pkt) (hp : Pin p) :
    Calls Try.prog 19 #[ptr jb, .agg p.c] w fun e w' => ∃ out ok o' c' D', e = .returned (.tuple #[.agg out.c, .bool ok]) ∧ JS w' B jb lim o' c' D' ∧ PutR D p D' out ok ∧ Fr (ownJ jb o D) w w' ∧ ∀ k, ownJ jb o' D' k → ownJ jb o D k ∨ w.heap.size ≤ k := by
  obtain ⟨Q, hQ⟩ : ∃ Q : Ending → World → Prop, Q = fun e w' => ∃ out ok o' c' D', e = .returned (.tuple #[.agg out.c, .bool ok]) ∧ JS w' B jb lim o' c' D' ∧ PutR D p D' out ok ∧ Fr (ownJ jb o D) w w' ∧ ∀ k, ownJ jb o' D' k → ownJ jb o D k ∨ w.heap.size ≤ k := ⟨_, rfl⟩
  rw [← hQ]
  have HQF : Hid (∀ w' o' c' D', JS w' B jb lim o' c' D' → PutR D p D' pkt0 false → Fr (ownJ jb o D) w w' → (∀ k, ownJ jb o' D' k → ownJ jb o D k ∨ w.heap.size ≤ k) → Q (.returned (.tuple #[.agg pk0, .bool false])) w') := Lib.hid (fun w' o' c' D' h1 h2 h3 h4 => by rw [hQ]; exact ⟨pkt0, false, o', c', D', by rw [pkt0_c], h1, h2, h3, h4⟩)
  have HQT : Hid (∀ w' out o' c' D', JS w' B jb lim o' c' D' → PutR D p D' out true → Fr (ownJ jb o D) w w' → (∀ k, ownJ jb o' D' k → ownJ jb o D k ∨ w.heap.size ≤ k) → Q (.returned (.tuple #[.agg out.c, .bool true])) w') := Lib.hid (fun w' out o' c' D' h1 h2 h3 h4 => by rw [hQ]; exact ⟨out, true, o', c', D', rfl, h1, h2, h3, h4⟩)
  clear hQ
  have HOK := Lib.hid hok
  have HN := Lib.hid hN
  have HOWN := Lib.hid (fun k (hk : ownJ jb o D k) => (h.own_lt hk).2)
  have hb1 : Below w.heap.size w ((w.alloc (.cells p.c 25)).alloc (.cells pk0 25)) := ((Below.refl w.heap.size w).alloc (Nat.le_refl _) (.cells p.c 25)).alloc (by rw [size_alloc]; omega) _
  have HP1 := Lib.hid ((Blk.new w 25 p.c 0 0 (Or.inl (Nat.le_refl _))).alloc (.cells pk0 25))
  have hR1 : Blk ((w.alloc (.cells p.c 25)).alloc (.cells pk0 25)) (w.heap.size + 1) 25 pk0 := by
    have := Blk.new (w.alloc (.cells p.c 25)) 25 pk0 0 0 (Or.inl (Nat.le_refl _))
    rw [size_alloc] at this
    exact this
  have HR1 := Lib.hid hR1
  have HB1 := Lib.hid hb1
  have HJ1 := Lib.hid (h.below hb1)
  rw [pk0_lit] at HP1 HR1 HB1 HJ1
  clear h hok hN hb1 hR1
  go_enter Try.func19, Try.ntmps19
  go_upto_region 1 with fail
  generalize World.alloc _ _ = w1 at HP1 HR1 HB1 HJ1 ⊢
  obtain ⟨pb, hpb⟩ : ∃ q, q = w.heap.size := ⟨_, rfl⟩
  rw [← hpb] at HP1 HR1 ⊢
  have HPB := Lib.hid hpb
  clear hpb
  have HR1b : Hid (Blk w1 (pb + 1) 25 pk0) := HR1
  have c0 := jo_cell HJ1.out
  have HNO := Lib.hid (noneJ_any lim jb hl w1 c0)
  have lp : (Ld 25 (.pointer (some ⟨pb, 0, none⟩))).run Try.prog w1 = .ok (.agg p.c) w1 := HP1.out.ld_pkt
  have HMY := Lib.hid (mayP_any p hp w1)
  obtain ⟨m, hm⟩ : ∃ m, m = mayP p := ⟨_, rfl⟩
  rw [← hm] at HMY
  have HM : Hid (mayP p = m) := Lib.hid hm.symm
  clear c0 hm hp HR1
  go_wp2_with fail
  refine HNO.out.mono ?_
  rintro e w' ⟨rfl, rfl⟩
  clear HNO
  go_wp2_with fail
  refine HMY.out.mono ?_
  rintro e w2 ⟨rfl, hb2⟩
  have HP2 := Lib.hid (HP1.out.step hb2)
  have HR2 : Hid (Blk w2 (pb + 1) 25 pk0) := Lib.hid (HR1b.out.step hb2)
  have HJ2 := Lib.hid (HJ1.out.below hb2)
  have HF2 : Hid (Fr (ownJ jb o D) w w2) := Lib.hid (Fr.below (Below.step HB1.out hb2))
  have HNP : Hid (¬ ownJ jb o D pb ∧ ¬ ownJ jb o D (pb + 1)) := Lib.hid ⟨fun h => by have := HOWN.out _ h; have := HPB.out; omega, fun h => by have := HOWN.out _ h; have := HPB.out; omega⟩
  clear hb2 lp HMY HP1 HR1b HB1 HJ1
  cases m with
  | false =>
    have tokZ1 : True := trivial
    go_wp2_with (have _t := tokZ1; refine wpList_store_blk rfl 25 _ _ rfl (pb + 1) pk0 rfl rfl pk0 25 HR2.out rfl size_pk rfl ?_; clear tokZ1)
    exact bodyPost_ret (results_blk Try.results19 _ _ (pb + 1) _ _ _ rfl (HR2.out.setAll rfl) Try.underlying25 rfl size_pk) rfl (HQF.out _ _ _ _ (HJ2.out.setCells _ _ _ HNP.out.2) (.bad (fun h => by have := HM.out; rw [show mayP p = true from h] at this; cases this)) (HF2.out.cells _ _ _ (by have := HPB.out; omega)) (fun k hk => Or.inl hk))
  | true =>
    have HMT : Hid (May p) := HM
    have lp : (Ld 25 (.pointer (some ⟨pb, 0, none⟩))).run Try.prog w2 = .ok (.agg p.c) w2 := HP2.out.ld_pkt
    obtain ⟨c11, c12, _⟩ := pk_c5 HP2.out
    go_upto_region 3 with fail
    go_cut [18] from 19 to 26 (fun v wx => v = .bool (decide (p.a = 0 ∧ p.mo = false)) ∧ wx = w2)
    case first =>
      by_cases h1 : p.a = 0
      · obtain ⟨mo, hmo⟩ : ∃ mo, mo = p.mo := ⟨_, rfl⟩
        rw [← hmo] at c12
        have HMO := Lib.hid hmo
        clear hmo
        rw [h1] at c11
        have HA := Lib.hid h1
        clear h1
        cases mo with
        | false =>
          go_wp2_with fail
          go_meet
          exact ⟨congrArg Value.bool (decide_eq_true (p := p.a = 0 ∧ p.mo = false) ⟨HA.out, HMO.out.symm⟩).symm, rfl⟩
        | true =>
          go_wp2_with fail
          go_meet
          exact ⟨congrArg Value.bool (decide_eq_false (p := p.a = 0 ∧ p.mo = false) (fun h => by have := HMO.out; rw [h.2] at this; cases this)).symm, rfl⟩
      · have h1b : (p.a == 0) = false := beq_eq_false_iff_ne.2 h1
        have HA := Lib.hid h1
        go_wp2_with fail
        go_meet
        exact ⟨congrArg Value.bool (decide_eq_false (p := p.a = 0 ∧ p.mo = false) (fun h => HA.out h.1)).symm, rfl⟩
    case rest =>
      obtain ⟨rfl, rfl⟩ := hcut
      obtain ⟨w2, rfl⟩ : ∃ w2 : World, w2 = wc := ⟨_, rfl⟩
      clear c11 c12
      by_cases hwh : p.a = 0 ∧ p.mo = false
      · have hd := decide_eq_true hwh
        have HWH := Lib.hid hwh
        clear hwh
        have HR2b : Hid (Blk w2 (pb + 1) 25 pkt0.c) := Lib.hid (by rw [pkt0_c]; exact HR2.out)
        have tokB : True := trivial
        go_wp2_with (have _t := tokB; refine wp_st_over rfl _ _ rfl (pb + 1) p pkt0 HR2b rfl rfl ?_; clear tokB)
        exact bodyPost_ret (results_blk Try.results19 _ _ (pb + 1) _ _ _ rfl (blk_over HR2b.out) Try.underlying25 rfl (by rw [p.c_size]; exact size_pk)) rfl (HQT.out _ p _ _ _ (HJ2.out.setCells _ _ _ HNP.out.2) (.whole HMT.out HWH.out.1 HWH.out.2) (HF2.out.cells _ _ _ (by have := HPB.out; omega)) (fun k hk => Or.inl hk))
      · have hd := decide_eq_false hwh
        have HWH := Lib.hid hwh
        clear hwh
        have HOF := Lib.hid (ofJ_any HJ2.out HOK.out.four p)
        go_wp2_with fail
        refine HOF.out.mono ?_
        rintro e w3 ⟨g, c3, pre, d, post, rfl, hJ3, hFD, hF3, hO3⟩
        have HL2 : Hid (pb + 1 < w2.heap.size) := Lib.hid HR2.out.lt
        have HJ3 := Lib.hid hJ3
        have HFD := Lib.hid hFD
        have hpb0 := HNP.out
        have HP3 : Hid (Blk w3 pb 25 p.c) := Lib.hid (HP2.out.of_heap (hF3.block pb HP2.out.lt hpb0.1))
        have HR3 : Hid (Blk w3 (pb + 1) 25 pk0) := Lib.hid (HR2.out.of_heap (hF3.block _ HR2.out.lt hpb0.2))
        have HF3 : Hid (Fr (ownJ jb o D) w w3) := Lib.hid (HF2.out.trans hF3)
        have HO3 : Hid (∀ k, ownJ jb (some ⟨g, 0, none⟩) (pre ++ d :: post) k → ownJ jb o D k ∨ w.heap.size ≤ k) := Lib.hid (fun k hk => (hO3 k hk).elim Or.inl (fun h => Or.inr (Nat.le_trans HF2.out.size h)))
        have HN3 : Hid (¬ ownJ jb (some ⟨g, 0, none⟩) (pre ++ d :: post) pb ∧ ¬ ownJ jb (some ⟨g, 0, none⟩) (pre ++ d :: post) (pb + 1)) := Lib.hid ⟨fun hk => (hO3 _ hk).elim hpb0.1 (fun h => by have := HL2.out; omega), fun hk => (hO3 _ hk).elim hpb0.2 (fun h => by have := HL2.out; omega)⟩
        have hdok := hFD.ok HOK.out
        have HDO : Hid (DOk N d ∧ (pre ++ d :: post).length ≤ 4) := Lib.hid ⟨hdok.1, by have := hdok.2.2.1; simp at this ⊢; omega⟩
        have HLN : Hid (d.L.length ≤ 900) := Lib.hid (Nat.le_trans hdok.1.len HN.out)
        clear hJ3 hFD hF3 hO3 hpb0 hdok HOF lp hd HP2 HR2 HJ2 HF2 HOK HNP HL2 HN HM
        have HDG : Hid (DgAt w3 B d) := Lib.hid (HJ3.out.dg d mem_self)
        have c10 := (dt_cells HDG.out.blk.blk).1
        have HCO := Lib.hid (contJ_any d.o d.cap pb d.L p (by have := HLN.out; omega) w3 HDG.out.row HP3.out)
        obtain ⟨sb, hsb⟩ : ∃ sb, sb = d.L.any (fun x => sameB x p) := ⟨_, rfl⟩
        rw [← hsb] at HCO
        have HSB : Hid (d.L.any (fun x => sameB x p) = sb) := Lib.hid hsb.symm
        clear hsb
        go_wp2_with fail
        refine HCO.out.mono ?_
        rintro e w4 ⟨rfl, hb4⟩
        have HP4 := Lib.hid (HP3.out.step hb4)
        have HR4 : Hid (Blk w4 (pb + 1) 25 pk0) := Lib.hid (HR3.out.step hb4)
        have HJ4 := Lib.hid (HJ3.out.below hb4)
        have HF4 := Lib.hid (HF3.out.step hb4)
        clear hb4 c10 HCO HP3 HR3 HJ3 HF3 HDG
        cases sb with
        | true =>
          have tokZ2 : True := trivial
          go_wp2_with (have _t := tokZ2; refine wpList_store_blk rfl 25 _ _ rfl (pb + 1) pk0 rfl rfl pk0 25 HR4.out rfl size_pk rfl ?_; clear tokZ2)
          exact bodyPost_ret (results_blk Try.results19 _ _ (pb + 1) _ _ _ rfl (HR4.out.setAll rfl) Try.underlying25 rfl size_pk) rfl (HQF.out _ _ _ _ (HJ4.out.setCells _ _ _ HN3.out.2) (.same HMT.out HWH.out HFD.out HSB.out) (HF4.out.cells _ _ _ (by have := HPB.out; omega)) (HO3.out))
        | false =>
          have HDG : Hid (DgAt w4 B d) := Lib.hid (HJ4.out.dg d mem_self)
          have c10 := (dt_cells HDG.out.blk.blk).1
          have lp : (Ld 25 (.pointer (some ⟨pb, 0, none⟩))).run Try.prog w4 = .ok (.agg p.c) w4 := HP4.out.ld_pkt
          have HFI := Lib.hid (fits_any p HMT.out d.b d.o d.cap d.L (fun x hx => (HDO.out.1.may x hx).1) (by have := HLN.out; omega) w4 HDG.out.blk.lt c10 HDG.out.row.ps)
          obtain ⟨fb, hfb⟩ : ∃ fb, fb = fitsV d.L p := ⟨_, rfl⟩
          rw [← hfb] at HFI
          have HFB : Hid (fitsV d.L p = fb) := Lib.hid hfb.symm
          clear hfb c10
          go_wp2_with fail
          refine HFI.out.mono ?_
          rintro e w5 ⟨rfl, hb5⟩
          have HP5 := Lib.hid (HP4.out.step hb5)
          have HR5 : Hid (Blk w5 (pb + 1) 25 pk0) := Lib.hid (HR4.out.step hb5)
          have HJ5 := Lib.hid (HJ4.out.below hb5)
          have HF5 := Lib.hid (HF4.out.step hb5)
          clear hb5 lp HFI HP4 HR4 HJ4 HF4 HDG
          cases fb with
          | false =>
            have HDR := Lib.hid (droJ_any HJ5.out (by have := HDO.out.2; omega))
            go_wp2_with fail
            refine HDR.out.mono ?_
            rintro e w6 ⟨rfl, hJ6, hF6⟩
            have HR6 : Hid (Blk w6 (pb + 1) 25 pk0) := Lib.hid (HR5.out.of_heap (hF6.block _ HR5.out.lt HN3.out.2))
            have HJ6 := Lib.hid hJ6
            have HF6 := Lib.hid (HF5.out.tail hF6 HO3.out)
            clear hJ6 hF6 HDR
            have tokZ3 : True := trivial
            go_wp2_with (have _t := tokZ3; refine wpList_store_blk rfl 25 _ _ rfl (pb + 1) pk0 rfl rfl pk0 25 HR6.out rfl size_pk rfl ?_; clear tokZ3)
            exact bodyPost_ret (results_blk Try.results19 _ _ (pb + 1) _ _ _ rfl (HR6.out.setAll rfl) Try.underlying25 rfl size_pk) rfl (HQF.out _ _ _ _ (HJ6.out.setCells _ _ _ (fun hk => HN3.out.2 (own_less hk))) (.clash HMT.out HWH.out HFD.out HSB.out HFB.out) (HF6.out.cells _ _ _ (by have := HPB.out; omega)) (fun k hk => HO3.out k (own_less hk)))
          | true =>
            have HDG : Hid (DgAt w5 B d) := Lib.hid (HJ5.out.dg d mem_self)
            have HOW : Hid (w5.ownsRow B 25 14 (.slice d.o d.L.length d.cap) d.L.length (flatP d.L)) := Lib.hid (HDG.out.row.own HDG.out.ro)
            have HDT : Hid (At w5 d.b 78 (dtC d.nm (.slice d.o d.L.length d.cap) d.age)) := Lib.hid HDG.out.blk
            have HNB : Hid ((Value.slice d.o d.L.length d.cap).ownBlock ≠ some d.b ∧ ∀ q, (Value.slice d.o d.L.length d.cap).ownBlock = some q → d.o = some ⟨q, 0, none⟩) := Lib.hid (by
              rcases HDG.out.row with ⟨h1, _, _⟩ | ⟨q, h1, h2⟩
              · rw [h1]; exact ⟨by simp [Value.ownBlock], fun q hq => by simp [Value.ownBlock] at hq⟩
              · have := (HJ5.out.ne_jb mem_self).2.2.2.2.1
                rw [h1] at this ⊢
                refine ⟨fun e => this (by simp only [Value.ownBlock] at e; rw [Option.some.inj e]), fun q' hq => by simp only [Value.ownBlock] at hq; rw [Option.some.inj hq]⟩)
            have HF0 : Hid (Fr (fun k => k = d.b ∨ d.o = some ⟨k, 0, none⟩) w5 w5) := Lib.hid (Fr.refl _ _)
            have HBB : Hid (B ≤ w5.heap.size) := Lib.hid HJ5.out.size
            obtain ⟨i0, hi0, hz0, hz1, hz2⟩ := info_parts info_pkt
            go_upto_region 11 with fail
            go_cut [6] from 46 to 55 (fun v wx => v = ptr d.b ∧ ∃ gl cl, At wx d.b 78 (dtC d.nm (.slice (some ⟨gl, 0, none⟩) (d.L.length + 1) cl) d.age) ∧ PkRow wx gl cl (d.L ++ [p]) ∧ Fr (fun k => k = d.b ∨ d.o = some ⟨k, 0, none⟩) w5 wx ∧ Blk wx (pb + 1) 25 pk0 ∧ (d.o = some ⟨gl, 0, none⟩ ∨ w5.heap.size ≤ gl) ∧ gl ≠ d.b ∧ gl ≠ pb + 1)
            case first =>
              have HPa0 : Hid (Blk (World.drew w5) pb 25 p.c) := Lib.hid (Blk.drew HP5.out)
              have HRa0 : Hid (Blk (World.drew w5) (pb + 1) 25 pk0) := Lib.hid (Blk.drew HR5.out)
              have HDa0 : Hid (At (World.drew w5) d.b 78 (dtC d.nm (.slice d.o d.L.length d.cap) d.age)) := Lib.hid HDT.out
              have HOa0 : Hid ((World.drew w5).ownsRow B 25 14 (.slice d.o d.L.length d.cap) d.L.length (flatP d.L)) := Lib.hid HOW.out
              have HFa0 : Hid (Fr (fun k => k = d.b ∨ d.o = some ⟨k, 0, none⟩) w5 (World.drew w5)) := Lib.hid (Fr.drewN _ w5 1)
              refine wp_region_noPanic ?_
              refine wp_region_held_drew (S := (fun w' => (Ld 25 (.pointer (some ⟨pb, 0, none⟩))).run Try.prog w' = .ok (.agg p.c) w')) (by kernel_rfl) (by first | exact HPa0.out.ld_pkt) (fun hHeld => ?_)
              refine wpAnyH_take (i := 0) (oi := _) (v := ?vr1n0_5) rfl (by kernel_rfl) (by kernel_rfl) (by kernel_rfl) (fun _ _ _ h => h) (Or.inl ⟨by kernel_rfl, ?hr1n0_5⟩) hHeld ?_
              case hr1n0_5 => (intro w hSw; (try dsimp only at hSw); go_simp; try (with_reducible rfl))
              try simp only [List.getElem_toArray, List.getElem_cons_zero, List.getElem_cons_succ, Act.put, List.setIfInBounds_toArray, List.set_cons_zero, List.set_cons_succ]
              refine wpAnyH_take (i := 1) (oi := _) (v := ?vr1n1_6) rfl (by kernel_rfl) (by kernel_rfl) (by kernel_rfl) (fun _ _ _ h => h) (Or.inl ⟨by kernel_rfl, ?hr1n1_6⟩) hHeld ?_
              case hr1n1_6 => (intro w hSw; (try dsimp only at hSw); go_simp; try (with_reducible rfl))
              try simp only [List.getElem_toArray, List.getElem_cons_zero, List.getElem_cons_succ, Act.put, List.setIfInBounds_toArray, List.set_cons_zero, List.set_cons_succ]
              refine wpAnyH_take (i := 2) (oi := _) (v := ?vr1n2_7) rfl (by kernel_rfl) (by kernel_rfl) (by kernel_rfl) (fun _ _ _ h => h) (Or.inl ⟨by kernel_rfl, ?hr1n2_7⟩) hHeld ?_
              case hr1n2_7 => (intro w hSw; (try dsimp only at hSw); go_simp; try (with_reducible rfl))
              try simp only [List.getElem_toArray, List.getElem_cons_zero, List.getElem_cons_succ, Act.put, List.setIfInBounds_toArray, List.set_cons_zero, List.set_cons_succ]
              refine wpAnyH_take (i := 3) (oi := _) (v := ?vr1n3_8) rfl (by kernel_rfl) (by kernel_rfl) (by kernel_rfl) (fun _ _ _ h => h) (Or.inl ⟨by kernel_rfl, ?hr1n3_8⟩) hHeld ?_
              case hr1n3_8 => (intro w hSw; (try dsimp only at hSw); go_simp; try (with_reducible rfl))
              try simp only [List.getElem_toArray, List.getElem_cons_zero, List.getElem_cons_succ, Act.put, List.setIfInBounds_toArray, List.set_cons_zero, List.set_cons_succ]
              refine wpAnyH_take (i := 5) (oi := _) (v := ?vr1n5_9) rfl (by kernel_rfl) (by kernel_rfl) (by kernel_rfl) (fun _ _ _ h => h) (Or.inl ⟨by kernel_rfl, ?hr1n5_9⟩) hHeld ?_
              case hr1n5_9 => (intro w hSw; (try dsimp only at hSw); go_simp; try (with_reducible rfl))
              try simp only [List.getElem_toArray, List.getElem_cons_zero, List.getElem_cons_succ, Act.put, List.setIfInBounds_toArray, List.set_cons_zero, List.set_cons_succ]
              refine wpAnyH_ready (rs := [4, 6]) (by kernel_rfl) (by simp) ?_
              refine AllReadyH.cons (o := _) rfl (fun K hK => ?_) ?_
              · skip
                (have c10 := (dt_cells (At.blk HDa0.out)).1)
                go_simp
                (clear c10)
                refine hK.out _ _ ?_ (fun hHeld1 => ?_)
                · (first | exact HPa0.out.ld_pkt)
                clear hHeld hK K
                try simp only [List.getElem_toArray, List.getElem_cons_zero, List.getElem_cons_succ, Act.put, List.setIfInBounds_toArray, List.set_cons_zero, List.set_cons_succ]
                refine wpAnyH_ready (rs := [6]) (by kernel_rfl) (by simp) ?_
                refine AllReadyH.cons (o := _) rfl (fun K hK => ?_) AllReadyH.nil
                (refine step_bsp rfl (.tmp 51) rfl p rfl ?_; have HPa1 := Lib.hid (HPa0.out.alloc (.cells p.c 25)); have HRa1 := Lib.hid (HRa0.out.alloc (.cells p.c 25)); have HDa1 := Lib.hid (HDa0.out.same (((Below.refl _ (World.drew w5)).alloc (Nat.le_refl _) (.cells p.c 25)).block d.b HDa0.out.lt)); have HOa1 := Lib.hid (HOa0.out.alloc (.cells p.c 25)); have HFa1 := Lib.hid (HFa0.out.step ((Below.refl _ (World.drew w5)).alloc (Nat.le_refl _) (.cells p.c 25))); have HEa1 := Lib.hid (Blk.new (World.drew w5) 25 p.c 0 0 (Or.inl (Nat.le_refl _))); have HLa1 : Hid (pb + 1 < _ ) := Lib.hid HRa1.out.lt; generalize World.alloc _ _ = y1 at HPa1 HRa1 HDa1 HOa1 HFa1 HEa1 HLa1 ⊢; (try go_simp))
                refine hK.out _ _ ?_ (fun hHeld2 => ?_)
                · (first | exact HPa1.out.ld_pkt)
                clear hHeld1 hK K
                try simp only [List.getElem_toArray, List.getElem_cons_zero, List.getElem_cons_succ, Act.put, List.setIfInBounds_toArray, List.set_cons_zero, List.set_cons_succ]
                refine wpAnyH_ready (rs := [7]) (by kernel_rfl) (by simp) ?_
                refine AllReadyH.cons (o := _) rfl (fun K hK => ?_) AllReadyH.nil
                (refine step_append_lies _ rfl (.tmp 50) (.tmp 52) 51 rfl B 25 i0 (.agg pk0) 14 64 Try.underlying51 hi0 hz0 hz1 hz2 rfl (by decide) (.slice d.o d.L.length d.cap) d.L.length (flatP d.L) rfl HOa1.out ⟨(World.drew w5).heap.size, 0, none⟩ 1 1 (encP p) rfl (encP_len p) (pblk_cells HEa1.out) (encP_one p) (by decide) (by have := HLN.out; unfold maxLen; omega) (by have := HLN.out; omega) (by have := HFa1.out.size; have := HBB.out; omega) _ rfl ?_; intro gl cl y2 hown hg hgo hgl; have HPa2 : Hid (Blk y2 pb 25 p.c) := Lib.hid (HPa1.out.of_heap (hg.block pb HPa1.out.lt (fun e => HN3.out.1 (own_d (Or.inr (HNB.out.2 pb e.symm)))))); have HRa2 : Hid (Blk y2 (pb + 1) 25 pk0) := Lib.hid (HRa1.out.of_heap (hg.block (pb + 1) HRa1.out.lt (fun e => HN3.out.2 (own_d (Or.inr (HNB.out.2 (pb + 1) e.symm)))))); have HDa2 : Hid (At y2 d.b 78 (dtC d.nm (.slice d.o d.L.length d.cap) d.age)) := Lib.hid (HDa1.out.same (hg.block d.b HDa1.out.lt (fun e => HNB.out.1 e.symm))); have HOa2 := Lib.hid hown; have HGO2 : Hid (d.o = some ⟨gl, 0, none⟩ ∨ w5.heap.size ≤ gl) := Lib.hid (hgo.elim (fun e => Or.inl (HNB.out.2 gl e)) (fun e => Or.inr (by rw [e]; exact HFa1.out.size))); have HFa2 : Hid (Fr (fun k => k = d.b ∨ d.o = some ⟨k, 0, none⟩) w5 y2) := Lib.hid (HFa1.out.tail (T := fun k => d.o = some ⟨k, 0, none⟩) ⟨hg.os, hg.tape, hg.output, hg.size, fun k hk hn => hg.block k hk (fun e => hn (HNB.out.2 k e.symm))⟩ (fun k hk => Or.inl (Or.inr hk))); have HGD2 : Hid (gl ≠ d.b ∧ gl < y2.heap.size ∧ gl ≠ pb + 1) := Lib.hid ⟨hgo.elim (fun e => fun e2 => HNB.out.1 (by rw [e, e2])) (fun e => by have := HDa1.out.lt; omega), hgl, hgo.elim (fun e => fun e2 => HN3.out.2 (own_d (Or.inr (HNB.out.2 _ (e2 ▸ e))))) (fun e => by have := HRa1.out.lt; omega)⟩; clear hown hg hgo hgl; (try go_simp))
                refine hK.out _ _ ?_ (fun hHeld3 => ?_)
                · (first | exact HPa2.out.ld_pkt)
                clear hHeld2 hK K
                try simp only [List.getElem_toArray, List.getElem_cons_zero, List.getElem_cons_succ, Act.put, List.setIfInBounds_toArray, List.set_cons_zero, List.set_cons_succ]
                refine wpAnyH_take (i := 8) (oi := _) (v := ?vr1n8_10) rfl (by kernel_rfl) (by kernel_rfl) (by kernel_rfl) (fun _ _ _ h => h) (Or.inl ⟨by kernel_rfl, ?hr1n8_10⟩) hHeld3 ?_
                case hr1n8_10 => (intro w hSw; (try dsimp only at hSw); go_simp; try (with_reducible rfl))
                try simp only [List.getElem_toArray, List.getElem_cons_zero, List.getElem_cons_succ, Act.put, List.setIfInBounds_toArray, List.set_cons_zero, List.set_cons_succ]
                refine wpAnyH_take (i := 9) (oi := _) (v := ?vr1n9_11) rfl (by kernel_rfl) (by kernel_rfl) (by kernel_rfl) (fun _ _ _ h => h) (Or.inl ⟨by kernel_rfl, ?hr1n9_11⟩) hHeld3 ?_
                case hr1n9_11 => (intro w hSw; (try dsimp only at hSw); go_simp; try (with_reducible rfl))
                try simp only [List.getElem_toArray, List.getElem_cons_zero, List.getElem_cons_succ, Act.put, List.setIfInBounds_toArray, List.set_cons_zero, List.set_cons_succ]
                refine wpAnyH_ready (rs := [10]) (by kernel_rfl) (by simp) ?_
                refine AllReadyH.cons (o := _) rfl (fun K hK => ?_) AllReadyH.nil
                (have c10 := (dt_cells (At.blk HDa2.out)).1; have f10 := (At.blk HDa2.out).free 10 (by rw [dtC_size]; decide); have HPa99 := Lib.hid (HPa2.out.set_other ⟨d.b, 10, none⟩ (.slice (some ⟨gl, 0, none⟩) (d.L.length + 1) cl) (fun e => HN3.out.1 (own_d (Or.inl e)))))
                go_simp
                (clear c10 f10)
                refine hK.out _ _ ?_ (fun hHeld4 => ?_)
                · (first | exact HPa99.out.ld_pkt)
                clear hHeld3 hK K
                try simp only [List.getElem_toArray, List.getElem_cons_zero, List.getElem_cons_succ, Act.put, List.setIfInBounds_toArray, List.set_cons_zero, List.set_cons_succ]
                refine wpAnyH_done (by kernel_rfl) ?_ _
                refine NoPanic.normal ?_
                go_wp2_with fail
                go_meet
                have hset := (HDa2.out).set 10 (.slice (some ⟨gl, 0, none⟩) (d.L.length + 1) cl)
                rw [dt_set10] at hset
                exact ⟨rfl, gl, cl, hset, (own_pk (L := d.L ++ [p]) (by rw [flatP_snoc]; exact HOa2.out) (by simp)).same ((Fr.set y2 d.b 10 _).block gl HGD2.out.2.1 (fun e => HGD2.out.1 e)), HFa2.out.tail (Fr.set y2 d.b 10 _) (fun k hk => Or.inl (Or.inl hk)), HRa2.out.set_other ⟨d.b, 10, none⟩ _ (fun e => HN3.out.2 (own_d (Or.inl e))), HGO2.out, HGD2.out.1, HGD2.out.2.2⟩
              refine AllReadyH.cons (o := _) rfl (fun K hK => ?_) AllReadyH.nil
              (refine step_bsp rfl (.tmp 51) rfl p rfl ?_; have HPa3 := Lib.hid (HPa0.out.alloc (.cells p.c 25)); have HRa3 := Lib.hid (HRa0.out.alloc (.cells p.c 25)); have HDa3 := Lib.hid (HDa0.out.same (((Below.refl _ (World.drew w5)).alloc (Nat.le_refl _) (.cells p.c 25)).block d.b HDa0.out.lt)); have HOa3 := Lib.hid (HOa0.out.alloc (.cells p.c 25)); have HFa3 := Lib.hid (HFa0.out.step ((Below.refl _ (World.drew w5)).alloc (Nat.le_refl _) (.cells p.c 25))); have HEa3 := Lib.hid (Blk.new (World.drew w5) 25 p.c 0 0 (Or.inl (Nat.le_refl _))); have HLa3 : Hid (pb + 1 < _ ) := Lib.hid HRa3.out.lt; generalize World.alloc _ _ = y3 at HPa3 HRa3 HDa3 HOa3 HFa3 HEa3 HLa3 ⊢; (try go_simp))
              refine hK.out _ _ ?_ (fun hHeld5 => ?_)
              · (first | exact HPa3.out.ld_pkt)
              clear hHeld hK K
              try simp only [List.getElem_toArray, List.getElem_cons_zero, List.getElem_cons_succ, Act.put, List.setIfInBounds_toArray, List.set_cons_zero, List.set_cons_succ]
              refine wpAnyH_ready (rs := [4]) (by kernel_rfl) (by simp) ?_
              refine AllReadyH.cons (o := _) rfl (fun K hK => ?_) AllReadyH.nil
              (have c10 := (dt_cells (At.blk HDa3.out)).1)
              go_simp
              (clear c10)
              refine hK.out _ _ ?_ (fun hHeld6 => ?_)
              · (first | exact HPa3.out.ld_pkt)
              clear hHeld5 hK K
              try simp only [List.getElem_toArray, List.getElem_cons_zero, List.getElem_cons_succ, Act.put, List.setIfInBounds_toArray, List.set_cons_zero, List.set_cons_succ]
              refine wpAnyH_ready (rs := [7]) (by kernel_rfl) (by simp) ?_
              refine AllReadyH.cons (o := _) rfl (fun K hK => ?_) AllReadyH.nil
              (refine step_append_lies _ rfl (.tmp 50) (.tmp 52) 51 rfl B 25 i0 (.agg pk0) 14 64 Try.underlying51 hi0 hz0 hz1 hz2 rfl (by decide) (.slice d.o d.L.length d.cap) d.L.length (flatP d.L) rfl HOa3.out ⟨(World.drew w5).heap.size, 0, none⟩ 1 1 (encP p) rfl (encP_len p) (pblk_cells HEa3.out) (encP_one p) (by decide) (by have := HLN.out; unfold maxLen; omega) (by have := HLN.out; omega) (by have := HFa3.out.size; have := HBB.out; omega) _ rfl ?_; intro gl cl y4 hown hg hgo hgl; have HPa4 : Hid (Blk y4 pb 25 p.c) := Lib.hid (HPa3.out.of_heap (hg.block pb HPa3.out.lt (fun e => HN3.out.1 (own_d (Or.inr (HNB.out.2 pb e.symm)))))); have HRa4 : Hid (Blk y4 (pb + 1) 25 pk0) := Lib.hid (HRa3.out.of_heap (hg.block (pb + 1) HRa3.out.lt (fun e => HN3.out.2 (own_d (Or.inr (HNB.out.2 (pb + 1) e.symm)))))); have HDa4 : Hid (At y4 d.b 78 (dtC d.nm (.slice d.o d.L.length d.cap) d.age)) := Lib.hid (HDa3.out.same (hg.block d.b HDa3.out.lt (fun e => HNB.out.1 e.symm))); have HOa4 := Lib.hid hown; have HGO4 : Hid (d.o = some ⟨gl, 0, none⟩ ∨ w5.heap.size ≤ gl) := Lib.hid (hgo.elim (fun e => Or.inl (HNB.out.2 gl e)) (fun e => Or.inr (by rw [e]; exact HFa3.out.size))); have HFa4 : Hid (Fr (fun k => k = d.b ∨ d.o = some ⟨k, 0, none⟩) w5 y4) := Lib.hid (HFa3.out.tail (T := fun k => d.o = some ⟨k, 0, none⟩) ⟨hg.os, hg.tape, hg.output, hg.size, fun k hk hn => hg.block k hk (fun e => hn (HNB.out.2 k e.symm))⟩ (fun k hk => Or.inl (Or.inr hk))); have HGD4 : Hid (gl ≠ d.b ∧ gl < y4.heap.size ∧ gl ≠ pb + 1) := Lib.hid ⟨hgo.elim (fun e => fun e2 => HNB.out.1 (by rw [e, e2])) (fun e => by have := HDa3.out.lt; omega), hgl, hgo.elim (fun e => fun e2 => HN3.out.2 (own_d (Or.inr (HNB.out.2 _ (e2 ▸ e))))) (fun e => by have := HRa3.out.lt; omega)⟩; clear hown hg hgo hgl; (try go_simp))
              refine hK.out _ _ ?_ (fun hHeld7 => ?_)
              · (first | exact HPa4.out.ld_pkt)
              clear hHeld6 hK K
              try simp only [List.getElem_toArray, List.getElem_cons_zero, List.getElem_cons_succ, Act.put, List.setIfInBounds_toArray, List.set_cons_zero, List.set_cons_succ]
              refine wpAnyH_take (i := 8) (oi := _) (v := ?vr1n8_12) rfl (by kernel_rfl) (by kernel_rfl) (by kernel_rfl) (fun _ _ _ h => h) (Or.inl ⟨by kernel_rfl, ?hr1n8_12⟩) hHeld7 ?_
              case hr1n8_12 => (intro w hSw; (try dsimp only at hSw); go_simp; try (with_reducible rfl))
              try simp only [List.getElem_toArray, List.getElem_cons_zero, List.getElem_cons_succ, Act.put, List.setIfInBounds_toArray, List.set_cons_zero, List.set_cons_succ]
              refine wpAnyH_take (i := 9) (oi := _) (v := ?vr1n9_13) rfl (by kernel_rfl) (by kernel_rfl) (by kernel_rfl) (fun _ _ _ h => h) (Or.inl ⟨by kernel_rfl, ?hr1n9_13⟩) hHeld7 ?_
              case hr1n9_13 => (intro w hSw; (try dsimp only at hSw); go_simp; try (with_reducible rfl))
              try simp only [List.getElem_toArray, List.getElem_cons_zero, List.getElem_cons_succ, Act.put, List.setIfInBounds_toArray, List.set_cons_zero, List.set_cons_succ]
              refine wpAnyH_ready (rs := [10]) (by kernel_rfl) (by simp) ?_
              refine AllReadyH.cons (o := _) rfl (fun K hK => ?_) AllReadyH.nil
              (have c10 := (dt_cells (At.blk HDa4.out)).1; have f10 := (At.blk HDa4.out).free 10 (by rw [dtC_size]; decide); have HPa99 := Lib.hid (HPa4.out.set_other ⟨d.b, 10, none⟩ (.slice (some ⟨gl, 0, none⟩) (d.L.length + 1) cl) (fun e => HN3.out.1 (own_d (Or.inl e)))))
              go_simp
              (clear c10 f10)
              refine hK.out _ _ ?_ (fun hHeld8 => ?_)
              · (first | exact HPa99.out.ld_pkt)
              clear hHeld7 hK K
              try simp only [List.getElem_toArray, List.getElem_cons_zero, List.getElem_cons_succ, Act.put, List.setIfInBounds_toArray, List.set_cons_zero, List.set_cons_succ]
              refine wpAnyH_done (by kernel_rfl) ?_ _
              refine NoPanic.normal ?_
              go_wp2_with fail
              go_meet
              have hset := (HDa4.out).set 10 (.slice (some ⟨gl, 0, none⟩) (d.L.length + 1) cl)
              rw [dt_set10] at hset
              exact ⟨rfl, gl, cl, hset, (own_pk (L := d.L ++ [p]) (by rw [flatP_snoc]; exact HOa4.out) (by simp)).same ((Fr.set y4 d.b 10 _).block gl HGD4.out.2.1 (fun e => HGD4.out.1 e)), HFa4.out.tail (Fr.set y4 d.b 10 _) (fun k hk => Or.inl (Or.inl hk)), HRa4.out.set_other ⟨d.b, 10, none⟩ _ (fun e => HN3.out.2 (own_d (Or.inl e))), HGO4.out, HGD4.out.1, HGD4.out.2.2⟩
            case rest =>
              obtain ⟨rfl, gl, cl, hw7, ho7, hf7, hr7, hgo, hgd⟩ := hcut
              obtain ⟨w7, rfl⟩ : ∃ w7 : World, w7 = wc := ⟨_, rfl⟩
              have HW7 := Lib.hid hw7
              have HO7 := Lib.hid ho7
              have HF7 := Lib.hid hf7
              have HR7 := Lib.hid hr7
              have HGO := Lib.hid hgo
              have HGD := Lib.hid hgd
              clear hw7 ho7 hf7 hr7 hgo hgd
              obtain ⟨d1, hd1⟩ : ∃ d1 : Dg, d1 = ⟨d.b, some ⟨gl, 0, none⟩, cl, d.nm, d.L ++ [p], d.age⟩ := ⟨_, rfl⟩
              have hlen1 : (d.L ++ [p]).length = d.L.length + 1 := by simp
              have HE1 : Hid (d1.b = d.b ∧ d1.o = some ⟨gl, 0, none⟩ ∧ d1.cap = cl ∧ d1.L = d.L ++ [p] ∧ d1.nm = d.nm ∧ d1.age = d.age) := Lib.hid (by rw [hd1]; exact ⟨rfl, rfl, rfl, rfl, rfl, rfl⟩)
              have HJ7 : Hid (JS w7 B jb lim (some ⟨g, 0, none⟩) c3 (pre ++ d1 :: post)) := Lib.hid (HJ5.out.repl d1 HE1.out.1 (by
                rw [hd1]
                refine ⟨by rw [hlen1]; exact HW7.out, Or.inr ⟨gl, rfl, HO7.out⟩, HDG.out.lo, fun q e => ?_⟩
                injection e with e
                injection e with e
                subst e
                exact HGO.out.elim (fun e => HDG.out.ro _ e) (fun e => Nat.le_trans HBB.out e)) HF7.out (Or.inr ⟨gl, HE1.out.2.1, HGO.out⟩))
              have HO3b : Hid (∀ k, ownJ jb (some ⟨g, 0, none⟩) (pre ++ d1 :: post) k → ownJ jb o D k ∨ w.heap.size ≤ k) := Lib.hid (fun k hk => (own_repl (n := w5.heap.size) HE1.out.1 (Or.inr ⟨gl, HE1.out.2.1, HGO.out⟩) hk).elim (HO3.out k) (fun h => Or.inr (Nat.le_trans HF5.out.size h)))
              have HN3b : Hid (¬ ownJ jb (some ⟨g, 0, none⟩) (pre ++ d1 :: post) (pb + 1)) := Lib.hid (fun hk => (own_repl (n := w5.heap.size) HE1.out.1 (Or.inr ⟨gl, HE1.out.2.1, HGO.out⟩) hk).elim HN3.out.2 (fun h => by have := HR5.out.lt; omega))
              have HF7w : Hid (Fr (ownJ jb o D) w w7) := Lib.hid (HF5.out.tail HF7.out (fun k hk => HO3.out k (own_d hk)))
              have HMA : Hid (∀ x ∈ d.L ++ [p], May x) := Lib.hid (fun x hx => (List.mem_append.1 hx).elim (fun hx => (HDO.out.1.may x hx).1) (fun hx => by rw [List.mem_singleton.1 hx]; exact HMT.out))
              have c10 : w7.cell? ⟨d.b, 10, none⟩ = some (.slice (some ⟨gl, 0, none⟩) (d.L ++ [p]).length cl) := by rw [hlen1]; exact (dt_cells (At.blk HW7.out)).1
              have HDN := Lib.hid (done_any d.b gl cl (d.L ++ [p]) HMA.out (by rw [hlen1]; have := HLN.out; omega) w7 HW7.out.lt c10 (fun e => HGD.out.1 e.symm) HO7.out)
              clear c10 hd1 HF7 HJ5 HF5 HDG HOW HDT HF0 HN3 HO3 HR5 HP5 hi0 hz0 hz1 hz2
              go_wp2_with fail
              refine HDN.out.mono ?_
              rintro e w8 ⟨S, s1, s2, rfl, hrow, hg8⟩
              obtain ⟨d2, hd2⟩ : ∃ d2 : Dg, d2 = ⟨d.b, some ⟨gl, 0, none⟩, cl, d.nm, S, d.age⟩ := ⟨_, rfl⟩
              have hE2 : d2.b = d1.b ∧ d2.o = d1.o ∧ d2.L = S ∧ d2.nm = d.nm ∧ d2.age = d.age := by rw [hd2]; exact ⟨HE1.out.1.symm, HE1.out.2.1.symm, rfl, rfl, rfl⟩
              have HE2 := Lib.hid hE2
              have hf8 : Fr (fun k => k = d1.b ∨ d1.o = some ⟨k, 0, none⟩) w7 w8 := ⟨hg8.os, hg8.tape, hg8.output, hg8.size, fun k hk hn => hg8.block k hk (fun e => hn (Or.inr (by rw [HE1.out.2.1, Option.some.inj e])))⟩
              have HJ8 : Hid (JS w8 B jb lim (some ⟨g, 0, none⟩) c3 (pre ++ d2 :: post)) := Lib.hid (HJ7.out.repl d2 hE2.1 (by
                have k := HJ7.out.dg d1 mem_self
                rw [hd2]
                refine ⟨?_, Or.inr ⟨gl, rfl, hrow⟩, by rw [← HE1.out.1]; exact k.lo, fun q e => k.ro q (by rw [HE1.out.2.1]; exact e)⟩
                have hlS : S.length = d.L.length + 1 := by rw [s2.len, hlen1]
                show At w8 d.b 78 (dtC d.nm (.slice (some ⟨gl, 0, none⟩) S.length cl) d.age)
                rw [hlS]
                exact HW7.out.same (hg8.block d.b HW7.out.lt (fun e => HGD.out.1 (Option.some.inj e).symm))) hf8 (Or.inl hE2.2.1))
              have HO8 : Hid (∀ k, ownJ jb (some ⟨g, 0, none⟩) (pre ++ d2 :: post) k → ownJ jb o D k ∨ w.heap.size ≤ k) := Lib.hid (fun k hk => (own_repl (n := w.heap.size) hE2.1 (Or.inl hE2.2.1) hk).elim (HO3b.out k) Or.inr)
              have HN8 : Hid (¬ ownJ jb (some ⟨g, 0, none⟩) (pre ++ d2 :: post) (pb + 1)) := Lib.hid (fun hk => (own_repl (n := w7.heap.size) hE2.1 (Or.inl hE2.2.1) hk).elim HN3b.out (fun h => by have := HR7.out.lt; omega))
              have HF8 : Hid (Fr (ownJ jb o D) w w8) := Lib.hid (HF7w.out.tail hf8 (fun k hk => HO3b.out k (own_d hk)))
              have HR8 : Hid (Blk w8 (pb + 1) 25 pk0) := Lib.hid (HR7.out.of_heap (hg8.block _ HR7.out.lt (fun e => HGD.out.2 (Option.some.inj e).symm)))
              have HS := Lib.hid (And.intro s1 s2)
              clear s1 s2 hrow hg8 hd2 hE2 hf8 HDN HW7 HO7 HJ7 HF7w HO3b HN3b HR7 HGD HMA hlen1
              obtain ⟨out, hout⟩ : ∃ out, out = (doneV S).1 := ⟨_, rfl⟩
              obtain ⟨ok, hok⟩ : ∃ ok, ok = (doneV S).2 := ⟨_, rfl⟩
              rw [← hout, ← hok]
              have HOU : Hid ((doneV S).1 = out ∧ (doneV S).2 = ok) := Lib.hid ⟨hout.symm, hok.symm⟩
              clear hout hok
              have hb9 := (Below.refl w8.heap.size w8).alloc (Nat.le_refl _) (.cells pk0 25)
              have HM9 := Lib.hid (Blk.new w8 25 pk0 0 0 (Or.inl (Nat.le_refl _)))
              have HJ9 := Lib.hid (HJ8.out.below hb9)
              have HF9 := Lib.hid (HF8.out.step hb9)
              have HR9 := Lib.hid (HR8.out.step hb9)
              have HL9 : Hid (pb + 1 < w8.heap.size) := Lib.hid HR8.out.lt
              have HX9 : Hid (¬ ownJ jb (some ⟨g, 0, none⟩) (pre ++ d2 :: post) w8.heap.size) := Lib.hid (fun hk => Nat.lt_irrefl _ (HJ8.out.own_lt hk).2)
              have HSZ : Hid (w.heap.size ≤ w8.heap.size) := Lib.hid HF8.out.size
              rw [pk0_lit] at HM9 HJ9 HF9 HR9
              clear hb9 HJ8 HF8 HR8
              have tokM : True := trivial
              go_upto_region 13 with (have _t := tokM; generalize World.alloc _ _ = w9 at HM9 HJ9 HF9 HR9 ⊢; refine wp_st_pkt rfl _ _ rfl w8.heap.size out HM9 rfl rfl ?_; clear tokM)
              obtain ⟨mb, hmb⟩ : ∃ mb, mb = w8.heap.size := ⟨_, rfl⟩
              rw [← hmb] at HM9 HX9 HL9 HSZ ⊢
              clear hmb
              have HM10 : Hid (Blk (w9.setCells mb 0 out.c.toList) mb 25 out.c) := Lib.hid (Blk.setAll HM9.out (out.c_size.trans rfl))
              have HJ10 := Lib.hid (HJ9.out.setCells mb 0 out.c.toList HX9.out)
              have HF10 := Lib.hid (HF9.out.cells mb 0 out.c.toList HSZ.out)
              have HR10 : Hid (Blk (w9.setCells mb 0 out.c.toList) (pb + 1) 25 pk0) := Lib.hid (Blk.setCells_other HR9.out mb 0 out.c.toList (by have := HL9.out; omega))
              clear HM9 HJ9 HF9 HR9
              generalize World.setCells _ _ _ _ = w10 at HM10 HJ10 HF10 HR10 ⊢
              cases ok with
              | false =>
                have tokZ4 : True := trivial
                go_wp2_with (have _t := tokZ4; refine wpList_store_blk rfl 25 _ _ rfl (pb + 1) pk0 rfl rfl pk0 25 HR10.out rfl size_pk rfl ?_; clear tokZ4)
                exact bodyPost_ret (results_blk Try.results19 _ _ (pb + 1) _ _ _ rfl (HR10.out.setAll rfl) Try.underlying25 rfl size_pk) rfl (HQF.out _ _ _ _ (HJ10.out.setCells _ _ _ HN8.out) (.part HMT.out HWH.out HFD.out HSB.out HFB.out d2 (by rw [HE2.out.2.2.1]; exact HS.out.1) (by rw [HE2.out.2.2.1]; exact HS.out.2) (by rw [HE2.out.2.2.1]; exact HOU.out.2) HE2.out.2.2.2.1 HE2.out.2.2.2.2) (HF10.out.cells _ _ _ (by have := HPB.out; omega)) (HO8.out))
              | true =>
                have HDR := Lib.hid (droJ_any HJ10.out (by have := HDO.out.2; simp at this ⊢; omega))
                have hbd : ptr d2.b = ptr d.b := by rw [HE2.out.1, HE1.out.1]
                rw [hbd] at HDR
                clear hbd
                go_wp2_with fail
                refine HDR.out.mono ?_
                rintro e w11 ⟨rfl, hJ11, hF11⟩
                have HM11 : Hid (Blk w11 mb 25 out.c) := Lib.hid (HM10.out.of_heap (hF11.block _ HM10.out.lt HX9.out))
                have HR11 : Hid (Blk w11 (pb + 1) 25 pkt0.c) := Lib.hid (by rw [pkt0_c]; exact HR10.out.of_heap (hF11.block _ HR10.out.lt HN8.out))
                have HJ11 := Lib.hid hJ11
                have HF11 := Lib.hid (HF10.out.tail hF11 HO8.out)
                have lm : (Ld 25 (.pointer (some ⟨mb, 0, none⟩))).run Try.prog w11 = .ok (.agg out.c) w11 := HM11.out.ld_pkt
                clear hJ11 hF11 HDR
                have tokD : True := trivial
                go_wp2_with (have _t := tokD; refine wp_st_over rfl _ _ rfl (pb + 1) out pkt0 HR11 rfl rfl ?_; clear tokD)
                exact bodyPost_ret (results_blk Try.results19 _ _ (pb + 1) _ _ _ rfl (blk_over HR11.out) Try.underlying25 rfl (by rw [out.c_size]; exact size_pk)) rfl (HQT.out _ out _ _ _ (HJ11.out.setCells _ _ _ (fun hk => HN8.out (own_less hk))) (by rw [← HOU.out.1]; exact .done HMT.out HWH.out HFD.out HSB.out HFB.out S HS.out.1 HS.out.2 HOU.out.2) (HF11.out.cells _ _ _ (by have := HPB.out; omega)) (fun k hk => HO8.out k (own_less hk)))
end Go.Proofs.Yticchchcobjpdaa
