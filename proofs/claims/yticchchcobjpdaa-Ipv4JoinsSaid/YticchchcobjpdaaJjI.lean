/- The walk through the law Ipv4Joins: it answers true. -/
import Derived.Test.YticchchcobjpdaaJjH
import Derived.Deep.CutBlock
namespace Go.Proofs.Yticchchcobjpdaa
set_option linter.unusedVariables false
set_option linter.unusedSimpArgs false
set_option maxRecDepth 100000
open Go.RowKit Go.Proofs Go.Shelf Go.Lib Go.Sort
attribute [local go_sem ↓] Go.wp_at_zero Go.wp_at_succ
attribute [local go_sem ↓] ld_pk ld_ip ld_wh st_pk st_rjJ
theorem Fr.toBelow' {S : Nat → Prop} {B : Nat} {u v : World} (h : Fr S u v) (hs : ∀ k, S k → B ≤ k) (hB : B ≤ u.heap.size) : Below B u v :=
  ⟨h.os, h.tape, h.output, h.size, fun k hk => h.block k (Nat.lt_of_lt_of_le hk hB) (fun e => by have := hs k e; omega)⟩
theorem run_pkt_equal (x : Pkt) (w : World) : (Op.equalIn 10000 25 (.agg x.c) (.agg x.c)).run Try.prog w = .ok true w := by
  have := run_pk_equal w x.id x.f x.t x.pr x.tt x.a x.mo x.d x.id x.f x.t x.pr x.tt x.a x.mo x.d x.L x.L
  rw [pkEq_self] at this
  exact this
attribute [local go_sem ↓] run_pkt_neq
theorem own_tick {jb k : Nat} {o : Option Addr} {D : List Dg} {lim : Int} (h : ownJ jb o (tickD lim D) k) : ownJ jb o D k := by
  rcases h with h | h | ⟨d, hd, h⟩
  · exact Or.inl h
  · exact Or.inr (Or.inl h)
  · obtain ⟨d0, hd0, rfl⟩ := List.mem_map.1 (List.mem_filter.1 hd).1
    exact Or.inr (Or.inr ⟨d0, hd0, h⟩)
theorem JS.setN {w : World} {B jb : Nat} {lim : Int} {o : Option Addr} {c : Nat} {D : List Dg} (h : JS w B jb lim o c D) (q k : Nat) (vs : List Value) (hn : ¬ ownJ jb o D q) : JS (w.setCells q k vs) B jb lim o c D :=
  h.same (fun g hg => heap_setCells _ _ _ _ _ (fun e => hn (e ▸ hg)))
theorem AtJ.up {w : World} {B B' : Nat} {A : Option Addr} {n : Nat} {ds : Nat → Int} {ps : Nat → Pkt} (h : AtJ w B A n ds ps) (hB : B ≤ B') : AtJ w B' A n ds ps := by
  intro hn
  obtain ⟨b, o, h1, h2, h3⟩ := h hn
  exact ⟨b, o, h1, Nat.lt_of_lt_of_le h2 hB, h3⟩
set_option maxHeartbeats 16000000 in
theorem ipv4Joins_walk (lim : Int) (hlm1 : -9223372036854775808 ≤ lim) (hlm2 : lim ≤ 9223372036854775807) (A : Option Addr) (n c : Nat) (ds : Nat → Int) (ps : Nat → Pkt) (hn : n ≤ maxLen) (hp : ∀ i, i < n → Pin (ps i)) (w : World) (hA : AtJ w w.heap.size A n ds ps) :
    Calls Try.prog 11 #[.int .i64 lim, .slice A n c] w fun e w' => e = .returned (.bool true) ∧ Below w.heap.size w w' := by
  have HA := Lib.hid hA
  have HP := Lib.hid hp
  have HNM := Lib.hid hn
  unfold maxLen at hn
  clear hA hp
  go_enter Try.func11, Try.ntmps11
  go_wp2_with fail
  refine (pkawake_any _).mono ?_
  rintro e w1 ⟨rfl, hb1⟩
  have HB1 := Lib.hid hb1
  have HA1 := Lib.hid ((HA.out.below hb1).up hb1.size)
  clear hb1
  have HGR := Lib.hid (great_any A n c ds ps HNM.out HP.out w1 HA1.out)
  clear HA1
  go_wp2_with fail
  refine HGR.out.mono ?_
  rintro e w2 ⟨hg, hw2⟩
  rw [hw2]
  clear hw2
  obtain ⟨bg, rfl, hg⟩ := hg
  cases bg
  case true =>
    go_wp2
    go_ret
    exact ⟨rfl, HB1.out⟩
  obtain ⟨hn100, h6⟩ := hg rfl
  have HSM := Lib.hid h6
  clear hg h6 HGR
  by_cases hl1 : lim < 1
  · go_wp2_with fail
    refine (newJ_bad lim (Or.inl hl1) _).mono ?_
    rintro e w3 ⟨rfl, hw3⟩
    rw [hw3]
    clear hw3
    go_wp2
    go_ret
    exact ⟨rfl, HB1.out⟩
  by_cases hl2 : 1048576 < lim
  · go_wp2_with fail
    refine (newJ_bad lim (Or.inr hl2) _).mono ?_
    rintro e w3 ⟨rfl, hw3⟩
    rw [hw3]
    clear hw3
    go_wp2
    go_ret
    exact ⟨rfl, HB1.out⟩
  have hl1' : 1 ≤ lim := by omega
  have hl2' : lim ≤ 1048576 := by omega
  have HLI : Hid (0 < lim ∧ 1 ≤ lim ∧ lim ≤ 1048576) := Lib.hid ⟨by omega, by omega, by omega⟩
  go_wp2_with fail
  refine (newJ_any lim hl1' hl2' _).mono ?_
  rintro e w3 ⟨rfl, hjs, hb3⟩
  have HB3 := Lib.hid (Below.step HB1.out hb3)
  have HW3 : Hid (w.heap.size ≤ w1.heap.size) := Lib.hid HB1.out.size
  obtain ⟨jb, hjb⟩ : ∃ q, q = w1.heap.size := ⟨_, rfl⟩
  rw [← hjb] at hjs HW3 ⊢
  have HJ3 := Lib.hid hjs
  have hal := (Below.refl w3.heap.size w3).alloc (Nat.le_refl _) (.cells zrj 62)
  have hbz := Blk.new w3 62 zrj 0 0 (Or.inl (Nat.le_refl _))
  have hst := st_rj_run hbz rfl lim (.slice none 0 0) rfl
  have hal2 := Below.setCells hal (Nat.le_refl _) 0 [.int .i64 lim, .slice none 0 0]
  have HB7 : Hid (Blk (World.setCells (World.alloc w3 (.cells zrj 62)) w3.heap.size 0 [.int .i64 lim, .slice none 0 0]) w3.heap.size 62 #[.int .i64 lim, .slice none 0 0]) := Lib.hid (hbz.setAll (cs := #[.int .i64 lim, .slice none 0 0]) rfl)
  have HJ4 := Lib.hid (HJ3.out.below hal2)
  have HB4 := Lib.hid (Below.step HB3.out hal2)
  have HN7 : Hid (¬ ownJ jb none [] w3.heap.size) := Lib.hid (fun h => Nat.lt_irrefl _ (HJ3.out.own_lt h).2)
  have H7L : Hid (w.heap.size ≤ w3.heap.size) := Lib.hid HB3.out.size
  clear hjs hb3 hjb hal hal2 hbz HB1
  go_upto_region 11 with fail
  clear hst
  generalize World.setCells _ _ _ _ = w4 at HB7 HJ4 HB4 ⊢
  obtain ⟨b7, hb7⟩ : ∃ q, q = w3.heap.size := ⟨_, rfl⟩
  rw [← hb7] at HB7 HN7 H7L ⊢
  clear hb7 HB3 HJ3
  have HR4 : Hid (RN w4 w.heap.size jb none [] [b7] (.slice none 0 0) []) := Lib.hid ⟨⟨rfl, Or.inl ⟨rfl, rfl⟩⟩, fun r h => (by cases h), fun g h => (by cases h)⟩
  go_wp2_with fail
  go_loopg [8] n (fun kx s8 wr => ∃ (i : Nat) (D : List Dg) (o : Option Addr) (c0 : Nat) (E : List Rd) (Av : Option Addr) (cv : Nat), s8 = .int .i64 (i : Int) ∧ i ≤ n ∧ n - i ≤ kx ∧ Hid (JS wr jb jb lim o c0 D) ∧ Hid (JOk i D) ∧ Hid (Ages lim D) ∧ Hid (Blk wr b7 62 #[.int .i64 lim, .slice Av E.length cv]) ∧ Hid (RN wr w.heap.size jb o D [b7] (.slice Av E.length cv) E) ∧ Hid (¬ ownJ jb o D b7) ∧ Hid (Sim D E) ∧ Hid (Below w.heap.size w wr))
  case atStart => exact ⟨0, [], none, 0, [], none, 0, rfl, Nat.zero_le _, by omega, HJ4, Lib.hid ⟨by decide, fun d hd => (by cases hd)⟩, Lib.hid (fun d hd => by cases hd), HB7, HR4, HN7, Lib.hid Sim.nil, HB4⟩
  case round =>
    clear HJ4 HB7 HR4 HN7 HB4
    obtain ⟨i, D, o, c0, E, Av, cv, rfl, hi, hkx, HJ, HOK, HAG, HB7, HRN, HN7, HSI, HBW⟩ := hrel
    obtain ⟨wo, hwo⟩ : ∃ wo : World, wo = wr := ⟨_, rfl⟩
    subst hwo
    by_cases hlt : i < n
    · have hltz : (i : Int) < (n : Int) := by omega
      have hi0 : 0 ≤ (i : Int) := by omega
      have hw1 : IntKind.i64.wrap ((i : Int) + 1) = (i : Int) + 1 := IntWalk.i64_in _ ⟨by omega, by omega⟩
      obtain ⟨ab, ao, rfl, hab, hall⟩ := HA.out.at hlt
      have hd := (hall wo HBW.out).1
      have HPP : Hid (Pin (ps i) ∧ (ps i).d.length ≤ 60000) := Lib.hid ⟨HP.out i hlt, HSM.out i hlt⟩
      have HAL := Lib.hid hall
      clear hall
      obtain ⟨p, hpe⟩ : ∃ q, q = ps i := ⟨_, rfl⟩
      rw [← hpe] at HPP HAL
      clear hpe
      have HAB := Lib.hid hab
      clear hab
      have HSZ : Hid (w.heap.size ≤ jb ∧ jb < wo.heap.size ∧ b7 < wo.heap.size ∧ w.heap.size ≤ wo.heap.size ∧ E.length ≤ 4) := Lib.hid ⟨HW3.out, HJ.out.j.lt, HB7.out.lt, HBW.out.size, by rw [← HSI.out.len]; exact HOK.out.four⟩
      have HES : Hid (∀ r ∈ E, r.L ≠ [] ∧ LOk r.L ∧ r.L.length ≤ 900) := Lib.hid (fun r hr => by
        obtain ⟨d, hd, ho⟩ := HSI.out.each r hr
        have h1 := ho.perm.length_eq
        have h2 := (HOK.out.ok d hd).1.len
        exact ⟨ho.ne, ho.ok, by omega⟩)
      generalize hdi : ds i = di at hd
      clear hdi
      go_upto_block 2 with fail
      go_cut [9, 10, 11, 12, 13] from 50 to 88 (fun x9 x10 x11 x12 x13 wx => ∃ (D2 : List Dg) (o2 : Option Addr) (c2 : Nat) (E2 : List Rd) (A2 : Option Addr) (cv2 : Nat), JS wx jb jb lim o2 c2 D2 ∧ JOk (i + 1) D2 ∧ Ages lim D2 ∧ Blk wx b7 62 #[.int .i64 lim, .slice A2 E2.length cv2] ∧ RN wx w.heap.size jb o2 D2 [b7] (.slice A2 E2.length cv2) E2 ∧ ¬ ownJ jb o2 D2 b7 ∧ Sim D2 E2 ∧ Below w.heap.size w wx)
      case first =>
        by_cases h0 : di = 0
        · subst h0
          have HRP := Lib.hid (fun (W : World) (hb : Below wo.heap.size wo W) => refPut_any w.heap.size lim (.slice Av E.length cv) E.length E HSZ.out.2.2.2.2 p HPP.out.1 (by have h1 := HPP.out.2; omega) W (HRN.out.step hb).own (fun r hr => ⟨((HRN.out.step hb).rows r hr).at W.heap.size (fun k hk => hk.1), HES.out r hr⟩))
          have HSF : Hid (∀ W, Below wo.heap.size wo W → W.cell? ⟨b7, 0, none⟩ = some (.int .i64 lim) ∧ W.cell? ⟨b7, 1, none⟩ = some (.slice Av E.length cv) ∧ (Ld 25 (.pointer (some ⟨ab, ao + i * 15 + 1, none⟩))).run Try.prog W = .ok (.agg p.c) W) := Lib.hid (fun W hb => ⟨by rw [(HB7.out.step hb).cell]; rfl, by rw [(HB7.out.step hb).cell]; rfl, (HAL.out W (Below.step HBW.out hb)).2.1⟩)
          go_upto_region 16 with fail
          go_cut [9, 10, 11] from 52 to 62 (fun x9 x10 x11 wx => ∃ (b9 b10 : Nat) (A' : Option Addr) (c' : Nat) (E' : List Rd) (out : Pkt) (ok : Bool), x9 = .pointer (some ⟨b9, 0, none⟩) ∧ x10 = .pointer (some ⟨b10, 0, none⟩) ∧ x11 = .bool ok ∧ RefR E p E' out ok ∧ RN wx w.heap.size jb o D [b7, b9, b10] (.slice A' E'.length c') E' ∧ Blk wx b9 62 #[.int .i64 lim, .slice A' E'.length c'] ∧ Blk wx b10 25 out.c ∧ wo.heap.size ≤ b9 ∧ wo.heap.size ≤ b10 ∧ b9 ≠ b10 ∧ Below wo.heap.size wo wx)
          case first =>
            have HB0 : Hid (Below wo.heap.size wo (World.drew wo)) := Lib.hid (Below.drewN (Below.refl _ wo) 1)
            refine wp_region_noPanic ?_
            refine wp_region_held_drew (S := (fun w' => w'.cell? ⟨b7, 0, none⟩ = some (.int .i64 lim) ∧ w'.cell? ⟨b7, 1, none⟩ = some (.slice Av E.length cv) ∧ (Ld 25 (.pointer (some ⟨ab, ao + i * 15 + 1, none⟩))).run Try.prog w' = .ok (.agg p.c) w')) (by kernel_rfl) (by first | exact HSF.out _ HB0.out) (fun hHeld => ?_)
            refine wpAnyH_take (i := 0) (oi := _) (v := ?vr1n0_1) rfl (by kernel_rfl) (by kernel_rfl) (by kernel_rfl) (fun _ _ _ h => h) (Or.inl ⟨by kernel_rfl, ?hr1n0_1⟩) hHeld ?_
            case hr1n0_1 => (intro w hSw; (try dsimp only at hSw); go_simp; try (with_reducible rfl))
            try simp only [List.getElem_toArray, List.getElem_cons_zero, List.getElem_cons_succ, Act.put, List.setIfInBounds_toArray, List.set_cons_zero, List.set_cons_succ]
            refine wpAnyH_take (i := 1) (oi := _) (v := ?vr1n1_2) rfl (by kernel_rfl) (by kernel_rfl) (by kernel_rfl) (fun _ _ _ h => h) (Or.inl ⟨by kernel_rfl, ?hr1n1_2⟩) hHeld ?_
            case hr1n1_2 => (intro w hSw; (try dsimp only at hSw); go_simp; try (with_reducible rfl))
            try simp only [List.getElem_toArray, List.getElem_cons_zero, List.getElem_cons_succ, Act.put, List.setIfInBounds_toArray, List.set_cons_zero, List.set_cons_succ]
            refine wpAnyH_take (i := 2) (oi := _) (v := ?vr1n2_3) rfl (by kernel_rfl) (by kernel_rfl) (by kernel_rfl) (fun _ _ _ h => h) (Or.inl ⟨by kernel_rfl, ?hr1n2_3⟩) hHeld ?_
            case hr1n2_3 => (intro w hSw; (try dsimp only at hSw); go_simp; try (with_reducible rfl))
            try simp only [List.getElem_toArray, List.getElem_cons_zero, List.getElem_cons_succ, Act.put, List.setIfInBounds_toArray, List.set_cons_zero, List.set_cons_succ]
            refine wpAnyH_take (i := 3) (oi := _) (v := ?vr1n3_4) rfl (by kernel_rfl) (by kernel_rfl) (by kernel_rfl) (fun _ _ _ h => h) (Or.inl ⟨by kernel_rfl, ?hr1n3_4⟩) hHeld ?_
            case hr1n3_4 => (intro w hSw; (try dsimp only at hSw); go_simp; try (with_reducible rfl))
            try simp only [List.getElem_toArray, List.getElem_cons_zero, List.getElem_cons_succ, Act.put, List.setIfInBounds_toArray, List.set_cons_zero, List.set_cons_succ]
            refine wpAnyH_take (i := 4) (oi := _) (v := ?vr1n4_5) rfl (by kernel_rfl) (by kernel_rfl) (by kernel_rfl) (fun _ _ _ h => h) (Or.inl ⟨by kernel_rfl, ?hr1n4_5⟩) hHeld ?_
            case hr1n4_5 => (intro w hSw; (try dsimp only at hSw); go_simp; try (with_reducible rfl))
            try simp only [List.getElem_toArray, List.getElem_cons_zero, List.getElem_cons_succ, Act.put, List.setIfInBounds_toArray, List.set_cons_zero, List.set_cons_succ]
            refine wpAnyH_take (i := 5) (oi := _) (v := ?vr1n5_6) rfl (by kernel_rfl) (by kernel_rfl) (by kernel_rfl) (fun _ _ _ h => h) (Or.inl ⟨by kernel_rfl, ?hr1n5_6⟩) hHeld ?_
            case hr1n5_6 => (intro w hSw; (try dsimp only at hSw); go_simp; try (with_reducible rfl))
            try simp only [List.getElem_toArray, List.getElem_cons_zero, List.getElem_cons_succ, Act.put, List.setIfInBounds_toArray, List.set_cons_zero, List.set_cons_succ]
            refine wpAnyH_ready (rs := [6, 11, 12]) (by kernel_rfl) (by simp) ?_
            refine AllReadyH.cons (o := _) rfl (fun K hK => ?_) ?_
            · skip
              go_simp
              (go_at_call 26; refine (HRP.out _ HB0.out).mono ?_; rintro e y1 ⟨v', E', out, ok, rfl, hR, hc, hb⟩; have hrn := (HRN.out.grow HB0.out (X' := [b7]) (by intro k hk; simp only [List.mem_cons, List.not_mem_nil, or_false] at hk ⊢; have hz1 := HSZ.out; have hz2 := HB0.out.size; omega)).ref (HJ.out.below HB0.out) (by have hz1 := HSZ.out; have hz2 := HB0.out.size; omega) (by intro k hk; simp only [List.mem_cons, List.not_mem_nil, or_false] at hk; have hz1 := HSZ.out; have hz2 := HB0.out.size; omega) hb hc; obtain ⟨A', c', hv', _, _, _⟩ := slice_of v' y1 hrn.own; subst hv'; have HRR := Lib.hid hR; have HRN1 := Lib.hid hrn; have HB1 := Lib.hid (HB0.out.trans (Below.mono hb HB0.out.size)); clear hR hc hb hrn)
              refine hK.out _ _ ?_ (fun hHeld1 => ?_)
              · (first | exact HSF.out _ HB1.out)
              clear hHeld hK K
              try simp only [List.getElem_toArray, List.getElem_cons_zero, List.getElem_cons_succ, Act.put, List.setIfInBounds_toArray, List.set_cons_zero, List.set_cons_succ]
              refine wpAnyH_take (i := 7) (oi := _) (v := ?vr1n7_7) rfl (by kernel_rfl) (by kernel_rfl) (by kernel_rfl) (fun _ _ _ h => h) (Or.inl ⟨by kernel_rfl, ?hr1n7_7⟩) hHeld1 ?_
              case hr1n7_7 => (intro w hSw; (try dsimp only at hSw); go_simp; try (with_reducible rfl))
              try simp only [List.getElem_toArray, List.getElem_cons_zero, List.getElem_cons_succ, Act.put, List.setIfInBounds_toArray, List.set_cons_zero, List.set_cons_succ]
              refine wpAnyH_take (i := 8) (oi := _) (v := ?vr1n8_8) rfl (by kernel_rfl) (by kernel_rfl) (by kernel_rfl) (fun _ _ _ h => h) (Or.inl ⟨by kernel_rfl, ?hr1n8_8⟩) hHeld1 ?_
              case hr1n8_8 => (intro w hSw; (try dsimp only at hSw); go_simp; try (with_reducible rfl))
              try simp only [List.getElem_toArray, List.getElem_cons_zero, List.getElem_cons_succ, Act.put, List.setIfInBounds_toArray, List.set_cons_zero, List.set_cons_succ]
              refine wpAnyH_take (i := 9) (oi := _) (v := ?vr1n9_9) rfl (by kernel_rfl) (by kernel_rfl) (by kernel_rfl) (fun _ _ _ h => h) (Or.inl ⟨by kernel_rfl, ?hr1n9_9⟩) hHeld1 ?_
              case hr1n9_9 => (intro w hSw; (try dsimp only at hSw); go_simp; try (with_reducible rfl))
              try simp only [List.getElem_toArray, List.getElem_cons_zero, List.getElem_cons_succ, Act.put, List.setIfInBounds_toArray, List.set_cons_zero, List.set_cons_succ]
              refine wpAnyH_take (i := 10) (oi := _) (v := ?vr1n10_10) rfl (by kernel_rfl) (by kernel_rfl) (by kernel_rfl) (fun _ _ _ h => h) (Or.inl ⟨by kernel_rfl, ?hr1n10_10⟩) hHeld1 ?_
              case hr1n10_10 => (intro w hSw; (try dsimp only at hSw); go_simp; try (with_reducible rfl))
              try simp only [List.getElem_toArray, List.getElem_cons_zero, List.getElem_cons_succ, Act.put, List.setIfInBounds_toArray, List.set_cons_zero, List.set_cons_succ]
              refine wpAnyH_ready (rs := [11, 12]) (by kernel_rfl) (by simp) ?_
              refine AllReadyH.cons (o := _) rfl (fun K hK => ?_) ?_
              · skip
                go_simp
                (have hal := ((Below.refl y1.heap.size y1).alloc (Nat.le_refl _) (.cells zrj 62)); have HB2 := Lib.hid (HB1.out.trans (Below.mono hal HB1.out.size)); have HRN2 := Lib.hid (HRN1.out.grow hal (X' := [b7, y1.heap.size]) (by intro k hk; simp only [List.mem_cons, List.not_mem_nil, or_false] at hk ⊢; omega)); have H9_2 : Hid (Blk (World.alloc y1 (.cells zrj 62)) y1.heap.size 62 zrj) := Lib.hid (Blk.new y1 62 zrj 0 0 (Or.inl (Nat.le_refl _))); have HXb9 : Hid (wo.heap.size ≤ y1.heap.size) := Lib.hid (HB1.out.size); clear hal; generalize World.alloc _ _ = y2 at HB2 HRN2 H9_2 ⊢; obtain ⟨b9, hb9⟩ : ∃ q, q = y1.heap.size := ⟨_, rfl⟩; rw [← hb9] at H9_2 HRN2 HXb9 ⊢; clear hb9)
                refine hK.out _ _ ?_ (fun hHeld2 => ?_)
                · (first | exact HSF.out _ HB2.out)
                clear hHeld1 hK K
                try simp only [List.getElem_toArray, List.getElem_cons_zero, List.getElem_cons_succ, Act.put, List.setIfInBounds_toArray, List.set_cons_zero, List.set_cons_succ]
                refine wpAnyH_ready (rs := [12]) (by kernel_rfl) (by simp) ?_
                refine AllReadyH.cons (o := _) rfl (fun K hK => ?_) AllReadyH.nil
                go_simp
                (have hal := ((Below.refl y2.heap.size y2).alloc (Nat.le_refl _) (.cells pk0 25)); have HB3 := Lib.hid (HB2.out.trans (Below.mono hal HB2.out.size)); have HRN3 := Lib.hid (HRN2.out.grow hal (X' := [b7, b9, y2.heap.size]) (by intro k hk; simp only [List.mem_cons, List.not_mem_nil, or_false] at hk ⊢; omega)); have H9_3 := Lib.hid (H9_2.out.step hal); have H10_3 : Hid (Blk (World.alloc y2 (.cells pk0 25)) y2.heap.size 25 pk0) := Lib.hid (Blk.new y2 25 pk0 0 0 (Or.inl (Nat.le_refl _))); have HXb10 : Hid (wo.heap.size ≤ y2.heap.size ∧ b9 ≠ y2.heap.size) := Lib.hid ⟨HB2.out.size, Nat.ne_of_lt H9_2.out.lt⟩; clear hal; rw [pk0_lit] at HB3 HRN3 H9_3 H10_3; generalize World.alloc _ _ = y3 at HB3 HRN3 H9_3 H10_3 ⊢; rw [← pk0_lit] at H10_3; obtain ⟨b10, hb10⟩ : ∃ q, q = y2.heap.size := ⟨_, rfl⟩; rw [← hb10] at H10_3 HRN3 HXb10 ⊢; clear hb10)
                refine hK.out _ _ ?_ (fun hHeld3 => ?_)
                · (first | exact HSF.out _ HB3.out)
                clear hHeld2 hK K
                try simp only [List.getElem_toArray, List.getElem_cons_zero, List.getElem_cons_succ, Act.put, List.setIfInBounds_toArray, List.set_cons_zero, List.set_cons_succ]
                refine wpAnyH_ready (rs := [13]) (by kernel_rfl) (by simp) ?_
                refine AllReadyH.cons (o := _) rfl (fun K hK => ?_) AllReadyH.nil
                (have hst := st_rj_run H9_3.out rfl lim (.slice A' E'.length c') rfl)
                go_simp
                (have HNE : Hid (b10 ≠ b9) := Lib.hid (by have h1 := HXb9.out; have h2 := HXb10.out; omega); have HB4 : Hid (Below wo.heap.size wo (World.setCells y3 b9 0 [.int .i64 lim, .slice A' E'.length c'])) := Lib.hid (Below.setCells HB3.out (by have := HXb9.out; omega) 0 _); have H9_4 : Hid (Blk (World.setCells y3 b9 0 [.int .i64 lim, .slice A' E'.length c']) b9 62 #[.int .i64 lim, .slice A' E'.length c']) := Lib.hid (H9_3.out.setAll (cs := #[.int .i64 lim, .slice A' E'.length c']) rfl); have HRN4 := Lib.hid (HRN3.out.setX b9 (by simp) 0 [.int .i64 lim, .slice A' E'.length c']); have H10_4 := Lib.hid (H10_3.out.setCells_other b9 0 [.int .i64 lim, .slice A' E'.length c'] HNE.out); clear hst; generalize World.setCells _ _ _ _ = y4 at HB4 H9_4 HRN4 H10_4 ⊢)
                refine hK.out _ _ ?_ (fun hHeld4 => ?_)
                · (first | exact HSF.out _ HB4.out)
                clear hHeld3 hK K
                try simp only [List.getElem_toArray, List.getElem_cons_zero, List.getElem_cons_succ, Act.put, List.setIfInBounds_toArray, List.set_cons_zero, List.set_cons_succ]
                refine wpAnyH_ready (rs := [14]) (by kernel_rfl) (by simp) ?_
                refine AllReadyH.cons (o := _) rfl (fun K hK => ?_) AllReadyH.nil
                (have hst := st_pk_run H10_4.out rfl out)
                go_simp
                (have HNE2 : Hid (b9 ≠ b10) := Lib.hid (by have h1 := HXb9.out; have h2 := HXb10.out; omega); have HB5 : Hid (Below wo.heap.size wo (World.setCells y4 b10 0 out.c.toList)) := Lib.hid (Below.setCells HB4.out (by have := HXb10.out; omega) 0 _); have H9_5 := Lib.hid (H9_4.out.setCells_other b10 0 out.c.toList HNE2.out); have H10_5 : Hid (Blk (World.setCells y4 b10 0 out.c.toList) b10 25 out.c) := Lib.hid (H10_4.out.setAll (Pkt.c_size _)); have HRN5 := Lib.hid (HRN4.out.setX b10 (by simp) 0 out.c.toList); clear hst; generalize World.setCells _ _ _ _ = y5 at HB5 H9_5 H10_5 HRN5 ⊢)
                refine hK.out _ _ ?_ (fun hHeld5 => ?_)
                · (first | exact HSF.out _ HB5.out)
                clear hHeld4 hK K
                try simp only [List.getElem_toArray, List.getElem_cons_zero, List.getElem_cons_succ, Act.put, List.setIfInBounds_toArray, List.set_cons_zero, List.set_cons_succ]
                refine wpAnyH_take (i := 15) (oi := _) (v := ?vr1n15_11) rfl (by kernel_rfl) (by kernel_rfl) (by kernel_rfl) (fun _ _ _ h => h) (Or.inl ⟨by kernel_rfl, ?hr1n15_11⟩) hHeld5 ?_
                case hr1n15_11 => (intro w hSw; (try dsimp only at hSw); go_simp; try (with_reducible rfl))
                try simp only [List.getElem_toArray, List.getElem_cons_zero, List.getElem_cons_succ, Act.put, List.setIfInBounds_toArray, List.set_cons_zero, List.set_cons_succ]
                refine wpAnyH_done (by kernel_rfl) ?_ _
                refine NoPanic.normal ?_
                go_wp2_with fail
                go_meet
                exact ⟨b9, b10, A', c', E', out, ok, rfl, rfl, rfl, HRR.out, HRN5.out, H9_5.out, H10_5.out, (by have := HXb9.out; omega), (by have := HXb10.out; omega), (by have h1 := HXb9.out; have h2 := HXb10.out; omega), HB5.out⟩
              refine AllReadyH.cons (o := _) rfl (fun K hK => ?_) AllReadyH.nil
              go_simp
              (have hal := ((Below.refl y1.heap.size y1).alloc (Nat.le_refl _) (.cells pk0 25)); have HB6 := Lib.hid (HB1.out.trans (Below.mono hal HB1.out.size)); have HRN6 := Lib.hid (HRN1.out.grow hal (X' := [b7, y1.heap.size]) (by intro k hk; simp only [List.mem_cons, List.not_mem_nil, or_false] at hk ⊢; omega)); have H10_6 : Hid (Blk (World.alloc y1 (.cells pk0 25)) y1.heap.size 25 pk0) := Lib.hid (Blk.new y1 25 pk0 0 0 (Or.inl (Nat.le_refl _))); have HXb10 : Hid (wo.heap.size ≤ y1.heap.size) := Lib.hid (HB1.out.size); clear hal; rw [pk0_lit] at HB6 HRN6 H10_6; generalize World.alloc _ _ = y6 at HB6 HRN6 H10_6 ⊢; rw [← pk0_lit] at H10_6; obtain ⟨b10, hb10⟩ : ∃ q, q = y1.heap.size := ⟨_, rfl⟩; rw [← hb10] at H10_6 HRN6 HXb10 ⊢; clear hb10)
              refine hK.out _ _ ?_ (fun hHeld6 => ?_)
              · (first | exact HSF.out _ HB6.out)
              clear hHeld1 hK K
              try simp only [List.getElem_toArray, List.getElem_cons_zero, List.getElem_cons_succ, Act.put, List.setIfInBounds_toArray, List.set_cons_zero, List.set_cons_succ]
              refine wpAnyH_ready (rs := [11]) (by kernel_rfl) (by simp) ?_
              refine AllReadyH.cons (o := _) rfl (fun K hK => ?_) AllReadyH.nil
              go_simp
              (have hal := ((Below.refl y6.heap.size y6).alloc (Nat.le_refl _) (.cells zrj 62)); have HB7 := Lib.hid (HB6.out.trans (Below.mono hal HB6.out.size)); have HRN7 := Lib.hid (HRN6.out.grow hal (X' := [b7, y6.heap.size, b10]) (by intro k hk; simp only [List.mem_cons, List.not_mem_nil, or_false] at hk ⊢; omega)); have H10_7 := Lib.hid (H10_6.out.step hal); have H9_7 : Hid (Blk (World.alloc y6 (.cells zrj 62)) y6.heap.size 62 zrj) := Lib.hid (Blk.new y6 62 zrj 0 0 (Or.inl (Nat.le_refl _))); have HXb9 : Hid (wo.heap.size ≤ y6.heap.size ∧ b10 ≠ y6.heap.size) := Lib.hid ⟨HB6.out.size, Nat.ne_of_lt H10_6.out.lt⟩; clear hal; generalize World.alloc _ _ = y7 at HB7 HRN7 H10_7 H9_7 ⊢; obtain ⟨b9, hb9⟩ : ∃ q, q = y6.heap.size := ⟨_, rfl⟩; rw [← hb9] at H9_7 HRN7 HXb9 ⊢; clear hb9)
              refine hK.out _ _ ?_ (fun hHeld7 => ?_)
              · (first | exact HSF.out _ HB7.out)
              clear hHeld6 hK K
              try simp only [List.getElem_toArray, List.getElem_cons_zero, List.getElem_cons_succ, Act.put, List.setIfInBounds_toArray, List.set_cons_zero, List.set_cons_succ]
              refine wpAnyH_ready (rs := [13]) (by kernel_rfl) (by simp) ?_
              refine AllReadyH.cons (o := _) rfl (fun K hK => ?_) AllReadyH.nil
              (have hst := st_rj_run H9_7.out rfl lim (.slice A' E'.length c') rfl)
              go_simp
              (have HNE : Hid (b10 ≠ b9) := Lib.hid (by have h1 := HXb9.out; have h2 := HXb10.out; omega); have HB8 : Hid (Below wo.heap.size wo (World.setCells y7 b9 0 [.int .i64 lim, .slice A' E'.length c'])) := Lib.hid (Below.setCells HB7.out (by have := HXb9.out; omega) 0 _); have H9_8 : Hid (Blk (World.setCells y7 b9 0 [.int .i64 lim, .slice A' E'.length c']) b9 62 #[.int .i64 lim, .slice A' E'.length c']) := Lib.hid (H9_7.out.setAll (cs := #[.int .i64 lim, .slice A' E'.length c']) rfl); have HRN8 := Lib.hid (HRN7.out.setX b9 (by simp) 0 [.int .i64 lim, .slice A' E'.length c']); have H10_8 := Lib.hid (H10_7.out.setCells_other b9 0 [.int .i64 lim, .slice A' E'.length c'] HNE.out); clear hst; generalize World.setCells _ _ _ _ = y8 at HB8 H9_8 HRN8 H10_8 ⊢)
              refine hK.out _ _ ?_ (fun hHeld8 => ?_)
              · (first | exact HSF.out _ HB8.out)
              clear hHeld7 hK K
              try simp only [List.getElem_toArray, List.getElem_cons_zero, List.getElem_cons_succ, Act.put, List.setIfInBounds_toArray, List.set_cons_zero, List.set_cons_succ]
              refine wpAnyH_ready (rs := [14]) (by kernel_rfl) (by simp) ?_
              refine AllReadyH.cons (o := _) rfl (fun K hK => ?_) AllReadyH.nil
              (have hst := st_pk_run H10_8.out rfl out)
              go_simp
              (have HNE2 : Hid (b9 ≠ b10) := Lib.hid (by have h1 := HXb9.out; have h2 := HXb10.out; omega); have HB9 : Hid (Below wo.heap.size wo (World.setCells y8 b10 0 out.c.toList)) := Lib.hid (Below.setCells HB8.out (by have := HXb10.out; omega) 0 _); have H9_9 := Lib.hid (H9_8.out.setCells_other b10 0 out.c.toList HNE2.out); have H10_9 : Hid (Blk (World.setCells y8 b10 0 out.c.toList) b10 25 out.c) := Lib.hid (H10_8.out.setAll (Pkt.c_size _)); have HRN9 := Lib.hid (HRN8.out.setX b10 (by simp) 0 out.c.toList); clear hst; generalize World.setCells _ _ _ _ = y9 at HB9 H9_9 H10_9 HRN9 ⊢)
              refine hK.out _ _ ?_ (fun hHeld9 => ?_)
              · (first | exact HSF.out _ HB9.out)
              clear hHeld8 hK K
              try simp only [List.getElem_toArray, List.getElem_cons_zero, List.getElem_cons_succ, Act.put, List.setIfInBounds_toArray, List.set_cons_zero, List.set_cons_succ]
              refine wpAnyH_take (i := 15) (oi := _) (v := ?vr1n15_12) rfl (by kernel_rfl) (by kernel_rfl) (by kernel_rfl) (fun _ _ _ h => h) (Or.inl ⟨by kernel_rfl, ?hr1n15_12⟩) hHeld9 ?_
              case hr1n15_12 => (intro w hSw; (try dsimp only at hSw); go_simp; try (with_reducible rfl))
              try simp only [List.getElem_toArray, List.getElem_cons_zero, List.getElem_cons_succ, Act.put, List.setIfInBounds_toArray, List.set_cons_zero, List.set_cons_succ]
              refine wpAnyH_done (by kernel_rfl) ?_ _
              refine NoPanic.normal ?_
              go_wp2_with fail
              go_meet
              exact ⟨b9, b10, A', c', E', out, ok, rfl, rfl, rfl, HRR.out, HRN9.out, H9_9.out, H10_9.out, (by have := HXb9.out; omega), (by have := HXb10.out; omega), (by have h1 := HXb9.out; have h2 := HXb10.out; omega), HB9.out⟩
            refine AllReadyH.cons (o := _) rfl (fun K hK => ?_) ?_
            · skip
              go_simp
              (have hal := (Below.drewN ((Below.refl wo.heap.size wo).alloc (Nat.le_refl _) (.cells zrj 62)) 1 : Below wo.heap.size wo (World.drew (World.alloc wo (.cells zrj 62)))); have HB10 : Hid (Below wo.heap.size wo (World.drew (World.alloc wo (.cells zrj 62)))) := Lib.hid hal; have H9_10 : Hid (Blk (World.drew (World.alloc wo (.cells zrj 62))) wo.heap.size 62 zrj) := Lib.hid (Blk.new wo 62 zrj 0 0 (Or.inl (Nat.le_refl _))); have HXb9 : Hid (wo.heap.size ≤ wo.heap.size) := Lib.hid (Nat.le_refl _); clear hal; generalize World.drew (World.alloc _ _) = y10 at HB10 H9_10 ⊢; obtain ⟨b9, hb9⟩ : ∃ q, q = wo.heap.size := ⟨_, rfl⟩; rw [← hb9] at H9_10  ⊢; have HXb9 : Hid (wo.heap.size ≤ b9) := Lib.hid (by omega); clear hb9)
              refine hK.out _ _ ?_ (fun hHeld10 => ?_)
              · (first | exact HSF.out _ HB10.out)
              clear hHeld hK K
              try simp only [List.getElem_toArray, List.getElem_cons_zero, List.getElem_cons_succ, Act.put, List.setIfInBounds_toArray, List.set_cons_zero, List.set_cons_succ]
              refine wpAnyH_ready (rs := [6, 12]) (by kernel_rfl) (by simp) ?_
              refine AllReadyH.cons (o := _) rfl (fun K hK => ?_) ?_
              · skip
                go_simp
                (go_at_call 26; refine (HRP.out _ HB10.out).mono ?_; rintro e y11 ⟨v', E', out, ok, rfl, hR, hc, hb⟩; have hrn := (HRN.out.grow HB10.out (X' := [b7, b9]) (by intro k hk; simp only [List.mem_cons, List.not_mem_nil, or_false] at hk ⊢; have hz1 := HSZ.out; have hz2 := HB10.out.size; have hz3 := HXb9.out; have hz4 := H9_10.out.lt; omega)).ref (HJ.out.below HB10.out) (by have hz1 := HSZ.out; have hz2 := HB10.out.size; omega) (by intro k hk; simp only [List.mem_cons, List.not_mem_nil, or_false] at hk; have hz1 := HSZ.out; have hz2 := HB10.out.size; have hz3 := HXb9.out; have hz4 := H9_10.out.lt; omega) hb hc; obtain ⟨A', c', hv', _, _, _⟩ := slice_of v' y11 hrn.own; subst hv'; have HRR := Lib.hid hR; have HRN11 := Lib.hid hrn; have HB11 := Lib.hid (HB10.out.trans (Below.mono hb HB10.out.size)); have H9_11 := Lib.hid (H9_10.out.step hb); clear hR hc hb hrn)
                refine hK.out _ _ ?_ (fun hHeld11 => ?_)
                · (first | exact HSF.out _ HB11.out)
                clear hHeld10 hK K
                try simp only [List.getElem_toArray, List.getElem_cons_zero, List.getElem_cons_succ, Act.put, List.setIfInBounds_toArray, List.set_cons_zero, List.set_cons_succ]
                refine wpAnyH_take (i := 7) (oi := _) (v := ?vr1n7_13) rfl (by kernel_rfl) (by kernel_rfl) (by kernel_rfl) (fun _ _ _ h => h) (Or.inl ⟨by kernel_rfl, ?hr1n7_13⟩) hHeld11 ?_
                case hr1n7_13 => (intro w hSw; (try dsimp only at hSw); go_simp; try (with_reducible rfl))
                try simp only [List.getElem_toArray, List.getElem_cons_zero, List.getElem_cons_succ, Act.put, List.setIfInBounds_toArray, List.set_cons_zero, List.set_cons_succ]
                refine wpAnyH_take (i := 8) (oi := _) (v := ?vr1n8_14) rfl (by kernel_rfl) (by kernel_rfl) (by kernel_rfl) (fun _ _ _ h => h) (Or.inl ⟨by kernel_rfl, ?hr1n8_14⟩) hHeld11 ?_
                case hr1n8_14 => (intro w hSw; (try dsimp only at hSw); go_simp; try (with_reducible rfl))
                try simp only [List.getElem_toArray, List.getElem_cons_zero, List.getElem_cons_succ, Act.put, List.setIfInBounds_toArray, List.set_cons_zero, List.set_cons_succ]
                refine wpAnyH_take (i := 9) (oi := _) (v := ?vr1n9_15) rfl (by kernel_rfl) (by kernel_rfl) (by kernel_rfl) (fun _ _ _ h => h) (Or.inl ⟨by kernel_rfl, ?hr1n9_15⟩) hHeld11 ?_
                case hr1n9_15 => (intro w hSw; (try dsimp only at hSw); go_simp; try (with_reducible rfl))
                try simp only [List.getElem_toArray, List.getElem_cons_zero, List.getElem_cons_succ, Act.put, List.setIfInBounds_toArray, List.set_cons_zero, List.set_cons_succ]
                refine wpAnyH_take (i := 10) (oi := _) (v := ?vr1n10_16) rfl (by kernel_rfl) (by kernel_rfl) (by kernel_rfl) (fun _ _ _ h => h) (Or.inl ⟨by kernel_rfl, ?hr1n10_16⟩) hHeld11 ?_
                case hr1n10_16 => (intro w hSw; (try dsimp only at hSw); go_simp; try (with_reducible rfl))
                try simp only [List.getElem_toArray, List.getElem_cons_zero, List.getElem_cons_succ, Act.put, List.setIfInBounds_toArray, List.set_cons_zero, List.set_cons_succ]
                refine wpAnyH_ready (rs := [12]) (by kernel_rfl) (by simp) ?_
                refine AllReadyH.cons (o := _) rfl (fun K hK => ?_) AllReadyH.nil
                go_simp
                (have hal := ((Below.refl y11.heap.size y11).alloc (Nat.le_refl _) (.cells pk0 25)); have HB12 := Lib.hid (HB11.out.trans (Below.mono hal HB11.out.size)); have HRN12 := Lib.hid (HRN11.out.grow hal (X' := [b7, b9, y11.heap.size]) (by intro k hk; simp only [List.mem_cons, List.not_mem_nil, or_false] at hk ⊢; omega)); have H9_12 := Lib.hid (H9_11.out.step hal); have H10_12 : Hid (Blk (World.alloc y11 (.cells pk0 25)) y11.heap.size 25 pk0) := Lib.hid (Blk.new y11 25 pk0 0 0 (Or.inl (Nat.le_refl _))); have HXb10 : Hid (wo.heap.size ≤ y11.heap.size ∧ b9 ≠ y11.heap.size) := Lib.hid ⟨HB11.out.size, Nat.ne_of_lt H9_11.out.lt⟩; clear hal; rw [pk0_lit] at HB12 HRN12 H9_12 H10_12; generalize World.alloc _ _ = y12 at HB12 HRN12 H9_12 H10_12 ⊢; rw [← pk0_lit] at H10_12; obtain ⟨b10, hb10⟩ : ∃ q, q = y11.heap.size := ⟨_, rfl⟩; rw [← hb10] at H10_12 HRN12 HXb10 ⊢; clear hb10)
                refine hK.out _ _ ?_ (fun hHeld12 => ?_)
                · (first | exact HSF.out _ HB12.out)
                clear hHeld11 hK K
                try simp only [List.getElem_toArray, List.getElem_cons_zero, List.getElem_cons_succ, Act.put, List.setIfInBounds_toArray, List.set_cons_zero, List.set_cons_succ]
                refine wpAnyH_ready (rs := [13]) (by kernel_rfl) (by simp) ?_
                refine AllReadyH.cons (o := _) rfl (fun K hK => ?_) AllReadyH.nil
                (have hst := st_rj_run H9_12.out rfl lim (.slice A' E'.length c') rfl)
                go_simp
                (have HNE : Hid (b10 ≠ b9) := Lib.hid (by have h1 := HXb9.out; have h2 := HXb10.out; omega); have HB13 : Hid (Below wo.heap.size wo (World.setCells y12 b9 0 [.int .i64 lim, .slice A' E'.length c'])) := Lib.hid (Below.setCells HB12.out (by have := HXb9.out; omega) 0 _); have H9_13 : Hid (Blk (World.setCells y12 b9 0 [.int .i64 lim, .slice A' E'.length c']) b9 62 #[.int .i64 lim, .slice A' E'.length c']) := Lib.hid (H9_12.out.setAll (cs := #[.int .i64 lim, .slice A' E'.length c']) rfl); have HRN13 := Lib.hid (HRN12.out.setX b9 (by simp) 0 [.int .i64 lim, .slice A' E'.length c']); have H10_13 := Lib.hid (H10_12.out.setCells_other b9 0 [.int .i64 lim, .slice A' E'.length c'] HNE.out); clear hst; generalize World.setCells _ _ _ _ = y13 at HB13 H9_13 HRN13 H10_13 ⊢)
                refine hK.out _ _ ?_ (fun hHeld13 => ?_)
                · (first | exact HSF.out _ HB13.out)
                clear hHeld12 hK K
                try simp only [List.getElem_toArray, List.getElem_cons_zero, List.getElem_cons_succ, Act.put, List.setIfInBounds_toArray, List.set_cons_zero, List.set_cons_succ]
                refine wpAnyH_ready (rs := [14]) (by kernel_rfl) (by simp) ?_
                refine AllReadyH.cons (o := _) rfl (fun K hK => ?_) AllReadyH.nil
                (have hst := st_pk_run H10_13.out rfl out)
                go_simp
                (have HNE2 : Hid (b9 ≠ b10) := Lib.hid (by have h1 := HXb9.out; have h2 := HXb10.out; omega); have HB14 : Hid (Below wo.heap.size wo (World.setCells y13 b10 0 out.c.toList)) := Lib.hid (Below.setCells HB13.out (by have := HXb10.out; omega) 0 _); have H9_14 := Lib.hid (H9_13.out.setCells_other b10 0 out.c.toList HNE2.out); have H10_14 : Hid (Blk (World.setCells y13 b10 0 out.c.toList) b10 25 out.c) := Lib.hid (H10_13.out.setAll (Pkt.c_size _)); have HRN14 := Lib.hid (HRN13.out.setX b10 (by simp) 0 out.c.toList); clear hst; generalize World.setCells _ _ _ _ = y14 at HB14 H9_14 H10_14 HRN14 ⊢)
                refine hK.out _ _ ?_ (fun hHeld14 => ?_)
                · (first | exact HSF.out _ HB14.out)
                clear hHeld13 hK K
                try simp only [List.getElem_toArray, List.getElem_cons_zero, List.getElem_cons_succ, Act.put, List.setIfInBounds_toArray, List.set_cons_zero, List.set_cons_succ]
                refine wpAnyH_take (i := 15) (oi := _) (v := ?vr1n15_17) rfl (by kernel_rfl) (by kernel_rfl) (by kernel_rfl) (fun _ _ _ h => h) (Or.inl ⟨by kernel_rfl, ?hr1n15_17⟩) hHeld14 ?_
                case hr1n15_17 => (intro w hSw; (try dsimp only at hSw); go_simp; try (with_reducible rfl))
                try simp only [List.getElem_toArray, List.getElem_cons_zero, List.getElem_cons_succ, Act.put, List.setIfInBounds_toArray, List.set_cons_zero, List.set_cons_succ]
                refine wpAnyH_done (by kernel_rfl) ?_ _
                refine NoPanic.normal ?_
                go_wp2_with fail
                go_meet
                exact ⟨b9, b10, A', c', E', out, ok, rfl, rfl, rfl, HRR.out, HRN14.out, H9_14.out, H10_14.out, (by have := HXb9.out; omega), (by have := HXb10.out; omega), (by have h1 := HXb9.out; have h2 := HXb10.out; omega), HB14.out⟩
              refine AllReadyH.cons (o := _) rfl (fun K hK => ?_) AllReadyH.nil
              go_simp
              (have hal := ((Below.refl y10.heap.size y10).alloc (Nat.le_refl _) (.cells pk0 25)); have HB15 := Lib.hid (HB10.out.trans (Below.mono hal HB10.out.size)); have H9_15 := Lib.hid (H9_10.out.step hal); have H10_15 : Hid (Blk (World.alloc y10 (.cells pk0 25)) y10.heap.size 25 pk0) := Lib.hid (Blk.new y10 25 pk0 0 0 (Or.inl (Nat.le_refl _))); have HXb10 : Hid (wo.heap.size ≤ y10.heap.size ∧ b9 ≠ y10.heap.size) := Lib.hid ⟨HB10.out.size, Nat.ne_of_lt H9_10.out.lt⟩; clear hal; rw [pk0_lit] at HB15 H9_15 H10_15; generalize World.alloc _ _ = y15 at HB15 H9_15 H10_15 ⊢; rw [← pk0_lit] at H10_15; obtain ⟨b10, hb10⟩ : ∃ q, q = y10.heap.size := ⟨_, rfl⟩; rw [← hb10] at H10_15 HXb10 ⊢; clear hb10)
              refine hK.out _ _ ?_ (fun hHeld15 => ?_)
              · (first | exact HSF.out _ HB15.out)
              clear hHeld10 hK K
              try simp only [List.getElem_toArray, List.getElem_cons_zero, List.getElem_cons_succ, Act.put, List.setIfInBounds_toArray, List.set_cons_zero, List.set_cons_succ]
              refine wpAnyH_ready (rs := [6]) (by kernel_rfl) (by simp) ?_
              refine AllReadyH.cons (o := _) rfl (fun K hK => ?_) AllReadyH.nil
              go_simp
              (go_at_call 26; refine (HRP.out _ HB15.out).mono ?_; rintro e y16 ⟨v', E', out, ok, rfl, hR, hc, hb⟩; have hrn := (HRN.out.grow HB15.out (X' := [b7, b9, b10]) (by intro k hk; simp only [List.mem_cons, List.not_mem_nil, or_false] at hk ⊢; have hz1 := HSZ.out; have hz2 := HB15.out.size; have hz3 := HXb9.out; have hz4 := H9_15.out.lt; have hz5 := HXb10.out; have hz6 := H10_15.out.lt; omega)).ref (HJ.out.below HB15.out) (by have hz1 := HSZ.out; have hz2 := HB15.out.size; omega) (by intro k hk; simp only [List.mem_cons, List.not_mem_nil, or_false] at hk; have hz1 := HSZ.out; have hz2 := HB15.out.size; have hz3 := HXb9.out; have hz4 := H9_15.out.lt; have hz5 := HXb10.out; have hz6 := H10_15.out.lt; omega) hb hc; obtain ⟨A', c', hv', _, _, _⟩ := slice_of v' y16 hrn.own; subst hv'; have HRR := Lib.hid hR; have HRN16 := Lib.hid hrn; have HB16 := Lib.hid (HB15.out.trans (Below.mono hb HB15.out.size)); have H9_16 := Lib.hid (H9_15.out.step hb); have H10_16 := Lib.hid (H10_15.out.step hb); clear hR hc hb hrn)
              refine hK.out _ _ ?_ (fun hHeld16 => ?_)
              · (first | exact HSF.out _ HB16.out)
              clear hHeld15 hK K
              try simp only [List.getElem_toArray, List.getElem_cons_zero, List.getElem_cons_succ, Act.put, List.setIfInBounds_toArray, List.set_cons_zero, List.set_cons_succ]
              refine wpAnyH_take (i := 7) (oi := _) (v := ?vr1n7_18) rfl (by kernel_rfl) (by kernel_rfl) (by kernel_rfl) (fun _ _ _ h => h) (Or.inl ⟨by kernel_rfl, ?hr1n7_18⟩) hHeld16 ?_
              case hr1n7_18 => (intro w hSw; (try dsimp only at hSw); go_simp; try (with_reducible rfl))
              try simp only [List.getElem_toArray, List.getElem_cons_zero, List.getElem_cons_succ, Act.put, List.setIfInBounds_toArray, List.set_cons_zero, List.set_cons_succ]
              refine wpAnyH_take (i := 8) (oi := _) (v := ?vr1n8_19) rfl (by kernel_rfl) (by kernel_rfl) (by kernel_rfl) (fun _ _ _ h => h) (Or.inl ⟨by kernel_rfl, ?hr1n8_19⟩) hHeld16 ?_
              case hr1n8_19 => (intro w hSw; (try dsimp only at hSw); go_simp; try (with_reducible rfl))
              try simp only [List.getElem_toArray, List.getElem_cons_zero, List.getElem_cons_succ, Act.put, List.setIfInBounds_toArray, List.set_cons_zero, List.set_cons_succ]
              refine wpAnyH_take (i := 9) (oi := _) (v := ?vr1n9_20) rfl (by kernel_rfl) (by kernel_rfl) (by kernel_rfl) (fun _ _ _ h => h) (Or.inl ⟨by kernel_rfl, ?hr1n9_20⟩) hHeld16 ?_
              case hr1n9_20 => (intro w hSw; (try dsimp only at hSw); go_simp; try (with_reducible rfl))
              try simp only [List.getElem_toArray, List.getElem_cons_zero, List.getElem_cons_succ, Act.put, List.setIfInBounds_toArray, List.set_cons_zero, List.set_cons_succ]
              refine wpAnyH_take (i := 10) (oi := _) (v := ?vr1n10_21) rfl (by kernel_rfl) (by kernel_rfl) (by kernel_rfl) (fun _ _ _ h => h) (Or.inl ⟨by kernel_rfl, ?hr1n10_21⟩) hHeld16 ?_
              case hr1n10_21 => (intro w hSw; (try dsimp only at hSw); go_simp; try (with_reducible rfl))
              try simp only [List.getElem_toArray, List.getElem_cons_zero, List.getElem_cons_succ, Act.put, List.setIfInBounds_toArray, List.set_cons_zero, List.set_cons_succ]
              refine wpAnyH_ready (rs := [13]) (by kernel_rfl) (by simp) ?_
              refine AllReadyH.cons (o := _) rfl (fun K hK => ?_) AllReadyH.nil
              (have hst := st_rj_run H9_16.out rfl lim (.slice A' E'.length c') rfl)
              go_simp
              (have HNE : Hid (b10 ≠ b9) := Lib.hid (by have h1 := HXb9.out; have h2 := HXb10.out; omega); have HB17 : Hid (Below wo.heap.size wo (World.setCells y16 b9 0 [.int .i64 lim, .slice A' E'.length c'])) := Lib.hid (Below.setCells HB16.out (by have := HXb9.out; omega) 0 _); have H9_17 : Hid (Blk (World.setCells y16 b9 0 [.int .i64 lim, .slice A' E'.length c']) b9 62 #[.int .i64 lim, .slice A' E'.length c']) := Lib.hid (H9_16.out.setAll (cs := #[.int .i64 lim, .slice A' E'.length c']) rfl); have HRN17 := Lib.hid (HRN16.out.setX b9 (by simp) 0 [.int .i64 lim, .slice A' E'.length c']); have H10_17 := Lib.hid (H10_16.out.setCells_other b9 0 [.int .i64 lim, .slice A' E'.length c'] HNE.out); clear hst; generalize World.setCells _ _ _ _ = y17 at HB17 H9_17 HRN17 H10_17 ⊢)
              refine hK.out _ _ ?_ (fun hHeld17 => ?_)
              · (first | exact HSF.out _ HB17.out)
              clear hHeld16 hK K
              try simp only [List.getElem_toArray, List.getElem_cons_zero, List.getElem_cons_succ, Act.put, List.setIfInBounds_toArray, List.set_cons_zero, List.set_cons_succ]
              refine wpAnyH_ready (rs := [14]) (by kernel_rfl) (by simp) ?_
              refine AllReadyH.cons (o := _) rfl (fun K hK => ?_) AllReadyH.nil
              (have hst := st_pk_run H10_17.out rfl out)
              go_simp
              (have HNE2 : Hid (b9 ≠ b10) := Lib.hid (by have h1 := HXb9.out; have h2 := HXb10.out; omega); have HB18 : Hid (Below wo.heap.size wo (World.setCells y17 b10 0 out.c.toList)) := Lib.hid (Below.setCells HB17.out (by have := HXb10.out; omega) 0 _); have H9_18 := Lib.hid (H9_17.out.setCells_other b10 0 out.c.toList HNE2.out); have H10_18 : Hid (Blk (World.setCells y17 b10 0 out.c.toList) b10 25 out.c) := Lib.hid (H10_17.out.setAll (Pkt.c_size _)); have HRN18 := Lib.hid (HRN17.out.setX b10 (by simp) 0 out.c.toList); clear hst; generalize World.setCells _ _ _ _ = y18 at HB18 H9_18 H10_18 HRN18 ⊢)
              refine hK.out _ _ ?_ (fun hHeld18 => ?_)
              · (first | exact HSF.out _ HB18.out)
              clear hHeld17 hK K
              try simp only [List.getElem_toArray, List.getElem_cons_zero, List.getElem_cons_succ, Act.put, List.setIfInBounds_toArray, List.set_cons_zero, List.set_cons_succ]
              refine wpAnyH_take (i := 15) (oi := _) (v := ?vr1n15_22) rfl (by kernel_rfl) (by kernel_rfl) (by kernel_rfl) (fun _ _ _ h => h) (Or.inl ⟨by kernel_rfl, ?hr1n15_22⟩) hHeld18 ?_
              case hr1n15_22 => (intro w hSw; (try dsimp only at hSw); go_simp; try (with_reducible rfl))
              try simp only [List.getElem_toArray, List.getElem_cons_zero, List.getElem_cons_succ, Act.put, List.setIfInBounds_toArray, List.set_cons_zero, List.set_cons_succ]
              refine wpAnyH_done (by kernel_rfl) ?_ _
              refine NoPanic.normal ?_
              go_wp2_with fail
              go_meet
              exact ⟨b9, b10, A', c', E', out, ok, rfl, rfl, rfl, HRR.out, HRN18.out, H9_18.out, H10_18.out, (by have := HXb9.out; omega), (by have := HXb10.out; omega), (by have h1 := HXb9.out; have h2 := HXb10.out; omega), HB18.out⟩
            refine AllReadyH.cons (o := _) rfl (fun K hK => ?_) AllReadyH.nil
            go_simp
            (have hal := (Below.drewN ((Below.refl wo.heap.size wo).alloc (Nat.le_refl _) (.cells pk0 25)) 1 : Below wo.heap.size wo (World.drew (World.alloc wo (.cells pk0 25)))); have HB19 : Hid (Below wo.heap.size wo (World.drew (World.alloc wo (.cells pk0 25)))) := Lib.hid hal; have H10_19 : Hid (Blk (World.drew (World.alloc wo (.cells pk0 25))) wo.heap.size 25 pk0) := Lib.hid (Blk.new wo 25 pk0 0 0 (Or.inl (Nat.le_refl _))); have HXb10 : Hid (wo.heap.size ≤ wo.heap.size) := Lib.hid (Nat.le_refl _); clear hal; rw [pk0_lit] at HB19 H10_19; generalize World.drew (World.alloc _ _) = y19 at HB19 H10_19 ⊢; rw [← pk0_lit] at H10_19; obtain ⟨b10, hb10⟩ : ∃ q, q = wo.heap.size := ⟨_, rfl⟩; rw [← hb10] at H10_19  ⊢; have HXb10 : Hid (wo.heap.size ≤ b10) := Lib.hid (by omega); clear hb10)
            refine hK.out _ _ ?_ (fun hHeld19 => ?_)
            · (first | exact HSF.out _ HB19.out)
            clear hHeld hK K
            try simp only [List.getElem_toArray, List.getElem_cons_zero, List.getElem_cons_succ, Act.put, List.setIfInBounds_toArray, List.set_cons_zero, List.set_cons_succ]
            refine wpAnyH_ready (rs := [6, 11]) (by kernel_rfl) (by simp) ?_
            refine AllReadyH.cons (o := _) rfl (fun K hK => ?_) ?_
            · skip
              go_simp
              (go_at_call 26; refine (HRP.out _ HB19.out).mono ?_; rintro e y20 ⟨v', E', out, ok, rfl, hR, hc, hb⟩; have hrn := (HRN.out.grow HB19.out (X' := [b7, b10]) (by intro k hk; simp only [List.mem_cons, List.not_mem_nil, or_false] at hk ⊢; have hz1 := HSZ.out; have hz2 := HB19.out.size; have hz5 := HXb10.out; have hz6 := H10_19.out.lt; omega)).ref (HJ.out.below HB19.out) (by have hz1 := HSZ.out; have hz2 := HB19.out.size; omega) (by intro k hk; simp only [List.mem_cons, List.not_mem_nil, or_false] at hk; have hz1 := HSZ.out; have hz2 := HB19.out.size; have hz5 := HXb10.out; have hz6 := H10_19.out.lt; omega) hb hc; obtain ⟨A', c', hv', _, _, _⟩ := slice_of v' y20 hrn.own; subst hv'; have HRR := Lib.hid hR; have HRN20 := Lib.hid hrn; have HB20 := Lib.hid (HB19.out.trans (Below.mono hb HB19.out.size)); have H10_20 := Lib.hid (H10_19.out.step hb); clear hR hc hb hrn)
              refine hK.out _ _ ?_ (fun hHeld20 => ?_)
              · (first | exact HSF.out _ HB20.out)
              clear hHeld19 hK K
              try simp only [List.getElem_toArray, List.getElem_cons_zero, List.getElem_cons_succ, Act.put, List.setIfInBounds_toArray, List.set_cons_zero, List.set_cons_succ]
              refine wpAnyH_take (i := 7) (oi := _) (v := ?vr1n7_23) rfl (by kernel_rfl) (by kernel_rfl) (by kernel_rfl) (fun _ _ _ h => h) (Or.inl ⟨by kernel_rfl, ?hr1n7_23⟩) hHeld20 ?_
              case hr1n7_23 => (intro w hSw; (try dsimp only at hSw); go_simp; try (with_reducible rfl))
              try simp only [List.getElem_toArray, List.getElem_cons_zero, List.getElem_cons_succ, Act.put, List.setIfInBounds_toArray, List.set_cons_zero, List.set_cons_succ]
              refine wpAnyH_take (i := 8) (oi := _) (v := ?vr1n8_24) rfl (by kernel_rfl) (by kernel_rfl) (by kernel_rfl) (fun _ _ _ h => h) (Or.inl ⟨by kernel_rfl, ?hr1n8_24⟩) hHeld20 ?_
              case hr1n8_24 => (intro w hSw; (try dsimp only at hSw); go_simp; try (with_reducible rfl))
              try simp only [List.getElem_toArray, List.getElem_cons_zero, List.getElem_cons_succ, Act.put, List.setIfInBounds_toArray, List.set_cons_zero, List.set_cons_succ]
              refine wpAnyH_take (i := 9) (oi := _) (v := ?vr1n9_25) rfl (by kernel_rfl) (by kernel_rfl) (by kernel_rfl) (fun _ _ _ h => h) (Or.inl ⟨by kernel_rfl, ?hr1n9_25⟩) hHeld20 ?_
              case hr1n9_25 => (intro w hSw; (try dsimp only at hSw); go_simp; try (with_reducible rfl))
              try simp only [List.getElem_toArray, List.getElem_cons_zero, List.getElem_cons_succ, Act.put, List.setIfInBounds_toArray, List.set_cons_zero, List.set_cons_succ]
              refine wpAnyH_take (i := 10) (oi := _) (v := ?vr1n10_26) rfl (by kernel_rfl) (by kernel_rfl) (by kernel_rfl) (fun _ _ _ h => h) (Or.inl ⟨by kernel_rfl, ?hr1n10_26⟩) hHeld20 ?_
              case hr1n10_26 => (intro w hSw; (try dsimp only at hSw); go_simp; try (with_reducible rfl))
              try simp only [List.getElem_toArray, List.getElem_cons_zero, List.getElem_cons_succ, Act.put, List.setIfInBounds_toArray, List.set_cons_zero, List.set_cons_succ]
              refine wpAnyH_ready (rs := [11]) (by kernel_rfl) (by simp) ?_
              refine AllReadyH.cons (o := _) rfl (fun K hK => ?_) AllReadyH.nil
              go_simp
              (have hal := ((Below.refl y20.heap.size y20).alloc (Nat.le_refl _) (.cells zrj 62)); have HB21 := Lib.hid (HB20.out.trans (Below.mono hal HB20.out.size)); have HRN21 := Lib.hid (HRN20.out.grow hal (X' := [b7, y20.heap.size, b10]) (by intro k hk; simp only [List.mem_cons, List.not_mem_nil, or_false] at hk ⊢; omega)); have H10_21 := Lib.hid (H10_20.out.step hal); have H9_21 : Hid (Blk (World.alloc y20 (.cells zrj 62)) y20.heap.size 62 zrj) := Lib.hid (Blk.new y20 62 zrj 0 0 (Or.inl (Nat.le_refl _))); have HXb9 : Hid (wo.heap.size ≤ y20.heap.size ∧ b10 ≠ y20.heap.size) := Lib.hid ⟨HB20.out.size, Nat.ne_of_lt H10_20.out.lt⟩; clear hal; generalize World.alloc _ _ = y21 at HB21 HRN21 H10_21 H9_21 ⊢; obtain ⟨b9, hb9⟩ : ∃ q, q = y20.heap.size := ⟨_, rfl⟩; rw [← hb9] at H9_21 HRN21 HXb9 ⊢; clear hb9)
              refine hK.out _ _ ?_ (fun hHeld21 => ?_)
              · (first | exact HSF.out _ HB21.out)
              clear hHeld20 hK K
              try simp only [List.getElem_toArray, List.getElem_cons_zero, List.getElem_cons_succ, Act.put, List.setIfInBounds_toArray, List.set_cons_zero, List.set_cons_succ]
              refine wpAnyH_ready (rs := [13]) (by kernel_rfl) (by simp) ?_
              refine AllReadyH.cons (o := _) rfl (fun K hK => ?_) AllReadyH.nil
              (have hst := st_rj_run H9_21.out rfl lim (.slice A' E'.length c') rfl)
              go_simp
              (have HNE : Hid (b10 ≠ b9) := Lib.hid (by have h1 := HXb9.out; have h2 := HXb10.out; omega); have HB22 : Hid (Below wo.heap.size wo (World.setCells y21 b9 0 [.int .i64 lim, .slice A' E'.length c'])) := Lib.hid (Below.setCells HB21.out (by have := HXb9.out; omega) 0 _); have H9_22 : Hid (Blk (World.setCells y21 b9 0 [.int .i64 lim, .slice A' E'.length c']) b9 62 #[.int .i64 lim, .slice A' E'.length c']) := Lib.hid (H9_21.out.setAll (cs := #[.int .i64 lim, .slice A' E'.length c']) rfl); have HRN22 := Lib.hid (HRN21.out.setX b9 (by simp) 0 [.int .i64 lim, .slice A' E'.length c']); have H10_22 := Lib.hid (H10_21.out.setCells_other b9 0 [.int .i64 lim, .slice A' E'.length c'] HNE.out); clear hst; generalize World.setCells _ _ _ _ = y22 at HB22 H9_22 HRN22 H10_22 ⊢)
              refine hK.out _ _ ?_ (fun hHeld22 => ?_)
              · (first | exact HSF.out _ HB22.out)
              clear hHeld21 hK K
              try simp only [List.getElem_toArray, List.getElem_cons_zero, List.getElem_cons_succ, Act.put, List.setIfInBounds_toArray, List.set_cons_zero, List.set_cons_succ]
              refine wpAnyH_ready (rs := [14]) (by kernel_rfl) (by simp) ?_
              refine AllReadyH.cons (o := _) rfl (fun K hK => ?_) AllReadyH.nil
              (have hst := st_pk_run H10_22.out rfl out)
              go_simp
              (have HNE2 : Hid (b9 ≠ b10) := Lib.hid (by have h1 := HXb9.out; have h2 := HXb10.out; omega); have HB23 : Hid (Below wo.heap.size wo (World.setCells y22 b10 0 out.c.toList)) := Lib.hid (Below.setCells HB22.out (by have := HXb10.out; omega) 0 _); have H9_23 := Lib.hid (H9_22.out.setCells_other b10 0 out.c.toList HNE2.out); have H10_23 : Hid (Blk (World.setCells y22 b10 0 out.c.toList) b10 25 out.c) := Lib.hid (H10_22.out.setAll (Pkt.c_size _)); have HRN23 := Lib.hid (HRN22.out.setX b10 (by simp) 0 out.c.toList); clear hst; generalize World.setCells _ _ _ _ = y23 at HB23 H9_23 H10_23 HRN23 ⊢)
              refine hK.out _ _ ?_ (fun hHeld23 => ?_)
              · (first | exact HSF.out _ HB23.out)
              clear hHeld22 hK K
              try simp only [List.getElem_toArray, List.getElem_cons_zero, List.getElem_cons_succ, Act.put, List.setIfInBounds_toArray, List.set_cons_zero, List.set_cons_succ]
              refine wpAnyH_take (i := 15) (oi := _) (v := ?vr1n15_27) rfl (by kernel_rfl) (by kernel_rfl) (by kernel_rfl) (fun _ _ _ h => h) (Or.inl ⟨by kernel_rfl, ?hr1n15_27⟩) hHeld23 ?_
              case hr1n15_27 => (intro w hSw; (try dsimp only at hSw); go_simp; try (with_reducible rfl))
              try simp only [List.getElem_toArray, List.getElem_cons_zero, List.getElem_cons_succ, Act.put, List.setIfInBounds_toArray, List.set_cons_zero, List.set_cons_succ]
              refine wpAnyH_done (by kernel_rfl) ?_ _
              refine NoPanic.normal ?_
              go_wp2_with fail
              go_meet
              exact ⟨b9, b10, A', c', E', out, ok, rfl, rfl, rfl, HRR.out, HRN23.out, H9_23.out, H10_23.out, (by have := HXb9.out; omega), (by have := HXb10.out; omega), (by have h1 := HXb9.out; have h2 := HXb10.out; omega), HB23.out⟩
            refine AllReadyH.cons (o := _) rfl (fun K hK => ?_) AllReadyH.nil
            go_simp
            (have hal := ((Below.refl y19.heap.size y19).alloc (Nat.le_refl _) (.cells zrj 62)); have HB24 := Lib.hid (HB19.out.trans (Below.mono hal HB19.out.size)); have H10_24 := Lib.hid (H10_19.out.step hal); have H9_24 : Hid (Blk (World.alloc y19 (.cells zrj 62)) y19.heap.size 62 zrj) := Lib.hid (Blk.new y19 62 zrj 0 0 (Or.inl (Nat.le_refl _))); have HXb9 : Hid (wo.heap.size ≤ y19.heap.size ∧ b10 ≠ y19.heap.size) := Lib.hid ⟨HB19.out.size, Nat.ne_of_lt H10_19.out.lt⟩; clear hal; generalize World.alloc _ _ = y24 at HB24 H10_24 H9_24 ⊢; obtain ⟨b9, hb9⟩ : ∃ q, q = y19.heap.size := ⟨_, rfl⟩; rw [← hb9] at H9_24 HXb9 ⊢; clear hb9)
            refine hK.out _ _ ?_ (fun hHeld24 => ?_)
            · (first | exact HSF.out _ HB24.out)
            clear hHeld19 hK K
            try simp only [List.getElem_toArray, List.getElem_cons_zero, List.getElem_cons_succ, Act.put, List.setIfInBounds_toArray, List.set_cons_zero, List.set_cons_succ]
            refine wpAnyH_ready (rs := [6]) (by kernel_rfl) (by simp) ?_
            refine AllReadyH.cons (o := _) rfl (fun K hK => ?_) AllReadyH.nil
            go_simp
            (go_at_call 26; refine (HRP.out _ HB24.out).mono ?_; rintro e y25 ⟨v', E', out, ok, rfl, hR, hc, hb⟩; have hrn := (HRN.out.grow HB24.out (X' := [b7, b9, b10]) (by intro k hk; simp only [List.mem_cons, List.not_mem_nil, or_false] at hk ⊢; have hz1 := HSZ.out; have hz2 := HB24.out.size; have hz3 := HXb9.out; have hz4 := H9_24.out.lt; have hz5 := HXb10.out; have hz6 := H10_24.out.lt; omega)).ref (HJ.out.below HB24.out) (by have hz1 := HSZ.out; have hz2 := HB24.out.size; omega) (by intro k hk; simp only [List.mem_cons, List.not_mem_nil, or_false] at hk; have hz1 := HSZ.out; have hz2 := HB24.out.size; have hz3 := HXb9.out; have hz4 := H9_24.out.lt; have hz5 := HXb10.out; have hz6 := H10_24.out.lt; omega) hb hc; obtain ⟨A', c', hv', _, _, _⟩ := slice_of v' y25 hrn.own; subst hv'; have HRR := Lib.hid hR; have HRN25 := Lib.hid hrn; have HB25 := Lib.hid (HB24.out.trans (Below.mono hb HB24.out.size)); have H9_25 := Lib.hid (H9_24.out.step hb); have H10_25 := Lib.hid (H10_24.out.step hb); clear hR hc hb hrn)
            refine hK.out _ _ ?_ (fun hHeld25 => ?_)
            · (first | exact HSF.out _ HB25.out)
            clear hHeld24 hK K
            try simp only [List.getElem_toArray, List.getElem_cons_zero, List.getElem_cons_succ, Act.put, List.setIfInBounds_toArray, List.set_cons_zero, List.set_cons_succ]
            refine wpAnyH_take (i := 7) (oi := _) (v := ?vr1n7_28) rfl (by kernel_rfl) (by kernel_rfl) (by kernel_rfl) (fun _ _ _ h => h) (Or.inl ⟨by kernel_rfl, ?hr1n7_28⟩) hHeld25 ?_
            case hr1n7_28 => (intro w hSw; (try dsimp only at hSw); go_simp; try (with_reducible rfl))
            try simp only [List.getElem_toArray, List.getElem_cons_zero, List.getElem_cons_succ, Act.put, List.setIfInBounds_toArray, List.set_cons_zero, List.set_cons_succ]
            refine wpAnyH_take (i := 8) (oi := _) (v := ?vr1n8_29) rfl (by kernel_rfl) (by kernel_rfl) (by kernel_rfl) (fun _ _ _ h => h) (Or.inl ⟨by kernel_rfl, ?hr1n8_29⟩) hHeld25 ?_
            case hr1n8_29 => (intro w hSw; (try dsimp only at hSw); go_simp; try (with_reducible rfl))
            try simp only [List.getElem_toArray, List.getElem_cons_zero, List.getElem_cons_succ, Act.put, List.setIfInBounds_toArray, List.set_cons_zero, List.set_cons_succ]
            refine wpAnyH_take (i := 9) (oi := _) (v := ?vr1n9_30) rfl (by kernel_rfl) (by kernel_rfl) (by kernel_rfl) (fun _ _ _ h => h) (Or.inl ⟨by kernel_rfl, ?hr1n9_30⟩) hHeld25 ?_
            case hr1n9_30 => (intro w hSw; (try dsimp only at hSw); go_simp; try (with_reducible rfl))
            try simp only [List.getElem_toArray, List.getElem_cons_zero, List.getElem_cons_succ, Act.put, List.setIfInBounds_toArray, List.set_cons_zero, List.set_cons_succ]
            refine wpAnyH_take (i := 10) (oi := _) (v := ?vr1n10_31) rfl (by kernel_rfl) (by kernel_rfl) (by kernel_rfl) (fun _ _ _ h => h) (Or.inl ⟨by kernel_rfl, ?hr1n10_31⟩) hHeld25 ?_
            case hr1n10_31 => (intro w hSw; (try dsimp only at hSw); go_simp; try (with_reducible rfl))
            try simp only [List.getElem_toArray, List.getElem_cons_zero, List.getElem_cons_succ, Act.put, List.setIfInBounds_toArray, List.set_cons_zero, List.set_cons_succ]
            refine wpAnyH_ready (rs := [13]) (by kernel_rfl) (by simp) ?_
            refine AllReadyH.cons (o := _) rfl (fun K hK => ?_) AllReadyH.nil
            (have hst := st_rj_run H9_25.out rfl lim (.slice A' E'.length c') rfl)
            go_simp
            (have HNE : Hid (b10 ≠ b9) := Lib.hid (by have h1 := HXb9.out; have h2 := HXb10.out; omega); have HB26 : Hid (Below wo.heap.size wo (World.setCells y25 b9 0 [.int .i64 lim, .slice A' E'.length c'])) := Lib.hid (Below.setCells HB25.out (by have := HXb9.out; omega) 0 _); have H9_26 : Hid (Blk (World.setCells y25 b9 0 [.int .i64 lim, .slice A' E'.length c']) b9 62 #[.int .i64 lim, .slice A' E'.length c']) := Lib.hid (H9_25.out.setAll (cs := #[.int .i64 lim, .slice A' E'.length c']) rfl); have HRN26 := Lib.hid (HRN25.out.setX b9 (by simp) 0 [.int .i64 lim, .slice A' E'.length c']); have H10_26 := Lib.hid (H10_25.out.setCells_other b9 0 [.int .i64 lim, .slice A' E'.length c'] HNE.out); clear hst; generalize World.setCells _ _ _ _ = y26 at HB26 H9_26 HRN26 H10_26 ⊢)
            refine hK.out _ _ ?_ (fun hHeld26 => ?_)
            · (first | exact HSF.out _ HB26.out)
            clear hHeld25 hK K
            try simp only [List.getElem_toArray, List.getElem_cons_zero, List.getElem_cons_succ, Act.put, List.setIfInBounds_toArray, List.set_cons_zero, List.set_cons_succ]
            refine wpAnyH_ready (rs := [14]) (by kernel_rfl) (by simp) ?_
            refine AllReadyH.cons (o := _) rfl (fun K hK => ?_) AllReadyH.nil
            (have hst := st_pk_run H10_26.out rfl out)
            go_simp
            (have HNE2 : Hid (b9 ≠ b10) := Lib.hid (by have h1 := HXb9.out; have h2 := HXb10.out; omega); have HB27 : Hid (Below wo.heap.size wo (World.setCells y26 b10 0 out.c.toList)) := Lib.hid (Below.setCells HB26.out (by have := HXb10.out; omega) 0 _); have H9_27 := Lib.hid (H9_26.out.setCells_other b10 0 out.c.toList HNE2.out); have H10_27 : Hid (Blk (World.setCells y26 b10 0 out.c.toList) b10 25 out.c) := Lib.hid (H10_26.out.setAll (Pkt.c_size _)); have HRN27 := Lib.hid (HRN26.out.setX b10 (by simp) 0 out.c.toList); clear hst; generalize World.setCells _ _ _ _ = y27 at HB27 H9_27 H10_27 HRN27 ⊢)
            refine hK.out _ _ ?_ (fun hHeld27 => ?_)
            · (first | exact HSF.out _ HB27.out)
            clear hHeld26 hK K
            try simp only [List.getElem_toArray, List.getElem_cons_zero, List.getElem_cons_succ, Act.put, List.setIfInBounds_toArray, List.set_cons_zero, List.set_cons_succ]
            refine wpAnyH_take (i := 15) (oi := _) (v := ?vr1n15_32) rfl (by kernel_rfl) (by kernel_rfl) (by kernel_rfl) (fun _ _ _ h => h) (Or.inl ⟨by kernel_rfl, ?hr1n15_32⟩) hHeld27 ?_
            case hr1n15_32 => (intro w hSw; (try dsimp only at hSw); go_simp; try (with_reducible rfl))
            try simp only [List.getElem_toArray, List.getElem_cons_zero, List.getElem_cons_succ, Act.put, List.setIfInBounds_toArray, List.set_cons_zero, List.set_cons_succ]
            refine wpAnyH_done (by kernel_rfl) ?_ _
            refine NoPanic.normal ?_
            go_wp2_with fail
            go_meet
            exact ⟨b9, b10, A', c', E', out, ok, rfl, rfl, rfl, HRR.out, HRN27.out, H9_27.out, H10_27.out, (by have := HXb9.out; omega), (by have := HXb10.out; omega), (by have h1 := HXb9.out; have h2 := HXb10.out; omega), HB27.out⟩
          case rest =>
            obtain ⟨b9, b10, A', c', E', out, ok, rfl, rfl, rfl, hRR, hrn, h9, h10, hs9, hs10, hne, hbx⟩ := hcut
            have HRR := Lib.hid hRR
            have HRN1 := Lib.hid hrn
            have H9 := Lib.hid h9
            have H10 := Lib.hid h10
            have HX := Lib.hid (And.intro hs9 hs10)
            have HJ1 := Lib.hid (HJ.out.below hbx)
            have H71 := Lib.hid (HB7.out.step hbx)
            have HB1 := Lib.hid (Below.step HBW.out hbx)
            have HN9 : Hid (¬ ownJ jb o D b9 ∧ ¬ ownJ jb o D b10) := Lib.hid ⟨fun h => by have := (HJ.out.own_lt h).2; omega, fun h => by have := (HJ.out.own_lt h).2; omega⟩
            have hpl := (HAL.out wc HB1.out).2.1
            have HPU := Lib.hid (put_any HJ1.out HOK.out (by omega) HLI.out.1 p HPP.out.1)
            clear hRR hrn h9 h10 hs9 hs10 hne hbx HRP HSF
            go_wp2_with fail
            refine HPU.out.mono ?_
            rintro e u1 ⟨out2, ok2, o1, c1, D1, rfl, hJ, hR, hF, hO⟩
            obtain ⟨hout, hok, hsim⟩ := sim_put HSI.out HOK.out.four hR HRR.out
            subst hout
            subst hok
            have HJ2 := Lib.hid hJ
            have HB2 : Hid (Below w.heap.size w u1) := Lib.hid (HB1.out.trans (hF.toBelow' (fun q hq => by have h1 := (HJ.out.own_lt hq).1; have h2 := HSZ.out; omega) HB1.out.size))
            have H72 := Lib.hid (H71.out.of_heap (hF.block b7 H71.out.lt HN7.out))
            have H92 := Lib.hid (H9.out.of_heap (hF.block b9 H9.out.lt HN9.out.1))
            have H102 := Lib.hid (H10.out.of_heap (hF.block b10 H10.out.lt HN9.out.2))
            have HR2 := Lib.hid (HRN1.out.put hF hO)
            have HN72 : Hid (¬ ownJ jb o1 D1 b7) := Lib.hid (fun h => (hO b7 h).elim HN7.out (fun h2 => by have := H71.out.lt; omega))
            have HOK2 := Lib.hid (hR.ok HOK.out)
            have HAG2 := Lib.hid (HAG.out.put HLI.out.1 hR)
            have HSI2 := Lib.hid hsim
            have HX7 : Hid (b7 < u1.heap.size) := Lib.hid H72.out.lt
            have hal := (Below.refl u1.heap.size u1).alloc (Nat.le_refl _) (.cells pk0 25)
            have hbz := Blk.new u1 25 pk0 0 0 (Or.inl (Nat.le_refl _))
            have hst := st_pk_run hbz rfl out2
            have hal2 := Below.setCells hal (Nat.le_refl _) 0 out2.c.toList
            have HQ : Hid (Blk (World.setCells (World.alloc u1 (.cells pk0 25)) u1.heap.size 0 out2.c.toList) u1.heap.size 25 out2.c) := Lib.hid (hbz.setAll (Pkt.c_size _))
            have HJa := Lib.hid (HJ2.out.below hal2)
            have HBa := Lib.hid (Below.step HB2.out hal2)
            have H7a := Lib.hid (H72.out.step hal2)
            have H9a := Lib.hid (H92.out.step hal2)
            have H10a := Lib.hid (H102.out.step hal2)
            have HRa := Lib.hid (HR2.out.step hal2)
            clear hJ hR hF hO hsim hal hal2 hbz HPU hpl HJ1 HB1 H71 H9 H10 HRN1 HJ2 HB2 H72 H92 H102 HR2 HRR
            rw [pk0_lit] at hst HQ HJa HBa H7a H9a H10a HRa
            go_upto_region 18 with fail
            clear hst
            generalize World.setCells _ _ _ _ = u3 at HQ HJa HBa H7a H9a H10a HRa ⊢
            obtain ⟨b12, hb12⟩ : ∃ q, q = u1.heap.size := ⟨_, rfl⟩
            rw [← hb12] at HQ HX7 ⊢
            clear hb12
            have k0 : u3.cell? ⟨b9, 0, none⟩ = some (.int .i64 lim) := by rw [H9a.out.cell]; rfl
            have k1 : u3.cell? ⟨b9, 1, none⟩ = some (.slice A' E'.length c') := by rw [H9a.out.cell]; rfl
            have hst := st_rj_run H7a.out rfl lim (.slice A' E'.length c') rfl
            have H7b := Lib.hid (H7a.out.setAll (cs := #[.int .i64 lim, .slice A' E'.length c']) rfl)
            have HJb := Lib.hid (HJa.out.setN b7 0 [.int .i64 lim, .slice A' E'.length c'] HN72.out)
            have HRb := Lib.hid (HRa.out.setX b7 (by simp) 0 [.int .i64 lim, .slice A' E'.length c'])
            have HBb := Lib.hid (Below.setCells HBa.out H7L.out 0 [.int .i64 lim, .slice A' E'.length c'])
            have H10b := Lib.hid (H10a.out.setCells_other b7 0 [.int .i64 lim, .slice A' E'.length c'] (by have h1 := HX.out; have h2 := HSZ.out; omega))
            have HQb := Lib.hid (HQ.out.setCells_other b7 0 [.int .i64 lim, .slice A' E'.length c'] (by have h1 := HX7.out; omega))
            clear HJa HRa HBa H10a HQ H9a H7a
            go_upto_region 19 with fail
            clear hst k0 k1
            generalize World.setCells _ _ _ _ = u4 at H7b HJb HRb HBb H10b HQb ⊢
            have lq1 := HQb.out.ld_pkt
            have lq2 := H10b.out.ld_pkt
            have heq := run_pkt_equal out2 u4
            have HR' := Lib.hid (HRb.out.grow (X' := [b7]) (Below.refl _ _) (by intro k hk; simp only [List.mem_cons, List.not_mem_nil, or_false] at hk ⊢; exact Or.inl (Or.inl hk)))
            cases ok2
            all_goals (go_wp2; go_meet; exact ⟨D1, o1, c1, E', A', c', HJb.out, HOK2.out, HAG2.out, H7b.out, HR'.out, HN72.out, HSI2.out, HBb.out⟩)
        · by_cases h1 : di = 1
          · subst h1
            have HTJ := Lib.hid (tickJ_any HJ.out HOK.out.four HLI.out.1 (fun d hd => ⟨(HAG.out d hd).1, by have h1 := (HAG.out d hd).2; have h2 := HLI.out.2.2; omega⟩))
            go_wp2_with fail
            refine HTJ.out.mono ?_
            rintro e w5 ⟨rfl, hJ, hF⟩
            have HJ5 := Lib.hid hJ
            have HB5 : Hid (Below w.heap.size w w5) := Lib.hid (HBW.out.trans (hF.toBelow' (fun q hq => by have h1 := (HJ.out.own_lt hq).1; have h2 := HSZ.out; omega) HSZ.out.2.2.2.1))
            have H75 := Lib.hid (HB7.out.of_heap (hF.block b7 HB7.out.lt HN7.out))
            have HR5 := Lib.hid (HRN.out.put (D' := tickD lim D) (o' := o) hF (fun k hk => Or.inl (own_tick hk)))
            have HRT := Lib.hid (refTick_any w.heap.size lim HLI.out.2.1 HLI.out.2.2 (.slice Av E.length cv) E.length E (by have h1 := HSZ.out; omega) (fun r hr => by
              obtain ⟨d, hd, ho⟩ := HSI.out.each r hr
              have h1 := HAG.out d hd
              have h2 := HLI.out
              rw [← ho.age]
              omega) w5 HR5.out.own)
            have HS5 : Hid (w.heap.size ≤ w5.heap.size ∧ b7 < w5.heap.size) := Lib.hid ⟨HB5.out.size, H75.out.lt⟩
            have k0 : w5.cell? ⟨b7, 0, none⟩ = some (.int .i64 lim) := by rw [H75.out.cell]; rfl
            have k1 : w5.cell? ⟨b7, 1, none⟩ = some (.slice Av E.length cv) := by rw [H75.out.cell]; rfl
            clear hJ hF HTJ
            go_wp2_with fail
            refine HRT.out.mono ?_
            rintro e w6 ⟨v', rfl, hown, hb⟩
            obtain ⟨A', c', hv', _, _, _⟩ := slice_of v' w6 hown
            subst hv'
            have HR6 := Lib.hid ((HR5.out.step hb).swap w5.heap.size hown HS5.out.1 (fun k hk => (HJ5.out.own_lt hk).2) (by intro k hk; simp only [List.mem_cons, List.not_mem_nil, or_false] at hk; have h1 := HS5.out; omega) tickR_mem)
            have hbz := H75.out.step hb
            have hst := st_rj_run hbz rfl lim (.slice A' (tickR lim E).length c') rfl
            have H77 := Lib.hid (hbz.setAll (cs := #[.int .i64 lim, .slice A' (tickR lim E).length c']) rfl)
            have HJ7 := Lib.hid ((HJ5.out.below hb).setN b7 0 [.int .i64 lim, .slice A' (tickR lim E).length c'] (fun h => HN7.out (own_tick h)))
            have HR7 := Lib.hid (HR6.out.setX b7 (by simp) 0 [.int .i64 lim, .slice A' (tickR lim E).length c'])
            have HB7' := Lib.hid (Below.setCells (Below.step HB5.out hb) H7L.out 0 [.int .i64 lim, .slice A' (tickR lim E).length c'])
            clear hown hb hbz k0 k1
            go_wp2_with fail
            go_meet
            exact ⟨tickD lim D, o, c0, tickR lim E, A', c', HJ7.out, HOK.out.tick lim, HAG.out.tick, H77.out, HR7.out, fun h => HN7.out (own_tick h), sim_tick HSI.out lim, HB7'.out⟩
          · go_wp2_with fail
            go_meet
            exact ⟨D, o, c0, E, Av, cv, HJ.out, ⟨HOK.out.four, fun d hd => ⟨(HOK.out.ok d hd).1.mono (Nat.le_succ _), (HOK.out.ok d hd).2⟩⟩, HAG.out, HB7.out, HRN.out, HN7.out, HSI.out, HBW.out⟩
      case rest =>
        clear HJ HOK HAG HB7 HRN HN7 HSI HBW HES HSZ HAL HPP
        obtain ⟨D2, o2, c2, E2, A2, cv2, hJ, hOK, hAG, hB7, hRN, hN7, hSI, hBW⟩ := hcut
        have HJ := Lib.hid hJ
        have HOK := Lib.hid hOK
        have HAG := Lib.hid hAG
        have HB7 := Lib.hid hB7
        have HRN := Lib.hid hRN
        have HN7 := Lib.hid hN7
        have HSI := Lib.hid hSI
        have HBW := Lib.hid hBW
        clear hJ hOK hAG hB7 hRN hN7 hSI hBW
        go_upto_region 24 with fail
        have HDR : Hid (Below wc.heap.size wc (World.drew wc)) := Lib.hid (Below.drewN (Below.refl _ wc) 1)
        have HL := Lib.hid (lenJ_any lim jb D2.length c2 o2 HLI.out.1 (World.drew wc) (jo_cell (HJ.out.below HDR.out)) (jo_cell1 (HJ.out.below HDR.out)))
        obtain ⟨ln, hln⟩ : ∃ m, m = E2.length := ⟨_, rfl⟩
        have hc1 : (World.drew wc).cell? ⟨b7, 1, none⟩ = some (.slice A2 ln cv2) := by have h5 := HB7.out.cell 1; rw [hln]; exact h5
        rw [HSI.out.len, ← hln] at HL
        have HC1 := Lib.hid hc1
        clear hc1 hln
        refine wp_region_noPanic ?_
        refine wp_region_held_drew (S := (fun w' => w'.cell? ⟨b7, 1, none⟩ = some (.slice A2 ln cv2))) (by kernel_rfl) (by first | exact HC1.out) (fun hHeld => ?_)
        refine wpAnyH_take (i := 0) (oi := _) (v := ?vr2n0_33) rfl (by kernel_rfl) (by kernel_rfl) (by kernel_rfl) (fun _ _ _ h => h) (Or.inl ⟨by kernel_rfl, ?hr2n0_33⟩) hHeld ?_
        case hr2n0_33 => (intro w hSw; (try dsimp only at hSw); go_simp; try (with_reducible rfl))
        try simp only [List.getElem_toArray, List.getElem_cons_zero, List.getElem_cons_succ, Act.put, List.setIfInBounds_toArray, List.set_cons_zero, List.set_cons_succ]
        refine wpAnyH_take (i := 2) (oi := _) (v := ?vr2n2_34) rfl (by kernel_rfl) (by kernel_rfl) (by kernel_rfl) (fun _ _ _ h => h) (Or.inl ⟨by kernel_rfl, ?hr2n2_34⟩) hHeld ?_
        case hr2n2_34 => (intro w hSw; (try dsimp only at hSw); go_simp; try (with_reducible rfl))
        try simp only [List.getElem_toArray, List.getElem_cons_zero, List.getElem_cons_succ, Act.put, List.setIfInBounds_toArray, List.set_cons_zero, List.set_cons_succ]
        refine wpAnyH_take (i := 3) (oi := _) (v := ?vr2n3_35) rfl (by kernel_rfl) (by kernel_rfl) (by kernel_rfl) (fun _ _ _ h => h) (Or.inl ⟨by kernel_rfl, ?hr2n3_35⟩) hHeld ?_
        case hr2n3_35 => (intro w hSw; (try dsimp only at hSw); go_simp; try (with_reducible rfl))
        try simp only [List.getElem_toArray, List.getElem_cons_zero, List.getElem_cons_succ, Act.put, List.setIfInBounds_toArray, List.set_cons_zero, List.set_cons_succ]
        refine wpAnyH_take (i := 4) (oi := _) (v := ?vr2n4_36) rfl (by kernel_rfl) (by kernel_rfl) (by kernel_rfl) (fun _ _ _ h => h) (Or.inl ⟨by kernel_rfl, ?hr2n4_36⟩) hHeld ?_
        case hr2n4_36 => (intro w hSw; (try dsimp only at hSw); go_simp; try (with_reducible rfl))
        try simp only [List.getElem_toArray, List.getElem_cons_zero, List.getElem_cons_succ, Act.put, List.setIfInBounds_toArray, List.set_cons_zero, List.set_cons_succ]
        refine wpAnyH_ready (rs := [1]) (by kernel_rfl) (by simp) ?_
        refine AllReadyH.cons (o := _) rfl (fun K hK => ?_) AllReadyH.nil
        go_simp
        (go_at_call 21; refine HL.out.mono ?_; rintro e yL ⟨rfl, hyl⟩; rw [hyl]; clear hyl)
        refine hK.out _ _ ?_ (fun hHeld1 => ?_)
        · (first | exact HC1.out)
        clear hHeld hK K
        try simp only [List.getElem_toArray, List.getElem_cons_zero, List.getElem_cons_succ, Act.put, List.setIfInBounds_toArray, List.set_cons_zero, List.set_cons_succ]
        refine wpAnyH_take (i := 5) (oi := _) (v := ?vr2n5_37) rfl (by kernel_rfl) (by kernel_rfl) (by kernel_rfl) (fun _ _ _ h => h) (Or.inl ⟨by kernel_rfl, ?hr2n5_37⟩) hHeld1 ?_
        case hr2n5_37 => (intro w hSw; (try dsimp only at hSw); go_simp; try (with_reducible rfl))
        try simp only [List.getElem_toArray, List.getElem_cons_zero, List.getElem_cons_succ, Act.put, List.setIfInBounds_toArray, List.set_cons_zero, List.set_cons_succ]
        refine wpAnyH_done (by kernel_rfl) ?_ _
        refine NoPanic.normal ?_
        go_wp2_with fail
        go_roundg (n - (i + 1))
        case measure => omega
        case rel => exact ⟨i + 1, D2, o2, c2, E2, A2, cv2, by go_num, by omega, Nat.le_refl _, Lib.hid (HJ.out.below HDR.out), HOK, HAG, Lib.hid (HB7.out.step HDR.out), Lib.hid (HRN.out.step HDR.out), HN7, HSI, Lib.hid (Below.step HBW.out HDR.out)⟩
    · have hltz : ¬ (i : Int) < (n : Int) := by omega
      go_wp2
      go_ret
      exact ⟨rfl, HBW.out⟩
end Go.Proofs.Yticchchcobjpdaa
