/- The walk through the law JournalTorn: it answers true. Condition: texts that a memory can hold. -/
import Derived.Test.YtccbohjcbhibkaaJnZ
namespace Go.Proofs.Ytccbohjcbhibkaa
set_option linter.unusedVariables false
set_option linter.unusedSimpArgs false
set_option maxRecDepth 100000
open Go.RowKit
attribute [local go_sem ↓] Go.wp_at_zero Go.wp_at_succ
attribute [local go_sem ↓] ix_dat ld_rec

theorem rcD_get (T : Rc) (k : Nat) (hk : k < 4) : (rcD T)[k]? = some (sv (dk T k)) := by
  obtain rfl | rfl | rfl | rfl : k = 0 ∨ k = 1 ∨ k = 2 ∨ k = 3 := by omega
  all_goals rfl
theorem rcC_get (r : Rc) (k : Nat) (hk : k < 4) : (rcC r)[3 + k]? = some (sv (dk r k)) := by
  obtain rfl | rfl | rfl | rfl : k = 0 ∨ k = 1 ∨ k = 2 ∨ k = 3 := by omega
  all_goals rfl
theorem le_max {s : List UInt8} (h : s.length = 64) : s.length ≤ maxLen := by rw [h]; decide
theorem max_64 {s : List UInt8} (h : s.length ≤ 64) : s.length ≤ maxLen := Nat.le_trans h (by decide)
theorem six_max {a b c d e f : List UInt8} (ha : a.length ≤ maxLen) (hb : b.length ≤ maxLen) (hc : c.length ≤ maxLen) (hd : d.length ≤ maxLen) (he : e.length ≤ maxLen) (hf : f.length ≤ maxLen) : ∀ s ∈ [a, b, c, d, e, f], s.length ≤ maxLen := by
  intro s hs
  simp only [List.mem_cons, List.not_mem_nil, or_false] at hs
  rcases hs with rfl | rfl | rfl | rfl | rfl | rfl <;> assumption
theorem read_torn (a : Rc) (L : List (List UInt8)) (V : List Rc) (hl : L.length = 6) (hs : ∀ s ∈ L, s.length ≤ maxLen) (he : readV 1 a.ep L = V) (w : World) (A : Option Addr) (c : Nat) (h : StrsAt w w.heap.size A L) :
    Calls Try.prog 22 #[.int .i64 1, .int .i64 a.ep, .slice A 6 c] w fun e w' => ∃ v, e = .returned v ∧ RecAt w' w.heap.size v V ∧ Below w.heap.size w w' := by
  have h2 := read_any 1 a.ep A c L (by rw [hl]; decide) hs w h
  rw [he, hl] at h2
  exact h2
theorem RsAt.one {w : World} {B : Nat} {A : Option Addr} {t : Rc} (h : RsAt w B A [t]) : ∃ b o, A = some ⟨b, o, none⟩ ∧ b < B ∧ ∀ j v, (encR t)[j]? = some v → w.cell? ⟨b, o + j, none⟩ = some v := by
  rcases h with h | ⟨b, o, h1, h2, h3⟩
  · cases h
  · refine ⟨b, o, h1, h2, fun j v hv => ?_⟩
    have := h3 0 (by simp) j v hv
    simpa using this
theorem RsAt.at1 {w : World} {B b o : Nat} {t : Rc} (h : RsAt w B (some ⟨b, o, none⟩) [t]) (j : Nat) {v : Value} (hv : (encR t)[j]? = some v) : w.cell? ⟨b, o + j, none⟩ = some v := by
  obtain ⟨b', o', e, _, hc⟩ := h.one
  have e := Option.some.inj e
  injection e with e1 e2
  subst e1
  subst e2
  exact hc j v hv
theorem encR_get (r : Rc) (k : Nat) (hk : k < 4) : (encR r)[3 + k]? = some (sv (dk r k)) := by
  obtain rfl | rfl | rfl | rfl : k = 0 ∨ k = 1 ∨ k = 2 ∨ k = 3 := by omega
  all_goals rfl
set_option maxHeartbeats 4000000 in
theorem journalTorn_walk (a b T : Rc) (hsa : Data a) (hsb : Data b) (hsT : Data T) (w : World) :
    Calls Try.prog 7 #[.agg (rcC a), .agg (rcC b), .agg (rcD T)] w fun e w' => e = .returned (.bool true) ∧ Below w.heap.size w w' := by
  have WK := Lib.hid wakes_any
  have GR := Lib.hid (fun A c w (h : RsAt w w.heap.size A [a, b]) => great_any A c [a, b] (by simp [maxLen]) (fun x hx => by rcases List.mem_cons.1 hx with rfl | hx; exact hsa; rw [List.mem_singleton.1 hx]; exact hsb) w h)
  have RTa := Lib.hid (fun w => right_any a hsa w)
  have RTb := Lib.hid (fun w => right_any b hsb w)
  have SXa := Lib.hid (fun w => six_any 1 a hsa w)
  have SXb := Lib.hid (fun w => six_any 1 b hsb w)
  have FU : Hid (∀ w, Calls Try.prog 24 #[.int .u8 0] w fun e w' => e = .returned (sv z64) ∧ Below w.heap.size w w') := Lib.hid (fun w => full_any 0 w)
  have HOA := Lib.hid (fun h => ok_of (r := a) h)
  have HOB := Lib.hid (fun h => ok_of (r := b) h)
  have HST := Lib.hid hsT
  have HK0a := Lib.hid (((Blk.new w 29 (rcC a) 0 0 (Or.inl (Nat.le_refl _))).alloc (.cells (rcC b) 29)).alloc (.cells (rcD T) 27))
  have HK0b : Hid (Blk _ (w.heap.size + 1) _ _) := Lib.hid (by have h := (Blk.new (w.alloc (.cells (rcC a) 29)) 29 (rcC b) 0 0 (Or.inl (Nat.le_refl _))).alloc (.cells (rcD T) 27); rw [size_alloc] at h; exact h)
  have HK0x : Hid (Blk _ (w.heap.size + 1 + 1) _ _) := Lib.hid (by have h := Blk.new ((w.alloc (.cells (rcC a) 29)).alloc (.cells (rcC b) 29)) 27 (rcD T) 0 0 (Or.inl (Nat.le_refl _)); rw [size_alloc, size_alloc] at h; exact h)
  have HB0 := Lib.hid ((((Below.refl _ w).alloc (Nat.le_refl _) (.cells (rcC a) 29)).alloc (by rw [size_alloc]; omega) (.cells (rcC b) 29)).alloc (by rw [size_alloc, size_alloc]; omega) (.cells (rcD T) 27))
  generalize rightB a = ra at RTa HOA
  generalize rightB b = rb at RTb HOB
  generalize greatB [a, b] = gb at GR
  clear hsa hsb hsT
  go_enter Try.func7, Try.ntmps7
  go_upto_region 1 with fail
  generalize World.alloc _ _ = w1 at HK0a HK0b HK0x HB0 ⊢
  generalize w.heap.size = pa at HK0a HK0b HK0x ⊢
  have hlda := HK0a.out.ldR
  have hldb := HK0b.out.ldR
  have HRS := Lib.hid (rs_two w1 a b)
  have HK1a := Lib.hid (HK0a.out.alloc (.cells (rcC a ++ rcC b) 29))
  have HK1b := Lib.hid (HK0b.out.alloc (.cells (rcC a ++ rcC b) 29))
  have HK1x := Lib.hid (HK0x.out.alloc (.cells (rcC a ++ rcC b) 29))
  have HB1 := Lib.hid (HB0.out.alloc HB0.out.size (.cells (rcC a ++ rcC b) 29))
  have tokA : True := trivial
  go_wp2_with (have _t := tokA; refine wpList_bsR2 rfl (.tmp 16) (.tmp 17) rfl a b rfl rfl ?_; clear tokA)
  refine (GR.out _ _ _ HRS.out).mono ?_
  rintro e w2 ⟨rfl, hw2⟩
  rw [hw2]
  clear hw2 HRS hlda hldb GR HK0a HK0b HK0x HB0
  generalize World.alloc _ _ = w3 at HK1a HK1b HK1x HB1 ⊢
  cases gb
  rotate_left
  · skip
    go_wp2_with fail
    refine (WK.out _).mono ?_
    rintro e w99 ⟨rfl, hb⟩
    go_wp2
    go_ret
    exact ⟨rfl, Below.step HB1.out hb⟩
  have hld_a := HK1a.out.ldR
  have hld_b := HK1b.out.ldR
  go_wp2_with fail
  refine (RTa.out _).mono ?_
  rintro e w11 ⟨rfl, hb⟩
  have HKa12 := Lib.hid (HK1a.out.step hb)
  have HKb12 := Lib.hid (HK1b.out.step hb)
  have HOx12 := Lib.hid (HK1x.out.step hb)
  have HB12 := Lib.hid (Below.step HB1.out hb)
  clear hb HK1a HK1b HK1x HB1
  (try clear hld_a)
  (try clear hld_b)
  have hld_a := HKa12.out.ldR
  have hld_b := HKb12.out.ldR
  cases ra
  · skip
    go_wp2_with fail
    refine (WK.out _).mono ?_
    rintro e w99 ⟨rfl, hb⟩
    go_wp2
    go_ret
    exact ⟨rfl, Below.step HB12.out hb⟩
  have HOKa := HOA.out rfl
  go_wp2_with fail
  refine (RTb.out _).mono ?_
  rintro e w13 ⟨rfl, hb⟩
  have HKa14 := Lib.hid (HKa12.out.step hb)
  have HKb14 := Lib.hid (HKb12.out.step hb)
  have HOx14 := Lib.hid (HOx12.out.step hb)
  have HB14 := Lib.hid (Below.step HB12.out hb)
  clear hb HKa12 HKb12 HOx12 HB12
  (try clear hld_a)
  (try clear hld_b)
  have hld_a := HKa14.out.ldR
  have hld_b := HKb14.out.ldR
  cases rb
  · skip
    go_wp2_with fail
    refine (WK.out _).mono ?_
    rintro e w99 ⟨rfl, hb⟩
    go_wp2
    go_ret
    exact ⟨rfl, Below.step HB14.out hb⟩
  have HOKb := HOB.out rfl
  (try clear hld_a)
  (try clear hld_b)
  clear HOA HOB RTa RTb
  go_wp2
  go_loopw [7] (fun i wr => ∃ k : Nat, k ≤ 4 ∧ i = .int .i64 k ∧ wr = w13) (fun i _ => 4 - (intOf i).toNat)
  case atStart => exact ⟨0, by omega, rfl, rfl⟩
  case round =>
    obtain ⟨k, hk, rfl, rfl⟩ := hrel
    by_cases hlt : k < 4
    · have hlt' : (k : Int) < 4 := by omega
      have hc := HOx14.out.cell k
      rw [rcD_get T k hlt] at hc
      have hsl : (dk T k).length ≤ 9223372036854775807 := HST.out k
      generalize dk T k = s at hc hsl
      by_cases hs : 200 < s.length
      · have hsi : (200 : Int) < s.length := by omega
        go_wp2_with fail
        refine (WK.out _).mono ?_
        rintro e w99 ⟨rfl, hb⟩
        go_wp2
        go_ret
        exact ⟨rfl, Below.step HB14.out hb⟩
      · have hsi : ¬ (200 : Int) < s.length := by omega
        go_wp2
        go_roundw
        case rel => exact ⟨k + 1, by omega, by go_num, by trivial⟩
        case measure => simp [intOf] <;> omega
    · have hke : k = 4 := by omega
      subst hke
      have hld_a := HKa14.out.ldR
      have hld_b := HKb14.out.ldR
      have SX1 := Lib.hid (fun w => by have h := SXa.out w; rw [six_ok1 HOKa] at h; exact h)
      have SY1 := Lib.hid (fun w => by have h := SXb.out w; rw [six_ok1 HOKb] at h; exact h)
      have hD := HST.out
      have HDS := Lib.hid (fun k => HST.out k)
      clear SXa SXb
      have la0 := le_max (secV_len mgH rfl 1 a)
      have la5 := le_max (secV_len mgC rfl 1 a)
      have la1 := max_64 (okS_le (HOKa.s 0 (by decide)))
      have la2 := max_64 (okS_le (HOKa.s 1 (by decide)))
      have la3 := max_64 (okS_le (HOKa.s 2 (by decide)))
      have la4 := max_64 (okS_le (HOKa.s 3 (by decide)))
      have lb5 := le_max (secV_len mgC rfl 1 b)
      have RDN := Lib.hid (read_torn a [secV mgH 1 a, a.d0, a.d1, a.d2, a.d3, z64] _ rfl (six_max la0 la1 la2 la3 la4 (le_max z64_len)) (torn_none HOKa a.d0 a.d1 a.d2 a.d3))
      have RDO := Lib.hid (fun h => read_torn a [secV mgH 1 a, a.d0, a.d1, a.d2, a.d3, secV mgC 1 b] _ rfl (six_max la0 la1 la2 la3 la4 lb5) (torn_other HOKa a.d0 a.d1 a.d2 a.d3 (secV mgC 1 b) (secV_len mgC rfl 1 b) h))
      have RDD := Lib.hid (read_torn a [secV mgH 1 a, T.d0, T.d1, T.d2, T.d3, secV mgC 1 a] _ rfl (six_max la0 (HST.out 0) (HST.out 1) (HST.out 2) (HST.out 3) la5) (torn_odd HOKa T.d0 T.d1 T.d2 T.d3))
      have HTK := Lib.hid (torn_dk a T)
      have HTS : Hid ((tornR a T.d0 T.d1 T.d2 T.d3).sq = a.sq ∧ (tornR a T.d0 T.d1 T.d2 T.d3).rw = a.rw) := Lib.hid ⟨rfl, rfl⟩
      clear la0 la1 la2 la3 la4 la5 lb5 hD HST HOKa HOKb
      generalize tornR a T.d0 T.d1 T.d2 T.d3 = t at RDD HTK HTS
      generalize secV mgH 1 a = x0 at RDN RDO RDD SX1
      generalize secV mgC 1 a = x5 at RDN RDO RDD SX1
      generalize secV mgH 1 b = y0 at SY1
      generalize secV mgC 1 b = y5 at RDO SY1
      generalize hN6 : [x0, a.d0, a.d1, a.d2, a.d3, z64] = N6 at RDN
      generalize hO6 : [x0, a.d0, a.d1, a.d2, a.d3, y5] = O6 at RDO
      generalize hD6 : [x0, T.d0, T.d1, T.d2, T.d3, x5] = D6 at RDD
      have HN6 := Lib.hid hN6
      have HO6 := Lib.hid hO6
      have HD6 := Lib.hid hD6
      clear hN6 hO6 hD6
      (try clear hld_a)
      (try clear hld_b)
      have hld_a := HKa14.out.ldR
      have hld_b := HKb14.out.ldR
      go_wp2_with fail
      refine (SX1.out _).mono ?_
      rintro e w15 ⟨v, rfl, hown, hb⟩
      (try clear hld_a)
      (try clear hld_b)
      have HKa16 := Lib.hid (HKa14.out.step hb)
      have HKb16 := Lib.hid (HKb14.out.step hb)
      have HOx16 := Lib.hid (HOx14.out.step hb)
      have HB16 := Lib.hid (Below.step HB14.out hb)
      obtain ⟨Ap, cp, rfl, hq1, hst, hcp, hq3, hq4⟩ := own_strs hown
      obtain ⟨bp, op, rfl⟩ := st_some hst rfl
      have HSp := Lib.hid hst
      clear hb hst hown hq1 hq3 hq4 HKa14 HKb14 HOx14 HB14
      have hld_a := HKa16.out.ldR
      have hld_b := HKb16.out.ldR
      (try clear hld_a)
      (try clear hld_b)
      have hld_a := HKa16.out.ldR
      have hld_b := HKb16.out.ldR
      go_wp2_with fail
      refine (SY1.out _).mono ?_
      rintro e w17 ⟨v, rfl, hown, hb⟩
      (try clear hld_a)
      (try clear hld_b)
      have HKa18 := Lib.hid (HKa16.out.step hb)
      have HKb18 := Lib.hid (HKb16.out.step hb)
      have HOx18 := Lib.hid (HOx16.out.step hb)
      have HOsp18 := Lib.hid (HSp.out.up hb)
      have HB18 := Lib.hid (Below.step HB16.out hb)
      obtain ⟨Aq, cq, rfl, hq1, hst, hcq, hq3, hq4⟩ := own_strs hown
      obtain ⟨bq, oq, rfl⟩ := st_some hst rfl
      have HSq := Lib.hid hst
      clear hb hst hown hq1 hq3 hq4 HKa16 HKb16 HOx16 HSp HB16
      have hcp5 : (5 : Int) ≤ cp := by have h : 6 ≤ cp := hcp; omega
      have hcp5' : 5 ≤ cp := by have h : 6 ≤ cp := hcp; omega
      clear hcp hcq
      go_upto_region 10 with fail
      have HN0 := Lib.hid (own_new w17 w17.heap.size #[] [] rfl 0 rfl (Nat.zero_le _) (Nat.le_refl _))
      have HX0 := Lib.hid (StrsAt.pre (L1 := [x0, a.d0, a.d1, a.d2, a.d3]) (L2 := [x5]) (HOsp18.out.up ((Below.refl _ w17).alloc (Nat.le_refl _) (.cells #[] 9))))
      have HZ0 : Hid (w17.heap.size ≤ (w17.alloc (.cells #[] 9)).heap.size) := Lib.hid (by rw [size_alloc]; exact Nat.le_succ _)
      have HB0 := Lib.hid ((Below.refl _ w17).alloc (Nat.le_refl _) (.cells #[] 9))
      have tokB : True := trivial
      go_wp2_with (have _t := tokB; clear tokB; at_builtin; go_loud (refine wpList_app rfl (.tmp 45) (.tmp 47) rfl w17.heap.size _ 0 [] rfl HN0.out (some ⟨bp, op, none⟩) 5 cp [x0, a.d0, a.d1, a.d2, a.d3] rfl rfl HX0.out (fun h => by cases h) (by decide) HZ0.out ?_; intro v1 v1w hown hg; have HO1 := Lib.hid hown; have HB1 := Lib.hid (HB0.out.grown hg HZ0.out (fun q hq => (HN0.out.lt q hq).1)); clear hown hg HN0 HX0 HZ0 HB0))
      refine (FU.out _).mono ?_
      rintro e v2w ⟨rfl, hb⟩
      have HO2 := Lib.hid (HO1.out.kept (grown_of_below hb) (by cases Value.ownBlock _ <;> simp))
      have HB2 := Lib.hid (Below.step HB1.out hb)
      have HO3 := Lib.hid (HO2.out.alloc (.cells #[sv z64] 9))
      have HX3 := Lib.hid (strs_new v2w 9 #[sv z64] [z64] rfl)
      have HB3 := Lib.hid (HB2.out.alloc HB2.out.size (.cells #[sv z64] 9))
      have HZ3 := Lib.hid HB3.out.size
      clear hb HO1 HB1 HO2 HB2
      have tokB : True := trivial
      go_upto_region 11 with (have _t := tokB; clear tokB; at_builtin; go_loud (refine wpList_app rfl (.tmp 48) (.tmp 50) rfl w17.heap.size _ 5 [x0, a.d0, a.d1, a.d2, a.d3] rfl HO3.out (some ⟨v2w.heap.size, 0, none⟩) 1 1 [z64] rfl rfl HX3.out (fun h => by cases h) (by decide) HZ3.out ?_; intro v4 v4w hown hg; have HO4 := Lib.hid hown; have HB4 := Lib.hid (HB3.out.grown hg HZ3.out (fun q hq => (HO3.out.lt q hq).1)); clear hown hg HO3 HX3 HB3 HZ3))
      have HO5 : Hid (v4w.ownsRow w17.heap.size 9 1 v4 6 (N6.map encStr)) := Lib.hid (by rw [← HN6.out]; exact HO4.out)
      clear HO4
      have hb := HB4.out
      have HKa19 := Lib.hid (HKa18.out.step hb)
      have HKb19 := Lib.hid (HKb18.out.step hb)
      have HOx19 := Lib.hid (HOx18.out.step hb)
      have HOsp19 := Lib.hid (HOsp18.out.up hb)
      have HOsq19 := Lib.hid (HSq.out.up hb)
      have HB19 := Lib.hid (Below.step HB18.out hb)
      obtain ⟨An, cn, rfl, hq1, hst, hq2, hq3, hq4⟩ := own_strs HO5.out
      have HSn := Lib.hid hst
      have hln : N6.length = 6 := by rw [← HN6.out]; rfl
      try rw [hln]
      clear hb hst hln hq1 hq2 hq3 hq4 HO5 HB4 HKa18 HKb18 HOx18 HOsp18 HSq HB18
      obtain ⟨i0, hi, hz0, hz1, hz2⟩ := info_parts str_info
      have HCE : Hid (Below v4w.heap.size v4w v4w) := Lib.hid (Below.refl _ _)
      
      go_cut [11] from 52 to 60 (fun v wx => (∃ n, wx.ownsRow v4w.heap.size 9 1 v n (O6.map encStr)) ∧ Below v4w.heap.size v4w wx)
      case first =>
        refine wp_region_noPanic ?_
        refine wp_region_held_drew (S := (fun w' => w'.cell? ⟨bq, oq + 5, none⟩ = some (sv y5))) (by kernel_rfl) (by first | exact (StrsAt.cell (L := [y0, b.d0, b.d1, b.d2, b.d3, y5]) HOsq19.out.drew1 5 (Nat.lt_succ_self 5))) (fun hHeld => ?_)
        refine wpAnyH_take (i := 1) (oi := _) (v := ?vr1n1_1) rfl (by kernel_rfl) (by kernel_rfl) (by kernel_rfl) (fun _ _ _ h => h) (Or.inl ⟨by kernel_rfl, ?hr1n1_1⟩) hHeld ?_
        case hr1n1_1 => (intro w hSw; (try dsimp only at hSw); go_simp; try (with_reducible rfl))
        try simp only [List.getElem_toArray, List.getElem_cons_zero, List.getElem_cons_succ, Act.put, List.setIfInBounds_toArray, List.set_cons_zero, List.set_cons_succ]
        refine wpAnyH_take (i := 2) (oi := _) (v := ?vr1n2_2) rfl (by kernel_rfl) (by kernel_rfl) (by kernel_rfl) (fun _ _ _ h => h) (Or.inl ⟨by kernel_rfl, ?hr1n2_2⟩) hHeld ?_
        case hr1n2_2 => (intro w hSw; (try dsimp only at hSw); go_simp; try (with_reducible rfl))
        try simp only [List.getElem_toArray, List.getElem_cons_zero, List.getElem_cons_succ, Act.put, List.setIfInBounds_toArray, List.set_cons_zero, List.set_cons_succ]
        refine wpAnyH_take (i := 4) (oi := _) (v := ?vr1n4_3) rfl (by kernel_rfl) (by kernel_rfl) (by kernel_rfl) (fun _ _ _ h => h) (Or.inl ⟨by kernel_rfl, ?hr1n4_3⟩) hHeld ?_
        case hr1n4_3 => (intro w hSw; (try dsimp only at hSw); go_simp; try (with_reducible rfl))
        try simp only [List.getElem_toArray, List.getElem_cons_zero, List.getElem_cons_succ, Act.put, List.setIfInBounds_toArray, List.set_cons_zero, List.set_cons_succ]
        refine wpAnyH_take (i := 5) (oi := _) (v := ?vr1n5_4) rfl (by kernel_rfl) (by kernel_rfl) (by kernel_rfl) (fun _ _ _ h => h) (Or.inl ⟨by kernel_rfl, ?hr1n5_4⟩) hHeld ?_
        case hr1n5_4 => (intro w hSw; (try dsimp only at hSw); go_simp; try (with_reducible rfl))
        try simp only [List.getElem_toArray, List.getElem_cons_zero, List.getElem_cons_succ, Act.put, List.setIfInBounds_toArray, List.set_cons_zero, List.set_cons_succ]
        refine wpAnyH_take (i := 6) (oi := _) (v := ?vr1n6_5) rfl (by kernel_rfl) (by kernel_rfl) (by kernel_rfl) (fun _ _ _ h => h) (Or.inl ⟨by kernel_rfl, ?hr1n6_5⟩) hHeld ?_
        case hr1n6_5 => (intro w hSw; (try dsimp only at hSw); go_simp; try (with_reducible rfl))
        try simp only [List.getElem_toArray, List.getElem_cons_zero, List.getElem_cons_succ, Act.put, List.setIfInBounds_toArray, List.set_cons_zero, List.set_cons_succ]
        refine wpAnyH_ready (rs := [0, 7]) (by kernel_rfl) (by simp) ?_
        refine AllReadyH.cons (o := _) rfl (fun K hK => ?_) ?_
        · skip
          go_simp
          (skip; have HKm1 := Lib.hid ((Blk.new v4w 9 #[] 0 0 (Or.inl (Nat.le_refl _))).drew); have HC1 := Lib.hid ((HCE.out.alloc HCE.out.size (.cells #[] 9)).drew); generalize World.drew (World.alloc _ _) = yw1 at HKm1 HC1 ⊢)
          refine hK.out _ _ ?_ (fun hHeld1 => ?_)
          · (first | exact (StrsAt.cell (L := [y0, b.d0, b.d1, b.d2, b.d3, y5]) (HOsq19.out.below HC1.out) 5 (Nat.lt_succ_self 5)))
          clear hHeld hK K
          try simp only [List.getElem_toArray, List.getElem_cons_zero, List.getElem_cons_succ, Act.put, List.setIfInBounds_toArray, List.set_cons_zero, List.set_cons_succ]
          refine wpAnyH_ready (rs := [3, 7]) (by kernel_rfl) (by simp) ?_
          refine AllReadyH.cons (o := _) rfl (fun K hK => ?_) ?_
          · skip
            (refine step_append_grows rfl (.tmp 52) (.tmp 54) 41 rfl 9 i0 (.string ⟨#[]⟩) 1 16 Try.underlying41 hi hz0 hz1 hz2 rfl (by decide) (some ⟨v4w.heap.size, 0, none⟩) 0 0 ([] : List Value) rfl (fun h => by cases h) rfl (fun b hb j u hj => by cases hj) ⟨bp, op, none⟩ 5 cp ([x0, a.d0, a.d1, a.d2, a.d3].map encStr) rfl rfl (st_cells (StrsAt.pre (L1 := [x0, a.d0, a.d1, a.d2, a.d3]) (L2 := [x5]) ((HOsp19.out.below HC1.out).mono HC1.out.size))) (enc_one _) (by decide) (by decide) (by decide) ?_; intro v2 yw2 hown hg; have HKm2 := Lib.hid (HKm1.out.grownM hg (fun q hq => by cases hq)); have HC2 := Lib.hid (grown_step HC1.out hg); have HW2 := Lib.hid (own_weak hown HC1.out.size); clear hown hg; (try go_simp))
            refine hK.out _ _ ?_ (fun hHeld2 => ?_)
            · (first | exact (StrsAt.cell (L := [y0, b.d0, b.d1, b.d2, b.d3, y5]) (HOsq19.out.below HC2.out) 5 (Nat.lt_succ_self 5)))
            clear hHeld1 hK K
            try simp only [List.getElem_toArray, List.getElem_cons_zero, List.getElem_cons_succ, Act.put, List.setIfInBounds_toArray, List.set_cons_zero, List.set_cons_succ]
            refine wpAnyH_ready (rs := [7]) (by kernel_rfl) (by simp) ?_
            refine AllReadyH.cons (o := _) rfl (fun K hK => ?_) AllReadyH.nil
            go_simp
            (skip; have HKm3 := Lib.hid (HKm2.out.alloc (.cells #[sv y5] 9)); have HKo3 := Lib.hid (Blk.new yw2 9 #[sv y5] 0 0 (Or.inl (Nat.le_refl _))); have HW3 := Lib.hid (HW2.out.alloc (.cells #[sv y5] 9)); have HC3 := Lib.hid (HC2.out.alloc HC2.out.size (.cells #[sv y5] 9)); generalize World.alloc _ _ = yw3 at HKm3 HKo3 HW3 HC3 ⊢)
            refine hK.out _ _ ?_ (fun hHeld3 => ?_)
            · (first | exact (StrsAt.cell (L := [y0, b.d0, b.d1, b.d2, b.d3, y5]) (HOsq19.out.below HC3.out) 5 (Nat.lt_succ_self 5)))
            clear hHeld2 hK K
            try simp only [List.getElem_toArray, List.getElem_cons_zero, List.getElem_cons_succ, Act.put, List.setIfInBounds_toArray, List.set_cons_zero, List.set_cons_succ]
            refine wpAnyH_ready (rs := [8]) (by kernel_rfl) (by simp) ?_
            refine AllReadyH.cons (o := _) rfl (fun K hK => ?_) AllReadyH.nil
            (refine step_append_lies _ rfl (.tmp 55) (.tmp 59) 41 rfl v4w.heap.size 9 i0 (.string ⟨#[]⟩) 1 16 Try.underlying41 hi hz0 hz1 hz2 rfl (by decide) v2 5 ([x0, a.d0, a.d1, a.d2, a.d3].map encStr) rfl HW3.out ⟨yw2.heap.size, 0, none⟩ 1 1 ([y5].map encStr) rfl rfl (blk_cells HKo3.out rfl) (enc_one _) (by decide) (by decide) (by decide) HC3.out.size _ rfl ?_; intro gl cl yw4 hown hg _ hgl; have HC4 := Lib.hid (HC3.out.grown hg HC3.out.size (fun q hq => (HW3.out.lt q hq).1)); have HW4 := Lib.hid hown; clear hown hg; (try go_simp))
            refine hK.out _ _ ?_ (fun hHeld4 => ?_)
            · (first | exact (StrsAt.cell (L := [y0, b.d0, b.d1, b.d2, b.d3, y5]) (HOsq19.out.below HC4.out) 5 (Nat.lt_succ_self 5)))
            clear hHeld3 hK K
            try simp only [List.getElem_toArray, List.getElem_cons_zero, List.getElem_cons_succ, Act.put, List.setIfInBounds_toArray, List.set_cons_zero, List.set_cons_succ]
            refine wpAnyH_take (i := 9) (oi := _) (v := ?vr1n9_6) rfl (by kernel_rfl) (by kernel_rfl) (by kernel_rfl) (fun _ _ _ h => h) (Or.inl ⟨by kernel_rfl, ?hr1n9_6⟩) hHeld4 ?_
            case hr1n9_6 => (intro w hSw; (try dsimp only at hSw); go_simp; try (with_reducible rfl))
            try simp only [List.getElem_toArray, List.getElem_cons_zero, List.getElem_cons_succ, Act.put, List.setIfInBounds_toArray, List.set_cons_zero, List.set_cons_succ]
            refine wpAnyH_done (by kernel_rfl) ?_ _
            refine NoPanic.normal ?_
            go_wp2_with fail
            go_meet
            exact ⟨⟨_, by rw [← HO6.out]; exact HW4.out⟩, HC4.out⟩
          refine AllReadyH.cons (o := _) rfl (fun K hK => ?_) AllReadyH.nil
          go_simp
          (skip; have HKm5 := Lib.hid (HKm1.out.alloc (.cells #[sv y5] 9)); have HKo5 := Lib.hid (Blk.new yw1 9 #[sv y5] 0 0 (Or.inl (Nat.le_refl _))); have HC5 := Lib.hid (HC1.out.alloc HC1.out.size (.cells #[sv y5] 9)); generalize World.alloc _ _ = yw5 at HKm5 HKo5 HC5 ⊢)
          refine hK.out _ _ ?_ (fun hHeld5 => ?_)
          · (first | exact (StrsAt.cell (L := [y0, b.d0, b.d1, b.d2, b.d3, y5]) (HOsq19.out.below HC5.out) 5 (Nat.lt_succ_self 5)))
          clear hHeld1 hK K
          try simp only [List.getElem_toArray, List.getElem_cons_zero, List.getElem_cons_succ, Act.put, List.setIfInBounds_toArray, List.set_cons_zero, List.set_cons_succ]
          refine wpAnyH_ready (rs := [3]) (by kernel_rfl) (by simp) ?_
          refine AllReadyH.cons (o := _) rfl (fun K hK => ?_) AllReadyH.nil
          (refine step_append_grows rfl (.tmp 52) (.tmp 54) 41 rfl 9 i0 (.string ⟨#[]⟩) 1 16 Try.underlying41 hi hz0 hz1 hz2 rfl (by decide) (some ⟨v4w.heap.size, 0, none⟩) 0 0 ([] : List Value) rfl (fun h => by cases h) rfl (fun b hb j u hj => by cases hj) ⟨bp, op, none⟩ 5 cp ([x0, a.d0, a.d1, a.d2, a.d3].map encStr) rfl rfl (st_cells (StrsAt.pre (L1 := [x0, a.d0, a.d1, a.d2, a.d3]) (L2 := [x5]) ((HOsp19.out.below HC5.out).mono HC5.out.size))) (enc_one _) (by decide) (by decide) (by decide) ?_; intro v6 yw6 hown hg; have HKm6 := Lib.hid (HKm5.out.grownM hg (fun q hq => by cases hq)); have HKo6 := Lib.hid (HKo5.out.grownM hg (fun q hq => by cases hq)); have HC6 := Lib.hid (grown_step HC5.out hg); have HW6 := Lib.hid (own_weak hown HC5.out.size); clear hown hg; (try go_simp))
          refine hK.out _ _ ?_ (fun hHeld6 => ?_)
          · (first | exact (StrsAt.cell (L := [y0, b.d0, b.d1, b.d2, b.d3, y5]) (HOsq19.out.below HC6.out) 5 (Nat.lt_succ_self 5)))
          clear hHeld5 hK K
          try simp only [List.getElem_toArray, List.getElem_cons_zero, List.getElem_cons_succ, Act.put, List.setIfInBounds_toArray, List.set_cons_zero, List.set_cons_succ]
          refine wpAnyH_ready (rs := [8]) (by kernel_rfl) (by simp) ?_
          refine AllReadyH.cons (o := _) rfl (fun K hK => ?_) AllReadyH.nil
          (refine step_append_lies _ rfl (.tmp 55) (.tmp 59) 41 rfl v4w.heap.size 9 i0 (.string ⟨#[]⟩) 1 16 Try.underlying41 hi hz0 hz1 hz2 rfl (by decide) v6 5 ([x0, a.d0, a.d1, a.d2, a.d3].map encStr) rfl HW6.out ⟨yw1.heap.size, 0, none⟩ 1 1 ([y5].map encStr) rfl rfl (blk_cells HKo6.out rfl) (enc_one _) (by decide) (by decide) (by decide) HC6.out.size _ rfl ?_; intro gl cl yw7 hown hg _ hgl; have HC7 := Lib.hid (HC6.out.grown hg HC6.out.size (fun q hq => (HW6.out.lt q hq).1)); have HW7 := Lib.hid hown; clear hown hg; (try go_simp))
          refine hK.out _ _ ?_ (fun hHeld7 => ?_)
          · (first | exact (StrsAt.cell (L := [y0, b.d0, b.d1, b.d2, b.d3, y5]) (HOsq19.out.below HC7.out) 5 (Nat.lt_succ_self 5)))
          clear hHeld6 hK K
          try simp only [List.getElem_toArray, List.getElem_cons_zero, List.getElem_cons_succ, Act.put, List.setIfInBounds_toArray, List.set_cons_zero, List.set_cons_succ]
          refine wpAnyH_take (i := 9) (oi := _) (v := ?vr1n9_7) rfl (by kernel_rfl) (by kernel_rfl) (by kernel_rfl) (fun _ _ _ h => h) (Or.inl ⟨by kernel_rfl, ?hr1n9_7⟩) hHeld7 ?_
          case hr1n9_7 => (intro w hSw; (try dsimp only at hSw); go_simp; try (with_reducible rfl))
          try simp only [List.getElem_toArray, List.getElem_cons_zero, List.getElem_cons_succ, Act.put, List.setIfInBounds_toArray, List.set_cons_zero, List.set_cons_succ]
          refine wpAnyH_done (by kernel_rfl) ?_ _
          refine NoPanic.normal ?_
          go_wp2_with fail
          go_meet
          exact ⟨⟨_, by rw [← HO6.out]; exact HW7.out⟩, HC7.out⟩
        refine AllReadyH.cons (o := _) rfl (fun K hK => ?_) AllReadyH.nil
        go_simp
        (skip; have HKo8 := Lib.hid ((Blk.new v4w 9 #[sv y5] 0 0 (Or.inl (Nat.le_refl _))).drew); have HC8 := Lib.hid ((HCE.out.alloc HCE.out.size (.cells #[sv y5] 9)).drew); generalize World.drew (World.alloc _ _) = yw8 at HKo8 HC8 ⊢)
        refine hK.out _ _ ?_ (fun hHeld8 => ?_)
        · (first | exact (StrsAt.cell (L := [y0, b.d0, b.d1, b.d2, b.d3, y5]) (HOsq19.out.below HC8.out) 5 (Nat.lt_succ_self 5)))
        clear hHeld hK K
        try simp only [List.getElem_toArray, List.getElem_cons_zero, List.getElem_cons_succ, Act.put, List.setIfInBounds_toArray, List.set_cons_zero, List.set_cons_succ]
        refine wpAnyH_ready (rs := [0]) (by kernel_rfl) (by simp) ?_
        refine AllReadyH.cons (o := _) rfl (fun K hK => ?_) AllReadyH.nil
        go_simp
        (skip; have HKo9 := Lib.hid (HKo8.out.alloc (.cells #[] 9)); have HKm9 := Lib.hid (Blk.new yw8 9 #[] 0 0 (Or.inl (Nat.le_refl _))); have HC9 := Lib.hid (HC8.out.alloc HC8.out.size (.cells #[] 9)); generalize World.alloc _ _ = yw9 at HKo9 HKm9 HC9 ⊢)
        refine hK.out _ _ ?_ (fun hHeld9 => ?_)
        · (first | exact (StrsAt.cell (L := [y0, b.d0, b.d1, b.d2, b.d3, y5]) (HOsq19.out.below HC9.out) 5 (Nat.lt_succ_self 5)))
        clear hHeld8 hK K
        try simp only [List.getElem_toArray, List.getElem_cons_zero, List.getElem_cons_succ, Act.put, List.setIfInBounds_toArray, List.set_cons_zero, List.set_cons_succ]
        refine wpAnyH_ready (rs := [3]) (by kernel_rfl) (by simp) ?_
        refine AllReadyH.cons (o := _) rfl (fun K hK => ?_) AllReadyH.nil
        (refine step_append_grows rfl (.tmp 52) (.tmp 54) 41 rfl 9 i0 (.string ⟨#[]⟩) 1 16 Try.underlying41 hi hz0 hz1 hz2 rfl (by decide) (some ⟨yw8.heap.size, 0, none⟩) 0 0 ([] : List Value) rfl (fun h => by cases h) rfl (fun b hb j u hj => by cases hj) ⟨bp, op, none⟩ 5 cp ([x0, a.d0, a.d1, a.d2, a.d3].map encStr) rfl rfl (st_cells (StrsAt.pre (L1 := [x0, a.d0, a.d1, a.d2, a.d3]) (L2 := [x5]) ((HOsp19.out.below HC9.out).mono HC9.out.size))) (enc_one _) (by decide) (by decide) (by decide) ?_; intro v10 yw10 hown hg; have HKo10 := Lib.hid (HKo9.out.grownM hg (fun q hq => by cases hq)); have HKm10 := Lib.hid (HKm9.out.grownM hg (fun q hq => by cases hq)); have HC10 := Lib.hid (grown_step HC9.out hg); have HW10 := Lib.hid (own_weak hown HC9.out.size); clear hown hg; (try go_simp))
        refine hK.out _ _ ?_ (fun hHeld10 => ?_)
        · (first | exact (StrsAt.cell (L := [y0, b.d0, b.d1, b.d2, b.d3, y5]) (HOsq19.out.below HC10.out) 5 (Nat.lt_succ_self 5)))
        clear hHeld9 hK K
        try simp only [List.getElem_toArray, List.getElem_cons_zero, List.getElem_cons_succ, Act.put, List.setIfInBounds_toArray, List.set_cons_zero, List.set_cons_succ]
        refine wpAnyH_ready (rs := [8]) (by kernel_rfl) (by simp) ?_
        refine AllReadyH.cons (o := _) rfl (fun K hK => ?_) AllReadyH.nil
        (refine step_append_lies _ rfl (.tmp 55) (.tmp 59) 41 rfl v4w.heap.size 9 i0 (.string ⟨#[]⟩) 1 16 Try.underlying41 hi hz0 hz1 hz2 rfl (by decide) v10 5 ([x0, a.d0, a.d1, a.d2, a.d3].map encStr) rfl HW10.out ⟨v4w.heap.size, 0, none⟩ 1 1 ([y5].map encStr) rfl rfl (blk_cells HKo10.out rfl) (enc_one _) (by decide) (by decide) (by decide) HC10.out.size _ rfl ?_; intro gl cl yw11 hown hg _ hgl; have HC11 := Lib.hid (HC10.out.grown hg HC10.out.size (fun q hq => (HW10.out.lt q hq).1)); have HW11 := Lib.hid hown; clear hown hg; (try go_simp))
        refine hK.out _ _ ?_ (fun hHeld11 => ?_)
        · (first | exact (StrsAt.cell (L := [y0, b.d0, b.d1, b.d2, b.d3, y5]) (HOsq19.out.below HC11.out) 5 (Nat.lt_succ_self 5)))
        clear hHeld10 hK K
        try simp only [List.getElem_toArray, List.getElem_cons_zero, List.getElem_cons_succ, Act.put, List.setIfInBounds_toArray, List.set_cons_zero, List.set_cons_succ]
        refine wpAnyH_take (i := 9) (oi := _) (v := ?vr1n9_8) rfl (by kernel_rfl) (by kernel_rfl) (by kernel_rfl) (fun _ _ _ h => h) (Or.inl ⟨by kernel_rfl, ?hr1n9_8⟩) hHeld11 ?_
        case hr1n9_8 => (intro w hSw; (try dsimp only at hSw); go_simp; try (with_reducible rfl))
        try simp only [List.getElem_toArray, List.getElem_cons_zero, List.getElem_cons_succ, Act.put, List.setIfInBounds_toArray, List.set_cons_zero, List.set_cons_succ]
        refine wpAnyH_done (by kernel_rfl) ?_ _
        refine NoPanic.normal ?_
        go_wp2_with fail
        go_meet
        exact ⟨⟨_, by rw [← HO6.out]; exact HW11.out⟩, HC11.out⟩
      case rest =>
        obtain ⟨⟨n, hown⟩, hbel⟩ := hcut
        have HOW := Lib.hid hown
        have HBW := Lib.hid hbel
        clear hown hbel HCE hi hz0 hz1 hz2
        have hb := HBW.out
        have HKa20 := Lib.hid (HKa19.out.step hb)
        have HKb20 := Lib.hid (HKb19.out.step hb)
        have HOx20 := Lib.hid (HOx19.out.step hb)
        have HOsp20 := Lib.hid (HOsp19.out.up hb)
        have HOsq20 := Lib.hid (HOsq19.out.up hb)
        have HOsn20 := Lib.hid (HSn.out.up hb)
        have HB20 := Lib.hid (Below.step HB19.out hb)
        obtain ⟨Ao, co, rfl, hq1, hst, hq2, hq3, hq4⟩ := own_strs HOW.out
        have HSo := Lib.hid hst
        have hln : O6.length = 6 := by rw [← HO6.out]; rfl
        try rw [hln]
        clear hb hst hln hq1 hq2 hq3 hq4 HOW HBW HKa19 HKb19 HOx19 HOsp19 HOsq19 HSn HB19
        have hep : wc.cell? ⟨pa, 0, none⟩ = some (.int .i64 a.ep) := HKa20.out.cell 0
        go_wp2_with fail
        refine (RDN.out _ _ _ HOsn20.out).mono ?_
        rintro e w21 ⟨v, rfl, hrec, hb⟩
        clear hep
        have HKa22 := Lib.hid (HKa20.out.step hb)
        have HKb22 := Lib.hid (HKb20.out.step hb)
        have HOx22 := Lib.hid (HOx20.out.step hb)
        have HOsp22 := Lib.hid (HOsp20.out.up hb)
        have HOsq22 := Lib.hid (HOsq20.out.up hb)
        have HOsn22 := Lib.hid (HOsn20.out.up hb)
        have HOso22 := Lib.hid (HSo.out.up hb)
        have HB22 := Lib.hid (Below.step HB20.out hb)
        obtain ⟨A_n, c_n, rfl⟩ := rec_nil hrec
        clear hb hrec HKa20 HKb20 HOx20 HOsp20 HOsq20 HOsn20 HSo HB20
        go_upto_region 14 with fail
        go_cut [81] from 67 to 80 (fun v wx => v = .bool false ∧ Below w21.heap.size w21 wx)
        case first =>
          by_cases hxy : x5 = y5
          · subst hxy
            refine wp_region_noPanic ?_
            refine wp_region_held_drew (S := (fun w' => w'.cell? ⟨bp, op + 5, none⟩ = some (sv x5) ∧ w'.cell? ⟨bq, oq + 5, none⟩ = some (sv x5) ∧ w'.cell? ⟨pa, 0, none⟩ = some (.int .i64 a.ep))) (by kernel_rfl) (by first | exact ⟨StrsAt.cell (L := [x0, a.d0, a.d1, a.d2, a.d3, x5]) (HOsp22.out.drew1) 5 (Nat.lt_succ_self 5), StrsAt.cell (L := [y0, b.d0, b.d1, b.d2, b.d3, x5]) (HOsq22.out.drew1) 5 (Nat.lt_succ_self 5), (Blk.drew HKa22.out).cell 0⟩) (fun hHeld => ?_)
            refine wpAnyH_take (i := 0) (oi := _) (v := ?vr2n0_9) rfl (by kernel_rfl) (by kernel_rfl) (by kernel_rfl) (fun _ _ _ h => h) (Or.inl ⟨by kernel_rfl, ?hr2n0_9⟩) hHeld ?_
            case hr2n0_9 => (intro w hSw; (try dsimp only at hSw); go_simp; try (with_reducible rfl))
            try simp only [List.getElem_toArray, List.getElem_cons_zero, List.getElem_cons_succ, Act.put, List.setIfInBounds_toArray, List.set_cons_zero, List.set_cons_succ]
            refine wpAnyH_take (i := 1) (oi := _) (v := ?vr2n1_10) rfl (by kernel_rfl) (by kernel_rfl) (by kernel_rfl) (fun _ _ _ h => h) (Or.inl ⟨by kernel_rfl, ?hr2n1_10⟩) hHeld ?_
            case hr2n1_10 => (intro w hSw; (try dsimp only at hSw); go_simp; try (with_reducible rfl))
            try simp only [List.getElem_toArray, List.getElem_cons_zero, List.getElem_cons_succ, Act.put, List.setIfInBounds_toArray, List.set_cons_zero, List.set_cons_succ]
            refine wpAnyH_take (i := 2) (oi := _) (v := ?vr2n2_11) rfl (by kernel_rfl) (by kernel_rfl) (by kernel_rfl) (fun _ _ _ h => h) (Or.inl ⟨by kernel_rfl, ?hr2n2_11⟩) hHeld ?_
            case hr2n2_11 => (intro w hSw; (try dsimp only at hSw); go_simp; try (with_reducible rfl))
            try simp only [List.getElem_toArray, List.getElem_cons_zero, List.getElem_cons_succ, Act.put, List.setIfInBounds_toArray, List.set_cons_zero, List.set_cons_succ]
            refine wpAnyH_take (i := 3) (oi := _) (v := ?vr2n3_12) rfl (by kernel_rfl) (by kernel_rfl) (by kernel_rfl) (fun _ _ _ h => h) (Or.inl ⟨by kernel_rfl, ?hr2n3_12⟩) hHeld ?_
            case hr2n3_12 => (intro w hSw; (try dsimp only at hSw); go_simp; try (with_reducible rfl))
            try simp only [List.getElem_toArray, List.getElem_cons_zero, List.getElem_cons_succ, Act.put, List.setIfInBounds_toArray, List.set_cons_zero, List.set_cons_succ]
            refine wpAnyH_take (i := 4) (oi := _) (v := ?vr2n4_13) rfl (by kernel_rfl) (by kernel_rfl) (by kernel_rfl) (fun _ _ _ h => h) (Or.inl ⟨by kernel_rfl, ?hr2n4_13⟩) hHeld ?_
            case hr2n4_13 => (intro w hSw; (try dsimp only at hSw); go_simp; try (with_reducible rfl))
            try simp only [List.getElem_toArray, List.getElem_cons_zero, List.getElem_cons_succ, Act.put, List.setIfInBounds_toArray, List.set_cons_zero, List.set_cons_succ]
            refine wpAnyH_take (i := 5) (oi := _) (v := ?vr2n5_14) rfl (by kernel_rfl) (by kernel_rfl) (by kernel_rfl) (fun _ _ _ h => h) (Or.inl ⟨by kernel_rfl, ?hr2n5_14⟩) hHeld ?_
            case hr2n5_14 => (intro w hSw; (try dsimp only at hSw); go_simp; try (with_reducible rfl))
            try simp only [List.getElem_toArray, List.getElem_cons_zero, List.getElem_cons_succ, Act.put, List.setIfInBounds_toArray, List.set_cons_zero, List.set_cons_succ]
            refine wpAnyH_take (i := 6) (oi := _) (v := ?vr2n6_15) rfl (by kernel_rfl) (by kernel_rfl) (by kernel_rfl) (fun _ _ _ h => h) (Or.inl ⟨by kernel_rfl, ?hr2n6_15⟩) hHeld ?_
            case hr2n6_15 => (intro w hSw; (try dsimp only at hSw); go_simp; try (with_reducible rfl))
            try simp only [List.getElem_toArray, List.getElem_cons_zero, List.getElem_cons_succ, Act.put, List.setIfInBounds_toArray, List.set_cons_zero, List.set_cons_succ]
            refine wpAnyH_take (i := 7) (oi := _) (v := ?vr2n7_16) rfl (by kernel_rfl) (by kernel_rfl) (by kernel_rfl) (fun _ _ _ h => h) (Or.inl ⟨by kernel_rfl, ?hr2n7_16⟩) hHeld ?_
            case hr2n7_16 => (intro w hSw; (try dsimp only at hSw); go_simp; try (with_reducible rfl))
            try simp only [List.getElem_toArray, List.getElem_cons_zero, List.getElem_cons_succ, Act.put, List.setIfInBounds_toArray, List.set_cons_zero, List.set_cons_succ]
            refine wpAnyH_take (i := 8) (oi := _) (v := undef) rfl (by kernel_rfl) (by kernel_rfl) (by kernel_rfl) (fun _ _ _ h => h) (Or.inr ⟨by kernel_rfl, rfl⟩) hHeld ?_
            try simp only [List.getElem_toArray, List.getElem_cons_zero, List.getElem_cons_succ, Act.put, List.setIfInBounds_toArray, List.set_cons_zero, List.set_cons_succ]
            refine wpAnyH_take (i := 9) (oi := _) (v := undef) rfl (by kernel_rfl) (by kernel_rfl) (by kernel_rfl) (fun _ _ _ h => h) (Or.inr ⟨by kernel_rfl, rfl⟩) hHeld ?_
            try simp only [List.getElem_toArray, List.getElem_cons_zero, List.getElem_cons_succ, Act.put, List.setIfInBounds_toArray, List.set_cons_zero, List.set_cons_succ]
            refine wpAnyH_take (i := 10) (oi := _) (v := undef) rfl (by kernel_rfl) (by kernel_rfl) (by kernel_rfl) (fun _ _ _ h => h) (Or.inr ⟨by kernel_rfl, rfl⟩) hHeld ?_
            try simp only [List.getElem_toArray, List.getElem_cons_zero, List.getElem_cons_succ, Act.put, List.setIfInBounds_toArray, List.set_cons_zero, List.set_cons_succ]
            refine wpAnyH_take (i := 11) (oi := _) (v := undef) rfl (by kernel_rfl) (by kernel_rfl) (by kernel_rfl) (fun _ _ _ h => h) (Or.inr ⟨by kernel_rfl, rfl⟩) hHeld ?_
            try simp only [List.getElem_toArray, List.getElem_cons_zero, List.getElem_cons_succ, Act.put, List.setIfInBounds_toArray, List.set_cons_zero, List.set_cons_succ]
            refine wpAnyH_take (i := 12) (oi := _) (v := undef) rfl (by kernel_rfl) (by kernel_rfl) (by kernel_rfl) (fun _ _ _ h => h) (Or.inr ⟨by kernel_rfl, rfl⟩) hHeld ?_
            try simp only [List.getElem_toArray, List.getElem_cons_zero, List.getElem_cons_succ, Act.put, List.setIfInBounds_toArray, List.set_cons_zero, List.set_cons_succ]
            refine wpAnyH_take (i := 13) (oi := _) (v := undef) rfl (by kernel_rfl) (by kernel_rfl) (by kernel_rfl) (fun _ _ _ h => h) (Or.inr ⟨by kernel_rfl, rfl⟩) hHeld ?_
            try simp only [List.getElem_toArray, List.getElem_cons_zero, List.getElem_cons_succ, Act.put, List.setIfInBounds_toArray, List.set_cons_zero, List.set_cons_succ]
            refine wpAnyH_take (i := 14) (oi := _) (v := ?vr2n14_17) rfl (by kernel_rfl) (by kernel_rfl) (by kernel_rfl) (fun _ _ _ h => h) (Or.inl ⟨by kernel_rfl, ?hr2n14_17⟩) hHeld ?_
            case hr2n14_17 => (intro w hSw; (try dsimp only at hSw); go_simp; try (with_reducible rfl))
            try simp only [List.getElem_toArray, List.getElem_cons_zero, List.getElem_cons_succ, Act.put, List.setIfInBounds_toArray, List.set_cons_zero, List.set_cons_succ]
            refine wpAnyH_done (by kernel_rfl) ?_ _
            refine NoPanic.normal ?_
            go_wp2_with fail
            go_meet
            exact ⟨rfl, Below.drewN (Below.refl _ w21) _⟩
          · have hxy2 : (x5 == y5) = false := beq_eq_false_iff_ne.2 hxy
            have RDO2 := Lib.hid (RDO.out hxy)
            refine wp_region_noPanic ?_
            refine wp_region_held_drew (S := (fun w' => w'.cell? ⟨bp, op + 5, none⟩ = some (sv x5) ∧ w'.cell? ⟨bq, oq + 5, none⟩ = some (sv y5) ∧ w'.cell? ⟨pa, 0, none⟩ = some (.int .i64 a.ep))) (by kernel_rfl) (by first | exact ⟨StrsAt.cell (L := [x0, a.d0, a.d1, a.d2, a.d3, x5]) (HOsp22.out.drew1) 5 (Nat.lt_succ_self 5), StrsAt.cell (L := [y0, b.d0, b.d1, b.d2, b.d3, y5]) (HOsq22.out.drew1) 5 (Nat.lt_succ_self 5), (Blk.drew HKa22.out).cell 0⟩) (fun hHeld => ?_)
            refine wpAnyH_take (i := 0) (oi := _) (v := ?vr3n0_18) rfl (by kernel_rfl) (by kernel_rfl) (by kernel_rfl) (fun _ _ _ h => h) (Or.inl ⟨by kernel_rfl, ?hr3n0_18⟩) hHeld ?_
            case hr3n0_18 => (intro w hSw; (try dsimp only at hSw); go_simp; try (with_reducible rfl))
            try simp only [List.getElem_toArray, List.getElem_cons_zero, List.getElem_cons_succ, Act.put, List.setIfInBounds_toArray, List.set_cons_zero, List.set_cons_succ]
            refine wpAnyH_take (i := 1) (oi := _) (v := ?vr3n1_19) rfl (by kernel_rfl) (by kernel_rfl) (by kernel_rfl) (fun _ _ _ h => h) (Or.inl ⟨by kernel_rfl, ?hr3n1_19⟩) hHeld ?_
            case hr3n1_19 => (intro w hSw; (try dsimp only at hSw); go_simp; try (with_reducible rfl))
            try simp only [List.getElem_toArray, List.getElem_cons_zero, List.getElem_cons_succ, Act.put, List.setIfInBounds_toArray, List.set_cons_zero, List.set_cons_succ]
            refine wpAnyH_take (i := 2) (oi := _) (v := ?vr3n2_20) rfl (by kernel_rfl) (by kernel_rfl) (by kernel_rfl) (fun _ _ _ h => h) (Or.inl ⟨by kernel_rfl, ?hr3n2_20⟩) hHeld ?_
            case hr3n2_20 => (intro w hSw; (try dsimp only at hSw); go_simp; try (with_reducible rfl))
            try simp only [List.getElem_toArray, List.getElem_cons_zero, List.getElem_cons_succ, Act.put, List.setIfInBounds_toArray, List.set_cons_zero, List.set_cons_succ]
            refine wpAnyH_take (i := 3) (oi := _) (v := ?vr3n3_21) rfl (by kernel_rfl) (by kernel_rfl) (by kernel_rfl) (fun _ _ _ h => h) (Or.inl ⟨by kernel_rfl, ?hr3n3_21⟩) hHeld ?_
            case hr3n3_21 => (intro w hSw; (try dsimp only at hSw); go_simp; try (with_reducible rfl))
            try simp only [List.getElem_toArray, List.getElem_cons_zero, List.getElem_cons_succ, Act.put, List.setIfInBounds_toArray, List.set_cons_zero, List.set_cons_succ]
            refine wpAnyH_take (i := 4) (oi := _) (v := ?vr3n4_22) rfl (by kernel_rfl) (by kernel_rfl) (by kernel_rfl) (fun _ _ _ h => h) (Or.inl ⟨by kernel_rfl, ?hr3n4_22⟩) hHeld ?_
            case hr3n4_22 => (intro w hSw; (try dsimp only at hSw); go_simp; try (with_reducible rfl))
            try simp only [List.getElem_toArray, List.getElem_cons_zero, List.getElem_cons_succ, Act.put, List.setIfInBounds_toArray, List.set_cons_zero, List.set_cons_succ]
            refine wpAnyH_take (i := 5) (oi := _) (v := ?vr3n5_23) rfl (by kernel_rfl) (by kernel_rfl) (by kernel_rfl) (fun _ _ _ h => h) (Or.inl ⟨by kernel_rfl, ?hr3n5_23⟩) hHeld ?_
            case hr3n5_23 => (intro w hSw; (try dsimp only at hSw); go_simp; try (with_reducible rfl))
            try simp only [List.getElem_toArray, List.getElem_cons_zero, List.getElem_cons_succ, Act.put, List.setIfInBounds_toArray, List.set_cons_zero, List.set_cons_succ]
            refine wpAnyH_take (i := 6) (oi := _) (v := ?vr3n6_24) rfl (by kernel_rfl) (by kernel_rfl) (by kernel_rfl) (fun _ _ _ h => h) (Or.inl ⟨by kernel_rfl, ?hr3n6_24⟩) hHeld ?_
            case hr3n6_24 => (intro w hSw; (try dsimp only at hSw); go_simp; try (with_reducible rfl))
            try simp only [List.getElem_toArray, List.getElem_cons_zero, List.getElem_cons_succ, Act.put, List.setIfInBounds_toArray, List.set_cons_zero, List.set_cons_succ]
            refine wpAnyH_take (i := 7) (oi := _) (v := ?vr3n7_25) rfl (by kernel_rfl) (by kernel_rfl) (by kernel_rfl) (fun _ _ _ h => h) (Or.inl ⟨by kernel_rfl, ?hr3n7_25⟩) hHeld ?_
            case hr3n7_25 => (intro w hSw; (try dsimp only at hSw); go_simp; try (with_reducible rfl))
            try simp only [List.getElem_toArray, List.getElem_cons_zero, List.getElem_cons_succ, Act.put, List.setIfInBounds_toArray, List.set_cons_zero, List.set_cons_succ]
            refine wpAnyH_take (i := 8) (oi := _) (v := ?vr3n8_26) rfl (by kernel_rfl) (by kernel_rfl) (by kernel_rfl) (fun _ _ _ h => h) (Or.inl ⟨by kernel_rfl, ?hr3n8_26⟩) hHeld ?_
            case hr3n8_26 => (intro w hSw; (try dsimp only at hSw); go_simp; try (with_reducible rfl))
            try simp only [List.getElem_toArray, List.getElem_cons_zero, List.getElem_cons_succ, Act.put, List.setIfInBounds_toArray, List.set_cons_zero, List.set_cons_succ]
            refine wpAnyH_take (i := 9) (oi := _) (v := ?vr3n9_27) rfl (by kernel_rfl) (by kernel_rfl) (by kernel_rfl) (fun _ _ _ h => h) (Or.inl ⟨by kernel_rfl, ?hr3n9_27⟩) hHeld ?_
            case hr3n9_27 => (intro w hSw; (try dsimp only at hSw); go_simp; try (with_reducible rfl))
            try simp only [List.getElem_toArray, List.getElem_cons_zero, List.getElem_cons_succ, Act.put, List.setIfInBounds_toArray, List.set_cons_zero, List.set_cons_succ]
            refine wpAnyH_take (i := 10) (oi := _) (v := ?vr3n10_28) rfl (by kernel_rfl) (by kernel_rfl) (by kernel_rfl) (fun _ _ _ h => h) (Or.inl ⟨by kernel_rfl, ?hr3n10_28⟩) hHeld ?_
            case hr3n10_28 => (intro w hSw; (try dsimp only at hSw); go_simp; try (with_reducible rfl))
            try simp only [List.getElem_toArray, List.getElem_cons_zero, List.getElem_cons_succ, Act.put, List.setIfInBounds_toArray, List.set_cons_zero, List.set_cons_succ]
            refine wpAnyH_ready (rs := [11]) (by kernel_rfl) (by simp) ?_
            refine AllReadyH.cons (o := _) rfl (fun K hK => ?_) AllReadyH.nil
            go_simp
            (go_at_call 22; refine (RDO2.out _ _ _ (StrsAt.drew1 HOso22.out)).mono ?_; rintro e z1 ⟨v, rfl, hrec, hb⟩; have hb := (Below.drewN (Below.refl _ w21) 1).trans hb; obtain ⟨Az, cz, rfl⟩ := rec_nil hrec; have HX9 := Lib.hid (HOsp22.out.up hb); have HY9 := Lib.hid (HOsq22.out.up hb); have HK9 := Lib.hid (HKa22.out.step hb); have HB9 := Lib.hid hb; clear hb hrec)
            refine hK.out _ _ ?_ (fun hHeld1 => ?_)
            · (first | exact ⟨StrsAt.cell (L := [x0, a.d0, a.d1, a.d2, a.d3, x5]) (HX9.out) 5 (Nat.lt_succ_self 5), StrsAt.cell (L := [y0, b.d0, b.d1, b.d2, b.d3, y5]) (HY9.out) 5 (Nat.lt_succ_self 5), (HK9.out).cell 0⟩)
            clear hHeld hK K
            try simp only [List.getElem_toArray, List.getElem_cons_zero, List.getElem_cons_succ, Act.put, List.setIfInBounds_toArray, List.set_cons_zero, List.set_cons_succ]
            refine wpAnyH_take (i := 12) (oi := _) (v := ?vr3n12_29) rfl (by kernel_rfl) (by kernel_rfl) (by kernel_rfl) (fun _ _ _ h => h) (Or.inl ⟨by kernel_rfl, ?hr3n12_29⟩) hHeld1 ?_
            case hr3n12_29 => (intro w hSw; (try dsimp only at hSw); go_simp; try (with_reducible rfl))
            try simp only [List.getElem_toArray, List.getElem_cons_zero, List.getElem_cons_succ, Act.put, List.setIfInBounds_toArray, List.set_cons_zero, List.set_cons_succ]
            refine wpAnyH_take (i := 13) (oi := _) (v := ?vr3n13_30) rfl (by kernel_rfl) (by kernel_rfl) (by kernel_rfl) (fun _ _ _ h => h) (Or.inl ⟨by kernel_rfl, ?hr3n13_30⟩) hHeld1 ?_
            case hr3n13_30 => (intro w hSw; (try dsimp only at hSw); go_simp; try (with_reducible rfl))
            try simp only [List.getElem_toArray, List.getElem_cons_zero, List.getElem_cons_succ, Act.put, List.setIfInBounds_toArray, List.set_cons_zero, List.set_cons_succ]
            refine wpAnyH_take (i := 14) (oi := _) (v := ?vr3n14_31) rfl (by kernel_rfl) (by kernel_rfl) (by kernel_rfl) (fun _ _ _ h => h) (Or.inl ⟨by kernel_rfl, ?hr3n14_31⟩) hHeld1 ?_
            case hr3n14_31 => (intro w hSw; (try dsimp only at hSw); go_simp; try (with_reducible rfl))
            try simp only [List.getElem_toArray, List.getElem_cons_zero, List.getElem_cons_succ, Act.put, List.setIfInBounds_toArray, List.set_cons_zero, List.set_cons_succ]
            refine wpAnyH_done (by kernel_rfl) ?_ _
            refine NoPanic.normal ?_
            go_wp2_with fail
            go_meet
            exact ⟨rfl, HB9.out⟩
        case rest =>
          obtain ⟨rfl, hb⟩ := hcut
          have HKa23 := Lib.hid (HKa22.out.step hb)
          have HKb23 := Lib.hid (HKb22.out.step hb)
          have HOx23 := Lib.hid (HOx22.out.step hb)
          have HOsp23 := Lib.hid (HOsp22.out.up hb)
          have HOsq23 := Lib.hid (HOsq22.out.up hb)
          have HOsn23 := Lib.hid (HOsn22.out.up hb)
          have HOso23 := Lib.hid (HOso22.out.up hb)
          have HB23 := Lib.hid (Below.step HB22.out hb)
          clear hb RDN RDO HKa22 HKb22 HOx22 HOsp22 HOsq22 HOsn22 HOso22 HB22
          go_upto_region 16 with fail
          obtain ⟨wF, rfl⟩ : ∃ wo : World, wo = wc := ⟨_, rfl⟩
          obtain ⟨i0, hi, hz0, hz1, hz2⟩ := info_parts str_info
          have HCE : Hid (Below wF.heap.size wF wF) := Lib.hid (Below.refl _ _)
          go_cut [12] from 82 to 94 (fun v wx => (∃ n, wx.ownsRow wF.heap.size 9 1 v n (D6.map encStr)) ∧ Below wF.heap.size wF wx)
          case first =>
            refine wp_region_noPanic ?_
            refine wp_region_held_drew (S := (fun w' => w'.cell? ⟨bp, op, none⟩ = some (sv x0) ∧ w'.cell? ⟨bp, op + 5, none⟩ = some (sv x5))) (by kernel_rfl) (by first | exact ⟨StrsAt.cell (L := [x0, a.d0, a.d1, a.d2, a.d3, x5]) (HOsp23.out.drew1) 0 (Nat.zero_lt_succ 5), StrsAt.cell (L := [x0, a.d0, a.d1, a.d2, a.d3, x5]) (HOsp23.out.drew1) 5 (Nat.lt_succ_self 5)⟩) (fun hHeld => ?_)
            refine wpAnyH_take (i := 0) (oi := _) (v := ?vr4n0_32) rfl (by kernel_rfl) (by kernel_rfl) (by kernel_rfl) (fun _ _ _ h => h) (Or.inl ⟨by kernel_rfl, ?hr4n0_32⟩) hHeld ?_
            case hr4n0_32 => (intro w hSw; (try dsimp only at hSw); go_simp; try (with_reducible rfl))
            try simp only [List.getElem_toArray, List.getElem_cons_zero, List.getElem_cons_succ, Act.put, List.setIfInBounds_toArray, List.set_cons_zero, List.set_cons_succ]
            refine wpAnyH_take (i := 1) (oi := _) (v := ?vr4n1_33) rfl (by kernel_rfl) (by kernel_rfl) (by kernel_rfl) (fun _ _ _ h => h) (Or.inl ⟨by kernel_rfl, ?hr4n1_33⟩) hHeld ?_
            case hr4n1_33 => (intro w hSw; (try dsimp only at hSw); go_simp; try (with_reducible rfl))
            try simp only [List.getElem_toArray, List.getElem_cons_zero, List.getElem_cons_succ, Act.put, List.setIfInBounds_toArray, List.set_cons_zero, List.set_cons_succ]
            refine wpAnyH_take (i := 2) (oi := _) (v := ?vr4n2_34) rfl (by kernel_rfl) (by kernel_rfl) (by kernel_rfl) (fun _ _ _ h => h) (Or.inl ⟨by kernel_rfl, ?hr4n2_34⟩) hHeld ?_
            case hr4n2_34 => (intro w hSw; (try dsimp only at hSw); go_simp; try (with_reducible rfl))
            try simp only [List.getElem_toArray, List.getElem_cons_zero, List.getElem_cons_succ, Act.put, List.setIfInBounds_toArray, List.set_cons_zero, List.set_cons_succ]
            refine wpAnyH_take (i := 5) (oi := _) (v := ?vr4n5_35) rfl (by kernel_rfl) (by kernel_rfl) (by kernel_rfl) (fun _ _ _ h => h) (Or.inl ⟨by kernel_rfl, ?hr4n5_35⟩) hHeld ?_
            case hr4n5_35 => (intro w hSw; (try dsimp only at hSw); go_simp; try (with_reducible rfl))
            try simp only [List.getElem_toArray, List.getElem_cons_zero, List.getElem_cons_succ, Act.put, List.setIfInBounds_toArray, List.set_cons_zero, List.set_cons_succ]
            refine wpAnyH_take (i := 7) (oi := _) (v := ?vr4n7_36) rfl (by kernel_rfl) (by kernel_rfl) (by kernel_rfl) (fun _ _ _ h => h) (Or.inl ⟨by kernel_rfl, ?hr4n7_36⟩) hHeld ?_
            case hr4n7_36 => (intro w hSw; (try dsimp only at hSw); go_simp; try (with_reducible rfl))
            try simp only [List.getElem_toArray, List.getElem_cons_zero, List.getElem_cons_succ, Act.put, List.setIfInBounds_toArray, List.set_cons_zero, List.set_cons_succ]
            refine wpAnyH_take (i := 8) (oi := _) (v := ?vr4n8_37) rfl (by kernel_rfl) (by kernel_rfl) (by kernel_rfl) (fun _ _ _ h => h) (Or.inl ⟨by kernel_rfl, ?hr4n8_37⟩) hHeld ?_
            case hr4n8_37 => (intro w hSw; (try dsimp only at hSw); go_simp; try (with_reducible rfl))
            try simp only [List.getElem_toArray, List.getElem_cons_zero, List.getElem_cons_succ, Act.put, List.setIfInBounds_toArray, List.set_cons_zero, List.set_cons_succ]
            refine wpAnyH_take (i := 9) (oi := _) (v := ?vr4n9_38) rfl (by kernel_rfl) (by kernel_rfl) (by kernel_rfl) (fun _ _ _ h => h) (Or.inl ⟨by kernel_rfl, ?hr4n9_38⟩) hHeld ?_
            case hr4n9_38 => (intro w hSw; (try dsimp only at hSw); go_simp; try (with_reducible rfl))
            try simp only [List.getElem_toArray, List.getElem_cons_zero, List.getElem_cons_succ, Act.put, List.setIfInBounds_toArray, List.set_cons_zero, List.set_cons_succ]
            refine wpAnyH_ready (rs := [3, 4, 10]) (by kernel_rfl) (by simp) ?_
            refine AllReadyH.cons (o := _) rfl (fun K hK => ?_) ?_
            · skip
              go_simp
              (skip; have HKz12 := Lib.hid ((Blk.new wF 9 #[sv x0] 0 0 (Or.inl (Nat.le_refl _))).drew); have HC12 := Lib.hid ((HCE.out.alloc HCE.out.size (.cells #[sv x0] 9)).drew); generalize World.drew (World.alloc _ _) = yw12 at HKz12 HC12 ⊢)
              refine hK.out _ _ ?_ (fun hHeld1 => ?_)
              · (first | exact ⟨StrsAt.cell (L := [x0, a.d0, a.d1, a.d2, a.d3, x5]) (HOsp23.out.below HC12.out) 0 (Nat.zero_lt_succ 5), StrsAt.cell (L := [x0, a.d0, a.d1, a.d2, a.d3, x5]) (HOsp23.out.below HC12.out) 5 (Nat.lt_succ_self 5)⟩)
              clear hHeld hK K
              try simp only [List.getElem_toArray, List.getElem_cons_zero, List.getElem_cons_succ, Act.put, List.setIfInBounds_toArray, List.set_cons_zero, List.set_cons_succ]
              refine wpAnyH_ready (rs := [4, 10]) (by kernel_rfl) (by simp) ?_
              refine AllReadyH.cons (o := _) rfl (fun K hK => ?_) ?_
              · skip
                go_simp
                (skip; have HKz13 := Lib.hid (HKz12.out.alloc (.cells #[] 9)); have HKm13 := Lib.hid (Blk.new yw12 9 #[] 0 0 (Or.inl (Nat.le_refl _))); have HC13 := Lib.hid (HC12.out.alloc HC12.out.size (.cells #[] 9)); generalize World.alloc _ _ = yw13 at HKz13 HKm13 HC13 ⊢)
                refine hK.out _ _ ?_ (fun hHeld2 => ?_)
                · (first | exact ⟨StrsAt.cell (L := [x0, a.d0, a.d1, a.d2, a.d3, x5]) (HOsp23.out.below HC13.out) 0 (Nat.zero_lt_succ 5), StrsAt.cell (L := [x0, a.d0, a.d1, a.d2, a.d3, x5]) (HOsp23.out.below HC13.out) 5 (Nat.lt_succ_self 5)⟩)
                clear hHeld1 hK K
                try simp only [List.getElem_toArray, List.getElem_cons_zero, List.getElem_cons_succ, Act.put, List.setIfInBounds_toArray, List.set_cons_zero, List.set_cons_succ]
                refine wpAnyH_ready (rs := [6, 10]) (by kernel_rfl) (by simp) ?_
                refine AllReadyH.cons (o := _) rfl (fun K hK => ?_) ?_
                · skip
                  (refine step_append_grows rfl (.tmp 86) (.tmp 87) 41 rfl 9 i0 (.string ⟨#[]⟩) 1 16 Try.underlying41 hi hz0 hz1 hz2 rfl (by decide) (some ⟨yw12.heap.size, 0, none⟩) 0 0 ([] : List Value) rfl (fun h => by cases h) rfl (fun b hb j u hj => by cases hj) ⟨pa + 1 + 1, 0, none⟩ 4 4 ([T.d0, T.d1, T.d2, T.d3].map encStr) rfl rfl (blk_cells (HOx23.out.step HC13.out) rfl) (enc_one _) (by decide) (by decide) (by decide) ?_; intro v14 yw14 hown hg; have HKz14 := Lib.hid (HKz13.out.grownM hg (fun q hq => by cases hq)); have HKm14 := Lib.hid (HKm13.out.grownM hg (fun q hq => by cases hq)); have HC14 := Lib.hid (grown_step HC13.out hg); have HW14 := Lib.hid (own_weak hown HC13.out.size); have HNE14 := Lib.hid (fun q hq => Nat.ne_of_gt (Nat.lt_of_lt_of_le HKz13.out.lt (hown.lt q hq).1)); clear hown hg; (try go_simp))
                  refine hK.out _ _ ?_ (fun hHeld3 => ?_)
                  · (first | exact ⟨StrsAt.cell (L := [x0, a.d0, a.d1, a.d2, a.d3, x5]) (HOsp23.out.below HC14.out) 0 (Nat.zero_lt_succ 5), StrsAt.cell (L := [x0, a.d0, a.d1, a.d2, a.d3, x5]) (HOsp23.out.below HC14.out) 5 (Nat.lt_succ_self 5)⟩)
                  clear hHeld2 hK K
                  try simp only [List.getElem_toArray, List.getElem_cons_zero, List.getElem_cons_succ, Act.put, List.setIfInBounds_toArray, List.set_cons_zero, List.set_cons_succ]
                  refine wpAnyH_ready (rs := [10]) (by kernel_rfl) (by simp) ?_
                  refine AllReadyH.cons (o := _) rfl (fun K hK => ?_) AllReadyH.nil
                  go_simp
                  (skip; have HKz15 := Lib.hid (HKz14.out.alloc (.cells #[sv x5] 9)); have HKm15 := Lib.hid (HKm14.out.alloc (.cells #[sv x5] 9)); have HKo15 := Lib.hid (Blk.new yw14 9 #[sv x5] 0 0 (Or.inl (Nat.le_refl _))); have HW15 := Lib.hid (HW14.out.alloc (.cells #[sv x5] 9)); have HC15 := Lib.hid (HC14.out.alloc HC14.out.size (.cells #[sv x5] 9)); generalize World.alloc _ _ = yw15 at HKz15 HKm15 HKo15 HW15 HC15 ⊢)
                  refine hK.out _ _ ?_ (fun hHeld4 => ?_)
                  · (first | exact ⟨StrsAt.cell (L := [x0, a.d0, a.d1, a.d2, a.d3, x5]) (HOsp23.out.below HC15.out) 0 (Nat.zero_lt_succ 5), StrsAt.cell (L := [x0, a.d0, a.d1, a.d2, a.d3, x5]) (HOsp23.out.below HC15.out) 5 (Nat.lt_succ_self 5)⟩)
                  clear hHeld3 hK K
                  try simp only [List.getElem_toArray, List.getElem_cons_zero, List.getElem_cons_succ, Act.put, List.setIfInBounds_toArray, List.set_cons_zero, List.set_cons_succ]
                  refine wpAnyH_ready (rs := [11]) (by kernel_rfl) (by simp) ?_
                  refine AllReadyH.cons (o := _) rfl (fun K hK => ?_) AllReadyH.nil
                  (refine step_append_lies _ rfl (.tmp 88) (.tmp 92) 41 rfl wF.heap.size 9 i0 (.string ⟨#[]⟩) 1 16 Try.underlying41 hi hz0 hz1 hz2 rfl (by decide) v14 4 ([T.d0, T.d1, T.d2, T.d3].map encStr) rfl HW15.out ⟨yw14.heap.size, 0, none⟩ 1 1 ([x5].map encStr) rfl rfl (blk_cells HKo15.out rfl) (enc_one _) (by decide) (by decide) (by decide) HC15.out.size _ rfl ?_; intro gl cl yw16 hown hg _ hgl; have HKz16 := Lib.hid (HKz15.out.grownNe hg HNE14.out); have HC16 := Lib.hid (HC15.out.grown hg HC15.out.size (fun q hq => (HW15.out.lt q hq).1)); have HW16 := Lib.hid hown; clear hown hg; (try go_simp))
                  refine hK.out _ _ ?_ (fun hHeld5 => ?_)
                  · (first | exact ⟨StrsAt.cell (L := [x0, a.d0, a.d1, a.d2, a.d3, x5]) (HOsp23.out.below HC16.out) 0 (Nat.zero_lt_succ 5), StrsAt.cell (L := [x0, a.d0, a.d1, a.d2, a.d3, x5]) (HOsp23.out.below HC16.out) 5 (Nat.lt_succ_self 5)⟩)
                  clear hHeld4 hK K
                  try simp only [List.getElem_toArray, List.getElem_cons_zero, List.getElem_cons_succ, Act.put, List.setIfInBounds_toArray, List.set_cons_zero, List.set_cons_succ]
                  refine wpAnyH_ready (rs := [12]) (by kernel_rfl) (by simp) ?_
                  refine AllReadyH.cons (o := _) rfl (fun K hK => ?_) AllReadyH.nil
                  (refine step_append_grows rfl (.tmp 85) (.tmp 93) 41 rfl 9 i0 (.string ⟨#[]⟩) 1 16 Try.underlying41 hi hz0 hz1 hz2 rfl (by decide) (some ⟨wF.heap.size, 0, none⟩) 1 1 ([x0].map encStr) rfl (fun h => by cases h) rfl (fun b hb j u hj => by obtain rfl := Option.some.inj hb; exact blk_cells HKz16.out rfl j u hj) ⟨gl, 0, none⟩ 5 cl ([T.d0, T.d1, T.d2, T.d3, x5].map encStr) rfl rfl (own_cells (by first | rw [List.map_append] | skip; exact HW16.out)) (enc_one _) (by decide) (by decide) (by decide) ?_; intro v17 yw17 hown hg; have HC17 := Lib.hid (grown_step HC16.out hg); have HW17 := Lib.hid (own_weak hown HC16.out.size); clear hown hg; (try go_simp))
                  refine hK.out _ _ ?_ (fun hHeld6 => ?_)
                  · (first | exact ⟨StrsAt.cell (L := [x0, a.d0, a.d1, a.d2, a.d3, x5]) (HOsp23.out.below HC17.out) 0 (Nat.zero_lt_succ 5), StrsAt.cell (L := [x0, a.d0, a.d1, a.d2, a.d3, x5]) (HOsp23.out.below HC17.out) 5 (Nat.lt_succ_self 5)⟩)
                  clear hHeld5 hK K
                  try simp only [List.getElem_toArray, List.getElem_cons_zero, List.getElem_cons_succ, Act.put, List.setIfInBounds_toArray, List.set_cons_zero, List.set_cons_succ]
                  refine wpAnyH_take (i := 13) (oi := _) (v := ?vr4n13_39) rfl (by kernel_rfl) (by kernel_rfl) (by kernel_rfl) (fun _ _ _ h => h) (Or.inl ⟨by kernel_rfl, ?hr4n13_39⟩) hHeld6 ?_
                  case hr4n13_39 => (intro w hSw; (try dsimp only at hSw); go_simp; try (with_reducible rfl))
                  try simp only [List.getElem_toArray, List.getElem_cons_zero, List.getElem_cons_succ, Act.put, List.setIfInBounds_toArray, List.set_cons_zero, List.set_cons_succ]
                  refine wpAnyH_done (by kernel_rfl) ?_ _
                  refine NoPanic.normal ?_
                  go_wp2_with fail
                  go_meet
                  exact ⟨⟨_, by rw [← HD6.out]; exact HW17.out⟩, HC17.out⟩
                refine AllReadyH.cons (o := _) rfl (fun K hK => ?_) AllReadyH.nil
                go_simp
                (skip; have HKz18 := Lib.hid (HKz13.out.alloc (.cells #[sv x5] 9)); have HKm18 := Lib.hid (HKm13.out.alloc (.cells #[sv x5] 9)); have HKo18 := Lib.hid (Blk.new yw13 9 #[sv x5] 0 0 (Or.inl (Nat.le_refl _))); have HC18 := Lib.hid (HC13.out.alloc HC13.out.size (.cells #[sv x5] 9)); generalize World.alloc _ _ = yw18 at HKz18 HKm18 HKo18 HC18 ⊢)
                refine hK.out _ _ ?_ (fun hHeld7 => ?_)
                · (first | exact ⟨StrsAt.cell (L := [x0, a.d0, a.d1, a.d2, a.d3, x5]) (HOsp23.out.below HC18.out) 0 (Nat.zero_lt_succ 5), StrsAt.cell (L := [x0, a.d0, a.d1, a.d2, a.d3, x5]) (HOsp23.out.below HC18.out) 5 (Nat.lt_succ_self 5)⟩)
                clear hHeld2 hK K
                try simp only [List.getElem_toArray, List.getElem_cons_zero, List.getElem_cons_succ, Act.put, List.setIfInBounds_toArray, List.set_cons_zero, List.set_cons_succ]
                refine wpAnyH_ready (rs := [6]) (by kernel_rfl) (by simp) ?_
                refine AllReadyH.cons (o := _) rfl (fun K hK => ?_) AllReadyH.nil
                (refine step_append_grows rfl (.tmp 86) (.tmp 87) 41 rfl 9 i0 (.string ⟨#[]⟩) 1 16 Try.underlying41 hi hz0 hz1 hz2 rfl (by decide) (some ⟨yw12.heap.size, 0, none⟩) 0 0 ([] : List Value) rfl (fun h => by cases h) rfl (fun b hb j u hj => by cases hj) ⟨pa + 1 + 1, 0, none⟩ 4 4 ([T.d0, T.d1, T.d2, T.d3].map encStr) rfl rfl (blk_cells (HOx23.out.step HC18.out) rfl) (enc_one _) (by decide) (by decide) (by decide) ?_; intro v19 yw19 hown hg; have HKz19 := Lib.hid (HKz18.out.grownM hg (fun q hq => by cases hq)); have HKm19 := Lib.hid (HKm18.out.grownM hg (fun q hq => by cases hq)); have HKo19 := Lib.hid (HKo18.out.grownM hg (fun q hq => by cases hq)); have HC19 := Lib.hid (grown_step HC18.out hg); have HW19 := Lib.hid (own_weak hown HC18.out.size); have HNE19 := Lib.hid (fun q hq => Nat.ne_of_gt (Nat.lt_of_lt_of_le HKz18.out.lt (hown.lt q hq).1)); clear hown hg; (try go_simp))
                refine hK.out _ _ ?_ (fun hHeld8 => ?_)
                · (first | exact ⟨StrsAt.cell (L := [x0, a.d0, a.d1, a.d2, a.d3, x5]) (HOsp23.out.below HC19.out) 0 (Nat.zero_lt_succ 5), StrsAt.cell (L := [x0, a.d0, a.d1, a.d2, a.d3, x5]) (HOsp23.out.below HC19.out) 5 (Nat.lt_succ_self 5)⟩)
                clear hHeld7 hK K
                try simp only [List.getElem_toArray, List.getElem_cons_zero, List.getElem_cons_succ, Act.put, List.setIfInBounds_toArray, List.set_cons_zero, List.set_cons_succ]
                refine wpAnyH_ready (rs := [11]) (by kernel_rfl) (by simp) ?_
                refine AllReadyH.cons (o := _) rfl (fun K hK => ?_) AllReadyH.nil
                (refine step_append_lies _ rfl (.tmp 88) (.tmp 92) 41 rfl wF.heap.size 9 i0 (.string ⟨#[]⟩) 1 16 Try.underlying41 hi hz0 hz1 hz2 rfl (by decide) v19 4 ([T.d0, T.d1, T.d2, T.d3].map encStr) rfl HW19.out ⟨yw13.heap.size, 0, none⟩ 1 1 ([x5].map encStr) rfl rfl (blk_cells HKo19.out rfl) (enc_one _) (by decide) (by decide) (by decide) HC19.out.size _ rfl ?_; intro gl cl yw20 hown hg _ hgl; have HKz20 := Lib.hid (HKz19.out.grownNe hg HNE19.out); have HC20 := Lib.hid (HC19.out.grown hg HC19.out.size (fun q hq => (HW19.out.lt q hq).1)); have HW20 := Lib.hid hown; clear hown hg; (try go_simp))
                refine hK.out _ _ ?_ (fun hHeld9 => ?_)
                · (first | exact ⟨StrsAt.cell (L := [x0, a.d0, a.d1, a.d2, a.d3, x5]) (HOsp23.out.below HC20.out) 0 (Nat.zero_lt_succ 5), StrsAt.cell (L := [x0, a.d0, a.d1, a.d2, a.d3, x5]) (HOsp23.out.below HC20.out) 5 (Nat.lt_succ_self 5)⟩)
                clear hHeld8 hK K
                try simp only [List.getElem_toArray, List.getElem_cons_zero, List.getElem_cons_succ, Act.put, List.setIfInBounds_toArray, List.set_cons_zero, List.set_cons_succ]
                refine wpAnyH_ready (rs := [12]) (by kernel_rfl) (by simp) ?_
                refine AllReadyH.cons (o := _) rfl (fun K hK => ?_) AllReadyH.nil
                (refine step_append_grows rfl (.tmp 85) (.tmp 93) 41 rfl 9 i0 (.string ⟨#[]⟩) 1 16 Try.underlying41 hi hz0 hz1 hz2 rfl (by decide) (some ⟨wF.heap.size, 0, none⟩) 1 1 ([x0].map encStr) rfl (fun h => by cases h) rfl (fun b hb j u hj => by obtain rfl := Option.some.inj hb; exact blk_cells HKz20.out rfl j u hj) ⟨gl, 0, none⟩ 5 cl ([T.d0, T.d1, T.d2, T.d3, x5].map encStr) rfl rfl (own_cells (by first | rw [List.map_append] | skip; exact HW20.out)) (enc_one _) (by decide) (by decide) (by decide) ?_; intro v21 yw21 hown hg; have HC21 := Lib.hid (grown_step HC20.out hg); have HW21 := Lib.hid (own_weak hown HC20.out.size); clear hown hg; (try go_simp))
                refine hK.out _ _ ?_ (fun hHeld10 => ?_)
                · (first | exact ⟨StrsAt.cell (L := [x0, a.d0, a.d1, a.d2, a.d3, x5]) (HOsp23.out.below HC21.out) 0 (Nat.zero_lt_succ 5), StrsAt.cell (L := [x0, a.d0, a.d1, a.d2, a.d3, x5]) (HOsp23.out.below HC21.out) 5 (Nat.lt_succ_self 5)⟩)
                clear hHeld9 hK K
                try simp only [List.getElem_toArray, List.getElem_cons_zero, List.getElem_cons_succ, Act.put, List.setIfInBounds_toArray, List.set_cons_zero, List.set_cons_succ]
                refine wpAnyH_take (i := 13) (oi := _) (v := ?vr4n13_40) rfl (by kernel_rfl) (by kernel_rfl) (by kernel_rfl) (fun _ _ _ h => h) (Or.inl ⟨by kernel_rfl, ?hr4n13_40⟩) hHeld10 ?_
                case hr4n13_40 => (intro w hSw; (try dsimp only at hSw); go_simp; try (with_reducible rfl))
                try simp only [List.getElem_toArray, List.getElem_cons_zero, List.getElem_cons_succ, Act.put, List.setIfInBounds_toArray, List.set_cons_zero, List.set_cons_succ]
                refine wpAnyH_done (by kernel_rfl) ?_ _
                refine NoPanic.normal ?_
                go_wp2_with fail
                go_meet
                exact ⟨⟨_, by rw [← HD6.out]; exact HW21.out⟩, HC21.out⟩
              refine AllReadyH.cons (o := _) rfl (fun K hK => ?_) AllReadyH.nil
              go_simp
              (skip; have HKz22 := Lib.hid (HKz12.out.alloc (.cells #[sv x5] 9)); have HKo22 := Lib.hid (Blk.new yw12 9 #[sv x5] 0 0 (Or.inl (Nat.le_refl _))); have HC22 := Lib.hid (HC12.out.alloc HC12.out.size (.cells #[sv x5] 9)); generalize World.alloc _ _ = yw22 at HKz22 HKo22 HC22 ⊢)
              refine hK.out _ _ ?_ (fun hHeld11 => ?_)
              · (first | exact ⟨StrsAt.cell (L := [x0, a.d0, a.d1, a.d2, a.d3, x5]) (HOsp23.out.below HC22.out) 0 (Nat.zero_lt_succ 5), StrsAt.cell (L := [x0, a.d0, a.d1, a.d2, a.d3, x5]) (HOsp23.out.below HC22.out) 5 (Nat.lt_succ_self 5)⟩)
              clear hHeld1 hK K
              try simp only [List.getElem_toArray, List.getElem_cons_zero, List.getElem_cons_succ, Act.put, List.setIfInBounds_toArray, List.set_cons_zero, List.set_cons_succ]
              refine wpAnyH_ready (rs := [4]) (by kernel_rfl) (by simp) ?_
              refine AllReadyH.cons (o := _) rfl (fun K hK => ?_) AllReadyH.nil
              go_simp
              (skip; have HKz23 := Lib.hid (HKz22.out.alloc (.cells #[] 9)); have HKo23 := Lib.hid (HKo22.out.alloc (.cells #[] 9)); have HKm23 := Lib.hid (Blk.new yw22 9 #[] 0 0 (Or.inl (Nat.le_refl _))); have HC23 := Lib.hid (HC22.out.alloc HC22.out.size (.cells #[] 9)); generalize World.alloc _ _ = yw23 at HKz23 HKo23 HKm23 HC23 ⊢)
              refine hK.out _ _ ?_ (fun hHeld12 => ?_)
              · (first | exact ⟨StrsAt.cell (L := [x0, a.d0, a.d1, a.d2, a.d3, x5]) (HOsp23.out.below HC23.out) 0 (Nat.zero_lt_succ 5), StrsAt.cell (L := [x0, a.d0, a.d1, a.d2, a.d3, x5]) (HOsp23.out.below HC23.out) 5 (Nat.lt_succ_self 5)⟩)
              clear hHeld11 hK K
              try simp only [List.getElem_toArray, List.getElem_cons_zero, List.getElem_cons_succ, Act.put, List.setIfInBounds_toArray, List.set_cons_zero, List.set_cons_succ]
              refine wpAnyH_ready (rs := [6]) (by kernel_rfl) (by simp) ?_
              refine AllReadyH.cons (o := _) rfl (fun K hK => ?_) AllReadyH.nil
              (refine step_append_grows rfl (.tmp 86) (.tmp 87) 41 rfl 9 i0 (.string ⟨#[]⟩) 1 16 Try.underlying41 hi hz0 hz1 hz2 rfl (by decide) (some ⟨yw22.heap.size, 0, none⟩) 0 0 ([] : List Value) rfl (fun h => by cases h) rfl (fun b hb j u hj => by cases hj) ⟨pa + 1 + 1, 0, none⟩ 4 4 ([T.d0, T.d1, T.d2, T.d3].map encStr) rfl rfl (blk_cells (HOx23.out.step HC23.out) rfl) (enc_one _) (by decide) (by decide) (by decide) ?_; intro v24 yw24 hown hg; have HKz24 := Lib.hid (HKz23.out.grownM hg (fun q hq => by cases hq)); have HKo24 := Lib.hid (HKo23.out.grownM hg (fun q hq => by cases hq)); have HKm24 := Lib.hid (HKm23.out.grownM hg (fun q hq => by cases hq)); have HC24 := Lib.hid (grown_step HC23.out hg); have HW24 := Lib.hid (own_weak hown HC23.out.size); have HNE24 := Lib.hid (fun q hq => Nat.ne_of_gt (Nat.lt_of_lt_of_le HKz23.out.lt (hown.lt q hq).1)); clear hown hg; (try go_simp))
              refine hK.out _ _ ?_ (fun hHeld13 => ?_)
              · (first | exact ⟨StrsAt.cell (L := [x0, a.d0, a.d1, a.d2, a.d3, x5]) (HOsp23.out.below HC24.out) 0 (Nat.zero_lt_succ 5), StrsAt.cell (L := [x0, a.d0, a.d1, a.d2, a.d3, x5]) (HOsp23.out.below HC24.out) 5 (Nat.lt_succ_self 5)⟩)
              clear hHeld12 hK K
              try simp only [List.getElem_toArray, List.getElem_cons_zero, List.getElem_cons_succ, Act.put, List.setIfInBounds_toArray, List.set_cons_zero, List.set_cons_succ]
              refine wpAnyH_ready (rs := [11]) (by kernel_rfl) (by simp) ?_
              refine AllReadyH.cons (o := _) rfl (fun K hK => ?_) AllReadyH.nil
              (refine step_append_lies _ rfl (.tmp 88) (.tmp 92) 41 rfl wF.heap.size 9 i0 (.string ⟨#[]⟩) 1 16 Try.underlying41 hi hz0 hz1 hz2 rfl (by decide) v24 4 ([T.d0, T.d1, T.d2, T.d3].map encStr) rfl HW24.out ⟨yw12.heap.size, 0, none⟩ 1 1 ([x5].map encStr) rfl rfl (blk_cells HKo24.out rfl) (enc_one _) (by decide) (by decide) (by decide) HC24.out.size _ rfl ?_; intro gl cl yw25 hown hg _ hgl; have HKz25 := Lib.hid (HKz24.out.grownNe hg HNE24.out); have HC25 := Lib.hid (HC24.out.grown hg HC24.out.size (fun q hq => (HW24.out.lt q hq).1)); have HW25 := Lib.hid hown; clear hown hg; (try go_simp))
              refine hK.out _ _ ?_ (fun hHeld14 => ?_)
              · (first | exact ⟨StrsAt.cell (L := [x0, a.d0, a.d1, a.d2, a.d3, x5]) (HOsp23.out.below HC25.out) 0 (Nat.zero_lt_succ 5), StrsAt.cell (L := [x0, a.d0, a.d1, a.d2, a.d3, x5]) (HOsp23.out.below HC25.out) 5 (Nat.lt_succ_self 5)⟩)
              clear hHeld13 hK K
              try simp only [List.getElem_toArray, List.getElem_cons_zero, List.getElem_cons_succ, Act.put, List.setIfInBounds_toArray, List.set_cons_zero, List.set_cons_succ]
              refine wpAnyH_ready (rs := [12]) (by kernel_rfl) (by simp) ?_
              refine AllReadyH.cons (o := _) rfl (fun K hK => ?_) AllReadyH.nil
              (refine step_append_grows rfl (.tmp 85) (.tmp 93) 41 rfl 9 i0 (.string ⟨#[]⟩) 1 16 Try.underlying41 hi hz0 hz1 hz2 rfl (by decide) (some ⟨wF.heap.size, 0, none⟩) 1 1 ([x0].map encStr) rfl (fun h => by cases h) rfl (fun b hb j u hj => by obtain rfl := Option.some.inj hb; exact blk_cells HKz25.out rfl j u hj) ⟨gl, 0, none⟩ 5 cl ([T.d0, T.d1, T.d2, T.d3, x5].map encStr) rfl rfl (own_cells (by first | rw [List.map_append] | skip; exact HW25.out)) (enc_one _) (by decide) (by decide) (by decide) ?_; intro v26 yw26 hown hg; have HC26 := Lib.hid (grown_step HC25.out hg); have HW26 := Lib.hid (own_weak hown HC25.out.size); clear hown hg; (try go_simp))
              refine hK.out _ _ ?_ (fun hHeld15 => ?_)
              · (first | exact ⟨StrsAt.cell (L := [x0, a.d0, a.d1, a.d2, a.d3, x5]) (HOsp23.out.below HC26.out) 0 (Nat.zero_lt_succ 5), StrsAt.cell (L := [x0, a.d0, a.d1, a.d2, a.d3, x5]) (HOsp23.out.below HC26.out) 5 (Nat.lt_succ_self 5)⟩)
              clear hHeld14 hK K
              try simp only [List.getElem_toArray, List.getElem_cons_zero, List.getElem_cons_succ, Act.put, List.setIfInBounds_toArray, List.set_cons_zero, List.set_cons_succ]
              refine wpAnyH_take (i := 13) (oi := _) (v := ?vr4n13_41) rfl (by kernel_rfl) (by kernel_rfl) (by kernel_rfl) (fun _ _ _ h => h) (Or.inl ⟨by kernel_rfl, ?hr4n13_41⟩) hHeld15 ?_
              case hr4n13_41 => (intro w hSw; (try dsimp only at hSw); go_simp; try (with_reducible rfl))
              try simp only [List.getElem_toArray, List.getElem_cons_zero, List.getElem_cons_succ, Act.put, List.setIfInBounds_toArray, List.set_cons_zero, List.set_cons_succ]
              refine wpAnyH_done (by kernel_rfl) ?_ _
              refine NoPanic.normal ?_
              go_wp2_with fail
              go_meet
              exact ⟨⟨_, by rw [← HD6.out]; exact HW26.out⟩, HC26.out⟩
            refine AllReadyH.cons (o := _) rfl (fun K hK => ?_) ?_
            · skip
              go_simp
              (skip; have HKm27 := Lib.hid ((Blk.new wF 9 #[] 0 0 (Or.inl (Nat.le_refl _))).drew); have HC27 := Lib.hid ((HCE.out.alloc HCE.out.size (.cells #[] 9)).drew); generalize World.drew (World.alloc _ _) = yw27 at HKm27 HC27 ⊢)
              refine hK.out _ _ ?_ (fun hHeld16 => ?_)
              · (first | exact ⟨StrsAt.cell (L := [x0, a.d0, a.d1, a.d2, a.d3, x5]) (HOsp23.out.below HC27.out) 0 (Nat.zero_lt_succ 5), StrsAt.cell (L := [x0, a.d0, a.d1, a.d2, a.d3, x5]) (HOsp23.out.below HC27.out) 5 (Nat.lt_succ_self 5)⟩)
              clear hHeld hK K
              try simp only [List.getElem_toArray, List.getElem_cons_zero, List.getElem_cons_succ, Act.put, List.setIfInBounds_toArray, List.set_cons_zero, List.set_cons_succ]
              refine wpAnyH_ready (rs := [3, 6, 10]) (by kernel_rfl) (by simp) ?_
              refine AllReadyH.cons (o := _) rfl (fun K hK => ?_) ?_
              · skip
                go_simp
                (skip; have HKm28 := Lib.hid (HKm27.out.alloc (.cells #[sv x0] 9)); have HKz28 := Lib.hid (Blk.new yw27 9 #[sv x0] 0 0 (Or.inl (Nat.le_refl _))); have HC28 := Lib.hid (HC27.out.alloc HC27.out.size (.cells #[sv x0] 9)); generalize World.alloc _ _ = yw28 at HKm28 HKz28 HC28 ⊢)
                refine hK.out _ _ ?_ (fun hHeld17 => ?_)
                · (first | exact ⟨StrsAt.cell (L := [x0, a.d0, a.d1, a.d2, a.d3, x5]) (HOsp23.out.below HC28.out) 0 (Nat.zero_lt_succ 5), StrsAt.cell (L := [x0, a.d0, a.d1, a.d2, a.d3, x5]) (HOsp23.out.below HC28.out) 5 (Nat.lt_succ_self 5)⟩)
                clear hHeld16 hK K
                try simp only [List.getElem_toArray, List.getElem_cons_zero, List.getElem_cons_succ, Act.put, List.setIfInBounds_toArray, List.set_cons_zero, List.set_cons_succ]
                refine wpAnyH_ready (rs := [6, 10]) (by kernel_rfl) (by simp) ?_
                refine AllReadyH.cons (o := _) rfl (fun K hK => ?_) ?_
                · skip
                  (refine step_append_grows rfl (.tmp 86) (.tmp 87) 41 rfl 9 i0 (.string ⟨#[]⟩) 1 16 Try.underlying41 hi hz0 hz1 hz2 rfl (by decide) (some ⟨wF.heap.size, 0, none⟩) 0 0 ([] : List Value) rfl (fun h => by cases h) rfl (fun b hb j u hj => by cases hj) ⟨pa + 1 + 1, 0, none⟩ 4 4 ([T.d0, T.d1, T.d2, T.d3].map encStr) rfl rfl (blk_cells (HOx23.out.step HC28.out) rfl) (enc_one _) (by decide) (by decide) (by decide) ?_; intro v29 yw29 hown hg; have HKm29 := Lib.hid (HKm28.out.grownM hg (fun q hq => by cases hq)); have HKz29 := Lib.hid (HKz28.out.grownM hg (fun q hq => by cases hq)); have HC29 := Lib.hid (grown_step HC28.out hg); have HW29 := Lib.hid (own_weak hown HC28.out.size); have HNE29 := Lib.hid (fun q hq => Nat.ne_of_gt (Nat.lt_of_lt_of_le HKz28.out.lt (hown.lt q hq).1)); clear hown hg; (try go_simp))
                  refine hK.out _ _ ?_ (fun hHeld18 => ?_)
                  · (first | exact ⟨StrsAt.cell (L := [x0, a.d0, a.d1, a.d2, a.d3, x5]) (HOsp23.out.below HC29.out) 0 (Nat.zero_lt_succ 5), StrsAt.cell (L := [x0, a.d0, a.d1, a.d2, a.d3, x5]) (HOsp23.out.below HC29.out) 5 (Nat.lt_succ_self 5)⟩)
                  clear hHeld17 hK K
                  try simp only [List.getElem_toArray, List.getElem_cons_zero, List.getElem_cons_succ, Act.put, List.setIfInBounds_toArray, List.set_cons_zero, List.set_cons_succ]
                  refine wpAnyH_ready (rs := [10]) (by kernel_rfl) (by simp) ?_
                  refine AllReadyH.cons (o := _) rfl (fun K hK => ?_) AllReadyH.nil
                  go_simp
                  (skip; have HKm30 := Lib.hid (HKm29.out.alloc (.cells #[sv x5] 9)); have HKz30 := Lib.hid (HKz29.out.alloc (.cells #[sv x5] 9)); have HKo30 := Lib.hid (Blk.new yw29 9 #[sv x5] 0 0 (Or.inl (Nat.le_refl _))); have HW30 := Lib.hid (HW29.out.alloc (.cells #[sv x5] 9)); have HC30 := Lib.hid (HC29.out.alloc HC29.out.size (.cells #[sv x5] 9)); generalize World.alloc _ _ = yw30 at HKm30 HKz30 HKo30 HW30 HC30 ⊢)
                  refine hK.out _ _ ?_ (fun hHeld19 => ?_)
                  · (first | exact ⟨StrsAt.cell (L := [x0, a.d0, a.d1, a.d2, a.d3, x5]) (HOsp23.out.below HC30.out) 0 (Nat.zero_lt_succ 5), StrsAt.cell (L := [x0, a.d0, a.d1, a.d2, a.d3, x5]) (HOsp23.out.below HC30.out) 5 (Nat.lt_succ_self 5)⟩)
                  clear hHeld18 hK K
                  try simp only [List.getElem_toArray, List.getElem_cons_zero, List.getElem_cons_succ, Act.put, List.setIfInBounds_toArray, List.set_cons_zero, List.set_cons_succ]
                  refine wpAnyH_ready (rs := [11]) (by kernel_rfl) (by simp) ?_
                  refine AllReadyH.cons (o := _) rfl (fun K hK => ?_) AllReadyH.nil
                  (refine step_append_lies _ rfl (.tmp 88) (.tmp 92) 41 rfl wF.heap.size 9 i0 (.string ⟨#[]⟩) 1 16 Try.underlying41 hi hz0 hz1 hz2 rfl (by decide) v29 4 ([T.d0, T.d1, T.d2, T.d3].map encStr) rfl HW30.out ⟨yw29.heap.size, 0, none⟩ 1 1 ([x5].map encStr) rfl rfl (blk_cells HKo30.out rfl) (enc_one _) (by decide) (by decide) (by decide) HC30.out.size _ rfl ?_; intro gl cl yw31 hown hg _ hgl; have HKz31 := Lib.hid (HKz30.out.grownNe hg HNE29.out); have HC31 := Lib.hid (HC30.out.grown hg HC30.out.size (fun q hq => (HW30.out.lt q hq).1)); have HW31 := Lib.hid hown; clear hown hg; (try go_simp))
                  refine hK.out _ _ ?_ (fun hHeld20 => ?_)
                  · (first | exact ⟨StrsAt.cell (L := [x0, a.d0, a.d1, a.d2, a.d3, x5]) (HOsp23.out.below HC31.out) 0 (Nat.zero_lt_succ 5), StrsAt.cell (L := [x0, a.d0, a.d1, a.d2, a.d3, x5]) (HOsp23.out.below HC31.out) 5 (Nat.lt_succ_self 5)⟩)
                  clear hHeld19 hK K
                  try simp only [List.getElem_toArray, List.getElem_cons_zero, List.getElem_cons_succ, Act.put, List.setIfInBounds_toArray, List.set_cons_zero, List.set_cons_succ]
                  refine wpAnyH_ready (rs := [12]) (by kernel_rfl) (by simp) ?_
                  refine AllReadyH.cons (o := _) rfl (fun K hK => ?_) AllReadyH.nil
                  (refine step_append_grows rfl (.tmp 85) (.tmp 93) 41 rfl 9 i0 (.string ⟨#[]⟩) 1 16 Try.underlying41 hi hz0 hz1 hz2 rfl (by decide) (some ⟨yw27.heap.size, 0, none⟩) 1 1 ([x0].map encStr) rfl (fun h => by cases h) rfl (fun b hb j u hj => by obtain rfl := Option.some.inj hb; exact blk_cells HKz31.out rfl j u hj) ⟨gl, 0, none⟩ 5 cl ([T.d0, T.d1, T.d2, T.d3, x5].map encStr) rfl rfl (own_cells (by first | rw [List.map_append] | skip; exact HW31.out)) (enc_one _) (by decide) (by decide) (by decide) ?_; intro v32 yw32 hown hg; have HC32 := Lib.hid (grown_step HC31.out hg); have HW32 := Lib.hid (own_weak hown HC31.out.size); clear hown hg; (try go_simp))
                  refine hK.out _ _ ?_ (fun hHeld21 => ?_)
                  · (first | exact ⟨StrsAt.cell (L := [x0, a.d0, a.d1, a.d2, a.d3, x5]) (HOsp23.out.below HC32.out) 0 (Nat.zero_lt_succ 5), StrsAt.cell (L := [x0, a.d0, a.d1, a.d2, a.d3, x5]) (HOsp23.out.below HC32.out) 5 (Nat.lt_succ_self 5)⟩)
                  clear hHeld20 hK K
                  try simp only [List.getElem_toArray, List.getElem_cons_zero, List.getElem_cons_succ, Act.put, List.setIfInBounds_toArray, List.set_cons_zero, List.set_cons_succ]
                  refine wpAnyH_take (i := 13) (oi := _) (v := ?vr4n13_42) rfl (by kernel_rfl) (by kernel_rfl) (by kernel_rfl) (fun _ _ _ h => h) (Or.inl ⟨by kernel_rfl, ?hr4n13_42⟩) hHeld21 ?_
                  case hr4n13_42 => (intro w hSw; (try dsimp only at hSw); go_simp; try (with_reducible rfl))
                  try simp only [List.getElem_toArray, List.getElem_cons_zero, List.getElem_cons_succ, Act.put, List.setIfInBounds_toArray, List.set_cons_zero, List.set_cons_succ]
                  refine wpAnyH_done (by kernel_rfl) ?_ _
                  refine NoPanic.normal ?_
                  go_wp2_with fail
                  go_meet
                  exact ⟨⟨_, by rw [← HD6.out]; exact HW32.out⟩, HC32.out⟩
                refine AllReadyH.cons (o := _) rfl (fun K hK => ?_) AllReadyH.nil
                go_simp
                (skip; have HKm33 := Lib.hid (HKm28.out.alloc (.cells #[sv x5] 9)); have HKz33 := Lib.hid (HKz28.out.alloc (.cells #[sv x5] 9)); have HKo33 := Lib.hid (Blk.new yw28 9 #[sv x5] 0 0 (Or.inl (Nat.le_refl _))); have HC33 := Lib.hid (HC28.out.alloc HC28.out.size (.cells #[sv x5] 9)); generalize World.alloc _ _ = yw33 at HKm33 HKz33 HKo33 HC33 ⊢)
                refine hK.out _ _ ?_ (fun hHeld22 => ?_)
                · (first | exact ⟨StrsAt.cell (L := [x0, a.d0, a.d1, a.d2, a.d3, x5]) (HOsp23.out.below HC33.out) 0 (Nat.zero_lt_succ 5), StrsAt.cell (L := [x0, a.d0, a.d1, a.d2, a.d3, x5]) (HOsp23.out.below HC33.out) 5 (Nat.lt_succ_self 5)⟩)
                clear hHeld17 hK K
                try simp only [List.getElem_toArray, List.getElem_cons_zero, List.getElem_cons_succ, Act.put, List.setIfInBounds_toArray, List.set_cons_zero, List.set_cons_succ]
                refine wpAnyH_ready (rs := [6]) (by kernel_rfl) (by simp) ?_
                refine AllReadyH.cons (o := _) rfl (fun K hK => ?_) AllReadyH.nil
                (refine step_append_grows rfl (.tmp 86) (.tmp 87) 41 rfl 9 i0 (.string ⟨#[]⟩) 1 16 Try.underlying41 hi hz0 hz1 hz2 rfl (by decide) (some ⟨wF.heap.size, 0, none⟩) 0 0 ([] : List Value) rfl (fun h => by cases h) rfl (fun b hb j u hj => by cases hj) ⟨pa + 1 + 1, 0, none⟩ 4 4 ([T.d0, T.d1, T.d2, T.d3].map encStr) rfl rfl (blk_cells (HOx23.out.step HC33.out) rfl) (enc_one _) (by decide) (by decide) (by decide) ?_; intro v34 yw34 hown hg; have HKm34 := Lib.hid (HKm33.out.grownM hg (fun q hq => by cases hq)); have HKz34 := Lib.hid (HKz33.out.grownM hg (fun q hq => by cases hq)); have HKo34 := Lib.hid (HKo33.out.grownM hg (fun q hq => by cases hq)); have HC34 := Lib.hid (grown_step HC33.out hg); have HW34 := Lib.hid (own_weak hown HC33.out.size); have HNE34 := Lib.hid (fun q hq => Nat.ne_of_gt (Nat.lt_of_lt_of_le HKz33.out.lt (hown.lt q hq).1)); clear hown hg; (try go_simp))
                refine hK.out _ _ ?_ (fun hHeld23 => ?_)
                · (first | exact ⟨StrsAt.cell (L := [x0, a.d0, a.d1, a.d2, a.d3, x5]) (HOsp23.out.below HC34.out) 0 (Nat.zero_lt_succ 5), StrsAt.cell (L := [x0, a.d0, a.d1, a.d2, a.d3, x5]) (HOsp23.out.below HC34.out) 5 (Nat.lt_succ_self 5)⟩)
                clear hHeld22 hK K
                try simp only [List.getElem_toArray, List.getElem_cons_zero, List.getElem_cons_succ, Act.put, List.setIfInBounds_toArray, List.set_cons_zero, List.set_cons_succ]
                refine wpAnyH_ready (rs := [11]) (by kernel_rfl) (by simp) ?_
                refine AllReadyH.cons (o := _) rfl (fun K hK => ?_) AllReadyH.nil
                (refine step_append_lies _ rfl (.tmp 88) (.tmp 92) 41 rfl wF.heap.size 9 i0 (.string ⟨#[]⟩) 1 16 Try.underlying41 hi hz0 hz1 hz2 rfl (by decide) v34 4 ([T.d0, T.d1, T.d2, T.d3].map encStr) rfl HW34.out ⟨yw28.heap.size, 0, none⟩ 1 1 ([x5].map encStr) rfl rfl (blk_cells HKo34.out rfl) (enc_one _) (by decide) (by decide) (by decide) HC34.out.size _ rfl ?_; intro gl cl yw35 hown hg _ hgl; have HKz35 := Lib.hid (HKz34.out.grownNe hg HNE34.out); have HC35 := Lib.hid (HC34.out.grown hg HC34.out.size (fun q hq => (HW34.out.lt q hq).1)); have HW35 := Lib.hid hown; clear hown hg; (try go_simp))
                refine hK.out _ _ ?_ (fun hHeld24 => ?_)
                · (first | exact ⟨StrsAt.cell (L := [x0, a.d0, a.d1, a.d2, a.d3, x5]) (HOsp23.out.below HC35.out) 0 (Nat.zero_lt_succ 5), StrsAt.cell (L := [x0, a.d0, a.d1, a.d2, a.d3, x5]) (HOsp23.out.below HC35.out) 5 (Nat.lt_succ_self 5)⟩)
                clear hHeld23 hK K
                try simp only [List.getElem_toArray, List.getElem_cons_zero, List.getElem_cons_succ, Act.put, List.setIfInBounds_toArray, List.set_cons_zero, List.set_cons_succ]
                refine wpAnyH_ready (rs := [12]) (by kernel_rfl) (by simp) ?_
                refine AllReadyH.cons (o := _) rfl (fun K hK => ?_) AllReadyH.nil
                (refine step_append_grows rfl (.tmp 85) (.tmp 93) 41 rfl 9 i0 (.string ⟨#[]⟩) 1 16 Try.underlying41 hi hz0 hz1 hz2 rfl (by decide) (some ⟨yw27.heap.size, 0, none⟩) 1 1 ([x0].map encStr) rfl (fun h => by cases h) rfl (fun b hb j u hj => by obtain rfl := Option.some.inj hb; exact blk_cells HKz35.out rfl j u hj) ⟨gl, 0, none⟩ 5 cl ([T.d0, T.d1, T.d2, T.d3, x5].map encStr) rfl rfl (own_cells (by first | rw [List.map_append] | skip; exact HW35.out)) (enc_one _) (by decide) (by decide) (by decide) ?_; intro v36 yw36 hown hg; have HC36 := Lib.hid (grown_step HC35.out hg); have HW36 := Lib.hid (own_weak hown HC35.out.size); clear hown hg; (try go_simp))
                refine hK.out _ _ ?_ (fun hHeld25 => ?_)
                · (first | exact ⟨StrsAt.cell (L := [x0, a.d0, a.d1, a.d2, a.d3, x5]) (HOsp23.out.below HC36.out) 0 (Nat.zero_lt_succ 5), StrsAt.cell (L := [x0, a.d0, a.d1, a.d2, a.d3, x5]) (HOsp23.out.below HC36.out) 5 (Nat.lt_succ_self 5)⟩)
                clear hHeld24 hK K
                try simp only [List.getElem_toArray, List.getElem_cons_zero, List.getElem_cons_succ, Act.put, List.setIfInBounds_toArray, List.set_cons_zero, List.set_cons_succ]
                refine wpAnyH_take (i := 13) (oi := _) (v := ?vr4n13_43) rfl (by kernel_rfl) (by kernel_rfl) (by kernel_rfl) (fun _ _ _ h => h) (Or.inl ⟨by kernel_rfl, ?hr4n13_43⟩) hHeld25 ?_
                case hr4n13_43 => (intro w hSw; (try dsimp only at hSw); go_simp; try (with_reducible rfl))
                try simp only [List.getElem_toArray, List.getElem_cons_zero, List.getElem_cons_succ, Act.put, List.setIfInBounds_toArray, List.set_cons_zero, List.set_cons_succ]
                refine wpAnyH_done (by kernel_rfl) ?_ _
                refine NoPanic.normal ?_
                go_wp2_with fail
                go_meet
                exact ⟨⟨_, by rw [← HD6.out]; exact HW36.out⟩, HC36.out⟩
              refine AllReadyH.cons (o := _) rfl (fun K hK => ?_) ?_
              · skip
                (refine step_append_grows rfl (.tmp 86) (.tmp 87) 41 rfl 9 i0 (.string ⟨#[]⟩) 1 16 Try.underlying41 hi hz0 hz1 hz2 rfl (by decide) (some ⟨wF.heap.size, 0, none⟩) 0 0 ([] : List Value) rfl (fun h => by cases h) rfl (fun b hb j u hj => by cases hj) ⟨pa + 1 + 1, 0, none⟩ 4 4 ([T.d0, T.d1, T.d2, T.d3].map encStr) rfl rfl (blk_cells (HOx23.out.step HC27.out) rfl) (enc_one _) (by decide) (by decide) (by decide) ?_; intro v37 yw37 hown hg; have HKm37 := Lib.hid (HKm27.out.grownM hg (fun q hq => by cases hq)); have HC37 := Lib.hid (grown_step HC27.out hg); have HW37 := Lib.hid (own_weak hown HC27.out.size); clear hown hg; (try go_simp))
                refine hK.out _ _ ?_ (fun hHeld26 => ?_)
                · (first | exact ⟨StrsAt.cell (L := [x0, a.d0, a.d1, a.d2, a.d3, x5]) (HOsp23.out.below HC37.out) 0 (Nat.zero_lt_succ 5), StrsAt.cell (L := [x0, a.d0, a.d1, a.d2, a.d3, x5]) (HOsp23.out.below HC37.out) 5 (Nat.lt_succ_self 5)⟩)
                clear hHeld16 hK K
                try simp only [List.getElem_toArray, List.getElem_cons_zero, List.getElem_cons_succ, Act.put, List.setIfInBounds_toArray, List.set_cons_zero, List.set_cons_succ]
                refine wpAnyH_ready (rs := [3, 10]) (by kernel_rfl) (by simp) ?_
                refine AllReadyH.cons (o := _) rfl (fun K hK => ?_) ?_
                · skip
                  go_simp
                  (skip; have HKm38 := Lib.hid (HKm37.out.alloc (.cells #[sv x0] 9)); have HKz38 := Lib.hid (Blk.new yw37 9 #[sv x0] 0 0 (Or.inl (Nat.le_refl _))); have HW38 := Lib.hid (HW37.out.alloc (.cells #[sv x0] 9)); have HNE38 := Lib.hid (fun q hq => Nat.ne_of_lt (HW37.out.lt q hq).2); have HC38 := Lib.hid (HC37.out.alloc HC37.out.size (.cells #[sv x0] 9)); generalize World.alloc _ _ = yw38 at HKm38 HKz38 HW38 HC38 ⊢)
                  refine hK.out _ _ ?_ (fun hHeld27 => ?_)
                  · (first | exact ⟨StrsAt.cell (L := [x0, a.d0, a.d1, a.d2, a.d3, x5]) (HOsp23.out.below HC38.out) 0 (Nat.zero_lt_succ 5), StrsAt.cell (L := [x0, a.d0, a.d1, a.d2, a.d3, x5]) (HOsp23.out.below HC38.out) 5 (Nat.lt_succ_self 5)⟩)
                  clear hHeld26 hK K
                  try simp only [List.getElem_toArray, List.getElem_cons_zero, List.getElem_cons_succ, Act.put, List.setIfInBounds_toArray, List.set_cons_zero, List.set_cons_succ]
                  refine wpAnyH_ready (rs := [10]) (by kernel_rfl) (by simp) ?_
                  refine AllReadyH.cons (o := _) rfl (fun K hK => ?_) AllReadyH.nil
                  go_simp
                  (skip; have HKm39 := Lib.hid (HKm38.out.alloc (.cells #[sv x5] 9)); have HKz39 := Lib.hid (HKz38.out.alloc (.cells #[sv x5] 9)); have HKo39 := Lib.hid (Blk.new yw38 9 #[sv x5] 0 0 (Or.inl (Nat.le_refl _))); have HW39 := Lib.hid (HW38.out.alloc (.cells #[sv x5] 9)); have HC39 := Lib.hid (HC38.out.alloc HC38.out.size (.cells #[sv x5] 9)); generalize World.alloc _ _ = yw39 at HKm39 HKz39 HKo39 HW39 HC39 ⊢)
                  refine hK.out _ _ ?_ (fun hHeld28 => ?_)
                  · (first | exact ⟨StrsAt.cell (L := [x0, a.d0, a.d1, a.d2, a.d3, x5]) (HOsp23.out.below HC39.out) 0 (Nat.zero_lt_succ 5), StrsAt.cell (L := [x0, a.d0, a.d1, a.d2, a.d3, x5]) (HOsp23.out.below HC39.out) 5 (Nat.lt_succ_self 5)⟩)
                  clear hHeld27 hK K
                  try simp only [List.getElem_toArray, List.getElem_cons_zero, List.getElem_cons_succ, Act.put, List.setIfInBounds_toArray, List.set_cons_zero, List.set_cons_succ]
                  refine wpAnyH_ready (rs := [11]) (by kernel_rfl) (by simp) ?_
                  refine AllReadyH.cons (o := _) rfl (fun K hK => ?_) AllReadyH.nil
                  (refine step_append_lies _ rfl (.tmp 88) (.tmp 92) 41 rfl wF.heap.size 9 i0 (.string ⟨#[]⟩) 1 16 Try.underlying41 hi hz0 hz1 hz2 rfl (by decide) v37 4 ([T.d0, T.d1, T.d2, T.d3].map encStr) rfl HW39.out ⟨yw38.heap.size, 0, none⟩ 1 1 ([x5].map encStr) rfl rfl (blk_cells HKo39.out rfl) (enc_one _) (by decide) (by decide) (by decide) HC39.out.size _ rfl ?_; intro gl cl yw40 hown hg _ hgl; have HKz40 := Lib.hid (HKz39.out.grownNe hg HNE38.out); have HC40 := Lib.hid (HC39.out.grown hg HC39.out.size (fun q hq => (HW39.out.lt q hq).1)); have HW40 := Lib.hid hown; clear hown hg; (try go_simp))
                  refine hK.out _ _ ?_ (fun hHeld29 => ?_)
                  · (first | exact ⟨StrsAt.cell (L := [x0, a.d0, a.d1, a.d2, a.d3, x5]) (HOsp23.out.below HC40.out) 0 (Nat.zero_lt_succ 5), StrsAt.cell (L := [x0, a.d0, a.d1, a.d2, a.d3, x5]) (HOsp23.out.below HC40.out) 5 (Nat.lt_succ_self 5)⟩)
                  clear hHeld28 hK K
                  try simp only [List.getElem_toArray, List.getElem_cons_zero, List.getElem_cons_succ, Act.put, List.setIfInBounds_toArray, List.set_cons_zero, List.set_cons_succ]
                  refine wpAnyH_ready (rs := [12]) (by kernel_rfl) (by simp) ?_
                  refine AllReadyH.cons (o := _) rfl (fun K hK => ?_) AllReadyH.nil
                  (refine step_append_grows rfl (.tmp 85) (.tmp 93) 41 rfl 9 i0 (.string ⟨#[]⟩) 1 16 Try.underlying41 hi hz0 hz1 hz2 rfl (by decide) (some ⟨yw37.heap.size, 0, none⟩) 1 1 ([x0].map encStr) rfl (fun h => by cases h) rfl (fun b hb j u hj => by obtain rfl := Option.some.inj hb; exact blk_cells HKz40.out rfl j u hj) ⟨gl, 0, none⟩ 5 cl ([T.d0, T.d1, T.d2, T.d3, x5].map encStr) rfl rfl (own_cells (by first | rw [List.map_append] | skip; exact HW40.out)) (enc_one _) (by decide) (by decide) (by decide) ?_; intro v41 yw41 hown hg; have HC41 := Lib.hid (grown_step HC40.out hg); have HW41 := Lib.hid (own_weak hown HC40.out.size); clear hown hg; (try go_simp))
                  refine hK.out _ _ ?_ (fun hHeld30 => ?_)
                  · (first | exact ⟨StrsAt.cell (L := [x0, a.d0, a.d1, a.d2, a.d3, x5]) (HOsp23.out.below HC41.out) 0 (Nat.zero_lt_succ 5), StrsAt.cell (L := [x0, a.d0, a.d1, a.d2, a.d3, x5]) (HOsp23.out.below HC41.out) 5 (Nat.lt_succ_self 5)⟩)
                  clear hHeld29 hK K
                  try simp only [List.getElem_toArray, List.getElem_cons_zero, List.getElem_cons_succ, Act.put, List.setIfInBounds_toArray, List.set_cons_zero, List.set_cons_succ]
                  refine wpAnyH_take (i := 13) (oi := _) (v := ?vr4n13_44) rfl (by kernel_rfl) (by kernel_rfl) (by kernel_rfl) (fun _ _ _ h => h) (Or.inl ⟨by kernel_rfl, ?hr4n13_44⟩) hHeld30 ?_
                  case hr4n13_44 => (intro w hSw; (try dsimp only at hSw); go_simp; try (with_reducible rfl))
                  try simp only [List.getElem_toArray, List.getElem_cons_zero, List.getElem_cons_succ, Act.put, List.setIfInBounds_toArray, List.set_cons_zero, List.set_cons_succ]
                  refine wpAnyH_done (by kernel_rfl) ?_ _
                  refine NoPanic.normal ?_
                  go_wp2_with fail
                  go_meet
                  exact ⟨⟨_, by rw [← HD6.out]; exact HW41.out⟩, HC41.out⟩
                refine AllReadyH.cons (o := _) rfl (fun K hK => ?_) AllReadyH.nil
                go_simp
                (skip; have HKm42 := Lib.hid (HKm37.out.alloc (.cells #[sv x5] 9)); have HKo42 := Lib.hid (Blk.new yw37 9 #[sv x5] 0 0 (Or.inl (Nat.le_refl _))); have HW42 := Lib.hid (HW37.out.alloc (.cells #[sv x5] 9)); have HC42 := Lib.hid (HC37.out.alloc HC37.out.size (.cells #[sv x5] 9)); generalize World.alloc _ _ = yw42 at HKm42 HKo42 HW42 HC42 ⊢)
                refine hK.out _ _ ?_ (fun hHeld31 => ?_)
                · (first | exact ⟨StrsAt.cell (L := [x0, a.d0, a.d1, a.d2, a.d3, x5]) (HOsp23.out.below HC42.out) 0 (Nat.zero_lt_succ 5), StrsAt.cell (L := [x0, a.d0, a.d1, a.d2, a.d3, x5]) (HOsp23.out.below HC42.out) 5 (Nat.lt_succ_self 5)⟩)
                clear hHeld26 hK K
                try simp only [List.getElem_toArray, List.getElem_cons_zero, List.getElem_cons_succ, Act.put, List.setIfInBounds_toArray, List.set_cons_zero, List.set_cons_succ]
                refine wpAnyH_ready (rs := [3, 11]) (by kernel_rfl) (by simp) ?_
                refine AllReadyH.cons (o := _) rfl (fun K hK => ?_) ?_
                · skip
                  go_simp
                  (skip; have HKm43 := Lib.hid (HKm42.out.alloc (.cells #[sv x0] 9)); have HKo43 := Lib.hid (HKo42.out.alloc (.cells #[sv x0] 9)); have HKz43 := Lib.hid (Blk.new yw42 9 #[sv x0] 0 0 (Or.inl (Nat.le_refl _))); have HW43 := Lib.hid (HW42.out.alloc (.cells #[sv x0] 9)); have HNE43 := Lib.hid (fun q hq => Nat.ne_of_lt (HW42.out.lt q hq).2); have HC43 := Lib.hid (HC42.out.alloc HC42.out.size (.cells #[sv x0] 9)); generalize World.alloc _ _ = yw43 at HKm43 HKo43 HKz43 HW43 HC43 ⊢)
                  refine hK.out _ _ ?_ (fun hHeld32 => ?_)
                  · (first | exact ⟨StrsAt.cell (L := [x0, a.d0, a.d1, a.d2, a.d3, x5]) (HOsp23.out.below HC43.out) 0 (Nat.zero_lt_succ 5), StrsAt.cell (L := [x0, a.d0, a.d1, a.d2, a.d3, x5]) (HOsp23.out.below HC43.out) 5 (Nat.lt_succ_self 5)⟩)
                  clear hHeld31 hK K
                  try simp only [List.getElem_toArray, List.getElem_cons_zero, List.getElem_cons_succ, Act.put, List.setIfInBounds_toArray, List.set_cons_zero, List.set_cons_succ]
                  refine wpAnyH_ready (rs := [11]) (by kernel_rfl) (by simp) ?_
                  refine AllReadyH.cons (o := _) rfl (fun K hK => ?_) AllReadyH.nil
                  (refine step_append_lies _ rfl (.tmp 88) (.tmp 92) 41 rfl wF.heap.size 9 i0 (.string ⟨#[]⟩) 1 16 Try.underlying41 hi hz0 hz1 hz2 rfl (by decide) v37 4 ([T.d0, T.d1, T.d2, T.d3].map encStr) rfl HW43.out ⟨yw37.heap.size, 0, none⟩ 1 1 ([x5].map encStr) rfl rfl (blk_cells HKo43.out rfl) (enc_one _) (by decide) (by decide) (by decide) HC43.out.size _ rfl ?_; intro gl cl yw44 hown hg _ hgl; have HKz44 := Lib.hid (HKz43.out.grownNe hg HNE43.out); have HC44 := Lib.hid (HC43.out.grown hg HC43.out.size (fun q hq => (HW43.out.lt q hq).1)); have HW44 := Lib.hid hown; clear hown hg; (try go_simp))
                  refine hK.out _ _ ?_ (fun hHeld33 => ?_)
                  · (first | exact ⟨StrsAt.cell (L := [x0, a.d0, a.d1, a.d2, a.d3, x5]) (HOsp23.out.below HC44.out) 0 (Nat.zero_lt_succ 5), StrsAt.cell (L := [x0, a.d0, a.d1, a.d2, a.d3, x5]) (HOsp23.out.below HC44.out) 5 (Nat.lt_succ_self 5)⟩)
                  clear hHeld32 hK K
                  try simp only [List.getElem_toArray, List.getElem_cons_zero, List.getElem_cons_succ, Act.put, List.setIfInBounds_toArray, List.set_cons_zero, List.set_cons_succ]
                  refine wpAnyH_ready (rs := [12]) (by kernel_rfl) (by simp) ?_
                  refine AllReadyH.cons (o := _) rfl (fun K hK => ?_) AllReadyH.nil
                  (refine step_append_grows rfl (.tmp 85) (.tmp 93) 41 rfl 9 i0 (.string ⟨#[]⟩) 1 16 Try.underlying41 hi hz0 hz1 hz2 rfl (by decide) (some ⟨yw42.heap.size, 0, none⟩) 1 1 ([x0].map encStr) rfl (fun h => by cases h) rfl (fun b hb j u hj => by obtain rfl := Option.some.inj hb; exact blk_cells HKz44.out rfl j u hj) ⟨gl, 0, none⟩ 5 cl ([T.d0, T.d1, T.d2, T.d3, x5].map encStr) rfl rfl (own_cells (by first | rw [List.map_append] | skip; exact HW44.out)) (enc_one _) (by decide) (by decide) (by decide) ?_; intro v45 yw45 hown hg; have HC45 := Lib.hid (grown_step HC44.out hg); have HW45 := Lib.hid (own_weak hown HC44.out.size); clear hown hg; (try go_simp))
                  refine hK.out _ _ ?_ (fun hHeld34 => ?_)
                  · (first | exact ⟨StrsAt.cell (L := [x0, a.d0, a.d1, a.d2, a.d3, x5]) (HOsp23.out.below HC45.out) 0 (Nat.zero_lt_succ 5), StrsAt.cell (L := [x0, a.d0, a.d1, a.d2, a.d3, x5]) (HOsp23.out.below HC45.out) 5 (Nat.lt_succ_self 5)⟩)
                  clear hHeld33 hK K
                  try simp only [List.getElem_toArray, List.getElem_cons_zero, List.getElem_cons_succ, Act.put, List.setIfInBounds_toArray, List.set_cons_zero, List.set_cons_succ]
                  refine wpAnyH_take (i := 13) (oi := _) (v := ?vr4n13_45) rfl (by kernel_rfl) (by kernel_rfl) (by kernel_rfl) (fun _ _ _ h => h) (Or.inl ⟨by kernel_rfl, ?hr4n13_45⟩) hHeld34 ?_
                  case hr4n13_45 => (intro w hSw; (try dsimp only at hSw); go_simp; try (with_reducible rfl))
                  try simp only [List.getElem_toArray, List.getElem_cons_zero, List.getElem_cons_succ, Act.put, List.setIfInBounds_toArray, List.set_cons_zero, List.set_cons_succ]
                  refine wpAnyH_done (by kernel_rfl) ?_ _
                  refine NoPanic.normal ?_
                  go_wp2_with fail
                  go_meet
                  exact ⟨⟨_, by rw [← HD6.out]; exact HW45.out⟩, HC45.out⟩
                refine AllReadyH.cons (o := _) rfl (fun K hK => ?_) AllReadyH.nil
                (refine step_append_lies _ rfl (.tmp 88) (.tmp 92) 41 rfl wF.heap.size 9 i0 (.string ⟨#[]⟩) 1 16 Try.underlying41 hi hz0 hz1 hz2 rfl (by decide) v37 4 ([T.d0, T.d1, T.d2, T.d3].map encStr) rfl HW42.out ⟨yw37.heap.size, 0, none⟩ 1 1 ([x5].map encStr) rfl rfl (blk_cells HKo42.out rfl) (enc_one _) (by decide) (by decide) (by decide) HC42.out.size _ rfl ?_; intro gl cl yw46 hown hg _ hgl; have HC46 := Lib.hid (HC42.out.grown hg HC42.out.size (fun q hq => (HW42.out.lt q hq).1)); have HW46 := Lib.hid hown; clear hown hg; (try go_simp))
                refine hK.out _ _ ?_ (fun hHeld35 => ?_)
                · (first | exact ⟨StrsAt.cell (L := [x0, a.d0, a.d1, a.d2, a.d3, x5]) (HOsp23.out.below HC46.out) 0 (Nat.zero_lt_succ 5), StrsAt.cell (L := [x0, a.d0, a.d1, a.d2, a.d3, x5]) (HOsp23.out.below HC46.out) 5 (Nat.lt_succ_self 5)⟩)
                clear hHeld31 hK K
                try simp only [List.getElem_toArray, List.getElem_cons_zero, List.getElem_cons_succ, Act.put, List.setIfInBounds_toArray, List.set_cons_zero, List.set_cons_succ]
                refine wpAnyH_ready (rs := [3]) (by kernel_rfl) (by simp) ?_
                refine AllReadyH.cons (o := _) rfl (fun K hK => ?_) AllReadyH.nil
                go_simp
                (skip; have HKz47 := Lib.hid (Blk.new yw46 9 #[sv x0] 0 0 (Or.inl (Nat.le_refl _))); have HW47 := Lib.hid (HW46.out.alloc (.cells #[sv x0] 9)); have HNE47 := Lib.hid (fun q hq => Nat.ne_of_lt (HW46.out.lt q hq).2); have HC47 := Lib.hid (HC46.out.alloc HC46.out.size (.cells #[sv x0] 9)); generalize World.alloc _ _ = yw47 at HKz47 HW47 HC47 ⊢)
                refine hK.out _ _ ?_ (fun hHeld36 => ?_)
                · (first | exact ⟨StrsAt.cell (L := [x0, a.d0, a.d1, a.d2, a.d3, x5]) (HOsp23.out.below HC47.out) 0 (Nat.zero_lt_succ 5), StrsAt.cell (L := [x0, a.d0, a.d1, a.d2, a.d3, x5]) (HOsp23.out.below HC47.out) 5 (Nat.lt_succ_self 5)⟩)
                clear hHeld35 hK K
                try simp only [List.getElem_toArray, List.getElem_cons_zero, List.getElem_cons_succ, Act.put, List.setIfInBounds_toArray, List.set_cons_zero, List.set_cons_succ]
                refine wpAnyH_ready (rs := [12]) (by kernel_rfl) (by simp) ?_
                refine AllReadyH.cons (o := _) rfl (fun K hK => ?_) AllReadyH.nil
                (refine step_append_grows rfl (.tmp 85) (.tmp 93) 41 rfl 9 i0 (.string ⟨#[]⟩) 1 16 Try.underlying41 hi hz0 hz1 hz2 rfl (by decide) (some ⟨yw46.heap.size, 0, none⟩) 1 1 ([x0].map encStr) rfl (fun h => by cases h) rfl (fun b hb j u hj => by obtain rfl := Option.some.inj hb; exact blk_cells HKz47.out rfl j u hj) ⟨gl, 0, none⟩ 5 cl ([T.d0, T.d1, T.d2, T.d3, x5].map encStr) rfl rfl (own_cells (by first | rw [List.map_append] | skip; exact HW47.out)) (enc_one _) (by decide) (by decide) (by decide) ?_; intro v48 yw48 hown hg; have HC48 := Lib.hid (grown_step HC47.out hg); have HW48 := Lib.hid (own_weak hown HC47.out.size); clear hown hg; (try go_simp))
                refine hK.out _ _ ?_ (fun hHeld37 => ?_)
                · (first | exact ⟨StrsAt.cell (L := [x0, a.d0, a.d1, a.d2, a.d3, x5]) (HOsp23.out.below HC48.out) 0 (Nat.zero_lt_succ 5), StrsAt.cell (L := [x0, a.d0, a.d1, a.d2, a.d3, x5]) (HOsp23.out.below HC48.out) 5 (Nat.lt_succ_self 5)⟩)
                clear hHeld36 hK K
                try simp only [List.getElem_toArray, List.getElem_cons_zero, List.getElem_cons_succ, Act.put, List.setIfInBounds_toArray, List.set_cons_zero, List.set_cons_succ]
                refine wpAnyH_take (i := 13) (oi := _) (v := ?vr4n13_46) rfl (by kernel_rfl) (by kernel_rfl) (by kernel_rfl) (fun _ _ _ h => h) (Or.inl ⟨by kernel_rfl, ?hr4n13_46⟩) hHeld37 ?_
                case hr4n13_46 => (intro w hSw; (try dsimp only at hSw); go_simp; try (with_reducible rfl))
                try simp only [List.getElem_toArray, List.getElem_cons_zero, List.getElem_cons_succ, Act.put, List.setIfInBounds_toArray, List.set_cons_zero, List.set_cons_succ]
                refine wpAnyH_done (by kernel_rfl) ?_ _
                refine NoPanic.normal ?_
                go_wp2_with fail
                go_meet
                exact ⟨⟨_, by rw [← HD6.out]; exact HW48.out⟩, HC48.out⟩
              refine AllReadyH.cons (o := _) rfl (fun K hK => ?_) AllReadyH.nil
              go_simp
              (skip; have HKm49 := Lib.hid (HKm27.out.alloc (.cells #[sv x5] 9)); have HKo49 := Lib.hid (Blk.new yw27 9 #[sv x5] 0 0 (Or.inl (Nat.le_refl _))); have HC49 := Lib.hid (HC27.out.alloc HC27.out.size (.cells #[sv x5] 9)); generalize World.alloc _ _ = yw49 at HKm49 HKo49 HC49 ⊢)
              refine hK.out _ _ ?_ (fun hHeld38 => ?_)
              · (first | exact ⟨StrsAt.cell (L := [x0, a.d0, a.d1, a.d2, a.d3, x5]) (HOsp23.out.below HC49.out) 0 (Nat.zero_lt_succ 5), StrsAt.cell (L := [x0, a.d0, a.d1, a.d2, a.d3, x5]) (HOsp23.out.below HC49.out) 5 (Nat.lt_succ_self 5)⟩)
              clear hHeld16 hK K
              try simp only [List.getElem_toArray, List.getElem_cons_zero, List.getElem_cons_succ, Act.put, List.setIfInBounds_toArray, List.set_cons_zero, List.set_cons_succ]
              refine wpAnyH_ready (rs := [3, 6]) (by kernel_rfl) (by simp) ?_
              refine AllReadyH.cons (o := _) rfl (fun K hK => ?_) ?_
              · skip
                go_simp
                (skip; have HKm50 := Lib.hid (HKm49.out.alloc (.cells #[sv x0] 9)); have HKo50 := Lib.hid (HKo49.out.alloc (.cells #[sv x0] 9)); have HKz50 := Lib.hid (Blk.new yw49 9 #[sv x0] 0 0 (Or.inl (Nat.le_refl _))); have HC50 := Lib.hid (HC49.out.alloc HC49.out.size (.cells #[sv x0] 9)); generalize World.alloc _ _ = yw50 at HKm50 HKo50 HKz50 HC50 ⊢)
                refine hK.out _ _ ?_ (fun hHeld39 => ?_)
                · (first | exact ⟨StrsAt.cell (L := [x0, a.d0, a.d1, a.d2, a.d3, x5]) (HOsp23.out.below HC50.out) 0 (Nat.zero_lt_succ 5), StrsAt.cell (L := [x0, a.d0, a.d1, a.d2, a.d3, x5]) (HOsp23.out.below HC50.out) 5 (Nat.lt_succ_self 5)⟩)
                clear hHeld38 hK K
                try simp only [List.getElem_toArray, List.getElem_cons_zero, List.getElem_cons_succ, Act.put, List.setIfInBounds_toArray, List.set_cons_zero, List.set_cons_succ]
                refine wpAnyH_ready (rs := [6]) (by kernel_rfl) (by simp) ?_
                refine AllReadyH.cons (o := _) rfl (fun K hK => ?_) AllReadyH.nil
                (refine step_append_grows rfl (.tmp 86) (.tmp 87) 41 rfl 9 i0 (.string ⟨#[]⟩) 1 16 Try.underlying41 hi hz0 hz1 hz2 rfl (by decide) (some ⟨wF.heap.size, 0, none⟩) 0 0 ([] : List Value) rfl (fun h => by cases h) rfl (fun b hb j u hj => by cases hj) ⟨pa + 1 + 1, 0, none⟩ 4 4 ([T.d0, T.d1, T.d2, T.d3].map encStr) rfl rfl (blk_cells (HOx23.out.step HC50.out) rfl) (enc_one _) (by decide) (by decide) (by decide) ?_; intro v51 yw51 hown hg; have HKm51 := Lib.hid (HKm50.out.grownM hg (fun q hq => by cases hq)); have HKo51 := Lib.hid (HKo50.out.grownM hg (fun q hq => by cases hq)); have HKz51 := Lib.hid (HKz50.out.grownM hg (fun q hq => by cases hq)); have HC51 := Lib.hid (grown_step HC50.out hg); have HW51 := Lib.hid (own_weak hown HC50.out.size); have HNE51 := Lib.hid (fun q hq => Nat.ne_of_gt (Nat.lt_of_lt_of_le HKz50.out.lt (hown.lt q hq).1)); clear hown hg; (try go_simp))
                refine hK.out _ _ ?_ (fun hHeld40 => ?_)
                · (first | exact ⟨StrsAt.cell (L := [x0, a.d0, a.d1, a.d2, a.d3, x5]) (HOsp23.out.below HC51.out) 0 (Nat.zero_lt_succ 5), StrsAt.cell (L := [x0, a.d0, a.d1, a.d2, a.d3, x5]) (HOsp23.out.below HC51.out) 5 (Nat.lt_succ_self 5)⟩)
                clear hHeld39 hK K
                try simp only [List.getElem_toArray, List.getElem_cons_zero, List.getElem_cons_succ, Act.put, List.setIfInBounds_toArray, List.set_cons_zero, List.set_cons_succ]
                refine wpAnyH_ready (rs := [11]) (by kernel_rfl) (by simp) ?_
                refine AllReadyH.cons (o := _) rfl (fun K hK => ?_) AllReadyH.nil
                (refine step_append_lies _ rfl (.tmp 88) (.tmp 92) 41 rfl wF.heap.size 9 i0 (.string ⟨#[]⟩) 1 16 Try.underlying41 hi hz0 hz1 hz2 rfl (by decide) v51 4 ([T.d0, T.d1, T.d2, T.d3].map encStr) rfl HW51.out ⟨yw27.heap.size, 0, none⟩ 1 1 ([x5].map encStr) rfl rfl (blk_cells HKo51.out rfl) (enc_one _) (by decide) (by decide) (by decide) HC51.out.size _ rfl ?_; intro gl cl yw52 hown hg _ hgl; have HKz52 := Lib.hid (HKz51.out.grownNe hg HNE51.out); have HC52 := Lib.hid (HC51.out.grown hg HC51.out.size (fun q hq => (HW51.out.lt q hq).1)); have HW52 := Lib.hid hown; clear hown hg; (try go_simp))
                refine hK.out _ _ ?_ (fun hHeld41 => ?_)
                · (first | exact ⟨StrsAt.cell (L := [x0, a.d0, a.d1, a.d2, a.d3, x5]) (HOsp23.out.below HC52.out) 0 (Nat.zero_lt_succ 5), StrsAt.cell (L := [x0, a.d0, a.d1, a.d2, a.d3, x5]) (HOsp23.out.below HC52.out) 5 (Nat.lt_succ_self 5)⟩)
                clear hHeld40 hK K
                try simp only [List.getElem_toArray, List.getElem_cons_zero, List.getElem_cons_succ, Act.put, List.setIfInBounds_toArray, List.set_cons_zero, List.set_cons_succ]
                refine wpAnyH_ready (rs := [12]) (by kernel_rfl) (by simp) ?_
                refine AllReadyH.cons (o := _) rfl (fun K hK => ?_) AllReadyH.nil
                (refine step_append_grows rfl (.tmp 85) (.tmp 93) 41 rfl 9 i0 (.string ⟨#[]⟩) 1 16 Try.underlying41 hi hz0 hz1 hz2 rfl (by decide) (some ⟨yw49.heap.size, 0, none⟩) 1 1 ([x0].map encStr) rfl (fun h => by cases h) rfl (fun b hb j u hj => by obtain rfl := Option.some.inj hb; exact blk_cells HKz52.out rfl j u hj) ⟨gl, 0, none⟩ 5 cl ([T.d0, T.d1, T.d2, T.d3, x5].map encStr) rfl rfl (own_cells (by first | rw [List.map_append] | skip; exact HW52.out)) (enc_one _) (by decide) (by decide) (by decide) ?_; intro v53 yw53 hown hg; have HC53 := Lib.hid (grown_step HC52.out hg); have HW53 := Lib.hid (own_weak hown HC52.out.size); clear hown hg; (try go_simp))
                refine hK.out _ _ ?_ (fun hHeld42 => ?_)
                · (first | exact ⟨StrsAt.cell (L := [x0, a.d0, a.d1, a.d2, a.d3, x5]) (HOsp23.out.below HC53.out) 0 (Nat.zero_lt_succ 5), StrsAt.cell (L := [x0, a.d0, a.d1, a.d2, a.d3, x5]) (HOsp23.out.below HC53.out) 5 (Nat.lt_succ_self 5)⟩)
                clear hHeld41 hK K
                try simp only [List.getElem_toArray, List.getElem_cons_zero, List.getElem_cons_succ, Act.put, List.setIfInBounds_toArray, List.set_cons_zero, List.set_cons_succ]
                refine wpAnyH_take (i := 13) (oi := _) (v := ?vr4n13_47) rfl (by kernel_rfl) (by kernel_rfl) (by kernel_rfl) (fun _ _ _ h => h) (Or.inl ⟨by kernel_rfl, ?hr4n13_47⟩) hHeld42 ?_
                case hr4n13_47 => (intro w hSw; (try dsimp only at hSw); go_simp; try (with_reducible rfl))
                try simp only [List.getElem_toArray, List.getElem_cons_zero, List.getElem_cons_succ, Act.put, List.setIfInBounds_toArray, List.set_cons_zero, List.set_cons_succ]
                refine wpAnyH_done (by kernel_rfl) ?_ _
                refine NoPanic.normal ?_
                go_wp2_with fail
                go_meet
                exact ⟨⟨_, by rw [← HD6.out]; exact HW53.out⟩, HC53.out⟩
              refine AllReadyH.cons (o := _) rfl (fun K hK => ?_) AllReadyH.nil
              (refine step_append_grows rfl (.tmp 86) (.tmp 87) 41 rfl 9 i0 (.string ⟨#[]⟩) 1 16 Try.underlying41 hi hz0 hz1 hz2 rfl (by decide) (some ⟨wF.heap.size, 0, none⟩) 0 0 ([] : List Value) rfl (fun h => by cases h) rfl (fun b hb j u hj => by cases hj) ⟨pa + 1 + 1, 0, none⟩ 4 4 ([T.d0, T.d1, T.d2, T.d3].map encStr) rfl rfl (blk_cells (HOx23.out.step HC49.out) rfl) (enc_one _) (by decide) (by decide) (by decide) ?_; intro v54 yw54 hown hg; have HKm54 := Lib.hid (HKm49.out.grownM hg (fun q hq => by cases hq)); have HKo54 := Lib.hid (HKo49.out.grownM hg (fun q hq => by cases hq)); have HC54 := Lib.hid (grown_step HC49.out hg); have HW54 := Lib.hid (own_weak hown HC49.out.size); clear hown hg; (try go_simp))
              refine hK.out _ _ ?_ (fun hHeld43 => ?_)
              · (first | exact ⟨StrsAt.cell (L := [x0, a.d0, a.d1, a.d2, a.d3, x5]) (HOsp23.out.below HC54.out) 0 (Nat.zero_lt_succ 5), StrsAt.cell (L := [x0, a.d0, a.d1, a.d2, a.d3, x5]) (HOsp23.out.below HC54.out) 5 (Nat.lt_succ_self 5)⟩)
              clear hHeld38 hK K
              try simp only [List.getElem_toArray, List.getElem_cons_zero, List.getElem_cons_succ, Act.put, List.setIfInBounds_toArray, List.set_cons_zero, List.set_cons_succ]
              refine wpAnyH_ready (rs := [3, 11]) (by kernel_rfl) (by simp) ?_
              refine AllReadyH.cons (o := _) rfl (fun K hK => ?_) ?_
              · skip
                go_simp
                (skip; have HKm55 := Lib.hid (HKm54.out.alloc (.cells #[sv x0] 9)); have HKo55 := Lib.hid (HKo54.out.alloc (.cells #[sv x0] 9)); have HKz55 := Lib.hid (Blk.new yw54 9 #[sv x0] 0 0 (Or.inl (Nat.le_refl _))); have HW55 := Lib.hid (HW54.out.alloc (.cells #[sv x0] 9)); have HNE55 := Lib.hid (fun q hq => Nat.ne_of_lt (HW54.out.lt q hq).2); have HC55 := Lib.hid (HC54.out.alloc HC54.out.size (.cells #[sv x0] 9)); generalize World.alloc _ _ = yw55 at HKm55 HKo55 HKz55 HW55 HC55 ⊢)
                refine hK.out _ _ ?_ (fun hHeld44 => ?_)
                · (first | exact ⟨StrsAt.cell (L := [x0, a.d0, a.d1, a.d2, a.d3, x5]) (HOsp23.out.below HC55.out) 0 (Nat.zero_lt_succ 5), StrsAt.cell (L := [x0, a.d0, a.d1, a.d2, a.d3, x5]) (HOsp23.out.below HC55.out) 5 (Nat.lt_succ_self 5)⟩)
                clear hHeld43 hK K
                try simp only [List.getElem_toArray, List.getElem_cons_zero, List.getElem_cons_succ, Act.put, List.setIfInBounds_toArray, List.set_cons_zero, List.set_cons_succ]
                refine wpAnyH_ready (rs := [11]) (by kernel_rfl) (by simp) ?_
                refine AllReadyH.cons (o := _) rfl (fun K hK => ?_) AllReadyH.nil
                (refine step_append_lies _ rfl (.tmp 88) (.tmp 92) 41 rfl wF.heap.size 9 i0 (.string ⟨#[]⟩) 1 16 Try.underlying41 hi hz0 hz1 hz2 rfl (by decide) v54 4 ([T.d0, T.d1, T.d2, T.d3].map encStr) rfl HW55.out ⟨yw27.heap.size, 0, none⟩ 1 1 ([x5].map encStr) rfl rfl (blk_cells HKo55.out rfl) (enc_one _) (by decide) (by decide) (by decide) HC55.out.size _ rfl ?_; intro gl cl yw56 hown hg _ hgl; have HKz56 := Lib.hid (HKz55.out.grownNe hg HNE55.out); have HC56 := Lib.hid (HC55.out.grown hg HC55.out.size (fun q hq => (HW55.out.lt q hq).1)); have HW56 := Lib.hid hown; clear hown hg; (try go_simp))
                refine hK.out _ _ ?_ (fun hHeld45 => ?_)
                · (first | exact ⟨StrsAt.cell (L := [x0, a.d0, a.d1, a.d2, a.d3, x5]) (HOsp23.out.below HC56.out) 0 (Nat.zero_lt_succ 5), StrsAt.cell (L := [x0, a.d0, a.d1, a.d2, a.d3, x5]) (HOsp23.out.below HC56.out) 5 (Nat.lt_succ_self 5)⟩)
                clear hHeld44 hK K
                try simp only [List.getElem_toArray, List.getElem_cons_zero, List.getElem_cons_succ, Act.put, List.setIfInBounds_toArray, List.set_cons_zero, List.set_cons_succ]
                refine wpAnyH_ready (rs := [12]) (by kernel_rfl) (by simp) ?_
                refine AllReadyH.cons (o := _) rfl (fun K hK => ?_) AllReadyH.nil
                (refine step_append_grows rfl (.tmp 85) (.tmp 93) 41 rfl 9 i0 (.string ⟨#[]⟩) 1 16 Try.underlying41 hi hz0 hz1 hz2 rfl (by decide) (some ⟨yw54.heap.size, 0, none⟩) 1 1 ([x0].map encStr) rfl (fun h => by cases h) rfl (fun b hb j u hj => by obtain rfl := Option.some.inj hb; exact blk_cells HKz56.out rfl j u hj) ⟨gl, 0, none⟩ 5 cl ([T.d0, T.d1, T.d2, T.d3, x5].map encStr) rfl rfl (own_cells (by first | rw [List.map_append] | skip; exact HW56.out)) (enc_one _) (by decide) (by decide) (by decide) ?_; intro v57 yw57 hown hg; have HC57 := Lib.hid (grown_step HC56.out hg); have HW57 := Lib.hid (own_weak hown HC56.out.size); clear hown hg; (try go_simp))
                refine hK.out _ _ ?_ (fun hHeld46 => ?_)
                · (first | exact ⟨StrsAt.cell (L := [x0, a.d0, a.d1, a.d2, a.d3, x5]) (HOsp23.out.below HC57.out) 0 (Nat.zero_lt_succ 5), StrsAt.cell (L := [x0, a.d0, a.d1, a.d2, a.d3, x5]) (HOsp23.out.below HC57.out) 5 (Nat.lt_succ_self 5)⟩)
                clear hHeld45 hK K
                try simp only [List.getElem_toArray, List.getElem_cons_zero, List.getElem_cons_succ, Act.put, List.setIfInBounds_toArray, List.set_cons_zero, List.set_cons_succ]
                refine wpAnyH_take (i := 13) (oi := _) (v := ?vr4n13_48) rfl (by kernel_rfl) (by kernel_rfl) (by kernel_rfl) (fun _ _ _ h => h) (Or.inl ⟨by kernel_rfl, ?hr4n13_48⟩) hHeld46 ?_
                case hr4n13_48 => (intro w hSw; (try dsimp only at hSw); go_simp; try (with_reducible rfl))
                try simp only [List.getElem_toArray, List.getElem_cons_zero, List.getElem_cons_succ, Act.put, List.setIfInBounds_toArray, List.set_cons_zero, List.set_cons_succ]
                refine wpAnyH_done (by kernel_rfl) ?_ _
                refine NoPanic.normal ?_
                go_wp2_with fail
                go_meet
                exact ⟨⟨_, by rw [← HD6.out]; exact HW57.out⟩, HC57.out⟩
              refine AllReadyH.cons (o := _) rfl (fun K hK => ?_) AllReadyH.nil
              (refine step_append_lies _ rfl (.tmp 88) (.tmp 92) 41 rfl wF.heap.size 9 i0 (.string ⟨#[]⟩) 1 16 Try.underlying41 hi hz0 hz1 hz2 rfl (by decide) v54 4 ([T.d0, T.d1, T.d2, T.d3].map encStr) rfl HW54.out ⟨yw27.heap.size, 0, none⟩ 1 1 ([x5].map encStr) rfl rfl (blk_cells HKo54.out rfl) (enc_one _) (by decide) (by decide) (by decide) HC54.out.size _ rfl ?_; intro gl cl yw58 hown hg _ hgl; have HC58 := Lib.hid (HC54.out.grown hg HC54.out.size (fun q hq => (HW54.out.lt q hq).1)); have HW58 := Lib.hid hown; clear hown hg; (try go_simp))
              refine hK.out _ _ ?_ (fun hHeld47 => ?_)
              · (first | exact ⟨StrsAt.cell (L := [x0, a.d0, a.d1, a.d2, a.d3, x5]) (HOsp23.out.below HC58.out) 0 (Nat.zero_lt_succ 5), StrsAt.cell (L := [x0, a.d0, a.d1, a.d2, a.d3, x5]) (HOsp23.out.below HC58.out) 5 (Nat.lt_succ_self 5)⟩)
              clear hHeld43 hK K
              try simp only [List.getElem_toArray, List.getElem_cons_zero, List.getElem_cons_succ, Act.put, List.setIfInBounds_toArray, List.set_cons_zero, List.set_cons_succ]
              refine wpAnyH_ready (rs := [3]) (by kernel_rfl) (by simp) ?_
              refine AllReadyH.cons (o := _) rfl (fun K hK => ?_) AllReadyH.nil
              go_simp
              (skip; have HKz59 := Lib.hid (Blk.new yw58 9 #[sv x0] 0 0 (Or.inl (Nat.le_refl _))); have HW59 := Lib.hid (HW58.out.alloc (.cells #[sv x0] 9)); have HNE59 := Lib.hid (fun q hq => Nat.ne_of_lt (HW58.out.lt q hq).2); have HC59 := Lib.hid (HC58.out.alloc HC58.out.size (.cells #[sv x0] 9)); generalize World.alloc _ _ = yw59 at HKz59 HW59 HC59 ⊢)
              refine hK.out _ _ ?_ (fun hHeld48 => ?_)
              · (first | exact ⟨StrsAt.cell (L := [x0, a.d0, a.d1, a.d2, a.d3, x5]) (HOsp23.out.below HC59.out) 0 (Nat.zero_lt_succ 5), StrsAt.cell (L := [x0, a.d0, a.d1, a.d2, a.d3, x5]) (HOsp23.out.below HC59.out) 5 (Nat.lt_succ_self 5)⟩)
              clear hHeld47 hK K
              try simp only [List.getElem_toArray, List.getElem_cons_zero, List.getElem_cons_succ, Act.put, List.setIfInBounds_toArray, List.set_cons_zero, List.set_cons_succ]
              refine wpAnyH_ready (rs := [12]) (by kernel_rfl) (by simp) ?_
              refine AllReadyH.cons (o := _) rfl (fun K hK => ?_) AllReadyH.nil
              (refine step_append_grows rfl (.tmp 85) (.tmp 93) 41 rfl 9 i0 (.string ⟨#[]⟩) 1 16 Try.underlying41 hi hz0 hz1 hz2 rfl (by decide) (some ⟨yw58.heap.size, 0, none⟩) 1 1 ([x0].map encStr) rfl (fun h => by cases h) rfl (fun b hb j u hj => by obtain rfl := Option.some.inj hb; exact blk_cells HKz59.out rfl j u hj) ⟨gl, 0, none⟩ 5 cl ([T.d0, T.d1, T.d2, T.d3, x5].map encStr) rfl rfl (own_cells (by first | rw [List.map_append] | skip; exact HW59.out)) (enc_one _) (by decide) (by decide) (by decide) ?_; intro v60 yw60 hown hg; have HC60 := Lib.hid (grown_step HC59.out hg); have HW60 := Lib.hid (own_weak hown HC59.out.size); clear hown hg; (try go_simp))
              refine hK.out _ _ ?_ (fun hHeld49 => ?_)
              · (first | exact ⟨StrsAt.cell (L := [x0, a.d0, a.d1, a.d2, a.d3, x5]) (HOsp23.out.below HC60.out) 0 (Nat.zero_lt_succ 5), StrsAt.cell (L := [x0, a.d0, a.d1, a.d2, a.d3, x5]) (HOsp23.out.below HC60.out) 5 (Nat.lt_succ_self 5)⟩)
              clear hHeld48 hK K
              try simp only [List.getElem_toArray, List.getElem_cons_zero, List.getElem_cons_succ, Act.put, List.setIfInBounds_toArray, List.set_cons_zero, List.set_cons_succ]
              refine wpAnyH_take (i := 13) (oi := _) (v := ?vr4n13_49) rfl (by kernel_rfl) (by kernel_rfl) (by kernel_rfl) (fun _ _ _ h => h) (Or.inl ⟨by kernel_rfl, ?hr4n13_49⟩) hHeld49 ?_
              case hr4n13_49 => (intro w hSw; (try dsimp only at hSw); go_simp; try (with_reducible rfl))
              try simp only [List.getElem_toArray, List.getElem_cons_zero, List.getElem_cons_succ, Act.put, List.setIfInBounds_toArray, List.set_cons_zero, List.set_cons_succ]
              refine wpAnyH_done (by kernel_rfl) ?_ _
              refine NoPanic.normal ?_
              go_wp2_with fail
              go_meet
              exact ⟨⟨_, by rw [← HD6.out]; exact HW60.out⟩, HC60.out⟩
            refine AllReadyH.cons (o := _) rfl (fun K hK => ?_) AllReadyH.nil
            go_simp
            (skip; have HKo61 := Lib.hid ((Blk.new wF 9 #[sv x5] 0 0 (Or.inl (Nat.le_refl _))).drew); have HC61 := Lib.hid ((HCE.out.alloc HCE.out.size (.cells #[sv x5] 9)).drew); generalize World.drew (World.alloc _ _) = yw61 at HKo61 HC61 ⊢)
            refine hK.out _ _ ?_ (fun hHeld50 => ?_)
            · (first | exact ⟨StrsAt.cell (L := [x0, a.d0, a.d1, a.d2, a.d3, x5]) (HOsp23.out.below HC61.out) 0 (Nat.zero_lt_succ 5), StrsAt.cell (L := [x0, a.d0, a.d1, a.d2, a.d3, x5]) (HOsp23.out.below HC61.out) 5 (Nat.lt_succ_self 5)⟩)
            clear hHeld hK K
            try simp only [List.getElem_toArray, List.getElem_cons_zero, List.getElem_cons_succ, Act.put, List.setIfInBounds_toArray, List.set_cons_zero, List.set_cons_succ]
            refine wpAnyH_ready (rs := [3, 4]) (by kernel_rfl) (by simp) ?_
            refine AllReadyH.cons (o := _) rfl (fun K hK => ?_) ?_
            · skip
              go_simp
              (skip; have HKo62 := Lib.hid (HKo61.out.alloc (.cells #[sv x0] 9)); have HKz62 := Lib.hid (Blk.new yw61 9 #[sv x0] 0 0 (Or.inl (Nat.le_refl _))); have HC62 := Lib.hid (HC61.out.alloc HC61.out.size (.cells #[sv x0] 9)); generalize World.alloc _ _ = yw62 at HKo62 HKz62 HC62 ⊢)
              refine hK.out _ _ ?_ (fun hHeld51 => ?_)
              · (first | exact ⟨StrsAt.cell (L := [x0, a.d0, a.d1, a.d2, a.d3, x5]) (HOsp23.out.below HC62.out) 0 (Nat.zero_lt_succ 5), StrsAt.cell (L := [x0, a.d0, a.d1, a.d2, a.d3, x5]) (HOsp23.out.below HC62.out) 5 (Nat.lt_succ_self 5)⟩)
              clear hHeld50 hK K
              try simp only [List.getElem_toArray, List.getElem_cons_zero, List.getElem_cons_succ, Act.put, List.setIfInBounds_toArray, List.set_cons_zero, List.set_cons_succ]
              refine wpAnyH_ready (rs := [4]) (by kernel_rfl) (by simp) ?_
              refine AllReadyH.cons (o := _) rfl (fun K hK => ?_) AllReadyH.nil
              go_simp
              (skip; have HKo63 := Lib.hid (HKo62.out.alloc (.cells #[] 9)); have HKz63 := Lib.hid (HKz62.out.alloc (.cells #[] 9)); have HKm63 := Lib.hid (Blk.new yw62 9 #[] 0 0 (Or.inl (Nat.le_refl _))); have HC63 := Lib.hid (HC62.out.alloc HC62.out.size (.cells #[] 9)); generalize World.alloc _ _ = yw63 at HKo63 HKz63 HKm63 HC63 ⊢)
              refine hK.out _ _ ?_ (fun hHeld52 => ?_)
              · (first | exact ⟨StrsAt.cell (L := [x0, a.d0, a.d1, a.d2, a.d3, x5]) (HOsp23.out.below HC63.out) 0 (Nat.zero_lt_succ 5), StrsAt.cell (L := [x0, a.d0, a.d1, a.d2, a.d3, x5]) (HOsp23.out.below HC63.out) 5 (Nat.lt_succ_self 5)⟩)
              clear hHeld51 hK K
              try simp only [List.getElem_toArray, List.getElem_cons_zero, List.getElem_cons_succ, Act.put, List.setIfInBounds_toArray, List.set_cons_zero, List.set_cons_succ]
              refine wpAnyH_ready (rs := [6]) (by kernel_rfl) (by simp) ?_
              refine AllReadyH.cons (o := _) rfl (fun K hK => ?_) AllReadyH.nil
              (refine step_append_grows rfl (.tmp 86) (.tmp 87) 41 rfl 9 i0 (.string ⟨#[]⟩) 1 16 Try.underlying41 hi hz0 hz1 hz2 rfl (by decide) (some ⟨yw62.heap.size, 0, none⟩) 0 0 ([] : List Value) rfl (fun h => by cases h) rfl (fun b hb j u hj => by cases hj) ⟨pa + 1 + 1, 0, none⟩ 4 4 ([T.d0, T.d1, T.d2, T.d3].map encStr) rfl rfl (blk_cells (HOx23.out.step HC63.out) rfl) (enc_one _) (by decide) (by decide) (by decide) ?_; intro v64 yw64 hown hg; have HKo64 := Lib.hid (HKo63.out.grownM hg (fun q hq => by cases hq)); have HKz64 := Lib.hid (HKz63.out.grownM hg (fun q hq => by cases hq)); have HKm64 := Lib.hid (HKm63.out.grownM hg (fun q hq => by cases hq)); have HC64 := Lib.hid (grown_step HC63.out hg); have HW64 := Lib.hid (own_weak hown HC63.out.size); have HNE64 := Lib.hid (fun q hq => Nat.ne_of_gt (Nat.lt_of_lt_of_le HKz63.out.lt (hown.lt q hq).1)); clear hown hg; (try go_simp))
              refine hK.out _ _ ?_ (fun hHeld53 => ?_)
              · (first | exact ⟨StrsAt.cell (L := [x0, a.d0, a.d1, a.d2, a.d3, x5]) (HOsp23.out.below HC64.out) 0 (Nat.zero_lt_succ 5), StrsAt.cell (L := [x0, a.d0, a.d1, a.d2, a.d3, x5]) (HOsp23.out.below HC64.out) 5 (Nat.lt_succ_self 5)⟩)
              clear hHeld52 hK K
              try simp only [List.getElem_toArray, List.getElem_cons_zero, List.getElem_cons_succ, Act.put, List.setIfInBounds_toArray, List.set_cons_zero, List.set_cons_succ]
              refine wpAnyH_ready (rs := [11]) (by kernel_rfl) (by simp) ?_
              refine AllReadyH.cons (o := _) rfl (fun K hK => ?_) AllReadyH.nil
              (refine step_append_lies _ rfl (.tmp 88) (.tmp 92) 41 rfl wF.heap.size 9 i0 (.string ⟨#[]⟩) 1 16 Try.underlying41 hi hz0 hz1 hz2 rfl (by decide) v64 4 ([T.d0, T.d1, T.d2, T.d3].map encStr) rfl HW64.out ⟨wF.heap.size, 0, none⟩ 1 1 ([x5].map encStr) rfl rfl (blk_cells HKo64.out rfl) (enc_one _) (by decide) (by decide) (by decide) HC64.out.size _ rfl ?_; intro gl cl yw65 hown hg _ hgl; have HKz65 := Lib.hid (HKz64.out.grownNe hg HNE64.out); have HC65 := Lib.hid (HC64.out.grown hg HC64.out.size (fun q hq => (HW64.out.lt q hq).1)); have HW65 := Lib.hid hown; clear hown hg; (try go_simp))
              refine hK.out _ _ ?_ (fun hHeld54 => ?_)
              · (first | exact ⟨StrsAt.cell (L := [x0, a.d0, a.d1, a.d2, a.d3, x5]) (HOsp23.out.below HC65.out) 0 (Nat.zero_lt_succ 5), StrsAt.cell (L := [x0, a.d0, a.d1, a.d2, a.d3, x5]) (HOsp23.out.below HC65.out) 5 (Nat.lt_succ_self 5)⟩)
              clear hHeld53 hK K
              try simp only [List.getElem_toArray, List.getElem_cons_zero, List.getElem_cons_succ, Act.put, List.setIfInBounds_toArray, List.set_cons_zero, List.set_cons_succ]
              refine wpAnyH_ready (rs := [12]) (by kernel_rfl) (by simp) ?_
              refine AllReadyH.cons (o := _) rfl (fun K hK => ?_) AllReadyH.nil
              (refine step_append_grows rfl (.tmp 85) (.tmp 93) 41 rfl 9 i0 (.string ⟨#[]⟩) 1 16 Try.underlying41 hi hz0 hz1 hz2 rfl (by decide) (some ⟨yw61.heap.size, 0, none⟩) 1 1 ([x0].map encStr) rfl (fun h => by cases h) rfl (fun b hb j u hj => by obtain rfl := Option.some.inj hb; exact blk_cells HKz65.out rfl j u hj) ⟨gl, 0, none⟩ 5 cl ([T.d0, T.d1, T.d2, T.d3, x5].map encStr) rfl rfl (own_cells (by first | rw [List.map_append] | skip; exact HW65.out)) (enc_one _) (by decide) (by decide) (by decide) ?_; intro v66 yw66 hown hg; have HC66 := Lib.hid (grown_step HC65.out hg); have HW66 := Lib.hid (own_weak hown HC65.out.size); clear hown hg; (try go_simp))
              refine hK.out _ _ ?_ (fun hHeld55 => ?_)
              · (first | exact ⟨StrsAt.cell (L := [x0, a.d0, a.d1, a.d2, a.d3, x5]) (HOsp23.out.below HC66.out) 0 (Nat.zero_lt_succ 5), StrsAt.cell (L := [x0, a.d0, a.d1, a.d2, a.d3, x5]) (HOsp23.out.below HC66.out) 5 (Nat.lt_succ_self 5)⟩)
              clear hHeld54 hK K
              try simp only [List.getElem_toArray, List.getElem_cons_zero, List.getElem_cons_succ, Act.put, List.setIfInBounds_toArray, List.set_cons_zero, List.set_cons_succ]
              refine wpAnyH_take (i := 13) (oi := _) (v := ?vr4n13_50) rfl (by kernel_rfl) (by kernel_rfl) (by kernel_rfl) (fun _ _ _ h => h) (Or.inl ⟨by kernel_rfl, ?hr4n13_50⟩) hHeld55 ?_
              case hr4n13_50 => (intro w hSw; (try dsimp only at hSw); go_simp; try (with_reducible rfl))
              try simp only [List.getElem_toArray, List.getElem_cons_zero, List.getElem_cons_succ, Act.put, List.setIfInBounds_toArray, List.set_cons_zero, List.set_cons_succ]
              refine wpAnyH_done (by kernel_rfl) ?_ _
              refine NoPanic.normal ?_
              go_wp2_with fail
              go_meet
              exact ⟨⟨_, by rw [← HD6.out]; exact HW66.out⟩, HC66.out⟩
            refine AllReadyH.cons (o := _) rfl (fun K hK => ?_) AllReadyH.nil
            go_simp
            (skip; have HKo67 := Lib.hid (HKo61.out.alloc (.cells #[] 9)); have HKm67 := Lib.hid (Blk.new yw61 9 #[] 0 0 (Or.inl (Nat.le_refl _))); have HC67 := Lib.hid (HC61.out.alloc HC61.out.size (.cells #[] 9)); generalize World.alloc _ _ = yw67 at HKo67 HKm67 HC67 ⊢)
            refine hK.out _ _ ?_ (fun hHeld56 => ?_)
            · (first | exact ⟨StrsAt.cell (L := [x0, a.d0, a.d1, a.d2, a.d3, x5]) (HOsp23.out.below HC67.out) 0 (Nat.zero_lt_succ 5), StrsAt.cell (L := [x0, a.d0, a.d1, a.d2, a.d3, x5]) (HOsp23.out.below HC67.out) 5 (Nat.lt_succ_self 5)⟩)
            clear hHeld50 hK K
            try simp only [List.getElem_toArray, List.getElem_cons_zero, List.getElem_cons_succ, Act.put, List.setIfInBounds_toArray, List.set_cons_zero, List.set_cons_succ]
            refine wpAnyH_ready (rs := [3, 6]) (by kernel_rfl) (by simp) ?_
            refine AllReadyH.cons (o := _) rfl (fun K hK => ?_) ?_
            · skip
              go_simp
              (skip; have HKo68 := Lib.hid (HKo67.out.alloc (.cells #[sv x0] 9)); have HKm68 := Lib.hid (HKm67.out.alloc (.cells #[sv x0] 9)); have HKz68 := Lib.hid (Blk.new yw67 9 #[sv x0] 0 0 (Or.inl (Nat.le_refl _))); have HC68 := Lib.hid (HC67.out.alloc HC67.out.size (.cells #[sv x0] 9)); generalize World.alloc _ _ = yw68 at HKo68 HKm68 HKz68 HC68 ⊢)
              refine hK.out _ _ ?_ (fun hHeld57 => ?_)
              · (first | exact ⟨StrsAt.cell (L := [x0, a.d0, a.d1, a.d2, a.d3, x5]) (HOsp23.out.below HC68.out) 0 (Nat.zero_lt_succ 5), StrsAt.cell (L := [x0, a.d0, a.d1, a.d2, a.d3, x5]) (HOsp23.out.below HC68.out) 5 (Nat.lt_succ_self 5)⟩)
              clear hHeld56 hK K
              try simp only [List.getElem_toArray, List.getElem_cons_zero, List.getElem_cons_succ, Act.put, List.setIfInBounds_toArray, List.set_cons_zero, List.set_cons_succ]
              refine wpAnyH_ready (rs := [6]) (by kernel_rfl) (by simp) ?_
              refine AllReadyH.cons (o := _) rfl (fun K hK => ?_) AllReadyH.nil
              (refine step_append_grows rfl (.tmp 86) (.tmp 87) 41 rfl 9 i0 (.string ⟨#[]⟩) 1 16 Try.underlying41 hi hz0 hz1 hz2 rfl (by decide) (some ⟨yw61.heap.size, 0, none⟩) 0 0 ([] : List Value) rfl (fun h => by cases h) rfl (fun b hb j u hj => by cases hj) ⟨pa + 1 + 1, 0, none⟩ 4 4 ([T.d0, T.d1, T.d2, T.d3].map encStr) rfl rfl (blk_cells (HOx23.out.step HC68.out) rfl) (enc_one _) (by decide) (by decide) (by decide) ?_; intro v69 yw69 hown hg; have HKo69 := Lib.hid (HKo68.out.grownM hg (fun q hq => by cases hq)); have HKm69 := Lib.hid (HKm68.out.grownM hg (fun q hq => by cases hq)); have HKz69 := Lib.hid (HKz68.out.grownM hg (fun q hq => by cases hq)); have HC69 := Lib.hid (grown_step HC68.out hg); have HW69 := Lib.hid (own_weak hown HC68.out.size); have HNE69 := Lib.hid (fun q hq => Nat.ne_of_gt (Nat.lt_of_lt_of_le HKz68.out.lt (hown.lt q hq).1)); clear hown hg; (try go_simp))
              refine hK.out _ _ ?_ (fun hHeld58 => ?_)
              · (first | exact ⟨StrsAt.cell (L := [x0, a.d0, a.d1, a.d2, a.d3, x5]) (HOsp23.out.below HC69.out) 0 (Nat.zero_lt_succ 5), StrsAt.cell (L := [x0, a.d0, a.d1, a.d2, a.d3, x5]) (HOsp23.out.below HC69.out) 5 (Nat.lt_succ_self 5)⟩)
              clear hHeld57 hK K
              try simp only [List.getElem_toArray, List.getElem_cons_zero, List.getElem_cons_succ, Act.put, List.setIfInBounds_toArray, List.set_cons_zero, List.set_cons_succ]
              refine wpAnyH_ready (rs := [11]) (by kernel_rfl) (by simp) ?_
              refine AllReadyH.cons (o := _) rfl (fun K hK => ?_) AllReadyH.nil
              (refine step_append_lies _ rfl (.tmp 88) (.tmp 92) 41 rfl wF.heap.size 9 i0 (.string ⟨#[]⟩) 1 16 Try.underlying41 hi hz0 hz1 hz2 rfl (by decide) v69 4 ([T.d0, T.d1, T.d2, T.d3].map encStr) rfl HW69.out ⟨wF.heap.size, 0, none⟩ 1 1 ([x5].map encStr) rfl rfl (blk_cells HKo69.out rfl) (enc_one _) (by decide) (by decide) (by decide) HC69.out.size _ rfl ?_; intro gl cl yw70 hown hg _ hgl; have HKz70 := Lib.hid (HKz69.out.grownNe hg HNE69.out); have HC70 := Lib.hid (HC69.out.grown hg HC69.out.size (fun q hq => (HW69.out.lt q hq).1)); have HW70 := Lib.hid hown; clear hown hg; (try go_simp))
              refine hK.out _ _ ?_ (fun hHeld59 => ?_)
              · (first | exact ⟨StrsAt.cell (L := [x0, a.d0, a.d1, a.d2, a.d3, x5]) (HOsp23.out.below HC70.out) 0 (Nat.zero_lt_succ 5), StrsAt.cell (L := [x0, a.d0, a.d1, a.d2, a.d3, x5]) (HOsp23.out.below HC70.out) 5 (Nat.lt_succ_self 5)⟩)
              clear hHeld58 hK K
              try simp only [List.getElem_toArray, List.getElem_cons_zero, List.getElem_cons_succ, Act.put, List.setIfInBounds_toArray, List.set_cons_zero, List.set_cons_succ]
              refine wpAnyH_ready (rs := [12]) (by kernel_rfl) (by simp) ?_
              refine AllReadyH.cons (o := _) rfl (fun K hK => ?_) AllReadyH.nil
              (refine step_append_grows rfl (.tmp 85) (.tmp 93) 41 rfl 9 i0 (.string ⟨#[]⟩) 1 16 Try.underlying41 hi hz0 hz1 hz2 rfl (by decide) (some ⟨yw67.heap.size, 0, none⟩) 1 1 ([x0].map encStr) rfl (fun h => by cases h) rfl (fun b hb j u hj => by obtain rfl := Option.some.inj hb; exact blk_cells HKz70.out rfl j u hj) ⟨gl, 0, none⟩ 5 cl ([T.d0, T.d1, T.d2, T.d3, x5].map encStr) rfl rfl (own_cells (by first | rw [List.map_append] | skip; exact HW70.out)) (enc_one _) (by decide) (by decide) (by decide) ?_; intro v71 yw71 hown hg; have HC71 := Lib.hid (grown_step HC70.out hg); have HW71 := Lib.hid (own_weak hown HC70.out.size); clear hown hg; (try go_simp))
              refine hK.out _ _ ?_ (fun hHeld60 => ?_)
              · (first | exact ⟨StrsAt.cell (L := [x0, a.d0, a.d1, a.d2, a.d3, x5]) (HOsp23.out.below HC71.out) 0 (Nat.zero_lt_succ 5), StrsAt.cell (L := [x0, a.d0, a.d1, a.d2, a.d3, x5]) (HOsp23.out.below HC71.out) 5 (Nat.lt_succ_self 5)⟩)
              clear hHeld59 hK K
              try simp only [List.getElem_toArray, List.getElem_cons_zero, List.getElem_cons_succ, Act.put, List.setIfInBounds_toArray, List.set_cons_zero, List.set_cons_succ]
              refine wpAnyH_take (i := 13) (oi := _) (v := ?vr4n13_51) rfl (by kernel_rfl) (by kernel_rfl) (by kernel_rfl) (fun _ _ _ h => h) (Or.inl ⟨by kernel_rfl, ?hr4n13_51⟩) hHeld60 ?_
              case hr4n13_51 => (intro w hSw; (try dsimp only at hSw); go_simp; try (with_reducible rfl))
              try simp only [List.getElem_toArray, List.getElem_cons_zero, List.getElem_cons_succ, Act.put, List.setIfInBounds_toArray, List.set_cons_zero, List.set_cons_succ]
              refine wpAnyH_done (by kernel_rfl) ?_ _
              refine NoPanic.normal ?_
              go_wp2_with fail
              go_meet
              exact ⟨⟨_, by rw [← HD6.out]; exact HW71.out⟩, HC71.out⟩
            refine AllReadyH.cons (o := _) rfl (fun K hK => ?_) AllReadyH.nil
            (refine step_append_grows rfl (.tmp 86) (.tmp 87) 41 rfl 9 i0 (.string ⟨#[]⟩) 1 16 Try.underlying41 hi hz0 hz1 hz2 rfl (by decide) (some ⟨yw61.heap.size, 0, none⟩) 0 0 ([] : List Value) rfl (fun h => by cases h) rfl (fun b hb j u hj => by cases hj) ⟨pa + 1 + 1, 0, none⟩ 4 4 ([T.d0, T.d1, T.d2, T.d3].map encStr) rfl rfl (blk_cells (HOx23.out.step HC67.out) rfl) (enc_one _) (by decide) (by decide) (by decide) ?_; intro v72 yw72 hown hg; have HKo72 := Lib.hid (HKo67.out.grownM hg (fun q hq => by cases hq)); have HKm72 := Lib.hid (HKm67.out.grownM hg (fun q hq => by cases hq)); have HC72 := Lib.hid (grown_step HC67.out hg); have HW72 := Lib.hid (own_weak hown HC67.out.size); clear hown hg; (try go_simp))
            refine hK.out _ _ ?_ (fun hHeld61 => ?_)
            · (first | exact ⟨StrsAt.cell (L := [x0, a.d0, a.d1, a.d2, a.d3, x5]) (HOsp23.out.below HC72.out) 0 (Nat.zero_lt_succ 5), StrsAt.cell (L := [x0, a.d0, a.d1, a.d2, a.d3, x5]) (HOsp23.out.below HC72.out) 5 (Nat.lt_succ_self 5)⟩)
            clear hHeld56 hK K
            try simp only [List.getElem_toArray, List.getElem_cons_zero, List.getElem_cons_succ, Act.put, List.setIfInBounds_toArray, List.set_cons_zero, List.set_cons_succ]
            refine wpAnyH_ready (rs := [3, 11]) (by kernel_rfl) (by simp) ?_
            refine AllReadyH.cons (o := _) rfl (fun K hK => ?_) ?_
            · skip
              go_simp
              (skip; have HKo73 := Lib.hid (HKo72.out.alloc (.cells #[sv x0] 9)); have HKm73 := Lib.hid (HKm72.out.alloc (.cells #[sv x0] 9)); have HKz73 := Lib.hid (Blk.new yw72 9 #[sv x0] 0 0 (Or.inl (Nat.le_refl _))); have HW73 := Lib.hid (HW72.out.alloc (.cells #[sv x0] 9)); have HNE73 := Lib.hid (fun q hq => Nat.ne_of_lt (HW72.out.lt q hq).2); have HC73 := Lib.hid (HC72.out.alloc HC72.out.size (.cells #[sv x0] 9)); generalize World.alloc _ _ = yw73 at HKo73 HKm73 HKz73 HW73 HC73 ⊢)
              refine hK.out _ _ ?_ (fun hHeld62 => ?_)
              · (first | exact ⟨StrsAt.cell (L := [x0, a.d0, a.d1, a.d2, a.d3, x5]) (HOsp23.out.below HC73.out) 0 (Nat.zero_lt_succ 5), StrsAt.cell (L := [x0, a.d0, a.d1, a.d2, a.d3, x5]) (HOsp23.out.below HC73.out) 5 (Nat.lt_succ_self 5)⟩)
              clear hHeld61 hK K
              try simp only [List.getElem_toArray, List.getElem_cons_zero, List.getElem_cons_succ, Act.put, List.setIfInBounds_toArray, List.set_cons_zero, List.set_cons_succ]
              refine wpAnyH_ready (rs := [11]) (by kernel_rfl) (by simp) ?_
              refine AllReadyH.cons (o := _) rfl (fun K hK => ?_) AllReadyH.nil
              (refine step_append_lies _ rfl (.tmp 88) (.tmp 92) 41 rfl wF.heap.size 9 i0 (.string ⟨#[]⟩) 1 16 Try.underlying41 hi hz0 hz1 hz2 rfl (by decide) v72 4 ([T.d0, T.d1, T.d2, T.d3].map encStr) rfl HW73.out ⟨wF.heap.size, 0, none⟩ 1 1 ([x5].map encStr) rfl rfl (blk_cells HKo73.out rfl) (enc_one _) (by decide) (by decide) (by decide) HC73.out.size _ rfl ?_; intro gl cl yw74 hown hg _ hgl; have HKz74 := Lib.hid (HKz73.out.grownNe hg HNE73.out); have HC74 := Lib.hid (HC73.out.grown hg HC73.out.size (fun q hq => (HW73.out.lt q hq).1)); have HW74 := Lib.hid hown; clear hown hg; (try go_simp))
              refine hK.out _ _ ?_ (fun hHeld63 => ?_)
              · (first | exact ⟨StrsAt.cell (L := [x0, a.d0, a.d1, a.d2, a.d3, x5]) (HOsp23.out.below HC74.out) 0 (Nat.zero_lt_succ 5), StrsAt.cell (L := [x0, a.d0, a.d1, a.d2, a.d3, x5]) (HOsp23.out.below HC74.out) 5 (Nat.lt_succ_self 5)⟩)
              clear hHeld62 hK K
              try simp only [List.getElem_toArray, List.getElem_cons_zero, List.getElem_cons_succ, Act.put, List.setIfInBounds_toArray, List.set_cons_zero, List.set_cons_succ]
              refine wpAnyH_ready (rs := [12]) (by kernel_rfl) (by simp) ?_
              refine AllReadyH.cons (o := _) rfl (fun K hK => ?_) AllReadyH.nil
              (refine step_append_grows rfl (.tmp 85) (.tmp 93) 41 rfl 9 i0 (.string ⟨#[]⟩) 1 16 Try.underlying41 hi hz0 hz1 hz2 rfl (by decide) (some ⟨yw72.heap.size, 0, none⟩) 1 1 ([x0].map encStr) rfl (fun h => by cases h) rfl (fun b hb j u hj => by obtain rfl := Option.some.inj hb; exact blk_cells HKz74.out rfl j u hj) ⟨gl, 0, none⟩ 5 cl ([T.d0, T.d1, T.d2, T.d3, x5].map encStr) rfl rfl (own_cells (by first | rw [List.map_append] | skip; exact HW74.out)) (enc_one _) (by decide) (by decide) (by decide) ?_; intro v75 yw75 hown hg; have HC75 := Lib.hid (grown_step HC74.out hg); have HW75 := Lib.hid (own_weak hown HC74.out.size); clear hown hg; (try go_simp))
              refine hK.out _ _ ?_ (fun hHeld64 => ?_)
              · (first | exact ⟨StrsAt.cell (L := [x0, a.d0, a.d1, a.d2, a.d3, x5]) (HOsp23.out.below HC75.out) 0 (Nat.zero_lt_succ 5), StrsAt.cell (L := [x0, a.d0, a.d1, a.d2, a.d3, x5]) (HOsp23.out.below HC75.out) 5 (Nat.lt_succ_self 5)⟩)
              clear hHeld63 hK K
              try simp only [List.getElem_toArray, List.getElem_cons_zero, List.getElem_cons_succ, Act.put, List.setIfInBounds_toArray, List.set_cons_zero, List.set_cons_succ]
              refine wpAnyH_take (i := 13) (oi := _) (v := ?vr4n13_52) rfl (by kernel_rfl) (by kernel_rfl) (by kernel_rfl) (fun _ _ _ h => h) (Or.inl ⟨by kernel_rfl, ?hr4n13_52⟩) hHeld64 ?_
              case hr4n13_52 => (intro w hSw; (try dsimp only at hSw); go_simp; try (with_reducible rfl))
              try simp only [List.getElem_toArray, List.getElem_cons_zero, List.getElem_cons_succ, Act.put, List.setIfInBounds_toArray, List.set_cons_zero, List.set_cons_succ]
              refine wpAnyH_done (by kernel_rfl) ?_ _
              refine NoPanic.normal ?_
              go_wp2_with fail
              go_meet
              exact ⟨⟨_, by rw [← HD6.out]; exact HW75.out⟩, HC75.out⟩
            refine AllReadyH.cons (o := _) rfl (fun K hK => ?_) AllReadyH.nil
            (refine step_append_lies _ rfl (.tmp 88) (.tmp 92) 41 rfl wF.heap.size 9 i0 (.string ⟨#[]⟩) 1 16 Try.underlying41 hi hz0 hz1 hz2 rfl (by decide) v72 4 ([T.d0, T.d1, T.d2, T.d3].map encStr) rfl HW72.out ⟨wF.heap.size, 0, none⟩ 1 1 ([x5].map encStr) rfl rfl (blk_cells HKo72.out rfl) (enc_one _) (by decide) (by decide) (by decide) HC72.out.size _ rfl ?_; intro gl cl yw76 hown hg _ hgl; have HC76 := Lib.hid (HC72.out.grown hg HC72.out.size (fun q hq => (HW72.out.lt q hq).1)); have HW76 := Lib.hid hown; clear hown hg; (try go_simp))
            refine hK.out _ _ ?_ (fun hHeld65 => ?_)
            · (first | exact ⟨StrsAt.cell (L := [x0, a.d0, a.d1, a.d2, a.d3, x5]) (HOsp23.out.below HC76.out) 0 (Nat.zero_lt_succ 5), StrsAt.cell (L := [x0, a.d0, a.d1, a.d2, a.d3, x5]) (HOsp23.out.below HC76.out) 5 (Nat.lt_succ_self 5)⟩)
            clear hHeld61 hK K
            try simp only [List.getElem_toArray, List.getElem_cons_zero, List.getElem_cons_succ, Act.put, List.setIfInBounds_toArray, List.set_cons_zero, List.set_cons_succ]
            refine wpAnyH_ready (rs := [3]) (by kernel_rfl) (by simp) ?_
            refine AllReadyH.cons (o := _) rfl (fun K hK => ?_) AllReadyH.nil
            go_simp
            (skip; have HKz77 := Lib.hid (Blk.new yw76 9 #[sv x0] 0 0 (Or.inl (Nat.le_refl _))); have HW77 := Lib.hid (HW76.out.alloc (.cells #[sv x0] 9)); have HNE77 := Lib.hid (fun q hq => Nat.ne_of_lt (HW76.out.lt q hq).2); have HC77 := Lib.hid (HC76.out.alloc HC76.out.size (.cells #[sv x0] 9)); generalize World.alloc _ _ = yw77 at HKz77 HW77 HC77 ⊢)
            refine hK.out _ _ ?_ (fun hHeld66 => ?_)
            · (first | exact ⟨StrsAt.cell (L := [x0, a.d0, a.d1, a.d2, a.d3, x5]) (HOsp23.out.below HC77.out) 0 (Nat.zero_lt_succ 5), StrsAt.cell (L := [x0, a.d0, a.d1, a.d2, a.d3, x5]) (HOsp23.out.below HC77.out) 5 (Nat.lt_succ_self 5)⟩)
            clear hHeld65 hK K
            try simp only [List.getElem_toArray, List.getElem_cons_zero, List.getElem_cons_succ, Act.put, List.setIfInBounds_toArray, List.set_cons_zero, List.set_cons_succ]
            refine wpAnyH_ready (rs := [12]) (by kernel_rfl) (by simp) ?_
            refine AllReadyH.cons (o := _) rfl (fun K hK => ?_) AllReadyH.nil
            (refine step_append_grows rfl (.tmp 85) (.tmp 93) 41 rfl 9 i0 (.string ⟨#[]⟩) 1 16 Try.underlying41 hi hz0 hz1 hz2 rfl (by decide) (some ⟨yw76.heap.size, 0, none⟩) 1 1 ([x0].map encStr) rfl (fun h => by cases h) rfl (fun b hb j u hj => by obtain rfl := Option.some.inj hb; exact blk_cells HKz77.out rfl j u hj) ⟨gl, 0, none⟩ 5 cl ([T.d0, T.d1, T.d2, T.d3, x5].map encStr) rfl rfl (own_cells (by first | rw [List.map_append] | skip; exact HW77.out)) (enc_one _) (by decide) (by decide) (by decide) ?_; intro v78 yw78 hown hg; have HC78 := Lib.hid (grown_step HC77.out hg); have HW78 := Lib.hid (own_weak hown HC77.out.size); clear hown hg; (try go_simp))
            refine hK.out _ _ ?_ (fun hHeld67 => ?_)
            · (first | exact ⟨StrsAt.cell (L := [x0, a.d0, a.d1, a.d2, a.d3, x5]) (HOsp23.out.below HC78.out) 0 (Nat.zero_lt_succ 5), StrsAt.cell (L := [x0, a.d0, a.d1, a.d2, a.d3, x5]) (HOsp23.out.below HC78.out) 5 (Nat.lt_succ_self 5)⟩)
            clear hHeld66 hK K
            try simp only [List.getElem_toArray, List.getElem_cons_zero, List.getElem_cons_succ, Act.put, List.setIfInBounds_toArray, List.set_cons_zero, List.set_cons_succ]
            refine wpAnyH_take (i := 13) (oi := _) (v := ?vr4n13_53) rfl (by kernel_rfl) (by kernel_rfl) (by kernel_rfl) (fun _ _ _ h => h) (Or.inl ⟨by kernel_rfl, ?hr4n13_53⟩) hHeld67 ?_
            case hr4n13_53 => (intro w hSw; (try dsimp only at hSw); go_simp; try (with_reducible rfl))
            try simp only [List.getElem_toArray, List.getElem_cons_zero, List.getElem_cons_succ, Act.put, List.setIfInBounds_toArray, List.set_cons_zero, List.set_cons_succ]
            refine wpAnyH_done (by kernel_rfl) ?_ _
            refine NoPanic.normal ?_
            go_wp2_with fail
            go_meet
            exact ⟨⟨_, by rw [← HD6.out]; exact HW78.out⟩, HC78.out⟩
          case rest =>
            obtain ⟨⟨n, hown⟩, hbel⟩ := hcut
            have HOW := Lib.hid hown
            have HBW := Lib.hid hbel
            clear hown hbel HCE hi hz0 hz1 hz2
            have hb := HBW.out
            have HKa24 := Lib.hid (HKa23.out.step hb)
            have HKb24 := Lib.hid (HKb23.out.step hb)
            have HOx24 := Lib.hid (HOx23.out.step hb)
            have HOsp24 := Lib.hid (HOsp23.out.up hb)
            have HOsq24 := Lib.hid (HOsq23.out.up hb)
            have HOsn24 := Lib.hid (HOsn23.out.up hb)
            have HOso24 := Lib.hid (HOso23.out.up hb)
            have HB24 := Lib.hid (Below.step HB23.out hb)
            obtain ⟨Ad, cd, rfl, hq1, hst, hq2, hq3, hq4⟩ := own_strs HOW.out
            have HSd := Lib.hid hst
            have hln : D6.length = 6 := by rw [← HD6.out]; rfl
            try rw [hln]
            clear hb hst hln hq1 hq2 hq3 hq4 HOW HBW HKa23 HKb23 HOx23 HOsp23 HOsq23 HOsn23 HOso23 HB23
            have hep : wc.cell? ⟨pa, 0, none⟩ = some (.int .i64 a.ep) := HKa24.out.cell 0
            go_wp2_with fail
            refine (RDD.out _ _ _ HSd.out).mono ?_
            rintro e w25 ⟨v, rfl, hrec, hb⟩
            clear hep
            have HKa26 := Lib.hid (HKa24.out.step hb)
            have HKb26 := Lib.hid (HKb24.out.step hb)
            have HOx26 := Lib.hid (HOx24.out.step hb)
            have HOsp26 := Lib.hid (HOsp24.out.up hb)
            have HOsq26 := Lib.hid (HOsq24.out.up hb)
            have HOsn26 := Lib.hid (HOsn24.out.up hb)
            have HOso26 := Lib.hid (HOso24.out.up hb)
            have HOsd26 := Lib.hid (HSd.out.up hb)
            have HB26 := Lib.hid (Below.step HB24.out hb)
            obtain ⟨A_d, c_d, rfl, _, hrs, _⟩ := hrec.rs
            obtain ⟨bg, og, rfl, hbg, hcg⟩ := RsAt.one hrs
            have HSg := Lib.hid hrs
            clear hrs hbg hcg
            clear hb hrec HKa24 HKb24 HOx24 HOsp24 HOsq24 HOsn24 HOso24 HSd HB24
            go_upto_region 18 with fail
            have hsq := HTS.out.1
            have hrw := HTS.out.2
            have HGS : Hid (w25.cell? ⟨bg, og + 1, none⟩ = some (.int .i64 a.sq) ∧ w25.cell? ⟨pa, 1, none⟩ = some (.int .i64 a.sq) ∧ w25.cell? ⟨bg, og + 2, none⟩ = some (.int .i64 a.rw) ∧ w25.cell? ⟨pa, 2, none⟩ = some (.int .i64 a.rw)) := Lib.hid (by rw [← hsq, ← hrw]; exact ⟨RsAt.at1 HSg.out 1 rfl, by rw [hsq]; exact HKa26.out.cell 1, RsAt.at1 HSg.out 2 rfl, by rw [hrw]; exact HKa26.out.cell 2⟩)
            clear hsq hrw
            refine wp_region_noPanic ?_
            refine wp_region_held_drew (S := (fun w' => w'.cell? ⟨bg, og + 1, none⟩ = some (.int .i64 a.sq) ∧ w'.cell? ⟨pa, 1, none⟩ = some (.int .i64 a.sq) ∧ w'.cell? ⟨bg, og + 2, none⟩ = some (.int .i64 a.rw) ∧ w'.cell? ⟨pa, 2, none⟩ = some (.int .i64 a.rw))) (by kernel_rfl) (by first | exact HGS.out) (fun hHeld => ?_)
            refine wpAnyH_take (i := 0) (oi := _) (v := ?vr5n0_54) rfl (by kernel_rfl) (by kernel_rfl) (by kernel_rfl) (fun _ _ _ h => h) (Or.inl ⟨by kernel_rfl, ?hr5n0_54⟩) hHeld ?_
            case hr5n0_54 => (intro w hSw; (try dsimp only at hSw); go_simp; try (with_reducible rfl))
            try simp only [List.getElem_toArray, List.getElem_cons_zero, List.getElem_cons_succ, Act.put, List.setIfInBounds_toArray, List.set_cons_zero, List.set_cons_succ]
            refine wpAnyH_take (i := 1) (oi := _) (v := ?vr5n1_55) rfl (by kernel_rfl) (by kernel_rfl) (by kernel_rfl) (fun _ _ _ h => h) (Or.inl ⟨by kernel_rfl, ?hr5n1_55⟩) hHeld ?_
            case hr5n1_55 => (intro w hSw; (try dsimp only at hSw); go_simp; try (with_reducible rfl))
            try simp only [List.getElem_toArray, List.getElem_cons_zero, List.getElem_cons_succ, Act.put, List.setIfInBounds_toArray, List.set_cons_zero, List.set_cons_succ]
            refine wpAnyH_take (i := 2) (oi := _) (v := ?vr5n2_56) rfl (by kernel_rfl) (by kernel_rfl) (by kernel_rfl) (fun _ _ _ h => h) (Or.inl ⟨by kernel_rfl, ?hr5n2_56⟩) hHeld ?_
            case hr5n2_56 => (intro w hSw; (try dsimp only at hSw); go_simp; try (with_reducible rfl))
            try simp only [List.getElem_toArray, List.getElem_cons_zero, List.getElem_cons_succ, Act.put, List.setIfInBounds_toArray, List.set_cons_zero, List.set_cons_succ]
            refine wpAnyH_take (i := 3) (oi := _) (v := ?vr5n3_57) rfl (by kernel_rfl) (by kernel_rfl) (by kernel_rfl) (fun _ _ _ h => h) (Or.inl ⟨by kernel_rfl, ?hr5n3_57⟩) hHeld ?_
            case hr5n3_57 => (intro w hSw; (try dsimp only at hSw); go_simp; try (with_reducible rfl))
            try simp only [List.getElem_toArray, List.getElem_cons_zero, List.getElem_cons_succ, Act.put, List.setIfInBounds_toArray, List.set_cons_zero, List.set_cons_succ]
            refine wpAnyH_take (i := 4) (oi := _) (v := ?vr5n4_58) rfl (by kernel_rfl) (by kernel_rfl) (by kernel_rfl) (fun _ _ _ h => h) (Or.inl ⟨by kernel_rfl, ?hr5n4_58⟩) hHeld ?_
            case hr5n4_58 => (intro w hSw; (try dsimp only at hSw); go_simp; try (with_reducible rfl))
            try simp only [List.getElem_toArray, List.getElem_cons_zero, List.getElem_cons_succ, Act.put, List.setIfInBounds_toArray, List.set_cons_zero, List.set_cons_succ]
            refine wpAnyH_take (i := 5) (oi := _) (v := ?vr5n5_59) rfl (by kernel_rfl) (by kernel_rfl) (by kernel_rfl) (fun _ _ _ h => h) (Or.inl ⟨by kernel_rfl, ?hr5n5_59⟩) hHeld ?_
            case hr5n5_59 => (intro w hSw; (try dsimp only at hSw); go_simp; try (with_reducible rfl))
            try simp only [List.getElem_toArray, List.getElem_cons_zero, List.getElem_cons_succ, Act.put, List.setIfInBounds_toArray, List.set_cons_zero, List.set_cons_succ]
            refine wpAnyH_take (i := 6) (oi := _) (v := ?vr5n6_60) rfl (by kernel_rfl) (by kernel_rfl) (by kernel_rfl) (fun _ _ _ h => h) (Or.inl ⟨by kernel_rfl, ?hr5n6_60⟩) hHeld ?_
            case hr5n6_60 => (intro w hSw; (try dsimp only at hSw); go_simp; try (with_reducible rfl))
            try simp only [List.getElem_toArray, List.getElem_cons_zero, List.getElem_cons_succ, Act.put, List.setIfInBounds_toArray, List.set_cons_zero, List.set_cons_succ]
            refine wpAnyH_take (i := 7) (oi := _) (v := ?vr5n7_61) rfl (by kernel_rfl) (by kernel_rfl) (by kernel_rfl) (fun _ _ _ h => h) (Or.inl ⟨by kernel_rfl, ?hr5n7_61⟩) hHeld ?_
            case hr5n7_61 => (intro w hSw; (try dsimp only at hSw); go_simp; try (with_reducible rfl))
            try simp only [List.getElem_toArray, List.getElem_cons_zero, List.getElem_cons_succ, Act.put, List.setIfInBounds_toArray, List.set_cons_zero, List.set_cons_succ]
            refine wpAnyH_take (i := 8) (oi := _) (v := ?vr5n8_62) rfl (by kernel_rfl) (by kernel_rfl) (by kernel_rfl) (fun _ _ _ h => h) (Or.inl ⟨by kernel_rfl, ?hr5n8_62⟩) hHeld ?_
            case hr5n8_62 => (intro w hSw; (try dsimp only at hSw); go_simp; try (with_reducible rfl))
            try simp only [List.getElem_toArray, List.getElem_cons_zero, List.getElem_cons_succ, Act.put, List.setIfInBounds_toArray, List.set_cons_zero, List.set_cons_succ]
            refine wpAnyH_take (i := 9) (oi := _) (v := ?vr5n9_63) rfl (by kernel_rfl) (by kernel_rfl) (by kernel_rfl) (fun _ _ _ h => h) (Or.inl ⟨by kernel_rfl, ?hr5n9_63⟩) hHeld ?_
            case hr5n9_63 => (intro w hSw; (try dsimp only at hSw); go_simp; try (with_reducible rfl))
            try simp only [List.getElem_toArray, List.getElem_cons_zero, List.getElem_cons_succ, Act.put, List.setIfInBounds_toArray, List.set_cons_zero, List.set_cons_succ]
            refine wpAnyH_take (i := 10) (oi := _) (v := ?vr5n10_64) rfl (by kernel_rfl) (by kernel_rfl) (by kernel_rfl) (fun _ _ _ h => h) (Or.inl ⟨by kernel_rfl, ?hr5n10_64⟩) hHeld ?_
            case hr5n10_64 => (intro w hSw; (try dsimp only at hSw); go_simp; try (with_reducible rfl))
            try simp only [List.getElem_toArray, List.getElem_cons_zero, List.getElem_cons_succ, Act.put, List.setIfInBounds_toArray, List.set_cons_zero, List.set_cons_succ]
            refine wpAnyH_take (i := 11) (oi := _) (v := ?vr5n11_65) rfl (by kernel_rfl) (by kernel_rfl) (by kernel_rfl) (fun _ _ _ h => h) (Or.inl ⟨by kernel_rfl, ?hr5n11_65⟩) hHeld ?_
            case hr5n11_65 => (intro w hSw; (try dsimp only at hSw); go_simp; try (with_reducible rfl))
            try simp only [List.getElem_toArray, List.getElem_cons_zero, List.getElem_cons_succ, Act.put, List.setIfInBounds_toArray, List.set_cons_zero, List.set_cons_succ]
            refine wpAnyH_take (i := 12) (oi := _) (v := ?vr5n12_66) rfl (by kernel_rfl) (by kernel_rfl) (by kernel_rfl) (fun _ _ _ h => h) (Or.inl ⟨by kernel_rfl, ?hr5n12_66⟩) hHeld ?_
            case hr5n12_66 => (intro w hSw; (try dsimp only at hSw); go_simp; try (with_reducible rfl))
            try simp only [List.getElem_toArray, List.getElem_cons_zero, List.getElem_cons_succ, Act.put, List.setIfInBounds_toArray, List.set_cons_zero, List.set_cons_succ]
            refine wpAnyH_take (i := 13) (oi := _) (v := ?vr5n13_67) rfl (by kernel_rfl) (by kernel_rfl) (by kernel_rfl) (fun _ _ _ h => h) (Or.inl ⟨by kernel_rfl, ?hr5n13_67⟩) hHeld ?_
            case hr5n13_67 => (intro w hSw; (try dsimp only at hSw); go_simp; try (with_reducible rfl))
            try simp only [List.getElem_toArray, List.getElem_cons_zero, List.getElem_cons_succ, Act.put, List.setIfInBounds_toArray, List.set_cons_zero, List.set_cons_succ]
            refine wpAnyH_take (i := 14) (oi := _) (v := ?vr5n14_68) rfl (by kernel_rfl) (by kernel_rfl) (by kernel_rfl) (fun _ _ _ h => h) (Or.inl ⟨by kernel_rfl, ?hr5n14_68⟩) hHeld ?_
            case hr5n14_68 => (intro w hSw; (try dsimp only at hSw); go_simp; try (with_reducible rfl))
            try simp only [List.getElem_toArray, List.getElem_cons_zero, List.getElem_cons_succ, Act.put, List.setIfInBounds_toArray, List.set_cons_zero, List.set_cons_succ]
            refine wpAnyH_take (i := 15) (oi := _) (v := ?vr5n15_69) rfl (by kernel_rfl) (by kernel_rfl) (by kernel_rfl) (fun _ _ _ h => h) (Or.inl ⟨by kernel_rfl, ?hr5n15_69⟩) hHeld ?_
            case hr5n15_69 => (intro w hSw; (try dsimp only at hSw); go_simp; try (with_reducible rfl))
            try simp only [List.getElem_toArray, List.getElem_cons_zero, List.getElem_cons_succ, Act.put, List.setIfInBounds_toArray, List.set_cons_zero, List.set_cons_succ]
            refine wpAnyH_take (i := 16) (oi := _) (v := ?vr5n16_70) rfl (by kernel_rfl) (by kernel_rfl) (by kernel_rfl) (fun _ _ _ h => h) (Or.inl ⟨by kernel_rfl, ?hr5n16_70⟩) hHeld ?_
            case hr5n16_70 => (intro w hSw; (try dsimp only at hSw); go_simp; try (with_reducible rfl))
            try simp only [List.getElem_toArray, List.getElem_cons_zero, List.getElem_cons_succ, Act.put, List.setIfInBounds_toArray, List.set_cons_zero, List.set_cons_succ]
            refine wpAnyH_take (i := 17) (oi := _) (v := ?vr5n17_71) rfl (by kernel_rfl) (by kernel_rfl) (by kernel_rfl) (fun _ _ _ h => h) (Or.inl ⟨by kernel_rfl, ?hr5n17_71⟩) hHeld ?_
            case hr5n17_71 => (intro w hSw; (try dsimp only at hSw); go_simp; try (with_reducible rfl))
            try simp only [List.getElem_toArray, List.getElem_cons_zero, List.getElem_cons_succ, Act.put, List.setIfInBounds_toArray, List.set_cons_zero, List.set_cons_succ]
            refine wpAnyH_take (i := 18) (oi := _) (v := ?vr5n18_72) rfl (by kernel_rfl) (by kernel_rfl) (by kernel_rfl) (fun _ _ _ h => h) (Or.inl ⟨by kernel_rfl, ?hr5n18_72⟩) hHeld ?_
            case hr5n18_72 => (intro w hSw; (try dsimp only at hSw); go_simp; try (with_reducible rfl))
            try simp only [List.getElem_toArray, List.getElem_cons_zero, List.getElem_cons_succ, Act.put, List.setIfInBounds_toArray, List.set_cons_zero, List.set_cons_succ]
            refine wpAnyH_take (i := 19) (oi := _) (v := ?vr5n19_73) rfl (by kernel_rfl) (by kernel_rfl) (by kernel_rfl) (fun _ _ _ h => h) (Or.inl ⟨by kernel_rfl, ?hr5n19_73⟩) hHeld ?_
            case hr5n19_73 => (intro w hSw; (try dsimp only at hSw); go_simp; try (with_reducible rfl))
            try simp only [List.getElem_toArray, List.getElem_cons_zero, List.getElem_cons_succ, Act.put, List.setIfInBounds_toArray, List.set_cons_zero, List.set_cons_succ]
            refine wpAnyH_take (i := 20) (oi := _) (v := ?vr5n20_74) rfl (by kernel_rfl) (by kernel_rfl) (by kernel_rfl) (fun _ _ _ h => h) (Or.inl ⟨by kernel_rfl, ?hr5n20_74⟩) hHeld ?_
            case hr5n20_74 => (intro w hSw; (try dsimp only at hSw); go_simp; try (with_reducible rfl))
            try simp only [List.getElem_toArray, List.getElem_cons_zero, List.getElem_cons_succ, Act.put, List.setIfInBounds_toArray, List.set_cons_zero, List.set_cons_succ]
            refine wpAnyH_done (by kernel_rfl) ?_ _
            refine NoPanic.normal ?_
            clear HGS
            go_wp2
            go_loopw [14] (fun i wr => ∃ k : Nat, k ≤ 4 ∧ i = .int .i64 k ∧ Below w25.heap.size w25 wr) (fun i _ => 4 - (intOf i).toNat)
            case atStart => exact ⟨0, by omega, rfl, Below.drewN (Below.refl _ w25) _⟩
            case round =>
              obtain ⟨k, hk, rfl, hb⟩ := hrel
              have HBk := Lib.hid hb
              clear hb
              by_cases hlt : k < 4
              · have hlt' : (k : Int) < 4 := by omega
                have hck := (HKa26.out.step HBk.out).cell (3 + k)
                rw [rcC_get a k hlt] at hck
                have hcx := (HOx26.out.step HBk.out).cell k
                rw [rcD_get T k hlt] at hcx
                have hcg := RsAt.at1 (HSg.out.below HBk.out) (3 + k) (encR_get t k hlt)
                have hao : og + (3 + k) = og + 3 + k := by omega
                rw [hao] at hcg
                rw [HTK.out k hlt] at hcg
                have hql : (dk T k).length ≤ 9223372036854775807 := HDS.out k
                have HCG := Lib.hid (fun (w' : World) (hb : Below wr.heap.size wr w') => ((congrArg (fun z => w'.cell? ⟨bg, z, none⟩) hao).symm.trans (RsAt.at1 ((HSg.out.below HBk.out).below (hb.mono HBk.out.size)) (3 + k) (encR_get t k hlt))).trans (congrArg (fun z => some (sv z)) (HTK.out k hlt)))
                clear hao
                generalize dk T k = q at hcx hcg hql HCG
                generalize dk a k = s at hck hcg HCG
                by_cases he : s = []
                · subst he
                  have hcg2 : wr.cell? ⟨bg, og + 3 + k, none⟩ = some (sv []) := hcg
                  clear hcg HCG
                  go_wp2
                  go_roundw
                  case rel => exact ⟨k + 1, by omega, by go_num, HBk.out⟩
                  case measure => simp [intOf] <;> omega
                · have hem : em s = false := em_ne he
                  have he2 : (s == []) = false := hem
                  rw [hem] at hcg HCG
                  by_cases h64 : q.length = 64
                  · have hnz : sel false (nz q) = q := by rw [nz_yes h64]; rfl
                    rw [hnz] at hcg
                    have h64i : (q.length : Int) = 64 := by omega
                    clear HCG hnz hem
                    go_wp2
                    go_roundw
                    case rel => exact ⟨k + 1, by omega, by go_num, HBk.out⟩
                    case measure => simp [intOf] <;> omega
                  · have hnz : sel false (nz q) = z64 := by rw [nz_no h64]; rfl
                    rw [hnz] at HCG
                    have h64i : ¬ (q.length : Int) = 64 := by omega
                    clear hcg hnz hem
                    have FU2 := Lib.hid (fun w => FU.out w)
                    clear FU
                    generalize z64 = zz at FU2 HCG
                    go_wp2_with fail
                    refine (FU2.out _).mono ?_
                    rintro e wh ⟨rfl, hb⟩
                    have hcg := HCG.out wh hb
                    have HBh := Lib.hid (HBk.out.trans (hb.mono HBk.out.size))
                    clear hb hck hcx HCG
                    go_wp2
                    go_roundw
                    case rel => exact ⟨k + 1, by omega, by go_num, HBh.out⟩
                    case measure => simp [intOf] <;> omega
              · have hke : k = 4 := by omega
                subst hke
                go_wp2_with fail
                refine (WK.out _).mono ?_
                rintro e w99 ⟨rfl, hb⟩
                go_wp2
                go_ret
                exact ⟨rfl, Below.step (Below.step HB26.out HBk.out) hb⟩
            
theorem journalTorn_args (W : World) (e s r f u v : Int) (a b c d a' b' c' d' x y z q : List UInt8) (ha : a.length ≤ maxLen) (hb : b.length ≤ maxLen) (hc : c.length ≤ maxLen) (hd : d.length ≤ maxLen) (ha' : a'.length ≤ maxLen) (hb' : b'.length ≤ maxLen) (hc' : c'.length ≤ maxLen) (hd' : d'.length ≤ maxLen) (hx : x.length ≤ maxLen) (hy : y.length ≤ maxLen) (hz : z.length ≤ maxLen) (hq : q.length ≤ maxLen) :
    Calls Try.prog 7 #[.agg #[.int .i64 e, .int .i64 s, .int .i64 r, .string ⟨a.toArray⟩, .string ⟨b.toArray⟩, .string ⟨c.toArray⟩, .string ⟨d.toArray⟩], .agg #[.int .i64 f, .int .i64 u, .int .i64 v, .string ⟨a'.toArray⟩, .string ⟨b'.toArray⟩, .string ⟨c'.toArray⟩, .string ⟨d'.toArray⟩], .agg #[.string ⟨x.toArray⟩, .string ⟨y.toArray⟩, .string ⟨z.toArray⟩, .string ⟨q.toArray⟩]] W fun e w' => e = .returned (.bool true) ∧ Below W.heap.size W w' :=
  journalTorn_walk ⟨e, s, r, a, b, c, d⟩ ⟨f, u, v, a', b', c', d'⟩ ⟨0, 0, 0, x, y, z, q⟩ (data_of e s r a b c d ha hb hc hd) (data_of f u v a' b' c' d' ha' hb' hc' hd') (data_of 0 0 0 x y z q hx hy hz hq) W
end Go.Proofs.Ytccbohjcbhibkaa
