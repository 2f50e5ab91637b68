/- What package ipv4's Bytes computes of a packet behind which more comes. -/
import Derived.Test.YticchchcobjpdaaPkB
namespace Go.Proofs.Yticchchcobjpdaa
set_option linter.unusedVariables false
set_option maxRecDepth 100000
open Go.RowKit
attribute [local go_sem ↓] Go.wp_at_zero Go.wp_at_succ
attribute [local go_sem ↓] ld_pk ld_ip

set_option maxHeartbeats 4000000 in
theorem pk_ok_t (id : Int) (f t : List UInt8) (pr tt a : Int) (d : List UInt8) (hL : PkL f t) (hid : -9223372036854775808 ≤ id ∧ id ≤ 9223372036854775807) (hpr : -9223372036854775808 ≤ pr ∧ pr ≤ 9223372036854775807)
    (htt : -9223372036854775808 ≤ tt ∧ tt ≤ 9223372036854775807) (ha : -9223372036854775808 ≤ a ∧ a ≤ 9223372036854775807) (w : World) (h : mayB id pr tt a true d.length = true) (h2 : d.length ≤ 566) :
    Calls Try.prog 13 #[.agg (pkC id f t pr tt a true d)] w fun e w' => e = .returned (.tuple #[.string ⟨(pkHead id f t pr tt a true d.length ++ d).toArray⟩, .int .i64 0]) ∧ Below w.heap.size w w' := by
  have hK := Blk.new w 25 (pkC id f t pr tt a true d) 0 0 (Or.inl (Nat.le_refl _))
  have HK := Lib.hid hK
  have HB := Lib.hid ((Below.refl _ w).alloc (Nat.le_refl _) (.cells (pkC id f t pr tt a true d) 25))
  have dl := hK.ld_pk hL
  have HMay := Lib.hid (fun w => may_any id f t pr tt a true d hL hid hpr htt ha (by omega) w)
  have HL := Lib.hid hL
  obtain ⟨g1, g2, g3, g4, g5, g6, g7, g8, g9, g10, g11⟩ := mayB_yes h
  have HM := Lib.hid h
  have ht1 := fun w => two_any (20 + (d.length : Int)) w (by omega)
  have ht2 := fun w => two_any id w (by omega)
  have hpp : 0 ≤ pkPos a true ∧ pkPos a true ≤ 16383 := by unfold pkPos; split <;> omega
  have ht3 := fun w => two_any (pkPos a true) w (by omega)
  have hla : pkAhead id pr tt a true d.length = [69, 0] ++ (litN (20 + d.length) 2).reverse ++ (litN id 2).reverse ++ (litN (pkPos a true) 2).reverse ++ [UInt8.ofNat tt.toNat, UInt8.ofNat pr.toNat] := rfl
  have hl1 : (litN (20 + (d.length : Int)) 2).reverse.length = 2 := by rw [be2 _ (by omega)]; rfl
  have hl2 : (litN id 2).reverse.length = 2 := by rw [be2 _ (by omega)]; rfl
  have hl3 : (litN (pkPos a true) 2).reverse.length = 2 := by rw [be2 _ (by omega)]; rfl
  generalize (litN (20 + (d.length : Int)) 2).reverse = L1 at ht1 hla hl1
  generalize (litN id 2).reverse = L2 at ht2 hla hl2
  generalize (litN (pkPos a true) 2).reverse = L3 at ht3 hla hl3
  have HT1 := Lib.hid ht1
  have HT2 := Lib.hid ht2
  have HT3 := Lib.hid ht3
  have HLA := Lib.hid hla
  clear hK hL hid hpr htt ha h g11 ht1 ht2 ht3 hla
  have g12 : ¬ 566 < (d.length : Int) := by omega
  go_enter Try.func13, Try.ntmps13
  go_wp2_with fail
  refine (HMay.out _).mono ?_
  rintro e w1 ⟨rfl, hb1⟩
  rw [HM.out]
  have HK1 := Lib.hid (HK.out.step hb1)
  have HB1 := Lib.hid (Below.step HB.out hb1)
  obtain ⟨c0, c9, c10, c11, c12, c13⟩ := pk_at HK1.out HL.out
  have hlt := HK1.out.lt
  clear hb1 dl g9
  have hor : bits .or .i64 (a / 8) 8192 = a / 8 + 8192 := by
    have := or_more (a / 8).toNat (by omega)
    rw [Int.toNat_of_nonneg (by omega)] at this
    exact this
  go_upto_region 9 with fail
  clear c0 c9 c10 c11 c12 c13
  have hpos : pkPos a true = a / 8 + 8192 := by simp [pkPos]
  rw [hpos] at HT3
  clear hpos hpp
  have HTP : 0 ≤ tt ∧ tt ≤ 255 := by omega
  have HPP : 0 ≤ pr ∧ pr ≤ 255 := by omega
  have hq0 : 0 ≤ a / 8 := by omega
  have hq1 : a / 8 ≤ 8191 := by omega
  have hw20 : IntKind.i64.wrap (20 + (d.length : Int)) = 20 + (d.length : Int) := IntWalk.i64_in _ (by omega)
  have hwt : IntKind.u8.wrap tt = tt := u8_in _ (by omega)
  have hwp : IntKind.u8.wrap pr = pr := u8_in _ (by omega)
  have htwo := fun w => run_two Try.prog w 47 9 5 (UInt8.ofNat tt.toNat) (UInt8.ofNat pr.toNat) tt pr (u8_of tt (by omega)) (u8_of pr (by omega)) Try.underlying47 Try.underlying5 Try.underlying9
  have htw1 := htwo w1.drew
  have htw0 : (convert 47 9 (.slice (some ⟨w1.heap.size, 0, none⟩) 2 2)).run Try.prog (w1.alloc (.cells #[.int .u8 tt, .int .u8 pr] 5)).drew = .ok (.string ⟨#[UInt8.ofNat tt.toNat, UInt8.ofNat pr.toNat]⟩) (w1.alloc (.cells #[.int .u8 tt, .int .u8 pr] 5)).drew := htwo w1.drew
  have HTW := Lib.hid htwo
  clear htwo
  have hstr : (({ data := #[69, 0] } : ByteArray) ++ { data := L1.toArray } ++ { data := L2.toArray } ++ { data := L3.toArray } ++ { data := #[UInt8.ofNat tt.toNat, UInt8.ofNat pr.toNat] }) = { data := (pkAhead id pr tt a true d.length).toArray } := by
    rw [HLA.out, ← str_append, ← str_append, ← str_append, ← str_append]
  have HSTR := Lib.hid hstr
  clear hstr
  go_cut [6] from 22 to 48 (fun x wx => x = .string ⟨(pkAhead id pr tt a true d.length).toArray⟩ ∧ PkS w w.heap.size id f t pr tt a true d wx)
  case first =>
    refine wp_region_noPanic ?_
    refine wp_region_held_drew (S := (fun w' => PkS w w.heap.size id f t pr tt a true d w' ∧ w'.cell? ⟨w.heap.size, 0, none⟩ = some (.int .i64 id) ∧ w'.cell? ⟨w.heap.size, 9, none⟩ = some (.int .i64 pr) ∧ w'.cell? ⟨w.heap.size, 10, none⟩ = some (.int .i64 tt) ∧ w'.cell? ⟨w.heap.size, 13, none⟩ = some (.string ⟨d.toArray⟩))) (by kernel_rfl) (by first | exact pk_all HL.out ⟨Blk.drew HK1.out, Below.drew HB1.out⟩) (fun hHeld => ?_)
    refine wpAnyH_take (i := 0) (oi := _) (v := ?vr3n0_69) rfl (by kernel_rfl) (by kernel_rfl) (by kernel_rfl) (fun _ _ _ h => h) (Or.inl ⟨by kernel_rfl, ?hr3n0_69⟩) hHeld ?_
    case hr3n0_69 => (intro w hSw; (try dsimp only at hSw); go_simp; try (with_reducible rfl))
    try simp only [List.getElem_toArray, List.getElem_cons_zero, List.getElem_cons_succ, Act.put, List.setIfInBounds_toArray, List.set_cons_zero, List.set_cons_succ]
    refine wpAnyH_take (i := 1) (oi := _) (v := ?vr3n1_70) rfl (by kernel_rfl) (by kernel_rfl) (by kernel_rfl) (fun _ _ _ h => h) (Or.inl ⟨by kernel_rfl, ?hr3n1_70⟩) hHeld ?_
    case hr3n1_70 => (intro w hSw; (try dsimp only at hSw); go_simp; try (with_reducible rfl))
    try simp only [List.getElem_toArray, List.getElem_cons_zero, List.getElem_cons_succ, Act.put, List.setIfInBounds_toArray, List.set_cons_zero, List.set_cons_succ]
    refine wpAnyH_take (i := 2) (oi := _) (v := ?vr3n2_71) rfl (by kernel_rfl) (by kernel_rfl) (by kernel_rfl) (fun _ _ _ h => h) (Or.inl ⟨by kernel_rfl, ?hr3n2_71⟩) hHeld ?_
    case hr3n2_71 => (intro w hSw; (try dsimp only at hSw); go_simp; try (with_reducible rfl))
    try simp only [List.getElem_toArray, List.getElem_cons_zero, List.getElem_cons_succ, Act.put, List.setIfInBounds_toArray, List.set_cons_zero, List.set_cons_succ]
    refine wpAnyH_take (i := 3) (oi := _) (v := ?vr3n3_72) rfl (by kernel_rfl) (by kernel_rfl) (by kernel_rfl) (fun _ _ _ h => h) (Or.inl ⟨by kernel_rfl, ?hr3n3_72⟩) hHeld ?_
    case hr3n3_72 => (intro w hSw; (try dsimp only at hSw); go_simp; try (with_reducible rfl))
    try simp only [List.getElem_toArray, List.getElem_cons_zero, List.getElem_cons_succ, Act.put, List.setIfInBounds_toArray, List.set_cons_zero, List.set_cons_succ]
    refine wpAnyH_take (i := 4) (oi := _) (v := ?vr3n4_73) rfl (by kernel_rfl) (by kernel_rfl) (by kernel_rfl) (fun _ _ _ h => h) (Or.inl ⟨by kernel_rfl, ?hr3n4_73⟩) hHeld ?_
    case hr3n4_73 => (intro w hSw; (try dsimp only at hSw); go_simp; try (with_reducible rfl))
    try simp only [List.getElem_toArray, List.getElem_cons_zero, List.getElem_cons_succ, Act.put, List.setIfInBounds_toArray, List.set_cons_zero, List.set_cons_succ]
    refine wpAnyH_take (i := 7) (oi := _) (v := ?vr3n7_74) rfl (by kernel_rfl) (by kernel_rfl) (by kernel_rfl) (fun _ _ _ h => h) (Or.inl ⟨by kernel_rfl, ?hr3n7_74⟩) hHeld ?_
    case hr3n7_74 => (intro w hSw; (try dsimp only at hSw); go_simp; try (with_reducible rfl))
    try simp only [List.getElem_toArray, List.getElem_cons_zero, List.getElem_cons_succ, Act.put, List.setIfInBounds_toArray, List.set_cons_zero, List.set_cons_succ]
    refine wpAnyH_take (i := 8) (oi := _) (v := ?vr3n8_75) rfl (by kernel_rfl) (by kernel_rfl) (by kernel_rfl) (fun _ _ _ h => h) (Or.inl ⟨by kernel_rfl, ?hr3n8_75⟩) hHeld ?_
    case hr3n8_75 => (intro w hSw; (try dsimp only at hSw); go_simp; try (with_reducible rfl))
    try simp only [List.getElem_toArray, List.getElem_cons_zero, List.getElem_cons_succ, Act.put, List.setIfInBounds_toArray, List.set_cons_zero, List.set_cons_succ]
    refine wpAnyH_take (i := 9) (oi := _) (v := ?vr3n9_76) rfl (by kernel_rfl) (by kernel_rfl) (by kernel_rfl) (fun _ _ _ h => h) (Or.inl ⟨by kernel_rfl, ?hr3n9_76⟩) hHeld ?_
    case hr3n9_76 => (intro w hSw; (try dsimp only at hSw); go_simp; try (with_reducible rfl))
    try simp only [List.getElem_toArray, List.getElem_cons_zero, List.getElem_cons_succ, Act.put, List.setIfInBounds_toArray, List.set_cons_zero, List.set_cons_succ]
    refine wpAnyH_take (i := 12) (oi := _) (v := ?vr3n12_77) rfl (by kernel_rfl) (by kernel_rfl) (by kernel_rfl) (fun _ _ _ h => h) (Or.inl ⟨by kernel_rfl, ?hr3n12_77⟩) hHeld ?_
    case hr3n12_77 => (intro w hSw; (try dsimp only at hSw); go_simp; try (with_reducible rfl))
    try simp only [List.getElem_toArray, List.getElem_cons_zero, List.getElem_cons_succ, Act.put, List.setIfInBounds_toArray, List.set_cons_zero, List.set_cons_succ]
    refine wpAnyH_take (i := 13) (oi := _) (v := ?vr3n13_78) rfl (by kernel_rfl) (by kernel_rfl) (by kernel_rfl) (fun _ _ _ h => h) (Or.inl ⟨by kernel_rfl, ?hr3n13_78⟩) hHeld ?_
    case hr3n13_78 => (intro w hSw; (try dsimp only at hSw); go_simp; try (with_reducible rfl))
    try simp only [List.getElem_toArray, List.getElem_cons_zero, List.getElem_cons_succ, Act.put, List.setIfInBounds_toArray, List.set_cons_zero, List.set_cons_succ]
    refine wpAnyH_take (i := 16) (oi := _) (v := ?vr3n16_79) rfl (by kernel_rfl) (by kernel_rfl) (by kernel_rfl) (fun _ _ _ h => h) (Or.inl ⟨by kernel_rfl, ?hr3n16_79⟩) hHeld ?_
    case hr3n16_79 => (intro w hSw; (try dsimp only at hSw); go_simp; try (with_reducible rfl))
    try simp only [List.getElem_toArray, List.getElem_cons_zero, List.getElem_cons_succ, Act.put, List.setIfInBounds_toArray, List.set_cons_zero, List.set_cons_succ]
    refine wpAnyH_take (i := 17) (oi := _) (v := ?vr3n17_80) rfl (by kernel_rfl) (by kernel_rfl) (by kernel_rfl) (fun _ _ _ h => h) (Or.inl ⟨by kernel_rfl, ?hr3n17_80⟩) hHeld ?_
    case hr3n17_80 => (intro w hSw; (try dsimp only at hSw); go_simp; try (with_reducible rfl))
    try simp only [List.getElem_toArray, List.getElem_cons_zero, List.getElem_cons_succ, Act.put, List.setIfInBounds_toArray, List.set_cons_zero, List.set_cons_succ]
    refine wpAnyH_take (i := 18) (oi := _) (v := ?vr3n18_81) rfl (by kernel_rfl) (by kernel_rfl) (by kernel_rfl) (fun _ _ _ h => h) (Or.inl ⟨by kernel_rfl, ?hr3n18_81⟩) hHeld ?_
    case hr3n18_81 => (intro w hSw; (try dsimp only at hSw); go_simp; try (with_reducible rfl))
    try simp only [List.getElem_toArray, List.getElem_cons_zero, List.getElem_cons_succ, Act.put, List.setIfInBounds_toArray, List.set_cons_zero, List.set_cons_succ]
    refine wpAnyH_take (i := 19) (oi := _) (v := ?vr3n19_82) rfl (by kernel_rfl) (by kernel_rfl) (by kernel_rfl) (fun _ _ _ h => h) (Or.inl ⟨by kernel_rfl, ?hr3n19_82⟩) hHeld ?_
    case hr3n19_82 => (intro w hSw; (try dsimp only at hSw); go_simp; try (with_reducible rfl))
    try simp only [List.getElem_toArray, List.getElem_cons_zero, List.getElem_cons_succ, Act.put, List.setIfInBounds_toArray, List.set_cons_zero, List.set_cons_succ]
    refine wpAnyH_take (i := 20) (oi := _) (v := ?vr3n20_83) rfl (by kernel_rfl) (by kernel_rfl) (by kernel_rfl) (fun _ _ _ h => h) (Or.inl ⟨by kernel_rfl, ?hr3n20_83⟩) hHeld ?_
    case hr3n20_83 => (intro w hSw; (try dsimp only at hSw); go_simp; try (with_reducible rfl))
    try simp only [List.getElem_toArray, List.getElem_cons_zero, List.getElem_cons_succ, Act.put, List.setIfInBounds_toArray, List.set_cons_zero, List.set_cons_succ]
    refine wpAnyH_take (i := 21) (oi := _) (v := ?vr3n21_84) rfl (by kernel_rfl) (by kernel_rfl) (by kernel_rfl) (fun _ _ _ h => h) (Or.inl ⟨by kernel_rfl, ?hr3n21_84⟩) hHeld ?_
    case hr3n21_84 => (intro w hSw; (try dsimp only at hSw); go_simp; try (with_reducible rfl))
    try simp only [List.getElem_toArray, List.getElem_cons_zero, List.getElem_cons_succ, Act.put, List.setIfInBounds_toArray, List.set_cons_zero, List.set_cons_succ]
    refine wpAnyH_ready (rs := [5, 22]) (by kernel_rfl) (by simp) ?_
    refine AllReadyH.cons (o := _) rfl (fun K hK => ?_) ?_
    · skip
      go_simp
      (go_at_call 29; with_reducible refine (HT1.out _).mono ?_; rintro e w3 ⟨rfl, hb0⟩; have hB2 := Lib.hid hb0; clear hb0)
      refine hK.out _ _ ?_ (fun hHeld1 => ?_)
      · (first | with_reducible exact pk_keep HL.out hHeld hB2.out)
      clear hHeld hK K
      try simp only [List.getElem_toArray, List.getElem_cons_zero, List.getElem_cons_succ, Act.put, List.setIfInBounds_toArray, List.set_cons_zero, List.set_cons_succ]
      refine wpAnyH_take (i := 6) (oi := _) (v := ?vr3n6_85) rfl (by kernel_rfl) (by kernel_rfl) (by kernel_rfl) (fun _ _ _ h => h) (Or.inl ⟨by kernel_rfl, ?hr3n6_85⟩) hHeld1 ?_
      case hr3n6_85 => (intro w hSw; (try dsimp only at hSw); go_simp; try (with_reducible rfl))
      try simp only [List.getElem_toArray, List.getElem_cons_zero, List.getElem_cons_succ, Act.put, List.setIfInBounds_toArray, List.set_cons_zero, List.set_cons_succ]
      refine wpAnyH_ready (rs := [10, 22]) (by kernel_rfl) (by simp) ?_
      refine AllReadyH.cons (o := _) rfl (fun K hK => ?_) ?_
      · skip
        go_simp
        (go_at_call 29; with_reducible refine (HT2.out _).mono ?_; rintro e w4 ⟨rfl, hb0⟩; have hB3 := Lib.hid hb0; clear hb0)
        refine hK.out _ _ ?_ (fun hHeld2 => ?_)
        · (first | with_reducible exact pk_keep HL.out hHeld1 hB3.out)
        clear hHeld1 hK K
        try simp only [List.getElem_toArray, List.getElem_cons_zero, List.getElem_cons_succ, Act.put, List.setIfInBounds_toArray, List.set_cons_zero, List.set_cons_succ]
        refine wpAnyH_take (i := 11) (oi := _) (v := ?vr3n11_86) rfl (by kernel_rfl) (by kernel_rfl) (by kernel_rfl) (fun _ _ _ h => h) (Or.inl ⟨by kernel_rfl, ?hr3n11_86⟩) hHeld2 ?_
        case hr3n11_86 => (intro w hSw; (try dsimp only at hSw); go_simp; try (with_reducible rfl))
        try simp only [List.getElem_toArray, List.getElem_cons_zero, List.getElem_cons_succ, Act.put, List.setIfInBounds_toArray, List.set_cons_zero, List.set_cons_succ]
        refine wpAnyH_ready (rs := [14, 22]) (by kernel_rfl) (by simp) ?_
        refine AllReadyH.cons (o := _) rfl (fun K hK => ?_) ?_
        · skip
          go_simp
          (go_at_call 29; with_reducible refine (HT3.out _).mono ?_; rintro e w5 ⟨rfl, hb0⟩; have hB4 := Lib.hid hb0; clear hb0)
          refine hK.out _ _ ?_ (fun hHeld3 => ?_)
          · (first | with_reducible exact pk_keep HL.out hHeld2 hB4.out)
          clear hHeld2 hK K
          try simp only [List.getElem_toArray, List.getElem_cons_zero, List.getElem_cons_succ, Act.put, List.setIfInBounds_toArray, List.set_cons_zero, List.set_cons_succ]
          refine wpAnyH_take (i := 15) (oi := _) (v := ?vr3n15_87) rfl (by kernel_rfl) (by kernel_rfl) (by kernel_rfl) (fun _ _ _ h => h) (Or.inl ⟨by kernel_rfl, ?hr3n15_87⟩) hHeld3 ?_
          case hr3n15_87 => (intro w hSw; (try dsimp only at hSw); go_simp; try (with_reducible rfl))
          try simp only [List.getElem_toArray, List.getElem_cons_zero, List.getElem_cons_succ, Act.put, List.setIfInBounds_toArray, List.set_cons_zero, List.set_cons_succ]
          refine wpAnyH_ready (rs := [22]) (by kernel_rfl) (by simp) ?_
          refine AllReadyH.cons (o := _) rfl (fun K hK => ?_) AllReadyH.nil
          go_simp
          (have HT05 : RowKit.Hid (TwoAt tt pr w5.heap.size (w5.alloc (.cells #[.int .u8 tt, .int .u8 pr] 5))) := Lib.hid (two_new tt pr w5))
          refine hK.out _ _ ?_ (fun hHeld4 => ?_)
          · (first | with_reducible exact pk_alloc HL.out hHeld3 | with_reducible exact pk_allocD HL.out hHeld3)
          clear hHeld3 hK K
          try simp only [List.getElem_toArray, List.getElem_cons_zero, List.getElem_cons_succ, Act.put, List.setIfInBounds_toArray, List.set_cons_zero, List.set_cons_succ]
          refine wpAnyH_ready (rs := [23]) (by kernel_rfl) (by simp) ?_
          refine AllReadyH.cons (o := _) rfl (fun K hK => ?_) AllReadyH.nil
          (have hcv6 := two_conv HTP HPP HT05.out)
          go_simp
          (clear hcv6)
          refine hK.out _ _ ?_ (fun hHeld5 => ?_)
          · (first | exact hHeld4)
          clear hHeld4 hK K
          try simp only [List.getElem_toArray, List.getElem_cons_zero, List.getElem_cons_succ, Act.put, List.setIfInBounds_toArray, List.set_cons_zero, List.set_cons_succ]
          refine wpAnyH_take (i := 24) (oi := _) (v := ?vr3n24_88) rfl (by kernel_rfl) (by kernel_rfl) (by kernel_rfl) (fun _ _ _ h => h) (Or.inl ⟨by kernel_rfl, ?hr3n24_88⟩) hHeld5 ?_
          case hr3n24_88 => (intro w hSw; (try dsimp only at hSw); go_simp; try (with_reducible rfl))
          try simp only [List.getElem_toArray, List.getElem_cons_zero, List.getElem_cons_succ, Act.put, List.setIfInBounds_toArray, List.set_cons_zero, List.set_cons_succ]
          refine wpAnyH_take (i := 25) (oi := _) (v := ?vr3n25_89) rfl (by kernel_rfl) (by kernel_rfl) (by kernel_rfl) (fun _ _ _ h => h) (Or.inl ⟨by kernel_rfl, ?hr3n25_89⟩) hHeld5 ?_
          case hr3n25_89 => (intro w hSw; (try dsimp only at hSw); go_simp; try (with_reducible rfl))
          try simp only [List.getElem_toArray, List.getElem_cons_zero, List.getElem_cons_succ, Act.put, List.setIfInBounds_toArray, List.set_cons_zero, List.set_cons_succ]
          refine wpAnyH_done (by kernel_rfl) ?_ _
          refine NoPanic.normal ?_
          (go_wp2_with fail; go_meet; exact ⟨congrArg Value.string HSTR.out, And.left hHeld5⟩)
        refine AllReadyH.cons (o := _) rfl (fun K hK => ?_) AllReadyH.nil
        go_simp
        (have HT04 : RowKit.Hid (TwoAt tt pr w4.heap.size (w4.alloc (.cells #[.int .u8 tt, .int .u8 pr] 5))) := Lib.hid (two_new tt pr w4))
        refine hK.out _ _ ?_ (fun hHeld6 => ?_)
        · (first | with_reducible exact pk_alloc HL.out hHeld2 | with_reducible exact pk_allocD HL.out hHeld2)
        clear hHeld2 hK K
        try simp only [List.getElem_toArray, List.getElem_cons_zero, List.getElem_cons_succ, Act.put, List.setIfInBounds_toArray, List.set_cons_zero, List.set_cons_succ]
        refine wpAnyH_ready (rs := [14, 23]) (by kernel_rfl) (by simp) ?_
        refine AllReadyH.cons (o := _) rfl (fun K hK => ?_) ?_
        · skip
          go_simp
          (go_at_call 29; with_reducible refine (HT3.out _).mono ?_; rintro e w6 ⟨rfl, hb0⟩; have hB5 := Lib.hid hb0; clear hb0; have HT05 := Lib.hid (two_keep HT04.out hB5.out))
          refine hK.out _ _ ?_ (fun hHeld7 => ?_)
          · (first | with_reducible exact pk_keep HL.out hHeld6 hB5.out)
          clear hHeld6 hK K
          try simp only [List.getElem_toArray, List.getElem_cons_zero, List.getElem_cons_succ, Act.put, List.setIfInBounds_toArray, List.set_cons_zero, List.set_cons_succ]
          refine wpAnyH_take (i := 15) (oi := _) (v := ?vr3n15_90) rfl (by kernel_rfl) (by kernel_rfl) (by kernel_rfl) (fun _ _ _ h => h) (Or.inl ⟨by kernel_rfl, ?hr3n15_90⟩) hHeld7 ?_
          case hr3n15_90 => (intro w hSw; (try dsimp only at hSw); go_simp; try (with_reducible rfl))
          try simp only [List.getElem_toArray, List.getElem_cons_zero, List.getElem_cons_succ, Act.put, List.setIfInBounds_toArray, List.set_cons_zero, List.set_cons_succ]
          refine wpAnyH_ready (rs := [23]) (by kernel_rfl) (by simp) ?_
          refine AllReadyH.cons (o := _) rfl (fun K hK => ?_) AllReadyH.nil
          (have hcv6 := two_conv HTP HPP HT05.out)
          go_simp
          (clear hcv6)
          refine hK.out _ _ ?_ (fun hHeld8 => ?_)
          · (first | exact hHeld7)
          clear hHeld7 hK K
          try simp only [List.getElem_toArray, List.getElem_cons_zero, List.getElem_cons_succ, Act.put, List.setIfInBounds_toArray, List.set_cons_zero, List.set_cons_succ]
          refine wpAnyH_take (i := 24) (oi := _) (v := ?vr3n24_91) rfl (by kernel_rfl) (by kernel_rfl) (by kernel_rfl) (fun _ _ _ h => h) (Or.inl ⟨by kernel_rfl, ?hr3n24_91⟩) hHeld8 ?_
          case hr3n24_91 => (intro w hSw; (try dsimp only at hSw); go_simp; try (with_reducible rfl))
          try simp only [List.getElem_toArray, List.getElem_cons_zero, List.getElem_cons_succ, Act.put, List.setIfInBounds_toArray, List.set_cons_zero, List.set_cons_succ]
          refine wpAnyH_take (i := 25) (oi := _) (v := ?vr3n25_92) rfl (by kernel_rfl) (by kernel_rfl) (by kernel_rfl) (fun _ _ _ h => h) (Or.inl ⟨by kernel_rfl, ?hr3n25_92⟩) hHeld8 ?_
          case hr3n25_92 => (intro w hSw; (try dsimp only at hSw); go_simp; try (with_reducible rfl))
          try simp only [List.getElem_toArray, List.getElem_cons_zero, List.getElem_cons_succ, Act.put, List.setIfInBounds_toArray, List.set_cons_zero, List.set_cons_succ]
          refine wpAnyH_done (by kernel_rfl) ?_ _
          refine NoPanic.normal ?_
          (go_wp2_with fail; go_meet; exact ⟨congrArg Value.string HSTR.out, And.left hHeld8⟩)
        refine AllReadyH.cons (o := _) rfl (fun K hK => ?_) AllReadyH.nil
        (have hcv5 := two_conv HTP HPP HT04.out)
        go_simp
        (clear hcv5)
        refine hK.out _ _ ?_ (fun hHeld9 => ?_)
        · (first | exact hHeld6)
        clear hHeld6 hK K
        try simp only [List.getElem_toArray, List.getElem_cons_zero, List.getElem_cons_succ, Act.put, List.setIfInBounds_toArray, List.set_cons_zero, List.set_cons_succ]
        refine wpAnyH_ready (rs := [14]) (by kernel_rfl) (by simp) ?_
        refine AllReadyH.cons (o := _) rfl (fun K hK => ?_) AllReadyH.nil
        go_simp
        (go_at_call 29; with_reducible refine (HT3.out _).mono ?_; rintro e w7 ⟨rfl, hb0⟩; have hB6 := Lib.hid hb0; clear hb0)
        refine hK.out _ _ ?_ (fun hHeld10 => ?_)
        · (first | with_reducible exact pk_keep HL.out hHeld9 hB6.out)
        clear hHeld9 hK K
        try simp only [List.getElem_toArray, List.getElem_cons_zero, List.getElem_cons_succ, Act.put, List.setIfInBounds_toArray, List.set_cons_zero, List.set_cons_succ]
        refine wpAnyH_take (i := 15) (oi := _) (v := ?vr3n15_93) rfl (by kernel_rfl) (by kernel_rfl) (by kernel_rfl) (fun _ _ _ h => h) (Or.inl ⟨by kernel_rfl, ?hr3n15_93⟩) hHeld10 ?_
        case hr3n15_93 => (intro w hSw; (try dsimp only at hSw); go_simp; try (with_reducible rfl))
        try simp only [List.getElem_toArray, List.getElem_cons_zero, List.getElem_cons_succ, Act.put, List.setIfInBounds_toArray, List.set_cons_zero, List.set_cons_succ]
        refine wpAnyH_take (i := 24) (oi := _) (v := ?vr3n24_94) rfl (by kernel_rfl) (by kernel_rfl) (by kernel_rfl) (fun _ _ _ h => h) (Or.inl ⟨by kernel_rfl, ?hr3n24_94⟩) hHeld10 ?_
        case hr3n24_94 => (intro w hSw; (try dsimp only at hSw); go_simp; try (with_reducible rfl))
        try simp only [List.getElem_toArray, List.getElem_cons_zero, List.getElem_cons_succ, Act.put, List.setIfInBounds_toArray, List.set_cons_zero, List.set_cons_succ]
        refine wpAnyH_take (i := 25) (oi := _) (v := ?vr3n25_95) rfl (by kernel_rfl) (by kernel_rfl) (by kernel_rfl) (fun _ _ _ h => h) (Or.inl ⟨by kernel_rfl, ?hr3n25_95⟩) hHeld10 ?_
        case hr3n25_95 => (intro w hSw; (try dsimp only at hSw); go_simp; try (with_reducible rfl))
        try simp only [List.getElem_toArray, List.getElem_cons_zero, List.getElem_cons_succ, Act.put, List.setIfInBounds_toArray, List.set_cons_zero, List.set_cons_succ]
        refine wpAnyH_done (by kernel_rfl) ?_ _
        refine NoPanic.normal ?_
        (go_wp2_with fail; go_meet; exact ⟨congrArg Value.string HSTR.out, And.left hHeld10⟩)
      refine AllReadyH.cons (o := _) rfl (fun K hK => ?_) AllReadyH.nil
      go_simp
      (have HT03 : RowKit.Hid (TwoAt tt pr w3.heap.size (w3.alloc (.cells #[.int .u8 tt, .int .u8 pr] 5))) := Lib.hid (two_new tt pr w3))
      refine hK.out _ _ ?_ (fun hHeld11 => ?_)
      · (first | with_reducible exact pk_alloc HL.out hHeld1 | with_reducible exact pk_allocD HL.out hHeld1)
      clear hHeld1 hK K
      try simp only [List.getElem_toArray, List.getElem_cons_zero, List.getElem_cons_succ, Act.put, List.setIfInBounds_toArray, List.set_cons_zero, List.set_cons_succ]
      refine wpAnyH_ready (rs := [10, 23]) (by kernel_rfl) (by simp) ?_
      refine AllReadyH.cons (o := _) rfl (fun K hK => ?_) ?_
      · skip
        go_simp
        (go_at_call 29; with_reducible refine (HT2.out _).mono ?_; rintro e w5 ⟨rfl, hb0⟩; have hB4 := Lib.hid hb0; clear hb0; have HT04 := Lib.hid (two_keep HT03.out hB4.out))
        refine hK.out _ _ ?_ (fun hHeld12 => ?_)
        · (first | with_reducible exact pk_keep HL.out hHeld11 hB4.out)
        clear hHeld11 hK K
        try simp only [List.getElem_toArray, List.getElem_cons_zero, List.getElem_cons_succ, Act.put, List.setIfInBounds_toArray, List.set_cons_zero, List.set_cons_succ]
        refine wpAnyH_take (i := 11) (oi := _) (v := ?vr3n11_96) rfl (by kernel_rfl) (by kernel_rfl) (by kernel_rfl) (fun _ _ _ h => h) (Or.inl ⟨by kernel_rfl, ?hr3n11_96⟩) hHeld12 ?_
        case hr3n11_96 => (intro w hSw; (try dsimp only at hSw); go_simp; try (with_reducible rfl))
        try simp only [List.getElem_toArray, List.getElem_cons_zero, List.getElem_cons_succ, Act.put, List.setIfInBounds_toArray, List.set_cons_zero, List.set_cons_succ]
        refine wpAnyH_ready (rs := [14, 23]) (by kernel_rfl) (by simp) ?_
        refine AllReadyH.cons (o := _) rfl (fun K hK => ?_) ?_
        · skip
          go_simp
          (go_at_call 29; with_reducible refine (HT3.out _).mono ?_; rintro e w6 ⟨rfl, hb0⟩; have hB5 := Lib.hid hb0; clear hb0; have HT05 := Lib.hid (two_keep HT04.out hB5.out))
          refine hK.out _ _ ?_ (fun hHeld13 => ?_)
          · (first | with_reducible exact pk_keep HL.out hHeld12 hB5.out)
          clear hHeld12 hK K
          try simp only [List.getElem_toArray, List.getElem_cons_zero, List.getElem_cons_succ, Act.put, List.setIfInBounds_toArray, List.set_cons_zero, List.set_cons_succ]
          refine wpAnyH_take (i := 15) (oi := _) (v := ?vr3n15_97) rfl (by kernel_rfl) (by kernel_rfl) (by kernel_rfl) (fun _ _ _ h => h) (Or.inl ⟨by kernel_rfl, ?hr3n15_97⟩) hHeld13 ?_
          case hr3n15_97 => (intro w hSw; (try dsimp only at hSw); go_simp; try (with_reducible rfl))
          try simp only [List.getElem_toArray, List.getElem_cons_zero, List.getElem_cons_succ, Act.put, List.setIfInBounds_toArray, List.set_cons_zero, List.set_cons_succ]
          refine wpAnyH_ready (rs := [23]) (by kernel_rfl) (by simp) ?_
          refine AllReadyH.cons (o := _) rfl (fun K hK => ?_) AllReadyH.nil
          (have hcv6 := two_conv HTP HPP HT05.out)
          go_simp
          (clear hcv6)
          refine hK.out _ _ ?_ (fun hHeld14 => ?_)
          · (first | exact hHeld13)
          clear hHeld13 hK K
          try simp only [List.getElem_toArray, List.getElem_cons_zero, List.getElem_cons_succ, Act.put, List.setIfInBounds_toArray, List.set_cons_zero, List.set_cons_succ]
          refine wpAnyH_take (i := 24) (oi := _) (v := ?vr3n24_98) rfl (by kernel_rfl) (by kernel_rfl) (by kernel_rfl) (fun _ _ _ h => h) (Or.inl ⟨by kernel_rfl, ?hr3n24_98⟩) hHeld14 ?_
          case hr3n24_98 => (intro w hSw; (try dsimp only at hSw); go_simp; try (with_reducible rfl))
          try simp only [List.getElem_toArray, List.getElem_cons_zero, List.getElem_cons_succ, Act.put, List.setIfInBounds_toArray, List.set_cons_zero, List.set_cons_succ]
          refine wpAnyH_take (i := 25) (oi := _) (v := ?vr3n25_99) rfl (by kernel_rfl) (by kernel_rfl) (by kernel_rfl) (fun _ _ _ h => h) (Or.inl ⟨by kernel_rfl, ?hr3n25_99⟩) hHeld14 ?_
          case hr3n25_99 => (intro w hSw; (try dsimp only at hSw); go_simp; try (with_reducible rfl))
          try simp only [List.getElem_toArray, List.getElem_cons_zero, List.getElem_cons_succ, Act.put, List.setIfInBounds_toArray, List.set_cons_zero, List.set_cons_succ]
          refine wpAnyH_done (by kernel_rfl) ?_ _
          refine NoPanic.normal ?_
          (go_wp2_with fail; go_meet; exact ⟨congrArg Value.string HSTR.out, And.left hHeld14⟩)
        refine AllReadyH.cons (o := _) rfl (fun K hK => ?_) AllReadyH.nil
        (have hcv5 := two_conv HTP HPP HT04.out)
        go_simp
        (clear hcv5)
        refine hK.out _ _ ?_ (fun hHeld15 => ?_)
        · (first | exact hHeld12)
        clear hHeld12 hK K
        try simp only [List.getElem_toArray, List.getElem_cons_zero, List.getElem_cons_succ, Act.put, List.setIfInBounds_toArray, List.set_cons_zero, List.set_cons_succ]
        refine wpAnyH_ready (rs := [14]) (by kernel_rfl) (by simp) ?_
        refine AllReadyH.cons (o := _) rfl (fun K hK => ?_) AllReadyH.nil
        go_simp
        (go_at_call 29; with_reducible refine (HT3.out _).mono ?_; rintro e w7 ⟨rfl, hb0⟩; have hB6 := Lib.hid hb0; clear hb0)
        refine hK.out _ _ ?_ (fun hHeld16 => ?_)
        · (first | with_reducible exact pk_keep HL.out hHeld15 hB6.out)
        clear hHeld15 hK K
        try simp only [List.getElem_toArray, List.getElem_cons_zero, List.getElem_cons_succ, Act.put, List.setIfInBounds_toArray, List.set_cons_zero, List.set_cons_succ]
        refine wpAnyH_take (i := 15) (oi := _) (v := ?vr3n15_100) rfl (by kernel_rfl) (by kernel_rfl) (by kernel_rfl) (fun _ _ _ h => h) (Or.inl ⟨by kernel_rfl, ?hr3n15_100⟩) hHeld16 ?_
        case hr3n15_100 => (intro w hSw; (try dsimp only at hSw); go_simp; try (with_reducible rfl))
        try simp only [List.getElem_toArray, List.getElem_cons_zero, List.getElem_cons_succ, Act.put, List.setIfInBounds_toArray, List.set_cons_zero, List.set_cons_succ]
        refine wpAnyH_take (i := 24) (oi := _) (v := ?vr3n24_101) rfl (by kernel_rfl) (by kernel_rfl) (by kernel_rfl) (fun _ _ _ h => h) (Or.inl ⟨by kernel_rfl, ?hr3n24_101⟩) hHeld16 ?_
        case hr3n24_101 => (intro w hSw; (try dsimp only at hSw); go_simp; try (with_reducible rfl))
        try simp only [List.getElem_toArray, List.getElem_cons_zero, List.getElem_cons_succ, Act.put, List.setIfInBounds_toArray, List.set_cons_zero, List.set_cons_succ]
        refine wpAnyH_take (i := 25) (oi := _) (v := ?vr3n25_102) rfl (by kernel_rfl) (by kernel_rfl) (by kernel_rfl) (fun _ _ _ h => h) (Or.inl ⟨by kernel_rfl, ?hr3n25_102⟩) hHeld16 ?_
        case hr3n25_102 => (intro w hSw; (try dsimp only at hSw); go_simp; try (with_reducible rfl))
        try simp only [List.getElem_toArray, List.getElem_cons_zero, List.getElem_cons_succ, Act.put, List.setIfInBounds_toArray, List.set_cons_zero, List.set_cons_succ]
        refine wpAnyH_done (by kernel_rfl) ?_ _
        refine NoPanic.normal ?_
        (go_wp2_with fail; go_meet; exact ⟨congrArg Value.string HSTR.out, And.left hHeld16⟩)
      refine AllReadyH.cons (o := _) rfl (fun K hK => ?_) AllReadyH.nil
      (have hcv4 := two_conv HTP HPP HT03.out)
      go_simp
      (clear hcv4)
      refine hK.out _ _ ?_ (fun hHeld17 => ?_)
      · (first | exact hHeld11)
      clear hHeld11 hK K
      try simp only [List.getElem_toArray, List.getElem_cons_zero, List.getElem_cons_succ, Act.put, List.setIfInBounds_toArray, List.set_cons_zero, List.set_cons_succ]
      refine wpAnyH_ready (rs := [10]) (by kernel_rfl) (by simp) ?_
      refine AllReadyH.cons (o := _) rfl (fun K hK => ?_) AllReadyH.nil
      go_simp
      (go_at_call 29; with_reducible refine (HT2.out _).mono ?_; rintro e w6 ⟨rfl, hb0⟩; have hB5 := Lib.hid hb0; clear hb0)
      refine hK.out _ _ ?_ (fun hHeld18 => ?_)
      · (first | with_reducible exact pk_keep HL.out hHeld17 hB5.out)
      clear hHeld17 hK K
      try simp only [List.getElem_toArray, List.getElem_cons_zero, List.getElem_cons_succ, Act.put, List.setIfInBounds_toArray, List.set_cons_zero, List.set_cons_succ]
      refine wpAnyH_take (i := 11) (oi := _) (v := ?vr3n11_103) rfl (by kernel_rfl) (by kernel_rfl) (by kernel_rfl) (fun _ _ _ h => h) (Or.inl ⟨by kernel_rfl, ?hr3n11_103⟩) hHeld18 ?_
      case hr3n11_103 => (intro w hSw; (try dsimp only at hSw); go_simp; try (with_reducible rfl))
      try simp only [List.getElem_toArray, List.getElem_cons_zero, List.getElem_cons_succ, Act.put, List.setIfInBounds_toArray, List.set_cons_zero, List.set_cons_succ]
      refine wpAnyH_ready (rs := [14]) (by kernel_rfl) (by simp) ?_
      refine AllReadyH.cons (o := _) rfl (fun K hK => ?_) AllReadyH.nil
      go_simp
      (go_at_call 29; with_reducible refine (HT3.out _).mono ?_; rintro e w7 ⟨rfl, hb0⟩; have hB6 := Lib.hid hb0; clear hb0)
      refine hK.out _ _ ?_ (fun hHeld19 => ?_)
      · (first | with_reducible exact pk_keep HL.out hHeld18 hB6.out)
      clear hHeld18 hK K
      try simp only [List.getElem_toArray, List.getElem_cons_zero, List.getElem_cons_succ, Act.put, List.setIfInBounds_toArray, List.set_cons_zero, List.set_cons_succ]
      refine wpAnyH_take (i := 15) (oi := _) (v := ?vr3n15_104) rfl (by kernel_rfl) (by kernel_rfl) (by kernel_rfl) (fun _ _ _ h => h) (Or.inl ⟨by kernel_rfl, ?hr3n15_104⟩) hHeld19 ?_
      case hr3n15_104 => (intro w hSw; (try dsimp only at hSw); go_simp; try (with_reducible rfl))
      try simp only [List.getElem_toArray, List.getElem_cons_zero, List.getElem_cons_succ, Act.put, List.setIfInBounds_toArray, List.set_cons_zero, List.set_cons_succ]
      refine wpAnyH_take (i := 24) (oi := _) (v := ?vr3n24_105) rfl (by kernel_rfl) (by kernel_rfl) (by kernel_rfl) (fun _ _ _ h => h) (Or.inl ⟨by kernel_rfl, ?hr3n24_105⟩) hHeld19 ?_
      case hr3n24_105 => (intro w hSw; (try dsimp only at hSw); go_simp; try (with_reducible rfl))
      try simp only [List.getElem_toArray, List.getElem_cons_zero, List.getElem_cons_succ, Act.put, List.setIfInBounds_toArray, List.set_cons_zero, List.set_cons_succ]
      refine wpAnyH_take (i := 25) (oi := _) (v := ?vr3n25_106) rfl (by kernel_rfl) (by kernel_rfl) (by kernel_rfl) (fun _ _ _ h => h) (Or.inl ⟨by kernel_rfl, ?hr3n25_106⟩) hHeld19 ?_
      case hr3n25_106 => (intro w hSw; (try dsimp only at hSw); go_simp; try (with_reducible rfl))
      try simp only [List.getElem_toArray, List.getElem_cons_zero, List.getElem_cons_succ, Act.put, List.setIfInBounds_toArray, List.set_cons_zero, List.set_cons_succ]
      refine wpAnyH_done (by kernel_rfl) ?_ _
      refine NoPanic.normal ?_
      (go_wp2_with fail; go_meet; exact ⟨congrArg Value.string HSTR.out, And.left hHeld19⟩)
    refine AllReadyH.cons (o := _) rfl (fun K hK => ?_) AllReadyH.nil
    go_simp
    (have HT02 : RowKit.Hid (TwoAt tt pr w1.heap.size (w1.alloc (.cells #[.int .u8 tt, .int .u8 pr] 5)).drew) := Lib.hid (two_new tt pr w1.drew))
    refine hK.out _ _ ?_ (fun hHeld20 => ?_)
    · (first | with_reducible exact pk_alloc HL.out hHeld | with_reducible exact pk_allocD HL.out hHeld)
    clear hHeld hK K
    try simp only [List.getElem_toArray, List.getElem_cons_zero, List.getElem_cons_succ, Act.put, List.setIfInBounds_toArray, List.set_cons_zero, List.set_cons_succ]
    refine wpAnyH_ready (rs := [5, 23]) (by kernel_rfl) (by simp) ?_
    refine AllReadyH.cons (o := _) rfl (fun K hK => ?_) ?_
    · skip
      go_simp
      (go_at_call 29; with_reducible refine (HT1.out _).mono ?_; rintro e w4 ⟨rfl, hb0⟩; have hB3 := Lib.hid hb0; clear hb0; have HT03 := Lib.hid (two_keep HT02.out hB3.out))
      refine hK.out _ _ ?_ (fun hHeld21 => ?_)
      · (first | with_reducible exact pk_keep HL.out hHeld20 hB3.out)
      clear hHeld20 hK K
      try simp only [List.getElem_toArray, List.getElem_cons_zero, List.getElem_cons_succ, Act.put, List.setIfInBounds_toArray, List.set_cons_zero, List.set_cons_succ]
      refine wpAnyH_take (i := 6) (oi := _) (v := ?vr3n6_107) rfl (by kernel_rfl) (by kernel_rfl) (by kernel_rfl) (fun _ _ _ h => h) (Or.inl ⟨by kernel_rfl, ?hr3n6_107⟩) hHeld21 ?_
      case hr3n6_107 => (intro w hSw; (try dsimp only at hSw); go_simp; try (with_reducible rfl))
      try simp only [List.getElem_toArray, List.getElem_cons_zero, List.getElem_cons_succ, Act.put, List.setIfInBounds_toArray, List.set_cons_zero, List.set_cons_succ]
      refine wpAnyH_ready (rs := [10, 23]) (by kernel_rfl) (by simp) ?_
      refine AllReadyH.cons (o := _) rfl (fun K hK => ?_) ?_
      · skip
        go_simp
        (go_at_call 29; with_reducible refine (HT2.out _).mono ?_; rintro e w5 ⟨rfl, hb0⟩; have hB4 := Lib.hid hb0; clear hb0; have HT04 := Lib.hid (two_keep HT03.out hB4.out))
        refine hK.out _ _ ?_ (fun hHeld22 => ?_)
        · (first | with_reducible exact pk_keep HL.out hHeld21 hB4.out)
        clear hHeld21 hK K
        try simp only [List.getElem_toArray, List.getElem_cons_zero, List.getElem_cons_succ, Act.put, List.setIfInBounds_toArray, List.set_cons_zero, List.set_cons_succ]
        refine wpAnyH_take (i := 11) (oi := _) (v := ?vr3n11_108) rfl (by kernel_rfl) (by kernel_rfl) (by kernel_rfl) (fun _ _ _ h => h) (Or.inl ⟨by kernel_rfl, ?hr3n11_108⟩) hHeld22 ?_
        case hr3n11_108 => (intro w hSw; (try dsimp only at hSw); go_simp; try (with_reducible rfl))
        try simp only [List.getElem_toArray, List.getElem_cons_zero, List.getElem_cons_succ, Act.put, List.setIfInBounds_toArray, List.set_cons_zero, List.set_cons_succ]
        refine wpAnyH_ready (rs := [14, 23]) (by kernel_rfl) (by simp) ?_
        refine AllReadyH.cons (o := _) rfl (fun K hK => ?_) ?_
        · skip
          go_simp
          (go_at_call 29; with_reducible refine (HT3.out _).mono ?_; rintro e w6 ⟨rfl, hb0⟩; have hB5 := Lib.hid hb0; clear hb0; have HT05 := Lib.hid (two_keep HT04.out hB5.out))
          refine hK.out _ _ ?_ (fun hHeld23 => ?_)
          · (first | with_reducible exact pk_keep HL.out hHeld22 hB5.out)
          clear hHeld22 hK K
          try simp only [List.getElem_toArray, List.getElem_cons_zero, List.getElem_cons_succ, Act.put, List.setIfInBounds_toArray, List.set_cons_zero, List.set_cons_succ]
          refine wpAnyH_take (i := 15) (oi := _) (v := ?vr3n15_109) rfl (by kernel_rfl) (by kernel_rfl) (by kernel_rfl) (fun _ _ _ h => h) (Or.inl ⟨by kernel_rfl, ?hr3n15_109⟩) hHeld23 ?_
          case hr3n15_109 => (intro w hSw; (try dsimp only at hSw); go_simp; try (with_reducible rfl))
          try simp only [List.getElem_toArray, List.getElem_cons_zero, List.getElem_cons_succ, Act.put, List.setIfInBounds_toArray, List.set_cons_zero, List.set_cons_succ]
          refine wpAnyH_ready (rs := [23]) (by kernel_rfl) (by simp) ?_
          refine AllReadyH.cons (o := _) rfl (fun K hK => ?_) AllReadyH.nil
          (have hcv6 := two_conv HTP HPP HT05.out)
          go_simp
          (clear hcv6)
          refine hK.out _ _ ?_ (fun hHeld24 => ?_)
          · (first | exact hHeld23)
          clear hHeld23 hK K
          try simp only [List.getElem_toArray, List.getElem_cons_zero, List.getElem_cons_succ, Act.put, List.setIfInBounds_toArray, List.set_cons_zero, List.set_cons_succ]
          refine wpAnyH_take (i := 24) (oi := _) (v := ?vr3n24_110) rfl (by kernel_rfl) (by kernel_rfl) (by kernel_rfl) (fun _ _ _ h => h) (Or.inl ⟨by kernel_rfl, ?hr3n24_110⟩) hHeld24 ?_
          case hr3n24_110 => (intro w hSw; (try dsimp only at hSw); go_simp; try (with_reducible rfl))
          try simp only [List.getElem_toArray, List.getElem_cons_zero, List.getElem_cons_succ, Act.put, List.setIfInBounds_toArray, List.set_cons_zero, List.set_cons_succ]
          refine wpAnyH_take (i := 25) (oi := _) (v := ?vr3n25_111) rfl (by kernel_rfl) (by kernel_rfl) (by kernel_rfl) (fun _ _ _ h => h) (Or.inl ⟨by kernel_rfl, ?hr3n25_111⟩) hHeld24 ?_
          case hr3n25_111 => (intro w hSw; (try dsimp only at hSw); go_simp; try (with_reducible rfl))
          try simp only [List.getElem_toArray, List.getElem_cons_zero, List.getElem_cons_succ, Act.put, List.setIfInBounds_toArray, List.set_cons_zero, List.set_cons_succ]
          refine wpAnyH_done (by kernel_rfl) ?_ _
          refine NoPanic.normal ?_
          (go_wp2_with fail; go_meet; exact ⟨congrArg Value.string HSTR.out, And.left hHeld24⟩)
        refine AllReadyH.cons (o := _) rfl (fun K hK => ?_) AllReadyH.nil
        (have hcv5 := two_conv HTP HPP HT04.out)
        go_simp
        (clear hcv5)
        refine hK.out _ _ ?_ (fun hHeld25 => ?_)
        · (first | exact hHeld22)
        clear hHeld22 hK K
        try simp only [List.getElem_toArray, List.getElem_cons_zero, List.getElem_cons_succ, Act.put, List.setIfInBounds_toArray, List.set_cons_zero, List.set_cons_succ]
        refine wpAnyH_ready (rs := [14]) (by kernel_rfl) (by simp) ?_
        refine AllReadyH.cons (o := _) rfl (fun K hK => ?_) AllReadyH.nil
        go_simp
        (go_at_call 29; with_reducible refine (HT3.out _).mono ?_; rintro e w7 ⟨rfl, hb0⟩; have hB6 := Lib.hid hb0; clear hb0)
        refine hK.out _ _ ?_ (fun hHeld26 => ?_)
        · (first | with_reducible exact pk_keep HL.out hHeld25 hB6.out)
        clear hHeld25 hK K
        try simp only [List.getElem_toArray, List.getElem_cons_zero, List.getElem_cons_succ, Act.put, List.setIfInBounds_toArray, List.set_cons_zero, List.set_cons_succ]
        refine wpAnyH_take (i := 15) (oi := _) (v := ?vr3n15_112) rfl (by kernel_rfl) (by kernel_rfl) (by kernel_rfl) (fun _ _ _ h => h) (Or.inl ⟨by kernel_rfl, ?hr3n15_112⟩) hHeld26 ?_
        case hr3n15_112 => (intro w hSw; (try dsimp only at hSw); go_simp; try (with_reducible rfl))
        try simp only [List.getElem_toArray, List.getElem_cons_zero, List.getElem_cons_succ, Act.put, List.setIfInBounds_toArray, List.set_cons_zero, List.set_cons_succ]
        refine wpAnyH_take (i := 24) (oi := _) (v := ?vr3n24_113) rfl (by kernel_rfl) (by kernel_rfl) (by kernel_rfl) (fun _ _ _ h => h) (Or.inl ⟨by kernel_rfl, ?hr3n24_113⟩) hHeld26 ?_
        case hr3n24_113 => (intro w hSw; (try dsimp only at hSw); go_simp; try (with_reducible rfl))
        try simp only [List.getElem_toArray, List.getElem_cons_zero, List.getElem_cons_succ, Act.put, List.setIfInBounds_toArray, List.set_cons_zero, List.set_cons_succ]
        refine wpAnyH_take (i := 25) (oi := _) (v := ?vr3n25_114) rfl (by kernel_rfl) (by kernel_rfl) (by kernel_rfl) (fun _ _ _ h => h) (Or.inl ⟨by kernel_rfl, ?hr3n25_114⟩) hHeld26 ?_
        case hr3n25_114 => (intro w hSw; (try dsimp only at hSw); go_simp; try (with_reducible rfl))
        try simp only [List.getElem_toArray, List.getElem_cons_zero, List.getElem_cons_succ, Act.put, List.setIfInBounds_toArray, List.set_cons_zero, List.set_cons_succ]
        refine wpAnyH_done (by kernel_rfl) ?_ _
        refine NoPanic.normal ?_
        (go_wp2_with fail; go_meet; exact ⟨congrArg Value.string HSTR.out, And.left hHeld26⟩)
      refine AllReadyH.cons (o := _) rfl (fun K hK => ?_) AllReadyH.nil
      (have hcv4 := two_conv HTP HPP HT03.out)
      go_simp
      (clear hcv4)
      refine hK.out _ _ ?_ (fun hHeld27 => ?_)
      · (first | exact hHeld21)
      clear hHeld21 hK K
      try simp only [List.getElem_toArray, List.getElem_cons_zero, List.getElem_cons_succ, Act.put, List.setIfInBounds_toArray, List.set_cons_zero, List.set_cons_succ]
      refine wpAnyH_ready (rs := [10]) (by kernel_rfl) (by simp) ?_
      refine AllReadyH.cons (o := _) rfl (fun K hK => ?_) AllReadyH.nil
      go_simp
      (go_at_call 29; with_reducible refine (HT2.out _).mono ?_; rintro e w6 ⟨rfl, hb0⟩; have hB5 := Lib.hid hb0; clear hb0)
      refine hK.out _ _ ?_ (fun hHeld28 => ?_)
      · (first | with_reducible exact pk_keep HL.out hHeld27 hB5.out)
      clear hHeld27 hK K
      try simp only [List.getElem_toArray, List.getElem_cons_zero, List.getElem_cons_succ, Act.put, List.setIfInBounds_toArray, List.set_cons_zero, List.set_cons_succ]
      refine wpAnyH_take (i := 11) (oi := _) (v := ?vr3n11_115) rfl (by kernel_rfl) (by kernel_rfl) (by kernel_rfl) (fun _ _ _ h => h) (Or.inl ⟨by kernel_rfl, ?hr3n11_115⟩) hHeld28 ?_
      case hr3n11_115 => (intro w hSw; (try dsimp only at hSw); go_simp; try (with_reducible rfl))
      try simp only [List.getElem_toArray, List.getElem_cons_zero, List.getElem_cons_succ, Act.put, List.setIfInBounds_toArray, List.set_cons_zero, List.set_cons_succ]
      refine wpAnyH_ready (rs := [14]) (by kernel_rfl) (by simp) ?_
      refine AllReadyH.cons (o := _) rfl (fun K hK => ?_) AllReadyH.nil
      go_simp
      (go_at_call 29; with_reducible refine (HT3.out _).mono ?_; rintro e w7 ⟨rfl, hb0⟩; have hB6 := Lib.hid hb0; clear hb0)
      refine hK.out _ _ ?_ (fun hHeld29 => ?_)
      · (first | with_reducible exact pk_keep HL.out hHeld28 hB6.out)
      clear hHeld28 hK K
      try simp only [List.getElem_toArray, List.getElem_cons_zero, List.getElem_cons_succ, Act.put, List.setIfInBounds_toArray, List.set_cons_zero, List.set_cons_succ]
      refine wpAnyH_take (i := 15) (oi := _) (v := ?vr3n15_116) rfl (by kernel_rfl) (by kernel_rfl) (by kernel_rfl) (fun _ _ _ h => h) (Or.inl ⟨by kernel_rfl, ?hr3n15_116⟩) hHeld29 ?_
      case hr3n15_116 => (intro w hSw; (try dsimp only at hSw); go_simp; try (with_reducible rfl))
      try simp only [List.getElem_toArray, List.getElem_cons_zero, List.getElem_cons_succ, Act.put, List.setIfInBounds_toArray, List.set_cons_zero, List.set_cons_succ]
      refine wpAnyH_take (i := 24) (oi := _) (v := ?vr3n24_117) rfl (by kernel_rfl) (by kernel_rfl) (by kernel_rfl) (fun _ _ _ h => h) (Or.inl ⟨by kernel_rfl, ?hr3n24_117⟩) hHeld29 ?_
      case hr3n24_117 => (intro w hSw; (try dsimp only at hSw); go_simp; try (with_reducible rfl))
      try simp only [List.getElem_toArray, List.getElem_cons_zero, List.getElem_cons_succ, Act.put, List.setIfInBounds_toArray, List.set_cons_zero, List.set_cons_succ]
      refine wpAnyH_take (i := 25) (oi := _) (v := ?vr3n25_118) rfl (by kernel_rfl) (by kernel_rfl) (by kernel_rfl) (fun _ _ _ h => h) (Or.inl ⟨by kernel_rfl, ?hr3n25_118⟩) hHeld29 ?_
      case hr3n25_118 => (intro w hSw; (try dsimp only at hSw); go_simp; try (with_reducible rfl))
      try simp only [List.getElem_toArray, List.getElem_cons_zero, List.getElem_cons_succ, Act.put, List.setIfInBounds_toArray, List.set_cons_zero, List.set_cons_succ]
      refine wpAnyH_done (by kernel_rfl) ?_ _
      refine NoPanic.normal ?_
      (go_wp2_with fail; go_meet; exact ⟨congrArg Value.string HSTR.out, And.left hHeld29⟩)
    refine AllReadyH.cons (o := _) rfl (fun K hK => ?_) AllReadyH.nil
    (have hcv3 := two_conv HTP HPP HT02.out)
    go_simp
    (clear hcv3)
    refine hK.out _ _ ?_ (fun hHeld30 => ?_)
    · (first | exact hHeld20)
    clear hHeld20 hK K
    try simp only [List.getElem_toArray, List.getElem_cons_zero, List.getElem_cons_succ, Act.put, List.setIfInBounds_toArray, List.set_cons_zero, List.set_cons_succ]
    refine wpAnyH_ready (rs := [5]) (by kernel_rfl) (by simp) ?_
    refine AllReadyH.cons (o := _) rfl (fun K hK => ?_) AllReadyH.nil
    go_simp
    (go_at_call 29; with_reducible refine (HT1.out _).mono ?_; rintro e w5 ⟨rfl, hb0⟩; have hB4 := Lib.hid hb0; clear hb0)
    refine hK.out _ _ ?_ (fun hHeld31 => ?_)
    · (first | with_reducible exact pk_keep HL.out hHeld30 hB4.out)
    clear hHeld30 hK K
    try simp only [List.getElem_toArray, List.getElem_cons_zero, List.getElem_cons_succ, Act.put, List.setIfInBounds_toArray, List.set_cons_zero, List.set_cons_succ]
    refine wpAnyH_take (i := 6) (oi := _) (v := ?vr3n6_119) rfl (by kernel_rfl) (by kernel_rfl) (by kernel_rfl) (fun _ _ _ h => h) (Or.inl ⟨by kernel_rfl, ?hr3n6_119⟩) hHeld31 ?_
    case hr3n6_119 => (intro w hSw; (try dsimp only at hSw); go_simp; try (with_reducible rfl))
    try simp only [List.getElem_toArray, List.getElem_cons_zero, List.getElem_cons_succ, Act.put, List.setIfInBounds_toArray, List.set_cons_zero, List.set_cons_succ]
    refine wpAnyH_ready (rs := [10]) (by kernel_rfl) (by simp) ?_
    refine AllReadyH.cons (o := _) rfl (fun K hK => ?_) AllReadyH.nil
    go_simp
    (go_at_call 29; with_reducible refine (HT2.out _).mono ?_; rintro e w6 ⟨rfl, hb0⟩; have hB5 := Lib.hid hb0; clear hb0)
    refine hK.out _ _ ?_ (fun hHeld32 => ?_)
    · (first | with_reducible exact pk_keep HL.out hHeld31 hB5.out)
    clear hHeld31 hK K
    try simp only [List.getElem_toArray, List.getElem_cons_zero, List.getElem_cons_succ, Act.put, List.setIfInBounds_toArray, List.set_cons_zero, List.set_cons_succ]
    refine wpAnyH_take (i := 11) (oi := _) (v := ?vr3n11_120) rfl (by kernel_rfl) (by kernel_rfl) (by kernel_rfl) (fun _ _ _ h => h) (Or.inl ⟨by kernel_rfl, ?hr3n11_120⟩) hHeld32 ?_
    case hr3n11_120 => (intro w hSw; (try dsimp only at hSw); go_simp; try (with_reducible rfl))
    try simp only [List.getElem_toArray, List.getElem_cons_zero, List.getElem_cons_succ, Act.put, List.setIfInBounds_toArray, List.set_cons_zero, List.set_cons_succ]
    refine wpAnyH_ready (rs := [14]) (by kernel_rfl) (by simp) ?_
    refine AllReadyH.cons (o := _) rfl (fun K hK => ?_) AllReadyH.nil
    go_simp
    (go_at_call 29; with_reducible refine (HT3.out _).mono ?_; rintro e w7 ⟨rfl, hb0⟩; have hB6 := Lib.hid hb0; clear hb0)
    refine hK.out _ _ ?_ (fun hHeld33 => ?_)
    · (first | with_reducible exact pk_keep HL.out hHeld32 hB6.out)
    clear hHeld32 hK K
    try simp only [List.getElem_toArray, List.getElem_cons_zero, List.getElem_cons_succ, Act.put, List.setIfInBounds_toArray, List.set_cons_zero, List.set_cons_succ]
    refine wpAnyH_take (i := 15) (oi := _) (v := ?vr3n15_121) rfl (by kernel_rfl) (by kernel_rfl) (by kernel_rfl) (fun _ _ _ h => h) (Or.inl ⟨by kernel_rfl, ?hr3n15_121⟩) hHeld33 ?_
    case hr3n15_121 => (intro w hSw; (try dsimp only at hSw); go_simp; try (with_reducible rfl))
    try simp only [List.getElem_toArray, List.getElem_cons_zero, List.getElem_cons_succ, Act.put, List.setIfInBounds_toArray, List.set_cons_zero, List.set_cons_succ]
    refine wpAnyH_take (i := 24) (oi := _) (v := ?vr3n24_122) rfl (by kernel_rfl) (by kernel_rfl) (by kernel_rfl) (fun _ _ _ h => h) (Or.inl ⟨by kernel_rfl, ?hr3n24_122⟩) hHeld33 ?_
    case hr3n24_122 => (intro w hSw; (try dsimp only at hSw); go_simp; try (with_reducible rfl))
    try simp only [List.getElem_toArray, List.getElem_cons_zero, List.getElem_cons_succ, Act.put, List.setIfInBounds_toArray, List.set_cons_zero, List.set_cons_succ]
    refine wpAnyH_take (i := 25) (oi := _) (v := ?vr3n25_123) rfl (by kernel_rfl) (by kernel_rfl) (by kernel_rfl) (fun _ _ _ h => h) (Or.inl ⟨by kernel_rfl, ?hr3n25_123⟩) hHeld33 ?_
    case hr3n25_123 => (intro w hSw; (try dsimp only at hSw); go_simp; try (with_reducible rfl))
    try simp only [List.getElem_toArray, List.getElem_cons_zero, List.getElem_cons_succ, Act.put, List.setIfInBounds_toArray, List.set_cons_zero, List.set_cons_succ]
    refine wpAnyH_done (by kernel_rfl) ?_ _
    refine NoPanic.normal ?_
    (go_wp2_with fail; go_meet; exact ⟨congrArg Value.string HSTR.out, And.left hHeld33⟩)
  case rest =>
    obtain ⟨rfl, hS⟩ := hcut
    have HS := Lib.hid hS
    have hb := sumE_in ⟨(pkAhead id pr tt a true d.length ++ (f ++ t)).toArray⟩
    have hsum := fun w => sum_any w ⟨(pkAhead id pr tt a true d.length ++ (f ++ t)).toArray⟩ (by
      show (List.toArray _).size ≤ _
      rw [List.size_toArray, List.length_append, List.length_append, HLA.out, HL.out.f, HL.out.t]
      simp [hl1, hl2, hl3])
    have htc := fun w => two_any (sumE ⟨(pkAhead id pr tt a true d.length ++ (f ++ t)).toArray⟩) w (by omega)
    have hhd : pkHead id f t pr tt a true d.length ++ d = pkAhead id pr tt a true d.length ++ (litN (sumE ⟨(pkAhead id pr tt a true d.length ++ (f ++ t)).toArray⟩) 2).reverse ++ (f ++ t) ++ d := rfl
    generalize sumE ⟨(pkAhead id pr tt a true d.length ++ (f ++ t)).toArray⟩ = M at hsum htc hhd hb
    simp only [← str_append] at hsum
    have hC2 : (litN M 2).reverse.length = 2 := by rw [be2 _ (by omega)]; rfl
    have hA10 : (pkAhead id pr tt a true d.length).length = 10 := by rw [HLA.out]; simp [hl1, hl2, hl3]
    generalize (litN M 2).reverse = C at htc hhd hC2
    generalize pkAhead id pr tt a true d.length = A at hsum hhd hA10 ⊢
    have hfin : (({ data := A.toArray } : ByteArray) ++ { data := C.toArray } ++ ({ data := f.toArray } ++ { data := t.toArray }) ++ { data := d.toArray }) = { data := (pkHead id f t pr tt a true d.length ++ d).toArray } := by
      rw [hhd, ← str_append, ← str_append, ← str_append, ← str_append]
    have HFIN := Lib.hid hfin
    clear hfin
    have HSUM := Lib.hid hsum
    have HTC := Lib.hid htc
    clear hhd hsum htc hb
    have hnb : ¬ 9223372036854775807 < 20 + d.length := by omega
    have rf := fun n => (pk_arr HL.out ⟨Blk.drewN hS.1 n, Below.drewN hS.2 n⟩).2.1
    have rt := fun n => (pk_arr HL.out ⟨Blk.drewN hS.1 n, Below.drewN hS.2 n⟩).2.2
    have hf4 := HL.out.f
    have ht4 := HL.out.t
    clear hS
    go_wp2
    go_quiet (fail)
    go_wp2
    clear rf rt
    refine wp_region_noPanic ?_
    refine wp_region_held_drew (S := (fun w' => PkS w w.heap.size id f t pr tt a true d w' ∧ w'.cell? ⟨w.heap.size, 13, none⟩ = some (.string ⟨d.toArray⟩))) (by kernel_rfl) (by first | exact pk_13 HL.out (pk_drew ⟨Blk.drewN HS.out.1 _, Below.drewN HS.out.2 _⟩)) (fun hHeld => ?_)
    refine wpAnyH_take (i := 0) (oi := _) (v := ?vr4n0_124) rfl (by kernel_rfl) (by kernel_rfl) (by kernel_rfl) (fun _ _ _ h => h) (Or.inl ⟨by kernel_rfl, ?hr4n0_124⟩) hHeld ?_
    case hr4n0_124 => (intro w hSw; (try dsimp only at hSw); go_simp; try (with_reducible rfl))
    try simp only [List.getElem_toArray, List.getElem_cons_zero, List.getElem_cons_succ, Act.put, List.setIfInBounds_toArray, List.set_cons_zero, List.set_cons_succ]
    refine wpAnyH_take (i := 1) (oi := _) (v := ?vr4n1_125) rfl (by kernel_rfl) (by kernel_rfl) (by kernel_rfl) (fun _ _ _ h => h) (Or.inl ⟨by kernel_rfl, ?hr4n1_125⟩) hHeld ?_
    case hr4n1_125 => (intro w hSw; (try dsimp only at hSw); go_simp; try (with_reducible rfl))
    try simp only [List.getElem_toArray, List.getElem_cons_zero, List.getElem_cons_succ, Act.put, List.setIfInBounds_toArray, List.set_cons_zero, List.set_cons_succ]
    refine wpAnyH_take (i := 2) (oi := _) (v := ?vr4n2_126) rfl (by kernel_rfl) (by kernel_rfl) (by kernel_rfl) (fun _ _ _ h => h) (Or.inl ⟨by kernel_rfl, ?hr4n2_126⟩) hHeld ?_
    case hr4n2_126 => (intro w hSw; (try dsimp only at hSw); go_simp; try (with_reducible rfl))
    try simp only [List.getElem_toArray, List.getElem_cons_zero, List.getElem_cons_succ, Act.put, List.setIfInBounds_toArray, List.set_cons_zero, List.set_cons_succ]
    refine wpAnyH_take (i := 3) (oi := _) (v := ?vr4n3_127) rfl (by kernel_rfl) (by kernel_rfl) (by kernel_rfl) (fun _ _ _ h => h) (Or.inl ⟨by kernel_rfl, ?hr4n3_127⟩) hHeld ?_
    case hr4n3_127 => (intro w hSw; (try dsimp only at hSw); go_simp; try (with_reducible rfl))
    try simp only [List.getElem_toArray, List.getElem_cons_zero, List.getElem_cons_succ, Act.put, List.setIfInBounds_toArray, List.set_cons_zero, List.set_cons_succ]
    refine wpAnyH_take (i := 4) (oi := _) (v := ?vr4n4_128) rfl (by kernel_rfl) (by kernel_rfl) (by kernel_rfl) (fun _ _ _ h => h) (Or.inl ⟨by kernel_rfl, ?hr4n4_128⟩) hHeld ?_
    case hr4n4_128 => (intro w hSw; (try dsimp only at hSw); go_simp; try (with_reducible rfl))
    try simp only [List.getElem_toArray, List.getElem_cons_zero, List.getElem_cons_succ, Act.put, List.setIfInBounds_toArray, List.set_cons_zero, List.set_cons_succ]
    refine wpAnyH_take (i := 8) (oi := _) (v := ?vr4n8_129) rfl (by kernel_rfl) (by kernel_rfl) (by kernel_rfl) (fun _ _ _ h => h) (Or.inl ⟨by kernel_rfl, ?hr4n8_129⟩) hHeld ?_
    case hr4n8_129 => (intro w hSw; (try dsimp only at hSw); go_simp; try (with_reducible rfl))
    try simp only [List.getElem_toArray, List.getElem_cons_zero, List.getElem_cons_succ, Act.put, List.setIfInBounds_toArray, List.set_cons_zero, List.set_cons_succ]
    refine wpAnyH_take (i := 10) (oi := _) (v := ?vr4n10_130) rfl (by kernel_rfl) (by kernel_rfl) (by kernel_rfl) (fun _ _ _ h => h) (Or.inl ⟨by kernel_rfl, ?hr4n10_130⟩) hHeld ?_
    case hr4n10_130 => (intro w hSw; (try dsimp only at hSw); go_simp; try (with_reducible rfl))
    try simp only [List.getElem_toArray, List.getElem_cons_zero, List.getElem_cons_succ, Act.put, List.setIfInBounds_toArray, List.set_cons_zero, List.set_cons_succ]
    refine wpAnyH_take (i := 11) (oi := _) (v := ?vr4n11_131) rfl (by kernel_rfl) (by kernel_rfl) (by kernel_rfl) (fun _ _ _ h => h) (Or.inl ⟨by kernel_rfl, ?hr4n11_131⟩) hHeld ?_
    case hr4n11_131 => (intro w hSw; (try dsimp only at hSw); go_simp; try (with_reducible rfl))
    try simp only [List.getElem_toArray, List.getElem_cons_zero, List.getElem_cons_succ, Act.put, List.setIfInBounds_toArray, List.set_cons_zero, List.set_cons_succ]
    refine wpAnyH_ready (rs := [5]) (by kernel_rfl) (by simp) ?_
    refine AllReadyH.cons (o := _) rfl (fun K hK => ?_) AllReadyH.nil
    go_simp
    (go_at_call 15; with_reducible refine (HSUM.out _).mono ?_; rintro e w2 ⟨rfl, rfl⟩)
    refine hK.out _ _ ?_ (fun hHeld1 => ?_)
    · (first | exact hHeld)
    clear hHeld hK K
    try simp only [List.getElem_toArray, List.getElem_cons_zero, List.getElem_cons_succ, Act.put, List.setIfInBounds_toArray, List.set_cons_zero, List.set_cons_succ]
    refine wpAnyH_ready (rs := [6]) (by kernel_rfl) (by simp) ?_
    refine AllReadyH.cons (o := _) rfl (fun K hK => ?_) AllReadyH.nil
    go_simp
    (go_at_call 29; with_reducible refine (HTC.out _).mono ?_; rintro e w2 ⟨rfl, hb0⟩; have hb2 := Lib.hid hb0; clear hb0)
    refine hK.out _ _ ?_ (fun hHeld2 => ?_)
    · (first | exact pk_13k HL.out hHeld1 hb2.out)
    clear hHeld1 hK K
    try simp only [List.getElem_toArray, List.getElem_cons_zero, List.getElem_cons_succ, Act.put, List.setIfInBounds_toArray, List.set_cons_zero, List.set_cons_succ]
    refine wpAnyH_take (i := 7) (oi := _) (v := ?vr4n7_132) rfl (by kernel_rfl) (by kernel_rfl) (by kernel_rfl) (fun _ _ _ h => h) (Or.inl ⟨by kernel_rfl, ?hr4n7_132⟩) hHeld2 ?_
    case hr4n7_132 => (intro w hSw; (try dsimp only at hSw); go_simp; try (with_reducible rfl))
    try simp only [List.getElem_toArray, List.getElem_cons_zero, List.getElem_cons_succ, Act.put, List.setIfInBounds_toArray, List.set_cons_zero, List.set_cons_succ]
    refine wpAnyH_take (i := 9) (oi := _) (v := ?vr4n9_133) rfl (by kernel_rfl) (by kernel_rfl) (by kernel_rfl) (fun _ _ _ h => h) (Or.inl ⟨by kernel_rfl, ?hr4n9_133⟩) hHeld2 ?_
    case hr4n9_133 => (intro w hSw; (try dsimp only at hSw); go_simp; try (with_reducible rfl))
    try simp only [List.getElem_toArray, List.getElem_cons_zero, List.getElem_cons_succ, Act.put, List.setIfInBounds_toArray, List.set_cons_zero, List.set_cons_succ]
    refine wpAnyH_take (i := 12) (oi := _) (v := ?vr4n12_134) rfl (by kernel_rfl) (by kernel_rfl) (by kernel_rfl) (fun _ _ _ h => h) (Or.inl ⟨by kernel_rfl, ?hr4n12_134⟩) hHeld2 ?_
    case hr4n12_134 => (intro w hSw; (try dsimp only at hSw); go_simp; try (with_reducible rfl))
    try simp only [List.getElem_toArray, List.getElem_cons_zero, List.getElem_cons_succ, Act.put, List.setIfInBounds_toArray, List.set_cons_zero, List.set_cons_succ]
    refine wpAnyH_take (i := 13) (oi := _) (v := ?vr4n13_135) rfl (by kernel_rfl) (by kernel_rfl) (by kernel_rfl) (fun _ _ _ h => h) (Or.inl ⟨by kernel_rfl, ?hr4n13_135⟩) hHeld2 ?_
    case hr4n13_135 => (intro w hSw; (try dsimp only at hSw); go_simp; try (with_reducible rfl))
    try simp only [List.getElem_toArray, List.getElem_cons_zero, List.getElem_cons_succ, Act.put, List.setIfInBounds_toArray, List.set_cons_zero, List.set_cons_succ]
    refine wpAnyH_take (i := 14) (oi := _) (v := ?vr4n14_136) rfl (by kernel_rfl) (by kernel_rfl) (by kernel_rfl) (fun _ _ _ h => h) (Or.inl ⟨by kernel_rfl, ?hr4n14_136⟩) hHeld2 ?_
    case hr4n14_136 => (intro w hSw; (try dsimp only at hSw); go_simp; try (with_reducible rfl))
    try simp only [List.getElem_toArray, List.getElem_cons_zero, List.getElem_cons_succ, Act.put, List.setIfInBounds_toArray, List.set_cons_zero, List.set_cons_succ]
    refine wpAnyH_done (by kernel_rfl) ?_ _
    refine NoPanic.normal ?_
    go_wp2
    go_ret2
    exact ⟨congrArg (fun s => Ending.returned (.tuple #[.string s, .int .i64 0])) HFIN.out, (And.left (hHeld2 : PkS w w.heap.size id f t pr tt a true d _ ∧ _)).2⟩
end Go.Proofs.Yticchchcobjpdaa
