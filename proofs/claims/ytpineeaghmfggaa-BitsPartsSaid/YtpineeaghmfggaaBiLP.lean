/- The walk through the law BitsParts: it answers true. Condition: numbers that a memory can hold. -/
import Derived.Test.YtpineeaghmfggaaBiW
import Derived.Test.YtpineeaghmfggaaBiU
namespace Go.Proofs.Ytpineeaghmfggaa
set_option linter.unusedVariables false
set_option linter.unusedSimpArgs false
set_option maxRecDepth 100000
open Go.RowKit
attribute [local go_sem ↓] Go.wp_at_zero Go.wp_at_succ

theorem BitsAt.drew {w : World} {A : Option Addr} {L : List Nat} (h : BitsAt w w.heap.size A L) : BitsAt w.drew w.drew.heap.size A L := h

set_option maxHeartbeats 1000000 in
theorem bitsParts_long (A B : Option Addr) (ca cb : Nat) (K L : List Int) (q : Int) (hl : 200 < K.length ∨ 200 < L.length) (w : World) (hK : K.length ≤ maxLen) (hL : L.length ≤ maxLen) : Calls Try.prog 7 #[.slice A K.length ca, .slice B L.length cb, .int .i64 q] w fun e w' => e = .returned (.bool true) ∧ Below w.heap.size w w' := by
  have WK := Lib.hid wakes_any
  have h3 : (200 : Int) < (K.length : Int) ∨ ((K.length : Int) ≤ 200 ∧ (200 : Int) < (L.length : Int)) := by omega
  clear hl hK hL
  rcases h3 with h1 | ⟨h1, h2⟩
  · go_enter Try.func7, Try.ntmps7
    go_wp2_with fail
    refine (WK.out _).mono ?_
    rintro e w1 ⟨rfl, hb⟩
    have HB2 := Lib.hid (hb)
    clear hb 
    go_wp2
    go_ret
    exact ⟨rfl, HB2.out⟩
  · go_enter Try.func7, Try.ntmps7
    go_wp2_with fail
    refine (WK.out _).mono ?_
    rintro e w3 ⟨rfl, hb⟩
    have HB4 := Lib.hid (hb)
    clear hb 
    go_wp2
    go_ret
    exact ⟨rfl, HB4.out⟩

set_option maxHeartbeats 4000000 in
theorem bitsParts_main (A B : Option Addr) (ca cb : Nat) (K L : List Int) (q : Int) (a b d u x y la lb ld lu : Nat) (hl1 : K.length ≤ 200) (hl2 : L.length ≤ 200) (w : World) (hA : IntsAt w w.heap.size A K) (hB : IntsAt w w.heap.size B L)
    (OA : Hid (∀ w, IntsAt w w.heap.size A K → Calls Try.prog 15 #[.slice A K.length ca] w fun e w' => e = .returned (bv a) ∧ Below w.heap.size w w'))
    (OB : Hid (∀ w, IntsAt w w.heap.size B L → Calls Try.prog 15 #[.slice B L.length cb] w fun e w' => e = .returned (bv b) ∧ Below w.heap.size w w'))
    (MD : Hid (∀ w, Calls Try.prog 24 #[bv a, bv b] w fun e w' => e = .returned (bv d) ∧ Below w.heap.size w w'))
    (UD : Hid (∀ A c w, BitsAt w w.heap.size A [d, b] → Calls Try.prog 23 #[.slice A 2 c] w fun e w' => e = .returned (bv u) ∧ Below w.heap.size w w'))
    (UA : Hid (∀ A c w, BitsAt w w.heap.size A [a, b] → Calls Try.prog 23 #[.slice A 2 c] w fun e w' => e = .returned (bv u) ∧ Below w.heap.size w w'))
    (MZ : Hid (∀ w, Calls Try.prog 24 #[bv a, bv a] w fun e w' => e = .returned (bv 0) ∧ Below w.heap.size w w'))
    (O0 : Hid (∀ w, Calls Try.prog 15 #[.slice none 0 0] w fun e w' => e = .returned (bv 0) ∧ Below w.heap.size w w'))
    (WI : Hid (∀ w, Calls Try.prog 20 #[bv a, .int .i64 q] w fun e w' => e = .returned (bv x) ∧ Below w.heap.size w w'))
    (WO : Hid (∀ w, Calls Try.prog 21 #[bv a, .int .i64 q] w fun e w' => e = .returned (bv y) ∧ Below w.heap.size w w'))
    (HX : Hid (∀ i : Nat, i < 64 → ∀ w, Calls Try.prog 22 #[bv x, .int .i64 (i : Int)] w fun e w' => e = .returned (.bool (x.testBit i)) ∧ Below w.heap.size w w'))
    (HY : Hid (∀ i : Nat, i < 64 → ∀ w, Calls Try.prog 22 #[bv y, .int .i64 (i : Int)] w fun e w' => e = .returned (.bool (y.testBit i)) ∧ Below w.heap.size w w'))
    (HA : Hid (∀ i : Nat, i < 64 → ∀ w, Calls Try.prog 22 #[bv a, .int .i64 (i : Int)] w fun e w' => e = .returned (.bool (a.testBit i)) ∧ Below w.heap.size w w'))
    (TX : Hid (∀ i : Nat, i < 64 → ¬ (i : Int) = q → x.testBit i = a.testBit i ∧ y.testBit i = a.testBit i)) (TQ : Hid (∀ i : Nat, i < 64 → (i : Int) = q → x.testBit i = true ∧ y.testBit i = false))
    (LA : Hid (∀ w, Calls Try.prog 17 #[bv a] w fun e w' => e = .returned (.int .i64 (la : Int)) ∧ Below w.heap.size w w'))
    (LB : Hid (∀ w, Calls Try.prog 17 #[bv b] w fun e w' => e = .returned (.int .i64 (lb : Int)) ∧ Below w.heap.size w w'))
    (LD : Hid (∀ w, Calls Try.prog 17 #[bv d] w fun e w' => e = .returned (.int .i64 (ld : Int)) ∧ Below w.heap.size w w'))
    (LU : Hid (∀ w, Calls Try.prog 17 #[bv u] w fun e w' => e = .returned (.int .i64 (lu : Int)) ∧ Below w.heap.size w w'))
    (hla : la ≤ 64) (hlb : lb ≤ 64) (hld : ld ≤ 64) (hlu : lu = lb + ld) :
    Calls Try.prog 7 #[.slice A K.length ca, .slice B L.length cb, .int .i64 q] w fun e w' => e = .returned (.bool true) ∧ Below w.heap.size w w' := by
  have WK := Lib.hid wakes_any
  have hl1 : (K.length : Int) ≤ 200 := by omega
  have hl2 : (L.length : Int) ≤ 200 := by omega
  have HIk := Lib.hid hA
  have HIl := Lib.hid hB
  clear hA hB
  have HS1 : Hid (IntKind.i64.wrap ((la : Int) + (lb : Int)) = (la : Int) + (lb : Int)) := IntWalk.i64_in _ ⟨by omega, by omega⟩
  have HS2 : Hid (IntKind.i64.wrap ((lu : Int) + (la : Int)) = (lu : Int) + (la : Int)) := IntWalk.i64_in _ ⟨by omega, by omega⟩
  have HS3 : Hid (IntKind.i64.wrap ((lu : Int) + (la : Int) - (ld : Int)) = (la : Int) + (lb : Int)) := by
    have e : (lu : Int) + (la : Int) - (ld : Int) = (la : Int) + (lb : Int) := by omega
    show _ = _
    rw [e]
    exact IntWalk.i64_in _ ⟨by omega, by omega⟩
  clear hla hlb hld hlu
  go_enter Try.func7, Try.ntmps7
  go_wp2_with fail
  refine (OA.out _ HIk.out).mono ?_
  rintro e w5 ⟨rfl, hb⟩
  have HIk6 := Lib.hid (HIk.out.up hb)
  have HIl6 := Lib.hid (HIl.out.up hb)
  have HB6 := Lib.hid (hb)
  clear hb HIk HIl
  go_upto_region 4 with fail
  have HIk8 := Lib.hid (HIk6.out.up ((Below.refl _ w5).alloc (Nat.le_refl _) (.cells #[.int .u64 (a : Int)] 25)))
  have HIl8 := Lib.hid (HIl6.out.up ((Below.refl _ w5).alloc (Nat.le_refl _) (.cells #[.int .u64 (a : Int)] 25)))
  have HKa8 := Lib.hid (Blk.new w5 25 #[.int .u64 (a : Int)] 0 0 (Or.inl (Nat.le_refl _)))
  have HB8 := Lib.hid (HB6.out.alloc HB6.out.size (.cells #[.int .u64 (a : Int)] 25))
  have hge_a : w.heap.size ≤ w5.heap.size := HB6.out.size
  generalize w5.heap.size = pa at HKa8 hge_a ⊢
  generalize World.alloc _ _ = w7 at HKa8 HIk8 HIl8 HB8 ⊢
  clear HIk6 HIl6 HB6
  have hc_a := HKa8.out.cell 0
  go_wp2_with fail
  refine (OB.out _ HIl8.out).mono ?_
  rintro e w9 ⟨rfl, hb⟩
  (try clear hc_a)
  have HKa10 := Lib.hid (HKa8.out.step hb)
  have HIk10 := Lib.hid (HIk8.out.up hb)
  have HIl10 := Lib.hid (HIl8.out.up hb)
  have HB10 := Lib.hid (Below.step HB8.out hb)
  clear hb HKa8 HIk8 HIl8 HB8
  have hc_a := HKa10.out.cell 0
  go_upto_region 5 with fail
  (try clear hc_a)
  have HKa12 := Lib.hid (HKa10.out.alloc (.cells #[.int .u64 (b : Int)] 25))
  have HIk12 := Lib.hid (HIk10.out.up ((Below.refl _ w9).alloc (Nat.le_refl _) (.cells #[.int .u64 (b : Int)] 25)))
  have HIl12 := Lib.hid (HIl10.out.up ((Below.refl _ w9).alloc (Nat.le_refl _) (.cells #[.int .u64 (b : Int)] 25)))
  have HKb12 := Lib.hid (Blk.new w9 25 #[.int .u64 (b : Int)] 0 0 (Or.inl (Nat.le_refl _)))
  have HB12 := Lib.hid (HB10.out.alloc HB10.out.size (.cells #[.int .u64 (b : Int)] 25))
  have hge_b : w.heap.size ≤ w9.heap.size := HB10.out.size
  have hne_a_b : pa ≠ w9.heap.size := Nat.ne_of_lt HKa10.out.lt
  generalize w9.heap.size = pb at HKa12 HKb12 hge_b hne_a_b ⊢
  generalize World.alloc _ _ = w11 at HKa12 HKb12 HIk12 HIl12 HB12 ⊢
  clear HKa10 HIk10 HIl10 HB10
  have hc_a := HKa12.out.cell 0
  have hc_b := HKb12.out.cell 0
  clear HIk12 HIl12
  (try clear hc_a)
  (try clear hc_b)
  go_cut [42] from 25 to 41 (fun c wx => c = .bool false ∧ Blk wx pa 25 #[.int .u64 (a : Int)] ∧ Blk wx pb 25 #[.int .u64 (b : Int)] ∧ Below w.heap.size w wx)
  case first =>
    (try clear hc_a)
    (try clear hc_b)
    refine wp_region_noPanic ?_
    refine wp_region_held_drew (S := (fun w' => w'.cell? ⟨pa, 0, none⟩ = some (.int .u64 (a : Int)) ∧ w'.cell? ⟨pb, 0, none⟩ = some (.int .u64 (b : Int)))) (by kernel_rfl) (by first | exact ⟨(Blk.drew HKa12.out).cell 0, (Blk.drew HKb12.out).cell 0⟩) (fun hHeld => ?_)
    refine wpAnyH_take (i := 0) (oi := _) (v := ?vr1n0_1) rfl (by kernel_rfl) (by kernel_rfl) (by kernel_rfl) (fun _ _ _ h => h) (Or.inl ⟨by kernel_rfl, ?hr1n0_1⟩) hHeld ?_
    case hr1n0_1 => (intro w hSw; (try dsimp only at hSw); go_simp; try (with_reducible rfl))
    try simp only [List.getElem_toArray, List.getElem_cons_zero, List.getElem_cons_succ, Act.put, List.setIfInBounds_toArray, List.set_cons_zero, List.set_cons_succ]
    refine wpAnyH_take (i := 1) (oi := _) (v := ?vr1n1_2) rfl (by kernel_rfl) (by kernel_rfl) (by kernel_rfl) (fun _ _ _ h => h) (Or.inl ⟨by kernel_rfl, ?hr1n1_2⟩) hHeld ?_
    case hr1n1_2 => (intro w hSw; (try dsimp only at hSw); go_simp; try (with_reducible rfl))
    try simp only [List.getElem_toArray, List.getElem_cons_zero, List.getElem_cons_succ, Act.put, List.setIfInBounds_toArray, List.set_cons_zero, List.set_cons_succ]
    refine wpAnyH_take (i := 3) (oi := _) (v := ?vr1n3_3) rfl (by kernel_rfl) (by kernel_rfl) (by kernel_rfl) (fun _ _ _ h => h) (Or.inl ⟨by kernel_rfl, ?hr1n3_3⟩) hHeld ?_
    case hr1n3_3 => (intro w hSw; (try dsimp only at hSw); go_simp; try (with_reducible rfl))
    try simp only [List.getElem_toArray, List.getElem_cons_zero, List.getElem_cons_succ, Act.put, List.setIfInBounds_toArray, List.set_cons_zero, List.set_cons_succ]
    refine wpAnyH_take (i := 6) (oi := _) (v := ?vr1n6_4) rfl (by kernel_rfl) (by kernel_rfl) (by kernel_rfl) (fun _ _ _ h => h) (Or.inl ⟨by kernel_rfl, ?hr1n6_4⟩) hHeld ?_
    case hr1n6_4 => (intro w hSw; (try dsimp only at hSw); go_simp; try (with_reducible rfl))
    try simp only [List.getElem_toArray, List.getElem_cons_zero, List.getElem_cons_succ, Act.put, List.setIfInBounds_toArray, List.set_cons_zero, List.set_cons_succ]
    refine wpAnyH_take (i := 7) (oi := _) (v := ?vr1n7_5) rfl (by kernel_rfl) (by kernel_rfl) (by kernel_rfl) (fun _ _ _ h => h) (Or.inl ⟨by kernel_rfl, ?hr1n7_5⟩) hHeld ?_
    case hr1n7_5 => (intro w hSw; (try dsimp only at hSw); go_simp; try (with_reducible rfl))
    try simp only [List.getElem_toArray, List.getElem_cons_zero, List.getElem_cons_succ, Act.put, List.setIfInBounds_toArray, List.set_cons_zero, List.set_cons_succ]
    refine wpAnyH_ready (rs := [2, 8]) (by kernel_rfl) (by simp) ?_
    refine AllReadyH.cons (o := _) rfl (fun K hK => ?_) ?_
    · skip
      go_simp
      (go_at_call 24; refine (MD.out _).mono ?_; rintro e w14 ⟨rfl, hb⟩; have hb := (Below.drewN (Below.refl _ w11) 1).trans hb; have HKa13 := Lib.hid (HKa12.out.step hb); have HKb13 := Lib.hid (HKb12.out.step hb); have HB13 := Lib.hid (Below.step HB12.out hb); clear hb)
      refine hK.out _ _ ?_ (fun hHeld1 => ?_)
      · (first | exact ⟨HKa13.out.cell 0, HKb13.out.cell 0⟩)
      clear hHeld hK K
      try simp only [List.getElem_toArray, List.getElem_cons_zero, List.getElem_cons_succ, Act.put, List.setIfInBounds_toArray, List.set_cons_zero, List.set_cons_succ]
      refine wpAnyH_ready (rs := [4, 8]) (by kernel_rfl) (by simp) ?_
      refine AllReadyH.cons (o := _) rfl (fun K hK => ?_) ?_
      · skip
        go_simp
        (skip; have HKa15 := Lib.hid (HKa13.out.alloc (.cells #[.int .u64 (d : Int), .int .u64 (b : Int)] 25)); have HKb15 := Lib.hid (HKb13.out.alloc (.cells #[.int .u64 (d : Int), .int .u64 (b : Int)] 25)); have HFs15 := Lib.hid (bits_new w14 25 #[.int .u64 (d : Int), .int .u64 (b : Int)] [d, b] rfl); have HB15 := Lib.hid (HB13.out.alloc HB13.out.size (.cells #[.int .u64 (d : Int), .int .u64 (b : Int)] 25)); generalize World.alloc _ _ = w16 at HKa15 HKb15 HFs15 HB15 ⊢)
        refine hK.out _ _ ?_ (fun hHeld2 => ?_)
        · (first | exact ⟨HKa15.out.cell 0, HKb15.out.cell 0⟩)
        clear hHeld1 hK K
        try simp only [List.getElem_toArray, List.getElem_cons_zero, List.getElem_cons_succ, Act.put, List.setIfInBounds_toArray, List.set_cons_zero, List.set_cons_succ]
        refine wpAnyH_ready (rs := [5, 8]) (by kernel_rfl) (by simp) ?_
        refine AllReadyH.cons (o := _) rfl (fun K hK => ?_) ?_
        · skip
          go_simp
          (go_at_call 23; refine (UD.out _ _ _ HFs15.out).mono ?_; rintro e w18 ⟨rfl, hb⟩; have HKa17 := Lib.hid (HKa15.out.step hb); have HKb17 := Lib.hid (HKb15.out.step hb); have HFs17 := Lib.hid (HFs15.out.up hb); have HB17 := Lib.hid (Below.step HB15.out hb); clear hb)
          refine hK.out _ _ ?_ (fun hHeld3 => ?_)
          · (first | exact ⟨HKa17.out.cell 0, HKb17.out.cell 0⟩)
          clear hHeld2 hK K
          try simp only [List.getElem_toArray, List.getElem_cons_zero, List.getElem_cons_succ, Act.put, List.setIfInBounds_toArray, List.set_cons_zero, List.set_cons_succ]
          refine wpAnyH_ready (rs := [8]) (by kernel_rfl) (by simp) ?_
          refine AllReadyH.cons (o := _) rfl (fun K hK => ?_) AllReadyH.nil
          go_simp
          (skip; have HKa19 := Lib.hid (HKa17.out.alloc (.cells #[.int .u64 (a : Int), .int .u64 (b : Int)] 25)); have HKb19 := Lib.hid (HKb17.out.alloc (.cells #[.int .u64 (a : Int), .int .u64 (b : Int)] 25)); have HFs19 := Lib.hid (HFs17.out.up ((Below.refl _ w18).alloc (Nat.le_refl _) (.cells #[.int .u64 (a : Int), .int .u64 (b : Int)] 25))); have HFt19 := Lib.hid (bits_new w18 25 #[.int .u64 (a : Int), .int .u64 (b : Int)] [a, b] rfl); have HB19 := Lib.hid (HB17.out.alloc HB17.out.size (.cells #[.int .u64 (a : Int), .int .u64 (b : Int)] 25)); generalize World.alloc _ _ = w20 at HKa19 HKb19 HFs19 HFt19 HB19 ⊢)
          refine hK.out _ _ ?_ (fun hHeld4 => ?_)
          · (first | exact ⟨HKa19.out.cell 0, HKb19.out.cell 0⟩)
          clear hHeld3 hK K
          try simp only [List.getElem_toArray, List.getElem_cons_zero, List.getElem_cons_succ, Act.put, List.setIfInBounds_toArray, List.set_cons_zero, List.set_cons_succ]
          refine wpAnyH_ready (rs := [9]) (by kernel_rfl) (by simp) ?_
          refine AllReadyH.cons (o := _) rfl (fun K hK => ?_) AllReadyH.nil
          go_simp
          (go_at_call 23; refine (UA.out _ _ _ HFt19.out).mono ?_; rintro e w22 ⟨rfl, hb⟩; have HKa21 := Lib.hid (HKa19.out.step hb); have HKb21 := Lib.hid (HKb19.out.step hb); have HFs21 := Lib.hid (HFs19.out.up hb); have HFt21 := Lib.hid (HFt19.out.up hb); have HB21 := Lib.hid (Below.step HB19.out hb); clear hb)
          refine hK.out _ _ ?_ (fun hHeld5 => ?_)
          · (first | exact ⟨HKa21.out.cell 0, HKb21.out.cell 0⟩)
          clear hHeld4 hK K
          try simp only [List.getElem_toArray, List.getElem_cons_zero, List.getElem_cons_succ, Act.put, List.setIfInBounds_toArray, List.set_cons_zero, List.set_cons_succ]
          refine wpAnyH_take (i := 10) (oi := _) (v := ?vr1n10_6) rfl (by kernel_rfl) (by kernel_rfl) (by kernel_rfl) (fun _ _ _ h => h) (Or.inl ⟨by kernel_rfl, ?hr1n10_6⟩) hHeld5 ?_
          case hr1n10_6 => (intro w hSw; (try dsimp only at hSw); go_simp; try (with_reducible rfl))
          try simp only [List.getElem_toArray, List.getElem_cons_zero, List.getElem_cons_succ, Act.put, List.setIfInBounds_toArray, List.set_cons_zero, List.set_cons_succ]
          refine wpAnyH_take (i := 11) (oi := _) (v := ?vr1n11_7) rfl (by kernel_rfl) (by kernel_rfl) (by kernel_rfl) (fun _ _ _ h => h) (Or.inl ⟨by kernel_rfl, ?hr1n11_7⟩) hHeld5 ?_
          case hr1n11_7 => (intro w hSw; (try dsimp only at hSw); go_simp; try (with_reducible rfl))
          try simp only [List.getElem_toArray, List.getElem_cons_zero, List.getElem_cons_succ, Act.put, List.setIfInBounds_toArray, List.set_cons_zero, List.set_cons_succ]
          refine wpAnyH_take (i := 12) (oi := _) (v := ?vr1n12_8) rfl (by kernel_rfl) (by kernel_rfl) (by kernel_rfl) (fun _ _ _ h => h) (Or.inl ⟨by kernel_rfl, ?hr1n12_8⟩) hHeld5 ?_
          case hr1n12_8 => (intro w hSw; (try dsimp only at hSw); go_simp; try (with_reducible rfl))
          try simp only [List.getElem_toArray, List.getElem_cons_zero, List.getElem_cons_succ, Act.put, List.setIfInBounds_toArray, List.set_cons_zero, List.set_cons_succ]
          refine wpAnyH_take (i := 13) (oi := _) (v := ?vr1n13_9) rfl (by kernel_rfl) (by kernel_rfl) (by kernel_rfl) (fun _ _ _ h => h) (Or.inl ⟨by kernel_rfl, ?hr1n13_9⟩) hHeld5 ?_
          case hr1n13_9 => (intro w hSw; (try dsimp only at hSw); go_simp; try (with_reducible rfl))
          try simp only [List.getElem_toArray, List.getElem_cons_zero, List.getElem_cons_succ, Act.put, List.setIfInBounds_toArray, List.set_cons_zero, List.set_cons_succ]
          refine wpAnyH_ready (rs := [14]) (by kernel_rfl) (by simp) ?_
          refine AllReadyH.cons (o := _) rfl (fun K hK => ?_) AllReadyH.nil
          go_simp
          (go_at_call 24; refine (MZ.out _).mono ?_; rintro e w24 ⟨rfl, hb⟩; have HKa23 := Lib.hid (HKa21.out.step hb); have HKb23 := Lib.hid (HKb21.out.step hb); have HFs23 := Lib.hid (HFs21.out.up hb); have HFt23 := Lib.hid (HFt21.out.up hb); have HB23 := Lib.hid (Below.step HB21.out hb); clear hb)
          refine hK.out _ _ ?_ (fun hHeld6 => ?_)
          · (first | exact ⟨HKa23.out.cell 0, HKb23.out.cell 0⟩)
          clear hHeld5 hK K
          try simp only [List.getElem_toArray, List.getElem_cons_zero, List.getElem_cons_succ, Act.put, List.setIfInBounds_toArray, List.set_cons_zero, List.set_cons_succ]
          refine wpAnyH_ready (rs := [15]) (by kernel_rfl) (by simp) ?_
          refine AllReadyH.cons (o := _) rfl (fun K hK => ?_) AllReadyH.nil
          go_simp
          (go_at_call 15; refine (O0.out _).mono ?_; rintro e w26 ⟨rfl, hb⟩; have HKa25 := Lib.hid (HKa23.out.step hb); have HKb25 := Lib.hid (HKb23.out.step hb); have HFs25 := Lib.hid (HFs23.out.up hb); have HFt25 := Lib.hid (HFt23.out.up hb); have HB25 := Lib.hid (Below.step HB23.out hb); clear hb)
          refine hK.out _ _ ?_ (fun hHeld7 => ?_)
          · (first | exact ⟨HKa25.out.cell 0, HKb25.out.cell 0⟩)
          clear hHeld6 hK K
          try simp only [List.getElem_toArray, List.getElem_cons_zero, List.getElem_cons_succ, Act.put, List.setIfInBounds_toArray, List.set_cons_zero, List.set_cons_succ]
          refine wpAnyH_take (i := 16) (oi := _) (v := ?vr1n16_10) rfl (by kernel_rfl) (by kernel_rfl) (by kernel_rfl) (fun _ _ _ h => h) (Or.inl ⟨by kernel_rfl, ?hr1n16_10⟩) hHeld7 ?_
          case hr1n16_10 => (intro w hSw; (try dsimp only at hSw); go_simp; try (with_reducible rfl))
          try simp only [List.getElem_toArray, List.getElem_cons_zero, List.getElem_cons_succ, Act.put, List.setIfInBounds_toArray, List.set_cons_zero, List.set_cons_succ]
          refine wpAnyH_take (i := 17) (oi := _) (v := ?vr1n17_11) rfl (by kernel_rfl) (by kernel_rfl) (by kernel_rfl) (fun _ _ _ h => h) (Or.inl ⟨by kernel_rfl, ?hr1n17_11⟩) hHeld7 ?_
          case hr1n17_11 => (intro w hSw; (try dsimp only at hSw); go_simp; try (with_reducible rfl))
          try simp only [List.getElem_toArray, List.getElem_cons_zero, List.getElem_cons_succ, Act.put, List.setIfInBounds_toArray, List.set_cons_zero, List.set_cons_succ]
          refine wpAnyH_done (by kernel_rfl) ?_ _
          refine NoPanic.normal ?_
          go_wp2_with fail
          go_meet
          exact ⟨rfl, HKa25.out, HKb25.out, HB25.out⟩
        refine AllReadyH.cons (o := _) rfl (fun K hK => ?_) AllReadyH.nil
        go_simp
        (skip; have HKa27 := Lib.hid (HKa15.out.alloc (.cells #[.int .u64 (a : Int), .int .u64 (b : Int)] 25)); have HKb27 := Lib.hid (HKb15.out.alloc (.cells #[.int .u64 (a : Int), .int .u64 (b : Int)] 25)); have HFs27 := Lib.hid (HFs15.out.up ((Below.refl _ w16).alloc (Nat.le_refl _) (.cells #[.int .u64 (a : Int), .int .u64 (b : Int)] 25))); have HFt27 := Lib.hid (bits_new w16 25 #[.int .u64 (a : Int), .int .u64 (b : Int)] [a, b] rfl); have HB27 := Lib.hid (HB15.out.alloc HB15.out.size (.cells #[.int .u64 (a : Int), .int .u64 (b : Int)] 25)); generalize World.alloc _ _ = w28 at HKa27 HKb27 HFs27 HFt27 HB27 ⊢)
        refine hK.out _ _ ?_ (fun hHeld8 => ?_)
        · (first | exact ⟨HKa27.out.cell 0, HKb27.out.cell 0⟩)
        clear hHeld2 hK K
        try simp only [List.getElem_toArray, List.getElem_cons_zero, List.getElem_cons_succ, Act.put, List.setIfInBounds_toArray, List.set_cons_zero, List.set_cons_succ]
        refine wpAnyH_ready (rs := [5]) (by kernel_rfl) (by simp) ?_
        refine AllReadyH.cons (o := _) rfl (fun K hK => ?_) AllReadyH.nil
        go_simp
        (go_at_call 23; refine (UD.out _ _ _ HFs27.out).mono ?_; rintro e w30 ⟨rfl, hb⟩; have HKa29 := Lib.hid (HKa27.out.step hb); have HKb29 := Lib.hid (HKb27.out.step hb); have HFs29 := Lib.hid (HFs27.out.up hb); have HFt29 := Lib.hid (HFt27.out.up hb); have HB29 := Lib.hid (Below.step HB27.out hb); clear hb)
        refine hK.out _ _ ?_ (fun hHeld9 => ?_)
        · (first | exact ⟨HKa29.out.cell 0, HKb29.out.cell 0⟩)
        clear hHeld8 hK K
        try simp only [List.getElem_toArray, List.getElem_cons_zero, List.getElem_cons_succ, Act.put, List.setIfInBounds_toArray, List.set_cons_zero, List.set_cons_succ]
        refine wpAnyH_ready (rs := [9]) (by kernel_rfl) (by simp) ?_
        refine AllReadyH.cons (o := _) rfl (fun K hK => ?_) AllReadyH.nil
        go_simp
        (go_at_call 23; refine (UA.out _ _ _ HFt29.out).mono ?_; rintro e w32 ⟨rfl, hb⟩; have HKa31 := Lib.hid (HKa29.out.step hb); have HKb31 := Lib.hid (HKb29.out.step hb); have HFs31 := Lib.hid (HFs29.out.up hb); have HFt31 := Lib.hid (HFt29.out.up hb); have HB31 := Lib.hid (Below.step HB29.out hb); clear hb)
        refine hK.out _ _ ?_ (fun hHeld10 => ?_)
        · (first | exact ⟨HKa31.out.cell 0, HKb31.out.cell 0⟩)
        clear hHeld9 hK K
        try simp only [List.getElem_toArray, List.getElem_cons_zero, List.getElem_cons_succ, Act.put, List.setIfInBounds_toArray, List.set_cons_zero, List.set_cons_succ]
        refine wpAnyH_take (i := 10) (oi := _) (v := ?vr1n10_12) rfl (by kernel_rfl) (by kernel_rfl) (by kernel_rfl) (fun _ _ _ h => h) (Or.inl ⟨by kernel_rfl, ?hr1n10_12⟩) hHeld10 ?_
        case hr1n10_12 => (intro w hSw; (try dsimp only at hSw); go_simp; try (with_reducible rfl))
        try simp only [List.getElem_toArray, List.getElem_cons_zero, List.getElem_cons_succ, Act.put, List.setIfInBounds_toArray, List.set_cons_zero, List.set_cons_succ]
        refine wpAnyH_take (i := 11) (oi := _) (v := ?vr1n11_13) rfl (by kernel_rfl) (by kernel_rfl) (by kernel_rfl) (fun _ _ _ h => h) (Or.inl ⟨by kernel_rfl, ?hr1n11_13⟩) hHeld10 ?_
        case hr1n11_13 => (intro w hSw; (try dsimp only at hSw); go_simp; try (with_reducible rfl))
        try simp only [List.getElem_toArray, List.getElem_cons_zero, List.getElem_cons_succ, Act.put, List.setIfInBounds_toArray, List.set_cons_zero, List.set_cons_succ]
        refine wpAnyH_take (i := 12) (oi := _) (v := ?vr1n12_14) rfl (by kernel_rfl) (by kernel_rfl) (by kernel_rfl) (fun _ _ _ h => h) (Or.inl ⟨by kernel_rfl, ?hr1n12_14⟩) hHeld10 ?_
        case hr1n12_14 => (intro w hSw; (try dsimp only at hSw); go_simp; try (with_reducible rfl))
        try simp only [List.getElem_toArray, List.getElem_cons_zero, List.getElem_cons_succ, Act.put, List.setIfInBounds_toArray, List.set_cons_zero, List.set_cons_succ]
        refine wpAnyH_take (i := 13) (oi := _) (v := ?vr1n13_15) rfl (by kernel_rfl) (by kernel_rfl) (by kernel_rfl) (fun _ _ _ h => h) (Or.inl ⟨by kernel_rfl, ?hr1n13_15⟩) hHeld10 ?_
        case hr1n13_15 => (intro w hSw; (try dsimp only at hSw); go_simp; try (with_reducible rfl))
        try simp only [List.getElem_toArray, List.getElem_cons_zero, List.getElem_cons_succ, Act.put, List.setIfInBounds_toArray, List.set_cons_zero, List.set_cons_succ]
        refine wpAnyH_ready (rs := [14]) (by kernel_rfl) (by simp) ?_
        refine AllReadyH.cons (o := _) rfl (fun K hK => ?_) AllReadyH.nil
        go_simp
        (go_at_call 24; refine (MZ.out _).mono ?_; rintro e w34 ⟨rfl, hb⟩; have HKa33 := Lib.hid (HKa31.out.step hb); have HKb33 := Lib.hid (HKb31.out.step hb); have HFs33 := Lib.hid (HFs31.out.up hb); have HFt33 := Lib.hid (HFt31.out.up hb); have HB33 := Lib.hid (Below.step HB31.out hb); clear hb)
        refine hK.out _ _ ?_ (fun hHeld11 => ?_)
        · (first | exact ⟨HKa33.out.cell 0, HKb33.out.cell 0⟩)
        clear hHeld10 hK K
        try simp only [List.getElem_toArray, List.getElem_cons_zero, List.getElem_cons_succ, Act.put, List.setIfInBounds_toArray, List.set_cons_zero, List.set_cons_succ]
        refine wpAnyH_ready (rs := [15]) (by kernel_rfl) (by simp) ?_
        refine AllReadyH.cons (o := _) rfl (fun K hK => ?_) AllReadyH.nil
        go_simp
        (go_at_call 15; refine (O0.out _).mono ?_; rintro e w36 ⟨rfl, hb⟩; have HKa35 := Lib.hid (HKa33.out.step hb); have HKb35 := Lib.hid (HKb33.out.step hb); have HFs35 := Lib.hid (HFs33.out.up hb); have HFt35 := Lib.hid (HFt33.out.up hb); have HB35 := Lib.hid (Below.step HB33.out hb); clear hb)
        refine hK.out _ _ ?_ (fun hHeld12 => ?_)
        · (first | exact ⟨HKa35.out.cell 0, HKb35.out.cell 0⟩)
        clear hHeld11 hK K
        try simp only [List.getElem_toArray, List.getElem_cons_zero, List.getElem_cons_succ, Act.put, List.setIfInBounds_toArray, List.set_cons_zero, List.set_cons_succ]
        refine wpAnyH_take (i := 16) (oi := _) (v := ?vr1n16_16) rfl (by kernel_rfl) (by kernel_rfl) (by kernel_rfl) (fun _ _ _ h => h) (Or.inl ⟨by kernel_rfl, ?hr1n16_16⟩) hHeld12 ?_
        case hr1n16_16 => (intro w hSw; (try dsimp only at hSw); go_simp; try (with_reducible rfl))
        try simp only [List.getElem_toArray, List.getElem_cons_zero, List.getElem_cons_succ, Act.put, List.setIfInBounds_toArray, List.set_cons_zero, List.set_cons_succ]
        refine wpAnyH_take (i := 17) (oi := _) (v := ?vr1n17_17) rfl (by kernel_rfl) (by kernel_rfl) (by kernel_rfl) (fun _ _ _ h => h) (Or.inl ⟨by kernel_rfl, ?hr1n17_17⟩) hHeld12 ?_
        case hr1n17_17 => (intro w hSw; (try dsimp only at hSw); go_simp; try (with_reducible rfl))
        try simp only [List.getElem_toArray, List.getElem_cons_zero, List.getElem_cons_succ, Act.put, List.setIfInBounds_toArray, List.set_cons_zero, List.set_cons_succ]
        refine wpAnyH_done (by kernel_rfl) ?_ _
        refine NoPanic.normal ?_
        go_wp2_with fail
        go_meet
        exact ⟨rfl, HKa35.out, HKb35.out, HB35.out⟩
      refine AllReadyH.cons (o := _) rfl (fun K hK => ?_) AllReadyH.nil
      go_simp
      (skip; have HKa37 := Lib.hid (HKa13.out.alloc (.cells #[.int .u64 (a : Int), .int .u64 (b : Int)] 25)); have HKb37 := Lib.hid (HKb13.out.alloc (.cells #[.int .u64 (a : Int), .int .u64 (b : Int)] 25)); have HFt37 := Lib.hid (bits_new w14 25 #[.int .u64 (a : Int), .int .u64 (b : Int)] [a, b] rfl); have HB37 := Lib.hid (HB13.out.alloc HB13.out.size (.cells #[.int .u64 (a : Int), .int .u64 (b : Int)] 25)); generalize World.alloc _ _ = w38 at HKa37 HKb37 HFt37 HB37 ⊢)
      refine hK.out _ _ ?_ (fun hHeld13 => ?_)
      · (first | exact ⟨HKa37.out.cell 0, HKb37.out.cell 0⟩)
      clear hHeld1 hK K
      try simp only [List.getElem_toArray, List.getElem_cons_zero, List.getElem_cons_succ, Act.put, List.setIfInBounds_toArray, List.set_cons_zero, List.set_cons_succ]
      refine wpAnyH_ready (rs := [4]) (by kernel_rfl) (by simp) ?_
      refine AllReadyH.cons (o := _) rfl (fun K hK => ?_) AllReadyH.nil
      go_simp
      (skip; have HKa39 := Lib.hid (HKa37.out.alloc (.cells #[.int .u64 (d : Int), .int .u64 (b : Int)] 25)); have HKb39 := Lib.hid (HKb37.out.alloc (.cells #[.int .u64 (d : Int), .int .u64 (b : Int)] 25)); have HFt39 := Lib.hid (HFt37.out.up ((Below.refl _ w38).alloc (Nat.le_refl _) (.cells #[.int .u64 (d : Int), .int .u64 (b : Int)] 25))); have HFs39 := Lib.hid (bits_new w38 25 #[.int .u64 (d : Int), .int .u64 (b : Int)] [d, b] rfl); have HB39 := Lib.hid (HB37.out.alloc HB37.out.size (.cells #[.int .u64 (d : Int), .int .u64 (b : Int)] 25)); generalize World.alloc _ _ = w40 at HKa39 HKb39 HFt39 HFs39 HB39 ⊢)
      refine hK.out _ _ ?_ (fun hHeld14 => ?_)
      · (first | exact ⟨HKa39.out.cell 0, HKb39.out.cell 0⟩)
      clear hHeld13 hK K
      try simp only [List.getElem_toArray, List.getElem_cons_zero, List.getElem_cons_succ, Act.put, List.setIfInBounds_toArray, List.set_cons_zero, List.set_cons_succ]
      refine wpAnyH_ready (rs := [5]) (by kernel_rfl) (by simp) ?_
      refine AllReadyH.cons (o := _) rfl (fun K hK => ?_) AllReadyH.nil
      go_simp
      (go_at_call 23; refine (UD.out _ _ _ HFs39.out).mono ?_; rintro e w42 ⟨rfl, hb⟩; have HKa41 := Lib.hid (HKa39.out.step hb); have HKb41 := Lib.hid (HKb39.out.step hb); have HFt41 := Lib.hid (HFt39.out.up hb); have HFs41 := Lib.hid (HFs39.out.up hb); have HB41 := Lib.hid (Below.step HB39.out hb); clear hb)
      refine hK.out _ _ ?_ (fun hHeld15 => ?_)
      · (first | exact ⟨HKa41.out.cell 0, HKb41.out.cell 0⟩)
      clear hHeld14 hK K
      try simp only [List.getElem_toArray, List.getElem_cons_zero, List.getElem_cons_succ, Act.put, List.setIfInBounds_toArray, List.set_cons_zero, List.set_cons_succ]
      refine wpAnyH_ready (rs := [9]) (by kernel_rfl) (by simp) ?_
      refine AllReadyH.cons (o := _) rfl (fun K hK => ?_) AllReadyH.nil
      go_simp
      (go_at_call 23; refine (UA.out _ _ _ HFt41.out).mono ?_; rintro e w44 ⟨rfl, hb⟩; have HKa43 := Lib.hid (HKa41.out.step hb); have HKb43 := Lib.hid (HKb41.out.step hb); have HFt43 := Lib.hid (HFt41.out.up hb); have HFs43 := Lib.hid (HFs41.out.up hb); have HB43 := Lib.hid (Below.step HB41.out hb); clear hb)
      refine hK.out _ _ ?_ (fun hHeld16 => ?_)
      · (first | exact ⟨HKa43.out.cell 0, HKb43.out.cell 0⟩)
      clear hHeld15 hK K
      try simp only [List.getElem_toArray, List.getElem_cons_zero, List.getElem_cons_succ, Act.put, List.setIfInBounds_toArray, List.set_cons_zero, List.set_cons_succ]
      refine wpAnyH_take (i := 10) (oi := _) (v := ?vr1n10_18) rfl (by kernel_rfl) (by kernel_rfl) (by kernel_rfl) (fun _ _ _ h => h) (Or.inl ⟨by kernel_rfl, ?hr1n10_18⟩) hHeld16 ?_
      case hr1n10_18 => (intro w hSw; (try dsimp only at hSw); go_simp; try (with_reducible rfl))
      try simp only [List.getElem_toArray, List.getElem_cons_zero, List.getElem_cons_succ, Act.put, List.setIfInBounds_toArray, List.set_cons_zero, List.set_cons_succ]
      refine wpAnyH_take (i := 11) (oi := _) (v := ?vr1n11_19) rfl (by kernel_rfl) (by kernel_rfl) (by kernel_rfl) (fun _ _ _ h => h) (Or.inl ⟨by kernel_rfl, ?hr1n11_19⟩) hHeld16 ?_
      case hr1n11_19 => (intro w hSw; (try dsimp only at hSw); go_simp; try (with_reducible rfl))
      try simp only [List.getElem_toArray, List.getElem_cons_zero, List.getElem_cons_succ, Act.put, List.setIfInBounds_toArray, List.set_cons_zero, List.set_cons_succ]
      refine wpAnyH_take (i := 12) (oi := _) (v := ?vr1n12_20) rfl (by kernel_rfl) (by kernel_rfl) (by kernel_rfl) (fun _ _ _ h => h) (Or.inl ⟨by kernel_rfl, ?hr1n12_20⟩) hHeld16 ?_
      case hr1n12_20 => (intro w hSw; (try dsimp only at hSw); go_simp; try (with_reducible rfl))
      try simp only [List.getElem_toArray, List.getElem_cons_zero, List.getElem_cons_succ, Act.put, List.setIfInBounds_toArray, List.set_cons_zero, List.set_cons_succ]
      refine wpAnyH_take (i := 13) (oi := _) (v := ?vr1n13_21) rfl (by kernel_rfl) (by kernel_rfl) (by kernel_rfl) (fun _ _ _ h => h) (Or.inl ⟨by kernel_rfl, ?hr1n13_21⟩) hHeld16 ?_
      case hr1n13_21 => (intro w hSw; (try dsimp only at hSw); go_simp; try (with_reducible rfl))
      try simp only [List.getElem_toArray, List.getElem_cons_zero, List.getElem_cons_succ, Act.put, List.setIfInBounds_toArray, List.set_cons_zero, List.set_cons_succ]
      refine wpAnyH_ready (rs := [14]) (by kernel_rfl) (by simp) ?_
      refine AllReadyH.cons (o := _) rfl (fun K hK => ?_) AllReadyH.nil
      go_simp
      (go_at_call 24; refine (MZ.out _).mono ?_; rintro e w46 ⟨rfl, hb⟩; have HKa45 := Lib.hid (HKa43.out.step hb); have HKb45 := Lib.hid (HKb43.out.step hb); have HFt45 := Lib.hid (HFt43.out.up hb); have HFs45 := Lib.hid (HFs43.out.up hb); have HB45 := Lib.hid (Below.step HB43.out hb); clear hb)
      refine hK.out _ _ ?_ (fun hHeld17 => ?_)
      · (first | exact ⟨HKa45.out.cell 0, HKb45.out.cell 0⟩)
      clear hHeld16 hK K
      try simp only [List.getElem_toArray, List.getElem_cons_zero, List.getElem_cons_succ, Act.put, List.setIfInBounds_toArray, List.set_cons_zero, List.set_cons_succ]
      refine wpAnyH_ready (rs := [15]) (by kernel_rfl) (by simp) ?_
      refine AllReadyH.cons (o := _) rfl (fun K hK => ?_) AllReadyH.nil
      go_simp
      (go_at_call 15; refine (O0.out _).mono ?_; rintro e w48 ⟨rfl, hb⟩; have HKa47 := Lib.hid (HKa45.out.step hb); have HKb47 := Lib.hid (HKb45.out.step hb); have HFt47 := Lib.hid (HFt45.out.up hb); have HFs47 := Lib.hid (HFs45.out.up hb); have HB47 := Lib.hid (Below.step HB45.out hb); clear hb)
      refine hK.out _ _ ?_ (fun hHeld18 => ?_)
      · (first | exact ⟨HKa47.out.cell 0, HKb47.out.cell 0⟩)
      clear hHeld17 hK K
      try simp only [List.getElem_toArray, List.getElem_cons_zero, List.getElem_cons_succ, Act.put, List.setIfInBounds_toArray, List.set_cons_zero, List.set_cons_succ]
      refine wpAnyH_take (i := 16) (oi := _) (v := ?vr1n16_22) rfl (by kernel_rfl) (by kernel_rfl) (by kernel_rfl) (fun _ _ _ h => h) (Or.inl ⟨by kernel_rfl, ?hr1n16_22⟩) hHeld18 ?_
      case hr1n16_22 => (intro w hSw; (try dsimp only at hSw); go_simp; try (with_reducible rfl))
      try simp only [List.getElem_toArray, List.getElem_cons_zero, List.getElem_cons_succ, Act.put, List.setIfInBounds_toArray, List.set_cons_zero, List.set_cons_succ]
      refine wpAnyH_take (i := 17) (oi := _) (v := ?vr1n17_23) rfl (by kernel_rfl) (by kernel_rfl) (by kernel_rfl) (fun _ _ _ h => h) (Or.inl ⟨by kernel_rfl, ?hr1n17_23⟩) hHeld18 ?_
      case hr1n17_23 => (intro w hSw; (try dsimp only at hSw); go_simp; try (with_reducible rfl))
      try simp only [List.getElem_toArray, List.getElem_cons_zero, List.getElem_cons_succ, Act.put, List.setIfInBounds_toArray, List.set_cons_zero, List.set_cons_succ]
      refine wpAnyH_done (by kernel_rfl) ?_ _
      refine NoPanic.normal ?_
      go_wp2_with fail
      go_meet
      exact ⟨rfl, HKa47.out, HKb47.out, HB47.out⟩
    refine AllReadyH.cons (o := _) rfl (fun K hK => ?_) AllReadyH.nil
    go_simp
    (skip; have HKa49 := Lib.hid ((HKa12.out.alloc (.cells #[.int .u64 (a : Int), .int .u64 (b : Int)] 25)).drew); have HKb49 := Lib.hid ((HKb12.out.alloc (.cells #[.int .u64 (a : Int), .int .u64 (b : Int)] 25)).drew); have HFt49 := Lib.hid ((bits_new w11 25 #[.int .u64 (a : Int), .int .u64 (b : Int)] [a, b] rfl).drew); have HB49 := Lib.hid ((HB12.out.alloc HB12.out.size (.cells #[.int .u64 (a : Int), .int .u64 (b : Int)] 25)).drew); generalize World.drew (World.alloc _ _) = w50 at HKa49 HKb49 HFt49 HB49 ⊢)
    refine hK.out _ _ ?_ (fun hHeld19 => ?_)
    · (first | exact ⟨HKa49.out.cell 0, HKb49.out.cell 0⟩)
    clear hHeld hK K
    try simp only [List.getElem_toArray, List.getElem_cons_zero, List.getElem_cons_succ, Act.put, List.setIfInBounds_toArray, List.set_cons_zero, List.set_cons_succ]
    refine wpAnyH_ready (rs := [2]) (by kernel_rfl) (by simp) ?_
    refine AllReadyH.cons (o := _) rfl (fun K hK => ?_) AllReadyH.nil
    go_simp
    (go_at_call 24; refine (MD.out _).mono ?_; rintro e w52 ⟨rfl, hb⟩; have HKa51 := Lib.hid (HKa49.out.step hb); have HKb51 := Lib.hid (HKb49.out.step hb); have HFt51 := Lib.hid (HFt49.out.up hb); have HB51 := Lib.hid (Below.step HB49.out hb); clear hb)
    refine hK.out _ _ ?_ (fun hHeld20 => ?_)
    · (first | exact ⟨HKa51.out.cell 0, HKb51.out.cell 0⟩)
    clear hHeld19 hK K
    try simp only [List.getElem_toArray, List.getElem_cons_zero, List.getElem_cons_succ, Act.put, List.setIfInBounds_toArray, List.set_cons_zero, List.set_cons_succ]
    refine wpAnyH_ready (rs := [4]) (by kernel_rfl) (by simp) ?_
    refine AllReadyH.cons (o := _) rfl (fun K hK => ?_) AllReadyH.nil
    go_simp
    (skip; have HKa53 := Lib.hid (HKa51.out.alloc (.cells #[.int .u64 (d : Int), .int .u64 (b : Int)] 25)); have HKb53 := Lib.hid (HKb51.out.alloc (.cells #[.int .u64 (d : Int), .int .u64 (b : Int)] 25)); have HFt53 := Lib.hid (HFt51.out.up ((Below.refl _ w52).alloc (Nat.le_refl _) (.cells #[.int .u64 (d : Int), .int .u64 (b : Int)] 25))); have HFs53 := Lib.hid (bits_new w52 25 #[.int .u64 (d : Int), .int .u64 (b : Int)] [d, b] rfl); have HB53 := Lib.hid (HB51.out.alloc HB51.out.size (.cells #[.int .u64 (d : Int), .int .u64 (b : Int)] 25)); generalize World.alloc _ _ = w54 at HKa53 HKb53 HFt53 HFs53 HB53 ⊢)
    refine hK.out _ _ ?_ (fun hHeld21 => ?_)
    · (first | exact ⟨HKa53.out.cell 0, HKb53.out.cell 0⟩)
    clear hHeld20 hK K
    try simp only [List.getElem_toArray, List.getElem_cons_zero, List.getElem_cons_succ, Act.put, List.setIfInBounds_toArray, List.set_cons_zero, List.set_cons_succ]
    refine wpAnyH_ready (rs := [5]) (by kernel_rfl) (by simp) ?_
    refine AllReadyH.cons (o := _) rfl (fun K hK => ?_) AllReadyH.nil
    go_simp
    (go_at_call 23; refine (UD.out _ _ _ HFs53.out).mono ?_; rintro e w56 ⟨rfl, hb⟩; have HKa55 := Lib.hid (HKa53.out.step hb); have HKb55 := Lib.hid (HKb53.out.step hb); have HFt55 := Lib.hid (HFt53.out.up hb); have HFs55 := Lib.hid (HFs53.out.up hb); have HB55 := Lib.hid (Below.step HB53.out hb); clear hb)
    refine hK.out _ _ ?_ (fun hHeld22 => ?_)
    · (first | exact ⟨HKa55.out.cell 0, HKb55.out.cell 0⟩)
    clear hHeld21 hK K
    try simp only [List.getElem_toArray, List.getElem_cons_zero, List.getElem_cons_succ, Act.put, List.setIfInBounds_toArray, List.set_cons_zero, List.set_cons_succ]
    refine wpAnyH_ready (rs := [9]) (by kernel_rfl) (by simp) ?_
    refine AllReadyH.cons (o := _) rfl (fun K hK => ?_) AllReadyH.nil
    go_simp
    (go_at_call 23; refine (UA.out _ _ _ HFt55.out).mono ?_; rintro e w58 ⟨rfl, hb⟩; have HKa57 := Lib.hid (HKa55.out.step hb); have HKb57 := Lib.hid (HKb55.out.step hb); have HFt57 := Lib.hid (HFt55.out.up hb); have HFs57 := Lib.hid (HFs55.out.up hb); have HB57 := Lib.hid (Below.step HB55.out hb); clear hb)
    refine hK.out _ _ ?_ (fun hHeld23 => ?_)
    · (first | exact ⟨HKa57.out.cell 0, HKb57.out.cell 0⟩)
    clear hHeld22 hK K
    try simp only [List.getElem_toArray, List.getElem_cons_zero, List.getElem_cons_succ, Act.put, List.setIfInBounds_toArray, List.set_cons_zero, List.set_cons_succ]
    refine wpAnyH_take (i := 10) (oi := _) (v := ?vr1n10_24) rfl (by kernel_rfl) (by kernel_rfl) (by kernel_rfl) (fun _ _ _ h => h) (Or.inl ⟨by kernel_rfl, ?hr1n10_24⟩) hHeld23 ?_
    case hr1n10_24 => (intro w hSw; (try dsimp only at hSw); go_simp; try (with_reducible rfl))
    try simp only [List.getElem_toArray, List.getElem_cons_zero, List.getElem_cons_succ, Act.put, List.setIfInBounds_toArray, List.set_cons_zero, List.set_cons_succ]
    refine wpAnyH_take (i := 11) (oi := _) (v := ?vr1n11_25) rfl (by kernel_rfl) (by kernel_rfl) (by kernel_rfl) (fun _ _ _ h => h) (Or.inl ⟨by kernel_rfl, ?hr1n11_25⟩) hHeld23 ?_
    case hr1n11_25 => (intro w hSw; (try dsimp only at hSw); go_simp; try (with_reducible rfl))
    try simp only [List.getElem_toArray, List.getElem_cons_zero, List.getElem_cons_succ, Act.put, List.setIfInBounds_toArray, List.set_cons_zero, List.set_cons_succ]
    refine wpAnyH_take (i := 12) (oi := _) (v := ?vr1n12_26) rfl (by kernel_rfl) (by kernel_rfl) (by kernel_rfl) (fun _ _ _ h => h) (Or.inl ⟨by kernel_rfl, ?hr1n12_26⟩) hHeld23 ?_
    case hr1n12_26 => (intro w hSw; (try dsimp only at hSw); go_simp; try (with_reducible rfl))
    try simp only [List.getElem_toArray, List.getElem_cons_zero, List.getElem_cons_succ, Act.put, List.setIfInBounds_toArray, List.set_cons_zero, List.set_cons_succ]
    refine wpAnyH_take (i := 13) (oi := _) (v := ?vr1n13_27) rfl (by kernel_rfl) (by kernel_rfl) (by kernel_rfl) (fun _ _ _ h => h) (Or.inl ⟨by kernel_rfl, ?hr1n13_27⟩) hHeld23 ?_
    case hr1n13_27 => (intro w hSw; (try dsimp only at hSw); go_simp; try (with_reducible rfl))
    try simp only [List.getElem_toArray, List.getElem_cons_zero, List.getElem_cons_succ, Act.put, List.setIfInBounds_toArray, List.set_cons_zero, List.set_cons_succ]
    refine wpAnyH_ready (rs := [14]) (by kernel_rfl) (by simp) ?_
    refine AllReadyH.cons (o := _) rfl (fun K hK => ?_) AllReadyH.nil
    go_simp
    (go_at_call 24; refine (MZ.out _).mono ?_; rintro e w60 ⟨rfl, hb⟩; have HKa59 := Lib.hid (HKa57.out.step hb); have HKb59 := Lib.hid (HKb57.out.step hb); have HFt59 := Lib.hid (HFt57.out.up hb); have HFs59 := Lib.hid (HFs57.out.up hb); have HB59 := Lib.hid (Below.step HB57.out hb); clear hb)
    refine hK.out _ _ ?_ (fun hHeld24 => ?_)
    · (first | exact ⟨HKa59.out.cell 0, HKb59.out.cell 0⟩)
    clear hHeld23 hK K
    try simp only [List.getElem_toArray, List.getElem_cons_zero, List.getElem_cons_succ, Act.put, List.setIfInBounds_toArray, List.set_cons_zero, List.set_cons_succ]
    refine wpAnyH_ready (rs := [15]) (by kernel_rfl) (by simp) ?_
    refine AllReadyH.cons (o := _) rfl (fun K hK => ?_) AllReadyH.nil
    go_simp
    (go_at_call 15; refine (O0.out _).mono ?_; rintro e w62 ⟨rfl, hb⟩; have HKa61 := Lib.hid (HKa59.out.step hb); have HKb61 := Lib.hid (HKb59.out.step hb); have HFt61 := Lib.hid (HFt59.out.up hb); have HFs61 := Lib.hid (HFs59.out.up hb); have HB61 := Lib.hid (Below.step HB59.out hb); clear hb)
    refine hK.out _ _ ?_ (fun hHeld25 => ?_)
    · (first | exact ⟨HKa61.out.cell 0, HKb61.out.cell 0⟩)
    clear hHeld24 hK K
    try simp only [List.getElem_toArray, List.getElem_cons_zero, List.getElem_cons_succ, Act.put, List.setIfInBounds_toArray, List.set_cons_zero, List.set_cons_succ]
    refine wpAnyH_take (i := 16) (oi := _) (v := ?vr1n16_28) rfl (by kernel_rfl) (by kernel_rfl) (by kernel_rfl) (fun _ _ _ h => h) (Or.inl ⟨by kernel_rfl, ?hr1n16_28⟩) hHeld25 ?_
    case hr1n16_28 => (intro w hSw; (try dsimp only at hSw); go_simp; try (with_reducible rfl))
    try simp only [List.getElem_toArray, List.getElem_cons_zero, List.getElem_cons_succ, Act.put, List.setIfInBounds_toArray, List.set_cons_zero, List.set_cons_succ]
    refine wpAnyH_take (i := 17) (oi := _) (v := ?vr1n17_29) rfl (by kernel_rfl) (by kernel_rfl) (by kernel_rfl) (fun _ _ _ h => h) (Or.inl ⟨by kernel_rfl, ?hr1n17_29⟩) hHeld25 ?_
    case hr1n17_29 => (intro w hSw; (try dsimp only at hSw); go_simp; try (with_reducible rfl))
    try simp only [List.getElem_toArray, List.getElem_cons_zero, List.getElem_cons_succ, Act.put, List.setIfInBounds_toArray, List.set_cons_zero, List.set_cons_succ]
    refine wpAnyH_done (by kernel_rfl) ?_ _
    refine NoPanic.normal ?_
    go_wp2_with fail
    go_meet
    exact ⟨rfl, HKa61.out, HKb61.out, HB61.out⟩
  case rest =>
    obtain ⟨rfl, hka, hkb, hbel⟩ := hcut
    have HKa := Lib.hid hka
    have HKb := Lib.hid hkb
    have HB := Lib.hid hbel
    clear hka hkb hbel HKa12 HKb12 HB12
    have hc_a := HKa.out.cell 0
    have hc_b := HKb.out.cell 0
    go_wp2_with fail
    refine (WI.out _).mono ?_
    rintro e w63 ⟨rfl, hb⟩
    (try clear hc_a)
    (try clear hc_b)
    have HKa64 := Lib.hid (HKa.out.step hb)
    have HKb64 := Lib.hid (HKb.out.step hb)
    have HB64 := Lib.hid (Below.step HB.out hb)
    clear hb HKa HKb HB
    have hc_a := HKa64.out.cell 0
    have hc_b := HKb64.out.cell 0
    go_upto_region 8 with fail
    (try clear hc_a)
    (try clear hc_b)
    have HKa66 := Lib.hid (HKa64.out.alloc (.cells #[.int .u64 (x : Int)] 25))
    have HKb66 := Lib.hid (HKb64.out.alloc (.cells #[.int .u64 (x : Int)] 25))
    have HKx66 := Lib.hid (Blk.new w63 25 #[.int .u64 (x : Int)] 0 0 (Or.inl (Nat.le_refl _)))
    have HB66 := Lib.hid (HB64.out.alloc HB64.out.size (.cells #[.int .u64 (x : Int)] 25))
    have hge_x : w.heap.size ≤ w63.heap.size := HB64.out.size
    have hne_a_x : pa ≠ w63.heap.size := Nat.ne_of_lt HKa64.out.lt
    have hne_b_x : pb ≠ w63.heap.size := Nat.ne_of_lt HKb64.out.lt
    generalize w63.heap.size = px at HKa66 HKb66 HKx66 hge_x hne_a_x hne_b_x ⊢
    generalize World.alloc _ _ = w65 at HKa66 HKb66 HKx66 HB66 ⊢
    clear HKa64 HKb64 HB64
    have hc_a := HKa66.out.cell 0
    have hc_b := HKb66.out.cell 0
    have hc_x := HKx66.out.cell 0
    go_wp2_with fail
    refine (WO.out _).mono ?_
    rintro e w67 ⟨rfl, hb⟩
    (try clear hc_a)
    (try clear hc_b)
    (try clear hc_x)
    have HKa68 := Lib.hid (HKa66.out.step hb)
    have HKb68 := Lib.hid (HKb66.out.step hb)
    have HKx68 := Lib.hid (HKx66.out.step hb)
    have HB68 := Lib.hid (Below.step HB66.out hb)
    clear hb HKa66 HKb66 HKx66 HB66
    have hc_a := HKa68.out.cell 0
    have hc_b := HKb68.out.cell 0
    have hc_x := HKx68.out.cell 0
    go_upto_region 9 with fail
    (try clear hc_a)
    (try clear hc_b)
    (try clear hc_x)
    have HKa70 := Lib.hid (HKa68.out.alloc (.cells #[.int .u64 (y : Int)] 25))
    have HKb70 := Lib.hid (HKb68.out.alloc (.cells #[.int .u64 (y : Int)] 25))
    have HKx70 := Lib.hid (HKx68.out.alloc (.cells #[.int .u64 (y : Int)] 25))
    have HKy70 := Lib.hid (Blk.new w67 25 #[.int .u64 (y : Int)] 0 0 (Or.inl (Nat.le_refl _)))
    have HB70 := Lib.hid (HB68.out.alloc HB68.out.size (.cells #[.int .u64 (y : Int)] 25))
    have hge_y : w.heap.size ≤ w67.heap.size := HB68.out.size
    have hne_a_y : pa ≠ w67.heap.size := Nat.ne_of_lt HKa68.out.lt
    have hne_b_y : pb ≠ w67.heap.size := Nat.ne_of_lt HKb68.out.lt
    have hne_x_y : px ≠ w67.heap.size := Nat.ne_of_lt HKx68.out.lt
    generalize w67.heap.size = py at HKa70 HKb70 HKx70 HKy70 hge_y hne_a_y hne_b_y hne_x_y ⊢
    generalize World.alloc _ _ = w69 at HKa70 HKb70 HKx70 HKy70 HB70 ⊢
    clear HKa68 HKb68 HKx68 HB68
    have hc_a := HKa70.out.cell 0
    have hc_b := HKb70.out.cell 0
    have hc_x := HKx70.out.cell 0
    have hc_y := HKy70.out.cell 0
    (try clear hc_a)
    (try clear hc_b)
    (try clear hc_x)
    (try clear hc_y)
    go_wp2
    go_loopw [11] (fun i wr => ∃ k : Nat, k ≤ 64 ∧ i = .int .i64 k ∧ Blk wr pa 25 #[.int .u64 (a : Int)] ∧ Blk wr pb 25 #[.int .u64 (b : Int)] ∧ Blk wr px 25 #[.int .u64 (x : Int)] ∧ Blk wr py 25 #[.int .u64 (y : Int)] ∧ Below w.heap.size w wr) (fun i _ => 64 - (intOf i).toNat)
    case atStart => exact ⟨0, by omega, rfl, HKa70.out, HKb70.out, HKx70.out, HKy70.out, HB70.out⟩
    case round =>
      obtain ⟨i, hi, rfl, hka, hkb, hkx, hky, hbel⟩ := hrel
      have HLa := Lib.hid hka
      have HLb := Lib.hid hkb
      have HLx := Lib.hid hkx
      have HLy := Lib.hid hky
      have HBL := Lib.hid hbel
      clear HKa70 HKb70 HKx70 HKy70 HB70 hbel hka hkb hkx hky
      by_cases hlt : i < 64
      · have hlt' : (i : Int) < 64 := by omega
        have HX1 := Lib.hid (HX.out i hlt)
        have HY1 := Lib.hid (HY.out i hlt)
        have HA1 := Lib.hid (HA.out i hlt)
        by_cases he : (i : Int) = q
        · obtain ⟨t1, t2⟩ := TQ.out i hlt he
          rw [t1] at HX1
          rw [t2] at HY1
          have heb : ((i : Int) == q) = true := beq_iff_eq.2 he
          have hneb : ((i : Int) != q) = false := by rw [bne_eq_false_iff_eq]; exact he
          clear t1 t2 he
          go_upto_region 12 with fail
          (try clear hc_a)
          (try clear hc_b)
          (try clear hc_x)
          (try clear hc_y)
          refine wp_region_noPanic ?_
          refine wp_region_held_drew (S := (fun w' => w'.cell? ⟨px, 0, none⟩ = some (.int .u64 (x : Int)) ∧ w'.cell? ⟨py, 0, none⟩ = some (.int .u64 (y : Int)))) (by kernel_rfl) (by first | exact ⟨(Blk.drew HLx.out).cell 0, (Blk.drew HLy.out).cell 0⟩) (fun hHeld => ?_)
          refine wpAnyH_take (i := 0) (oi := _) (v := ?vr2n0_30) rfl (by kernel_rfl) (by kernel_rfl) (by kernel_rfl) (fun _ _ _ h => h) (Or.inl ⟨by kernel_rfl, ?hr2n0_30⟩) hHeld ?_
          case hr2n0_30 => (intro w hSw; (try dsimp only at hSw); go_simp; try (with_reducible rfl))
          try simp only [List.getElem_toArray, List.getElem_cons_zero, List.getElem_cons_succ, Act.put, List.setIfInBounds_toArray, List.set_cons_zero, List.set_cons_succ]
          refine wpAnyH_take (i := 1) (oi := _) (v := ?vr2n1_31) rfl (by kernel_rfl) (by kernel_rfl) (by kernel_rfl) (fun _ _ _ h => h) (Or.inl ⟨by kernel_rfl, ?hr2n1_31⟩) hHeld ?_
          case hr2n1_31 => (intro w hSw; (try dsimp only at hSw); go_simp; try (with_reducible rfl))
          try simp only [List.getElem_toArray, List.getElem_cons_zero, List.getElem_cons_succ, Act.put, List.setIfInBounds_toArray, List.set_cons_zero, List.set_cons_succ]
          refine wpAnyH_take (i := 2) (oi := _) (v := ?vr2n2_32) rfl (by kernel_rfl) (by kernel_rfl) (by kernel_rfl) (fun _ _ _ h => h) (Or.inl ⟨by kernel_rfl, ?hr2n2_32⟩) hHeld ?_
          case hr2n2_32 => (intro w hSw; (try dsimp only at hSw); go_simp; try (with_reducible rfl))
          try simp only [List.getElem_toArray, List.getElem_cons_zero, List.getElem_cons_succ, Act.put, List.setIfInBounds_toArray, List.set_cons_zero, List.set_cons_succ]
          refine wpAnyH_take (i := 3) (oi := _) (v := ?vr2n3_33) rfl (by kernel_rfl) (by kernel_rfl) (by kernel_rfl) (fun _ _ _ h => h) (Or.inl ⟨by kernel_rfl, ?hr2n3_33⟩) hHeld ?_
          case hr2n3_33 => (intro w hSw; (try dsimp only at hSw); go_simp; try (with_reducible rfl))
          try simp only [List.getElem_toArray, List.getElem_cons_zero, List.getElem_cons_succ, Act.put, List.setIfInBounds_toArray, List.set_cons_zero, List.set_cons_succ]
          refine wpAnyH_take (i := 4) (oi := _) (v := undef) rfl (by kernel_rfl) (by kernel_rfl) (by kernel_rfl) (fun _ _ _ h => h) (Or.inr ⟨by kernel_rfl, rfl⟩) hHeld ?_
          try simp only [List.getElem_toArray, List.getElem_cons_zero, List.getElem_cons_succ, Act.put, List.setIfInBounds_toArray, List.set_cons_zero, List.set_cons_succ]
          refine wpAnyH_take (i := 5) (oi := _) (v := undef) rfl (by kernel_rfl) (by kernel_rfl) (by kernel_rfl) (fun _ _ _ h => h) (Or.inr ⟨by kernel_rfl, rfl⟩) hHeld ?_
          try simp only [List.getElem_toArray, List.getElem_cons_zero, List.getElem_cons_succ, Act.put, List.setIfInBounds_toArray, List.set_cons_zero, List.set_cons_succ]
          refine wpAnyH_take (i := 6) (oi := _) (v := undef) rfl (by kernel_rfl) (by kernel_rfl) (by kernel_rfl) (fun _ _ _ h => h) (Or.inr ⟨by kernel_rfl, rfl⟩) hHeld ?_
          try simp only [List.getElem_toArray, List.getElem_cons_zero, List.getElem_cons_succ, Act.put, List.setIfInBounds_toArray, List.set_cons_zero, List.set_cons_succ]
          refine wpAnyH_take (i := 7) (oi := _) (v := undef) rfl (by kernel_rfl) (by kernel_rfl) (by kernel_rfl) (fun _ _ _ h => h) (Or.inr ⟨by kernel_rfl, rfl⟩) hHeld ?_
          try simp only [List.getElem_toArray, List.getElem_cons_zero, List.getElem_cons_succ, Act.put, List.setIfInBounds_toArray, List.set_cons_zero, List.set_cons_succ]
          refine wpAnyH_take (i := 8) (oi := _) (v := undef) rfl (by kernel_rfl) (by kernel_rfl) (by kernel_rfl) (fun _ _ _ h => h) (Or.inr ⟨by kernel_rfl, rfl⟩) hHeld ?_
          try simp only [List.getElem_toArray, List.getElem_cons_zero, List.getElem_cons_succ, Act.put, List.setIfInBounds_toArray, List.set_cons_zero, List.set_cons_succ]
          refine wpAnyH_take (i := 9) (oi := _) (v := undef) rfl (by kernel_rfl) (by kernel_rfl) (by kernel_rfl) (fun _ _ _ h => h) (Or.inr ⟨by kernel_rfl, rfl⟩) hHeld ?_
          try simp only [List.getElem_toArray, List.getElem_cons_zero, List.getElem_cons_succ, Act.put, List.setIfInBounds_toArray, List.set_cons_zero, List.set_cons_succ]
          refine wpAnyH_take (i := 10) (oi := _) (v := undef) rfl (by kernel_rfl) (by kernel_rfl) (by kernel_rfl) (fun _ _ _ h => h) (Or.inr ⟨by kernel_rfl, rfl⟩) hHeld ?_
          try simp only [List.getElem_toArray, List.getElem_cons_zero, List.getElem_cons_succ, Act.put, List.setIfInBounds_toArray, List.set_cons_zero, List.set_cons_succ]
          refine wpAnyH_take (i := 11) (oi := _) (v := undef) rfl (by kernel_rfl) (by kernel_rfl) (by kernel_rfl) (fun _ _ _ h => h) (Or.inr ⟨by kernel_rfl, rfl⟩) hHeld ?_
          try simp only [List.getElem_toArray, List.getElem_cons_zero, List.getElem_cons_succ, Act.put, List.setIfInBounds_toArray, List.set_cons_zero, List.set_cons_succ]
          refine wpAnyH_take (i := 12) (oi := _) (v := undef) rfl (by kernel_rfl) (by kernel_rfl) (by kernel_rfl) (fun _ _ _ h => h) (Or.inr ⟨by kernel_rfl, rfl⟩) hHeld ?_
          try simp only [List.getElem_toArray, List.getElem_cons_zero, List.getElem_cons_succ, Act.put, List.setIfInBounds_toArray, List.set_cons_zero, List.set_cons_succ]
          refine wpAnyH_take (i := 13) (oi := _) (v := undef) rfl (by kernel_rfl) (by kernel_rfl) (by kernel_rfl) (fun _ _ _ h => h) (Or.inr ⟨by kernel_rfl, rfl⟩) hHeld ?_
          try simp only [List.getElem_toArray, List.getElem_cons_zero, List.getElem_cons_succ, Act.put, List.setIfInBounds_toArray, List.set_cons_zero, List.set_cons_succ]
          refine wpAnyH_take (i := 14) (oi := _) (v := undef) rfl (by kernel_rfl) (by kernel_rfl) (by kernel_rfl) (fun _ _ _ h => h) (Or.inr ⟨by kernel_rfl, rfl⟩) hHeld ?_
          try simp only [List.getElem_toArray, List.getElem_cons_zero, List.getElem_cons_succ, Act.put, List.setIfInBounds_toArray, List.set_cons_zero, List.set_cons_succ]
          refine wpAnyH_take (i := 15) (oi := _) (v := undef) rfl (by kernel_rfl) (by kernel_rfl) (by kernel_rfl) (fun _ _ _ h => h) (Or.inr ⟨by kernel_rfl, rfl⟩) hHeld ?_
          try simp only [List.getElem_toArray, List.getElem_cons_zero, List.getElem_cons_succ, Act.put, List.setIfInBounds_toArray, List.set_cons_zero, List.set_cons_succ]
          refine wpAnyH_take (i := 16) (oi := _) (v := undef) rfl (by kernel_rfl) (by kernel_rfl) (by kernel_rfl) (fun _ _ _ h => h) (Or.inr ⟨by kernel_rfl, rfl⟩) hHeld ?_
          try simp only [List.getElem_toArray, List.getElem_cons_zero, List.getElem_cons_succ, Act.put, List.setIfInBounds_toArray, List.set_cons_zero, List.set_cons_succ]
          refine wpAnyH_take (i := 17) (oi := _) (v := undef) rfl (by kernel_rfl) (by kernel_rfl) (by kernel_rfl) (fun _ _ _ h => h) (Or.inr ⟨by kernel_rfl, rfl⟩) hHeld ?_
          try simp only [List.getElem_toArray, List.getElem_cons_zero, List.getElem_cons_succ, Act.put, List.setIfInBounds_toArray, List.set_cons_zero, List.set_cons_succ]
          refine wpAnyH_take (i := 18) (oi := _) (v := undef) rfl (by kernel_rfl) (by kernel_rfl) (by kernel_rfl) (fun _ _ _ h => h) (Or.inr ⟨by kernel_rfl, rfl⟩) hHeld ?_
          try simp only [List.getElem_toArray, List.getElem_cons_zero, List.getElem_cons_succ, Act.put, List.setIfInBounds_toArray, List.set_cons_zero, List.set_cons_succ]
          refine wpAnyH_take (i := 19) (oi := _) (v := undef) rfl (by kernel_rfl) (by kernel_rfl) (by kernel_rfl) (fun _ _ _ h => h) (Or.inr ⟨by kernel_rfl, rfl⟩) hHeld ?_
          try simp only [List.getElem_toArray, List.getElem_cons_zero, List.getElem_cons_succ, Act.put, List.setIfInBounds_toArray, List.set_cons_zero, List.set_cons_succ]
          refine wpAnyH_take (i := 20) (oi := _) (v := ?vr2n20_34) rfl (by kernel_rfl) (by kernel_rfl) (by kernel_rfl) (fun _ _ _ h => h) (Or.inl ⟨by kernel_rfl, ?hr2n20_34⟩) hHeld ?_
          case hr2n20_34 => (intro w hSw; (try dsimp only at hSw); go_simp; try (with_reducible rfl))
          try simp only [List.getElem_toArray, List.getElem_cons_zero, List.getElem_cons_succ, Act.put, List.setIfInBounds_toArray, List.set_cons_zero, List.set_cons_succ]
          refine wpAnyH_take (i := 21) (oi := _) (v := ?vr2n21_35) rfl (by kernel_rfl) (by kernel_rfl) (by kernel_rfl) (fun _ _ _ h => h) (Or.inl ⟨by kernel_rfl, ?hr2n21_35⟩) hHeld ?_
          case hr2n21_35 => (intro w hSw; (try dsimp only at hSw); go_simp; try (with_reducible rfl))
          try simp only [List.getElem_toArray, List.getElem_cons_zero, List.getElem_cons_succ, Act.put, List.setIfInBounds_toArray, List.set_cons_zero, List.set_cons_succ]
          refine wpAnyH_take (i := 22) (oi := _) (v := ?vr2n22_36) rfl (by kernel_rfl) (by kernel_rfl) (by kernel_rfl) (fun _ _ _ h => h) (Or.inl ⟨by kernel_rfl, ?hr2n22_36⟩) hHeld ?_
          case hr2n22_36 => (intro w hSw; (try dsimp only at hSw); go_simp; try (with_reducible rfl))
          try simp only [List.getElem_toArray, List.getElem_cons_zero, List.getElem_cons_succ, Act.put, List.setIfInBounds_toArray, List.set_cons_zero, List.set_cons_succ]
          refine wpAnyH_take (i := 23) (oi := _) (v := ?vr2n23_37) rfl (by kernel_rfl) (by kernel_rfl) (by kernel_rfl) (fun _ _ _ h => h) (Or.inl ⟨by kernel_rfl, ?hr2n23_37⟩) hHeld ?_
          case hr2n23_37 => (intro w hSw; (try dsimp only at hSw); go_simp; try (with_reducible rfl))
          try simp only [List.getElem_toArray, List.getElem_cons_zero, List.getElem_cons_succ, Act.put, List.setIfInBounds_toArray, List.set_cons_zero, List.set_cons_succ]
          refine wpAnyH_take (i := 24) (oi := _) (v := ?vr2n24_38) rfl (by kernel_rfl) (by kernel_rfl) (by kernel_rfl) (fun _ _ _ h => h) (Or.inl ⟨by kernel_rfl, ?hr2n24_38⟩) hHeld ?_
          case hr2n24_38 => (intro w hSw; (try dsimp only at hSw); go_simp; try (with_reducible rfl))
          try simp only [List.getElem_toArray, List.getElem_cons_zero, List.getElem_cons_succ, Act.put, List.setIfInBounds_toArray, List.set_cons_zero, List.set_cons_succ]
          refine wpAnyH_take (i := 25) (oi := _) (v := ?vr2n25_39) rfl (by kernel_rfl) (by kernel_rfl) (by kernel_rfl) (fun _ _ _ h => h) (Or.inl ⟨by kernel_rfl, ?hr2n25_39⟩) hHeld ?_
          case hr2n25_39 => (intro w hSw; (try dsimp only at hSw); go_simp; try (with_reducible rfl))
          try simp only [List.getElem_toArray, List.getElem_cons_zero, List.getElem_cons_succ, Act.put, List.setIfInBounds_toArray, List.set_cons_zero, List.set_cons_succ]
          refine wpAnyH_take (i := 26) (oi := _) (v := ?vr2n26_40) rfl (by kernel_rfl) (by kernel_rfl) (by kernel_rfl) (fun _ _ _ h => h) (Or.inl ⟨by kernel_rfl, ?hr2n26_40⟩) hHeld ?_
          case hr2n26_40 => (intro w hSw; (try dsimp only at hSw); go_simp; try (with_reducible rfl))
          try simp only [List.getElem_toArray, List.getElem_cons_zero, List.getElem_cons_succ, Act.put, List.setIfInBounds_toArray, List.set_cons_zero, List.set_cons_succ]
          refine wpAnyH_take (i := 27) (oi := _) (v := ?vr2n27_41) rfl (by kernel_rfl) (by kernel_rfl) (by kernel_rfl) (fun _ _ _ h => h) (Or.inl ⟨by kernel_rfl, ?hr2n27_41⟩) hHeld ?_
          case hr2n27_41 => (intro w hSw; (try dsimp only at hSw); go_simp; try (with_reducible rfl))
          try simp only [List.getElem_toArray, List.getElem_cons_zero, List.getElem_cons_succ, Act.put, List.setIfInBounds_toArray, List.set_cons_zero, List.set_cons_succ]
          refine wpAnyH_ready (rs := [28]) (by kernel_rfl) (by simp) ?_
          refine AllReadyH.cons (o := _) rfl (fun K hK => ?_) AllReadyH.nil
          go_simp
          (go_at_call 22; refine (HX1.out _).mono ?_; rintro e w71 ⟨rfl, hb⟩; have hb := (Below.drewN (Below.refl _ wr) 1).trans hb; have HKa72 := Lib.hid (HLa.out.step hb); have HKb72 := Lib.hid (HLb.out.step hb); have HKx72 := Lib.hid (HLx.out.step hb); have HKy72 := Lib.hid (HLy.out.step hb); have HB72 := Lib.hid (Below.step HBL.out hb); clear hb HLa HLb HLx HLy HBL)
          refine hK.out _ _ ?_ (fun hHeld1 => ?_)
          · (first | exact ⟨HKx72.out.cell 0, HKy72.out.cell 0⟩)
          clear hHeld hK K
          try simp only [List.getElem_toArray, List.getElem_cons_zero, List.getElem_cons_succ, Act.put, List.setIfInBounds_toArray, List.set_cons_zero, List.set_cons_succ]
          refine wpAnyH_take (i := 29) (oi := _) (v := ?vr2n29_42) rfl (by kernel_rfl) (by kernel_rfl) (by kernel_rfl) (fun _ _ _ h => h) (Or.inl ⟨by kernel_rfl, ?hr2n29_42⟩) hHeld1 ?_
          case hr2n29_42 => (intro w hSw; (try dsimp only at hSw); go_simp; try (with_reducible rfl))
          try simp only [List.getElem_toArray, List.getElem_cons_zero, List.getElem_cons_succ, Act.put, List.setIfInBounds_toArray, List.set_cons_zero, List.set_cons_succ]
          refine wpAnyH_take (i := 30) (oi := _) (v := ?vr2n30_43) rfl (by kernel_rfl) (by kernel_rfl) (by kernel_rfl) (fun _ _ _ h => h) (Or.inl ⟨by kernel_rfl, ?hr2n30_43⟩) hHeld1 ?_
          case hr2n30_43 => (intro w hSw; (try dsimp only at hSw); go_simp; try (with_reducible rfl))
          try simp only [List.getElem_toArray, List.getElem_cons_zero, List.getElem_cons_succ, Act.put, List.setIfInBounds_toArray, List.set_cons_zero, List.set_cons_succ]
          refine wpAnyH_take (i := 31) (oi := _) (v := ?vr2n31_44) rfl (by kernel_rfl) (by kernel_rfl) (by kernel_rfl) (fun _ _ _ h => h) (Or.inl ⟨by kernel_rfl, ?hr2n31_44⟩) hHeld1 ?_
          case hr2n31_44 => (intro w hSw; (try dsimp only at hSw); go_simp; try (with_reducible rfl))
          try simp only [List.getElem_toArray, List.getElem_cons_zero, List.getElem_cons_succ, Act.put, List.setIfInBounds_toArray, List.set_cons_zero, List.set_cons_succ]
          refine wpAnyH_take (i := 32) (oi := _) (v := ?vr2n32_45) rfl (by kernel_rfl) (by kernel_rfl) (by kernel_rfl) (fun _ _ _ h => h) (Or.inl ⟨by kernel_rfl, ?hr2n32_45⟩) hHeld1 ?_
          case hr2n32_45 => (intro w hSw; (try dsimp only at hSw); go_simp; try (with_reducible rfl))
          try simp only [List.getElem_toArray, List.getElem_cons_zero, List.getElem_cons_succ, Act.put, List.setIfInBounds_toArray, List.set_cons_zero, List.set_cons_succ]
          refine wpAnyH_ready (rs := [33]) (by kernel_rfl) (by simp) ?_
          refine AllReadyH.cons (o := _) rfl (fun K hK => ?_) AllReadyH.nil
          go_simp
          (go_at_call 22; refine (HY1.out _).mono ?_; rintro e w73 ⟨rfl, hb⟩; have HKa74 := Lib.hid (HKa72.out.step hb); have HKb74 := Lib.hid (HKb72.out.step hb); have HKx74 := Lib.hid (HKx72.out.step hb); have HKy74 := Lib.hid (HKy72.out.step hb); have HB74 := Lib.hid (Below.step HB72.out hb); clear hb HKa72 HKb72 HKx72 HKy72 HB72)
          refine hK.out _ _ ?_ (fun hHeld2 => ?_)
          · (first | exact ⟨HKx74.out.cell 0, HKy74.out.cell 0⟩)
          clear hHeld1 hK K
          try simp only [List.getElem_toArray, List.getElem_cons_zero, List.getElem_cons_succ, Act.put, List.setIfInBounds_toArray, List.set_cons_zero, List.set_cons_succ]
          refine wpAnyH_take (i := 34) (oi := _) (v := ?vr2n34_46) rfl (by kernel_rfl) (by kernel_rfl) (by kernel_rfl) (fun _ _ _ h => h) (Or.inl ⟨by kernel_rfl, ?hr2n34_46⟩) hHeld2 ?_
          case hr2n34_46 => (intro w hSw; (try dsimp only at hSw); go_simp; try (with_reducible rfl))
          try simp only [List.getElem_toArray, List.getElem_cons_zero, List.getElem_cons_succ, Act.put, List.setIfInBounds_toArray, List.set_cons_zero, List.set_cons_succ]
          refine wpAnyH_take (i := 35) (oi := _) (v := ?vr2n35_47) rfl (by kernel_rfl) (by kernel_rfl) (by kernel_rfl) (fun _ _ _ h => h) (Or.inl ⟨by kernel_rfl, ?hr2n35_47⟩) hHeld2 ?_
          case hr2n35_47 => (intro w hSw; (try dsimp only at hSw); go_simp; try (with_reducible rfl))
          try simp only [List.getElem_toArray, List.getElem_cons_zero, List.getElem_cons_succ, Act.put, List.setIfInBounds_toArray, List.set_cons_zero, List.set_cons_succ]
          refine wpAnyH_take (i := 36) (oi := _) (v := ?vr2n36_48) rfl (by kernel_rfl) (by kernel_rfl) (by kernel_rfl) (fun _ _ _ h => h) (Or.inl ⟨by kernel_rfl, ?hr2n36_48⟩) hHeld2 ?_
          case hr2n36_48 => (intro w hSw; (try dsimp only at hSw); go_simp; try (with_reducible rfl))
          try simp only [List.getElem_toArray, List.getElem_cons_zero, List.getElem_cons_succ, Act.put, List.setIfInBounds_toArray, List.set_cons_zero, List.set_cons_succ]
          refine wpAnyH_done (by kernel_rfl) ?_ _
          refine NoPanic.normal ?_
          go_wp2
          go_roundw
          case rel => exact ⟨i + 1, by omega, by go_num, HKa74.out, HKb74.out, HKx74.out, HKy74.out, HB74.out⟩
          case measure => simp [intOf] <;> omega
        · obtain ⟨t1, t2⟩ := TX.out i hlt he
          rw [t1] at HX1
          rw [t2] at HY1
          have heb : ((i : Int) == q) = false := beq_eq_false_iff_ne.2 he
          have hneb : ((i : Int) != q) = true := by rw [bne_iff_ne]; exact he
          clear t1 t2
          generalize a.testBit i = bt at HX1 HY1 HA1
          go_upto_region 12 with fail
          (try clear hc_a)
          (try clear hc_b)
          (try clear hc_x)
          (try clear hc_y)
          refine wp_region_noPanic ?_
          refine wp_region_held_drew (S := (fun w' => w'.cell? ⟨pa, 0, none⟩ = some (.int .u64 (a : Int)) ∧ w'.cell? ⟨px, 0, none⟩ = some (.int .u64 (x : Int)) ∧ w'.cell? ⟨py, 0, none⟩ = some (.int .u64 (y : Int)))) (by kernel_rfl) (by first | exact ⟨(Blk.drew HLa.out).cell 0, (Blk.drew HLx.out).cell 0, (Blk.drew HLy.out).cell 0⟩) (fun hHeld => ?_)
          refine wpAnyH_take (i := 0) (oi := _) (v := ?vr3n0_49) rfl (by kernel_rfl) (by kernel_rfl) (by kernel_rfl) (fun _ _ _ h => h) (Or.inl ⟨by kernel_rfl, ?hr3n0_49⟩) hHeld ?_
          case hr3n0_49 => (intro w hSw; (try dsimp only at hSw); go_simp; try (with_reducible rfl))
          try simp only [List.getElem_toArray, List.getElem_cons_zero, List.getElem_cons_succ, Act.put, List.setIfInBounds_toArray, List.set_cons_zero, List.set_cons_succ]
          refine wpAnyH_take (i := 1) (oi := _) (v := ?vr3n1_50) rfl (by kernel_rfl) (by kernel_rfl) (by kernel_rfl) (fun _ _ _ h => h) (Or.inl ⟨by kernel_rfl, ?hr3n1_50⟩) hHeld ?_
          case hr3n1_50 => (intro w hSw; (try dsimp only at hSw); go_simp; try (with_reducible rfl))
          try simp only [List.getElem_toArray, List.getElem_cons_zero, List.getElem_cons_succ, Act.put, List.setIfInBounds_toArray, List.set_cons_zero, List.set_cons_succ]
          refine wpAnyH_take (i := 2) (oi := _) (v := ?vr3n2_51) rfl (by kernel_rfl) (by kernel_rfl) (by kernel_rfl) (fun _ _ _ h => h) (Or.inl ⟨by kernel_rfl, ?hr3n2_51⟩) hHeld ?_
          case hr3n2_51 => (intro w hSw; (try dsimp only at hSw); go_simp; try (with_reducible rfl))
          try simp only [List.getElem_toArray, List.getElem_cons_zero, List.getElem_cons_succ, Act.put, List.setIfInBounds_toArray, List.set_cons_zero, List.set_cons_succ]
          refine wpAnyH_take (i := 3) (oi := _) (v := ?vr3n3_52) rfl (by kernel_rfl) (by kernel_rfl) (by kernel_rfl) (fun _ _ _ h => h) (Or.inl ⟨by kernel_rfl, ?hr3n3_52⟩) hHeld ?_
          case hr3n3_52 => (intro w hSw; (try dsimp only at hSw); go_simp; try (with_reducible rfl))
          try simp only [List.getElem_toArray, List.getElem_cons_zero, List.getElem_cons_succ, Act.put, List.setIfInBounds_toArray, List.set_cons_zero, List.set_cons_succ]
          refine wpAnyH_take (i := 4) (oi := _) (v := ?vr3n4_53) rfl (by kernel_rfl) (by kernel_rfl) (by kernel_rfl) (fun _ _ _ h => h) (Or.inl ⟨by kernel_rfl, ?hr3n4_53⟩) hHeld ?_
          case hr3n4_53 => (intro w hSw; (try dsimp only at hSw); go_simp; try (with_reducible rfl))
          try simp only [List.getElem_toArray, List.getElem_cons_zero, List.getElem_cons_succ, Act.put, List.setIfInBounds_toArray, List.set_cons_zero, List.set_cons_succ]
          refine wpAnyH_take (i := 5) (oi := _) (v := ?vr3n5_54) rfl (by kernel_rfl) (by kernel_rfl) (by kernel_rfl) (fun _ _ _ h => h) (Or.inl ⟨by kernel_rfl, ?hr3n5_54⟩) hHeld ?_
          case hr3n5_54 => (intro w hSw; (try dsimp only at hSw); go_simp; try (with_reducible rfl))
          try simp only [List.getElem_toArray, List.getElem_cons_zero, List.getElem_cons_succ, Act.put, List.setIfInBounds_toArray, List.set_cons_zero, List.set_cons_succ]
          refine wpAnyH_take (i := 7) (oi := _) (v := ?vr3n7_55) rfl (by kernel_rfl) (by kernel_rfl) (by kernel_rfl) (fun _ _ _ h => h) (Or.inl ⟨by kernel_rfl, ?hr3n7_55⟩) hHeld ?_
          case hr3n7_55 => (intro w hSw; (try dsimp only at hSw); go_simp; try (with_reducible rfl))
          try simp only [List.getElem_toArray, List.getElem_cons_zero, List.getElem_cons_succ, Act.put, List.setIfInBounds_toArray, List.set_cons_zero, List.set_cons_succ]
          refine wpAnyH_take (i := 8) (oi := _) (v := ?vr3n8_56) rfl (by kernel_rfl) (by kernel_rfl) (by kernel_rfl) (fun _ _ _ h => h) (Or.inl ⟨by kernel_rfl, ?hr3n8_56⟩) hHeld ?_
          case hr3n8_56 => (intro w hSw; (try dsimp only at hSw); go_simp; try (with_reducible rfl))
          try simp only [List.getElem_toArray, List.getElem_cons_zero, List.getElem_cons_succ, Act.put, List.setIfInBounds_toArray, List.set_cons_zero, List.set_cons_succ]
          refine wpAnyH_ready (rs := [6]) (by kernel_rfl) (by simp) ?_
          refine AllReadyH.cons (o := _) rfl (fun K hK => ?_) AllReadyH.nil
          go_simp
          (go_at_call 22; refine (HX1.out _).mono ?_; rintro e w75 ⟨rfl, hb⟩; have hb := (Below.drewN (Below.refl _ wr) 1).trans hb; have HKa76 := Lib.hid (HLa.out.step hb); have HKb76 := Lib.hid (HLb.out.step hb); have HKx76 := Lib.hid (HLx.out.step hb); have HKy76 := Lib.hid (HLy.out.step hb); have HB76 := Lib.hid (Below.step HBL.out hb); clear hb HLa HLb HLx HLy HBL)
          refine hK.out _ _ ?_ (fun hHeld1 => ?_)
          · (first | exact ⟨HKa76.out.cell 0, HKx76.out.cell 0, HKy76.out.cell 0⟩)
          clear hHeld hK K
          try simp only [List.getElem_toArray, List.getElem_cons_zero, List.getElem_cons_succ, Act.put, List.setIfInBounds_toArray, List.set_cons_zero, List.set_cons_succ]
          refine wpAnyH_ready (rs := [9]) (by kernel_rfl) (by simp) ?_
          refine AllReadyH.cons (o := _) rfl (fun K hK => ?_) AllReadyH.nil
          go_simp
          (go_at_call 22; refine (HA1.out _).mono ?_; rintro e w77 ⟨rfl, hb⟩; have HKa78 := Lib.hid (HKa76.out.step hb); have HKb78 := Lib.hid (HKb76.out.step hb); have HKx78 := Lib.hid (HKx76.out.step hb); have HKy78 := Lib.hid (HKy76.out.step hb); have HB78 := Lib.hid (Below.step HB76.out hb); clear hb HKa76 HKb76 HKx76 HKy76 HB76)
          refine hK.out _ _ ?_ (fun hHeld2 => ?_)
          · (first | exact ⟨HKa78.out.cell 0, HKx78.out.cell 0, HKy78.out.cell 0⟩)
          clear hHeld1 hK K
          try simp only [List.getElem_toArray, List.getElem_cons_zero, List.getElem_cons_succ, Act.put, List.setIfInBounds_toArray, List.set_cons_zero, List.set_cons_succ]
          refine wpAnyH_take (i := 10) (oi := _) (v := ?vr3n10_57) rfl (by kernel_rfl) (by kernel_rfl) (by kernel_rfl) (fun _ _ _ h => h) (Or.inl ⟨by kernel_rfl, ?hr3n10_57⟩) hHeld2 ?_
          case hr3n10_57 => (intro w hSw; (try dsimp only at hSw); go_simp; try (with_reducible rfl))
          try simp only [List.getElem_toArray, List.getElem_cons_zero, List.getElem_cons_succ, Act.put, List.setIfInBounds_toArray, List.set_cons_zero, List.set_cons_succ]
          refine wpAnyH_take (i := 11) (oi := _) (v := ?vr3n11_58) rfl (by kernel_rfl) (by kernel_rfl) (by kernel_rfl) (fun _ _ _ h => h) (Or.inl ⟨by kernel_rfl, ?hr3n11_58⟩) hHeld2 ?_
          case hr3n11_58 => (intro w hSw; (try dsimp only at hSw); go_simp; try (with_reducible rfl))
          try simp only [List.getElem_toArray, List.getElem_cons_zero, List.getElem_cons_succ, Act.put, List.setIfInBounds_toArray, List.set_cons_zero, List.set_cons_succ]
          refine wpAnyH_take (i := 12) (oi := _) (v := ?vr3n12_59) rfl (by kernel_rfl) (by kernel_rfl) (by kernel_rfl) (fun _ _ _ h => h) (Or.inl ⟨by kernel_rfl, ?hr3n12_59⟩) hHeld2 ?_
          case hr3n12_59 => (intro w hSw; (try dsimp only at hSw); go_simp; try (with_reducible rfl))
          try simp only [List.getElem_toArray, List.getElem_cons_zero, List.getElem_cons_succ, Act.put, List.setIfInBounds_toArray, List.set_cons_zero, List.set_cons_succ]
          refine wpAnyH_take (i := 13) (oi := _) (v := ?vr3n13_60) rfl (by kernel_rfl) (by kernel_rfl) (by kernel_rfl) (fun _ _ _ h => h) (Or.inl ⟨by kernel_rfl, ?hr3n13_60⟩) hHeld2 ?_
          case hr3n13_60 => (intro w hSw; (try dsimp only at hSw); go_simp; try (with_reducible rfl))
          try simp only [List.getElem_toArray, List.getElem_cons_zero, List.getElem_cons_succ, Act.put, List.setIfInBounds_toArray, List.set_cons_zero, List.set_cons_succ]
          refine wpAnyH_take (i := 15) (oi := _) (v := ?vr3n15_61) rfl (by kernel_rfl) (by kernel_rfl) (by kernel_rfl) (fun _ _ _ h => h) (Or.inl ⟨by kernel_rfl, ?hr3n15_61⟩) hHeld2 ?_
          case hr3n15_61 => (intro w hSw; (try dsimp only at hSw); go_simp; try (with_reducible rfl))
          try simp only [List.getElem_toArray, List.getElem_cons_zero, List.getElem_cons_succ, Act.put, List.setIfInBounds_toArray, List.set_cons_zero, List.set_cons_succ]
          refine wpAnyH_take (i := 16) (oi := _) (v := ?vr3n16_62) rfl (by kernel_rfl) (by kernel_rfl) (by kernel_rfl) (fun _ _ _ h => h) (Or.inl ⟨by kernel_rfl, ?hr3n16_62⟩) hHeld2 ?_
          case hr3n16_62 => (intro w hSw; (try dsimp only at hSw); go_simp; try (with_reducible rfl))
          try simp only [List.getElem_toArray, List.getElem_cons_zero, List.getElem_cons_succ, Act.put, List.setIfInBounds_toArray, List.set_cons_zero, List.set_cons_succ]
          refine wpAnyH_ready (rs := [14]) (by kernel_rfl) (by simp) ?_
          refine AllReadyH.cons (o := _) rfl (fun K hK => ?_) AllReadyH.nil
          go_simp
          (go_at_call 22; refine (HY1.out _).mono ?_; rintro e w79 ⟨rfl, hb⟩; have HKa80 := Lib.hid (HKa78.out.step hb); have HKb80 := Lib.hid (HKb78.out.step hb); have HKx80 := Lib.hid (HKx78.out.step hb); have HKy80 := Lib.hid (HKy78.out.step hb); have HB80 := Lib.hid (Below.step HB78.out hb); clear hb HKa78 HKb78 HKx78 HKy78 HB78)
          refine hK.out _ _ ?_ (fun hHeld3 => ?_)
          · (first | exact ⟨HKa80.out.cell 0, HKx80.out.cell 0, HKy80.out.cell 0⟩)
          clear hHeld2 hK K
          try simp only [List.getElem_toArray, List.getElem_cons_zero, List.getElem_cons_succ, Act.put, List.setIfInBounds_toArray, List.set_cons_zero, List.set_cons_succ]
          refine wpAnyH_ready (rs := [17]) (by kernel_rfl) (by simp) ?_
          refine AllReadyH.cons (o := _) rfl (fun K hK => ?_) AllReadyH.nil
          go_simp
          (go_at_call 22; refine (HA1.out _).mono ?_; rintro e w81 ⟨rfl, hb⟩; have HKa82 := Lib.hid (HKa80.out.step hb); have HKb82 := Lib.hid (HKb80.out.step hb); have HKx82 := Lib.hid (HKx80.out.step hb); have HKy82 := Lib.hid (HKy80.out.step hb); have HB82 := Lib.hid (Below.step HB80.out hb); clear hb HKa80 HKb80 HKx80 HKy80 HB80)
          refine hK.out _ _ ?_ (fun hHeld4 => ?_)
          · (first | exact ⟨HKa82.out.cell 0, HKx82.out.cell 0, HKy82.out.cell 0⟩)
          clear hHeld3 hK K
          try simp only [List.getElem_toArray, List.getElem_cons_zero, List.getElem_cons_succ, Act.put, List.setIfInBounds_toArray, List.set_cons_zero, List.set_cons_succ]
          refine wpAnyH_take (i := 18) (oi := _) (v := ?vr3n18_63) rfl (by kernel_rfl) (by kernel_rfl) (by kernel_rfl) (fun _ _ _ h => h) (Or.inl ⟨by kernel_rfl, ?hr3n18_63⟩) hHeld4 ?_
          case hr3n18_63 => (intro w hSw; (try dsimp only at hSw); go_simp; try (with_reducible rfl))
          try simp only [List.getElem_toArray, List.getElem_cons_zero, List.getElem_cons_succ, Act.put, List.setIfInBounds_toArray, List.set_cons_zero, List.set_cons_succ]
          refine wpAnyH_take (i := 19) (oi := _) (v := ?vr3n19_64) rfl (by kernel_rfl) (by kernel_rfl) (by kernel_rfl) (fun _ _ _ h => h) (Or.inl ⟨by kernel_rfl, ?hr3n19_64⟩) hHeld4 ?_
          case hr3n19_64 => (intro w hSw; (try dsimp only at hSw); go_simp; try (with_reducible rfl))
          try simp only [List.getElem_toArray, List.getElem_cons_zero, List.getElem_cons_succ, Act.put, List.setIfInBounds_toArray, List.set_cons_zero, List.set_cons_succ]
          refine wpAnyH_take (i := 20) (oi := _) (v := ?vr3n20_65) rfl (by kernel_rfl) (by kernel_rfl) (by kernel_rfl) (fun _ _ _ h => h) (Or.inl ⟨by kernel_rfl, ?hr3n20_65⟩) hHeld4 ?_
          case hr3n20_65 => (intro w hSw; (try dsimp only at hSw); go_simp; try (with_reducible rfl))
          try simp only [List.getElem_toArray, List.getElem_cons_zero, List.getElem_cons_succ, Act.put, List.setIfInBounds_toArray, List.set_cons_zero, List.set_cons_succ]
          refine wpAnyH_take (i := 21) (oi := _) (v := ?vr3n21_66) rfl (by kernel_rfl) (by kernel_rfl) (by kernel_rfl) (fun _ _ _ h => h) (Or.inl ⟨by kernel_rfl, ?hr3n21_66⟩) hHeld4 ?_
          case hr3n21_66 => (intro w hSw; (try dsimp only at hSw); go_simp; try (with_reducible rfl))
          try simp only [List.getElem_toArray, List.getElem_cons_zero, List.getElem_cons_succ, Act.put, List.setIfInBounds_toArray, List.set_cons_zero, List.set_cons_succ]
          refine wpAnyH_take (i := 22) (oi := _) (v := ?vr3n22_67) rfl (by kernel_rfl) (by kernel_rfl) (by kernel_rfl) (fun _ _ _ h => h) (Or.inl ⟨by kernel_rfl, ?hr3n22_67⟩) hHeld4 ?_
          case hr3n22_67 => (intro w hSw; (try dsimp only at hSw); go_simp; try (with_reducible rfl))
          try simp only [List.getElem_toArray, List.getElem_cons_zero, List.getElem_cons_succ, Act.put, List.setIfInBounds_toArray, List.set_cons_zero, List.set_cons_succ]
          refine wpAnyH_take (i := 23) (oi := _) (v := ?vr3n23_68) rfl (by kernel_rfl) (by kernel_rfl) (by kernel_rfl) (fun _ _ _ h => h) (Or.inl ⟨by kernel_rfl, ?hr3n23_68⟩) hHeld4 ?_
          case hr3n23_68 => (intro w hSw; (try dsimp only at hSw); go_simp; try (with_reducible rfl))
          try simp only [List.getElem_toArray, List.getElem_cons_zero, List.getElem_cons_succ, Act.put, List.setIfInBounds_toArray, List.set_cons_zero, List.set_cons_succ]
          refine wpAnyH_take (i := 24) (oi := _) (v := ?vr3n24_69) rfl (by kernel_rfl) (by kernel_rfl) (by kernel_rfl) (fun _ _ _ h => h) (Or.inl ⟨by kernel_rfl, ?hr3n24_69⟩) hHeld4 ?_
          case hr3n24_69 => (intro w hSw; (try dsimp only at hSw); go_simp; try (with_reducible rfl))
          try simp only [List.getElem_toArray, List.getElem_cons_zero, List.getElem_cons_succ, Act.put, List.setIfInBounds_toArray, List.set_cons_zero, List.set_cons_succ]
          refine wpAnyH_take (i := 25) (oi := _) (v := ?vr3n25_70) rfl (by kernel_rfl) (by kernel_rfl) (by kernel_rfl) (fun _ _ _ h => h) (Or.inl ⟨by kernel_rfl, ?hr3n25_70⟩) hHeld4 ?_
          case hr3n25_70 => (intro w hSw; (try dsimp only at hSw); go_simp; try (with_reducible rfl))
          try simp only [List.getElem_toArray, List.getElem_cons_zero, List.getElem_cons_succ, Act.put, List.setIfInBounds_toArray, List.set_cons_zero, List.set_cons_succ]
          refine wpAnyH_take (i := 26) (oi := _) (v := undef) rfl (by kernel_rfl) (by kernel_rfl) (by kernel_rfl) (fun _ _ _ h => h) (Or.inr ⟨by kernel_rfl, rfl⟩) hHeld4 ?_
          try simp only [List.getElem_toArray, List.getElem_cons_zero, List.getElem_cons_succ, Act.put, List.setIfInBounds_toArray, List.set_cons_zero, List.set_cons_succ]
          refine wpAnyH_take (i := 27) (oi := _) (v := undef) rfl (by kernel_rfl) (by kernel_rfl) (by kernel_rfl) (fun _ _ _ h => h) (Or.inr ⟨by kernel_rfl, rfl⟩) hHeld4 ?_
          try simp only [List.getElem_toArray, List.getElem_cons_zero, List.getElem_cons_succ, Act.put, List.setIfInBounds_toArray, List.set_cons_zero, List.set_cons_succ]
          refine wpAnyH_take (i := 28) (oi := _) (v := undef) rfl (by kernel_rfl) (by kernel_rfl) (by kernel_rfl) (fun _ _ _ h => h) (Or.inr ⟨by kernel_rfl, rfl⟩) hHeld4 ?_
          try simp only [List.getElem_toArray, List.getElem_cons_zero, List.getElem_cons_succ, Act.put, List.setIfInBounds_toArray, List.set_cons_zero, List.set_cons_succ]
          refine wpAnyH_take (i := 29) (oi := _) (v := undef) rfl (by kernel_rfl) (by kernel_rfl) (by kernel_rfl) (fun _ _ _ h => h) (Or.inr ⟨by kernel_rfl, rfl⟩) hHeld4 ?_
          try simp only [List.getElem_toArray, List.getElem_cons_zero, List.getElem_cons_succ, Act.put, List.setIfInBounds_toArray, List.set_cons_zero, List.set_cons_succ]
          refine wpAnyH_take (i := 30) (oi := _) (v := undef) rfl (by kernel_rfl) (by kernel_rfl) (by kernel_rfl) (fun _ _ _ h => h) (Or.inr ⟨by kernel_rfl, rfl⟩) hHeld4 ?_
          try simp only [List.getElem_toArray, List.getElem_cons_zero, List.getElem_cons_succ, Act.put, List.setIfInBounds_toArray, List.set_cons_zero, List.set_cons_succ]
          refine wpAnyH_take (i := 31) (oi := _) (v := undef) rfl (by kernel_rfl) (by kernel_rfl) (by kernel_rfl) (fun _ _ _ h => h) (Or.inr ⟨by kernel_rfl, rfl⟩) hHeld4 ?_
          try simp only [List.getElem_toArray, List.getElem_cons_zero, List.getElem_cons_succ, Act.put, List.setIfInBounds_toArray, List.set_cons_zero, List.set_cons_succ]
          refine wpAnyH_take (i := 32) (oi := _) (v := undef) rfl (by kernel_rfl) (by kernel_rfl) (by kernel_rfl) (fun _ _ _ h => h) (Or.inr ⟨by kernel_rfl, rfl⟩) hHeld4 ?_
          try simp only [List.getElem_toArray, List.getElem_cons_zero, List.getElem_cons_succ, Act.put, List.setIfInBounds_toArray, List.set_cons_zero, List.set_cons_succ]
          refine wpAnyH_take (i := 33) (oi := _) (v := undef) rfl (by kernel_rfl) (by kernel_rfl) (by kernel_rfl) (fun _ _ _ h => h) (Or.inr ⟨by kernel_rfl, rfl⟩) hHeld4 ?_
          try simp only [List.getElem_toArray, List.getElem_cons_zero, List.getElem_cons_succ, Act.put, List.setIfInBounds_toArray, List.set_cons_zero, List.set_cons_succ]
          refine wpAnyH_take (i := 34) (oi := _) (v := undef) rfl (by kernel_rfl) (by kernel_rfl) (by kernel_rfl) (fun _ _ _ h => h) (Or.inr ⟨by kernel_rfl, rfl⟩) hHeld4 ?_
          try simp only [List.getElem_toArray, List.getElem_cons_zero, List.getElem_cons_succ, Act.put, List.setIfInBounds_toArray, List.set_cons_zero, List.set_cons_succ]
          refine wpAnyH_take (i := 35) (oi := _) (v := ?vr3n35_71) rfl (by kernel_rfl) (by kernel_rfl) (by kernel_rfl) (fun _ _ _ h => h) (Or.inl ⟨by kernel_rfl, ?hr3n35_71⟩) hHeld4 ?_
          case hr3n35_71 => (intro w hSw; (try dsimp only at hSw); go_simp; try (with_reducible rfl))
          try simp only [List.getElem_toArray, List.getElem_cons_zero, List.getElem_cons_succ, Act.put, List.setIfInBounds_toArray, List.set_cons_zero, List.set_cons_succ]
          refine wpAnyH_take (i := 36) (oi := _) (v := ?vr3n36_72) rfl (by kernel_rfl) (by kernel_rfl) (by kernel_rfl) (fun _ _ _ h => h) (Or.inl ⟨by kernel_rfl, ?hr3n36_72⟩) hHeld4 ?_
          case hr3n36_72 => (intro w hSw; (try dsimp only at hSw); go_simp; try (with_reducible rfl))
          try simp only [List.getElem_toArray, List.getElem_cons_zero, List.getElem_cons_succ, Act.put, List.setIfInBounds_toArray, List.set_cons_zero, List.set_cons_succ]
          refine wpAnyH_done (by kernel_rfl) ?_ _
          refine NoPanic.normal ?_
          go_wp2
          go_roundw
          case rel => exact ⟨i + 1, by omega, by go_num, HKa82.out, HKb82.out, HKx82.out, HKy82.out, HB82.out⟩
          case measure => simp [intOf] <;> omega
      · have h64 : i = 64 := by omega
        subst h64
        have hs1 := HS1.out
        have hs2 := HS2.out
        have hs3 := HS3.out
        go_upto_region 14 with fail
        (try clear hc_a)
        (try clear hc_b)
        (try clear hc_x)
        (try clear hc_y)
        refine wp_region_noPanic ?_
        refine wp_region_held_drew (S := (fun w' => w'.cell? ⟨pa, 0, none⟩ = some (.int .u64 (a : Int)) ∧ w'.cell? ⟨pb, 0, none⟩ = some (.int .u64 (b : Int)))) (by kernel_rfl) (by first | exact ⟨(Blk.drew HLa.out).cell 0, (Blk.drew HLb.out).cell 0⟩) (fun hHeld => ?_)
        refine wpAnyH_take (i := 0) (oi := _) (v := ?vr4n0_73) rfl (by kernel_rfl) (by kernel_rfl) (by kernel_rfl) (fun _ _ _ h => h) (Or.inl ⟨by kernel_rfl, ?hr4n0_73⟩) hHeld ?_
        case hr4n0_73 => (intro w hSw; (try dsimp only at hSw); go_simp; try (with_reducible rfl))
        try simp only [List.getElem_toArray, List.getElem_cons_zero, List.getElem_cons_succ, Act.put, List.setIfInBounds_toArray, List.set_cons_zero, List.set_cons_succ]
        refine wpAnyH_take (i := 2) (oi := _) (v := ?vr4n2_74) rfl (by kernel_rfl) (by kernel_rfl) (by kernel_rfl) (fun _ _ _ h => h) (Or.inl ⟨by kernel_rfl, ?hr4n2_74⟩) hHeld ?_
        case hr4n2_74 => (intro w hSw; (try dsimp only at hSw); go_simp; try (with_reducible rfl))
        try simp only [List.getElem_toArray, List.getElem_cons_zero, List.getElem_cons_succ, Act.put, List.setIfInBounds_toArray, List.set_cons_zero, List.set_cons_succ]
        refine wpAnyH_take (i := 5) (oi := _) (v := ?vr4n5_75) rfl (by kernel_rfl) (by kernel_rfl) (by kernel_rfl) (fun _ _ _ h => h) (Or.inl ⟨by kernel_rfl, ?hr4n5_75⟩) hHeld ?_
        case hr4n5_75 => (intro w hSw; (try dsimp only at hSw); go_simp; try (with_reducible rfl))
        try simp only [List.getElem_toArray, List.getElem_cons_zero, List.getElem_cons_succ, Act.put, List.setIfInBounds_toArray, List.set_cons_zero, List.set_cons_succ]
        refine wpAnyH_take (i := 6) (oi := _) (v := ?vr4n6_76) rfl (by kernel_rfl) (by kernel_rfl) (by kernel_rfl) (fun _ _ _ h => h) (Or.inl ⟨by kernel_rfl, ?hr4n6_76⟩) hHeld ?_
        case hr4n6_76 => (intro w hSw; (try dsimp only at hSw); go_simp; try (with_reducible rfl))
        try simp only [List.getElem_toArray, List.getElem_cons_zero, List.getElem_cons_succ, Act.put, List.setIfInBounds_toArray, List.set_cons_zero, List.set_cons_succ]
        refine wpAnyH_take (i := 10) (oi := _) (v := ?vr4n10_77) rfl (by kernel_rfl) (by kernel_rfl) (by kernel_rfl) (fun _ _ _ h => h) (Or.inl ⟨by kernel_rfl, ?hr4n10_77⟩) hHeld ?_
        case hr4n10_77 => (intro w hSw; (try dsimp only at hSw); go_simp; try (with_reducible rfl))
        try simp only [List.getElem_toArray, List.getElem_cons_zero, List.getElem_cons_succ, Act.put, List.setIfInBounds_toArray, List.set_cons_zero, List.set_cons_succ]
        refine wpAnyH_take (i := 13) (oi := _) (v := ?vr4n13_78) rfl (by kernel_rfl) (by kernel_rfl) (by kernel_rfl) (fun _ _ _ h => h) (Or.inl ⟨by kernel_rfl, ?hr4n13_78⟩) hHeld ?_
        case hr4n13_78 => (intro w hSw; (try dsimp only at hSw); go_simp; try (with_reducible rfl))
        try simp only [List.getElem_toArray, List.getElem_cons_zero, List.getElem_cons_succ, Act.put, List.setIfInBounds_toArray, List.set_cons_zero, List.set_cons_succ]
        refine wpAnyH_take (i := 14) (oi := _) (v := ?vr4n14_79) rfl (by kernel_rfl) (by kernel_rfl) (by kernel_rfl) (fun _ _ _ h => h) (Or.inl ⟨by kernel_rfl, ?hr4n14_79⟩) hHeld ?_
        case hr4n14_79 => (intro w hSw; (try dsimp only at hSw); go_simp; try (with_reducible rfl))
        try simp only [List.getElem_toArray, List.getElem_cons_zero, List.getElem_cons_succ, Act.put, List.setIfInBounds_toArray, List.set_cons_zero, List.set_cons_succ]
        refine wpAnyH_ready (rs := [1, 7]) (by kernel_rfl) (by simp) ?_
        refine AllReadyH.cons (o := _) rfl (fun K hK => ?_) ?_
        · skip
          go_simp
          (go_at_call 17; refine (LA.out _).mono ?_; rintro e w84 ⟨rfl, hb⟩; have hb := (Below.drewN (Below.refl _ wr) 1).trans hb; have HKa83 := Lib.hid (HLa.out.step hb); have HKb83 := Lib.hid (HLb.out.step hb); have HKx83 := Lib.hid (HLx.out.step hb); have HKy83 := Lib.hid (HLy.out.step hb); have HB83 := Lib.hid (Below.step HBL.out hb); clear hb)
          refine hK.out _ _ ?_ (fun hHeld1 => ?_)
          · (first | exact ⟨HKa83.out.cell 0, HKb83.out.cell 0⟩)
          clear hHeld hK K
          try simp only [List.getElem_toArray, List.getElem_cons_zero, List.getElem_cons_succ, Act.put, List.setIfInBounds_toArray, List.set_cons_zero, List.set_cons_succ]
          refine wpAnyH_ready (rs := [3, 7]) (by kernel_rfl) (by simp) ?_
          refine AllReadyH.cons (o := _) rfl (fun K hK => ?_) ?_
          · skip
            go_simp
            (go_at_call 17; refine (LB.out _).mono ?_; rintro e w86 ⟨rfl, hb⟩; have HKa85 := Lib.hid (HKa83.out.step hb); have HKb85 := Lib.hid (HKb83.out.step hb); have HKx85 := Lib.hid (HKx83.out.step hb); have HKy85 := Lib.hid (HKy83.out.step hb); have HB85 := Lib.hid (Below.step HB83.out hb); clear hb)
            refine hK.out _ _ ?_ (fun hHeld2 => ?_)
            · (first | exact ⟨HKa85.out.cell 0, HKb85.out.cell 0⟩)
            clear hHeld1 hK K
            try simp only [List.getElem_toArray, List.getElem_cons_zero, List.getElem_cons_succ, Act.put, List.setIfInBounds_toArray, List.set_cons_zero, List.set_cons_succ]
            refine wpAnyH_take (i := 4) (oi := _) (v := ?vr4n4_80) rfl (by kernel_rfl) (by kernel_rfl) (by kernel_rfl) (fun _ _ _ h => h) (Or.inl ⟨by kernel_rfl, ?hr4n4_80⟩) hHeld2 ?_
            case hr4n4_80 => (intro w hSw; (try dsimp only at hSw); go_simp; try (with_reducible rfl))
            try simp only [List.getElem_toArray, List.getElem_cons_zero, List.getElem_cons_succ, Act.put, List.setIfInBounds_toArray, List.set_cons_zero, List.set_cons_succ]
            refine wpAnyH_ready (rs := [7]) (by kernel_rfl) (by simp) ?_
            refine AllReadyH.cons (o := _) rfl (fun K hK => ?_) AllReadyH.nil
            go_simp
            (skip; have HKa87 := Lib.hid (HKa85.out.alloc (.cells #[.int .u64 (a : Int), .int .u64 (b : Int)] 25)); have HKb87 := Lib.hid (HKb85.out.alloc (.cells #[.int .u64 (a : Int), .int .u64 (b : Int)] 25)); have HKx87 := Lib.hid (HKx85.out.alloc (.cells #[.int .u64 (a : Int), .int .u64 (b : Int)] 25)); have HKy87 := Lib.hid (HKy85.out.alloc (.cells #[.int .u64 (a : Int), .int .u64 (b : Int)] 25)); have HFs87 := Lib.hid (bits_new w86 25 #[.int .u64 (a : Int), .int .u64 (b : Int)] [a, b] rfl); have HB87 := Lib.hid (HB85.out.alloc HB85.out.size (.cells #[.int .u64 (a : Int), .int .u64 (b : Int)] 25)); generalize World.alloc _ _ = w88 at HKa87 HKb87 HKx87 HKy87 HFs87 HB87 ⊢)
            refine hK.out _ _ ?_ (fun hHeld3 => ?_)
            · (first | exact ⟨HKa87.out.cell 0, HKb87.out.cell 0⟩)
            clear hHeld2 hK K
            try simp only [List.getElem_toArray, List.getElem_cons_zero, List.getElem_cons_succ, Act.put, List.setIfInBounds_toArray, List.set_cons_zero, List.set_cons_succ]
            refine wpAnyH_ready (rs := [8]) (by kernel_rfl) (by simp) ?_
            refine AllReadyH.cons (o := _) rfl (fun K hK => ?_) AllReadyH.nil
            go_simp
            (go_at_call 23; refine (UA.out _ _ _ HFs87.out).mono ?_; rintro e w90 ⟨rfl, hb⟩; have HKa89 := Lib.hid (HKa87.out.step hb); have HKb89 := Lib.hid (HKb87.out.step hb); have HKx89 := Lib.hid (HKx87.out.step hb); have HKy89 := Lib.hid (HKy87.out.step hb); have HFs89 := Lib.hid (HFs87.out.up hb); have HB89 := Lib.hid (Below.step HB87.out hb); clear hb)
            refine hK.out _ _ ?_ (fun hHeld4 => ?_)
            · (first | exact ⟨HKa89.out.cell 0, HKb89.out.cell 0⟩)
            clear hHeld3 hK K
            try simp only [List.getElem_toArray, List.getElem_cons_zero, List.getElem_cons_succ, Act.put, List.setIfInBounds_toArray, List.set_cons_zero, List.set_cons_succ]
            refine wpAnyH_ready (rs := [9]) (by kernel_rfl) (by simp) ?_
            refine AllReadyH.cons (o := _) rfl (fun K hK => ?_) AllReadyH.nil
            go_simp
            (go_at_call 17; refine (LU.out _).mono ?_; rintro e w92 ⟨rfl, hb⟩; have HKa91 := Lib.hid (HKa89.out.step hb); have HKb91 := Lib.hid (HKb89.out.step hb); have HKx91 := Lib.hid (HKx89.out.step hb); have HKy91 := Lib.hid (HKy89.out.step hb); have HFs91 := Lib.hid (HFs89.out.up hb); have HB91 := Lib.hid (Below.step HB89.out hb); clear hb)
            refine hK.out _ _ ?_ (fun hHeld5 => ?_)
            · (first | exact ⟨HKa91.out.cell 0, HKb91.out.cell 0⟩)
            clear hHeld4 hK K
            try simp only [List.getElem_toArray, List.getElem_cons_zero, List.getElem_cons_succ, Act.put, List.setIfInBounds_toArray, List.set_cons_zero, List.set_cons_succ]
            refine wpAnyH_ready (rs := [11]) (by kernel_rfl) (by simp) ?_
            refine AllReadyH.cons (o := _) rfl (fun K hK => ?_) AllReadyH.nil
            go_simp
            (go_at_call 17; refine (LA.out _).mono ?_; rintro e w94 ⟨rfl, hb⟩; have HKa93 := Lib.hid (HKa91.out.step hb); have HKb93 := Lib.hid (HKb91.out.step hb); have HKx93 := Lib.hid (HKx91.out.step hb); have HKy93 := Lib.hid (HKy91.out.step hb); have HFs93 := Lib.hid (HFs91.out.up hb); have HB93 := Lib.hid (Below.step HB91.out hb); clear hb)
            refine hK.out _ _ ?_ (fun hHeld6 => ?_)
            · (first | exact ⟨HKa93.out.cell 0, HKb93.out.cell 0⟩)
            clear hHeld5 hK K
            try simp only [List.getElem_toArray, List.getElem_cons_zero, List.getElem_cons_succ, Act.put, List.setIfInBounds_toArray, List.set_cons_zero, List.set_cons_succ]
            refine wpAnyH_take (i := 12) (oi := _) (v := ?vr4n12_81) rfl (by kernel_rfl) (by kernel_rfl) (by kernel_rfl) (fun _ _ _ h => h) (Or.inl ⟨by kernel_rfl, ?hr4n12_81⟩) hHeld6 ?_
            case hr4n12_81 => (intro w hSw; (try dsimp only at hSw); go_simp; try (with_reducible rfl))
            try simp only [List.getElem_toArray, List.getElem_cons_zero, List.getElem_cons_succ, Act.put, List.setIfInBounds_toArray, List.set_cons_zero, List.set_cons_succ]
            refine wpAnyH_ready (rs := [15]) (by kernel_rfl) (by simp) ?_
            refine AllReadyH.cons (o := _) rfl (fun K hK => ?_) AllReadyH.nil
            go_simp
            (go_at_call 24; refine (MD.out _).mono ?_; rintro e w96 ⟨rfl, hb⟩; have HKa95 := Lib.hid (HKa93.out.step hb); have HKb95 := Lib.hid (HKb93.out.step hb); have HKx95 := Lib.hid (HKx93.out.step hb); have HKy95 := Lib.hid (HKy93.out.step hb); have HFs95 := Lib.hid (HFs93.out.up hb); have HB95 := Lib.hid (Below.step HB93.out hb); clear hb)
            refine hK.out _ _ ?_ (fun hHeld7 => ?_)
            · (first | exact ⟨HKa95.out.cell 0, HKb95.out.cell 0⟩)
            clear hHeld6 hK K
            try simp only [List.getElem_toArray, List.getElem_cons_zero, List.getElem_cons_succ, Act.put, List.setIfInBounds_toArray, List.set_cons_zero, List.set_cons_succ]
            refine wpAnyH_ready (rs := [16]) (by kernel_rfl) (by simp) ?_
            refine AllReadyH.cons (o := _) rfl (fun K hK => ?_) AllReadyH.nil
            go_simp
            (go_at_call 17; refine (LD.out _).mono ?_; rintro e w98 ⟨rfl, hb⟩; have HKa97 := Lib.hid (HKa95.out.step hb); have HKb97 := Lib.hid (HKb95.out.step hb); have HKx97 := Lib.hid (HKx95.out.step hb); have HKy97 := Lib.hid (HKy95.out.step hb); have HFs97 := Lib.hid (HFs95.out.up hb); have HB97 := Lib.hid (Below.step HB95.out hb); clear hb)
            refine hK.out _ _ ?_ (fun hHeld8 => ?_)
            · (first | exact ⟨HKa97.out.cell 0, HKb97.out.cell 0⟩)
            clear hHeld7 hK K
            try simp only [List.getElem_toArray, List.getElem_cons_zero, List.getElem_cons_succ, Act.put, List.setIfInBounds_toArray, List.set_cons_zero, List.set_cons_succ]
            refine wpAnyH_take (i := 17) (oi := _) (v := ?vr4n17_82) rfl (by kernel_rfl) (by kernel_rfl) (by kernel_rfl) (fun _ _ _ h => h) (Or.inl ⟨by kernel_rfl, ?hr4n17_82⟩) hHeld8 ?_
            case hr4n17_82 => (intro w hSw; (try dsimp only at hSw); go_simp; try (with_reducible rfl))
            try simp only [List.getElem_toArray, List.getElem_cons_zero, List.getElem_cons_succ, Act.put, List.setIfInBounds_toArray, List.set_cons_zero, List.set_cons_succ]
            refine wpAnyH_take (i := 18) (oi := _) (v := ?vr4n18_83) rfl (by kernel_rfl) (by kernel_rfl) (by kernel_rfl) (fun _ _ _ h => h) (Or.inl ⟨by kernel_rfl, ?hr4n18_83⟩) hHeld8 ?_
            case hr4n18_83 => (intro w hSw; (try dsimp only at hSw); go_simp; try (with_reducible rfl))
            try simp only [List.getElem_toArray, List.getElem_cons_zero, List.getElem_cons_succ, Act.put, List.setIfInBounds_toArray, List.set_cons_zero, List.set_cons_succ]
            refine wpAnyH_take (i := 19) (oi := _) (v := ?vr4n19_84) rfl (by kernel_rfl) (by kernel_rfl) (by kernel_rfl) (fun _ _ _ h => h) (Or.inl ⟨by kernel_rfl, ?hr4n19_84⟩) hHeld8 ?_
            case hr4n19_84 => (intro w hSw; (try dsimp only at hSw); go_simp; try (with_reducible rfl))
            try simp only [List.getElem_toArray, List.getElem_cons_zero, List.getElem_cons_succ, Act.put, List.setIfInBounds_toArray, List.set_cons_zero, List.set_cons_succ]
            refine wpAnyH_ready (rs := [20]) (by kernel_rfl) (by simp) ?_
            refine AllReadyH.cons (o := _) rfl (fun K hK => ?_) AllReadyH.nil
            go_simp
            (go_at_call 9; refine (WK.out _).mono ?_; rintro e w100 ⟨rfl, hb⟩; have HKa99 := Lib.hid (HKa97.out.step hb); have HKb99 := Lib.hid (HKb97.out.step hb); have HKx99 := Lib.hid (HKx97.out.step hb); have HKy99 := Lib.hid (HKy97.out.step hb); have HFs99 := Lib.hid (HFs97.out.up hb); have HB99 := Lib.hid (Below.step HB97.out hb); clear hb)
            refine hK.out _ _ ?_ (fun hHeld9 => ?_)
            · (first | exact ⟨HKa99.out.cell 0, HKb99.out.cell 0⟩)
            clear hHeld8 hK K
            try simp only [List.getElem_toArray, List.getElem_cons_zero, List.getElem_cons_succ, Act.put, List.setIfInBounds_toArray, List.set_cons_zero, List.set_cons_succ]
            refine wpAnyH_take (i := 21) (oi := _) (v := ?vr4n21_85) rfl (by kernel_rfl) (by kernel_rfl) (by kernel_rfl) (fun _ _ _ h => h) (Or.inl ⟨by kernel_rfl, ?hr4n21_85⟩) hHeld9 ?_
            case hr4n21_85 => (intro w hSw; (try dsimp only at hSw); go_simp; try (with_reducible rfl))
            try simp only [List.getElem_toArray, List.getElem_cons_zero, List.getElem_cons_succ, Act.put, List.setIfInBounds_toArray, List.set_cons_zero, List.set_cons_succ]
            refine wpAnyH_take (i := 22) (oi := _) (v := ?vr4n22_86) rfl (by kernel_rfl) (by kernel_rfl) (by kernel_rfl) (fun _ _ _ h => h) (Or.inl ⟨by kernel_rfl, ?hr4n22_86⟩) hHeld9 ?_
            case hr4n22_86 => (intro w hSw; (try dsimp only at hSw); go_simp; try (with_reducible rfl))
            try simp only [List.getElem_toArray, List.getElem_cons_zero, List.getElem_cons_succ, Act.put, List.setIfInBounds_toArray, List.set_cons_zero, List.set_cons_succ]
            refine wpAnyH_done (by kernel_rfl) ?_ _
            refine NoPanic.normal ?_
            go_wp2
            go_ret
            exact ⟨rfl, HB99.out⟩
          refine AllReadyH.cons (o := _) rfl (fun K hK => ?_) AllReadyH.nil
          go_simp
          (skip; have HKa101 := Lib.hid (HKa83.out.alloc (.cells #[.int .u64 (a : Int), .int .u64 (b : Int)] 25)); have HKb101 := Lib.hid (HKb83.out.alloc (.cells #[.int .u64 (a : Int), .int .u64 (b : Int)] 25)); have HKx101 := Lib.hid (HKx83.out.alloc (.cells #[.int .u64 (a : Int), .int .u64 (b : Int)] 25)); have HKy101 := Lib.hid (HKy83.out.alloc (.cells #[.int .u64 (a : Int), .int .u64 (b : Int)] 25)); have HFs101 := Lib.hid (bits_new w84 25 #[.int .u64 (a : Int), .int .u64 (b : Int)] [a, b] rfl); have HB101 := Lib.hid (HB83.out.alloc HB83.out.size (.cells #[.int .u64 (a : Int), .int .u64 (b : Int)] 25)); generalize World.alloc _ _ = w102 at HKa101 HKb101 HKx101 HKy101 HFs101 HB101 ⊢)
          refine hK.out _ _ ?_ (fun hHeld10 => ?_)
          · (first | exact ⟨HKa101.out.cell 0, HKb101.out.cell 0⟩)
          clear hHeld1 hK K
          try simp only [List.getElem_toArray, List.getElem_cons_zero, List.getElem_cons_succ, Act.put, List.setIfInBounds_toArray, List.set_cons_zero, List.set_cons_succ]
          refine wpAnyH_ready (rs := [3]) (by kernel_rfl) (by simp) ?_
          refine AllReadyH.cons (o := _) rfl (fun K hK => ?_) AllReadyH.nil
          go_simp
          (go_at_call 17; refine (LB.out _).mono ?_; rintro e w104 ⟨rfl, hb⟩; have HKa103 := Lib.hid (HKa101.out.step hb); have HKb103 := Lib.hid (HKb101.out.step hb); have HKx103 := Lib.hid (HKx101.out.step hb); have HKy103 := Lib.hid (HKy101.out.step hb); have HFs103 := Lib.hid (HFs101.out.up hb); have HB103 := Lib.hid (Below.step HB101.out hb); clear hb)
          refine hK.out _ _ ?_ (fun hHeld11 => ?_)
          · (first | exact ⟨HKa103.out.cell 0, HKb103.out.cell 0⟩)
          clear hHeld10 hK K
          try simp only [List.getElem_toArray, List.getElem_cons_zero, List.getElem_cons_succ, Act.put, List.setIfInBounds_toArray, List.set_cons_zero, List.set_cons_succ]
          refine wpAnyH_take (i := 4) (oi := _) (v := ?vr4n4_87) rfl (by kernel_rfl) (by kernel_rfl) (by kernel_rfl) (fun _ _ _ h => h) (Or.inl ⟨by kernel_rfl, ?hr4n4_87⟩) hHeld11 ?_
          case hr4n4_87 => (intro w hSw; (try dsimp only at hSw); go_simp; try (with_reducible rfl))
          try simp only [List.getElem_toArray, List.getElem_cons_zero, List.getElem_cons_succ, Act.put, List.setIfInBounds_toArray, List.set_cons_zero, List.set_cons_succ]
          refine wpAnyH_ready (rs := [8]) (by kernel_rfl) (by simp) ?_
          refine AllReadyH.cons (o := _) rfl (fun K hK => ?_) AllReadyH.nil
          go_simp
          (go_at_call 23; refine (UA.out _ _ _ HFs103.out).mono ?_; rintro e w106 ⟨rfl, hb⟩; have HKa105 := Lib.hid (HKa103.out.step hb); have HKb105 := Lib.hid (HKb103.out.step hb); have HKx105 := Lib.hid (HKx103.out.step hb); have HKy105 := Lib.hid (HKy103.out.step hb); have HFs105 := Lib.hid (HFs103.out.up hb); have HB105 := Lib.hid (Below.step HB103.out hb); clear hb)
          refine hK.out _ _ ?_ (fun hHeld12 => ?_)
          · (first | exact ⟨HKa105.out.cell 0, HKb105.out.cell 0⟩)
          clear hHeld11 hK K
          try simp only [List.getElem_toArray, List.getElem_cons_zero, List.getElem_cons_succ, Act.put, List.setIfInBounds_toArray, List.set_cons_zero, List.set_cons_succ]
          refine wpAnyH_ready (rs := [9]) (by kernel_rfl) (by simp) ?_
          refine AllReadyH.cons (o := _) rfl (fun K hK => ?_) AllReadyH.nil
          go_simp
          (go_at_call 17; refine (LU.out _).mono ?_; rintro e w108 ⟨rfl, hb⟩; have HKa107 := Lib.hid (HKa105.out.step hb); have HKb107 := Lib.hid (HKb105.out.step hb); have HKx107 := Lib.hid (HKx105.out.step hb); have HKy107 := Lib.hid (HKy105.out.step hb); have HFs107 := Lib.hid (HFs105.out.up hb); have HB107 := Lib.hid (Below.step HB105.out hb); clear hb)
          refine hK.out _ _ ?_ (fun hHeld13 => ?_)
          · (first | exact ⟨HKa107.out.cell 0, HKb107.out.cell 0⟩)
          clear hHeld12 hK K
          try simp only [List.getElem_toArray, List.getElem_cons_zero, List.getElem_cons_succ, Act.put, List.setIfInBounds_toArray, List.set_cons_zero, List.set_cons_succ]
          refine wpAnyH_ready (rs := [11]) (by kernel_rfl) (by simp) ?_
          refine AllReadyH.cons (o := _) rfl (fun K hK => ?_) AllReadyH.nil
          go_simp
          (go_at_call 17; refine (LA.out _).mono ?_; rintro e w110 ⟨rfl, hb⟩; have HKa109 := Lib.hid (HKa107.out.step hb); have HKb109 := Lib.hid (HKb107.out.step hb); have HKx109 := Lib.hid (HKx107.out.step hb); have HKy109 := Lib.hid (HKy107.out.step hb); have HFs109 := Lib.hid (HFs107.out.up hb); have HB109 := Lib.hid (Below.step HB107.out hb); clear hb)
          refine hK.out _ _ ?_ (fun hHeld14 => ?_)
          · (first | exact ⟨HKa109.out.cell 0, HKb109.out.cell 0⟩)
          clear hHeld13 hK K
          try simp only [List.getElem_toArray, List.getElem_cons_zero, List.getElem_cons_succ, Act.put, List.setIfInBounds_toArray, List.set_cons_zero, List.set_cons_succ]
          refine wpAnyH_take (i := 12) (oi := _) (v := ?vr4n12_88) rfl (by kernel_rfl) (by kernel_rfl) (by kernel_rfl) (fun _ _ _ h => h) (Or.inl ⟨by kernel_rfl, ?hr4n12_88⟩) hHeld14 ?_
          case hr4n12_88 => (intro w hSw; (try dsimp only at hSw); go_simp; try (with_reducible rfl))
          try simp only [List.getElem_toArray, List.getElem_cons_zero, List.getElem_cons_succ, Act.put, List.setIfInBounds_toArray, List.set_cons_zero, List.set_cons_succ]
          refine wpAnyH_ready (rs := [15]) (by kernel_rfl) (by simp) ?_
          refine AllReadyH.cons (o := _) rfl (fun K hK => ?_) AllReadyH.nil
          go_simp
          (go_at_call 24; refine (MD.out _).mono ?_; rintro e w112 ⟨rfl, hb⟩; have HKa111 := Lib.hid (HKa109.out.step hb); have HKb111 := Lib.hid (HKb109.out.step hb); have HKx111 := Lib.hid (HKx109.out.step hb); have HKy111 := Lib.hid (HKy109.out.step hb); have HFs111 := Lib.hid (HFs109.out.up hb); have HB111 := Lib.hid (Below.step HB109.out hb); clear hb)
          refine hK.out _ _ ?_ (fun hHeld15 => ?_)
          · (first | exact ⟨HKa111.out.cell 0, HKb111.out.cell 0⟩)
          clear hHeld14 hK K
          try simp only [List.getElem_toArray, List.getElem_cons_zero, List.getElem_cons_succ, Act.put, List.setIfInBounds_toArray, List.set_cons_zero, List.set_cons_succ]
          refine wpAnyH_ready (rs := [16]) (by kernel_rfl) (by simp) ?_
          refine AllReadyH.cons (o := _) rfl (fun K hK => ?_) AllReadyH.nil
          go_simp
          (go_at_call 17; refine (LD.out _).mono ?_; rintro e w114 ⟨rfl, hb⟩; have HKa113 := Lib.hid (HKa111.out.step hb); have HKb113 := Lib.hid (HKb111.out.step hb); have HKx113 := Lib.hid (HKx111.out.step hb); have HKy113 := Lib.hid (HKy111.out.step hb); have HFs113 := Lib.hid (HFs111.out.up hb); have HB113 := Lib.hid (Below.step HB111.out hb); clear hb)
          refine hK.out _ _ ?_ (fun hHeld16 => ?_)
          · (first | exact ⟨HKa113.out.cell 0, HKb113.out.cell 0⟩)
          clear hHeld15 hK K
          try simp only [List.getElem_toArray, List.getElem_cons_zero, List.getElem_cons_succ, Act.put, List.setIfInBounds_toArray, List.set_cons_zero, List.set_cons_succ]
          refine wpAnyH_take (i := 17) (oi := _) (v := ?vr4n17_89) rfl (by kernel_rfl) (by kernel_rfl) (by kernel_rfl) (fun _ _ _ h => h) (Or.inl ⟨by kernel_rfl, ?hr4n17_89⟩) hHeld16 ?_
          case hr4n17_89 => (intro w hSw; (try dsimp only at hSw); go_simp; try (with_reducible rfl))
          try simp only [List.getElem_toArray, List.getElem_cons_zero, List.getElem_cons_succ, Act.put, List.setIfInBounds_toArray, List.set_cons_zero, List.set_cons_succ]
          refine wpAnyH_take (i := 18) (oi := _) (v := ?vr4n18_90) rfl (by kernel_rfl) (by kernel_rfl) (by kernel_rfl) (fun _ _ _ h => h) (Or.inl ⟨by kernel_rfl, ?hr4n18_90⟩) hHeld16 ?_
          case hr4n18_90 => (intro w hSw; (try dsimp only at hSw); go_simp; try (with_reducible rfl))
          try simp only [List.getElem_toArray, List.getElem_cons_zero, List.getElem_cons_succ, Act.put, List.setIfInBounds_toArray, List.set_cons_zero, List.set_cons_succ]
          refine wpAnyH_take (i := 19) (oi := _) (v := ?vr4n19_91) rfl (by kernel_rfl) (by kernel_rfl) (by kernel_rfl) (fun _ _ _ h => h) (Or.inl ⟨by kernel_rfl, ?hr4n19_91⟩) hHeld16 ?_
          case hr4n19_91 => (intro w hSw; (try dsimp only at hSw); go_simp; try (with_reducible rfl))
          try simp only [List.getElem_toArray, List.getElem_cons_zero, List.getElem_cons_succ, Act.put, List.setIfInBounds_toArray, List.set_cons_zero, List.set_cons_succ]
          refine wpAnyH_ready (rs := [20]) (by kernel_rfl) (by simp) ?_
          refine AllReadyH.cons (o := _) rfl (fun K hK => ?_) AllReadyH.nil
          go_simp
          (go_at_call 9; refine (WK.out _).mono ?_; rintro e w116 ⟨rfl, hb⟩; have HKa115 := Lib.hid (HKa113.out.step hb); have HKb115 := Lib.hid (HKb113.out.step hb); have HKx115 := Lib.hid (HKx113.out.step hb); have HKy115 := Lib.hid (HKy113.out.step hb); have HFs115 := Lib.hid (HFs113.out.up hb); have HB115 := Lib.hid (Below.step HB113.out hb); clear hb)
          refine hK.out _ _ ?_ (fun hHeld17 => ?_)
          · (first | exact ⟨HKa115.out.cell 0, HKb115.out.cell 0⟩)
          clear hHeld16 hK K
          try simp only [List.getElem_toArray, List.getElem_cons_zero, List.getElem_cons_succ, Act.put, List.setIfInBounds_toArray, List.set_cons_zero, List.set_cons_succ]
          refine wpAnyH_take (i := 21) (oi := _) (v := ?vr4n21_92) rfl (by kernel_rfl) (by kernel_rfl) (by kernel_rfl) (fun _ _ _ h => h) (Or.inl ⟨by kernel_rfl, ?hr4n21_92⟩) hHeld17 ?_
          case hr4n21_92 => (intro w hSw; (try dsimp only at hSw); go_simp; try (with_reducible rfl))
          try simp only [List.getElem_toArray, List.getElem_cons_zero, List.getElem_cons_succ, Act.put, List.setIfInBounds_toArray, List.set_cons_zero, List.set_cons_succ]
          refine wpAnyH_take (i := 22) (oi := _) (v := ?vr4n22_93) rfl (by kernel_rfl) (by kernel_rfl) (by kernel_rfl) (fun _ _ _ h => h) (Or.inl ⟨by kernel_rfl, ?hr4n22_93⟩) hHeld17 ?_
          case hr4n22_93 => (intro w hSw; (try dsimp only at hSw); go_simp; try (with_reducible rfl))
          try simp only [List.getElem_toArray, List.getElem_cons_zero, List.getElem_cons_succ, Act.put, List.setIfInBounds_toArray, List.set_cons_zero, List.set_cons_succ]
          refine wpAnyH_done (by kernel_rfl) ?_ _
          refine NoPanic.normal ?_
          go_wp2
          go_ret
          exact ⟨rfl, HB115.out⟩
        refine AllReadyH.cons (o := _) rfl (fun K hK => ?_) AllReadyH.nil
        go_simp
        (skip; have HKa117 := Lib.hid ((HLa.out.alloc (.cells #[.int .u64 (a : Int), .int .u64 (b : Int)] 25)).drew); have HKb117 := Lib.hid ((HLb.out.alloc (.cells #[.int .u64 (a : Int), .int .u64 (b : Int)] 25)).drew); have HKx117 := Lib.hid ((HLx.out.alloc (.cells #[.int .u64 (a : Int), .int .u64 (b : Int)] 25)).drew); have HKy117 := Lib.hid ((HLy.out.alloc (.cells #[.int .u64 (a : Int), .int .u64 (b : Int)] 25)).drew); have HFs117 := Lib.hid ((bits_new wr 25 #[.int .u64 (a : Int), .int .u64 (b : Int)] [a, b] rfl).drew); have HB117 := Lib.hid ((HBL.out.alloc HBL.out.size (.cells #[.int .u64 (a : Int), .int .u64 (b : Int)] 25)).drew); generalize World.drew (World.alloc _ _) = w118 at HKa117 HKb117 HKx117 HKy117 HFs117 HB117 ⊢)
        refine hK.out _ _ ?_ (fun hHeld18 => ?_)
        · (first | exact ⟨HKa117.out.cell 0, HKb117.out.cell 0⟩)
        clear hHeld hK K
        try simp only [List.getElem_toArray, List.getElem_cons_zero, List.getElem_cons_succ, Act.put, List.setIfInBounds_toArray, List.set_cons_zero, List.set_cons_succ]
        refine wpAnyH_ready (rs := [1]) (by kernel_rfl) (by simp) ?_
        refine AllReadyH.cons (o := _) rfl (fun K hK => ?_) AllReadyH.nil
        go_simp
        (go_at_call 17; refine (LA.out _).mono ?_; rintro e w120 ⟨rfl, hb⟩; have HKa119 := Lib.hid (HKa117.out.step hb); have HKb119 := Lib.hid (HKb117.out.step hb); have HKx119 := Lib.hid (HKx117.out.step hb); have HKy119 := Lib.hid (HKy117.out.step hb); have HFs119 := Lib.hid (HFs117.out.up hb); have HB119 := Lib.hid (Below.step HB117.out hb); clear hb)
        refine hK.out _ _ ?_ (fun hHeld19 => ?_)
        · (first | exact ⟨HKa119.out.cell 0, HKb119.out.cell 0⟩)
        clear hHeld18 hK K
        try simp only [List.getElem_toArray, List.getElem_cons_zero, List.getElem_cons_succ, Act.put, List.setIfInBounds_toArray, List.set_cons_zero, List.set_cons_succ]
        refine wpAnyH_ready (rs := [3]) (by kernel_rfl) (by simp) ?_
        refine AllReadyH.cons (o := _) rfl (fun K hK => ?_) AllReadyH.nil
        go_simp
        (go_at_call 17; refine (LB.out _).mono ?_; rintro e w122 ⟨rfl, hb⟩; have HKa121 := Lib.hid (HKa119.out.step hb); have HKb121 := Lib.hid (HKb119.out.step hb); have HKx121 := Lib.hid (HKx119.out.step hb); have HKy121 := Lib.hid (HKy119.out.step hb); have HFs121 := Lib.hid (HFs119.out.up hb); have HB121 := Lib.hid (Below.step HB119.out hb); clear hb)
        refine hK.out _ _ ?_ (fun hHeld20 => ?_)
        · (first | exact ⟨HKa121.out.cell 0, HKb121.out.cell 0⟩)
        clear hHeld19 hK K
        try simp only [List.getElem_toArray, List.getElem_cons_zero, List.getElem_cons_succ, Act.put, List.setIfInBounds_toArray, List.set_cons_zero, List.set_cons_succ]
        refine wpAnyH_take (i := 4) (oi := _) (v := ?vr4n4_94) rfl (by kernel_rfl) (by kernel_rfl) (by kernel_rfl) (fun _ _ _ h => h) (Or.inl ⟨by kernel_rfl, ?hr4n4_94⟩) hHeld20 ?_
        case hr4n4_94 => (intro w hSw; (try dsimp only at hSw); go_simp; try (with_reducible rfl))
        try simp only [List.getElem_toArray, List.getElem_cons_zero, List.getElem_cons_succ, Act.put, List.setIfInBounds_toArray, List.set_cons_zero, List.set_cons_succ]
        refine wpAnyH_ready (rs := [8]) (by kernel_rfl) (by simp) ?_
        refine AllReadyH.cons (o := _) rfl (fun K hK => ?_) AllReadyH.nil
        go_simp
        (go_at_call 23; refine (UA.out _ _ _ HFs121.out).mono ?_; rintro e w124 ⟨rfl, hb⟩; have HKa123 := Lib.hid (HKa121.out.step hb); have HKb123 := Lib.hid (HKb121.out.step hb); have HKx123 := Lib.hid (HKx121.out.step hb); have HKy123 := Lib.hid (HKy121.out.step hb); have HFs123 := Lib.hid (HFs121.out.up hb); have HB123 := Lib.hid (Below.step HB121.out hb); clear hb)
        refine hK.out _ _ ?_ (fun hHeld21 => ?_)
        · (first | exact ⟨HKa123.out.cell 0, HKb123.out.cell 0⟩)
        clear hHeld20 hK K
        try simp only [List.getElem_toArray, List.getElem_cons_zero, List.getElem_cons_succ, Act.put, List.setIfInBounds_toArray, List.set_cons_zero, List.set_cons_succ]
        refine wpAnyH_ready (rs := [9]) (by kernel_rfl) (by simp) ?_
        refine AllReadyH.cons (o := _) rfl (fun K hK => ?_) AllReadyH.nil
        go_simp
        (go_at_call 17; refine (LU.out _).mono ?_; rintro e w126 ⟨rfl, hb⟩; have HKa125 := Lib.hid (HKa123.out.step hb); have HKb125 := Lib.hid (HKb123.out.step hb); have HKx125 := Lib.hid (HKx123.out.step hb); have HKy125 := Lib.hid (HKy123.out.step hb); have HFs125 := Lib.hid (HFs123.out.up hb); have HB125 := Lib.hid (Below.step HB123.out hb); clear hb)
        refine hK.out _ _ ?_ (fun hHeld22 => ?_)
        · (first | exact ⟨HKa125.out.cell 0, HKb125.out.cell 0⟩)
        clear hHeld21 hK K
        try simp only [List.getElem_toArray, List.getElem_cons_zero, List.getElem_cons_succ, Act.put, List.setIfInBounds_toArray, List.set_cons_zero, List.set_cons_succ]
        refine wpAnyH_ready (rs := [11]) (by kernel_rfl) (by simp) ?_
        refine AllReadyH.cons (o := _) rfl (fun K hK => ?_) AllReadyH.nil
        go_simp
        (go_at_call 17; refine (LA.out _).mono ?_; rintro e w128 ⟨rfl, hb⟩; have HKa127 := Lib.hid (HKa125.out.step hb); have HKb127 := Lib.hid (HKb125.out.step hb); have HKx127 := Lib.hid (HKx125.out.step hb); have HKy127 := Lib.hid (HKy125.out.step hb); have HFs127 := Lib.hid (HFs125.out.up hb); have HB127 := Lib.hid (Below.step HB125.out hb); clear hb)
        refine hK.out _ _ ?_ (fun hHeld23 => ?_)
        · (first | exact ⟨HKa127.out.cell 0, HKb127.out.cell 0⟩)
        clear hHeld22 hK K
        try simp only [List.getElem_toArray, List.getElem_cons_zero, List.getElem_cons_succ, Act.put, List.setIfInBounds_toArray, List.set_cons_zero, List.set_cons_succ]
        refine wpAnyH_take (i := 12) (oi := _) (v := ?vr4n12_95) rfl (by kernel_rfl) (by kernel_rfl) (by kernel_rfl) (fun _ _ _ h => h) (Or.inl ⟨by kernel_rfl, ?hr4n12_95⟩) hHeld23 ?_
        case hr4n12_95 => (intro w hSw; (try dsimp only at hSw); go_simp; try (with_reducible rfl))
        try simp only [List.getElem_toArray, List.getElem_cons_zero, List.getElem_cons_succ, Act.put, List.setIfInBounds_toArray, List.set_cons_zero, List.set_cons_succ]
        refine wpAnyH_ready (rs := [15]) (by kernel_rfl) (by simp) ?_
        refine AllReadyH.cons (o := _) rfl (fun K hK => ?_) AllReadyH.nil
        go_simp
        (go_at_call 24; refine (MD.out _).mono ?_; rintro e w130 ⟨rfl, hb⟩; have HKa129 := Lib.hid (HKa127.out.step hb); have HKb129 := Lib.hid (HKb127.out.step hb); have HKx129 := Lib.hid (HKx127.out.step hb); have HKy129 := Lib.hid (HKy127.out.step hb); have HFs129 := Lib.hid (HFs127.out.up hb); have HB129 := Lib.hid (Below.step HB127.out hb); clear hb)
        refine hK.out _ _ ?_ (fun hHeld24 => ?_)
        · (first | exact ⟨HKa129.out.cell 0, HKb129.out.cell 0⟩)
        clear hHeld23 hK K
        try simp only [List.getElem_toArray, List.getElem_cons_zero, List.getElem_cons_succ, Act.put, List.setIfInBounds_toArray, List.set_cons_zero, List.set_cons_succ]
        refine wpAnyH_ready (rs := [16]) (by kernel_rfl) (by simp) ?_
        refine AllReadyH.cons (o := _) rfl (fun K hK => ?_) AllReadyH.nil
        go_simp
        (go_at_call 17; refine (LD.out _).mono ?_; rintro e w132 ⟨rfl, hb⟩; have HKa131 := Lib.hid (HKa129.out.step hb); have HKb131 := Lib.hid (HKb129.out.step hb); have HKx131 := Lib.hid (HKx129.out.step hb); have HKy131 := Lib.hid (HKy129.out.step hb); have HFs131 := Lib.hid (HFs129.out.up hb); have HB131 := Lib.hid (Below.step HB129.out hb); clear hb)
        refine hK.out _ _ ?_ (fun hHeld25 => ?_)
        · (first | exact ⟨HKa131.out.cell 0, HKb131.out.cell 0⟩)
        clear hHeld24 hK K
        try simp only [List.getElem_toArray, List.getElem_cons_zero, List.getElem_cons_succ, Act.put, List.setIfInBounds_toArray, List.set_cons_zero, List.set_cons_succ]
        refine wpAnyH_take (i := 17) (oi := _) (v := ?vr4n17_96) rfl (by kernel_rfl) (by kernel_rfl) (by kernel_rfl) (fun _ _ _ h => h) (Or.inl ⟨by kernel_rfl, ?hr4n17_96⟩) hHeld25 ?_
        case hr4n17_96 => (intro w hSw; (try dsimp only at hSw); go_simp; try (with_reducible rfl))
        try simp only [List.getElem_toArray, List.getElem_cons_zero, List.getElem_cons_succ, Act.put, List.setIfInBounds_toArray, List.set_cons_zero, List.set_cons_succ]
        refine wpAnyH_take (i := 18) (oi := _) (v := ?vr4n18_97) rfl (by kernel_rfl) (by kernel_rfl) (by kernel_rfl) (fun _ _ _ h => h) (Or.inl ⟨by kernel_rfl, ?hr4n18_97⟩) hHeld25 ?_
        case hr4n18_97 => (intro w hSw; (try dsimp only at hSw); go_simp; try (with_reducible rfl))
        try simp only [List.getElem_toArray, List.getElem_cons_zero, List.getElem_cons_succ, Act.put, List.setIfInBounds_toArray, List.set_cons_zero, List.set_cons_succ]
        refine wpAnyH_take (i := 19) (oi := _) (v := ?vr4n19_98) rfl (by kernel_rfl) (by kernel_rfl) (by kernel_rfl) (fun _ _ _ h => h) (Or.inl ⟨by kernel_rfl, ?hr4n19_98⟩) hHeld25 ?_
        case hr4n19_98 => (intro w hSw; (try dsimp only at hSw); go_simp; try (with_reducible rfl))
        try simp only [List.getElem_toArray, List.getElem_cons_zero, List.getElem_cons_succ, Act.put, List.setIfInBounds_toArray, List.set_cons_zero, List.set_cons_succ]
        refine wpAnyH_ready (rs := [20]) (by kernel_rfl) (by simp) ?_
        refine AllReadyH.cons (o := _) rfl (fun K hK => ?_) AllReadyH.nil
        go_simp
        (go_at_call 9; refine (WK.out _).mono ?_; rintro e w134 ⟨rfl, hb⟩; have HKa133 := Lib.hid (HKa131.out.step hb); have HKb133 := Lib.hid (HKb131.out.step hb); have HKx133 := Lib.hid (HKx131.out.step hb); have HKy133 := Lib.hid (HKy131.out.step hb); have HFs133 := Lib.hid (HFs131.out.up hb); have HB133 := Lib.hid (Below.step HB131.out hb); clear hb)
        refine hK.out _ _ ?_ (fun hHeld26 => ?_)
        · (first | exact ⟨HKa133.out.cell 0, HKb133.out.cell 0⟩)
        clear hHeld25 hK K
        try simp only [List.getElem_toArray, List.getElem_cons_zero, List.getElem_cons_succ, Act.put, List.setIfInBounds_toArray, List.set_cons_zero, List.set_cons_succ]
        refine wpAnyH_take (i := 21) (oi := _) (v := ?vr4n21_99) rfl (by kernel_rfl) (by kernel_rfl) (by kernel_rfl) (fun _ _ _ h => h) (Or.inl ⟨by kernel_rfl, ?hr4n21_99⟩) hHeld26 ?_
        case hr4n21_99 => (intro w hSw; (try dsimp only at hSw); go_simp; try (with_reducible rfl))
        try simp only [List.getElem_toArray, List.getElem_cons_zero, List.getElem_cons_succ, Act.put, List.setIfInBounds_toArray, List.set_cons_zero, List.set_cons_succ]
        refine wpAnyH_take (i := 22) (oi := _) (v := ?vr4n22_100) rfl (by kernel_rfl) (by kernel_rfl) (by kernel_rfl) (fun _ _ _ h => h) (Or.inl ⟨by kernel_rfl, ?hr4n22_100⟩) hHeld26 ?_
        case hr4n22_100 => (intro w hSw; (try dsimp only at hSw); go_simp; try (with_reducible rfl))
        try simp only [List.getElem_toArray, List.getElem_cons_zero, List.getElem_cons_succ, Act.put, List.setIfInBounds_toArray, List.set_cons_zero, List.set_cons_succ]
        refine wpAnyH_done (by kernel_rfl) ?_ _
        refine NoPanic.normal ?_
        go_wp2
        go_ret
        exact ⟨rfl, HB133.out⟩
end Go.Proofs.Ytpineeaghmfggaa
