/- The walk through the law SegHeads: it answers true. -/
import Derived.Test.YtccbgiapabkjbaaSgE
import Derived.Test.YtccbgiapabkjbaaSgM
namespace Go.Proofs.Ytccbgiapabkjbaa
set_option linter.unusedVariables false
set_option linter.unusedSimpArgs false
set_option maxRecDepth 100000
open Go.RowKit
attribute [local go_sem ↓] Go.wp_at_zero Go.wp_at_succ
attribute [local go_sem ↓] ld_sg ld_ip

theorem IpS.setC {w0 w : World} {f t : List UInt8} {bf bt : Nat} (h : IpS w0 f t bf bt w) {g : Nat} (hf : bf ≠ g) (ht : bt ≠ g) (hg : w0.heap.size ≤ g) (o : Nat) (vs : List Value) : IpS w0 f t bf bt (w.setCells g o vs) :=
  ⟨h.f.setCells_other g o vs hf, h.t.setCells_other g o vs ht, Below.setCells h.bel hg o vs⟩

set_option maxHeartbeats 2000000 in
theorem segHeads_walk (b f t : List UInt8) (hL : IpL f t) (hb : b.length ≤ 9223372036854775807) (w : World) :
    Calls Try.prog 3 #[.string ⟨b.toArray⟩, arrV f, arrV t] w fun e w' => e = .returned (.bool true) ∧ Below w.heap.size w w' := by
  have HQ := Lib.hid (ip_new w f t)
  have HL := Lib.hid hL
  have hf4 := hL.f
  have ht4 := hL.t
  by_cases h1 : (b.length : Int) < 20
  · go_enter Try.func3, Try.ntmps3
    go_upto_region 1 with fail
    generalize World.alloc _ _ = w1 at HQ ⊢
    go_wp2_with fail
    refine (sgawake_any _).mono ?_
    rintro e w2 ⟨rfl, hb1⟩
    have Q1 := Lib.hid (HQ.out.step hb1)
    clear hb1 HQ
    go_wp2
    go_ret
    exact ⟨rfl, Q1.out.bel⟩
  have h1' : 20 ≤ (b.length : Int) := by omega
  by_cases h2 : 566 < (b.length : Int)
  · go_enter Try.func3, Try.ntmps3
    go_upto_region 1 with fail
    generalize World.alloc _ _ = w1 at HQ ⊢
    go_wp2_with fail
    refine (sgawake_any _).mono ?_
    rintro e w2 ⟨rfl, hb1⟩
    have Q1 := Lib.hid (HQ.out.step hb1)
    clear hb1 HQ
    go_wp2
    go_ret
    exact ⟨rfl, Q1.out.bel⟩
  have h2' : (b.length : Int) ≤ 566 := by omega
  obtain ⟨A, hA⟩ : ∃ A, A = b.take 16 := ⟨_, rfl⟩
  obtain ⟨D, hD⟩ : ∃ D, D = b.drop 18 := ⟨_, rfl⟩
  have hlA : A.length = 16 := by rw [hA, List.length_take]; omega
  have hlD : D.length ≤ 566 := by rw [hD, List.length_drop]; omega
  have heA : (⟨b.toArray⟩ : ByteArray).extract 0 16 = ⟨A.toArray⟩ := by rw [ext_list', hA]; rfl
  have heD : (⟨b.toArray⟩ : ByteArray).extract 18 b.length = ⟨D.toArray⟩ := by rw [ext_tail, hD]
  obtain ⟨C, hC⟩ : ∃ C, C = A ++ [0, 0] ++ D := ⟨_, rfl⟩
  have hlC : C.length = 18 + D.length := by rw [hC]; simp only [List.length_append, hlA, List.length_cons, List.length_nil]
  have hstr : ({ data := A.toArray } : ByteArray) ++ { data := #[0, 0] } ++ { data := D.toArray } = { data := C.toArray } := by rw [hC, ← str_append, ← str_append]
  have heA2 : (⟨C.toArray⟩ : ByteArray).extract 0 16 = ⟨A.toArray⟩ := by rw [hC, List.append_assoc]; exact ext_to A _ 16 hlA
  have heD2 : (⟨C.toArray⟩ : ByteArray).extract 18 C.length = ⟨D.toArray⟩ := by rw [hC]; exact ext_from (A ++ [0, 0]) D 18 _ (by simp only [List.length_append, hlA, List.length_cons, List.length_nil]) (by simp only [List.length_append, hlA, List.length_cons, List.length_nil])
  have l16 : (16 : Int) ≤ (b.length : Int) := by omega
  have l18 : (18 : Int) ≤ (b.length : Int) := by omega
  have l16c : (16 : Int) ≤ (C.length : Int) := by omega
  have l18c : (18 : Int) ≤ (C.length : Int) := by omega
  have hnb2 : ¬ 9223372036854775807 < 18 + D.length := by omega
  have hlCi : (C.length : Int) ≤ 65535 := by omega
  clear hA hD hC
  have hin := sumE_in ⟨(f ++ t ++ [0, 6, UInt8.ofNat (C.length / 256), UInt8.ofNat C.length] ++ C).toArray⟩
  have hSum := fun w => refSum_any w (f ++ t ++ [0, 6, UInt8.ofNat (C.length / 256), UInt8.ofNat C.length] ++ C) (by simp only [List.length_append, List.length_cons, List.length_nil]; omega)
  obtain ⟨n, hn⟩ : ∃ n : Nat, sumE ⟨(f ++ t ++ [0, 6, UInt8.ofNat (C.length / 256), UInt8.ofNat C.length] ++ C).toArray⟩ = (n : Int) := ⟨_, (Int.toNat_of_nonneg hin.1).symm⟩
  rw [hn] at hSum hin
  have hn1 : (n : Int) ≤ 65535 := hin.2
  have hyy : ((C.length % 256 : Nat) : Int) = ((UInt8.ofNat C.length).toNat : Int) := by rw [UInt8.toNat_ofNat']
  have hxx : ((C.length / 256 : Nat) : Int) = ((UInt8.ofNat (C.length / 256)).toNat : Int) := by rw [ofNat_toNat _ (by omega)]
  have hwx : IntKind.i64.wrap ((C.length : Int) / 256) = ((C.length / 256 : Nat) : Int) := by rw [IntWalk.i64_in _ (by omega)]; omega
  have hty : (C.length : Int).tmod 256 = ((C.length % 256 : Nat) : Int) := by rw [Int.tmod_eq_emod_of_nonneg (by omega)]; omega
  have hux : IntKind.u8.wrap ((C.length / 256 : Nat) : Int) = ((C.length / 256 : Nat) : Int) := u8in' _ (by omega)
  have huy : IntKind.u8.wrap ((C.length % 256 : Nat) : Int) = ((C.length % 256 : Nat) : Int) := u8in' _ (by omega)
  generalize UInt8.ofNat (C.length / 256) = hi at hSum hxx
  generalize UInt8.ofNat C.length = lo at hSum hyy
  generalize C.length / 256 = x at hxx hwx hux
  generalize C.length % 256 = y at hyy hty huy
  simp only [← str_append] at hSum
  have HC1 : RowKit.Hid ((#[Value.int .u8 0, Value.int .u8 6, Value.int .u8 (x : Int), Value.int .u8 (y : Int)] : Array Value) = (([0, 6, hi, lo] : List UInt8).map ubv).toArray) := by
    show (#[Value.int .u8 0, Value.int .u8 6, Value.int .u8 (x : Int), Value.int .u8 (y : Int)] : Array Value) = #[.int .u8 0, .int .u8 6, .int .u8 (hi.toNat : Int), .int .u8 (lo.toNat : Int)]
    rw [← hxx, ← hyy]
  obtain ⟨Z, hZ⟩ : ∃ Z, Z = A ++ [UInt8.ofNat (n / 256), UInt8.ofNat n] ++ D := ⟨_, rfl⟩
  have hlZ : Z.length = 18 + D.length := by rw [hZ]; simp only [List.length_append, hlA, List.length_cons, List.length_nil]
  have hyy2 : ((n % 256 : Nat) : Int) = ((UInt8.ofNat n).toNat : Int) := by rw [UInt8.toNat_ofNat']
  have hxx2 : ((n / 256 : Nat) : Int) = ((UInt8.ofNat (n / 256)).toNat : Int) := by rw [ofNat_toNat _ (by omega)]
  have hwx2 : IntKind.i64.wrap ((n : Int) / 256) = ((n / 256 : Nat) : Int) := by rw [IntWalk.i64_in _ (by omega)]; omega
  have hty2 : (n : Int).tmod 256 = ((n % 256 : Nat) : Int) := by rw [Int.tmod_eq_emod_of_nonneg (by omega)]; omega
  have hux2 : IntKind.u8.wrap ((n / 256 : Nat) : Int) = ((n / 256 : Nat) : Int) := u8in' _ (by omega)
  have huy2 : IntKind.u8.wrap ((n % 256 : Nat) : Int) = ((n % 256 : Nat) : Int) := u8in' _ (by omega)
  generalize UInt8.ofNat (n / 256) = hi2 at hZ hxx2
  generalize UInt8.ofNat n = lo2 at hZ hyy2
  generalize n / 256 = x2 at hxx2 hwx2 hux2
  generalize n % 256 = y2 at hyy2 hty2 huy2
  have HC2 : RowKit.Hid ((#[Value.int .u8 (x2 : Int), Value.int .u8 (y2 : Int)] : Array Value) = (([hi2, lo2] : List UInt8).map ubv).toArray) := by
    show (#[Value.int .u8 (x2 : Int), Value.int .u8 (y2 : Int)] : Array Value) = #[.int .u8 (hi2.toNat : Int), .int .u8 (lo2.toNat : Int)]
    rw [← hxx2, ← hyy2]
  have hstr2 : ({ data := A.toArray } : ByteArray) ++ { data := #[hi2, lo2] } ++ { data := D.toArray } = { data := Z.toArray } := by rw [hZ, ← str_append, ← str_append]
  have hr1 := fun w => sgRead_any Z f t hL w (by omega)
  have hr2 := fun w => refRead_any Z f t hL w (by omega)
  obtain ⟨a0, a1, a2, a3, a4, a5, a6, a7, hV⟩ := srV_form f t Z
  rw [hV] at hr1 hr2
  generalize srE f t Z = E at hr1 hr2
  have hself := fun w => run_sg_self w a0 a1 a2 a3 a4 a5 a6 a7
  have HSum := Lib.hid hSum
  have HR1 := Lib.hid hr1
  have HR2 := Lib.hid hr2
  have hnb3 : ¬ 9223372036854775807 < 12 + C.length := by omega
  clear hlC hSum hr1 hr2 hV hZ hxx hyy hxx2 hyy2 hn hin hL hb hlZ h1 h2
  go_enter Try.func3, Try.ntmps3
  go_upto_region 1 with fail
  generalize World.alloc _ _ = w1 at HQ ⊢
  go_wp2_with fail
  refine (sgawake_any _).mono ?_
  rintro e w2 ⟨rfl, hb1⟩
  have Q1 := Lib.hid (HQ.out.step hb1)
  clear hb1 HQ
  go_upto_region 5 with fail
  refine wp_region_noPanic ?_
  refine wp_region_held_drew (S := (fun w' => IpS w f t w.heap.size (w.heap.size + 1) w')) (by kernel_rfl) (by first | exact Q1.out.drew) (fun hHeld => ?_)
  refine wpAnyH_take (i := 0) (oi := _) (v := ?vr1n0_1) rfl (by kernel_rfl) (by kernel_rfl) (by kernel_rfl) (fun _ _ _ h => h) (Or.inl ⟨by kernel_rfl, ?hr1n0_1⟩) hHeld ?_
  case hr1n0_1 => (intro w hSw; (try dsimp only at hSw); go_simp; try (with_reducible rfl))
  try simp only [List.getElem_toArray, List.getElem_cons_zero, List.getElem_cons_succ, Act.put, List.setIfInBounds_toArray, List.set_cons_zero, List.set_cons_succ]
  refine wpAnyH_take (i := 1) (oi := _) (v := ?vr1n1_2) rfl (by kernel_rfl) (by kernel_rfl) (by kernel_rfl) (fun _ _ _ h => h) (Or.inl ⟨by kernel_rfl, ?hr1n1_2⟩) hHeld ?_
  case hr1n1_2 => (intro w hSw; (try dsimp only at hSw); go_simp; try (with_reducible rfl))
  try simp only [List.getElem_toArray, List.getElem_cons_zero, List.getElem_cons_succ, Act.put, List.setIfInBounds_toArray, List.set_cons_zero, List.set_cons_succ]
  refine wpAnyH_take (i := 2) (oi := _) (v := ?vr1n2_3) rfl (by kernel_rfl) (by kernel_rfl) (by kernel_rfl) (fun _ _ _ h => h) (Or.inl ⟨by kernel_rfl, ?hr1n2_3⟩) hHeld ?_
  case hr1n2_3 => (intro w hSw; (try dsimp only at hSw); go_simp; try (with_reducible rfl))
  try simp only [List.getElem_toArray, List.getElem_cons_zero, List.getElem_cons_succ, Act.put, List.setIfInBounds_toArray, List.set_cons_zero, List.set_cons_succ]
  refine wpAnyH_take (i := 3) (oi := _) (v := ?vr1n3_4) rfl (by kernel_rfl) (by kernel_rfl) (by kernel_rfl) (fun _ _ _ h => h) (Or.inl ⟨by kernel_rfl, ?hr1n3_4⟩) hHeld ?_
  case hr1n3_4 => (intro w hSw; (try dsimp only at hSw); go_simp; try (with_reducible rfl))
  try simp only [List.getElem_toArray, List.getElem_cons_zero, List.getElem_cons_succ, Act.put, List.setIfInBounds_toArray, List.set_cons_zero, List.set_cons_succ]
  refine wpAnyH_take (i := 4) (oi := _) (v := ?vr1n4_5) rfl (by kernel_rfl) (by kernel_rfl) (by kernel_rfl) (fun _ _ _ h => h) (Or.inl ⟨by kernel_rfl, ?hr1n4_5⟩) hHeld ?_
  case hr1n4_5 => (intro w hSw; (try dsimp only at hSw); go_simp; try (with_reducible rfl))
  try simp only [List.getElem_toArray, List.getElem_cons_zero, List.getElem_cons_succ, Act.put, List.setIfInBounds_toArray, List.set_cons_zero, List.set_cons_succ]
  refine wpAnyH_take (i := 5) (oi := _) (v := ?vr1n5_6) rfl (by kernel_rfl) (by kernel_rfl) (by kernel_rfl) (fun _ _ _ h => h) (Or.inl ⟨by kernel_rfl, ?hr1n5_6⟩) hHeld ?_
  case hr1n5_6 => (intro w hSw; (try dsimp only at hSw); go_simp; try (with_reducible rfl))
  try simp only [List.getElem_toArray, List.getElem_cons_zero, List.getElem_cons_succ, Act.put, List.setIfInBounds_toArray, List.set_cons_zero, List.set_cons_succ]
  refine wpAnyH_take (i := 6) (oi := _) (v := ?vr1n6_7) rfl (by kernel_rfl) (by kernel_rfl) (by kernel_rfl) (fun _ _ _ h => h) (Or.inl ⟨by kernel_rfl, ?hr1n6_7⟩) hHeld ?_
  case hr1n6_7 => (intro w hSw; (try dsimp only at hSw); go_simp; try (with_reducible rfl))
  try simp only [List.getElem_toArray, List.getElem_cons_zero, List.getElem_cons_succ, Act.put, List.setIfInBounds_toArray, List.set_cons_zero, List.set_cons_succ]
  refine wpAnyH_done (by kernel_rfl) ?_ _
  refine NoPanic.normal ?_
  have Q2 : RowKit.Hid (IpS w f t w.heap.size (w.heap.size + 1) w2.drew) := hHeld
  clear hHeld Q1
  generalize World.drew _ = w9 at Q2 ⊢
  go_upto_region 6 with fail
  refine wp_region_noPanic ?_
  refine wp_region_held_drew (S := (fun w' => IpS w f t w.heap.size (w.heap.size + 1) w' ∧ (convert 26 9 (.slice (some ⟨w.heap.size, 0, none⟩) 4 4)).run Try.prog w' = .ok (.string ⟨f.toArray⟩) w' ∧ (convert 26 9 (.slice (some ⟨w.heap.size + 1, 0, none⟩) 4 4)).run Try.prog w' = .ok (.string ⟨t.toArray⟩) w')) (by kernel_rfl) (by first | exact IpS.q HL.out Q2.out.drew) (fun hHeld => ?_)
  refine wpAnyH_take (i := 0) (oi := _) (v := ?vr2n0_8) rfl (by kernel_rfl) (by kernel_rfl) (by kernel_rfl) (fun _ _ _ h => h) (Or.inl ⟨by kernel_rfl, ?hr2n0_8⟩) hHeld ?_
  case hr2n0_8 => (intro w hSw; (try dsimp only at hSw); go_simp; try (with_reducible rfl))
  try simp only [List.getElem_toArray, List.getElem_cons_zero, List.getElem_cons_succ, Act.put, List.setIfInBounds_toArray, List.set_cons_zero, List.set_cons_succ]
  refine wpAnyH_take (i := 1) (oi := _) (v := ?vr2n1_9) rfl (by kernel_rfl) (by kernel_rfl) (by kernel_rfl) (fun _ _ _ h => h) (Or.inl ⟨by kernel_rfl, ?hr2n1_9⟩) hHeld ?_
  case hr2n1_9 => (intro w hSw; (try dsimp only at hSw); go_simp; try (with_reducible rfl))
  try simp only [List.getElem_toArray, List.getElem_cons_zero, List.getElem_cons_succ, Act.put, List.setIfInBounds_toArray, List.set_cons_zero, List.set_cons_succ]
  refine wpAnyH_take (i := 2) (oi := _) (v := ?vr2n2_10) rfl (by kernel_rfl) (by kernel_rfl) (by kernel_rfl) (fun _ _ _ h => h) (Or.inl ⟨by kernel_rfl, ?hr2n2_10⟩) hHeld ?_
  case hr2n2_10 => (intro w hSw; (try dsimp only at hSw); go_simp; try (with_reducible rfl))
  try simp only [List.getElem_toArray, List.getElem_cons_zero, List.getElem_cons_succ, Act.put, List.setIfInBounds_toArray, List.set_cons_zero, List.set_cons_succ]
  refine wpAnyH_take (i := 3) (oi := _) (v := ?vr2n3_11) rfl (by kernel_rfl) (by kernel_rfl) (by kernel_rfl) (fun _ _ _ h => h) (Or.inl ⟨by kernel_rfl, ?hr2n3_11⟩) hHeld ?_
  case hr2n3_11 => (intro w hSw; (try dsimp only at hSw); go_simp; try (with_reducible rfl))
  try simp only [List.getElem_toArray, List.getElem_cons_zero, List.getElem_cons_succ, Act.put, List.setIfInBounds_toArray, List.set_cons_zero, List.set_cons_succ]
  refine wpAnyH_take (i := 4) (oi := _) (v := ?vr2n4_12) rfl (by kernel_rfl) (by kernel_rfl) (by kernel_rfl) (fun _ _ _ h => h) (Or.inl ⟨by kernel_rfl, ?hr2n4_12⟩) hHeld ?_
  case hr2n4_12 => (intro w hSw; (try dsimp only at hSw); go_simp; try (with_reducible rfl))
  try simp only [List.getElem_toArray, List.getElem_cons_zero, List.getElem_cons_succ, Act.put, List.setIfInBounds_toArray, List.set_cons_zero, List.set_cons_succ]
  refine wpAnyH_take (i := 5) (oi := _) (v := ?vr2n5_13) rfl (by kernel_rfl) (by kernel_rfl) (by kernel_rfl) (fun _ _ _ h => h) (Or.inl ⟨by kernel_rfl, ?hr2n5_13⟩) hHeld ?_
  case hr2n5_13 => (intro w hSw; (try dsimp only at hSw); go_simp; try (with_reducible rfl))
  try simp only [List.getElem_toArray, List.getElem_cons_zero, List.getElem_cons_succ, Act.put, List.setIfInBounds_toArray, List.set_cons_zero, List.set_cons_succ]
  refine wpAnyH_take (i := 6) (oi := _) (v := ?vr2n6_14) rfl (by kernel_rfl) (by kernel_rfl) (by kernel_rfl) (fun _ _ _ h => h) (Or.inl ⟨by kernel_rfl, ?hr2n6_14⟩) hHeld ?_
  case hr2n6_14 => (intro w hSw; (try dsimp only at hSw); go_simp; try (with_reducible rfl))
  try simp only [List.getElem_toArray, List.getElem_cons_zero, List.getElem_cons_succ, Act.put, List.setIfInBounds_toArray, List.set_cons_zero, List.set_cons_succ]
  refine wpAnyH_take (i := 7) (oi := _) (v := ?vr2n7_15) rfl (by kernel_rfl) (by kernel_rfl) (by kernel_rfl) (fun _ _ _ h => h) (Or.inl ⟨by kernel_rfl, ?hr2n7_15⟩) hHeld ?_
  case hr2n7_15 => (intro w hSw; (try dsimp only at hSw); go_simp; try (with_reducible rfl))
  try simp only [List.getElem_toArray, List.getElem_cons_zero, List.getElem_cons_succ, Act.put, List.setIfInBounds_toArray, List.set_cons_zero, List.set_cons_succ]
  refine wpAnyH_take (i := 8) (oi := _) (v := ?vr2n8_16) rfl (by kernel_rfl) (by kernel_rfl) (by kernel_rfl) (fun _ _ _ h => h) (Or.inl ⟨by kernel_rfl, ?hr2n8_16⟩) hHeld ?_
  case hr2n8_16 => (intro w hSw; (try dsimp only at hSw); go_simp; try (with_reducible rfl))
  try simp only [List.getElem_toArray, List.getElem_cons_zero, List.getElem_cons_succ, Act.put, List.setIfInBounds_toArray, List.set_cons_zero, List.set_cons_succ]
  refine wpAnyH_take (i := 9) (oi := _) (v := ?vr2n9_17) rfl (by kernel_rfl) (by kernel_rfl) (by kernel_rfl) (fun _ _ _ h => h) (Or.inl ⟨by kernel_rfl, ?hr2n9_17⟩) hHeld ?_
  case hr2n9_17 => (intro w hSw; (try dsimp only at hSw); go_simp; try (with_reducible rfl))
  try simp only [List.getElem_toArray, List.getElem_cons_zero, List.getElem_cons_succ, Act.put, List.setIfInBounds_toArray, List.set_cons_zero, List.set_cons_succ]
  refine wpAnyH_take (i := 10) (oi := _) (v := ?vr2n10_18) rfl (by kernel_rfl) (by kernel_rfl) (by kernel_rfl) (fun _ _ _ h => h) (Or.inl ⟨by kernel_rfl, ?hr2n10_18⟩) hHeld ?_
  case hr2n10_18 => (intro w hSw; (try dsimp only at hSw); go_simp; try (with_reducible rfl))
  try simp only [List.getElem_toArray, List.getElem_cons_zero, List.getElem_cons_succ, Act.put, List.setIfInBounds_toArray, List.set_cons_zero, List.set_cons_succ]
  refine wpAnyH_take (i := 11) (oi := _) (v := ?vr2n11_19) rfl (by kernel_rfl) (by kernel_rfl) (by kernel_rfl) (fun _ _ _ h => h) (Or.inl ⟨by kernel_rfl, ?hr2n11_19⟩) hHeld ?_
  case hr2n11_19 => (intro w hSw; (try dsimp only at hSw); go_simp; try (with_reducible rfl))
  try simp only [List.getElem_toArray, List.getElem_cons_zero, List.getElem_cons_succ, Act.put, List.setIfInBounds_toArray, List.set_cons_zero, List.set_cons_succ]
  refine wpAnyH_take (i := 12) (oi := _) (v := ?vr2n12_20) rfl (by kernel_rfl) (by kernel_rfl) (by kernel_rfl) (fun _ _ _ h => h) (Or.inl ⟨by kernel_rfl, ?hr2n12_20⟩) hHeld ?_
  case hr2n12_20 => (intro w hSw; (try dsimp only at hSw); go_simp; try (with_reducible rfl))
  try simp only [List.getElem_toArray, List.getElem_cons_zero, List.getElem_cons_succ, Act.put, List.setIfInBounds_toArray, List.set_cons_zero, List.set_cons_succ]
  refine wpAnyH_take (i := 16) (oi := _) (v := ?vr2n16_21) rfl (by kernel_rfl) (by kernel_rfl) (by kernel_rfl) (fun _ _ _ h => h) (Or.inl ⟨by kernel_rfl, ?hr2n16_21⟩) hHeld ?_
  case hr2n16_21 => (intro w hSw; (try dsimp only at hSw); go_simp; try (with_reducible rfl))
  try simp only [List.getElem_toArray, List.getElem_cons_zero, List.getElem_cons_succ, Act.put, List.setIfInBounds_toArray, List.set_cons_zero, List.set_cons_succ]
  refine wpAnyH_ready (rs := [13]) (by kernel_rfl) (by simp) ?_
  refine AllReadyH.cons (o := _) rfl (fun K hK => ?_) AllReadyH.nil
  go_simp
  (have HY2 := Lib.hid (byt_litD w9 5 [0, 6, hi, lo] #[.int .u8 0, .int .u8 6, .int .u8 (x : Int), .int .u8 (y : Int)] HC1.out))
  refine hK.out _ _ ?_ (fun hHeld1 => ?_)
  · (first | exact IpS.q HL.out (IpS.allocD (And.left hHeld) _))
  clear hHeld hK K
  try simp only [List.getElem_toArray, List.getElem_cons_zero, List.getElem_cons_succ, Act.put, List.setIfInBounds_toArray, List.set_cons_zero, List.set_cons_succ]
  refine wpAnyH_ready (rs := [14]) (by kernel_rfl) (by simp) ?_
  refine AllReadyH.cons (o := _) rfl (fun K hK => ?_) AllReadyH.nil
  (have hcv3 := byt_conv HY2.out (n := 4) rfl 4)
  go_simp
  (clear hcv3)
  refine hK.out _ _ ?_ (fun hHeld2 => ?_)
  · (first | exact hHeld1)
  clear hHeld1 hK K
  try simp only [List.getElem_toArray, List.getElem_cons_zero, List.getElem_cons_succ, Act.put, List.setIfInBounds_toArray, List.set_cons_zero, List.set_cons_succ]
  refine wpAnyH_take (i := 15) (oi := _) (v := ?vr2n15_22) rfl (by kernel_rfl) (by kernel_rfl) (by kernel_rfl) (fun _ _ _ h => h) (Or.inl ⟨by kernel_rfl, ?hr2n15_22⟩) hHeld2 ?_
  case hr2n15_22 => (intro w hSw; (try dsimp only at hSw); go_simp; try (with_reducible rfl))
  try simp only [List.getElem_toArray, List.getElem_cons_zero, List.getElem_cons_succ, Act.put, List.setIfInBounds_toArray, List.set_cons_zero, List.set_cons_succ]
  refine wpAnyH_take (i := 17) (oi := _) (v := ?vr2n17_23) rfl (by kernel_rfl) (by kernel_rfl) (by kernel_rfl) (fun _ _ _ h => h) (Or.inl ⟨by kernel_rfl, ?hr2n17_23⟩) hHeld2 ?_
  case hr2n17_23 => (intro w hSw; (try dsimp only at hSw); go_simp; try (with_reducible rfl))
  try simp only [List.getElem_toArray, List.getElem_cons_zero, List.getElem_cons_succ, Act.put, List.setIfInBounds_toArray, List.set_cons_zero, List.set_cons_succ]
  refine wpAnyH_ready (rs := [18]) (by kernel_rfl) (by simp) ?_
  refine AllReadyH.cons (o := _) rfl (fun K hK => ?_) AllReadyH.nil
  go_simp
  (go_at_call 10; refine (HSum.out _).mono ?_; rintro e w3 ⟨rfl, hb0⟩; have HB3 := Lib.hid hb0; clear hb0)
  refine hK.out _ _ ?_ (fun hHeld3 => ?_)
  · (first | exact ((And.left hHeld2).step HB3.out).q HL.out)
  clear hHeld2 hK K
  try simp only [List.getElem_toArray, List.getElem_cons_zero, List.getElem_cons_succ, Act.put, List.setIfInBounds_toArray, List.set_cons_zero, List.set_cons_succ]
  refine wpAnyH_take (i := 19) (oi := _) (v := ?vr2n19_24) rfl (by kernel_rfl) (by kernel_rfl) (by kernel_rfl) (fun _ _ _ h => h) (Or.inl ⟨by kernel_rfl, ?hr2n19_24⟩) hHeld3 ?_
  case hr2n19_24 => (intro w hSw; (try dsimp only at hSw); go_simp; try (with_reducible rfl))
  try simp only [List.getElem_toArray, List.getElem_cons_zero, List.getElem_cons_succ, Act.put, List.setIfInBounds_toArray, List.set_cons_zero, List.set_cons_succ]
  refine wpAnyH_done (by kernel_rfl) ?_ _
  refine NoPanic.normal ?_
  have Q3 : RowKit.Hid (IpS w f t w.heap.size (w.heap.size + 1) w3) := And.left hHeld3
  clear hHeld3 Q2
  go_upto_region 7 with fail
  refine wp_region_noPanic ?_
  refine wp_region_held_drew (S := (fun w' => IpS w f t w.heap.size (w.heap.size + 1) w')) (by kernel_rfl) (by first | exact Q3.out.drew) (fun hHeld => ?_)
  refine wpAnyH_take (i := 0) (oi := _) (v := ?vr3n0_25) rfl (by kernel_rfl) (by kernel_rfl) (by kernel_rfl) (fun _ _ _ h => h) (Or.inl ⟨by kernel_rfl, ?hr3n0_25⟩) hHeld ?_
  case hr3n0_25 => (intro w hSw; (try dsimp only at hSw); go_simp; try (with_reducible rfl))
  try simp only [List.getElem_toArray, List.getElem_cons_zero, List.getElem_cons_succ, Act.put, List.setIfInBounds_toArray, List.set_cons_zero, List.set_cons_succ]
  refine wpAnyH_take (i := 1) (oi := _) (v := ?vr3n1_26) rfl (by kernel_rfl) (by kernel_rfl) (by kernel_rfl) (fun _ _ _ h => h) (Or.inl ⟨by kernel_rfl, ?hr3n1_26⟩) hHeld ?_
  case hr3n1_26 => (intro w hSw; (try dsimp only at hSw); go_simp; try (with_reducible rfl))
  try simp only [List.getElem_toArray, List.getElem_cons_zero, List.getElem_cons_succ, Act.put, List.setIfInBounds_toArray, List.set_cons_zero, List.set_cons_succ]
  refine wpAnyH_take (i := 2) (oi := _) (v := ?vr3n2_27) rfl (by kernel_rfl) (by kernel_rfl) (by kernel_rfl) (fun _ _ _ h => h) (Or.inl ⟨by kernel_rfl, ?hr3n2_27⟩) hHeld ?_
  case hr3n2_27 => (intro w hSw; (try dsimp only at hSw); go_simp; try (with_reducible rfl))
  try simp only [List.getElem_toArray, List.getElem_cons_zero, List.getElem_cons_succ, Act.put, List.setIfInBounds_toArray, List.set_cons_zero, List.set_cons_succ]
  refine wpAnyH_take (i := 3) (oi := _) (v := ?vr3n3_28) rfl (by kernel_rfl) (by kernel_rfl) (by kernel_rfl) (fun _ _ _ h => h) (Or.inl ⟨by kernel_rfl, ?hr3n3_28⟩) hHeld ?_
  case hr3n3_28 => (intro w hSw; (try dsimp only at hSw); go_simp; try (with_reducible rfl))
  try simp only [List.getElem_toArray, List.getElem_cons_zero, List.getElem_cons_succ, Act.put, List.setIfInBounds_toArray, List.set_cons_zero, List.set_cons_succ]
  refine wpAnyH_take (i := 4) (oi := _) (v := ?vr3n4_29) rfl (by kernel_rfl) (by kernel_rfl) (by kernel_rfl) (fun _ _ _ h => h) (Or.inl ⟨by kernel_rfl, ?hr3n4_29⟩) hHeld ?_
  case hr3n4_29 => (intro w hSw; (try dsimp only at hSw); go_simp; try (with_reducible rfl))
  try simp only [List.getElem_toArray, List.getElem_cons_zero, List.getElem_cons_succ, Act.put, List.setIfInBounds_toArray, List.set_cons_zero, List.set_cons_succ]
  refine wpAnyH_take (i := 5) (oi := _) (v := ?vr3n5_30) rfl (by kernel_rfl) (by kernel_rfl) (by kernel_rfl) (fun _ _ _ h => h) (Or.inl ⟨by kernel_rfl, ?hr3n5_30⟩) hHeld ?_
  case hr3n5_30 => (intro w hSw; (try dsimp only at hSw); go_simp; try (with_reducible rfl))
  try simp only [List.getElem_toArray, List.getElem_cons_zero, List.getElem_cons_succ, Act.put, List.setIfInBounds_toArray, List.set_cons_zero, List.set_cons_succ]
  refine wpAnyH_take (i := 6) (oi := _) (v := ?vr3n6_31) rfl (by kernel_rfl) (by kernel_rfl) (by kernel_rfl) (fun _ _ _ h => h) (Or.inl ⟨by kernel_rfl, ?hr3n6_31⟩) hHeld ?_
  case hr3n6_31 => (intro w hSw; (try dsimp only at hSw); go_simp; try (with_reducible rfl))
  try simp only [List.getElem_toArray, List.getElem_cons_zero, List.getElem_cons_succ, Act.put, List.setIfInBounds_toArray, List.set_cons_zero, List.set_cons_succ]
  refine wpAnyH_take (i := 7) (oi := _) (v := ?vr3n7_32) rfl (by kernel_rfl) (by kernel_rfl) (by kernel_rfl) (fun _ _ _ h => h) (Or.inl ⟨by kernel_rfl, ?hr3n7_32⟩) hHeld ?_
  case hr3n7_32 => (intro w hSw; (try dsimp only at hSw); go_simp; try (with_reducible rfl))
  try simp only [List.getElem_toArray, List.getElem_cons_zero, List.getElem_cons_succ, Act.put, List.setIfInBounds_toArray, List.set_cons_zero, List.set_cons_succ]
  refine wpAnyH_take (i := 11) (oi := _) (v := ?vr3n11_33) rfl (by kernel_rfl) (by kernel_rfl) (by kernel_rfl) (fun _ _ _ h => h) (Or.inl ⟨by kernel_rfl, ?hr3n11_33⟩) hHeld ?_
  case hr3n11_33 => (intro w hSw; (try dsimp only at hSw); go_simp; try (with_reducible rfl))
  try simp only [List.getElem_toArray, List.getElem_cons_zero, List.getElem_cons_succ, Act.put, List.setIfInBounds_toArray, List.set_cons_zero, List.set_cons_succ]
  refine wpAnyH_take (i := 12) (oi := _) (v := ?vr3n12_34) rfl (by kernel_rfl) (by kernel_rfl) (by kernel_rfl) (fun _ _ _ h => h) (Or.inl ⟨by kernel_rfl, ?hr3n12_34⟩) hHeld ?_
  case hr3n12_34 => (intro w hSw; (try dsimp only at hSw); go_simp; try (with_reducible rfl))
  try simp only [List.getElem_toArray, List.getElem_cons_zero, List.getElem_cons_succ, Act.put, List.setIfInBounds_toArray, List.set_cons_zero, List.set_cons_succ]
  refine wpAnyH_ready (rs := [8]) (by kernel_rfl) (by simp) ?_
  refine AllReadyH.cons (o := _) rfl (fun K hK => ?_) AllReadyH.nil
  go_simp
  (have HY11 := Lib.hid (byt_litD w3 5 [hi2, lo2] #[.int .u8 (x2 : Int), .int .u8 (y2 : Int)] HC2.out))
  refine hK.out _ _ ?_ (fun hHeld1 => ?_)
  · (first | exact IpS.allocD hHeld _)
  clear hHeld hK K
  try simp only [List.getElem_toArray, List.getElem_cons_zero, List.getElem_cons_succ, Act.put, List.setIfInBounds_toArray, List.set_cons_zero, List.set_cons_succ]
  refine wpAnyH_ready (rs := [9]) (by kernel_rfl) (by simp) ?_
  refine AllReadyH.cons (o := _) rfl (fun K hK => ?_) AllReadyH.nil
  (have hcv12 := byt_conv HY11.out (n := 2) rfl 2)
  go_simp
  (clear hcv12)
  refine hK.out _ _ ?_ (fun hHeld2 => ?_)
  · (first | exact hHeld1)
  clear hHeld1 hK K
  try simp only [List.getElem_toArray, List.getElem_cons_zero, List.getElem_cons_succ, Act.put, List.setIfInBounds_toArray, List.set_cons_zero, List.set_cons_succ]
  refine wpAnyH_take (i := 10) (oi := _) (v := ?vr3n10_35) rfl (by kernel_rfl) (by kernel_rfl) (by kernel_rfl) (fun _ _ _ h => h) (Or.inl ⟨by kernel_rfl, ?hr3n10_35⟩) hHeld2 ?_
  case hr3n10_35 => (intro w hSw; (try dsimp only at hSw); go_simp; try (with_reducible rfl))
  try simp only [List.getElem_toArray, List.getElem_cons_zero, List.getElem_cons_succ, Act.put, List.setIfInBounds_toArray, List.set_cons_zero, List.set_cons_succ]
  refine wpAnyH_take (i := 13) (oi := _) (v := ?vr3n13_36) rfl (by kernel_rfl) (by kernel_rfl) (by kernel_rfl) (fun _ _ _ h => h) (Or.inl ⟨by kernel_rfl, ?hr3n13_36⟩) hHeld2 ?_
  case hr3n13_36 => (intro w hSw; (try dsimp only at hSw); go_simp; try (with_reducible rfl))
  try simp only [List.getElem_toArray, List.getElem_cons_zero, List.getElem_cons_succ, Act.put, List.setIfInBounds_toArray, List.set_cons_zero, List.set_cons_succ]
  refine wpAnyH_take (i := 14) (oi := _) (v := ?vr3n14_37) rfl (by kernel_rfl) (by kernel_rfl) (by kernel_rfl) (fun _ _ _ h => h) (Or.inl ⟨by kernel_rfl, ?hr3n14_37⟩) hHeld2 ?_
  case hr3n14_37 => (intro w hSw; (try dsimp only at hSw); go_simp; try (with_reducible rfl))
  try simp only [List.getElem_toArray, List.getElem_cons_zero, List.getElem_cons_succ, Act.put, List.setIfInBounds_toArray, List.set_cons_zero, List.set_cons_succ]
  refine wpAnyH_done (by kernel_rfl) ?_ _
  refine NoPanic.normal ?_
  have Q4 : RowKit.Hid (IpS w f t w.heap.size (w.heap.size + 1) (w3.alloc (.cells #[.int .u8 (x2 : Int), .int .u8 (y2 : Int)] 5)).drew) := hHeld2
  clear hHeld2 Q3
  generalize World.drew _ = w4 at Q4 ⊢
  have df := Q4.out.f.ld_ip HL.out.f
  have dt := Q4.out.t.ld_ip HL.out.t
  go_wp2_with fail
  refine (HR1.out _).mono ?_
  rintro e v5 ⟨rfl, hb⟩
  have QA5 := Lib.hid (Q4.out.step hb)
  have hlf := QA5.out.f.lt
  have hlt := QA5.out.t.lt
  have HN5 := Lib.hid (Blk.new v5 29 sg0 0 0 (Or.inl (Nat.le_refl _)))
  have HX5 := Lib.hid (HN5.out.put_sg (fr := a0) (tp := a1) (sq := a2) (ak := a3) (fl := a4) (wi := a5) (ms := a6) (d := a7))
  have Q5 := Lib.hid ((QA5.out.alloc (.cells sg0 29)).setC (Nat.ne_of_lt hlf) (Nat.ne_of_lt hlt) QA5.out.bel.size 0 (sgC a0 a1 a2 a3 a4 a5 a6 a7).toList)
  rw [sg0_lit] at HX5 Q5
  have tok5 : True := trivial
  clear hb df dt hlf hlt
  go_wp2_with (have _t := tok5; refine wp_st_sg rfl _ _ rfl v5.heap.size a0 a1 a2 a3 a4 a5 a6 a7 HN5 rfl rfl ?_; clear tok5 HN5; generalize World.setCells _ _ _ _ = W5 at HX5 Q5 ⊢; have df := Q5.out.f.ld_ip HL.out.f; have dt := Q5.out.t.ld_ip HL.out.t)
  refine (HR2.out _).mono ?_
  rintro e v6 ⟨rfl, hb⟩
  have QB6 := Lib.hid (Below.step Q5.out.bel hb)
  have HX6 := Lib.hid (HX5.out.step hb)
  have hxl := HX6.out.lt
  have HN6 := Lib.hid (Blk.new v6 29 sg0 0 0 (Or.inl (Nat.le_refl _)))
  have HY7 := Lib.hid (HN6.out.put_sg (fr := a0) (tp := a1) (sq := a2) (ak := a3) (fl := a4) (wi := a5) (ms := a6) (d := a7))
  have HX7 := Lib.hid ((HX6.out.alloc (.cells sg0 29)).setCells_other v6.heap.size 0 (sgC a0 a1 a2 a3 a4 a5 a6 a7).toList (by omega))
  have QB7 := Lib.hid (Below.setCells (QB6.out.alloc QB6.out.size (.cells sg0 29)) QB6.out.size 0 (sgC a0 a1 a2 a3 a4 a5 a6 a7).toList)
  rw [sg0_lit] at HX7 HY7 QB7
  have tok7 : True := trivial
  clear hb df dt
  go_wp2_with (have _t := tok7; refine wp_st_sg rfl _ _ rfl v6.heap.size a0 a1 a2 a3 a4 a5 a6 a7 HN6 rfl rfl ?_; clear tok7 HN6; generalize World.setCells _ _ _ _ = W7 at HX7 HY7 QB7 ⊢; have dx := HX7.out.ld_sg; have dy := HY7.out.ld_sg)
  go_ret
  exact ⟨rfl, QB7.out⟩
end Go.Proofs.Ytccbgiapabkjbaa
