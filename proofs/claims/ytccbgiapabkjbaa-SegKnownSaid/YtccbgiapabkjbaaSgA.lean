/- The chapter's segment: what the statements of this layer ask first, 'awake', is true. -/
import Derived.Test.YtccbgiapabkjbaaSgB
import Derived.Test.YtccbgiapabkjbaaSgD
namespace Go.Proofs.Ytccbgiapabkjbaa
set_option linter.unusedVariables false
set_option linter.unusedSimpArgs false
set_option maxRecDepth 100000
open Go.RowKit
attribute [local go_sem ↓] Go.wp_at_zero Go.wp_at_succ
attribute [local go_sem ↓] ld_sg ld_ip

theorem run_sg_equal (w : World) (fr tp sq ak fl wi ms : Int) (d : List UInt8) :
    (Op.equalIn 10000 29 (.agg (sgC fr tp sq ak fl wi ms d)) (.agg (sgC fr tp sq ak fl wi ms d))).run Try.prog w = .ok true w := by
  unfold sgC
  go_simp
theorem run_sg_self (w : World) (fr tp sq ak fl wi ms : Int) (d : List UInt8) :
    (binOp .eql 29 (.agg (sgC fr tp sq ak fl wi ms d)) (.agg (sgC fr tp sq ak fl wi ms d))).run Try.prog w = .ok (.bool true) w := by
  rw [run_eql_struct, run_sg_equal]
  rfl
theorem run_sg_selfn (w : World) (fr tp sq ak fl wi ms : Int) (d : List UInt8) :
    (binOp .neq 29 (.agg (sgC fr tp sq ak fl wi ms d)) (.agg (sgC fr tp sq ak fl wi ms d))).run Try.prog w = .ok (.bool false) w := by
  rw [run_neq_struct, run_sg_equal]
  rfl

/-- the store of a segment into a block that holds noughts -/
theorem wp_st_sg {ops : Array Oper} {rest : List Oper} {o : Oper} {a : Act} {w : World} {Q : Exit → Act → World → Prop} (hgd : o.guard = none) (x y : Operand) (ho : o.op = .store 29 x y)
    (b : Nat) (fr tp sq ak fl wi ms : Int) (d : List UInt8) (hK : Hid (Blk w b 29 sg0)) (hx : a.eval x = .pointer (some ⟨b, 0, none⟩)) (hy : a.eval y = .agg (sgC fr tp sq ak fl wi ms d))
    (h : wpList Try.prog ops Q rest (a.put o.dst undef) (w.setCells b 0 (sgC fr tp sq ak fl wi ms d).toList)) : wpList Try.prog ops Q (o :: rest) a w :=
  wpList_store_blk hgd 29 x y ho b (sgC fr tp sq ak fl wi ms d) hx hy sg0 29 hK.out rfl size_sg (sgC_one _ _ _ _ _ _ _ _) h
theorem Blk.put_sg {w : World} {b : Nat} {fr tp sq ak fl wi ms : Int} {d : List UInt8} (h : Blk w b 29 sg0) : Blk (w.setCells b 0 (sgC fr tp sq ak fl wi ms d).toList) b 29 (sgC fr tp sq ak fl wi ms d) :=
  h.setAll rfl

def ex1 : List UInt8 := [10, 0, 0, 1]
def ex2 : List UInt8 := [10, 0, 0, 2]
def exD : List UInt8 := [104, 105]
def sgExS : List UInt8 := [0, 1, 0, 2, 0, 0, 0, 3, 0, 0, 0, 4, 80, 16, 0, 5, 51, 88, 0, 0, 104, 105]
abbrev sgExC : Array Value := #[.int .i64 1, .int .i64 2, .int .u32 3, .int .u32 4, .int .i64 16, .int .i64 5, .int .i64 0, .string ⟨#[104, 105]⟩]
abbrev ex1C : Array Value := #[.int .u8 10, .int .u8 0, .int .u8 0, .int .u8 1]
abbrev ex2C : Array Value := #[.int .u8 10, .int .u8 0, .int .u8 0, .int .u8 2]
theorem sgEx_eq : sgExC = sgC 1 2 3 4 16 5 0 exD := rfl
theorem ex_L : IpL ex1 ex2 := ⟨rfl, rfl⟩

theorem sgex_any (w : World) : Calls Try.prog 20 #[] w fun e w' => e = .returned (.agg sgExC) ∧ Below w.heap.size w w' := by
  have HN := Lib.hid (Blk.new w 29 sg0 0 0 (Or.inl (Nat.le_refl _)))
  go_enter Try.func20, Try.ntmps20
  go_wp2_with (refine wpList_store_blk rfl 29 _ _ rfl w.heap.size sgExC rfl rfl sg0 29 HN.out rfl size_sg rfl ?_)
  exact bodyPost_ret (results_cell1 Try.results20 _ _ w.heap.size _ _ _ rfl (HN.out.setAll rfl) Try.underlying29 rfl size_sg) rfl ⟨rfl, Below.setCells ((Below.refl _ _).alloc (Nat.le_refl _) _) (Nat.le_refl _) _ _⟩
abbrev ip0one : Array Value := #[.int .u8 0, .int .u8 0, .int .u8 0, .int .u8 0]
theorem ex_one (w : World) : Calls Try.prog 18 #[] w fun e w' => e = .returned (.agg ex1C) ∧ Below w.heap.size w w' := by
  have HN := Lib.hid (Blk.new w 23 ip0one 0 0 (Or.inl (Nat.le_refl _)))
  go_enter Try.func18, Try.ntmps18
  go_wp2_with (refine wpList_store_blk rfl 23 _ _ rfl w.heap.size ex1C rfl rfl ip0one 23 HN.out rfl size_ip rfl ?_)
  exact bodyPost_ret (results_cell1 Try.results18 _ _ w.heap.size _ _ _ rfl (HN.out.setAll rfl) Try.underlying23 rfl size_ip) rfl ⟨rfl, Below.setCells ((Below.refl _ _).alloc (Nat.le_refl _) _) (Nat.le_refl _) _ _⟩
abbrev ip0two : Array Value := #[.int .u8 0, .int .u8 0, .int .u8 0, .int .u8 0]
theorem ex_two (w : World) : Calls Try.prog 19 #[] w fun e w' => e = .returned (.agg ex2C) ∧ Below w.heap.size w w' := by
  have HN := Lib.hid (Blk.new w 23 ip0two 0 0 (Or.inl (Nat.le_refl _)))
  go_enter Try.func19, Try.ntmps19
  go_wp2_with (refine wpList_store_blk rfl 23 _ _ rfl w.heap.size ex2C rfl rfl ip0two 23 HN.out rfl size_ip rfl ?_)
  exact bodyPost_ret (results_cell1 Try.results19 _ _ w.heap.size _ _ _ rfl (HN.out.setAll rfl) Try.underlying23 rfl size_ip) rfl ⟨rfl, Below.setCells ((Below.refl _ _).alloc (Nat.le_refl _) _) (Nat.le_refl _) _ _⟩

theorem sgex_bytes (w : World) : Calls Try.prog 13 #[.agg sgExC, .agg ex1C, .agg ex2C] w fun e w' => e = .returned (.tuple #[.string ⟨sgExS.toArray⟩, .int .i64 0]) ∧ Below w.heap.size w w' := by
  have h := sgBytes_any ex1 ex2 ex_L 1 2 3 4 16 5 0 exD (by decide) (by decide) (by decide) (by decide) w
  have e : sgBytes ex1 ex2 1 2 3 4 16 5 0 exD = (sgExS, 0) := by decide +kernel
  rw [e] at h
  exact h
theorem sgex_rd : srE ex1 ex2 sgExS = 0 := by decide +kernel
theorem sgex_read (w : World) : Calls Try.prog 11 #[.string ⟨sgExS.toArray⟩, .agg ex1C, .agg ex2C] w fun e w' => e = .returned (.tuple #[.agg sgExC, .int .i64 0]) ∧ Below w.heap.size w w' := by
  have h := sgRead_any sgExS ex1 ex2 ex_L w (by decide)
  have e : srV ex1 ex2 sgExS = sgC 1 2 3 4 16 5 0 exD := by
    rw [srV, if_pos sgex_rd]
    have e1 : num sgExS 0 2 = 1 := by decide +kernel
    have e2 : num sgExS 2 2 = 2 := by decide +kernel
    have e3 : num sgExS 4 4 = 3 := by decide +kernel
    have e4 : num sgExS 8 4 = 4 := by decide +kernel
    have e5 : sgFl sgExS = 16 := by decide +kernel
    have e6 : num sgExS 14 2 = 5 := by decide +kernel
    have e7 : sgMs sgExS = 0 := by decide +kernel
    have e8 : sgExS.drop (shz sgExS) = exD := by decide +kernel
    rw [e1, e2, e3, e4, e5, e6, e7, e8]
    rfl
  rw [sgex_rd, e] at h
  exact h
theorem sgex_load {w : World} {b : Nat} {e : TypeId} (h : Blk w b e sgExC) : (Ld 29 (.pointer (some ⟨b, 0, none⟩))).run Try.prog w = .ok (.agg sgExC) w := by
  rw [sgEx_eq] at h ⊢
  exact h.ld_sg

set_option maxHeartbeats 1000000 in
theorem sgawake_any (w : World) : Calls Try.prog 9 #[] w fun e w' => e = .returned (.bool true) ∧ Below w.heap.size w w' := by
  have hself := fun w => run_sg_self w 1 2 3 4 16 5 0 exD
  rw [← sgEx_eq] at hself
  go_enter Try.func9, Try.ntmps9
  go_wp2_with fail
  refine (sgex_any _).mono ?_
  rintro e w1 ⟨rfl, hb1⟩
  go_wp2_with fail
  refine (ex_one _).mono ?_
  rintro e w2 ⟨rfl, hb2⟩
  go_wp2_with fail
  refine (ex_two _).mono ?_
  rintro e w3 ⟨rfl, hb3⟩
  go_wp2_with fail
  refine (sgex_bytes _).mono ?_
  rintro e w4 ⟨rfl, hb4⟩
  go_wp2_with fail
  refine (ex_one _).mono ?_
  rintro e w5 ⟨rfl, hb5⟩
  go_wp2_with fail
  refine (ex_two _).mono ?_
  rintro e w6 ⟨rfl, hb6⟩
  go_wp2_with fail
  refine (sgex_read _).mono ?_
  rintro e w7 ⟨rfl, hb7⟩
  have hN := Blk.new w7 29 sg0 0 0 (Or.inl (Nat.le_refl _))
  have hK := hN.setAll (cs := sgExC) rfl
  have hb := Below.step (Below.step (Below.step (Below.step (Below.step (Below.step hb1 hb2) hb3) hb4) hb5) hb6) hb7
  have hB := Below.setCells (hb.alloc hb.size (.cells sg0 29)) hb.size 0 sgExC.toList
  have HN := Lib.hid hN
  have HK := Lib.hid hK
  have HB := Lib.hid hB
  have hle := hb.size
  have tokA : True := trivial
  rw [sg0_lit] at HK HB
  clear hb1 hb2 hb3 hb4 hb5 hb6 hb7 hb hN hK hB
  go_wp2_with (have _t := tokA; refine wpList_store_blk rfl 29 _ _ rfl w7.heap.size sgExC rfl rfl sg0 29 HN.out rfl size_sg rfl ?_; clear tokA; generalize World.setCells _ _ _ _ = W at HK HB ⊢)
  have hlt := HK.out.lt
  refine wp_region_noPanic ?_
  refine wp_region_held_drew (S := (fun w' => (Ld 29 (.pointer (some ⟨w7.heap.size, 0, none⟩))).run Try.prog w' = .ok (.agg sgExC) w')) (by kernel_rfl) (by first | exact sgex_load (Blk.drew HK.out)) (fun hHeld => ?_)
  refine wpAnyH_take (i := 0) (oi := _) (v := ?vr1n0_1) rfl (by kernel_rfl) (by kernel_rfl) (by kernel_rfl) (fun _ _ _ h => h) (Or.inl ⟨by kernel_rfl, ?hr1n0_1⟩) hHeld ?_
  case hr1n0_1 => (intro w hSw; (try dsimp only at hSw); go_simp; try (with_reducible rfl))
  try simp only [List.getElem_toArray, List.getElem_cons_zero, List.getElem_cons_succ, Act.put, List.setIfInBounds_toArray, List.set_cons_zero, List.set_cons_succ]
  refine wpAnyH_take (i := 1) (oi := _) (v := ?vr1n1_2) rfl (by kernel_rfl) (by kernel_rfl) (by kernel_rfl) (fun _ _ _ h => h) (Or.inl ⟨by kernel_rfl, ?hr1n1_2⟩) hHeld ?_
  case hr1n1_2 => (intro w hSw; (try dsimp only at hSw); go_simp; try (with_reducible rfl))
  try simp only [List.getElem_toArray, List.getElem_cons_zero, List.getElem_cons_succ, Act.put, List.setIfInBounds_toArray, List.set_cons_zero, List.set_cons_succ]
  refine wpAnyH_take (i := 2) (oi := _) (v := ?vr1n2_3) rfl (by kernel_rfl) (by kernel_rfl) (by kernel_rfl) (fun _ _ _ h => h) (Or.inl ⟨by kernel_rfl, ?hr1n2_3⟩) hHeld ?_
  case hr1n2_3 => (intro w hSw; (try dsimp only at hSw); go_simp; try (with_reducible rfl))
  try simp only [List.getElem_toArray, List.getElem_cons_zero, List.getElem_cons_succ, Act.put, List.setIfInBounds_toArray, List.set_cons_zero, List.set_cons_succ]
  refine wpAnyH_take (i := 3) (oi := _) (v := ?vr1n3_4) rfl (by kernel_rfl) (by kernel_rfl) (by kernel_rfl) (fun _ _ _ h => h) (Or.inl ⟨by kernel_rfl, ?hr1n3_4⟩) hHeld ?_
  case hr1n3_4 => (intro w hSw; (try dsimp only at hSw); go_simp; try (with_reducible rfl))
  try simp only [List.getElem_toArray, List.getElem_cons_zero, List.getElem_cons_succ, Act.put, List.setIfInBounds_toArray, List.set_cons_zero, List.set_cons_succ]
  refine wpAnyH_take (i := 4) (oi := _) (v := ?vr1n4_5) rfl (by kernel_rfl) (by kernel_rfl) (by kernel_rfl) (fun _ _ _ h => h) (Or.inl ⟨by kernel_rfl, ?hr1n4_5⟩) hHeld ?_
  case hr1n4_5 => (intro w hSw; (try dsimp only at hSw); go_simp; try (with_reducible rfl))
  try simp only [List.getElem_toArray, List.getElem_cons_zero, List.getElem_cons_succ, Act.put, List.setIfInBounds_toArray, List.set_cons_zero, List.set_cons_succ]
  refine wpAnyH_take (i := 5) (oi := _) (v := ?vr1n5_6) rfl (by kernel_rfl) (by kernel_rfl) (by kernel_rfl) (fun _ _ _ h => h) (Or.inl ⟨by kernel_rfl, ?hr1n5_6⟩) hHeld ?_
  case hr1n5_6 => (intro w hSw; (try dsimp only at hSw); go_simp; try (with_reducible rfl))
  try simp only [List.getElem_toArray, List.getElem_cons_zero, List.getElem_cons_succ, Act.put, List.setIfInBounds_toArray, List.set_cons_zero, List.set_cons_succ]
  refine wpAnyH_take (i := 6) (oi := _) (v := ?vr1n6_7) rfl (by kernel_rfl) (by kernel_rfl) (by kernel_rfl) (fun _ _ _ h => h) (Or.inl ⟨by kernel_rfl, ?hr1n6_7⟩) hHeld ?_
  case hr1n6_7 => (intro w hSw; (try dsimp only at hSw); go_simp; try (with_reducible rfl))
  try simp only [List.getElem_toArray, List.getElem_cons_zero, List.getElem_cons_succ, Act.put, List.setIfInBounds_toArray, List.set_cons_zero, List.set_cons_succ]
  refine wpAnyH_take (i := 7) (oi := _) (v := ?vr1n7_8) rfl (by kernel_rfl) (by kernel_rfl) (by kernel_rfl) (fun _ _ _ h => h) (Or.inl ⟨by kernel_rfl, ?hr1n7_8⟩) hHeld ?_
  case hr1n7_8 => (intro w hSw; (try dsimp only at hSw); go_simp; try (with_reducible rfl))
  try simp only [List.getElem_toArray, List.getElem_cons_zero, List.getElem_cons_succ, Act.put, List.setIfInBounds_toArray, List.set_cons_zero, List.set_cons_succ]
  refine wpAnyH_ready (rs := [8]) (by kernel_rfl) (by simp) ?_
  refine AllReadyH.cons (o := _) rfl (fun K hK => ?_) AllReadyH.nil
  go_simp
  (go_at_call 20; refine (sgex_any _).mono ?_; rintro e w8 ⟨rfl, hb0⟩; have hb8 := Lib.hid hb0; clear hb0; go_wp2_with fail)
  refine hK.out _ _ ?_ (fun hHeld1 => ?_)
  · (first | exact sgex_load ((Blk.drew HK.out).below hb8.out hlt))
  clear hHeld hK K
  try simp only [List.getElem_toArray, List.getElem_cons_zero, List.getElem_cons_succ, Act.put, List.setIfInBounds_toArray, List.set_cons_zero, List.set_cons_succ]
  refine wpAnyH_take (i := 9) (oi := _) (v := ?vr1n9_9) rfl (by kernel_rfl) (by kernel_rfl) (by kernel_rfl) (fun _ _ _ h => h) (Or.inl ⟨by kernel_rfl, ?hr1n9_9⟩) hHeld1 ?_
  case hr1n9_9 => (intro w hSw; (try dsimp only at hSw); go_simp; try (with_reducible rfl))
  try simp only [List.getElem_toArray, List.getElem_cons_zero, List.getElem_cons_succ, Act.put, List.setIfInBounds_toArray, List.set_cons_zero, List.set_cons_succ]
  refine wpAnyH_take (i := 10) (oi := _) (v := ?vr1n10_10) rfl (by kernel_rfl) (by kernel_rfl) (by kernel_rfl) (fun _ _ _ h => h) (Or.inl ⟨by kernel_rfl, ?hr1n10_10⟩) hHeld1 ?_
  case hr1n10_10 => (intro w hSw; (try dsimp only at hSw); go_simp; try (with_reducible rfl))
  try simp only [List.getElem_toArray, List.getElem_cons_zero, List.getElem_cons_succ, Act.put, List.setIfInBounds_toArray, List.set_cons_zero, List.set_cons_succ]
  refine wpAnyH_take (i := 11) (oi := _) (v := ?vr1n11_11) rfl (by kernel_rfl) (by kernel_rfl) (by kernel_rfl) (fun _ _ _ h => h) (Or.inl ⟨by kernel_rfl, ?hr1n11_11⟩) hHeld1 ?_
  case hr1n11_11 => (intro w hSw; (try dsimp only at hSw); go_simp; try (with_reducible rfl))
  try simp only [List.getElem_toArray, List.getElem_cons_zero, List.getElem_cons_succ, Act.put, List.setIfInBounds_toArray, List.set_cons_zero, List.set_cons_succ]
  refine wpAnyH_take (i := 12) (oi := _) (v := ?vr1n12_12) rfl (by kernel_rfl) (by kernel_rfl) (by kernel_rfl) (fun _ _ _ h => h) (Or.inl ⟨by kernel_rfl, ?hr1n12_12⟩) hHeld1 ?_
  case hr1n12_12 => (intro w hSw; (try dsimp only at hSw); go_simp; try (with_reducible rfl))
  try simp only [List.getElem_toArray, List.getElem_cons_zero, List.getElem_cons_succ, Act.put, List.setIfInBounds_toArray, List.set_cons_zero, List.set_cons_succ]
  refine wpAnyH_take (i := 13) (oi := _) (v := ?vr1n13_13) rfl (by kernel_rfl) (by kernel_rfl) (by kernel_rfl) (fun _ _ _ h => h) (Or.inl ⟨by kernel_rfl, ?hr1n13_13⟩) hHeld1 ?_
  case hr1n13_13 => (intro w hSw; (try dsimp only at hSw); go_simp; try (with_reducible rfl))
  try simp only [List.getElem_toArray, List.getElem_cons_zero, List.getElem_cons_succ, Act.put, List.setIfInBounds_toArray, List.set_cons_zero, List.set_cons_succ]
  refine wpAnyH_take (i := 14) (oi := _) (v := ?vr1n14_14) rfl (by kernel_rfl) (by kernel_rfl) (by kernel_rfl) (fun _ _ _ h => h) (Or.inl ⟨by kernel_rfl, ?hr1n14_14⟩) hHeld1 ?_
  case hr1n14_14 => (intro w hSw; (try dsimp only at hSw); go_simp; try (with_reducible rfl))
  try simp only [List.getElem_toArray, List.getElem_cons_zero, List.getElem_cons_succ, Act.put, List.setIfInBounds_toArray, List.set_cons_zero, List.set_cons_succ]
  refine wpAnyH_take (i := 15) (oi := _) (v := ?vr1n15_15) rfl (by kernel_rfl) (by kernel_rfl) (by kernel_rfl) (fun _ _ _ h => h) (Or.inl ⟨by kernel_rfl, ?hr1n15_15⟩) hHeld1 ?_
  case hr1n15_15 => (intro w hSw; (try dsimp only at hSw); go_simp; try (with_reducible rfl))
  try simp only [List.getElem_toArray, List.getElem_cons_zero, List.getElem_cons_succ, Act.put, List.setIfInBounds_toArray, List.set_cons_zero, List.set_cons_succ]
  refine wpAnyH_done (by kernel_rfl) ?_ _
  refine NoPanic.normal ?_
  go_wp2
  go_ret
  exact ⟨rfl, HB.out.drew.trans (hb8.out.mono (show w.heap.size ≤ W.heap.size from Nat.le_trans hle (by omega)))⟩
end Go.Proofs.Ytccbgiapabkjbaa
