/- The chapter's packet: what the statements of this layer ask first, 'awake', is true. -/
import Derived.Test.YticchchcobjpdaaPkBA
import Derived.Test.YticchchcobjpdaaPkD
namespace Go.Proofs.Yticchchcobjpdaa
set_option linter.unusedVariables false
set_option maxRecDepth 100000
open Go.RowKit
attribute [local go_sem ↓] Go.wp_at_zero Go.wp_at_succ
attribute [local go_sem ↓] ld_pk ld_ip

/-- the store of a packet into a block that holds noughts -/
theorem wp_st_pk {ops : Array Oper} {rest : List Oper} {o : Oper} {a : Act} {w : World} {Q : Exit → Act → World → Prop} (hgd : o.guard = none) (x y : Operand) (ho : o.op = .store 25 x y)
    (b : Nat) (id : Int) (f t : List UInt8) (pr tt at' : Int) (mo : Bool) (d : List UInt8) (hL : PkL f t) (hK : Hid (Blk w b 25 pk0)) (hx : a.eval x = .pointer (some ⟨b, 0, none⟩)) (hy : a.eval y = .agg (pkC id f t pr tt at' mo d))
    (h : wpList Try.prog ops Q rest (a.put o.dst undef) (w.setCells b 0 (pkC id f t pr tt at' mo d).toList)) : wpList Try.prog ops Q (o :: rest) a w :=
  wpList_store_blk hgd 25 x y ho b (pkC id f t pr tt at' mo d) hx hy pk0 25 hK.out (by rw [pkC_size hL]; rfl) (by rw [pkC_size hL]; exact size_pk) (pkC_one _ _ _ _ _ _ _ _) h
theorem Blk.put_pk {w : World} {b : Nat} {id : Int} {f t : List UInt8} {pr tt a : Int} {mo : Bool} {d : List UInt8} (h : Blk w b 25 pk0) (hL : PkL f t) : Blk (w.setCells b 0 (pkC id f t pr tt a mo d).toList) b 25 (pkC id f t pr tt a mo d) :=
  h.setAll (by rw [pkC_size hL]; rfl)

def exF : List UInt8 := [10, 0, 0, 1]
def exT : List UInt8 := [10, 0, 0, 2]
def exD : List UInt8 := [104, 105]
def pkExS : List UInt8 := [69, 0, 0, 22, 0, 1, 0, 0, 64, 6, 102, 223, 10, 0, 0, 1, 10, 0, 0, 2, 104, 105]
abbrev pkExC : Array Value := #[.int .i64 1, .int .u8 10, .int .u8 0, .int .u8 0, .int .u8 1, .int .u8 10, .int .u8 0, .int .u8 0, .int .u8 2, .int .i64 6, .int .i64 64, .int .i64 0, .bool false, .string ⟨#[104, 105]⟩]
theorem pkEx_eq : pkExC = pkC 1 exF exT 6 64 0 false exD := rfl
theorem pkEx_L : PkL exF exT := ⟨rfl, rfl⟩

theorem pkex_any (w : World) : Calls Try.prog 18 #[] w fun e w' => e = .returned (.agg pkExC) ∧ Below w.heap.size w w' := by
  have HN := Lib.hid (Blk.new w 25 pk0 0 0 (Or.inl (Nat.le_refl _)))
  go_enter Try.func18, Try.ntmps18
  go_wp2_with (refine wpList_store_blk rfl 25 _ _ rfl w.heap.size pkExC rfl rfl pk0 25 HN.out rfl size_pk rfl ?_)
  exact bodyPost_ret (results_cell1 Try.results18 _ _ w.heap.size _ _ _ rfl (HN.out.setAll rfl) Try.underlying25 rfl size_pk) rfl ⟨rfl, Below.setCells ((Below.refl _ _).alloc (Nat.le_refl _) _) (Nat.le_refl _) _ _⟩

theorem pkex_bytes (w : World) : Calls Try.prog 13 #[.agg pkExC] w fun e w' => e = .returned (.tuple #[.string ⟨pkExS.toArray⟩, .int .i64 0]) ∧ Below w.heap.size w w' := by
  have h := pk_any 1 exF exT 6 64 0 false exD pkEx_L (by decide) (by decide) (by decide) (by decide) (by decide) w
  have e : pkBytes 1 exF exT 6 64 0 false exD = (pkExS, 0) := by decide +kernel
  rw [e] at h
  rw [pkEx_eq]
  exact h

theorem pkex_rd : rdE pkExS = 0 := by decide +kernel
theorem pkex_read (w : World) : Calls Try.prog 22 #[.string ⟨pkExS.toArray⟩] w fun e w' => e = .returned (.tuple #[.agg pkExC, .int .i64 0]) ∧ Below w.heap.size w w' := by
  have h := pkd_any pkExS w (by decide)
  have e : rdV pkExS = pkC 1 exF exT 6 64 0 false exD := by
    rw [rdV, if_pos pkex_rd]
    have e1 : two pkExS 4 = 1 := by decide +kernel
    have e2 : four pkExS 12 = exF := by decide +kernel
    have e3 : four pkExS 16 = exT := by decide +kernel
    have e4 : pkP pkExS = 6 := by decide +kernel
    have e5 : pkT pkExS = 64 := by decide +kernel
    have e6 : pkA pkExS = 0 := by decide +kernel
    have e7 : pkM pkExS = false := by decide +kernel
    have e8 : pkData pkExS = exD := by decide +kernel
    rw [e1, e2, e3, e4, e5, e6, e7, e8]
    rfl
  rw [pkex_rd, e] at h
  rw [pkEx_eq]
  exact h

theorem pkex_load {w : World} {b : Nat} {e : TypeId} (h : Blk w b e pkExC) : (Ld 25 (.pointer (some ⟨b, 0, none⟩))).run Try.prog w = .ok (.agg pkExC) w := by
  rw [pkEx_eq] at h ⊢
  exact h.ld_pk pkEx_L

set_option maxHeartbeats 1000000 in
theorem pkawake_any (w : World) : Calls Try.prog 12 #[] w fun e w' => e = .returned (.bool true) ∧ Below w.heap.size w w' := by
  have hself := fun w => run_pk_eql w 1 exF exT 6 64 0 false exD 1 exF exT 6 64 0 false exD pkEx_L pkEx_L
  rw [pkEq_self, ← pkEx_eq] at hself
  go_enter Try.func12, Try.ntmps12
  go_wp2_with fail
  refine (pkex_any _).mono ?_
  rintro e w1 ⟨rfl, hb1⟩
  go_wp2_with fail
  refine (pkex_bytes _).mono ?_
  rintro e w2 ⟨rfl, hb2⟩
  go_wp2_with fail
  refine (pkex_read _).mono ?_
  rintro e w3 ⟨rfl, hb3⟩
  have hN := Blk.new w3 25 pk0 0 0 (Or.inl (Nat.le_refl _))
  have hK := hN.setAll (cs := pkExC) rfl
  have hb := Below.step (Below.step hb1 hb2) hb3
  have hB := Below.setCells (hb.alloc hb.size (.cells pk0 25)) hb.size 0 pkExC.toList
  have HN := Lib.hid hN
  have HK := Lib.hid hK
  have HB := Lib.hid hB
  have hle := hb.size
  have tokA : True := trivial
  rw [pk0_lit] at HK HB
  clear hb1 hb2 hb3 hb hN hK hB
  go_wp2_with (have _t := tokA; refine wpList_store_blk rfl 25 _ _ rfl w3.heap.size pkExC rfl rfl pk0 25 HN.out rfl size_pk rfl ?_; clear tokA; generalize World.setCells _ _ _ _ = W at HK HB ⊢)
  have hlt := HK.out.lt
  refine wp_region_noPanic ?_
  refine wp_region_held_drew (S := fun w' => (Ld 25 (.pointer (some ⟨w3.heap.size, 0, none⟩))).run Try.prog w' = .ok (.agg pkExC) w') (by kernel_rfl) (by first | exact pkex_load (Blk.drew HK.out)) (fun hHeld => ?_)
  refine wpAnyH_take (i := 0) (oi := _) (v := ?vr1n0) rfl (by kernel_rfl) (by kernel_rfl) (by kernel_rfl) (fun _ _ _ h => h) (Or.inl ⟨by kernel_rfl, ?hr1n0⟩) hHeld ?_
  case hr1n0 => (intro w hSw; (try dsimp only at hSw); go_simp; try (with_reducible rfl))
  try simp only [List.getElem_toArray, List.getElem_cons_zero, List.getElem_cons_succ, Act.put, List.setIfInBounds_toArray, List.set_cons_zero, List.set_cons_succ]
  refine wpAnyH_take (i := 1) (oi := _) (v := ?vr1n1) rfl (by kernel_rfl) (by kernel_rfl) (by kernel_rfl) (fun _ _ _ h => h) (Or.inl ⟨by kernel_rfl, ?hr1n1⟩) hHeld ?_
  case hr1n1 => (intro w hSw; (try dsimp only at hSw); go_simp; try (with_reducible rfl))
  try simp only [List.getElem_toArray, List.getElem_cons_zero, List.getElem_cons_succ, Act.put, List.setIfInBounds_toArray, List.set_cons_zero, List.set_cons_succ]
  refine wpAnyH_take (i := 2) (oi := _) (v := ?vr1n2) rfl (by kernel_rfl) (by kernel_rfl) (by kernel_rfl) (fun _ _ _ h => h) (Or.inl ⟨by kernel_rfl, ?hr1n2⟩) hHeld ?_
  case hr1n2 => (intro w hSw; (try dsimp only at hSw); go_simp; try (with_reducible rfl))
  try simp only [List.getElem_toArray, List.getElem_cons_zero, List.getElem_cons_succ, Act.put, List.setIfInBounds_toArray, List.set_cons_zero, List.set_cons_succ]
  refine wpAnyH_take (i := 3) (oi := _) (v := ?vr1n3) rfl (by kernel_rfl) (by kernel_rfl) (by kernel_rfl) (fun _ _ _ h => h) (Or.inl ⟨by kernel_rfl, ?hr1n3⟩) hHeld ?_
  case hr1n3 => (intro w hSw; (try dsimp only at hSw); go_simp; try (with_reducible rfl))
  try simp only [List.getElem_toArray, List.getElem_cons_zero, List.getElem_cons_succ, Act.put, List.setIfInBounds_toArray, List.set_cons_zero, List.set_cons_succ]
  refine wpAnyH_take (i := 4) (oi := _) (v := ?vr1n4) rfl (by kernel_rfl) (by kernel_rfl) (by kernel_rfl) (fun _ _ _ h => h) (Or.inl ⟨by kernel_rfl, ?hr1n4⟩) hHeld ?_
  case hr1n4 => (intro w hSw; (try dsimp only at hSw); go_simp; try (with_reducible rfl))
  try simp only [List.getElem_toArray, List.getElem_cons_zero, List.getElem_cons_succ, Act.put, List.setIfInBounds_toArray, List.set_cons_zero, List.set_cons_succ]
  refine wpAnyH_take (i := 5) (oi := _) (v := ?vr1n5) rfl (by kernel_rfl) (by kernel_rfl) (by kernel_rfl) (fun _ _ _ h => h) (Or.inl ⟨by kernel_rfl, ?hr1n5⟩) hHeld ?_
  case hr1n5 => (intro w hSw; (try dsimp only at hSw); go_simp; try (with_reducible rfl))
  try simp only [List.getElem_toArray, List.getElem_cons_zero, List.getElem_cons_succ, Act.put, List.setIfInBounds_toArray, List.set_cons_zero, List.set_cons_succ]
  refine wpAnyH_take (i := 6) (oi := _) (v := ?vr1n6) rfl (by kernel_rfl) (by kernel_rfl) (by kernel_rfl) (fun _ _ _ h => h) (Or.inl ⟨by kernel_rfl, ?hr1n6⟩) hHeld ?_
  case hr1n6 => (intro w hSw; (try dsimp only at hSw); go_simp; try (with_reducible rfl))
  try simp only [List.getElem_toArray, List.getElem_cons_zero, List.getElem_cons_succ, Act.put, List.setIfInBounds_toArray, List.set_cons_zero, List.set_cons_succ]
  refine wpAnyH_take (i := 7) (oi := _) (v := ?vr1n7) rfl (by kernel_rfl) (by kernel_rfl) (by kernel_rfl) (fun _ _ _ h => h) (Or.inl ⟨by kernel_rfl, ?hr1n7⟩) hHeld ?_
  case hr1n7 => (intro w hSw; (try dsimp only at hSw); go_simp; try (with_reducible rfl))
  try simp only [List.getElem_toArray, List.getElem_cons_zero, List.getElem_cons_succ, Act.put, List.setIfInBounds_toArray, List.set_cons_zero, List.set_cons_succ]
  refine wpAnyH_ready (rs := [8]) (by kernel_rfl) (by simp) ?_
  refine AllReadyH.cons (o := _) rfl (fun K hK => ?_) AllReadyH.nil
  go_simp
  (go_at_call 18; refine (pkex_any _).mono ?_; rintro e w4 ⟨rfl, hb0⟩; have hb4 := Lib.hid hb0; clear hb0; go_wp2_with fail)
  refine hK.out _ _ ?_ (fun hHeld1 => ?_)
  · (first | exact pkex_load ((Blk.drew HK.out).below hb4.out hlt))
  clear hHeld hK K
  try simp only [List.getElem_toArray, List.getElem_cons_zero, List.getElem_cons_succ, Act.put, List.setIfInBounds_toArray, List.set_cons_zero, List.set_cons_succ]
  refine wpAnyH_take (i := 9) (oi := _) (v := ?vr1n9) rfl (by kernel_rfl) (by kernel_rfl) (by kernel_rfl) (fun _ _ _ h => h) (Or.inl ⟨by kernel_rfl, ?hr1n9⟩) hHeld1 ?_
  case hr1n9 => (intro w hSw; (try dsimp only at hSw); go_simp; try (with_reducible rfl))
  try simp only [List.getElem_toArray, List.getElem_cons_zero, List.getElem_cons_succ, Act.put, List.setIfInBounds_toArray, List.set_cons_zero, List.set_cons_succ]
  refine wpAnyH_take (i := 10) (oi := _) (v := ?vr1n10) rfl (by kernel_rfl) (by kernel_rfl) (by kernel_rfl) (fun _ _ _ h => h) (Or.inl ⟨by kernel_rfl, ?hr1n10⟩) hHeld1 ?_
  case hr1n10 => (intro w hSw; (try dsimp only at hSw); go_simp; try (with_reducible rfl))
  try simp only [List.getElem_toArray, List.getElem_cons_zero, List.getElem_cons_succ, Act.put, List.setIfInBounds_toArray, List.set_cons_zero, List.set_cons_succ]
  refine wpAnyH_take (i := 11) (oi := _) (v := ?vr1n11) rfl (by kernel_rfl) (by kernel_rfl) (by kernel_rfl) (fun _ _ _ h => h) (Or.inl ⟨by kernel_rfl, ?hr1n11⟩) hHeld1 ?_
  case hr1n11 => (intro w hSw; (try dsimp only at hSw); go_simp; try (with_reducible rfl))
  try simp only [List.getElem_toArray, List.getElem_cons_zero, List.getElem_cons_succ, Act.put, List.setIfInBounds_toArray, List.set_cons_zero, List.set_cons_succ]
  refine wpAnyH_take (i := 12) (oi := _) (v := ?vr1n12) rfl (by kernel_rfl) (by kernel_rfl) (by kernel_rfl) (fun _ _ _ h => h) (Or.inl ⟨by kernel_rfl, ?hr1n12⟩) hHeld1 ?_
  case hr1n12 => (intro w hSw; (try dsimp only at hSw); go_simp; try (with_reducible rfl))
  try simp only [List.getElem_toArray, List.getElem_cons_zero, List.getElem_cons_succ, Act.put, List.setIfInBounds_toArray, List.set_cons_zero, List.set_cons_succ]
  refine wpAnyH_take (i := 13) (oi := _) (v := ?vr1n13) rfl (by kernel_rfl) (by kernel_rfl) (by kernel_rfl) (fun _ _ _ h => h) (Or.inl ⟨by kernel_rfl, ?hr1n13⟩) hHeld1 ?_
  case hr1n13 => (intro w hSw; (try dsimp only at hSw); go_simp; try (with_reducible rfl))
  try simp only [List.getElem_toArray, List.getElem_cons_zero, List.getElem_cons_succ, Act.put, List.setIfInBounds_toArray, List.set_cons_zero, List.set_cons_succ]
  refine wpAnyH_take (i := 14) (oi := _) (v := ?vr1n14) rfl (by kernel_rfl) (by kernel_rfl) (by kernel_rfl) (fun _ _ _ h => h) (Or.inl ⟨by kernel_rfl, ?hr1n14⟩) hHeld1 ?_
  case hr1n14 => (intro w hSw; (try dsimp only at hSw); go_simp; try (with_reducible rfl))
  try simp only [List.getElem_toArray, List.getElem_cons_zero, List.getElem_cons_succ, Act.put, List.setIfInBounds_toArray, List.set_cons_zero, List.set_cons_succ]
  refine wpAnyH_take (i := 15) (oi := _) (v := ?vr1n15) rfl (by kernel_rfl) (by kernel_rfl) (by kernel_rfl) (fun _ _ _ h => h) (Or.inl ⟨by kernel_rfl, ?hr1n15⟩) hHeld1 ?_
  case hr1n15 => (intro w hSw; (try dsimp only at hSw); go_simp; try (with_reducible rfl))
  try simp only [List.getElem_toArray, List.getElem_cons_zero, List.getElem_cons_succ, Act.put, List.setIfInBounds_toArray, List.set_cons_zero, List.set_cons_succ]
  refine wpAnyH_done (by kernel_rfl) ?_ _
  refine NoPanic.normal ?_
  go_wp2
  go_ret
  exact ⟨rfl, HB.out.drew.trans (hb4.out.mono (show w.heap.size ≤ W.heap.size from by omega))⟩
end Go.Proofs.Yticchchcobjpdaa
