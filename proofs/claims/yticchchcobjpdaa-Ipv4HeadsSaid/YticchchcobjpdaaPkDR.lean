/- What the reference's Read computes: the packet that a text is, or why it is none. Condition: a text of at most 1000000 bytes. -/
import Derived.Test.YticchchcobjpdaaPkD
namespace Go.Proofs.Yticchchcobjpdaa
set_option linter.unusedVariables false
set_option linter.unusedSimpArgs false
set_option maxRecDepth 100000
open Go.RowKit
attribute [local go_sem ↓] Go.wp_at_zero Go.wp_at_succ
attribute [local go_sem ↓] ld_pk ld_ip st_pk

/-- what stays while the reference reads -/
structure RdR (w0 : World) (w : World) : Prop where
  res : Blk w w0.heap.size 25 pk0
  none : Blk w (w0.heap.size + 1) 25 pk0
  bel : Below w0.heap.size w0 w
theorem RdR.drew {w0 w : World} (h : RdR w0 w) : RdR w0 w.drew := ⟨h.res.drew, h.none.drew, h.bel.drew⟩
theorem RdR.step {w0 w w' : World} (h : RdR w0 w) (k : Below w.heap.size w w') : RdR w0 w' := ⟨h.res.step k, h.none.step k, Below.step h.bel k⟩
theorem RdR.alloc {w0 w : World} (h : RdR w0 w) (o : Obj) : RdR w0 (w.alloc o) := ⟨h.res.alloc o, h.none.alloc o, h.bel.alloc h.bel.size o⟩
theorem RdR.setCell {w0 w : World} (h : RdR w0 w) {g : Nat} (hg : w0.heap.size + 1 < g) (o : Nat) (v : Value) : RdR w0 (w.setCell ⟨g, o, Option.none⟩ v) :=
  ⟨h.res.set_other ⟨g, o, Option.none⟩ v (by show w0.heap.size ≠ g; omega), h.none.set_other ⟨g, o, Option.none⟩ v (by show w0.heap.size + 1 ≠ g; omega), h.bel.setCell (p := ⟨g, o, Option.none⟩) (show w0.heap.size ≤ g by omega) v⟩

/-- the packet's cells after k rounds -/
def pkK (id pr tt a : Int) (mo : Bool) (d : List UInt8) (f : Nat → UInt8) (k : Nat) : Array Value :=
  (Value.int .i64 id :: ((List.range 4).map (fun i => if i < k then ubv (f (12 + i)) else Value.int .u8 0) ++ (List.range 4).map (fun i => if i < k then ubv (f (16 + i)) else Value.int .u8 0) ++
    [Value.int .i64 pr, Value.int .i64 tt, Value.int .i64 a, Value.bool mo, Value.string ⟨d.toArray⟩])).toArray
theorem pkK_step (id pr tt a : Int) (mo : Bool) (d : List UInt8) (f : Nat → UInt8) (k : Nat) (h : k < 4) :
    ((pkK id pr tt a mo d f k).setIfInBounds (1 + k) (ubv (f (12 + k)))).setIfInBounds (5 + k) (ubv (f (16 + k))) = pkK id pr tt a mo d f (k + 1) := by
  match k, h with
  | 0, _ | 1, _ | 2, _ | 3, _ => rfl
theorem pkK_size (id pr tt a : Int) (mo : Bool) (d : List UInt8) (f : Nat → UInt8) (k : Nat) : (pkK id pr tt a mo d f k).size = 14 := by simp [pkK]
theorem pkK_zero (id pr tt a : Int) (mo : Bool) (d : List UInt8) (f : Nat → UInt8) : pkK id pr tt a mo d f 0 = (pkRow id pr tt a mo d).toArray := rfl
theorem pkK_end (id pr tt a : Int) (mo : Bool) (d : List UInt8) (l : List UInt8) : pkK id pr tt a mo d (bat ⟨l.toArray⟩) 4 = pkC id (four l 12) (four l 16) pr tt a mo d := rfl

set_option maxHeartbeats 4000000 in
theorem pkdr_any (l : List UInt8) (w : World) (hs : l.length ≤ 999999) :
    Calls Try.prog 23 #[.string ⟨l.toArray⟩] w fun e w' => e = .returned (.tuple #[.agg (rdV l), .int .i64 (rdE l)]) ∧ Below w.heap.size w w' := by
  obtain ⟨W, hW⟩ : ∃ W, W = (w.alloc (.cells pk0 25)).alloc (.cells pk0 25) := ⟨_, rfl⟩
  have hS : RdR w W := by
    rw [hW]
    refine ⟨(Blk.new w 25 pk0 0 0 (Or.inl (Nat.le_refl _))).alloc _, ?_, ((Below.refl _ w).alloc (Nat.le_refl _) _).alloc (by simp) _⟩
    have := Blk.new (w.alloc (.cells pk0 25)) 25 pk0 0 0 (Or.inl (Nat.le_refl _))
    rw [size_alloc] at this
    exact this
  have hst0 : (St 25 (.pointer (some ⟨w.heap.size + 1, 0, none⟩)) (.agg pk0)).run Try.prog W = .ok () W := by
    have := st_new (w.alloc (.cells pk0 25)) 0 0 0 0 false []
    rw [size_alloc] at this
    rw [hW]
    exact this
  rw [hW] at hst0
  rw [pk0_lit] at hW hst0
  have HS := Lib.hid hS
  have dn := hS.none.ld_pk pk0_L
  clear hS
  by_cases h1 : (l.length : Int) < 20
  · go_enter Try.func23, Try.ntmps23
    go_upto_region 2 with fail
    rw [← hW]
    clear hW hst0
    have hE : rdE l = 7 := by rw [rdE, if_pos (by omega)]
    have hV : rdV l = pk0 := by rw [rdV, hE]; rfl
    go_wp2_with (refine wpList_store_blk rfl 25 _ _ rfl w.heap.size pk0 rfl rfl pk0 25 HS.out.res rfl size_pk rfl ?_)
    exact bodyPost_ret (results_blk Try.results23 _ _ w.heap.size _ _ _ rfl (HS.out.res.setAll rfl) Try.underlying25 rfl size_pk) rfl ⟨by first | (rw [hV, hE]; rfl) | rfl, Below.setCells HS.out.bel (Nat.le_refl _) _ _⟩
  have h20 : 20 ≤ (l.length : Int) := by omega
  have H1 := Lib.hid (show ¬ l.length < 20 by omega)
  have g0 := bat_get ⟨l.toArray⟩ 0 (by show 0 < l.length; omega)
  have hb0 : (((bat ⟨l.toArray⟩ 0).toNat : Nat) : Int) ≤ 255 := by have := (bat ⟨l.toArray⟩ 0).toNat_lt; omega
  have HBN := Lib.hid (show (bat ⟨l.toArray⟩ 0).toNat = b0 l from rfl)
  by_cases h2 : 4 * ((((bat ⟨l.toArray⟩ 0).toNat : Nat) : Int) - 64) < 20
  · go_enter Try.func23, Try.ntmps23
    go_upto_region 2 with fail
    rw [← hW]
    clear hW hst0
    have hE : rdE l = 8 := by rw [rdE, if_neg H1.out, if_pos (by have := HBN.out; omega)]
    have hV : rdV l = pk0 := by rw [rdV, hE]; rfl
    go_wp2_with (refine wpList_store_blk rfl 25 _ _ rfl w.heap.size pk0 rfl rfl pk0 25 HS.out.res rfl size_pk rfl ?_)
    exact bodyPost_ret (results_blk Try.results23 _ _ w.heap.size _ _ _ rfl (HS.out.res.setAll rfl) Try.underlying25 rfl size_pk) rfl ⟨by first | (rw [hV, hE]; rfl) | rfl, Below.setCells HS.out.bel (Nat.le_refl _) _ _⟩
  by_cases h3 : 60 < 4 * ((((bat ⟨l.toArray⟩ 0).toNat : Nat) : Int) - 64)
  · have h2' : 20 ≤ 4 * ((((bat ⟨l.toArray⟩ 0).toNat : Nat) : Int) - 64) := by omega
    go_enter Try.func23, Try.ntmps23
    go_upto_region 2 with fail
    rw [← hW]
    clear hW hst0
    have hE : rdE l = 8 := by rw [rdE, if_neg H1.out, if_pos (by have := HBN.out; omega)]
    have hV : rdV l = pk0 := by rw [rdV, hE]; rfl
    go_wp2_with (refine wpList_store_blk rfl 25 _ _ rfl w.heap.size pk0 rfl rfl pk0 25 HS.out.res rfl size_pk rfl ?_)
    exact bodyPost_ret (results_blk Try.results23 _ _ w.heap.size _ _ _ rfl (HS.out.res.setAll rfl) Try.underlying25 rfl size_pk) rfl ⟨by first | (rw [hV, hE]; rfl) | rfl, Below.setCells HS.out.bel (Nat.le_refl _) _ _⟩
  obtain ⟨m, hm⟩ : ∃ m : Nat, b0 l = m + 64 := ⟨b0 l - 64, by have := HBN.out; omega⟩
  have hn0 : (((bat ⟨l.toArray⟩ 0).toNat : Nat) : Int) = (m : Int) + 64 := by rw [HBN.out, hm]; omega
  have H2 := Lib.hid (show ¬ ¬ (69 ≤ b0 l ∧ b0 l ≤ 79) by rw [hm]; omega)
  have HZ := Lib.hid (show hz l = 4 * m by unfold hz; rw [hm]; omega)
  have h20' : 20 ≤ 4 * (m : Int) := by omega
  have h60' : 4 * (m : Int) ≤ 60 := by omega
  clear h2 h3 hm hb0
  by_cases h4 : (l.length : Int) < 4 * (m : Int)
  · go_enter Try.func23, Try.ntmps23
    go_upto_region 2 with fail
    rw [← hW]
    clear hW hst0
    have hE : rdE l = 7 := by rw [rdE, if_neg H1.out, if_neg H2.out, if_pos (by rw [HZ.out]; omega)]
    have hV : rdV l = pk0 := by rw [rdV, hE]; rfl
    go_wp2_with (refine wpList_store_blk rfl 25 _ _ rfl w.heap.size pk0 rfl rfl pk0 25 HS.out.res rfl size_pk rfl ?_)
    exact bodyPost_ret (results_blk Try.results23 _ _ w.heap.size _ _ _ rfl (HS.out.res.setAll rfl) Try.underlying25 rfl size_pk) rfl ⟨by first | (rw [hV, hE]; rfl) | rfl, Below.setCells HS.out.bel (Nat.le_refl _) _ _⟩
  have h4' : 4 * (m : Int) ≤ (l.length : Int) := by omega
  have H3 := Lib.hid (show ¬ l.length < hz l by rw [HZ.out]; omega)
  have hex : (⟨l.toArray⟩ : ByteArray).extract 0 (4 * m) = ⟨(l.take (hz l)).toArray⟩ := by rw [ext_list', HZ.out]; rfl
  have hsum := fun w => refSum_any w (l.take (hz l)) (by rw [List.length_take]; omega)
  obtain ⟨X, hX⟩ : ∃ X, X = sumE (⟨(l.take (hz l)).toArray⟩ : ByteArray) := ⟨_, rfl⟩
  have HX := Lib.hid hX
  rw [← hX] at hsum
  rw [← hex] at hsum
  have HSUM := Lib.hid hsum
  clear h4 hX hsum hex
  go_enter Try.func23, Try.ntmps23
  go_upto_region 2 with fail
  rw [← hW]
  clear hW hst0
  go_wp2_with fail
  refine (HSUM.out _).mono ?_
  rintro e w1 ⟨rfl, hb1⟩
  have HSb := Lib.hid (HS.out.step hb1)
  clear HS dn hb1
  have HS := HSb
  clear HSb
  have dn := HS.out.none.ld_pk pk0_L
  by_cases h5 : ¬ X = 0
  · have h5' : (X != 0) = true := by simpa using h5
    have hE : rdE l = 9 := by rw [rdE, if_neg H1.out, if_neg H2.out, if_neg H3.out, if_pos (by rw [← HX.out]; exact h5)]
    have hV : rdV l = pk0 := by rw [rdV, hE]; rfl
    go_wp2_with (refine wpList_store_blk rfl 25 _ _ rfl w.heap.size pk0 rfl rfl pk0 25 HS.out.res rfl size_pk rfl ?_)
    exact bodyPost_ret (results_blk Try.results23 _ _ w.heap.size _ _ _ rfl (HS.out.res.setAll rfl) Try.underlying25 rfl size_pk) rfl ⟨by first | (rw [hV, hE]; rfl) | rfl, Below.setCells HS.out.bel (Nat.le_refl _) _ _⟩
  have h5' : X = 0 := by simpa using h5
  have H4 := Lib.hid (show ¬ ¬ sumE ⟨(l.take (hz l)).toArray⟩ = 0 by rw [← HX.out]; exact h5)
  rw [h5']
  clear h5 HX HSUM
  obtain ⟨x2, hx2⟩ : ∃ x : Nat, x = (bat ⟨l.toArray⟩ 2).toNat := ⟨_, rfl⟩
  have hxb2 : (x2 : Int) ≤ 255 := by have := (bat ⟨l.toArray⟩ 2).toNat_lt; omega
  have hwx2 : IntKind.i64.wrap ((((⟨l.toArray⟩ : ByteArray)[2]'(by show 2 < l.length; omega)).toNat : Nat) : Int) = (x2 : Int) := by
    rw [bat_get ⟨l.toArray⟩ 2 (by show 2 < l.length; omega), ← hx2]; exact IntWalk.i64_in _ (by omega)
  have hlx2 : (2 : Int) < (l.length : Int) := by omega
  obtain ⟨x3, hx3⟩ : ∃ x : Nat, x = (bat ⟨l.toArray⟩ 3).toNat := ⟨_, rfl⟩
  have hxb3 : (x3 : Int) ≤ 255 := by have := (bat ⟨l.toArray⟩ 3).toNat_lt; omega
  have hwx3 : IntKind.i64.wrap ((((⟨l.toArray⟩ : ByteArray)[3]'(by show 3 < l.length; omega)).toNat : Nat) : Int) = (x3 : Int) := by
    rw [bat_get ⟨l.toArray⟩ 3 (by show 3 < l.length; omega), ← hx3]; exact IntWalk.i64_in _ (by omega)
  have hlx3 : (3 : Int) < (l.length : Int) := by omega
  obtain ⟨y2, hy2⟩ : ∃ y : Nat, y = 256 * x2 := ⟨_, rfl⟩
  have hwy2 : IntKind.i64.wrap (256 * (x2 : Int)) = (y2 : Int) := by rw [hy2]; rw [IntWalk.i64_in _ (by omega)]; omega
  obtain ⟨n2, hn2⟩ : ∃ n : Nat, n = two l 2 := ⟨_, rfl⟩
  have hn2b : (n2 : Int) ≤ 65535 := by have := two_lt l 2; omega
  have hwn2 : IntKind.i64.wrap ((y2 : Int) + (x3 : Int)) = (n2 : Int) := by
    have e : n2 = x2 * 256 + x3 := by rw [hn2, two, hx2, hx3]
    rw [IntWalk.i64_in _ (by omega), hy2, e]; omega
  have Hn2 := Lib.hid hn2
  clear hx2 hx3 hy2 hn2
  go_upto_region 11 with fail
  refine wp_region_noPanic ?_
  refine wp_region_held_drew (S := fun w' => RdR w w') (by kernel_rfl) (by first | with_reducible exact HS.out.drew | with_reducible exact HS.out) (fun hHeld => ?_)
  refine wpAnyH_take (i := 0) (oi := _) (v := ?vr1n0) rfl (by kernel_rfl) (by kernel_rfl) (by kernel_rfl) (fun _ _ _ h => h) (Or.inl ⟨by kernel_rfl, ?hr1n0⟩) hHeld ?_
  case hr1n0 => (intro w hSw; (try dsimp only at hSw); go_simp; try (with_reducible rfl))
  try simp only [List.getElem_toArray, List.getElem_cons_zero, List.getElem_cons_succ, Act.put, List.setIfInBounds_toArray, List.set_cons_zero, List.set_cons_succ]
  refine wpAnyH_take (i := 1) (oi := _) (v := ?vr1n1) rfl (by kernel_rfl) (by kernel_rfl) (by kernel_rfl) (fun _ _ _ h => h) (Or.inl ⟨by kernel_rfl, ?hr1n1⟩) hHeld ?_
  case hr1n1 => (intro w hSw; (try dsimp only at hSw); go_simp; try (with_reducible rfl))
  try simp only [List.getElem_toArray, List.getElem_cons_zero, List.getElem_cons_succ, Act.put, List.setIfInBounds_toArray, List.set_cons_zero, List.set_cons_succ]
  refine wpAnyH_take (i := 2) (oi := _) (v := ?vr1n2) rfl (by kernel_rfl) (by kernel_rfl) (by kernel_rfl) (fun _ _ _ h => h) (Or.inl ⟨by kernel_rfl, ?hr1n2⟩) hHeld ?_
  case hr1n2 => (intro w hSw; (try dsimp only at hSw); go_simp; try (with_reducible rfl))
  try simp only [List.getElem_toArray, List.getElem_cons_zero, List.getElem_cons_succ, Act.put, List.setIfInBounds_toArray, List.set_cons_zero, List.set_cons_succ]
  refine wpAnyH_take (i := 3) (oi := _) (v := ?vr1n3) rfl (by kernel_rfl) (by kernel_rfl) (by kernel_rfl) (fun _ _ _ h => h) (Or.inl ⟨by kernel_rfl, ?hr1n3⟩) hHeld ?_
  case hr1n3 => (intro w hSw; (try dsimp only at hSw); go_simp; try (with_reducible rfl))
  try simp only [List.getElem_toArray, List.getElem_cons_zero, List.getElem_cons_succ, Act.put, List.setIfInBounds_toArray, List.set_cons_zero, List.set_cons_succ]
  refine wpAnyH_take (i := 4) (oi := _) (v := ?vr1n4) rfl (by kernel_rfl) (by kernel_rfl) (by kernel_rfl) (fun _ _ _ h => h) (Or.inl ⟨by kernel_rfl, ?hr1n4⟩) hHeld ?_
  case hr1n4 => (intro w hSw; (try dsimp only at hSw); go_simp; try (with_reducible rfl))
  try simp only [List.getElem_toArray, List.getElem_cons_zero, List.getElem_cons_succ, Act.put, List.setIfInBounds_toArray, List.set_cons_zero, List.set_cons_succ]
  refine wpAnyH_take (i := 5) (oi := _) (v := ?vr1n5) rfl (by kernel_rfl) (by kernel_rfl) (by kernel_rfl) (fun _ _ _ h => h) (Or.inl ⟨by kernel_rfl, ?hr1n5⟩) hHeld ?_
  case hr1n5 => (intro w hSw; (try dsimp only at hSw); go_simp; try (with_reducible rfl))
  try simp only [List.getElem_toArray, List.getElem_cons_zero, List.getElem_cons_succ, Act.put, List.setIfInBounds_toArray, List.set_cons_zero, List.set_cons_succ]
  refine wpAnyH_take (i := 6) (oi := _) (v := ?vr1n6) rfl (by kernel_rfl) (by kernel_rfl) (by kernel_rfl) (fun _ _ _ h => h) (Or.inl ⟨by kernel_rfl, ?hr1n6⟩) hHeld ?_
  case hr1n6 => (intro w hSw; (try dsimp only at hSw); go_simp; try (with_reducible rfl))
  try simp only [List.getElem_toArray, List.getElem_cons_zero, List.getElem_cons_succ, Act.put, List.setIfInBounds_toArray, List.set_cons_zero, List.set_cons_succ]
  refine wpAnyH_take (i := 7) (oi := _) (v := ?vr1n7) rfl (by kernel_rfl) (by kernel_rfl) (by kernel_rfl) (fun _ _ _ h => h) (Or.inl ⟨by kernel_rfl, ?hr1n7⟩) hHeld ?_
  case hr1n7 => (intro w hSw; (try dsimp only at hSw); go_simp; try (with_reducible rfl))
  try simp only [List.getElem_toArray, List.getElem_cons_zero, List.getElem_cons_succ, Act.put, List.setIfInBounds_toArray, List.set_cons_zero, List.set_cons_succ]
  refine wpAnyH_take (i := 8) (oi := _) (v := ?vr1n8) rfl (by kernel_rfl) (by kernel_rfl) (by kernel_rfl) (fun _ _ _ h => h) (Or.inl ⟨by kernel_rfl, ?hr1n8⟩) hHeld ?_
  case hr1n8 => (intro w hSw; (try dsimp only at hSw); go_simp; try (with_reducible rfl))
  try simp only [List.getElem_toArray, List.getElem_cons_zero, List.getElem_cons_succ, Act.put, List.setIfInBounds_toArray, List.set_cons_zero, List.set_cons_succ]
  refine wpAnyH_done (by kernel_rfl) ?_ _
  refine NoPanic.normal ?_
  have HSb := Lib.hid HS.out.drew
  clear HS dn
  have HS := HSb
  clear HSb
  generalize World.drew _ = w2 at HS ⊢
  have dn := HS.out.none.ld_pk pk0_L
  clear hxb2 hxb3 hwx2 hwx3 hwy2 hwn2
  by_cases h6 : (n2 : Int) < 4 * (m : Int)
  · have hE : rdE l = 8 := by rw [rdE, if_neg H1.out, if_neg H2.out, if_neg H3.out, if_neg H4.out, if_pos (by rw [HZ.out, ← Hn2.out]; omega)]
    have hV : rdV l = pk0 := by rw [rdV, hE]; rfl
    go_wp2_with (refine wpList_store_blk rfl 25 _ _ rfl w.heap.size pk0 rfl rfl pk0 25 HS.out.res rfl size_pk rfl ?_)
    exact bodyPost_ret (results_blk Try.results23 _ _ w.heap.size _ _ _ rfl (HS.out.res.setAll rfl) Try.underlying25 rfl size_pk) rfl ⟨by first | (rw [hV, hE]; rfl) | rfl, Below.setCells HS.out.bel (Nat.le_refl _) _ _⟩
  have h6' : 4 * (m : Int) ≤ (n2 : Int) := by omega
  have H5 := Lib.hid (show ¬ two l 2 < hz l by rw [HZ.out, ← Hn2.out]; omega)
  clear h6
  by_cases h7 : (l.length : Int) < (n2 : Int)
  · have hE : rdE l = 7 := by rw [rdE, if_neg H1.out, if_neg H2.out, if_neg H3.out, if_neg H4.out, if_neg H5.out, if_pos (by rw [← Hn2.out]; omega)]
    have hV : rdV l = pk0 := by rw [rdV, hE]; rfl
    go_wp2_with (refine wpList_store_blk rfl 25 _ _ rfl w.heap.size pk0 rfl rfl pk0 25 HS.out.res rfl size_pk rfl ?_)
    exact bodyPost_ret (results_blk Try.results23 _ _ w.heap.size _ _ _ rfl (HS.out.res.setAll rfl) Try.underlying25 rfl size_pk) rfl ⟨by first | (rw [hV, hE]; rfl) | rfl, Below.setCells HS.out.bel (Nat.le_refl _) _ _⟩
  have h7' : (n2 : Int) ≤ (l.length : Int) := by omega
  have H6 := Lib.hid (show ¬ l.length < two l 2 by rw [← Hn2.out]; omega)
  clear h7
  obtain ⟨x6, hx6⟩ : ∃ x : Nat, x = (bat ⟨l.toArray⟩ 6).toNat := ⟨_, rfl⟩
  have hxb6 : (x6 : Int) ≤ 255 := by have := (bat ⟨l.toArray⟩ 6).toNat_lt; omega
  have hwx6 : IntKind.i64.wrap ((((⟨l.toArray⟩ : ByteArray)[6]'(by show 6 < l.length; omega)).toNat : Nat) : Int) = (x6 : Int) := by
    rw [bat_get ⟨l.toArray⟩ 6 (by show 6 < l.length; omega), ← hx6]; exact IntWalk.i64_in _ (by omega)
  have hlx6 : (6 : Int) < (l.length : Int) := by omega
  obtain ⟨x7, hx7⟩ : ∃ x : Nat, x = (bat ⟨l.toArray⟩ 7).toNat := ⟨_, rfl⟩
  have hxb7 : (x7 : Int) ≤ 255 := by have := (bat ⟨l.toArray⟩ 7).toNat_lt; omega
  have hwx7 : IntKind.i64.wrap ((((⟨l.toArray⟩ : ByteArray)[7]'(by show 7 < l.length; omega)).toNat : Nat) : Int) = (x7 : Int) := by
    rw [bat_get ⟨l.toArray⟩ 7 (by show 7 < l.length; omega), ← hx7]; exact IntWalk.i64_in _ (by omega)
  have hlx7 : (7 : Int) < (l.length : Int) := by omega
  obtain ⟨y6, hy6⟩ : ∃ y : Nat, y = 256 * x6 := ⟨_, rfl⟩
  have hwy6 : IntKind.i64.wrap (256 * (x6 : Int)) = (y6 : Int) := by rw [hy6]; rw [IntWalk.i64_in _ (by omega)]; omega
  obtain ⟨n6, hn6⟩ : ∃ n : Nat, n = two l 6 := ⟨_, rfl⟩
  have hn6b : (n6 : Int) ≤ 65535 := by have := two_lt l 6; omega
  have hwn6 : IntKind.i64.wrap ((y6 : Int) + (x7 : Int)) = (n6 : Int) := by
    have e : n6 = x6 * 256 + x7 := by rw [hn6, two, hx6, hx7]
    rw [IntWalk.i64_in _ (by omega), hy6, e]; omega
  have Hn6 := Lib.hid hn6
  clear hx6 hx7 hy6 hn6
  go_upto_region 16 with fail
  refine wp_region_noPanic ?_
  refine wp_region_held_drew (S := fun w' => RdR w w') (by kernel_rfl) (by first | with_reducible exact HS.out.drew | with_reducible exact HS.out) (fun hHeld => ?_)
  refine wpAnyH_take (i := 0) (oi := _) (v := ?vr2n0) rfl (by kernel_rfl) (by kernel_rfl) (by kernel_rfl) (fun _ _ _ h => h) (Or.inl ⟨by kernel_rfl, ?hr2n0⟩) hHeld ?_
  case hr2n0 => (intro w hSw; (try dsimp only at hSw); go_simp; try (with_reducible rfl))
  try simp only [List.getElem_toArray, List.getElem_cons_zero, List.getElem_cons_succ, Act.put, List.setIfInBounds_toArray, List.set_cons_zero, List.set_cons_succ]
  refine wpAnyH_take (i := 1) (oi := _) (v := ?vr2n1) rfl (by kernel_rfl) (by kernel_rfl) (by kernel_rfl) (fun _ _ _ h => h) (Or.inl ⟨by kernel_rfl, ?hr2n1⟩) hHeld ?_
  case hr2n1 => (intro w hSw; (try dsimp only at hSw); go_simp; try (with_reducible rfl))
  try simp only [List.getElem_toArray, List.getElem_cons_zero, List.getElem_cons_succ, Act.put, List.setIfInBounds_toArray, List.set_cons_zero, List.set_cons_succ]
  refine wpAnyH_take (i := 2) (oi := _) (v := ?vr2n2) rfl (by kernel_rfl) (by kernel_rfl) (by kernel_rfl) (fun _ _ _ h => h) (Or.inl ⟨by kernel_rfl, ?hr2n2⟩) hHeld ?_
  case hr2n2 => (intro w hSw; (try dsimp only at hSw); go_simp; try (with_reducible rfl))
  try simp only [List.getElem_toArray, List.getElem_cons_zero, List.getElem_cons_succ, Act.put, List.setIfInBounds_toArray, List.set_cons_zero, List.set_cons_succ]
  refine wpAnyH_take (i := 3) (oi := _) (v := ?vr2n3) rfl (by kernel_rfl) (by kernel_rfl) (by kernel_rfl) (fun _ _ _ h => h) (Or.inl ⟨by kernel_rfl, ?hr2n3⟩) hHeld ?_
  case hr2n3 => (intro w hSw; (try dsimp only at hSw); go_simp; try (with_reducible rfl))
  try simp only [List.getElem_toArray, List.getElem_cons_zero, List.getElem_cons_succ, Act.put, List.setIfInBounds_toArray, List.set_cons_zero, List.set_cons_succ]
  refine wpAnyH_take (i := 4) (oi := _) (v := ?vr2n4) rfl (by kernel_rfl) (by kernel_rfl) (by kernel_rfl) (fun _ _ _ h => h) (Or.inl ⟨by kernel_rfl, ?hr2n4⟩) hHeld ?_
  case hr2n4 => (intro w hSw; (try dsimp only at hSw); go_simp; try (with_reducible rfl))
  try simp only [List.getElem_toArray, List.getElem_cons_zero, List.getElem_cons_succ, Act.put, List.setIfInBounds_toArray, List.set_cons_zero, List.set_cons_succ]
  refine wpAnyH_take (i := 5) (oi := _) (v := ?vr2n5) rfl (by kernel_rfl) (by kernel_rfl) (by kernel_rfl) (fun _ _ _ h => h) (Or.inl ⟨by kernel_rfl, ?hr2n5⟩) hHeld ?_
  case hr2n5 => (intro w hSw; (try dsimp only at hSw); go_simp; try (with_reducible rfl))
  try simp only [List.getElem_toArray, List.getElem_cons_zero, List.getElem_cons_succ, Act.put, List.setIfInBounds_toArray, List.set_cons_zero, List.set_cons_succ]
  refine wpAnyH_take (i := 6) (oi := _) (v := ?vr2n6) rfl (by kernel_rfl) (by kernel_rfl) (by kernel_rfl) (fun _ _ _ h => h) (Or.inl ⟨by kernel_rfl, ?hr2n6⟩) hHeld ?_
  case hr2n6 => (intro w hSw; (try dsimp only at hSw); go_simp; try (with_reducible rfl))
  try simp only [List.getElem_toArray, List.getElem_cons_zero, List.getElem_cons_succ, Act.put, List.setIfInBounds_toArray, List.set_cons_zero, List.set_cons_succ]
  refine wpAnyH_take (i := 7) (oi := _) (v := ?vr2n7) rfl (by kernel_rfl) (by kernel_rfl) (by kernel_rfl) (fun _ _ _ h => h) (Or.inl ⟨by kernel_rfl, ?hr2n7⟩) hHeld ?_
  case hr2n7 => (intro w hSw; (try dsimp only at hSw); go_simp; try (with_reducible rfl))
  try simp only [List.getElem_toArray, List.getElem_cons_zero, List.getElem_cons_succ, Act.put, List.setIfInBounds_toArray, List.set_cons_zero, List.set_cons_succ]
  refine wpAnyH_take (i := 8) (oi := _) (v := ?vr2n8) rfl (by kernel_rfl) (by kernel_rfl) (by kernel_rfl) (fun _ _ _ h => h) (Or.inl ⟨by kernel_rfl, ?hr2n8⟩) hHeld ?_
  case hr2n8 => (intro w hSw; (try dsimp only at hSw); go_simp; try (with_reducible rfl))
  try simp only [List.getElem_toArray, List.getElem_cons_zero, List.getElem_cons_succ, Act.put, List.setIfInBounds_toArray, List.set_cons_zero, List.set_cons_succ]
  refine wpAnyH_done (by kernel_rfl) ?_ _
  refine NoPanic.normal ?_
  have HSb := Lib.hid HS.out.drew
  clear HS dn
  have HS := HSb
  clear HSb
  generalize World.drew _ = w3 at HS ⊢
  clear hxb6 hxb7 hwx6 hwx7 hwy6 hwn6
  obtain ⟨x4, hx4⟩ : ∃ x : Nat, x = (bat ⟨l.toArray⟩ 4).toNat := ⟨_, rfl⟩
  have hxb4 : (x4 : Int) ≤ 255 := by have := (bat ⟨l.toArray⟩ 4).toNat_lt; omega
  have hwx4 : IntKind.i64.wrap ((((⟨l.toArray⟩ : ByteArray)[4]'(by show 4 < l.length; omega)).toNat : Nat) : Int) = (x4 : Int) := by
    rw [bat_get ⟨l.toArray⟩ 4 (by show 4 < l.length; omega), ← hx4]; exact IntWalk.i64_in _ (by omega)
  have hlx4 : (4 : Int) < (l.length : Int) := by omega
  obtain ⟨x5, hx5⟩ : ∃ x : Nat, x = (bat ⟨l.toArray⟩ 5).toNat := ⟨_, rfl⟩
  have hxb5 : (x5 : Int) ≤ 255 := by have := (bat ⟨l.toArray⟩ 5).toNat_lt; omega
  have hwx5 : IntKind.i64.wrap ((((⟨l.toArray⟩ : ByteArray)[5]'(by show 5 < l.length; omega)).toNat : Nat) : Int) = (x5 : Int) := by
    rw [bat_get ⟨l.toArray⟩ 5 (by show 5 < l.length; omega), ← hx5]; exact IntWalk.i64_in _ (by omega)
  have hlx5 : (5 : Int) < (l.length : Int) := by omega
  obtain ⟨y4, hy4⟩ : ∃ y : Nat, y = 256 * x4 := ⟨_, rfl⟩
  have hwy4 : IntKind.i64.wrap (256 * (x4 : Int)) = (y4 : Int) := by rw [hy4]; rw [IntWalk.i64_in _ (by omega)]; omega
  obtain ⟨n4, hn4⟩ : ∃ n : Nat, n = two l 4 := ⟨_, rfl⟩
  have hn4b : (n4 : Int) ≤ 65535 := by have := two_lt l 4; omega
  have hwn4 : IntKind.i64.wrap ((y4 : Int) + (x5 : Int)) = (n4 : Int) := by
    have e : n4 = x4 * 256 + x5 := by rw [hn4, two, hx4, hx5]
    rw [IntWalk.i64_in _ (by omega), hy4, e]; omega
  have Hn4 := Lib.hid hn4
  clear hx4 hx5 hy4 hn4
  obtain ⟨q, hq⟩ : ∃ q, q = n6 % 8192 := ⟨_, rfl⟩
  obtain ⟨mo, hmo⟩ : ∃ mo : Bool, mo = (n6 / 8192 % 2 == 1) := ⟨_, rfl⟩
  have hqq : (n6 : Int) % 8192 = (q : Int) := by omega
  have hwq : IntKind.i64.wrap ((q : Int) * 8) = (q : Int) * 8 := IntWalk.i64_in _ (by omega)
  have hmo1 : ((n6 : Int) / 8192 % 2 == 1) = mo := by
    rw [hmo]
    by_cases hc : n6 / 8192 % 2 = 1
    · have e : (n6 : Int) / 8192 % 2 = 1 := by omega
      rw [hc, e]; rfl
    · have e : ¬ (n6 : Int) / 8192 % 2 = 1 := by omega
      rw [beq_eq_false_iff_ne.2 e, beq_eq_false_iff_ne.2 hc]
  have hmo2 : decide ((n6 : Int) / 8192 % 2 = 1) = mo := by rw [← hmo1]; rfl
  have hn60 : (0 : Int) ≤ (n6 : Int) := by omega
  have htm : (n6 : Int).tmod 8192 = (q : Int) := by rw [Int.tmod_eq_emod_of_nonneg hn60]; exact hqq
  obtain ⟨e, he⟩ : ∃ e, e = n6 / 8192 := ⟨_, rfl⟩
  have hwd : IntKind.i64.wrap ((n6 : Int) / 8192) = (e : Int) := by rw [IntWalk.i64_in _ (by omega)]; omega
  have hte : ((e : Int).tmod 2 == 1) = mo := by
    rw [Int.tmod_eq_emod_of_nonneg (by omega), ← hmo1]
    have : (e : Int) = (n6 : Int) / 8192 := by omega
    rw [this]
  clear he
  have HQ := Lib.hid hq
  have HMO := Lib.hid hmo
  clear hq hmo
  obtain ⟨d, hd⟩ : ∃ d, d = pkData l := ⟨_, rfl⟩
  have hexd : (⟨l.toArray⟩ : ByteArray).extract (4 * m) n2 = ⟨d.toArray⟩ := by rw [ext_list', hd, pkData, ← Hn2.out, HZ.out, List.drop_take]
  have HD := Lib.hid hd
  clear hd
  obtain ⟨tt, htt⟩ : ∃ x : Nat, x = (bat ⟨l.toArray⟩ 8).toNat := ⟨_, rfl⟩
  obtain ⟨pr, hpr⟩ : ∃ x : Nat, x = (bat ⟨l.toArray⟩ 9).toNat := ⟨_, rfl⟩
  have hT : (tt : Int) ≤ 255 := by have := (bat ⟨l.toArray⟩ 8).toNat_lt; omega
  have hP : (pr : Int) ≤ 255 := by have := (bat ⟨l.toArray⟩ 9).toNat_lt; omega
  have hw8 : IntKind.i64.wrap ((((⟨l.toArray⟩ : ByteArray)[8]'(by show 8 < l.length; omega)).toNat : Nat) : Int) = (tt : Int) := by
    rw [bat_get ⟨l.toArray⟩ 8 (by show 8 < l.length; omega), ← htt]; exact IntWalk.i64_in _ (by omega)
  have hw9 : IntKind.i64.wrap ((((⟨l.toArray⟩ : ByteArray)[9]'(by show 9 < l.length; omega)).toNat : Nat) : Int) = (pr : Int) := by
    rw [bat_get ⟨l.toArray⟩ 9 (by show 9 < l.length; omega), ← hpr]; exact IntWalk.i64_in _ (by omega)
  have hmz : (4 * (m : Int)).toNat = 4 * m := by omega
  have HTT := Lib.hid htt
  have HPR := Lib.hid hpr
  clear htt hpr
  have hm0 : (0 : Int) ≤ 4 * (m : Int) := by omega
  have hn20 : (0 : Int) ≤ (n2 : Int) := by omega
  have hsz := HS.out.none.lt
  have HSZ := Lib.hid hsz
  clear hsz
  have l9 : (9 : Int) < (l.length : Int) := by omega
  have l8 : (8 : Int) < (l.length : Int) := by omega
  have hst : (St 25 (.pointer (some ⟨w3.heap.size, 0, none⟩)) (.agg (pkRow n4 pr tt ((q : Int) * 8) mo d).toArray)).run Try.prog (w3.alloc (.cells pk0 25)).drew = .ok () (w3.alloc (.cells (pkRow n4 pr tt ((q : Int) * 8) mo d).toArray 25)).drew := st_new w3.drew n4 pr tt ((q : Int) * 8) mo d
  rw [pk0_lit] at hst
  go_upto_region 17 with fail
  refine wp_region_noPanic ?_
  refine wp_region_held_drew (S := fun w' => RdR w w') (by kernel_rfl) (by first | with_reducible exact HS.out.drew | with_reducible exact HS.out) (fun hHeld => ?_)
  refine wpAnyH_take (i := 0) (oi := _) (v := ?vr3n0) rfl (by kernel_rfl) (by kernel_rfl) (by kernel_rfl) (fun _ _ _ h => h) (Or.inl ⟨by kernel_rfl, ?hr3n0⟩) hHeld ?_
  case hr3n0 => (intro w hSw; (try dsimp only at hSw); go_simp; try (with_reducible rfl))
  try simp only [List.getElem_toArray, List.getElem_cons_zero, List.getElem_cons_succ, Act.put, List.setIfInBounds_toArray, List.set_cons_zero, List.set_cons_succ]
  refine wpAnyH_take (i := 1) (oi := _) (v := ?vr3n1) rfl (by kernel_rfl) (by kernel_rfl) (by kernel_rfl) (fun _ _ _ h => h) (Or.inl ⟨by kernel_rfl, ?hr3n1⟩) hHeld ?_
  case hr3n1 => (intro w hSw; (try dsimp only at hSw); go_simp; try (with_reducible rfl))
  try simp only [List.getElem_toArray, List.getElem_cons_zero, List.getElem_cons_succ, Act.put, List.setIfInBounds_toArray, List.set_cons_zero, List.set_cons_succ]
  refine wpAnyH_take (i := 2) (oi := _) (v := ?vr3n2) rfl (by kernel_rfl) (by kernel_rfl) (by kernel_rfl) (fun _ _ _ h => h) (Or.inl ⟨by kernel_rfl, ?hr3n2⟩) hHeld ?_
  case hr3n2 => (intro w hSw; (try dsimp only at hSw); go_simp; try (with_reducible rfl))
  try simp only [List.getElem_toArray, List.getElem_cons_zero, List.getElem_cons_succ, Act.put, List.setIfInBounds_toArray, List.set_cons_zero, List.set_cons_succ]
  refine wpAnyH_take (i := 3) (oi := _) (v := ?vr3n3) rfl (by kernel_rfl) (by kernel_rfl) (by kernel_rfl) (fun _ _ _ h => h) (Or.inl ⟨by kernel_rfl, ?hr3n3⟩) hHeld ?_
  case hr3n3 => (intro w hSw; (try dsimp only at hSw); go_simp; try (with_reducible rfl))
  try simp only [List.getElem_toArray, List.getElem_cons_zero, List.getElem_cons_succ, Act.put, List.setIfInBounds_toArray, List.set_cons_zero, List.set_cons_succ]
  refine wpAnyH_take (i := 4) (oi := _) (v := ?vr3n4) rfl (by kernel_rfl) (by kernel_rfl) (by kernel_rfl) (fun _ _ _ h => h) (Or.inl ⟨by kernel_rfl, ?hr3n4⟩) hHeld ?_
  case hr3n4 => (intro w hSw; (try dsimp only at hSw); go_simp; try (with_reducible rfl))
  try simp only [List.getElem_toArray, List.getElem_cons_zero, List.getElem_cons_succ, Act.put, List.setIfInBounds_toArray, List.set_cons_zero, List.set_cons_succ]
  refine wpAnyH_take (i := 5) (oi := _) (v := ?vr3n5) rfl (by kernel_rfl) (by kernel_rfl) (by kernel_rfl) (fun _ _ _ h => h) (Or.inl ⟨by kernel_rfl, ?hr3n5⟩) hHeld ?_
  case hr3n5 => (intro w hSw; (try dsimp only at hSw); go_simp; try (with_reducible rfl))
  try simp only [List.getElem_toArray, List.getElem_cons_zero, List.getElem_cons_succ, Act.put, List.setIfInBounds_toArray, List.set_cons_zero, List.set_cons_succ]
  refine wpAnyH_take (i := 6) (oi := _) (v := ?vr3n6) rfl (by kernel_rfl) (by kernel_rfl) (by kernel_rfl) (fun _ _ _ h => h) (Or.inl ⟨by kernel_rfl, ?hr3n6⟩) hHeld ?_
  case hr3n6 => (intro w hSw; (try dsimp only at hSw); go_simp; try (with_reducible rfl))
  try simp only [List.getElem_toArray, List.getElem_cons_zero, List.getElem_cons_succ, Act.put, List.setIfInBounds_toArray, List.set_cons_zero, List.set_cons_succ]
  refine wpAnyH_take (i := 7) (oi := _) (v := ?vr3n7) rfl (by kernel_rfl) (by kernel_rfl) (by kernel_rfl) (fun _ _ _ h => h) (Or.inl ⟨by kernel_rfl, ?hr3n7⟩) hHeld ?_
  case hr3n7 => (intro w hSw; (try dsimp only at hSw); go_simp; try (with_reducible rfl))
  try simp only [List.getElem_toArray, List.getElem_cons_zero, List.getElem_cons_succ, Act.put, List.setIfInBounds_toArray, List.set_cons_zero, List.set_cons_succ]
  refine wpAnyH_take (i := 8) (oi := _) (v := ?vr3n8) rfl (by kernel_rfl) (by kernel_rfl) (by kernel_rfl) (fun _ _ _ h => h) (Or.inl ⟨by kernel_rfl, ?hr3n8⟩) hHeld ?_
  case hr3n8 => (intro w hSw; (try dsimp only at hSw); go_simp; try (with_reducible rfl))
  try simp only [List.getElem_toArray, List.getElem_cons_zero, List.getElem_cons_succ, Act.put, List.setIfInBounds_toArray, List.set_cons_zero, List.set_cons_succ]
  refine wpAnyH_take (i := 9) (oi := _) (v := ?vr3n9) rfl (by kernel_rfl) (by kernel_rfl) (by kernel_rfl) (fun _ _ _ h => h) (Or.inl ⟨by kernel_rfl, ?hr3n9⟩) hHeld ?_
  case hr3n9 => (intro w hSw; (try dsimp only at hSw); go_simp; try (with_reducible rfl))
  try simp only [List.getElem_toArray, List.getElem_cons_zero, List.getElem_cons_succ, Act.put, List.setIfInBounds_toArray, List.set_cons_zero, List.set_cons_succ]
  refine wpAnyH_take (i := 10) (oi := _) (v := ?vr3n10) rfl (by kernel_rfl) (by kernel_rfl) (by kernel_rfl) (fun _ _ _ h => h) (Or.inl ⟨by kernel_rfl, ?hr3n10⟩) hHeld ?_
  case hr3n10 => (intro w hSw; (try dsimp only at hSw); go_simp; try (with_reducible rfl))
  try simp only [List.getElem_toArray, List.getElem_cons_zero, List.getElem_cons_succ, Act.put, List.setIfInBounds_toArray, List.set_cons_zero, List.set_cons_succ]
  refine wpAnyH_take (i := 11) (oi := _) (v := ?vr3n11) rfl (by kernel_rfl) (by kernel_rfl) (by kernel_rfl) (fun _ _ _ h => h) (Or.inl ⟨by kernel_rfl, ?hr3n11⟩) hHeld ?_
  case hr3n11 => (intro w hSw; (try dsimp only at hSw); go_simp; try (with_reducible rfl))
  try simp only [List.getElem_toArray, List.getElem_cons_zero, List.getElem_cons_succ, Act.put, List.setIfInBounds_toArray, List.set_cons_zero, List.set_cons_succ]
  refine wpAnyH_take (i := 12) (oi := _) (v := ?vr3n12) rfl (by kernel_rfl) (by kernel_rfl) (by kernel_rfl) (fun _ _ _ h => h) (Or.inl ⟨by kernel_rfl, ?hr3n12⟩) hHeld ?_
  case hr3n12 => (intro w hSw; (try dsimp only at hSw); go_simp; try (with_reducible rfl))
  try simp only [List.getElem_toArray, List.getElem_cons_zero, List.getElem_cons_succ, Act.put, List.setIfInBounds_toArray, List.set_cons_zero, List.set_cons_succ]
  refine wpAnyH_take (i := 13) (oi := _) (v := ?vr3n13) rfl (by kernel_rfl) (by kernel_rfl) (by kernel_rfl) (fun _ _ _ h => h) (Or.inl ⟨by kernel_rfl, ?hr3n13⟩) hHeld ?_
  case hr3n13 => (intro w hSw; (try dsimp only at hSw); go_simp; try (with_reducible rfl))
  try simp only [List.getElem_toArray, List.getElem_cons_zero, List.getElem_cons_succ, Act.put, List.setIfInBounds_toArray, List.set_cons_zero, List.set_cons_succ]
  refine wpAnyH_take (i := 14) (oi := _) (v := ?vr3n14) rfl (by kernel_rfl) (by kernel_rfl) (by kernel_rfl) (fun _ _ _ h => h) (Or.inl ⟨by kernel_rfl, ?hr3n14⟩) hHeld ?_
  case hr3n14 => (intro w hSw; (try dsimp only at hSw); go_simp; try (with_reducible rfl))
  try simp only [List.getElem_toArray, List.getElem_cons_zero, List.getElem_cons_succ, Act.put, List.setIfInBounds_toArray, List.set_cons_zero, List.set_cons_succ]
  refine wpAnyH_take (i := 15) (oi := _) (v := ?vr3n15) rfl (by kernel_rfl) (by kernel_rfl) (by kernel_rfl) (fun _ _ _ h => h) (Or.inl ⟨by kernel_rfl, ?hr3n15⟩) hHeld ?_
  case hr3n15 => (intro w hSw; (try dsimp only at hSw); go_simp; try (with_reducible rfl))
  try simp only [List.getElem_toArray, List.getElem_cons_zero, List.getElem_cons_succ, Act.put, List.setIfInBounds_toArray, List.set_cons_zero, List.set_cons_succ]
  refine wpAnyH_take (i := 16) (oi := _) (v := ?vr3n16) rfl (by kernel_rfl) (by kernel_rfl) (by kernel_rfl) (fun _ _ _ h => h) (Or.inl ⟨by kernel_rfl, ?hr3n16⟩) hHeld ?_
  case hr3n16 => (intro w hSw; (try dsimp only at hSw); go_simp; try (with_reducible rfl))
  try simp only [List.getElem_toArray, List.getElem_cons_zero, List.getElem_cons_succ, Act.put, List.setIfInBounds_toArray, List.set_cons_zero, List.set_cons_succ]
  refine wpAnyH_take (i := 17) (oi := _) (v := ?vr3n17) rfl (by kernel_rfl) (by kernel_rfl) (by kernel_rfl) (fun _ _ _ h => h) (Or.inl ⟨by kernel_rfl, ?hr3n17⟩) hHeld ?_
  case hr3n17 => (intro w hSw; (try dsimp only at hSw); go_simp; try (with_reducible rfl))
  try simp only [List.getElem_toArray, List.getElem_cons_zero, List.getElem_cons_succ, Act.put, List.setIfInBounds_toArray, List.set_cons_zero, List.set_cons_succ]
  refine wpAnyH_take (i := 18) (oi := _) (v := ?vr3n18) rfl (by kernel_rfl) (by kernel_rfl) (by kernel_rfl) (fun _ _ _ h => h) (Or.inl ⟨by kernel_rfl, ?hr3n18⟩) hHeld ?_
  case hr3n18 => (intro w hSw; (try dsimp only at hSw); go_simp; try (with_reducible rfl))
  try simp only [List.getElem_toArray, List.getElem_cons_zero, List.getElem_cons_succ, Act.put, List.setIfInBounds_toArray, List.set_cons_zero, List.set_cons_succ]
  refine wpAnyH_take (i := 19) (oi := _) (v := ?vr3n19) rfl (by kernel_rfl) (by kernel_rfl) (by kernel_rfl) (fun _ _ _ h => h) (Or.inl ⟨by kernel_rfl, ?hr3n19⟩) hHeld ?_
  case hr3n19 => (intro w hSw; (try dsimp only at hSw); go_simp; try (with_reducible rfl))
  try simp only [List.getElem_toArray, List.getElem_cons_zero, List.getElem_cons_succ, Act.put, List.setIfInBounds_toArray, List.set_cons_zero, List.set_cons_succ]
  refine wpAnyH_take (i := 20) (oi := _) (v := ?vr3n20) rfl (by kernel_rfl) (by kernel_rfl) (by kernel_rfl) (fun _ _ _ h => h) (Or.inl ⟨by kernel_rfl, ?hr3n20⟩) hHeld ?_
  case hr3n20 => (intro w hSw; (try dsimp only at hSw); go_simp; try (with_reducible rfl))
  try simp only [List.getElem_toArray, List.getElem_cons_zero, List.getElem_cons_succ, Act.put, List.setIfInBounds_toArray, List.set_cons_zero, List.set_cons_succ]
  refine wpAnyH_take (i := 21) (oi := _) (v := ?vr3n21) rfl (by kernel_rfl) (by kernel_rfl) (by kernel_rfl) (fun _ _ _ h => h) (Or.inl ⟨by kernel_rfl, ?hr3n21⟩) hHeld ?_
  case hr3n21 => (intro w hSw; (try dsimp only at hSw); go_simp; try (with_reducible rfl))
  try simp only [List.getElem_toArray, List.getElem_cons_zero, List.getElem_cons_succ, Act.put, List.setIfInBounds_toArray, List.set_cons_zero, List.set_cons_succ]
  refine wpAnyH_take (i := 22) (oi := _) (v := ?vr3n22) rfl (by kernel_rfl) (by kernel_rfl) (by kernel_rfl) (fun _ _ _ h => h) (Or.inl ⟨by kernel_rfl, ?hr3n22⟩) hHeld ?_
  case hr3n22 => (intro w hSw; (try dsimp only at hSw); go_simp; try (with_reducible rfl))
  try simp only [List.getElem_toArray, List.getElem_cons_zero, List.getElem_cons_succ, Act.put, List.setIfInBounds_toArray, List.set_cons_zero, List.set_cons_succ]
  refine wpAnyH_take (i := 23) (oi := _) (v := ?vr3n23) rfl (by kernel_rfl) (by kernel_rfl) (by kernel_rfl) (fun _ _ _ h => h) (Or.inl ⟨by kernel_rfl, ?hr3n23⟩) hHeld ?_
  case hr3n23 => (intro w hSw; (try dsimp only at hSw); go_simp; try (with_reducible rfl))
  try simp only [List.getElem_toArray, List.getElem_cons_zero, List.getElem_cons_succ, Act.put, List.setIfInBounds_toArray, List.set_cons_zero, List.set_cons_succ]
  refine wpAnyH_take (i := 24) (oi := _) (v := ?vr3n24) rfl (by kernel_rfl) (by kernel_rfl) (by kernel_rfl) (fun _ _ _ h => h) (Or.inl ⟨by kernel_rfl, ?hr3n24⟩) hHeld ?_
  case hr3n24 => (intro w hSw; (try dsimp only at hSw); go_simp; try (with_reducible rfl))
  try simp only [List.getElem_toArray, List.getElem_cons_zero, List.getElem_cons_succ, Act.put, List.setIfInBounds_toArray, List.set_cons_zero, List.set_cons_succ]
  refine wpAnyH_take (i := 25) (oi := _) (v := ?vr3n25) rfl (by kernel_rfl) (by kernel_rfl) (by kernel_rfl) (fun _ _ _ h => h) (Or.inl ⟨by kernel_rfl, ?hr3n25⟩) hHeld ?_
  case hr3n25 => (intro w hSw; (try dsimp only at hSw); go_simp; try (with_reducible rfl))
  try simp only [List.getElem_toArray, List.getElem_cons_zero, List.getElem_cons_succ, Act.put, List.setIfInBounds_toArray, List.set_cons_zero, List.set_cons_succ]
  refine wpAnyH_ready (rs := [26]) (by kernel_rfl) (by simp) ?_
  refine AllReadyH.cons (o := _) rfl (fun K hK => ?_) AllReadyH.nil
  go_simp
  refine hK.out _ _ ?_ (fun hHeld1 => ?_)
  · (first | with_reducible exact (HS.out.alloc _).drew)
  clear hHeld hK K
  try simp only [List.getElem_toArray, List.getElem_cons_zero, List.getElem_cons_succ, Act.put, List.setIfInBounds_toArray, List.set_cons_zero, List.set_cons_succ]
  refine wpAnyH_ready (rs := [27]) (by kernel_rfl) (by simp) ?_
  refine AllReadyH.cons (o := _) rfl (fun K hK => ?_) AllReadyH.nil
  go_simp
  refine hK.out _ _ ?_ (fun hHeld2 => ?_)
  · (first | with_reducible exact (HS.out.alloc _).drew)
  clear hHeld1 hK K
  try simp only [List.getElem_toArray, List.getElem_cons_zero, List.getElem_cons_succ, Act.put, List.setIfInBounds_toArray, List.set_cons_zero, List.set_cons_succ]
  refine wpAnyH_done (by kernel_rfl) ?_ _
  refine NoPanic.normal ?_
  have HK0 := Lib.hid (Blk.drew (Blk.new w3 25 (pkRow n4 pr tt ((q : Int) * 8) mo d).toArray 0 0 (Or.inl (Nat.le_refl _))))
  have HSb := Lib.hid (HS.out.alloc (.cells (pkRow n4 pr tt ((q : Int) * 8) mo d).toArray 25)).drew
  clear HS hst
  have HS0 := HSb
  clear HSb
  obtain ⟨f, hf⟩ : ∃ f : Nat → UInt8, f = bat ⟨l.toArray⟩ := ⟨_, rfl⟩
  have hb := fun j (hj : j < l.length) => bat_get ⟨l.toArray⟩ j hj
  rw [← hf] at hb
  have HBB := Lib.hid hb
  have HF := Lib.hid hf
  clear hb hf
  generalize (w3.alloc _).drew = W5 at HK0 HS0 ⊢
  generalize w3.heap.size = g at HK0 HSZ ⊢
  clear hexd hmo1 hmo2 htm hwd hte hwq hqq hw8 hw9 hwx4 hwx5 hwy4 hwn4
  have hg := HSZ.out
  go_wp2_with fail
  go_loopw [9] (fun ix wr => ∃ k : Nat, k ≤ 4 ∧ ix = .int .i64 k ∧ Blk wr g 25 (pkK n4 pr tt ((q : Int) * 8) mo d f k) ∧ RdR w wr) (fun ix _ => 4 - (intOf ix).toNat)
  case atStart => exact ⟨0, by omega, rfl, HK0.out, HS0.out⟩
  case round =>
    obtain ⟨k, hk, rfl, hbk, hbr⟩ := hrel
    by_cases hlt : k < 4
    · have e1 := HBB.out (12 + k) (by omega)
      have e2 := HBB.out (16 + k) (by omega)
      have k12 : (12 : Int) + (k : Int) < (l.length : Int) := by omega
      have k16 : (16 : Int) + (k : Int) < (l.length : Int) := by omega
      have c1 := hbk.cell (1 + k)
      have c2 := hbk.cell (5 + k)
      have f1 := hbk.free (1 + k) (by rw [pkK_size]; omega)
      have f2 := hbk.free (5 + k) (by rw [pkK_size]; omega)
      rw [Array.getElem?_eq_getElem (by rw [pkK_size]; omega)] at c1 c2
      have HSx := (hbk.set (1 + k) (ubv (f (12 + k)))).set (5 + k) (ubv (f (16 + k)))
      rw [pkK_step n4 pr tt ((q : Int) * 8) mo d f k hlt] at HSx
      have HK1 := Lib.hid HSx
      have HS1 := Lib.hid ((hbr.setCell hg (1 + k) (ubv (f (12 + k)))).setCell hg (5 + k) (ubv (f (16 + k))))
      generalize (pkK n4 pr tt ((q : Int) * 8) mo d f k)[1 + k]'_ = v1 at c1
      generalize (pkK n4 pr tt ((q : Int) * 8) mo d f k)[5 + k]'_ = v2 at c2
      clear HSx hbk hbr
      go_wp2
      go_roundw
      case rel => exact ⟨k + 1, by omega, by go_num, HK1.out, HS1.out⟩
      case measure => simp [intOf]; omega
    · have hk4 : k = 4 := by omega
      rw [hk4, HF.out, pkK_end] at hbk
      have HK4 := Lib.hid hbk
      have HS4 := Lib.hid hbr
      clear hbk hbr hk4
      obtain ⟨W4, rfl⟩ : ∃ wo : World, wo = wr := ⟨_, rfl⟩
      have hF : PkL (four l 12) (four l 16) := ⟨rfl, rfl⟩
      have HFF := Lib.hid hF
      have dn := HS4.out.none.ld_pk pk0_L
      have dl := HK4.out.ld_pk hF
      clear hF
      by_cases h8 : (32768 : Int) ≤ (n6 : Int)
      · have HS := HS4
        have hE : rdE l = 8 := by rw [rdE, if_neg H1.out, if_neg H2.out, if_neg H3.out, if_neg H4.out, if_neg H5.out, if_neg H6.out, if_pos (by rw [← Hn6.out]; omega)]
        have hV : rdV l = pk0 := by rw [rdV, hE]; rfl
        go_wp2_with (refine wpList_store_blk rfl 25 _ _ rfl w.heap.size pk0 rfl rfl pk0 25 HS.out.res rfl size_pk rfl ?_)
        exact bodyPost_ret (results_blk Try.results23 _ _ w.heap.size _ _ _ rfl (HS.out.res.setAll rfl) Try.underlying25 rfl size_pk) rfl ⟨by first | (rw [hV, hE]; rfl) | rfl, Below.setCells HS.out.bel (Nat.le_refl _) _ _⟩
      have H7 := Lib.hid (show ¬ 32768 ≤ two l 6 by rw [← Hn6.out]; omega)
      have hdl : d.length ≤ 1000000 := by rw [HD.out, pkData, List.length_drop, List.length_take]; omega
      have hq8 : q ≤ 8191 := by rw [HQ.out]; omega
      have HMay := Lib.hid (fun w => refMay_any n4 (four l 12) (four l 16) pr tt ((q : Int) * 8) mo d HFF.out (by omega) (by omega) (by omega) (by omega) (by omega) w)
      have hpa : (q : Int) * 8 = pkA l := by rw [HQ.out, Hn6.out, pkA]; omega
      have HMAY := Lib.hid (show mayB n4 pr tt ((q : Int) * 8) mo d.length = pkMayL l by
        rw [hpa, Hn4.out, HPR.out, HTT.out, HMO.out, Hn6.out, HD.out]; rfl)
      have HPK := Lib.hid (show pkC n4 (four l 12) (four l 16) pr tt ((q : Int) * 8) mo d = pkC (two l 4 : Nat) (four l 12) (four l 16) (pkP l : Nat) (pkT l : Nat) (pkA l) (pkM l) (pkData l) by
        rw [hpa, Hn4.out, HPR.out, HTT.out, HMO.out, Hn6.out, HD.out]; rfl)
      clear hpa
      go_wp2_with fail
      refine (HMay.out _).mono ?_
      rintro e w6 ⟨rfl, hb6⟩
      have HS := Lib.hid (HS4.out.step hb6)
      have HK := Lib.hid (HK4.out.step hb6)
      clear hb6 dn dl
      have dn := HS.out.none.ld_pk pk0_L
      have dl := HK.out.ld_pk HFF.out
      by_cases h9 : mayB n4 pr tt ((q : Int) * 8) mo d.length = false
      · rw [h9]
        have hE : rdE l = 8 := by rw [rdE, if_neg H1.out, if_neg H2.out, if_neg H3.out, if_neg H4.out, if_neg H5.out, if_neg H6.out, if_neg H7.out, if_pos (HMAY.out.symm.trans h9)]
        have hV : rdV l = pk0 := by rw [rdV, hE]; rfl
        go_wp2_with (refine wpList_store_blk rfl 25 _ _ rfl w.heap.size pk0 rfl rfl pk0 25 HS.out.res rfl size_pk rfl ?_)
        exact bodyPost_ret (results_blk Try.results23 _ _ w.heap.size _ _ _ rfl (HS.out.res.setAll rfl) Try.underlying25 rfl size_pk) rfl ⟨by first | (rw [hV, hE]; rfl) | rfl, Below.setCells HS.out.bel (Nat.le_refl _) _ _⟩
      have h9' : mayB n4 pr tt ((q : Int) * 8) mo d.length = true := by simpa using h9
      have hE : rdE l = 0 := by rw [rdE, if_neg H1.out, if_neg H2.out, if_neg H3.out, if_neg H4.out, if_neg H5.out, if_neg H6.out, if_neg H7.out, if_neg (by rw [← HMAY.out, h9']; decide)]
      have hV : rdV l = pkC n4 (four l 12) (four l 16) pr tt ((q : Int) * 8) mo d := by rw [rdV, if_pos hE, HPK.out]
      have HE := Lib.hid hE
      have HV := Lib.hid hV
      rw [h9']
      clear h9 h9' hE hV
      have hz := pkC_size (id := (n4 : Int)) (pr := (pr : Int)) (tt := (tt : Int)) (a := (q : Int) * 8) (mo := mo) (d := d) HFF.out
      have HZ2 := Lib.hid hz
      clear hz
      go_wp2_with (refine wpList_store_blk rfl 25 _ _ rfl w.heap.size (pkC n4 (four l 12) (four l 16) pr tt ((q : Int) * 8) mo d) rfl rfl pk0 25 HS.out.res HZ2.out (by rw [HZ2.out]; exact size_pk) (pkC_one _ _ _ _ _ _ _ _) ?_)
      exact bodyPost_ret (results_blk Try.results23 _ _ w.heap.size _ _ _ rfl (HS.out.res.setAll HZ2.out) Try.underlying25 rfl (by rw [HZ2.out]; exact size_pk)) rfl ⟨by rw [HV.out, HE.out]; rfl, Below.setCells HS.out.bel (Nat.le_refl _) _ _⟩
end Go.Proofs.Yticchchcobjpdaa
