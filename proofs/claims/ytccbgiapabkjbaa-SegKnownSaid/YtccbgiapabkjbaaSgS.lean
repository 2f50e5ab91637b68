/- The sum of a segment's bytes between two addresses: what packages seg's and the reference's 'sum' compute. -/
import Derived.Test.YtccbgiapabkjbaaSg
namespace Go.Proofs.Ytccbgiapabkjbaa
set_option linter.unusedVariables false
set_option linter.unusedSimpArgs false
set_option maxRecDepth 100000
open Go.RowKit
attribute [local go_sem ↓] Go.wp_at_zero Go.wp_at_succ
attribute [local go_sem ↓] ld_sg ld_ip

/-- two bytes of a number -/
def be (n : Nat) : List UInt8 := [UInt8.ofNat (n / 256), UInt8.ofNat n]
theorem be_lit (n : Nat) : (litN (n : Int) 2).reverse = be n := by
  rw [litN, if_pos (by omega), Int.toNat_natCast]
  exact lit_two n
/-- the sum of bytes between two addresses -/
def sgS (f t b : List UInt8) : Int := sumE ⟨(f ++ t ++ [0] ++ [6] ++ be b.length ++ b).toArray⟩
structure IpL (f t : List UInt8) : Prop where
  f : f.length = 4
  t : t.length = 4

theorem byt_lit (w : World) (e : TypeId) (l : List UInt8) (C : Array Value) (hC : C = (l.map ubv).toArray) : Byt (w.alloc (.cells C e)) e w.heap.size l := by
  subst hC
  refine ⟨_, Blk.new w e _ 0 0 (Or.inl (Nat.le_refl _)), fun j hj => ?_⟩
  simp [List.getElem?_eq_getElem hj]
theorem byt_litD (w : World) (e : TypeId) (l : List UInt8) (C : Array Value) (hC : C = (l.map ubv).toArray) : Byt (w.alloc (.cells C e)).drew e w.heap.size l := byt_lit w e l C hC
theorem arr_conv {w : World} {b : Nat} {e : TypeId} {f : List UInt8} (h : Blk w b e (f.map ubv).toArray) (hf : f.length = 4) :
    (convert 26 9 (.slice (some ⟨b, 0, none⟩) 4 4)).run Try.prog w = .ok (.string ⟨f.toArray⟩) w := by
  have := run_back Try.prog w 26 9 5 b 0 4 f Try.underlying26 Try.underlying5 Try.underlying9 (by
    intro j hj
    rw [addr_add, h.cell]
    simp [List.getElem?_eq_getElem hj])
  rw [hf] at this
  exact this
theorem byt_conv {w : World} {b n : Nat} {l : List UInt8} (h : Byt w 5 b l) (hn : l.length = n) (cap : Nat) :
    (convert 26 9 (.slice (some ⟨b, 0, none⟩) n cap)).run Try.prog w = .ok (.string ⟨l.toArray⟩) w := by
  subst hn
  exact run_back Try.prog w 26 9 5 b 0 cap l Try.underlying26 Try.underlying5 Try.underlying9 h.at

/-- two addresses' blocks, and what was there before -/
structure IpS (w0 : World) (f t : List UInt8) (bf bt : Nat) (w : World) : Prop where
  f : Blk w bf 23 (f.map ubv).toArray
  t : Blk w bt 23 (t.map ubv).toArray
  bel : Below w0.heap.size w0 w
theorem IpS.step {w0 w w' : World} {f t : List UInt8} {bf bt : Nat} (h : IpS w0 f t bf bt w) (k : Below w.heap.size w w') : IpS w0 f t bf bt w' := ⟨h.f.step k, h.t.step k, Below.step h.bel k⟩
theorem IpS.drew {w0 w : World} {f t : List UInt8} {bf bt : Nat} (h : IpS w0 f t bf bt w) : IpS w0 f t bf bt w.drew := ⟨h.f.drew, h.t.drew, h.bel.drew⟩
theorem IpS.alloc {w0 w : World} {f t : List UInt8} {bf bt : Nat} (h : IpS w0 f t bf bt w) (o : Obj) : IpS w0 f t bf bt (w.alloc o) := ⟨h.f.alloc o, h.t.alloc o, h.bel.alloc h.bel.size o⟩
theorem IpS.allocD {w0 w : World} {f t : List UInt8} {bf bt : Nat} (h : IpS w0 f t bf bt w.drew) (o : Obj) : IpS w0 f t bf bt (w.alloc o).drew := ⟨h.f.alloc o, h.t.alloc o, h.bel.alloc h.bel.size o⟩
def IpQ (w0 : World) (f t : List UInt8) (bf bt : Nat) (w : World) : Prop :=
  IpS w0 f t bf bt w ∧ (convert 26 9 (.slice (some ⟨bf, 0, none⟩) 4 4)).run Try.prog w = .ok (.string ⟨f.toArray⟩) w ∧ (convert 26 9 (.slice (some ⟨bt, 0, none⟩) 4 4)).run Try.prog w = .ok (.string ⟨t.toArray⟩) w
theorem IpS.q {w0 w : World} {f t : List UInt8} {bf bt : Nat} (hL : IpL f t) (h : IpS w0 f t bf bt w) : IpQ w0 f t bf bt w := ⟨h, arr_conv h.f hL.f, arr_conv h.t hL.t⟩
theorem ip_new (w : World) (f t : List UInt8) : IpS w f t w.heap.size (w.heap.size + 1) ((w.alloc (.cells (f.map ubv).toArray 23)).alloc (.cells (t.map ubv).toArray 23)) := by
  refine ⟨(Blk.new w 23 _ 0 0 (Or.inl (Nat.le_refl _))).alloc _, ?_, ((Below.refl _ w).alloc (Nat.le_refl _) _).alloc (by simp) _⟩
  have := Blk.new (w.alloc (.cells (f.map ubv).toArray 23)) 23 (t.map ubv).toArray 0 0 (Or.inl (Nat.le_refl _))
  rw [size_alloc] at this
  exact this

set_option maxHeartbeats 2000000 in
theorem sgSum_any (b f t : List UInt8) (hL : IpL f t) (hb : b.length ≤ 65535) (w : World) :
    Calls Try.prog 21 #[.string ⟨b.toArray⟩, arrV f, arrV t] w fun e w' => e = .returned (.int .i64 (sgS f t b)) ∧ Below w.heap.size w w' := by
  have HQ := Lib.hid (ip_new w f t)
  have hf4 := hL.f
  have ht4 := hL.t
  have HL := Lib.hid hL
  have hBig := fun w => big_any w (b.length : Int) 2 (by omega)
  rw [be_lit] at hBig
  have hl2 : (be b.length).length = 2 := rfl
  have hSum := fun w => sum_any w ⟨(f ++ t ++ [0] ++ [6] ++ be b.length ++ b).toArray⟩ (by
    show (f ++ t ++ [0] ++ [6] ++ be b.length ++ b).length ≤ _
    simp only [List.length_append, List.length_cons, List.length_nil]
    omega)
  have hV : sgS f t b = sumE ⟨(f ++ t ++ [0] ++ [6] ++ be b.length ++ b).toArray⟩ := rfl
  rw [hV]
  clear hV
  generalize sumE ⟨(f ++ t ++ [0] ++ [6] ++ be b.length ++ b).toArray⟩ = V at hSum ⊢
  generalize be b.length = L at hBig hSum hl2
  simp only [← str_append] at hSum
  have hu : IntKind.u64.wrap (b.length : Int) = (b.length : Int) := by simp [IntKind.wrap, IntKind.bits, IntKind.signed]; omega
  have hnb : ¬ 9223372036854775807 < 12 + b.length := by omega
  have HBig := Lib.hid hBig
  have HSum := Lib.hid hSum
  clear hBig hSum hL hb
  go_enter Try.func21, Try.ntmps21
  go_upto_region 1 with fail
  generalize World.alloc _ _ = w1 at HQ ⊢
  refine wp_region_noPanic ?_
  refine wp_region_held_drew (S := (fun w' => IpS w f t w.heap.size (w.heap.size + 1) w' ∧ (convert 26 9 (.slice (some ⟨w.heap.size, 0, none⟩) 4 4)).run Try.prog w' = .ok (.string ⟨f.toArray⟩) w' ∧ (convert 26 9 (.slice (some ⟨w.heap.size + 1, 0, none⟩) 4 4)).run Try.prog w' = .ok (.string ⟨t.toArray⟩) w')) (by kernel_rfl) (by first | exact HQ.out.drew.q HL.out) (fun hHeld => ?_)
  refine wpAnyH_take (i := 0) (oi := _) (v := ?vr1n0_1) rfl (by kernel_rfl) (by kernel_rfl) (by kernel_rfl) (fun _ _ _ h => h) (Or.inl ⟨by kernel_rfl, ?hr1n0_1⟩) hHeld ?_
  case hr1n0_1 => (intro w hSw; (try dsimp only at hSw); go_simp; try (with_reducible rfl))
  try simp only [List.getElem_toArray, List.getElem_cons_zero, List.getElem_cons_succ, Act.put, List.setIfInBounds_toArray, List.set_cons_zero, List.set_cons_succ]
  refine wpAnyH_take (i := 1) (oi := _) (v := ?vr1n1_2) rfl (by kernel_rfl) (by kernel_rfl) (by kernel_rfl) (fun _ _ _ h => h) (Or.inl ⟨by kernel_rfl, ?hr1n1_2⟩) hHeld ?_
  case hr1n1_2 => (intro w hSw; (try dsimp only at hSw); go_simp; try (with_reducible rfl))
  try simp only [List.getElem_toArray, List.getElem_cons_zero, List.getElem_cons_succ, Act.put, List.setIfInBounds_toArray, List.set_cons_zero, List.set_cons_succ]
  refine wpAnyH_take (i := 2) (oi := _) (v := ?vr1n2_3) rfl (by kernel_rfl) (by kernel_rfl) (by kernel_rfl) (fun _ _ _ h => h) (Or.inl ⟨by kernel_rfl, ?hr1n2_3⟩) hHeld ?_
  case hr1n2_3 => (intro w hSw; (try dsimp only at hSw); go_simp; try (with_reducible rfl))
  try simp only [List.getElem_toArray, List.getElem_cons_zero, List.getElem_cons_succ, Act.put, List.setIfInBounds_toArray, List.set_cons_zero, List.set_cons_succ]
  refine wpAnyH_take (i := 3) (oi := _) (v := ?vr1n3_4) rfl (by kernel_rfl) (by kernel_rfl) (by kernel_rfl) (fun _ _ _ h => h) (Or.inl ⟨by kernel_rfl, ?hr1n3_4⟩) hHeld ?_
  case hr1n3_4 => (intro w hSw; (try dsimp only at hSw); go_simp; try (with_reducible rfl))
  try simp only [List.getElem_toArray, List.getElem_cons_zero, List.getElem_cons_succ, Act.put, List.setIfInBounds_toArray, List.set_cons_zero, List.set_cons_succ]
  refine wpAnyH_take (i := 4) (oi := _) (v := ?vr1n4_5) rfl (by kernel_rfl) (by kernel_rfl) (by kernel_rfl) (fun _ _ _ h => h) (Or.inl ⟨by kernel_rfl, ?hr1n4_5⟩) hHeld ?_
  case hr1n4_5 => (intro w hSw; (try dsimp only at hSw); go_simp; try (with_reducible rfl))
  try simp only [List.getElem_toArray, List.getElem_cons_zero, List.getElem_cons_succ, Act.put, List.setIfInBounds_toArray, List.set_cons_zero, List.set_cons_succ]
  refine wpAnyH_take (i := 5) (oi := _) (v := ?vr1n5_6) rfl (by kernel_rfl) (by kernel_rfl) (by kernel_rfl) (fun _ _ _ h => h) (Or.inl ⟨by kernel_rfl, ?hr1n5_6⟩) hHeld ?_
  case hr1n5_6 => (intro w hSw; (try dsimp only at hSw); go_simp; try (with_reducible rfl))
  try simp only [List.getElem_toArray, List.getElem_cons_zero, List.getElem_cons_succ, Act.put, List.setIfInBounds_toArray, List.set_cons_zero, List.set_cons_succ]
  refine wpAnyH_take (i := 9) (oi := _) (v := ?vr1n9_7) rfl (by kernel_rfl) (by kernel_rfl) (by kernel_rfl) (fun _ _ _ h => h) (Or.inl ⟨by kernel_rfl, ?hr1n9_7⟩) hHeld ?_
  case hr1n9_7 => (intro w hSw; (try dsimp only at hSw); go_simp; try (with_reducible rfl))
  try simp only [List.getElem_toArray, List.getElem_cons_zero, List.getElem_cons_succ, Act.put, List.setIfInBounds_toArray, List.set_cons_zero, List.set_cons_succ]
  refine wpAnyH_take (i := 10) (oi := _) (v := ?vr1n10_8) rfl (by kernel_rfl) (by kernel_rfl) (by kernel_rfl) (fun _ _ _ h => h) (Or.inl ⟨by kernel_rfl, ?hr1n10_8⟩) hHeld ?_
  case hr1n10_8 => (intro w hSw; (try dsimp only at hSw); go_simp; try (with_reducible rfl))
  try simp only [List.getElem_toArray, List.getElem_cons_zero, List.getElem_cons_succ, Act.put, List.setIfInBounds_toArray, List.set_cons_zero, List.set_cons_succ]
  refine wpAnyH_take (i := 11) (oi := _) (v := ?vr1n11_9) rfl (by kernel_rfl) (by kernel_rfl) (by kernel_rfl) (fun _ _ _ h => h) (Or.inl ⟨by kernel_rfl, ?hr1n11_9⟩) hHeld ?_
  case hr1n11_9 => (intro w hSw; (try dsimp only at hSw); go_simp; try (with_reducible rfl))
  try simp only [List.getElem_toArray, List.getElem_cons_zero, List.getElem_cons_succ, Act.put, List.setIfInBounds_toArray, List.set_cons_zero, List.set_cons_succ]
  refine wpAnyH_take (i := 14) (oi := _) (v := ?vr1n14_10) rfl (by kernel_rfl) (by kernel_rfl) (by kernel_rfl) (fun _ _ _ h => h) (Or.inl ⟨by kernel_rfl, ?hr1n14_10⟩) hHeld ?_
  case hr1n14_10 => (intro w hSw; (try dsimp only at hSw); go_simp; try (with_reducible rfl))
  try simp only [List.getElem_toArray, List.getElem_cons_zero, List.getElem_cons_succ, Act.put, List.setIfInBounds_toArray, List.set_cons_zero, List.set_cons_succ]
  refine wpAnyH_ready (rs := [6, 12]) (by kernel_rfl) (by simp) ?_
  refine AllReadyH.cons (o := _) rfl (fun K hK => ?_) ?_
  · skip
    go_simp
    (have HY2 := Lib.hid (byt_litD w1 5 [6] #[.int .u8 6] rfl))
    refine hK.out _ _ ?_ (fun hHeld1 => ?_)
    · (first | exact IpS.q HL.out (IpS.allocD (And.left hHeld) _))
    clear hHeld hK K
    try simp only [List.getElem_toArray, List.getElem_cons_zero, List.getElem_cons_succ, Act.put, List.setIfInBounds_toArray, List.set_cons_zero, List.set_cons_succ]
    refine wpAnyH_ready (rs := [7, 12]) (by kernel_rfl) (by simp) ?_
    refine AllReadyH.cons (o := _) rfl (fun K hK => ?_) ?_
    · skip
      (have hcv3 := byt_conv HY2.out (n := 1) rfl 1)
      go_simp
      (clear hcv3)
      refine hK.out _ _ ?_ (fun hHeld2 => ?_)
      · (first | exact hHeld1)
      clear hHeld1 hK K
      try simp only [List.getElem_toArray, List.getElem_cons_zero, List.getElem_cons_succ, Act.put, List.setIfInBounds_toArray, List.set_cons_zero, List.set_cons_succ]
      refine wpAnyH_take (i := 8) (oi := _) (v := ?vr1n8_11) rfl (by kernel_rfl) (by kernel_rfl) (by kernel_rfl) (fun _ _ _ h => h) (Or.inl ⟨by kernel_rfl, ?hr1n8_11⟩) hHeld2 ?_
      case hr1n8_11 => (intro w hSw; (try dsimp only at hSw); go_simp; try (with_reducible rfl))
      try simp only [List.getElem_toArray, List.getElem_cons_zero, List.getElem_cons_succ, Act.put, List.setIfInBounds_toArray, List.set_cons_zero, List.set_cons_succ]
      refine wpAnyH_ready (rs := [12]) (by kernel_rfl) (by simp) ?_
      refine AllReadyH.cons (o := _) rfl (fun K hK => ?_) AllReadyH.nil
      go_simp
      (go_at_call 28; with_reducible refine (HBig.out _).mono ?_; rintro e v4 ⟨rfl, hb0⟩; have HB4 := Lib.hid hb0; clear hb0)
      refine hK.out _ _ ?_ (fun hHeld3 => ?_)
      · (first | exact ((And.left hHeld2).step HB4.out).q HL.out)
      clear hHeld2 hK K
      try simp only [List.getElem_toArray, List.getElem_cons_zero, List.getElem_cons_succ, Act.put, List.setIfInBounds_toArray, List.set_cons_zero, List.set_cons_succ]
      refine wpAnyH_take (i := 13) (oi := _) (v := ?vr1n13_12) rfl (by kernel_rfl) (by kernel_rfl) (by kernel_rfl) (fun _ _ _ h => h) (Or.inl ⟨by kernel_rfl, ?hr1n13_12⟩) hHeld3 ?_
      case hr1n13_12 => (intro w hSw; (try dsimp only at hSw); go_simp; try (with_reducible rfl))
      try simp only [List.getElem_toArray, List.getElem_cons_zero, List.getElem_cons_succ, Act.put, List.setIfInBounds_toArray, List.set_cons_zero, List.set_cons_succ]
      refine wpAnyH_take (i := 15) (oi := _) (v := ?vr1n15_13) rfl (by kernel_rfl) (by kernel_rfl) (by kernel_rfl) (fun _ _ _ h => h) (Or.inl ⟨by kernel_rfl, ?hr1n15_13⟩) hHeld3 ?_
      case hr1n15_13 => (intro w hSw; (try dsimp only at hSw); go_simp; try (with_reducible rfl))
      try simp only [List.getElem_toArray, List.getElem_cons_zero, List.getElem_cons_succ, Act.put, List.setIfInBounds_toArray, List.set_cons_zero, List.set_cons_succ]
      refine wpAnyH_ready (rs := [16]) (by kernel_rfl) (by simp) ?_
      refine AllReadyH.cons (o := _) rfl (fun K hK => ?_) AllReadyH.nil
      go_simp
      (go_at_call 39; with_reducible refine (HSum.out _).mono ?_; rintro e v5 ⟨rfl, rfl⟩)
      refine hK.out _ _ ?_ (fun hHeld4 => ?_)
      · (first | exact hHeld3)
      clear hHeld3 hK K
      try simp only [List.getElem_toArray, List.getElem_cons_zero, List.getElem_cons_succ, Act.put, List.setIfInBounds_toArray, List.set_cons_zero, List.set_cons_succ]
      refine wpAnyH_take (i := 17) (oi := _) (v := ?vr1n17_14) rfl (by kernel_rfl) (by kernel_rfl) (by kernel_rfl) (fun _ _ _ h => h) (Or.inl ⟨by kernel_rfl, ?hr1n17_14⟩) hHeld4 ?_
      case hr1n17_14 => (intro w hSw; (try dsimp only at hSw); go_simp; try (with_reducible rfl))
      try simp only [List.getElem_toArray, List.getElem_cons_zero, List.getElem_cons_succ, Act.put, List.setIfInBounds_toArray, List.set_cons_zero, List.set_cons_succ]
      refine wpAnyH_done (by kernel_rfl) ?_ _
      refine NoPanic.normal ?_
      go_wp2
      go_ret
      exact ⟨rfl, (And.left hHeld4).bel⟩
    refine AllReadyH.cons (o := _) rfl (fun K hK => ?_) AllReadyH.nil
    go_simp
    (go_at_call 28; with_reducible refine (HBig.out _).mono ?_; rintro e v3 ⟨rfl, hb0⟩; have HB3 := Lib.hid hb0; clear hb0; have HY3 := Lib.hid (HY2.out.step HB3.out))
    refine hK.out _ _ ?_ (fun hHeld5 => ?_)
    · (first | exact ((And.left hHeld1).step HB3.out).q HL.out)
    clear hHeld1 hK K
    try simp only [List.getElem_toArray, List.getElem_cons_zero, List.getElem_cons_succ, Act.put, List.setIfInBounds_toArray, List.set_cons_zero, List.set_cons_succ]
    refine wpAnyH_ready (rs := [7]) (by kernel_rfl) (by simp) ?_
    refine AllReadyH.cons (o := _) rfl (fun K hK => ?_) AllReadyH.nil
    (have hcv4 := byt_conv HY3.out (n := 1) rfl 1)
    go_simp
    (clear hcv4)
    refine hK.out _ _ ?_ (fun hHeld6 => ?_)
    · (first | exact hHeld5)
    clear hHeld5 hK K
    try simp only [List.getElem_toArray, List.getElem_cons_zero, List.getElem_cons_succ, Act.put, List.setIfInBounds_toArray, List.set_cons_zero, List.set_cons_succ]
    refine wpAnyH_take (i := 8) (oi := _) (v := ?vr1n8_15) rfl (by kernel_rfl) (by kernel_rfl) (by kernel_rfl) (fun _ _ _ h => h) (Or.inl ⟨by kernel_rfl, ?hr1n8_15⟩) hHeld6 ?_
    case hr1n8_15 => (intro w hSw; (try dsimp only at hSw); go_simp; try (with_reducible rfl))
    try simp only [List.getElem_toArray, List.getElem_cons_zero, List.getElem_cons_succ, Act.put, List.setIfInBounds_toArray, List.set_cons_zero, List.set_cons_succ]
    refine wpAnyH_take (i := 13) (oi := _) (v := ?vr1n13_16) rfl (by kernel_rfl) (by kernel_rfl) (by kernel_rfl) (fun _ _ _ h => h) (Or.inl ⟨by kernel_rfl, ?hr1n13_16⟩) hHeld6 ?_
    case hr1n13_16 => (intro w hSw; (try dsimp only at hSw); go_simp; try (with_reducible rfl))
    try simp only [List.getElem_toArray, List.getElem_cons_zero, List.getElem_cons_succ, Act.put, List.setIfInBounds_toArray, List.set_cons_zero, List.set_cons_succ]
    refine wpAnyH_take (i := 15) (oi := _) (v := ?vr1n15_17) rfl (by kernel_rfl) (by kernel_rfl) (by kernel_rfl) (fun _ _ _ h => h) (Or.inl ⟨by kernel_rfl, ?hr1n15_17⟩) hHeld6 ?_
    case hr1n15_17 => (intro w hSw; (try dsimp only at hSw); go_simp; try (with_reducible rfl))
    try simp only [List.getElem_toArray, List.getElem_cons_zero, List.getElem_cons_succ, Act.put, List.setIfInBounds_toArray, List.set_cons_zero, List.set_cons_succ]
    refine wpAnyH_ready (rs := [16]) (by kernel_rfl) (by simp) ?_
    refine AllReadyH.cons (o := _) rfl (fun K hK => ?_) AllReadyH.nil
    go_simp
    (go_at_call 39; with_reducible refine (HSum.out _).mono ?_; rintro e v5 ⟨rfl, rfl⟩)
    refine hK.out _ _ ?_ (fun hHeld7 => ?_)
    · (first | exact hHeld6)
    clear hHeld6 hK K
    try simp only [List.getElem_toArray, List.getElem_cons_zero, List.getElem_cons_succ, Act.put, List.setIfInBounds_toArray, List.set_cons_zero, List.set_cons_succ]
    refine wpAnyH_take (i := 17) (oi := _) (v := ?vr1n17_18) rfl (by kernel_rfl) (by kernel_rfl) (by kernel_rfl) (fun _ _ _ h => h) (Or.inl ⟨by kernel_rfl, ?hr1n17_18⟩) hHeld7 ?_
    case hr1n17_18 => (intro w hSw; (try dsimp only at hSw); go_simp; try (with_reducible rfl))
    try simp only [List.getElem_toArray, List.getElem_cons_zero, List.getElem_cons_succ, Act.put, List.setIfInBounds_toArray, List.set_cons_zero, List.set_cons_succ]
    refine wpAnyH_done (by kernel_rfl) ?_ _
    refine NoPanic.normal ?_
    go_wp2
    go_ret
    exact ⟨rfl, (And.left hHeld7).bel⟩
  refine AllReadyH.cons (o := _) rfl (fun K hK => ?_) AllReadyH.nil
  go_simp
  (go_at_call 28; with_reducible refine (HBig.out _).mono ?_; rintro e v2 ⟨rfl, hb0⟩; have HB2 := Lib.hid hb0; clear hb0)
  refine hK.out _ _ ?_ (fun hHeld8 => ?_)
  · (first | exact ((And.left hHeld).step HB2.out).q HL.out)
  clear hHeld hK K
  try simp only [List.getElem_toArray, List.getElem_cons_zero, List.getElem_cons_succ, Act.put, List.setIfInBounds_toArray, List.set_cons_zero, List.set_cons_succ]
  refine wpAnyH_ready (rs := [6]) (by kernel_rfl) (by simp) ?_
  refine AllReadyH.cons (o := _) rfl (fun K hK => ?_) AllReadyH.nil
  go_simp
  (have HY3 := Lib.hid (byt_lit v2 5 [6] #[.int .u8 6] rfl))
  refine hK.out _ _ ?_ (fun hHeld9 => ?_)
  · (first | exact (And.left hHeld8).alloc _ |>.q HL.out)
  clear hHeld8 hK K
  try simp only [List.getElem_toArray, List.getElem_cons_zero, List.getElem_cons_succ, Act.put, List.setIfInBounds_toArray, List.set_cons_zero, List.set_cons_succ]
  refine wpAnyH_ready (rs := [7]) (by kernel_rfl) (by simp) ?_
  refine AllReadyH.cons (o := _) rfl (fun K hK => ?_) AllReadyH.nil
  (have hcv4 := byt_conv HY3.out (n := 1) rfl 1)
  go_simp
  (clear hcv4)
  refine hK.out _ _ ?_ (fun hHeld10 => ?_)
  · (first | exact hHeld9)
  clear hHeld9 hK K
  try simp only [List.getElem_toArray, List.getElem_cons_zero, List.getElem_cons_succ, Act.put, List.setIfInBounds_toArray, List.set_cons_zero, List.set_cons_succ]
  refine wpAnyH_take (i := 8) (oi := _) (v := ?vr1n8_19) rfl (by kernel_rfl) (by kernel_rfl) (by kernel_rfl) (fun _ _ _ h => h) (Or.inl ⟨by kernel_rfl, ?hr1n8_19⟩) hHeld10 ?_
  case hr1n8_19 => (intro w hSw; (try dsimp only at hSw); go_simp; try (with_reducible rfl))
  try simp only [List.getElem_toArray, List.getElem_cons_zero, List.getElem_cons_succ, Act.put, List.setIfInBounds_toArray, List.set_cons_zero, List.set_cons_succ]
  refine wpAnyH_take (i := 13) (oi := _) (v := ?vr1n13_20) rfl (by kernel_rfl) (by kernel_rfl) (by kernel_rfl) (fun _ _ _ h => h) (Or.inl ⟨by kernel_rfl, ?hr1n13_20⟩) hHeld10 ?_
  case hr1n13_20 => (intro w hSw; (try dsimp only at hSw); go_simp; try (with_reducible rfl))
  try simp only [List.getElem_toArray, List.getElem_cons_zero, List.getElem_cons_succ, Act.put, List.setIfInBounds_toArray, List.set_cons_zero, List.set_cons_succ]
  refine wpAnyH_take (i := 15) (oi := _) (v := ?vr1n15_21) rfl (by kernel_rfl) (by kernel_rfl) (by kernel_rfl) (fun _ _ _ h => h) (Or.inl ⟨by kernel_rfl, ?hr1n15_21⟩) hHeld10 ?_
  case hr1n15_21 => (intro w hSw; (try dsimp only at hSw); go_simp; try (with_reducible rfl))
  try simp only [List.getElem_toArray, List.getElem_cons_zero, List.getElem_cons_succ, Act.put, List.setIfInBounds_toArray, List.set_cons_zero, List.set_cons_succ]
  refine wpAnyH_ready (rs := [16]) (by kernel_rfl) (by simp) ?_
  refine AllReadyH.cons (o := _) rfl (fun K hK => ?_) AllReadyH.nil
  go_simp
  (go_at_call 39; with_reducible refine (HSum.out _).mono ?_; rintro e v5 ⟨rfl, rfl⟩)
  refine hK.out _ _ ?_ (fun hHeld11 => ?_)
  · (first | exact hHeld10)
  clear hHeld10 hK K
  try simp only [List.getElem_toArray, List.getElem_cons_zero, List.getElem_cons_succ, Act.put, List.setIfInBounds_toArray, List.set_cons_zero, List.set_cons_succ]
  refine wpAnyH_take (i := 17) (oi := _) (v := ?vr1n17_22) rfl (by kernel_rfl) (by kernel_rfl) (by kernel_rfl) (fun _ _ _ h => h) (Or.inl ⟨by kernel_rfl, ?hr1n17_22⟩) hHeld11 ?_
  case hr1n17_22 => (intro w hSw; (try dsimp only at hSw); go_simp; try (with_reducible rfl))
  try simp only [List.getElem_toArray, List.getElem_cons_zero, List.getElem_cons_succ, Act.put, List.setIfInBounds_toArray, List.set_cons_zero, List.set_cons_succ]
  refine wpAnyH_done (by kernel_rfl) ?_ _
  refine NoPanic.normal ?_
  go_wp2
  go_ret
  exact ⟨rfl, (And.left hHeld11).bel⟩
end Go.Proofs.Ytccbgiapabkjbaa
