/- What package seg's Bytes computes. -/
import Derived.Test.YtccbgiapabkjbaaSgS
namespace Go.Proofs.Ytccbgiapabkjbaa
set_option linter.unusedVariables false
set_option linter.unusedSimpArgs false
set_option maxRecDepth 100000
open Go.RowKit
attribute [local go_sem ↓] Go.wp_at_zero Go.wp_at_succ
attribute [local go_sem ↓] ld_sg ld_ip

def bq (n : Int) : List UInt8 := (litN n 4).reverse
theorem bq_len (n : Int) : (bq n).length = 4 := by unfold bq; rw [be4]; rfl
def sgOpt (ms : Int) : List UInt8 := if ms = 0 then [] else [2, 4] ++ be ms.toNat
def sgAhead (fr tp sq ak fl wi : Int) (n : Nat) : List UInt8 := be fr.toNat ++ be tp.toNat ++ bq sq ++ bq ak ++ [UInt8.ofNat (4 * (20 + n)), UInt8.ofNat fl.toNat] ++ be wi.toNat
def sgBehind (ms : Int) (d : List UInt8) : List UInt8 := [0, 0] ++ sgOpt ms ++ d
def sgOut (f t : List UInt8) (fr tp sq ak fl wi ms : Int) (d : List UInt8) : List UInt8 :=
  sgAhead fr tp sq ak fl wi (sgOpt ms).length ++ be (sgS f t (sgAhead fr tp sq ak fl wi (sgOpt ms).length ++ [0, 0] ++ sgBehind ms d)).toNat ++ sgBehind ms d
/-- a segment's bytes, or why it has none -/
def sgBytes (f t : List UInt8) (fr tp sq ak fl wi ms : Int) (d : List UInt8) : List UInt8 × Int :=
  if sgMay fr tp fl wi ms = false then ([], 1) else if 546 < (sgOpt ms).length + d.length then ([], 3) else (sgOut f t fr tp sq ak fl wi ms d, 0)

theorem u8in' (x : Int) (h : 0 ≤ x ∧ x ≤ 255) : IntKind.u8.wrap x = x := by
  simp [IntKind.wrap, IntKind.bits, IntKind.signed]; omega
theorem u64in' (x : Int) (h : 0 ≤ x ∧ x ≤ 18446744073709551615) : IntKind.u64.wrap x = x := by
  simp [IntKind.wrap, IntKind.bits, IntKind.signed]; omega
theorem u8of' (x : Int) (h : 0 ≤ x ∧ x ≤ 255) : x = ((UInt8.ofNat x.toNat).toNat : Int) := by
  rw [ofNat_toNat _ (by omega)]; omega

theorem sgBig_any (n : Int) (h : 0 ≤ n ∧ n ≤ 65535) (w : World) :
    Calls Try.prog 30 #[.int .i64 n] w fun e w' => e = .returned (.string ⟨(be n.toNat).toArray⟩) ∧ Below w.heap.size w w' := by
  have hB := fun w => big_any w n 2 (by omega)
  have e : (litN n 2).reverse = be n.toNat := by
    obtain ⟨m, rfl⟩ := Int.eq_ofNat_of_zero_le h.1
    rw [Int.toNat_natCast]
    exact be_lit m
  rw [e] at hB
  have HB := Lib.hid hB
  have hu := u64in' n (by omega)
  clear hB e
  go_enter Try.func30, Try.ntmps30
  go_wp2_with fail
  refine (HB.out _).mono ?_
  rintro e w1 ⟨rfl, hb1⟩
  have HB1 := Lib.hid hb1
  clear hb1
  go_wp2
  go_ret
  exact ⟨rfl, HB1.out⟩

/-- the segment's and the addresses' blocks, and what was there before -/
structure SgQ (w0 : World) (f t : List UInt8) (C : Array Value) (w : World) : Prop where
  s : Blk w w0.heap.size 29 C
  f : Blk w (w0.heap.size + 1) 23 (f.map ubv).toArray
  t : Blk w (w0.heap.size + 1 + 1) 23 (t.map ubv).toArray
  bel : Below w0.heap.size w0 w
theorem SgQ.step {w0 w w' : World} {f t : List UInt8} {C : Array Value} (h : SgQ w0 f t C w) (k : Below w.heap.size w w') : SgQ w0 f t C w' := ⟨h.s.step k, h.f.step k, h.t.step k, Below.step h.bel k⟩
theorem SgQ.drew {w0 w : World} {f t : List UInt8} {C : Array Value} (h : SgQ w0 f t C w) : SgQ w0 f t C w.drew := ⟨h.s.drew, h.f.drew, h.t.drew, h.bel.drew⟩
theorem SgQ.alloc {w0 w : World} {f t : List UInt8} {C : Array Value} (h : SgQ w0 f t C w) (o : Obj) : SgQ w0 f t C (w.alloc o) := ⟨h.s.alloc o, h.f.alloc o, h.t.alloc o, h.bel.alloc h.bel.size o⟩
theorem SgQ.allocD {w0 w : World} {f t : List UInt8} {C : Array Value} (h : SgQ w0 f t C w.drew) (o : Obj) : SgQ w0 f t C (w.alloc o).drew := ⟨h.s.alloc o, h.f.alloc o, h.t.alloc o, h.bel.alloc h.bel.size o⟩
theorem sgq_new (w : World) (f t : List UInt8) (C : Array Value) : SgQ w f t C (((w.alloc (.cells C 29)).alloc (.cells (f.map ubv).toArray 23)).alloc (.cells (t.map ubv).toArray 23)) := by
  refine ⟨((Blk.new w 29 C 0 0 (Or.inl (Nat.le_refl _))).alloc _).alloc _, ?_, ?_, (((Below.refl _ w).alloc (Nat.le_refl _) _).alloc (by simp) _).alloc (by simp; omega) _⟩
  · have := (Blk.new (w.alloc (.cells C 29)) 23 (f.map ubv).toArray 0 0 (Or.inl (Nat.le_refl _))).alloc (.cells (t.map ubv).toArray 23)
    rw [size_alloc] at this
    exact this
  · have := Blk.new ((w.alloc (.cells C 29)).alloc (.cells (f.map ubv).toArray 23)) 23 (t.map ubv).toArray 0 0 (Or.inl (Nat.le_refl _))
    rw [size_alloc, size_alloc] at this
    exact this
/-- the sequence of cells that a drawn region loads -/
def SgR (w0 : World) (f t : List UInt8) (fr tp sq ak fl wi ms : Int) (d : List UInt8) (w : World) : Prop :=
  SgQ w0 f t (sgC fr tp sq ak fl wi ms d) w ∧ w.cell? ⟨w0.heap.size, 0, none⟩ = some (.int .i64 fr) ∧ w.cell? ⟨w0.heap.size, 1, none⟩ = some (.int .i64 tp) ∧ w.cell? ⟨w0.heap.size, 2, none⟩ = some (.int .u32 sq) ∧ w.cell? ⟨w0.heap.size, 3, none⟩ = some (.int .u32 ak) ∧
    w.cell? ⟨w0.heap.size, 4, none⟩ = some (.int .i64 fl) ∧ w.cell? ⟨w0.heap.size, 5, none⟩ = some (.int .i64 wi) ∧ w.cell? ⟨w0.heap.size, 6, none⟩ = some (.int .i64 ms)
theorem SgQ.r {w0 w : World} {f t : List UInt8} {fr tp sq ak fl wi ms : Int} {d : List UInt8} (h : SgQ w0 f t (sgC fr tp sq ak fl wi ms d) w) : SgR w0 f t fr tp sq ak fl wi ms d w :=
  ⟨h, (sg_at h.s).fr, (sg_at h.s).tp, (sg_at h.s).sq, (sg_at h.s).ak, (sg_at h.s).fl, (sg_at h.s).wi, (sg_at h.s).ms⟩

/-- the options' bytes, whatever the number is -/
def sgRaw (ms : Int) : List UInt8 := if ms = 0 then [] else [2, 4] ++ (litN (IntKind.u64.wrap ms) 2).reverse
theorem raw_len (ms : Int) : (sgRaw ms).length = 0 ∨ (sgRaw ms).length = 4 := by
  unfold sgRaw
  split
  · exact Or.inl rfl
  · right
    rw [litN, if_pos (by omega)]
    simp [lit]
theorem raw_opt (ms : Int) (h : sgTwo ms = true) : sgRaw ms = sgOpt ms := by
  have h' := sgTwo_yes h
  unfold sgRaw sgOpt
  split
  · rfl
  · rw [u64in' ms (by omega)]
    obtain ⟨m, rfl⟩ := Int.eq_ofNat_of_zero_le h'.1
    rw [Int.toNat_natCast, be_lit]
theorem sgMay_yes {fr tp fl wi ms : Int} (h : sgMay fr tp fl wi ms = true) : (0 ≤ fr ∧ fr ≤ 65535) ∧ (0 ≤ tp ∧ tp ≤ 65535) ∧ (0 ≤ wi ∧ wi ≤ 65535) ∧ sgTwo ms = true ∧ 0 ≤ fl ∧ fl ≤ 31 ∧ (ms = 0 ∨ sgF fl 2 = true) := by
  simp only [sgMay, Bool.and_eq_true, Bool.or_eq_true, decide_eq_true_eq] at h
  obtain ⟨h1, h2, h3, h4, h5, h6, h7⟩ := h
  exact ⟨sgTwo_yes h1, sgTwo_yes h2, sgTwo_yes h3, h4, h5, h6, h7⟩

set_option maxHeartbeats 4000000 in
theorem sgBytes_any (f t : List UInt8) (hL : IpL f t) (fr tp sq ak fl wi ms : Int) (d : List UInt8) (hms : -9223372036854775808 ≤ ms ∧ ms ≤ 9223372036854775807) (hsq : 0 ≤ sq ∧ sq ≤ 4294967295) (hak : 0 ≤ ak ∧ ak ≤ 4294967295) (hd : d.length ≤ 9223372036854775000) (w : World) :
    Calls Try.prog 13 #[.agg (sgC fr tp sq ak fl wi ms d), arrV f, arrV t] w fun e w' => e = .returned (.tuple #[.string ⟨(sgBytes f t fr tp sq ak fl wi ms d).1.toArray⟩, .int .i64 (sgBytes f t fr tp sq ak fl wi ms d).2]) ∧ Below w.heap.size w w' := by
  have HQ := Lib.hid (sgq_new w f t (sgC fr tp sq ak fl wi ms d))
  have HL := Lib.hid hL
  obtain ⟨O, hO⟩ : ∃ O, O = sgRaw ms := ⟨_, rfl⟩
  have HO := Lib.hid hO
  have HMay := Lib.hid (fun w => sgMay_any w fr tp sq ak fl wi ms d)
  have hln : O.length = 0 ∨ O.length = 4 := by rw [hO]; exact raw_len ms
  clear hO
  go_enter Try.func13, Try.ntmps13
  go_upto_region 1 with fail
  generalize World.alloc _ _ = w1 at HQ ⊢
  have hR := HQ.out.r
  have HR := Lib.hid hR
  obtain ⟨-, c0, c1, c2, c3, c4, c5, c6⟩ := hR
  have c7 := (sg_at HQ.out.s).d
  have dl := HQ.out.s.ld_sg
  go_upto_if 14 with fail
  go_cut [8] from 12 to 21 (fun x wx => x = .string ⟨O.toArray⟩ ∧ SgQ w f t (sgC fr tp sq ak fl wi ms d) wx)
  case first =>
    by_cases h0 : ms = 0
    · have h0' : (ms != 0) = false := by simpa using h0
      have hO0 : O = [] := by rw [HO.out, h0]; rfl
      have HO0 := Lib.hid hO0
      clear hO0
      go_wp2_with fail
      go_meet
      exact ⟨by rw [HO0.out], HQ.out⟩
    · have h0' : (ms != 0) = true := by simpa using h0
      have hO0 : O = [2, 4] ++ (litN (IntKind.u64.wrap ms) 2).reverse := by rw [HO.out, sgRaw, if_neg h0]
      have hB := fun w => big_any w (IntKind.u64.wrap ms) 2 (by simp [IntKind.wrap, IntKind.bits, IntKind.signed]; omega)
      generalize (litN (IntKind.u64.wrap ms) 2).reverse = L at hO0 hB
      have hL4 : L.length = 2 := by rcases hln with h | h <;> (rw [hO0] at h; simp at h; try omega)
      have HB := Lib.hid hB
      have HO0 := Lib.hid hO0
      clear hB hO0 hln
      go_upto_region 3 with fail
      clear c0 c1 c2 c3 c4 c5 c7 dl
      refine wp_region_noPanic ?_
      refine wp_region_held_drew (S := (fun w' => SgQ w f t (sgC fr tp sq ak fl wi ms d) w' ∧ w'.cell? ⟨w.heap.size, 0, none⟩ = some (.int .i64 fr) ∧ w'.cell? ⟨w.heap.size, 1, none⟩ = some (.int .i64 tp) ∧ w'.cell? ⟨w.heap.size, 2, none⟩ = some (.int .u32 sq) ∧ w'.cell? ⟨w.heap.size, 3, none⟩ = some (.int .u32 ak) ∧ w'.cell? ⟨w.heap.size, 4, none⟩ = some (.int .i64 fl) ∧ w'.cell? ⟨w.heap.size, 5, none⟩ = some (.int .i64 wi) ∧ w'.cell? ⟨w.heap.size, 6, none⟩ = some (.int .i64 ms))) (by kernel_rfl) (by first | exact HQ.out.drew.r) (fun hHeld => ?_)
      refine wpAnyH_take (i := 2) (oi := _) (v := ?vr1n2_1) rfl (by kernel_rfl) (by kernel_rfl) (by kernel_rfl) (fun _ _ _ h => h) (Or.inl ⟨by kernel_rfl, ?hr1n2_1⟩) hHeld ?_
      case hr1n2_1 => (intro w hSw; (try dsimp only at hSw); go_simp; try (with_reducible rfl))
      try simp only [List.getElem_toArray, List.getElem_cons_zero, List.getElem_cons_succ, Act.put, List.setIfInBounds_toArray, List.set_cons_zero, List.set_cons_succ]
      refine wpAnyH_take (i := 3) (oi := _) (v := ?vr1n3_2) rfl (by kernel_rfl) (by kernel_rfl) (by kernel_rfl) (fun _ _ _ h => h) (Or.inl ⟨by kernel_rfl, ?hr1n3_2⟩) hHeld ?_
      case hr1n3_2 => (intro w hSw; (try dsimp only at hSw); go_simp; try (with_reducible rfl))
      try simp only [List.getElem_toArray, List.getElem_cons_zero, List.getElem_cons_succ, Act.put, List.setIfInBounds_toArray, List.set_cons_zero, List.set_cons_succ]
      refine wpAnyH_take (i := 4) (oi := _) (v := ?vr1n4_3) rfl (by kernel_rfl) (by kernel_rfl) (by kernel_rfl) (fun _ _ _ h => h) (Or.inl ⟨by kernel_rfl, ?hr1n4_3⟩) hHeld ?_
      case hr1n4_3 => (intro w hSw; (try dsimp only at hSw); go_simp; try (with_reducible rfl))
      try simp only [List.getElem_toArray, List.getElem_cons_zero, List.getElem_cons_succ, Act.put, List.setIfInBounds_toArray, List.set_cons_zero, List.set_cons_succ]
      refine wpAnyH_ready (rs := [0, 5]) (by kernel_rfl) (by simp) ?_
      refine AllReadyH.cons (o := _) rfl (fun K hK => ?_) ?_
      · skip
        go_simp
        (have HY2 := Lib.hid (byt_litD w1 5 [2, 4] #[.int .u8 2, .int .u8 4] rfl))
        refine hK.out _ _ ?_ (fun hHeld1 => ?_)
        · (first | exact (SgQ.allocD (And.left hHeld) _).r)
        clear hHeld hK K
        try simp only [List.getElem_toArray, List.getElem_cons_zero, List.getElem_cons_succ, Act.put, List.setIfInBounds_toArray, List.set_cons_zero, List.set_cons_succ]
        refine wpAnyH_ready (rs := [1, 5]) (by kernel_rfl) (by simp) ?_
        refine AllReadyH.cons (o := _) rfl (fun K hK => ?_) ?_
        · skip
          (have hcv3 := byt_conv HY2.out (n := 2) rfl 2)
          go_simp
          (clear hcv3)
          refine hK.out _ _ ?_ (fun hHeld2 => ?_)
          · (first | exact hHeld1)
          clear hHeld1 hK K
          try simp only [List.getElem_toArray, List.getElem_cons_zero, List.getElem_cons_succ, Act.put, List.setIfInBounds_toArray, List.set_cons_zero, List.set_cons_succ]
          refine wpAnyH_ready (rs := [5]) (by kernel_rfl) (by simp) ?_
          refine AllReadyH.cons (o := _) rfl (fun K hK => ?_) AllReadyH.nil
          go_simp
          (go_at_call 28; with_reducible refine (HB.out _).mono ?_; rintro e v4 ⟨rfl, hb0⟩; have HB4 := Lib.hid hb0; clear hb0)
          refine hK.out _ _ ?_ (fun hHeld3 => ?_)
          · (first | exact ((And.left hHeld2).step HB4.out).r)
          clear hHeld2 hK K
          try simp only [List.getElem_toArray, List.getElem_cons_zero, List.getElem_cons_succ, Act.put, List.setIfInBounds_toArray, List.set_cons_zero, List.set_cons_succ]
          refine wpAnyH_take (i := 6) (oi := _) (v := ?vr1n6_4) rfl (by kernel_rfl) (by kernel_rfl) (by kernel_rfl) (fun _ _ _ h => h) (Or.inl ⟨by kernel_rfl, ?hr1n6_4⟩) hHeld3 ?_
          case hr1n6_4 => (intro w hSw; (try dsimp only at hSw); go_simp; try (with_reducible rfl))
          try simp only [List.getElem_toArray, List.getElem_cons_zero, List.getElem_cons_succ, Act.put, List.setIfInBounds_toArray, List.set_cons_zero, List.set_cons_succ]
          refine wpAnyH_take (i := 7) (oi := _) (v := ?vr1n7_5) rfl (by kernel_rfl) (by kernel_rfl) (by kernel_rfl) (fun _ _ _ h => h) (Or.inl ⟨by kernel_rfl, ?hr1n7_5⟩) hHeld3 ?_
          case hr1n7_5 => (intro w hSw; (try dsimp only at hSw); go_simp; try (with_reducible rfl))
          try simp only [List.getElem_toArray, List.getElem_cons_zero, List.getElem_cons_succ, Act.put, List.setIfInBounds_toArray, List.set_cons_zero, List.set_cons_succ]
          refine wpAnyH_done (by kernel_rfl) ?_ _
          refine NoPanic.normal ?_
          (go_wp2_with fail; go_meet; exact ⟨by rw [HO0.out, ← str_append], And.left hHeld3⟩)
        refine AllReadyH.cons (o := _) rfl (fun K hK => ?_) AllReadyH.nil
        go_simp
        (go_at_call 28; with_reducible refine (HB.out _).mono ?_; rintro e v3 ⟨rfl, hb0⟩; have HB3 := Lib.hid hb0; clear hb0; have HY3 := Lib.hid (HY2.out.step HB3.out))
        refine hK.out _ _ ?_ (fun hHeld4 => ?_)
        · (first | exact ((And.left hHeld1).step HB3.out).r)
        clear hHeld1 hK K
        try simp only [List.getElem_toArray, List.getElem_cons_zero, List.getElem_cons_succ, Act.put, List.setIfInBounds_toArray, List.set_cons_zero, List.set_cons_succ]
        refine wpAnyH_ready (rs := [1]) (by kernel_rfl) (by simp) ?_
        refine AllReadyH.cons (o := _) rfl (fun K hK => ?_) AllReadyH.nil
        (have hcv4 := byt_conv HY3.out (n := 2) rfl 2)
        go_simp
        (clear hcv4)
        refine hK.out _ _ ?_ (fun hHeld5 => ?_)
        · (first | exact hHeld4)
        clear hHeld4 hK K
        try simp only [List.getElem_toArray, List.getElem_cons_zero, List.getElem_cons_succ, Act.put, List.setIfInBounds_toArray, List.set_cons_zero, List.set_cons_succ]
        refine wpAnyH_take (i := 6) (oi := _) (v := ?vr1n6_6) rfl (by kernel_rfl) (by kernel_rfl) (by kernel_rfl) (fun _ _ _ h => h) (Or.inl ⟨by kernel_rfl, ?hr1n6_6⟩) hHeld5 ?_
        case hr1n6_6 => (intro w hSw; (try dsimp only at hSw); go_simp; try (with_reducible rfl))
        try simp only [List.getElem_toArray, List.getElem_cons_zero, List.getElem_cons_succ, Act.put, List.setIfInBounds_toArray, List.set_cons_zero, List.set_cons_succ]
        refine wpAnyH_take (i := 7) (oi := _) (v := ?vr1n7_7) rfl (by kernel_rfl) (by kernel_rfl) (by kernel_rfl) (fun _ _ _ h => h) (Or.inl ⟨by kernel_rfl, ?hr1n7_7⟩) hHeld5 ?_
        case hr1n7_7 => (intro w hSw; (try dsimp only at hSw); go_simp; try (with_reducible rfl))
        try simp only [List.getElem_toArray, List.getElem_cons_zero, List.getElem_cons_succ, Act.put, List.setIfInBounds_toArray, List.set_cons_zero, List.set_cons_succ]
        refine wpAnyH_done (by kernel_rfl) ?_ _
        refine NoPanic.normal ?_
        (go_wp2_with fail; go_meet; exact ⟨by rw [HO0.out, ← str_append], And.left hHeld5⟩)
      refine AllReadyH.cons (o := _) rfl (fun K hK => ?_) AllReadyH.nil
      go_simp
      (go_at_call 28; with_reducible refine (HB.out _).mono ?_; rintro e v2 ⟨rfl, hb0⟩; have HB2 := Lib.hid hb0; clear hb0)
      refine hK.out _ _ ?_ (fun hHeld6 => ?_)
      · (first | exact ((And.left hHeld).step HB2.out).r)
      clear hHeld hK K
      try simp only [List.getElem_toArray, List.getElem_cons_zero, List.getElem_cons_succ, Act.put, List.setIfInBounds_toArray, List.set_cons_zero, List.set_cons_succ]
      refine wpAnyH_ready (rs := [0]) (by kernel_rfl) (by simp) ?_
      refine AllReadyH.cons (o := _) rfl (fun K hK => ?_) AllReadyH.nil
      go_simp
      (have HY3 := Lib.hid (byt_lit v2 5 [2, 4] #[.int .u8 2, .int .u8 4] rfl))
      refine hK.out _ _ ?_ (fun hHeld7 => ?_)
      · (first | exact ((And.left hHeld6).alloc _).r)
      clear hHeld6 hK K
      try simp only [List.getElem_toArray, List.getElem_cons_zero, List.getElem_cons_succ, Act.put, List.setIfInBounds_toArray, List.set_cons_zero, List.set_cons_succ]
      refine wpAnyH_ready (rs := [1]) (by kernel_rfl) (by simp) ?_
      refine AllReadyH.cons (o := _) rfl (fun K hK => ?_) AllReadyH.nil
      (have hcv4 := byt_conv HY3.out (n := 2) rfl 2)
      go_simp
      (clear hcv4)
      refine hK.out _ _ ?_ (fun hHeld8 => ?_)
      · (first | exact hHeld7)
      clear hHeld7 hK K
      try simp only [List.getElem_toArray, List.getElem_cons_zero, List.getElem_cons_succ, Act.put, List.setIfInBounds_toArray, List.set_cons_zero, List.set_cons_succ]
      refine wpAnyH_take (i := 6) (oi := _) (v := ?vr1n6_8) rfl (by kernel_rfl) (by kernel_rfl) (by kernel_rfl) (fun _ _ _ h => h) (Or.inl ⟨by kernel_rfl, ?hr1n6_8⟩) hHeld8 ?_
      case hr1n6_8 => (intro w hSw; (try dsimp only at hSw); go_simp; try (with_reducible rfl))
      try simp only [List.getElem_toArray, List.getElem_cons_zero, List.getElem_cons_succ, Act.put, List.setIfInBounds_toArray, List.set_cons_zero, List.set_cons_succ]
      refine wpAnyH_take (i := 7) (oi := _) (v := ?vr1n7_9) rfl (by kernel_rfl) (by kernel_rfl) (by kernel_rfl) (fun _ _ _ h => h) (Or.inl ⟨by kernel_rfl, ?hr1n7_9⟩) hHeld8 ?_
      case hr1n7_9 => (intro w hSw; (try dsimp only at hSw); go_simp; try (with_reducible rfl))
      try simp only [List.getElem_toArray, List.getElem_cons_zero, List.getElem_cons_succ, Act.put, List.setIfInBounds_toArray, List.set_cons_zero, List.set_cons_succ]
      refine wpAnyH_done (by kernel_rfl) ?_ _
      refine NoPanic.normal ?_
      (go_wp2_with fail; go_meet; exact ⟨by rw [HO0.out, ← str_append], And.left hHeld8⟩)
  case rest =>
    obtain ⟨rfl, hS⟩ := hcut
    have HS := Lib.hid hS
    have c7' := (sg_at HS.out.s).d
    have dl' := HS.out.s.ld_sg
    clear hS c0 c1 c2 c3 c4 c5 c6 c7 dl
    have HMS := Lib.hid hms
    have HD := Lib.hid hd
    clear hms hd
    go_wp2_with fail
    refine (HMay.out _).mono ?_
    rintro e w2 ⟨rfl, hb2⟩
    have HS2 := Lib.hid (HS.out.step hb2)
    have c7 := (sg_at HS2.out.s).d
    clear hb2 c7' dl'
    by_cases hM : sgMay fr tp fl wi ms = false
    · rw [hM]
      have e1 : sgBytes f t fr tp sq ak fl wi ms d = ([], 1) := by rw [sgBytes, if_pos hM]
      have HE := Lib.hid e1
      clear hsq hak e1
      go_wp2
      go_ret2
      exact ⟨by rw [HE.out]; rfl, HS2.out.bel⟩
    have hM' : sgMay fr tp fl wi ms = true := by simpa using hM
    rw [hM']
    obtain ⟨⟨g1, g2⟩, ⟨g3, g4⟩, ⟨g5, g6⟩, g7, g8, g9, -⟩ := sgMay_yes hM'
    have hOO : O = sgOpt ms := HO.out.trans (raw_opt ms g7)
    have lw1 : IntKind.i64.wrap ((O.length : Int) + (d.length : Int)) = (O.length : Int) + (d.length : Int) := IntWalk.i64_in _ (by have := HD.out; omega)
    by_cases h5 : 546 < (O.length : Int) + (d.length : Int)
    · have e1 : sgBytes f t fr tp sq ak fl wi ms d = ([], 3) := by rw [sgBytes, if_neg hM, if_pos (by rw [← hOO]; omega)]
      have HE := Lib.hid e1
      clear hsq hak e1 hOO
      go_wp2
      go_ret2
      exact ⟨by rw [HE.out]; rfl, HS2.out.bel⟩
    have e1 : sgBytes f t fr tp sq ak fl wi ms d = (sgOut f t fr tp sq ak fl wi ms d, 0) := by rw [sgBytes, if_neg hM, if_neg (by rw [← hOO]; omega)]
    clear HMay
    have h5' : (O.length : Int) + (d.length : Int) ≤ 546 := by omega
    have hb1 := fun w => sgBig_any fr ⟨g1, g2⟩ w
    have hb2 := fun w => sgBig_any tp ⟨g3, g4⟩ w
    have hb3 := fun w => sgBig_any wi ⟨g5, g6⟩ w
    have hq1 := fun w => big_any w sq 4 (by omega)
    have hq2 := fun w => big_any w ak 4 (by omega)
    have u1 : IntKind.u64.wrap sq = sq := u64in' _ (by omega)
    have u2 : IntKind.u64.wrap ak = ak := u64in' _ (by omega)
    have u3 : IntKind.u8.wrap fl = fl := u8in' _ (by omega)
    obtain ⟨n1, hn1⟩ : ∃ n : Nat, n = 20 + O.length := ⟨_, rfl⟩
    obtain ⟨n2, hn2⟩ : ∃ n : Nat, n = n1 / 4 := ⟨_, rfl⟩
    obtain ⟨n3, hn3⟩ : ∃ n : Nat, n = n2 * 16 := ⟨_, rfl⟩
    have v1 : IntKind.i64.wrap (20 + (O.length : Int)) = (n1 : Int) := by rw [IntWalk.i64_in _ (by omega)]; omega
    have v2 : IntKind.i64.wrap ((n1 : Int) / 4) = (n2 : Int) := by rw [IntWalk.i64_in _ (by omega)]; omega
    have v3 : IntKind.i64.wrap ((n2 : Int) * 16) = (n3 : Int) := by rw [IntWalk.i64_in _ (by omega)]; omega
    have v4 : IntKind.u8.wrap (n3 : Int) = (n3 : Int) := u8in' _ (by omega)
    have v5 : UInt8.ofNat (4 * (20 + O.length)) = UInt8.ofNat n3 := by congr 1; omega
    have v6 : (n3 : Int) = ((UInt8.ofNat n3).toNat : Int) := by rw [ofNat_toNat _ (by omega)]
    have v7 := u8of' fl (by omega)
    have hout : sgOut f t fr tp sq ak fl wi ms d = sgAhead fr tp sq ak fl wi O.length ++ be (sgS f t (sgAhead fr tp sq ak fl wi O.length ++ [0, 0] ++ ([0, 0] ++ O ++ d))).toNat ++ ([0, 0] ++ O ++ d) := by
      rw [sgOut, sgBehind, ← hOO]
    have hah : sgAhead fr tp sq ak fl wi O.length = be fr.toNat ++ be tp.toNat ++ bq sq ++ bq ak ++ [UInt8.ofNat n3, UInt8.ofNat fl.toNat] ++ be wi.toNat := by rw [sgAhead, v5]
    have l1 : (be fr.toNat).length = 2 := rfl
    have l2 : (be tp.toNat).length = 2 := rfl
    have l3 : (be wi.toNat).length = 2 := rfl
    have l4 := bq_len sq
    have l5 := bq_len ak
    have hlA : (sgAhead fr tp sq ak fl wi O.length).length = 16 := by rw [hah]; simp only [List.length_append, l1, l2, l3, l4, l5, List.length_cons, List.length_nil]
    unfold bq at hah l4 l5
    generalize be fr.toNat = B1 at hb1 hah l1
    generalize be tp.toNat = B2 at hb2 hah l2
    generalize be wi.toNat = B3 at hb3 hah l3
    generalize (litN sq 4).reverse = B4 at hq1 hah l4
    generalize (litN ak 4).reverse = B5 at hq2 hah l5
    rw [hout] at e1
    generalize sgAhead fr tp sq ak fl wi O.length = AH at hah hlA e1
    generalize UInt8.ofNat n3 = y1 at hah v6
    generalize UInt8.ofNat fl.toNat = y2 at hah v7
    have TA1 := Lib.hid hb1
    have TA2 := Lib.hid hb2
    have TA3 := Lib.hid hb3
    have HQ1 := Lib.hid hq1
    have HQ2 := Lib.hid hq2
    have HAH := Lib.hid hah
    have V67 : RowKit.Hid ((#[Value.int .u8 (n3 : Int), Value.int .u8 fl] : Array Value) = (([y1, y2] : List UInt8).map ubv).toArray) := by
      show (#[Value.int .u8 (n3 : Int), Value.int .u8 fl] : Array Value) = #[.int .u8 (y1.toNat : Int), .int .u8 (y2.toNat : Int)]
      rw [← v6, ← v7]
    have HE := Lib.hid e1
    have HLN := Lib.hid (show O.length ≤ 4 by rcases hln with h | h <;> omega)
    clear e1 hb1 hb2 hb3 hq1 hq2 hah hout hOO v5 v6 v7 hn1 hn2 hn3 hln g1 g2 g3 g4 g5 g6 g7 g8 g9 hsq hak hM hM'
    go_upto_region 9 with fail
    go_cut [10] from 34 to 69 (fun x wx => x = .string ⟨AH.toArray⟩ ∧ SgQ w f t (sgC fr tp sq ak fl wi ms d) wx)
    case first =>
      clear c7
      refine wp_region_noPanic ?_
      refine wp_region_held_drew (S := (fun w' => SgQ w f t (sgC fr tp sq ak fl wi ms d) w' ∧ w'.cell? ⟨w.heap.size, 0, none⟩ = some (.int .i64 fr) ∧ w'.cell? ⟨w.heap.size, 1, none⟩ = some (.int .i64 tp) ∧ w'.cell? ⟨w.heap.size, 2, none⟩ = some (.int .u32 sq) ∧ w'.cell? ⟨w.heap.size, 3, none⟩ = some (.int .u32 ak) ∧ w'.cell? ⟨w.heap.size, 4, none⟩ = some (.int .i64 fl) ∧ w'.cell? ⟨w.heap.size, 5, none⟩ = some (.int .i64 wi) ∧ w'.cell? ⟨w.heap.size, 6, none⟩ = some (.int .i64 ms))) (by kernel_rfl) (by first | exact HS2.out.drew.r) (fun hHeld => ?_)
      refine wpAnyH_take (i := 0) (oi := _) (v := ?vr2n0_10) rfl (by kernel_rfl) (by kernel_rfl) (by kernel_rfl) (fun _ _ _ h => h) (Or.inl ⟨by kernel_rfl, ?hr2n0_10⟩) hHeld ?_
      case hr2n0_10 => (intro w hSw; (try dsimp only at hSw); go_simp; try (with_reducible rfl))
      try simp only [List.getElem_toArray, List.getElem_cons_zero, List.getElem_cons_succ, Act.put, List.setIfInBounds_toArray, List.set_cons_zero, List.set_cons_succ]
      refine wpAnyH_take (i := 1) (oi := _) (v := ?vr2n1_11) rfl (by kernel_rfl) (by kernel_rfl) (by kernel_rfl) (fun _ _ _ h => h) (Or.inl ⟨by kernel_rfl, ?hr2n1_11⟩) hHeld ?_
      case hr2n1_11 => (intro w hSw; (try dsimp only at hSw); go_simp; try (with_reducible rfl))
      try simp only [List.getElem_toArray, List.getElem_cons_zero, List.getElem_cons_succ, Act.put, List.setIfInBounds_toArray, List.set_cons_zero, List.set_cons_succ]
      refine wpAnyH_take (i := 2) (oi := _) (v := ?vr2n2_12) rfl (by kernel_rfl) (by kernel_rfl) (by kernel_rfl) (fun _ _ _ h => h) (Or.inl ⟨by kernel_rfl, ?hr2n2_12⟩) hHeld ?_
      case hr2n2_12 => (intro w hSw; (try dsimp only at hSw); go_simp; try (with_reducible rfl))
      try simp only [List.getElem_toArray, List.getElem_cons_zero, List.getElem_cons_succ, Act.put, List.setIfInBounds_toArray, List.set_cons_zero, List.set_cons_succ]
      refine wpAnyH_take (i := 4) (oi := _) (v := ?vr2n4_13) rfl (by kernel_rfl) (by kernel_rfl) (by kernel_rfl) (fun _ _ _ h => h) (Or.inl ⟨by kernel_rfl, ?hr2n4_13⟩) hHeld ?_
      case hr2n4_13 => (intro w hSw; (try dsimp only at hSw); go_simp; try (with_reducible rfl))
      try simp only [List.getElem_toArray, List.getElem_cons_zero, List.getElem_cons_succ, Act.put, List.setIfInBounds_toArray, List.set_cons_zero, List.set_cons_succ]
      refine wpAnyH_take (i := 5) (oi := _) (v := ?vr2n5_14) rfl (by kernel_rfl) (by kernel_rfl) (by kernel_rfl) (fun _ _ _ h => h) (Or.inl ⟨by kernel_rfl, ?hr2n5_14⟩) hHeld ?_
      case hr2n5_14 => (intro w hSw; (try dsimp only at hSw); go_simp; try (with_reducible rfl))
      try simp only [List.getElem_toArray, List.getElem_cons_zero, List.getElem_cons_succ, Act.put, List.setIfInBounds_toArray, List.set_cons_zero, List.set_cons_succ]
      refine wpAnyH_take (i := 6) (oi := _) (v := ?vr2n6_15) rfl (by kernel_rfl) (by kernel_rfl) (by kernel_rfl) (fun _ _ _ h => h) (Or.inl ⟨by kernel_rfl, ?hr2n6_15⟩) hHeld ?_
      case hr2n6_15 => (intro w hSw; (try dsimp only at hSw); go_simp; try (with_reducible rfl))
      try simp only [List.getElem_toArray, List.getElem_cons_zero, List.getElem_cons_succ, Act.put, List.setIfInBounds_toArray, List.set_cons_zero, List.set_cons_succ]
      refine wpAnyH_take (i := 9) (oi := _) (v := ?vr2n9_16) rfl (by kernel_rfl) (by kernel_rfl) (by kernel_rfl) (fun _ _ _ h => h) (Or.inl ⟨by kernel_rfl, ?hr2n9_16⟩) hHeld ?_
      case hr2n9_16 => (intro w hSw; (try dsimp only at hSw); go_simp; try (with_reducible rfl))
      try simp only [List.getElem_toArray, List.getElem_cons_zero, List.getElem_cons_succ, Act.put, List.setIfInBounds_toArray, List.set_cons_zero, List.set_cons_succ]
      refine wpAnyH_take (i := 10) (oi := _) (v := ?vr2n10_17) rfl (by kernel_rfl) (by kernel_rfl) (by kernel_rfl) (fun _ _ _ h => h) (Or.inl ⟨by kernel_rfl, ?hr2n10_17⟩) hHeld ?_
      case hr2n10_17 => (intro w hSw; (try dsimp only at hSw); go_simp; try (with_reducible rfl))
      try simp only [List.getElem_toArray, List.getElem_cons_zero, List.getElem_cons_succ, Act.put, List.setIfInBounds_toArray, List.set_cons_zero, List.set_cons_succ]
      refine wpAnyH_take (i := 11) (oi := _) (v := ?vr2n11_18) rfl (by kernel_rfl) (by kernel_rfl) (by kernel_rfl) (fun _ _ _ h => h) (Or.inl ⟨by kernel_rfl, ?hr2n11_18⟩) hHeld ?_
      case hr2n11_18 => (intro w hSw; (try dsimp only at hSw); go_simp; try (with_reducible rfl))
      try simp only [List.getElem_toArray, List.getElem_cons_zero, List.getElem_cons_succ, Act.put, List.setIfInBounds_toArray, List.set_cons_zero, List.set_cons_succ]
      refine wpAnyH_take (i := 14) (oi := _) (v := ?vr2n14_19) rfl (by kernel_rfl) (by kernel_rfl) (by kernel_rfl) (fun _ _ _ h => h) (Or.inl ⟨by kernel_rfl, ?hr2n14_19⟩) hHeld ?_
      case hr2n14_19 => (intro w hSw; (try dsimp only at hSw); go_simp; try (with_reducible rfl))
      try simp only [List.getElem_toArray, List.getElem_cons_zero, List.getElem_cons_succ, Act.put, List.setIfInBounds_toArray, List.set_cons_zero, List.set_cons_succ]
      refine wpAnyH_take (i := 15) (oi := _) (v := ?vr2n15_20) rfl (by kernel_rfl) (by kernel_rfl) (by kernel_rfl) (fun _ _ _ h => h) (Or.inl ⟨by kernel_rfl, ?hr2n15_20⟩) hHeld ?_
      case hr2n15_20 => (intro w hSw; (try dsimp only at hSw); go_simp; try (with_reducible rfl))
      try simp only [List.getElem_toArray, List.getElem_cons_zero, List.getElem_cons_succ, Act.put, List.setIfInBounds_toArray, List.set_cons_zero, List.set_cons_succ]
      refine wpAnyH_take (i := 16) (oi := _) (v := ?vr2n16_21) rfl (by kernel_rfl) (by kernel_rfl) (by kernel_rfl) (fun _ _ _ h => h) (Or.inl ⟨by kernel_rfl, ?hr2n16_21⟩) hHeld ?_
      case hr2n16_21 => (intro w hSw; (try dsimp only at hSw); go_simp; try (with_reducible rfl))
      try simp only [List.getElem_toArray, List.getElem_cons_zero, List.getElem_cons_succ, Act.put, List.setIfInBounds_toArray, List.set_cons_zero, List.set_cons_succ]
      refine wpAnyH_take (i := 19) (oi := _) (v := ?vr2n19_22) rfl (by kernel_rfl) (by kernel_rfl) (by kernel_rfl) (fun _ _ _ h => h) (Or.inl ⟨by kernel_rfl, ?hr2n19_22⟩) hHeld ?_
      case hr2n19_22 => (intro w hSw; (try dsimp only at hSw); go_simp; try (with_reducible rfl))
      try simp only [List.getElem_toArray, List.getElem_cons_zero, List.getElem_cons_succ, Act.put, List.setIfInBounds_toArray, List.set_cons_zero, List.set_cons_succ]
      refine wpAnyH_take (i := 20) (oi := _) (v := ?vr2n20_23) rfl (by kernel_rfl) (by kernel_rfl) (by kernel_rfl) (fun _ _ _ h => h) (Or.inl ⟨by kernel_rfl, ?hr2n20_23⟩) hHeld ?_
      case hr2n20_23 => (intro w hSw; (try dsimp only at hSw); go_simp; try (with_reducible rfl))
      try simp only [List.getElem_toArray, List.getElem_cons_zero, List.getElem_cons_succ, Act.put, List.setIfInBounds_toArray, List.set_cons_zero, List.set_cons_succ]
      refine wpAnyH_take (i := 21) (oi := _) (v := ?vr2n21_24) rfl (by kernel_rfl) (by kernel_rfl) (by kernel_rfl) (fun _ _ _ h => h) (Or.inl ⟨by kernel_rfl, ?hr2n21_24⟩) hHeld ?_
      case hr2n21_24 => (intro w hSw; (try dsimp only at hSw); go_simp; try (with_reducible rfl))
      try simp only [List.getElem_toArray, List.getElem_cons_zero, List.getElem_cons_succ, Act.put, List.setIfInBounds_toArray, List.set_cons_zero, List.set_cons_succ]
      refine wpAnyH_take (i := 22) (oi := _) (v := ?vr2n22_25) rfl (by kernel_rfl) (by kernel_rfl) (by kernel_rfl) (fun _ _ _ h => h) (Or.inl ⟨by kernel_rfl, ?hr2n22_25⟩) hHeld ?_
      case hr2n22_25 => (intro w hSw; (try dsimp only at hSw); go_simp; try (with_reducible rfl))
      try simp only [List.getElem_toArray, List.getElem_cons_zero, List.getElem_cons_succ, Act.put, List.setIfInBounds_toArray, List.set_cons_zero, List.set_cons_succ]
      refine wpAnyH_take (i := 23) (oi := _) (v := ?vr2n23_26) rfl (by kernel_rfl) (by kernel_rfl) (by kernel_rfl) (fun _ _ _ h => h) (Or.inl ⟨by kernel_rfl, ?hr2n23_26⟩) hHeld ?_
      case hr2n23_26 => (intro w hSw; (try dsimp only at hSw); go_simp; try (with_reducible rfl))
      try simp only [List.getElem_toArray, List.getElem_cons_zero, List.getElem_cons_succ, Act.put, List.setIfInBounds_toArray, List.set_cons_zero, List.set_cons_succ]
      refine wpAnyH_take (i := 24) (oi := _) (v := ?vr2n24_27) rfl (by kernel_rfl) (by kernel_rfl) (by kernel_rfl) (fun _ _ _ h => h) (Or.inl ⟨by kernel_rfl, ?hr2n24_27⟩) hHeld ?_
      case hr2n24_27 => (intro w hSw; (try dsimp only at hSw); go_simp; try (with_reducible rfl))
      try simp only [List.getElem_toArray, List.getElem_cons_zero, List.getElem_cons_succ, Act.put, List.setIfInBounds_toArray, List.set_cons_zero, List.set_cons_succ]
      refine wpAnyH_take (i := 25) (oi := _) (v := ?vr2n25_28) rfl (by kernel_rfl) (by kernel_rfl) (by kernel_rfl) (fun _ _ _ h => h) (Or.inl ⟨by kernel_rfl, ?hr2n25_28⟩) hHeld ?_
      case hr2n25_28 => (intro w hSw; (try dsimp only at hSw); go_simp; try (with_reducible rfl))
      try simp only [List.getElem_toArray, List.getElem_cons_zero, List.getElem_cons_succ, Act.put, List.setIfInBounds_toArray, List.set_cons_zero, List.set_cons_succ]
      refine wpAnyH_take (i := 26) (oi := _) (v := ?vr2n26_29) rfl (by kernel_rfl) (by kernel_rfl) (by kernel_rfl) (fun _ _ _ h => h) (Or.inl ⟨by kernel_rfl, ?hr2n26_29⟩) hHeld ?_
      case hr2n26_29 => (intro w hSw; (try dsimp only at hSw); go_simp; try (with_reducible rfl))
      try simp only [List.getElem_toArray, List.getElem_cons_zero, List.getElem_cons_succ, Act.put, List.setIfInBounds_toArray, List.set_cons_zero, List.set_cons_succ]
      refine wpAnyH_take (i := 27) (oi := _) (v := ?vr2n27_30) rfl (by kernel_rfl) (by kernel_rfl) (by kernel_rfl) (fun _ _ _ h => h) (Or.inl ⟨by kernel_rfl, ?hr2n27_30⟩) hHeld ?_
      case hr2n27_30 => (intro w hSw; (try dsimp only at hSw); go_simp; try (with_reducible rfl))
      try simp only [List.getElem_toArray, List.getElem_cons_zero, List.getElem_cons_succ, Act.put, List.setIfInBounds_toArray, List.set_cons_zero, List.set_cons_succ]
      refine wpAnyH_take (i := 31) (oi := _) (v := ?vr2n31_31) rfl (by kernel_rfl) (by kernel_rfl) (by kernel_rfl) (fun _ _ _ h => h) (Or.inl ⟨by kernel_rfl, ?hr2n31_31⟩) hHeld ?_
      case hr2n31_31 => (intro w hSw; (try dsimp only at hSw); go_simp; try (with_reducible rfl))
      try simp only [List.getElem_toArray, List.getElem_cons_zero, List.getElem_cons_succ, Act.put, List.setIfInBounds_toArray, List.set_cons_zero, List.set_cons_succ]
      refine wpAnyH_take (i := 32) (oi := _) (v := ?vr2n32_32) rfl (by kernel_rfl) (by kernel_rfl) (by kernel_rfl) (fun _ _ _ h => h) (Or.inl ⟨by kernel_rfl, ?hr2n32_32⟩) hHeld ?_
      case hr2n32_32 => (intro w hSw; (try dsimp only at hSw); go_simp; try (with_reducible rfl))
      try simp only [List.getElem_toArray, List.getElem_cons_zero, List.getElem_cons_succ, Act.put, List.setIfInBounds_toArray, List.set_cons_zero, List.set_cons_succ]
      refine wpAnyH_take (i := 33) (oi := _) (v := ?vr2n33_33) rfl (by kernel_rfl) (by kernel_rfl) (by kernel_rfl) (fun _ _ _ h => h) (Or.inl ⟨by kernel_rfl, ?hr2n33_33⟩) hHeld ?_
      case hr2n33_33 => (intro w hSw; (try dsimp only at hSw); go_simp; try (with_reducible rfl))
      try simp only [List.getElem_toArray, List.getElem_cons_zero, List.getElem_cons_succ, Act.put, List.setIfInBounds_toArray, List.set_cons_zero, List.set_cons_succ]
      refine wpAnyH_ready (rs := [3, 28]) (by kernel_rfl) (by simp) ?_
      refine AllReadyH.cons (o := _) rfl (fun K hK => ?_) ?_
      · skip
        go_simp
        (go_at_call 30; with_reducible refine (TA1.out _).mono ?_; rintro e v2 ⟨rfl, hb0⟩; have HB2 := Lib.hid hb0; clear hb0)
        refine hK.out _ _ ?_ (fun hHeld1 => ?_)
        · (first | exact ((And.left hHeld).step HB2.out).r)
        clear hHeld hK K
        try simp only [List.getElem_toArray, List.getElem_cons_zero, List.getElem_cons_succ, Act.put, List.setIfInBounds_toArray, List.set_cons_zero, List.set_cons_succ]
        refine wpAnyH_ready (rs := [7, 28]) (by kernel_rfl) (by simp) ?_
        refine AllReadyH.cons (o := _) rfl (fun K hK => ?_) ?_
        · skip
          go_simp
          (go_at_call 30; with_reducible refine (TA2.out _).mono ?_; rintro e v3 ⟨rfl, hb0⟩; have HB3 := Lib.hid hb0; clear hb0)
          refine hK.out _ _ ?_ (fun hHeld2 => ?_)
          · (first | exact ((And.left hHeld1).step HB3.out).r)
          clear hHeld1 hK K
          try simp only [List.getElem_toArray, List.getElem_cons_zero, List.getElem_cons_succ, Act.put, List.setIfInBounds_toArray, List.set_cons_zero, List.set_cons_succ]
          refine wpAnyH_take (i := 8) (oi := _) (v := ?vr2n8_34) rfl (by kernel_rfl) (by kernel_rfl) (by kernel_rfl) (fun _ _ _ h => h) (Or.inl ⟨by kernel_rfl, ?hr2n8_34⟩) hHeld2 ?_
          case hr2n8_34 => (intro w hSw; (try dsimp only at hSw); go_simp; try (with_reducible rfl))
          try simp only [List.getElem_toArray, List.getElem_cons_zero, List.getElem_cons_succ, Act.put, List.setIfInBounds_toArray, List.set_cons_zero, List.set_cons_succ]
          refine wpAnyH_ready (rs := [12, 28]) (by kernel_rfl) (by simp) ?_
          refine AllReadyH.cons (o := _) rfl (fun K hK => ?_) ?_
          · skip
            go_simp
            (go_at_call 28; with_reducible refine (HQ1.out _).mono ?_; rintro e v4 ⟨rfl, hb0⟩; have HB4 := Lib.hid hb0; clear hb0)
            refine hK.out _ _ ?_ (fun hHeld3 => ?_)
            · (first | exact ((And.left hHeld2).step HB4.out).r)
            clear hHeld2 hK K
            try simp only [List.getElem_toArray, List.getElem_cons_zero, List.getElem_cons_succ, Act.put, List.setIfInBounds_toArray, List.set_cons_zero, List.set_cons_succ]
            refine wpAnyH_take (i := 13) (oi := _) (v := ?vr2n13_35) rfl (by kernel_rfl) (by kernel_rfl) (by kernel_rfl) (fun _ _ _ h => h) (Or.inl ⟨by kernel_rfl, ?hr2n13_35⟩) hHeld3 ?_
            case hr2n13_35 => (intro w hSw; (try dsimp only at hSw); go_simp; try (with_reducible rfl))
            try simp only [List.getElem_toArray, List.getElem_cons_zero, List.getElem_cons_succ, Act.put, List.setIfInBounds_toArray, List.set_cons_zero, List.set_cons_succ]
            refine wpAnyH_ready (rs := [17, 28]) (by kernel_rfl) (by simp) ?_
            refine AllReadyH.cons (o := _) rfl (fun K hK => ?_) ?_
            · skip
              go_simp
              (go_at_call 28; with_reducible refine (HQ2.out _).mono ?_; rintro e v5 ⟨rfl, hb0⟩; have HB5 := Lib.hid hb0; clear hb0)
              refine hK.out _ _ ?_ (fun hHeld4 => ?_)
              · (first | exact ((And.left hHeld3).step HB5.out).r)
              clear hHeld3 hK K
              try simp only [List.getElem_toArray, List.getElem_cons_zero, List.getElem_cons_succ, Act.put, List.setIfInBounds_toArray, List.set_cons_zero, List.set_cons_succ]
              refine wpAnyH_take (i := 18) (oi := _) (v := ?vr2n18_36) rfl (by kernel_rfl) (by kernel_rfl) (by kernel_rfl) (fun _ _ _ h => h) (Or.inl ⟨by kernel_rfl, ?hr2n18_36⟩) hHeld4 ?_
              case hr2n18_36 => (intro w hSw; (try dsimp only at hSw); go_simp; try (with_reducible rfl))
              try simp only [List.getElem_toArray, List.getElem_cons_zero, List.getElem_cons_succ, Act.put, List.setIfInBounds_toArray, List.set_cons_zero, List.set_cons_succ]
              refine wpAnyH_ready (rs := [28, 34]) (by kernel_rfl) (by simp) ?_
              refine AllReadyH.cons (o := _) rfl (fun K hK => ?_) ?_
              · skip
                go_simp
                (have HY6 := Lib.hid (byt_lit v5 5 [y1, y2] #[.int .u8 (n3 : Int), .int .u8 fl] V67.out))
                refine hK.out _ _ ?_ (fun hHeld5 => ?_)
                · (first | exact ((And.left hHeld4).alloc _).r)
                clear hHeld4 hK K
                try simp only [List.getElem_toArray, List.getElem_cons_zero, List.getElem_cons_succ, Act.put, List.setIfInBounds_toArray, List.set_cons_zero, List.set_cons_succ]
                refine wpAnyH_ready (rs := [29, 34]) (by kernel_rfl) (by simp) ?_
                refine AllReadyH.cons (o := _) rfl (fun K hK => ?_) ?_
                · skip
                  (have hcv7 := byt_conv HY6.out (n := 2) rfl 2)
                  go_simp
                  (clear hcv7)
                  refine hK.out _ _ ?_ (fun hHeld6 => ?_)
                  · (first | exact hHeld5)
                  clear hHeld5 hK K
                  try simp only [List.getElem_toArray, List.getElem_cons_zero, List.getElem_cons_succ, Act.put, List.setIfInBounds_toArray, List.set_cons_zero, List.set_cons_succ]
                  refine wpAnyH_take (i := 30) (oi := _) (v := ?vr2n30_37) rfl (by kernel_rfl) (by kernel_rfl) (by kernel_rfl) (fun _ _ _ h => h) (Or.inl ⟨by kernel_rfl, ?hr2n30_37⟩) hHeld6 ?_
                  case hr2n30_37 => (intro w hSw; (try dsimp only at hSw); go_simp; try (with_reducible rfl))
                  try simp only [List.getElem_toArray, List.getElem_cons_zero, List.getElem_cons_succ, Act.put, List.setIfInBounds_toArray, List.set_cons_zero, List.set_cons_succ]
                  refine wpAnyH_ready (rs := [34]) (by kernel_rfl) (by simp) ?_
                  refine AllReadyH.cons (o := _) rfl (fun K hK => ?_) AllReadyH.nil
                  go_simp
                  (go_at_call 30; with_reducible refine (TA3.out _).mono ?_; rintro e v8 ⟨rfl, hb0⟩; have HB8 := Lib.hid hb0; clear hb0)
                  refine hK.out _ _ ?_ (fun hHeld7 => ?_)
                  · (first | exact ((And.left hHeld6).step HB8.out).r)
                  clear hHeld6 hK K
                  try simp only [List.getElem_toArray, List.getElem_cons_zero, List.getElem_cons_succ, Act.put, List.setIfInBounds_toArray, List.set_cons_zero, List.set_cons_succ]
                  refine wpAnyH_take (i := 35) (oi := _) (v := ?vr2n35_38) rfl (by kernel_rfl) (by kernel_rfl) (by kernel_rfl) (fun _ _ _ h => h) (Or.inl ⟨by kernel_rfl, ?hr2n35_38⟩) hHeld7 ?_
                  case hr2n35_38 => (intro w hSw; (try dsimp only at hSw); go_simp; try (with_reducible rfl))
                  try simp only [List.getElem_toArray, List.getElem_cons_zero, List.getElem_cons_succ, Act.put, List.setIfInBounds_toArray, List.set_cons_zero, List.set_cons_succ]
                  refine wpAnyH_take (i := 36) (oi := _) (v := ?vr2n36_39) rfl (by kernel_rfl) (by kernel_rfl) (by kernel_rfl) (fun _ _ _ h => h) (Or.inl ⟨by kernel_rfl, ?hr2n36_39⟩) hHeld7 ?_
                  case hr2n36_39 => (intro w hSw; (try dsimp only at hSw); go_simp; try (with_reducible rfl))
                  try simp only [List.getElem_toArray, List.getElem_cons_zero, List.getElem_cons_succ, Act.put, List.setIfInBounds_toArray, List.set_cons_zero, List.set_cons_succ]
                  refine wpAnyH_done (by kernel_rfl) ?_ _
                  refine NoPanic.normal ?_
                  (go_wp2_with fail; go_meet; exact ⟨by rw [HAH.out, ← str_append, ← str_append, ← str_append, ← str_append, ← str_append], And.left hHeld7⟩)
                refine AllReadyH.cons (o := _) rfl (fun K hK => ?_) AllReadyH.nil
                go_simp
                (go_at_call 30; with_reducible refine (TA3.out _).mono ?_; rintro e v7 ⟨rfl, hb0⟩; have HB7 := Lib.hid hb0; clear hb0; have HY7 := Lib.hid (HY6.out.step HB7.out))
                refine hK.out _ _ ?_ (fun hHeld8 => ?_)
                · (first | exact ((And.left hHeld5).step HB7.out).r)
                clear hHeld5 hK K
                try simp only [List.getElem_toArray, List.getElem_cons_zero, List.getElem_cons_succ, Act.put, List.setIfInBounds_toArray, List.set_cons_zero, List.set_cons_succ]
                refine wpAnyH_ready (rs := [29]) (by kernel_rfl) (by simp) ?_
                refine AllReadyH.cons (o := _) rfl (fun K hK => ?_) AllReadyH.nil
                (have hcv8 := byt_conv HY7.out (n := 2) rfl 2)
                go_simp
                (clear hcv8)
                refine hK.out _ _ ?_ (fun hHeld9 => ?_)
                · (first | exact hHeld8)
                clear hHeld8 hK K
                try simp only [List.getElem_toArray, List.getElem_cons_zero, List.getElem_cons_succ, Act.put, List.setIfInBounds_toArray, List.set_cons_zero, List.set_cons_succ]
                refine wpAnyH_take (i := 30) (oi := _) (v := ?vr2n30_40) rfl (by kernel_rfl) (by kernel_rfl) (by kernel_rfl) (fun _ _ _ h => h) (Or.inl ⟨by kernel_rfl, ?hr2n30_40⟩) hHeld9 ?_
                case hr2n30_40 => (intro w hSw; (try dsimp only at hSw); go_simp; try (with_reducible rfl))
                try simp only [List.getElem_toArray, List.getElem_cons_zero, List.getElem_cons_succ, Act.put, List.setIfInBounds_toArray, List.set_cons_zero, List.set_cons_succ]
                refine wpAnyH_take (i := 35) (oi := _) (v := ?vr2n35_41) rfl (by kernel_rfl) (by kernel_rfl) (by kernel_rfl) (fun _ _ _ h => h) (Or.inl ⟨by kernel_rfl, ?hr2n35_41⟩) hHeld9 ?_
                case hr2n35_41 => (intro w hSw; (try dsimp only at hSw); go_simp; try (with_reducible rfl))
                try simp only [List.getElem_toArray, List.getElem_cons_zero, List.getElem_cons_succ, Act.put, List.setIfInBounds_toArray, List.set_cons_zero, List.set_cons_succ]
                refine wpAnyH_take (i := 36) (oi := _) (v := ?vr2n36_42) rfl (by kernel_rfl) (by kernel_rfl) (by kernel_rfl) (fun _ _ _ h => h) (Or.inl ⟨by kernel_rfl, ?hr2n36_42⟩) hHeld9 ?_
                case hr2n36_42 => (intro w hSw; (try dsimp only at hSw); go_simp; try (with_reducible rfl))
                try simp only [List.getElem_toArray, List.getElem_cons_zero, List.getElem_cons_succ, Act.put, List.setIfInBounds_toArray, List.set_cons_zero, List.set_cons_succ]
                refine wpAnyH_done (by kernel_rfl) ?_ _
                refine NoPanic.normal ?_
                (go_wp2_with fail; go_meet; exact ⟨by rw [HAH.out, ← str_append, ← str_append, ← str_append, ← str_append, ← str_append], And.left hHeld9⟩)
              refine AllReadyH.cons (o := _) rfl (fun K hK => ?_) AllReadyH.nil
              go_simp
              (go_at_call 30; with_reducible refine (TA3.out _).mono ?_; rintro e v6 ⟨rfl, hb0⟩; have HB6 := Lib.hid hb0; clear hb0)
              refine hK.out _ _ ?_ (fun hHeld10 => ?_)
              · (first | exact ((And.left hHeld4).step HB6.out).r)
              clear hHeld4 hK K
              try simp only [List.getElem_toArray, List.getElem_cons_zero, List.getElem_cons_succ, Act.put, List.setIfInBounds_toArray, List.set_cons_zero, List.set_cons_succ]
              refine wpAnyH_ready (rs := [28]) (by kernel_rfl) (by simp) ?_
              refine AllReadyH.cons (o := _) rfl (fun K hK => ?_) AllReadyH.nil
              go_simp
              (have HY7 := Lib.hid (byt_lit v6 5 [y1, y2] #[.int .u8 (n3 : Int), .int .u8 fl] V67.out))
              refine hK.out _ _ ?_ (fun hHeld11 => ?_)
              · (first | exact ((And.left hHeld10).alloc _).r)
              clear hHeld10 hK K
              try simp only [List.getElem_toArray, List.getElem_cons_zero, List.getElem_cons_succ, Act.put, List.setIfInBounds_toArray, List.set_cons_zero, List.set_cons_succ]
              refine wpAnyH_ready (rs := [29]) (by kernel_rfl) (by simp) ?_
              refine AllReadyH.cons (o := _) rfl (fun K hK => ?_) AllReadyH.nil
              (have hcv8 := byt_conv HY7.out (n := 2) rfl 2)
              go_simp
              (clear hcv8)
              refine hK.out _ _ ?_ (fun hHeld12 => ?_)
              · (first | exact hHeld11)
              clear hHeld11 hK K
              try simp only [List.getElem_toArray, List.getElem_cons_zero, List.getElem_cons_succ, Act.put, List.setIfInBounds_toArray, List.set_cons_zero, List.set_cons_succ]
              refine wpAnyH_take (i := 30) (oi := _) (v := ?vr2n30_43) rfl (by kernel_rfl) (by kernel_rfl) (by kernel_rfl) (fun _ _ _ h => h) (Or.inl ⟨by kernel_rfl, ?hr2n30_43⟩) hHeld12 ?_
              case hr2n30_43 => (intro w hSw; (try dsimp only at hSw); go_simp; try (with_reducible rfl))
              try simp only [List.getElem_toArray, List.getElem_cons_zero, List.getElem_cons_succ, Act.put, List.setIfInBounds_toArray, List.set_cons_zero, List.set_cons_succ]
              refine wpAnyH_take (i := 35) (oi := _) (v := ?vr2n35_44) rfl (by kernel_rfl) (by kernel_rfl) (by kernel_rfl) (fun _ _ _ h => h) (Or.inl ⟨by kernel_rfl, ?hr2n35_44⟩) hHeld12 ?_
              case hr2n35_44 => (intro w hSw; (try dsimp only at hSw); go_simp; try (with_reducible rfl))
              try simp only [List.getElem_toArray, List.getElem_cons_zero, List.getElem_cons_succ, Act.put, List.setIfInBounds_toArray, List.set_cons_zero, List.set_cons_succ]
              refine wpAnyH_take (i := 36) (oi := _) (v := ?vr2n36_45) rfl (by kernel_rfl) (by kernel_rfl) (by kernel_rfl) (fun _ _ _ h => h) (Or.inl ⟨by kernel_rfl, ?hr2n36_45⟩) hHeld12 ?_
              case hr2n36_45 => (intro w hSw; (try dsimp only at hSw); go_simp; try (with_reducible rfl))
              try simp only [List.getElem_toArray, List.getElem_cons_zero, List.getElem_cons_succ, Act.put, List.setIfInBounds_toArray, List.set_cons_zero, List.set_cons_succ]
              refine wpAnyH_done (by kernel_rfl) ?_ _
              refine NoPanic.normal ?_
              (go_wp2_with fail; go_meet; exact ⟨by rw [HAH.out, ← str_append, ← str_append, ← str_append, ← str_append, ← str_append], And.left hHeld12⟩)
            refine AllReadyH.cons (o := _) rfl (fun K hK => ?_) AllReadyH.nil
            go_simp
            (have HY5 := Lib.hid (byt_lit v4 5 [y1, y2] #[.int .u8 (n3 : Int), .int .u8 fl] V67.out))
            refine hK.out _ _ ?_ (fun hHeld13 => ?_)
            · (first | exact ((And.left hHeld3).alloc _).r)
            clear hHeld3 hK K
            try simp only [List.getElem_toArray, List.getElem_cons_zero, List.getElem_cons_succ, Act.put, List.setIfInBounds_toArray, List.set_cons_zero, List.set_cons_succ]
            refine wpAnyH_ready (rs := [17, 29]) (by kernel_rfl) (by simp) ?_
            refine AllReadyH.cons (o := _) rfl (fun K hK => ?_) ?_
            · skip
              go_simp
              (go_at_call 28; with_reducible refine (HQ2.out _).mono ?_; rintro e v6 ⟨rfl, hb0⟩; have HB6 := Lib.hid hb0; clear hb0; have HY6 := Lib.hid (HY5.out.step HB6.out))
              refine hK.out _ _ ?_ (fun hHeld14 => ?_)
              · (first | exact ((And.left hHeld13).step HB6.out).r)
              clear hHeld13 hK K
              try simp only [List.getElem_toArray, List.getElem_cons_zero, List.getElem_cons_succ, Act.put, List.setIfInBounds_toArray, List.set_cons_zero, List.set_cons_succ]
              refine wpAnyH_take (i := 18) (oi := _) (v := ?vr2n18_46) rfl (by kernel_rfl) (by kernel_rfl) (by kernel_rfl) (fun _ _ _ h => h) (Or.inl ⟨by kernel_rfl, ?hr2n18_46⟩) hHeld14 ?_
              case hr2n18_46 => (intro w hSw; (try dsimp only at hSw); go_simp; try (with_reducible rfl))
              try simp only [List.getElem_toArray, List.getElem_cons_zero, List.getElem_cons_succ, Act.put, List.setIfInBounds_toArray, List.set_cons_zero, List.set_cons_succ]
              refine wpAnyH_ready (rs := [29, 34]) (by kernel_rfl) (by simp) ?_
              refine AllReadyH.cons (o := _) rfl (fun K hK => ?_) ?_
              · skip
                (have hcv7 := byt_conv HY6.out (n := 2) rfl 2)
                go_simp
                (clear hcv7)
                refine hK.out _ _ ?_ (fun hHeld15 => ?_)
                · (first | exact hHeld14)
                clear hHeld14 hK K
                try simp only [List.getElem_toArray, List.getElem_cons_zero, List.getElem_cons_succ, Act.put, List.setIfInBounds_toArray, List.set_cons_zero, List.set_cons_succ]
                refine wpAnyH_take (i := 30) (oi := _) (v := ?vr2n30_47) rfl (by kernel_rfl) (by kernel_rfl) (by kernel_rfl) (fun _ _ _ h => h) (Or.inl ⟨by kernel_rfl, ?hr2n30_47⟩) hHeld15 ?_
                case hr2n30_47 => (intro w hSw; (try dsimp only at hSw); go_simp; try (with_reducible rfl))
                try simp only [List.getElem_toArray, List.getElem_cons_zero, List.getElem_cons_succ, Act.put, List.setIfInBounds_toArray, List.set_cons_zero, List.set_cons_succ]
                refine wpAnyH_ready (rs := [34]) (by kernel_rfl) (by simp) ?_
                refine AllReadyH.cons (o := _) rfl (fun K hK => ?_) AllReadyH.nil
                go_simp
                (go_at_call 30; with_reducible refine (TA3.out _).mono ?_; rintro e v8 ⟨rfl, hb0⟩; have HB8 := Lib.hid hb0; clear hb0)
                refine hK.out _ _ ?_ (fun hHeld16 => ?_)
                · (first | exact ((And.left hHeld15).step HB8.out).r)
                clear hHeld15 hK K
                try simp only [List.getElem_toArray, List.getElem_cons_zero, List.getElem_cons_succ, Act.put, List.setIfInBounds_toArray, List.set_cons_zero, List.set_cons_succ]
                refine wpAnyH_take (i := 35) (oi := _) (v := ?vr2n35_48) rfl (by kernel_rfl) (by kernel_rfl) (by kernel_rfl) (fun _ _ _ h => h) (Or.inl ⟨by kernel_rfl, ?hr2n35_48⟩) hHeld16 ?_
                case hr2n35_48 => (intro w hSw; (try dsimp only at hSw); go_simp; try (with_reducible rfl))
                try simp only [List.getElem_toArray, List.getElem_cons_zero, List.getElem_cons_succ, Act.put, List.setIfInBounds_toArray, List.set_cons_zero, List.set_cons_succ]
                refine wpAnyH_take (i := 36) (oi := _) (v := ?vr2n36_49) rfl (by kernel_rfl) (by kernel_rfl) (by kernel_rfl) (fun _ _ _ h => h) (Or.inl ⟨by kernel_rfl, ?hr2n36_49⟩) hHeld16 ?_
                case hr2n36_49 => (intro w hSw; (try dsimp only at hSw); go_simp; try (with_reducible rfl))
                try simp only [List.getElem_toArray, List.getElem_cons_zero, List.getElem_cons_succ, Act.put, List.setIfInBounds_toArray, List.set_cons_zero, List.set_cons_succ]
                refine wpAnyH_done (by kernel_rfl) ?_ _
                refine NoPanic.normal ?_
                (go_wp2_with fail; go_meet; exact ⟨by rw [HAH.out, ← str_append, ← str_append, ← str_append, ← str_append, ← str_append], And.left hHeld16⟩)
              refine AllReadyH.cons (o := _) rfl (fun K hK => ?_) AllReadyH.nil
              go_simp
              (go_at_call 30; with_reducible refine (TA3.out _).mono ?_; rintro e v7 ⟨rfl, hb0⟩; have HB7 := Lib.hid hb0; clear hb0; have HY7 := Lib.hid (HY6.out.step HB7.out))
              refine hK.out _ _ ?_ (fun hHeld17 => ?_)
              · (first | exact ((And.left hHeld14).step HB7.out).r)
              clear hHeld14 hK K
              try simp only [List.getElem_toArray, List.getElem_cons_zero, List.getElem_cons_succ, Act.put, List.setIfInBounds_toArray, List.set_cons_zero, List.set_cons_succ]
              refine wpAnyH_ready (rs := [29]) (by kernel_rfl) (by simp) ?_
              refine AllReadyH.cons (o := _) rfl (fun K hK => ?_) AllReadyH.nil
              (have hcv8 := byt_conv HY7.out (n := 2) rfl 2)
              go_simp
              (clear hcv8)
              refine hK.out _ _ ?_ (fun hHeld18 => ?_)
              · (first | exact hHeld17)
              clear hHeld17 hK K
              try simp only [List.getElem_toArray, List.getElem_cons_zero, List.getElem_cons_succ, Act.put, List.setIfInBounds_toArray, List.set_cons_zero, List.set_cons_succ]
              refine wpAnyH_take (i := 30) (oi := _) (v := ?vr2n30_50) rfl (by kernel_rfl) (by kernel_rfl) (by kernel_rfl) (fun _ _ _ h => h) (Or.inl ⟨by kernel_rfl, ?hr2n30_50⟩) hHeld18 ?_
              case hr2n30_50 => (intro w hSw; (try dsimp only at hSw); go_simp; try (with_reducible rfl))
              try simp only [List.getElem_toArray, List.getElem_cons_zero, List.getElem_cons_succ, Act.put, List.setIfInBounds_toArray, List.set_cons_zero, List.set_cons_succ]
              refine wpAnyH_take (i := 35) (oi := _) (v := ?vr2n35_51) rfl (by kernel_rfl) (by kernel_rfl) (by kernel_rfl) (fun _ _ _ h => h) (Or.inl ⟨by kernel_rfl, ?hr2n35_51⟩) hHeld18 ?_
              case hr2n35_51 => (intro w hSw; (try dsimp only at hSw); go_simp; try (with_reducible rfl))
              try simp only [List.getElem_toArray, List.getElem_cons_zero, List.getElem_cons_succ, Act.put, List.setIfInBounds_toArray, List.set_cons_zero, List.set_cons_succ]
              refine wpAnyH_take (i := 36) (oi := _) (v := ?vr2n36_52) rfl (by kernel_rfl) (by kernel_rfl) (by kernel_rfl) (fun _ _ _ h => h) (Or.inl ⟨by kernel_rfl, ?hr2n36_52⟩) hHeld18 ?_
              case hr2n36_52 => (intro w hSw; (try dsimp only at hSw); go_simp; try (with_reducible rfl))
              try simp only [List.getElem_toArray, List.getElem_cons_zero, List.getElem_cons_succ, Act.put, List.setIfInBounds_toArray, List.set_cons_zero, List.set_cons_succ]
              refine wpAnyH_done (by kernel_rfl) ?_ _
              refine NoPanic.normal ?_
              (go_wp2_with fail; go_meet; exact ⟨by rw [HAH.out, ← str_append, ← str_append, ← str_append, ← str_append, ← str_append], And.left hHeld18⟩)
            refine AllReadyH.cons (o := _) rfl (fun K hK => ?_) AllReadyH.nil
            (have hcv6 := byt_conv HY5.out (n := 2) rfl 2)
            go_simp
            (clear hcv6)
            refine hK.out _ _ ?_ (fun hHeld19 => ?_)
            · (first | exact hHeld13)
            clear hHeld13 hK K
            try simp only [List.getElem_toArray, List.getElem_cons_zero, List.getElem_cons_succ, Act.put, List.setIfInBounds_toArray, List.set_cons_zero, List.set_cons_succ]
            refine wpAnyH_ready (rs := [17]) (by kernel_rfl) (by simp) ?_
            refine AllReadyH.cons (o := _) rfl (fun K hK => ?_) AllReadyH.nil
            go_simp
            (go_at_call 28; with_reducible refine (HQ2.out _).mono ?_; rintro e v7 ⟨rfl, hb0⟩; have HB7 := Lib.hid hb0; clear hb0)
            refine hK.out _ _ ?_ (fun hHeld20 => ?_)
            · (first | exact ((And.left hHeld19).step HB7.out).r)
            clear hHeld19 hK K
            try simp only [List.getElem_toArray, List.getElem_cons_zero, List.getElem_cons_succ, Act.put, List.setIfInBounds_toArray, List.set_cons_zero, List.set_cons_succ]
            refine wpAnyH_take (i := 18) (oi := _) (v := ?vr2n18_53) rfl (by kernel_rfl) (by kernel_rfl) (by kernel_rfl) (fun _ _ _ h => h) (Or.inl ⟨by kernel_rfl, ?hr2n18_53⟩) hHeld20 ?_
            case hr2n18_53 => (intro w hSw; (try dsimp only at hSw); go_simp; try (with_reducible rfl))
            try simp only [List.getElem_toArray, List.getElem_cons_zero, List.getElem_cons_succ, Act.put, List.setIfInBounds_toArray, List.set_cons_zero, List.set_cons_succ]
            refine wpAnyH_take (i := 30) (oi := _) (v := ?vr2n30_54) rfl (by kernel_rfl) (by kernel_rfl) (by kernel_rfl) (fun _ _ _ h => h) (Or.inl ⟨by kernel_rfl, ?hr2n30_54⟩) hHeld20 ?_
            case hr2n30_54 => (intro w hSw; (try dsimp only at hSw); go_simp; try (with_reducible rfl))
            try simp only [List.getElem_toArray, List.getElem_cons_zero, List.getElem_cons_succ, Act.put, List.setIfInBounds_toArray, List.set_cons_zero, List.set_cons_succ]
            refine wpAnyH_ready (rs := [34]) (by kernel_rfl) (by simp) ?_
            refine AllReadyH.cons (o := _) rfl (fun K hK => ?_) AllReadyH.nil
            go_simp
            (go_at_call 30; with_reducible refine (TA3.out _).mono ?_; rintro e v8 ⟨rfl, hb0⟩; have HB8 := Lib.hid hb0; clear hb0)
            refine hK.out _ _ ?_ (fun hHeld21 => ?_)
            · (first | exact ((And.left hHeld20).step HB8.out).r)
            clear hHeld20 hK K
            try simp only [List.getElem_toArray, List.getElem_cons_zero, List.getElem_cons_succ, Act.put, List.setIfInBounds_toArray, List.set_cons_zero, List.set_cons_succ]
            refine wpAnyH_take (i := 35) (oi := _) (v := ?vr2n35_55) rfl (by kernel_rfl) (by kernel_rfl) (by kernel_rfl) (fun _ _ _ h => h) (Or.inl ⟨by kernel_rfl, ?hr2n35_55⟩) hHeld21 ?_
            case hr2n35_55 => (intro w hSw; (try dsimp only at hSw); go_simp; try (with_reducible rfl))
            try simp only [List.getElem_toArray, List.getElem_cons_zero, List.getElem_cons_succ, Act.put, List.setIfInBounds_toArray, List.set_cons_zero, List.set_cons_succ]
            refine wpAnyH_take (i := 36) (oi := _) (v := ?vr2n36_56) rfl (by kernel_rfl) (by kernel_rfl) (by kernel_rfl) (fun _ _ _ h => h) (Or.inl ⟨by kernel_rfl, ?hr2n36_56⟩) hHeld21 ?_
            case hr2n36_56 => (intro w hSw; (try dsimp only at hSw); go_simp; try (with_reducible rfl))
            try simp only [List.getElem_toArray, List.getElem_cons_zero, List.getElem_cons_succ, Act.put, List.setIfInBounds_toArray, List.set_cons_zero, List.set_cons_succ]
            refine wpAnyH_done (by kernel_rfl) ?_ _
            refine NoPanic.normal ?_
            (go_wp2_with fail; go_meet; exact ⟨by rw [HAH.out, ← str_append, ← str_append, ← str_append, ← str_append, ← str_append], And.left hHeld21⟩)
          refine AllReadyH.cons (o := _) rfl (fun K hK => ?_) AllReadyH.nil
          go_simp
          (have HY4 := Lib.hid (byt_lit v3 5 [y1, y2] #[.int .u8 (n3 : Int), .int .u8 fl] V67.out))
          refine hK.out _ _ ?_ (fun hHeld22 => ?_)
          · (first | exact ((And.left hHeld2).alloc _).r)
          clear hHeld2 hK K
          try simp only [List.getElem_toArray, List.getElem_cons_zero, List.getElem_cons_succ, Act.put, List.setIfInBounds_toArray, List.set_cons_zero, List.set_cons_succ]
          refine wpAnyH_ready (rs := [12, 29]) (by kernel_rfl) (by simp) ?_
          refine AllReadyH.cons (o := _) rfl (fun K hK => ?_) ?_
          · skip
            go_simp
            (go_at_call 28; with_reducible refine (HQ1.out _).mono ?_; rintro e v5 ⟨rfl, hb0⟩; have HB5 := Lib.hid hb0; clear hb0; have HY5 := Lib.hid (HY4.out.step HB5.out))
            refine hK.out _ _ ?_ (fun hHeld23 => ?_)
            · (first | exact ((And.left hHeld22).step HB5.out).r)
            clear hHeld22 hK K
            try simp only [List.getElem_toArray, List.getElem_cons_zero, List.getElem_cons_succ, Act.put, List.setIfInBounds_toArray, List.set_cons_zero, List.set_cons_succ]
            refine wpAnyH_take (i := 13) (oi := _) (v := ?vr2n13_57) rfl (by kernel_rfl) (by kernel_rfl) (by kernel_rfl) (fun _ _ _ h => h) (Or.inl ⟨by kernel_rfl, ?hr2n13_57⟩) hHeld23 ?_
            case hr2n13_57 => (intro w hSw; (try dsimp only at hSw); go_simp; try (with_reducible rfl))
            try simp only [List.getElem_toArray, List.getElem_cons_zero, List.getElem_cons_succ, Act.put, List.setIfInBounds_toArray, List.set_cons_zero, List.set_cons_succ]
            refine wpAnyH_ready (rs := [17, 29]) (by kernel_rfl) (by simp) ?_
            refine AllReadyH.cons (o := _) rfl (fun K hK => ?_) ?_
            · skip
              go_simp
              (go_at_call 28; with_reducible refine (HQ2.out _).mono ?_; rintro e v6 ⟨rfl, hb0⟩; have HB6 := Lib.hid hb0; clear hb0; have HY6 := Lib.hid (HY5.out.step HB6.out))
              refine hK.out _ _ ?_ (fun hHeld24 => ?_)
              · (first | exact ((And.left hHeld23).step HB6.out).r)
              clear hHeld23 hK K
              try simp only [List.getElem_toArray, List.getElem_cons_zero, List.getElem_cons_succ, Act.put, List.setIfInBounds_toArray, List.set_cons_zero, List.set_cons_succ]
              refine wpAnyH_take (i := 18) (oi := _) (v := ?vr2n18_58) rfl (by kernel_rfl) (by kernel_rfl) (by kernel_rfl) (fun _ _ _ h => h) (Or.inl ⟨by kernel_rfl, ?hr2n18_58⟩) hHeld24 ?_
              case hr2n18_58 => (intro w hSw; (try dsimp only at hSw); go_simp; try (with_reducible rfl))
              try simp only [List.getElem_toArray, List.getElem_cons_zero, List.getElem_cons_succ, Act.put, List.setIfInBounds_toArray, List.set_cons_zero, List.set_cons_succ]
              refine wpAnyH_ready (rs := [29, 34]) (by kernel_rfl) (by simp) ?_
              refine AllReadyH.cons (o := _) rfl (fun K hK => ?_) ?_
              · skip
                (have hcv7 := byt_conv HY6.out (n := 2) rfl 2)
                go_simp
                (clear hcv7)
                refine hK.out _ _ ?_ (fun hHeld25 => ?_)
                · (first | exact hHeld24)
                clear hHeld24 hK K
                try simp only [List.getElem_toArray, List.getElem_cons_zero, List.getElem_cons_succ, Act.put, List.setIfInBounds_toArray, List.set_cons_zero, List.set_cons_succ]
                refine wpAnyH_take (i := 30) (oi := _) (v := ?vr2n30_59) rfl (by kernel_rfl) (by kernel_rfl) (by kernel_rfl) (fun _ _ _ h => h) (Or.inl ⟨by kernel_rfl, ?hr2n30_59⟩) hHeld25 ?_
                case hr2n30_59 => (intro w hSw; (try dsimp only at hSw); go_simp; try (with_reducible rfl))
                try simp only [List.getElem_toArray, List.getElem_cons_zero, List.getElem_cons_succ, Act.put, List.setIfInBounds_toArray, List.set_cons_zero, List.set_cons_succ]
                refine wpAnyH_ready (rs := [34]) (by kernel_rfl) (by simp) ?_
                refine AllReadyH.cons (o := _) rfl (fun K hK => ?_) AllReadyH.nil
                go_simp
                (go_at_call 30; with_reducible refine (TA3.out _).mono ?_; rintro e v8 ⟨rfl, hb0⟩; have HB8 := Lib.hid hb0; clear hb0)
                refine hK.out _ _ ?_ (fun hHeld26 => ?_)
                · (first | exact ((And.left hHeld25).step HB8.out).r)
                clear hHeld25 hK K
                try simp only [List.getElem_toArray, List.getElem_cons_zero, List.getElem_cons_succ, Act.put, List.setIfInBounds_toArray, List.set_cons_zero, List.set_cons_succ]
                refine wpAnyH_take (i := 35) (oi := _) (v := ?vr2n35_60) rfl (by kernel_rfl) (by kernel_rfl) (by kernel_rfl) (fun _ _ _ h => h) (Or.inl ⟨by kernel_rfl, ?hr2n35_60⟩) hHeld26 ?_
                case hr2n35_60 => (intro w hSw; (try dsimp only at hSw); go_simp; try (with_reducible rfl))
                try simp only [List.getElem_toArray, List.getElem_cons_zero, List.getElem_cons_succ, Act.put, List.setIfInBounds_toArray, List.set_cons_zero, List.set_cons_succ]
                refine wpAnyH_take (i := 36) (oi := _) (v := ?vr2n36_61) rfl (by kernel_rfl) (by kernel_rfl) (by kernel_rfl) (fun _ _ _ h => h) (Or.inl ⟨by kernel_rfl, ?hr2n36_61⟩) hHeld26 ?_
                case hr2n36_61 => (intro w hSw; (try dsimp only at hSw); go_simp; try (with_reducible rfl))
                try simp only [List.getElem_toArray, List.getElem_cons_zero, List.getElem_cons_succ, Act.put, List.setIfInBounds_toArray, List.set_cons_zero, List.set_cons_succ]
                refine wpAnyH_done (by kernel_rfl) ?_ _
                refine NoPanic.normal ?_
                (go_wp2_with fail; go_meet; exact ⟨by rw [HAH.out, ← str_append, ← str_append, ← str_append, ← str_append, ← str_append], And.left hHeld26⟩)
              refine AllReadyH.cons (o := _) rfl (fun K hK => ?_) AllReadyH.nil
              go_simp
              (go_at_call 30; with_reducible refine (TA3.out _).mono ?_; rintro e v7 ⟨rfl, hb0⟩; have HB7 := Lib.hid hb0; clear hb0; have HY7 := Lib.hid (HY6.out.step HB7.out))
              refine hK.out _ _ ?_ (fun hHeld27 => ?_)
              · (first | exact ((And.left hHeld24).step HB7.out).r)
              clear hHeld24 hK K
              try simp only [List.getElem_toArray, List.getElem_cons_zero, List.getElem_cons_succ, Act.put, List.setIfInBounds_toArray, List.set_cons_zero, List.set_cons_succ]
              refine wpAnyH_ready (rs := [29]) (by kernel_rfl) (by simp) ?_
              refine AllReadyH.cons (o := _) rfl (fun K hK => ?_) AllReadyH.nil
              (have hcv8 := byt_conv HY7.out (n := 2) rfl 2)
              go_simp
              (clear hcv8)
              refine hK.out _ _ ?_ (fun hHeld28 => ?_)
              · (first | exact hHeld27)
              clear hHeld27 hK K
              try simp only [List.getElem_toArray, List.getElem_cons_zero, List.getElem_cons_succ, Act.put, List.setIfInBounds_toArray, List.set_cons_zero, List.set_cons_succ]
              refine wpAnyH_take (i := 30) (oi := _) (v := ?vr2n30_62) rfl (by kernel_rfl) (by kernel_rfl) (by kernel_rfl) (fun _ _ _ h => h) (Or.inl ⟨by kernel_rfl, ?hr2n30_62⟩) hHeld28 ?_
              case hr2n30_62 => (intro w hSw; (try dsimp only at hSw); go_simp; try (with_reducible rfl))
              try simp only [List.getElem_toArray, List.getElem_cons_zero, List.getElem_cons_succ, Act.put, List.setIfInBounds_toArray, List.set_cons_zero, List.set_cons_succ]
              refine wpAnyH_take (i := 35) (oi := _) (v := ?vr2n35_63) rfl (by kernel_rfl) (by kernel_rfl) (by kernel_rfl) (fun _ _ _ h => h) (Or.inl ⟨by kernel_rfl, ?hr2n35_63⟩) hHeld28 ?_
              case hr2n35_63 => (intro w hSw; (try dsimp only at hSw); go_simp; try (with_reducible rfl))
              try simp only [List.getElem_toArray, List.getElem_cons_zero, List.getElem_cons_succ, Act.put, List.setIfInBounds_toArray, List.set_cons_zero, List.set_cons_succ]
              refine wpAnyH_take (i := 36) (oi := _) (v := ?vr2n36_64) rfl (by kernel_rfl) (by kernel_rfl) (by kernel_rfl) (fun _ _ _ h => h) (Or.inl ⟨by kernel_rfl, ?hr2n36_64⟩) hHeld28 ?_
              case hr2n36_64 => (intro w hSw; (try dsimp only at hSw); go_simp; try (with_reducible rfl))
              try simp only [List.getElem_toArray, List.getElem_cons_zero, List.getElem_cons_succ, Act.put, List.setIfInBounds_toArray, List.set_cons_zero, List.set_cons_succ]
              refine wpAnyH_done (by kernel_rfl) ?_ _
              refine NoPanic.normal ?_
              (go_wp2_with fail; go_meet; exact ⟨by rw [HAH.out, ← str_append, ← str_append, ← str_append, ← str_append, ← str_append], And.left hHeld28⟩)
            refine AllReadyH.cons (o := _) rfl (fun K hK => ?_) AllReadyH.nil
            (have hcv6 := byt_conv HY5.out (n := 2) rfl 2)
            go_simp
            (clear hcv6)
            refine hK.out _ _ ?_ (fun hHeld29 => ?_)
            · (first | exact hHeld23)
            clear hHeld23 hK K
            try simp only [List.getElem_toArray, List.getElem_cons_zero, List.getElem_cons_succ, Act.put, List.setIfInBounds_toArray, List.set_cons_zero, List.set_cons_succ]
            refine wpAnyH_ready (rs := [17]) (by kernel_rfl) (by simp) ?_
            refine AllReadyH.cons (o := _) rfl (fun K hK => ?_) AllReadyH.nil
            go_simp
            (go_at_call 28; with_reducible refine (HQ2.out _).mono ?_; rintro e v7 ⟨rfl, hb0⟩; have HB7 := Lib.hid hb0; clear hb0)
            refine hK.out _ _ ?_ (fun hHeld30 => ?_)
            · (first | exact ((And.left hHeld29).step HB7.out).r)
            clear hHeld29 hK K
            try simp only [List.getElem_toArray, List.getElem_cons_zero, List.getElem_cons_succ, Act.put, List.setIfInBounds_toArray, List.set_cons_zero, List.set_cons_succ]
            refine wpAnyH_take (i := 18) (oi := _) (v := ?vr2n18_65) rfl (by kernel_rfl) (by kernel_rfl) (by kernel_rfl) (fun _ _ _ h => h) (Or.inl ⟨by kernel_rfl, ?hr2n18_65⟩) hHeld30 ?_
            case hr2n18_65 => (intro w hSw; (try dsimp only at hSw); go_simp; try (with_reducible rfl))
            try simp only [List.getElem_toArray, List.getElem_cons_zero, List.getElem_cons_succ, Act.put, List.setIfInBounds_toArray, List.set_cons_zero, List.set_cons_succ]
            refine wpAnyH_take (i := 30) (oi := _) (v := ?vr2n30_66) rfl (by kernel_rfl) (by kernel_rfl) (by kernel_rfl) (fun _ _ _ h => h) (Or.inl ⟨by kernel_rfl, ?hr2n30_66⟩) hHeld30 ?_
            case hr2n30_66 => (intro w hSw; (try dsimp only at hSw); go_simp; try (with_reducible rfl))
            try simp only [List.getElem_toArray, List.getElem_cons_zero, List.getElem_cons_succ, Act.put, List.setIfInBounds_toArray, List.set_cons_zero, List.set_cons_succ]
            refine wpAnyH_ready (rs := [34]) (by kernel_rfl) (by simp) ?_
            refine AllReadyH.cons (o := _) rfl (fun K hK => ?_) AllReadyH.nil
            go_simp
            (go_at_call 30; with_reducible refine (TA3.out _).mono ?_; rintro e v8 ⟨rfl, hb0⟩; have HB8 := Lib.hid hb0; clear hb0)
            refine hK.out _ _ ?_ (fun hHeld31 => ?_)
            · (first | exact ((And.left hHeld30).step HB8.out).r)
            clear hHeld30 hK K
            try simp only [List.getElem_toArray, List.getElem_cons_zero, List.getElem_cons_succ, Act.put, List.setIfInBounds_toArray, List.set_cons_zero, List.set_cons_succ]
            refine wpAnyH_take (i := 35) (oi := _) (v := ?vr2n35_67) rfl (by kernel_rfl) (by kernel_rfl) (by kernel_rfl) (fun _ _ _ h => h) (Or.inl ⟨by kernel_rfl, ?hr2n35_67⟩) hHeld31 ?_
            case hr2n35_67 => (intro w hSw; (try dsimp only at hSw); go_simp; try (with_reducible rfl))
            try simp only [List.getElem_toArray, List.getElem_cons_zero, List.getElem_cons_succ, Act.put, List.setIfInBounds_toArray, List.set_cons_zero, List.set_cons_succ]
            refine wpAnyH_take (i := 36) (oi := _) (v := ?vr2n36_68) rfl (by kernel_rfl) (by kernel_rfl) (by kernel_rfl) (fun _ _ _ h => h) (Or.inl ⟨by kernel_rfl, ?hr2n36_68⟩) hHeld31 ?_
            case hr2n36_68 => (intro w hSw; (try dsimp only at hSw); go_simp; try (with_reducible rfl))
            try simp only [List.getElem_toArray, List.getElem_cons_zero, List.getElem_cons_succ, Act.put, List.setIfInBounds_toArray, List.set_cons_zero, List.set_cons_succ]
            refine wpAnyH_done (by kernel_rfl) ?_ _
            refine NoPanic.normal ?_
            (go_wp2_with fail; go_meet; exact ⟨by rw [HAH.out, ← str_append, ← str_append, ← str_append, ← str_append, ← str_append], And.left hHeld31⟩)
          refine AllReadyH.cons (o := _) rfl (fun K hK => ?_) AllReadyH.nil
          (have hcv5 := byt_conv HY4.out (n := 2) rfl 2)
          go_simp
          (clear hcv5)
          refine hK.out _ _ ?_ (fun hHeld32 => ?_)
          · (first | exact hHeld22)
          clear hHeld22 hK K
          try simp only [List.getElem_toArray, List.getElem_cons_zero, List.getElem_cons_succ, Act.put, List.setIfInBounds_toArray, List.set_cons_zero, List.set_cons_succ]
          refine wpAnyH_ready (rs := [12]) (by kernel_rfl) (by simp) ?_
          refine AllReadyH.cons (o := _) rfl (fun K hK => ?_) AllReadyH.nil
          go_simp
          (go_at_call 28; with_reducible refine (HQ1.out _).mono ?_; rintro e v6 ⟨rfl, hb0⟩; have HB6 := Lib.hid hb0; clear hb0)
          refine hK.out _ _ ?_ (fun hHeld33 => ?_)
          · (first | exact ((And.left hHeld32).step HB6.out).r)
          clear hHeld32 hK K
          try simp only [List.getElem_toArray, List.getElem_cons_zero, List.getElem_cons_succ, Act.put, List.setIfInBounds_toArray, List.set_cons_zero, List.set_cons_succ]
          refine wpAnyH_take (i := 13) (oi := _) (v := ?vr2n13_69) rfl (by kernel_rfl) (by kernel_rfl) (by kernel_rfl) (fun _ _ _ h => h) (Or.inl ⟨by kernel_rfl, ?hr2n13_69⟩) hHeld33 ?_
          case hr2n13_69 => (intro w hSw; (try dsimp only at hSw); go_simp; try (with_reducible rfl))
          try simp only [List.getElem_toArray, List.getElem_cons_zero, List.getElem_cons_succ, Act.put, List.setIfInBounds_toArray, List.set_cons_zero, List.set_cons_succ]
          refine wpAnyH_ready (rs := [17]) (by kernel_rfl) (by simp) ?_
          refine AllReadyH.cons (o := _) rfl (fun K hK => ?_) AllReadyH.nil
          go_simp
          (go_at_call 28; with_reducible refine (HQ2.out _).mono ?_; rintro e v7 ⟨rfl, hb0⟩; have HB7 := Lib.hid hb0; clear hb0)
          refine hK.out _ _ ?_ (fun hHeld34 => ?_)
          · (first | exact ((And.left hHeld33).step HB7.out).r)
          clear hHeld33 hK K
          try simp only [List.getElem_toArray, List.getElem_cons_zero, List.getElem_cons_succ, Act.put, List.setIfInBounds_toArray, List.set_cons_zero, List.set_cons_succ]
          refine wpAnyH_take (i := 18) (oi := _) (v := ?vr2n18_70) rfl (by kernel_rfl) (by kernel_rfl) (by kernel_rfl) (fun _ _ _ h => h) (Or.inl ⟨by kernel_rfl, ?hr2n18_70⟩) hHeld34 ?_
          case hr2n18_70 => (intro w hSw; (try dsimp only at hSw); go_simp; try (with_reducible rfl))
          try simp only [List.getElem_toArray, List.getElem_cons_zero, List.getElem_cons_succ, Act.put, List.setIfInBounds_toArray, List.set_cons_zero, List.set_cons_succ]
          refine wpAnyH_take (i := 30) (oi := _) (v := ?vr2n30_71) rfl (by kernel_rfl) (by kernel_rfl) (by kernel_rfl) (fun _ _ _ h => h) (Or.inl ⟨by kernel_rfl, ?hr2n30_71⟩) hHeld34 ?_
          case hr2n30_71 => (intro w hSw; (try dsimp only at hSw); go_simp; try (with_reducible rfl))
          try simp only [List.getElem_toArray, List.getElem_cons_zero, List.getElem_cons_succ, Act.put, List.setIfInBounds_toArray, List.set_cons_zero, List.set_cons_succ]
          refine wpAnyH_ready (rs := [34]) (by kernel_rfl) (by simp) ?_
          refine AllReadyH.cons (o := _) rfl (fun K hK => ?_) AllReadyH.nil
          go_simp
          (go_at_call 30; with_reducible refine (TA3.out _).mono ?_; rintro e v8 ⟨rfl, hb0⟩; have HB8 := Lib.hid hb0; clear hb0)
          refine hK.out _ _ ?_ (fun hHeld35 => ?_)
          · (first | exact ((And.left hHeld34).step HB8.out).r)
          clear hHeld34 hK K
          try simp only [List.getElem_toArray, List.getElem_cons_zero, List.getElem_cons_succ, Act.put, List.setIfInBounds_toArray, List.set_cons_zero, List.set_cons_succ]
          refine wpAnyH_take (i := 35) (oi := _) (v := ?vr2n35_72) rfl (by kernel_rfl) (by kernel_rfl) (by kernel_rfl) (fun _ _ _ h => h) (Or.inl ⟨by kernel_rfl, ?hr2n35_72⟩) hHeld35 ?_
          case hr2n35_72 => (intro w hSw; (try dsimp only at hSw); go_simp; try (with_reducible rfl))
          try simp only [List.getElem_toArray, List.getElem_cons_zero, List.getElem_cons_succ, Act.put, List.setIfInBounds_toArray, List.set_cons_zero, List.set_cons_succ]
          refine wpAnyH_take (i := 36) (oi := _) (v := ?vr2n36_73) rfl (by kernel_rfl) (by kernel_rfl) (by kernel_rfl) (fun _ _ _ h => h) (Or.inl ⟨by kernel_rfl, ?hr2n36_73⟩) hHeld35 ?_
          case hr2n36_73 => (intro w hSw; (try dsimp only at hSw); go_simp; try (with_reducible rfl))
          try simp only [List.getElem_toArray, List.getElem_cons_zero, List.getElem_cons_succ, Act.put, List.setIfInBounds_toArray, List.set_cons_zero, List.set_cons_succ]
          refine wpAnyH_done (by kernel_rfl) ?_ _
          refine NoPanic.normal ?_
          (go_wp2_with fail; go_meet; exact ⟨by rw [HAH.out, ← str_append, ← str_append, ← str_append, ← str_append, ← str_append], And.left hHeld35⟩)
        refine AllReadyH.cons (o := _) rfl (fun K hK => ?_) AllReadyH.nil
        go_simp
        (have HY3 := Lib.hid (byt_lit v2 5 [y1, y2] #[.int .u8 (n3 : Int), .int .u8 fl] V67.out))
        refine hK.out _ _ ?_ (fun hHeld36 => ?_)
        · (first | exact ((And.left hHeld1).alloc _).r)
        clear hHeld1 hK K
        try simp only [List.getElem_toArray, List.getElem_cons_zero, List.getElem_cons_succ, Act.put, List.setIfInBounds_toArray, List.set_cons_zero, List.set_cons_succ]
        refine wpAnyH_ready (rs := [7, 29]) (by kernel_rfl) (by simp) ?_
        refine AllReadyH.cons (o := _) rfl (fun K hK => ?_) ?_
        · skip
          go_simp
          (go_at_call 30; with_reducible refine (TA2.out _).mono ?_; rintro e v4 ⟨rfl, hb0⟩; have HB4 := Lib.hid hb0; clear hb0; have HY4 := Lib.hid (HY3.out.step HB4.out))
          refine hK.out _ _ ?_ (fun hHeld37 => ?_)
          · (first | exact ((And.left hHeld36).step HB4.out).r)
          clear hHeld36 hK K
          try simp only [List.getElem_toArray, List.getElem_cons_zero, List.getElem_cons_succ, Act.put, List.setIfInBounds_toArray, List.set_cons_zero, List.set_cons_succ]
          refine wpAnyH_take (i := 8) (oi := _) (v := ?vr2n8_74) rfl (by kernel_rfl) (by kernel_rfl) (by kernel_rfl) (fun _ _ _ h => h) (Or.inl ⟨by kernel_rfl, ?hr2n8_74⟩) hHeld37 ?_
          case hr2n8_74 => (intro w hSw; (try dsimp only at hSw); go_simp; try (with_reducible rfl))
          try simp only [List.getElem_toArray, List.getElem_cons_zero, List.getElem_cons_succ, Act.put, List.setIfInBounds_toArray, List.set_cons_zero, List.set_cons_succ]
          refine wpAnyH_ready (rs := [12, 29]) (by kernel_rfl) (by simp) ?_
          refine AllReadyH.cons (o := _) rfl (fun K hK => ?_) ?_
          · skip
            go_simp
            (go_at_call 28; with_reducible refine (HQ1.out _).mono ?_; rintro e v5 ⟨rfl, hb0⟩; have HB5 := Lib.hid hb0; clear hb0; have HY5 := Lib.hid (HY4.out.step HB5.out))
            refine hK.out _ _ ?_ (fun hHeld38 => ?_)
            · (first | exact ((And.left hHeld37).step HB5.out).r)
            clear hHeld37 hK K
            try simp only [List.getElem_toArray, List.getElem_cons_zero, List.getElem_cons_succ, Act.put, List.setIfInBounds_toArray, List.set_cons_zero, List.set_cons_succ]
            refine wpAnyH_take (i := 13) (oi := _) (v := ?vr2n13_75) rfl (by kernel_rfl) (by kernel_rfl) (by kernel_rfl) (fun _ _ _ h => h) (Or.inl ⟨by kernel_rfl, ?hr2n13_75⟩) hHeld38 ?_
            case hr2n13_75 => (intro w hSw; (try dsimp only at hSw); go_simp; try (with_reducible rfl))
            try simp only [List.getElem_toArray, List.getElem_cons_zero, List.getElem_cons_succ, Act.put, List.setIfInBounds_toArray, List.set_cons_zero, List.set_cons_succ]
            refine wpAnyH_ready (rs := [17, 29]) (by kernel_rfl) (by simp) ?_
            refine AllReadyH.cons (o := _) rfl (fun K hK => ?_) ?_
            · skip
              go_simp
              (go_at_call 28; with_reducible refine (HQ2.out _).mono ?_; rintro e v6 ⟨rfl, hb0⟩; have HB6 := Lib.hid hb0; clear hb0; have HY6 := Lib.hid (HY5.out.step HB6.out))
              refine hK.out _ _ ?_ (fun hHeld39 => ?_)
              · (first | exact ((And.left hHeld38).step HB6.out).r)
              clear hHeld38 hK K
              try simp only [List.getElem_toArray, List.getElem_cons_zero, List.getElem_cons_succ, Act.put, List.setIfInBounds_toArray, List.set_cons_zero, List.set_cons_succ]
              refine wpAnyH_take (i := 18) (oi := _) (v := ?vr2n18_76) rfl (by kernel_rfl) (by kernel_rfl) (by kernel_rfl) (fun _ _ _ h => h) (Or.inl ⟨by kernel_rfl, ?hr2n18_76⟩) hHeld39 ?_
              case hr2n18_76 => (intro w hSw; (try dsimp only at hSw); go_simp; try (with_reducible rfl))
              try simp only [List.getElem_toArray, List.getElem_cons_zero, List.getElem_cons_succ, Act.put, List.setIfInBounds_toArray, List.set_cons_zero, List.set_cons_succ]
              refine wpAnyH_ready (rs := [29, 34]) (by kernel_rfl) (by simp) ?_
              refine AllReadyH.cons (o := _) rfl (fun K hK => ?_) ?_
              · skip
                (have hcv7 := byt_conv HY6.out (n := 2) rfl 2)
                go_simp
                (clear hcv7)
                refine hK.out _ _ ?_ (fun hHeld40 => ?_)
                · (first | exact hHeld39)
                clear hHeld39 hK K
                try simp only [List.getElem_toArray, List.getElem_cons_zero, List.getElem_cons_succ, Act.put, List.setIfInBounds_toArray, List.set_cons_zero, List.set_cons_succ]
                refine wpAnyH_take (i := 30) (oi := _) (v := ?vr2n30_77) rfl (by kernel_rfl) (by kernel_rfl) (by kernel_rfl) (fun _ _ _ h => h) (Or.inl ⟨by kernel_rfl, ?hr2n30_77⟩) hHeld40 ?_
                case hr2n30_77 => (intro w hSw; (try dsimp only at hSw); go_simp; try (with_reducible rfl))
                try simp only [List.getElem_toArray, List.getElem_cons_zero, List.getElem_cons_succ, Act.put, List.setIfInBounds_toArray, List.set_cons_zero, List.set_cons_succ]
                refine wpAnyH_ready (rs := [34]) (by kernel_rfl) (by simp) ?_
                refine AllReadyH.cons (o := _) rfl (fun K hK => ?_) AllReadyH.nil
                go_simp
                (go_at_call 30; with_reducible refine (TA3.out _).mono ?_; rintro e v8 ⟨rfl, hb0⟩; have HB8 := Lib.hid hb0; clear hb0)
                refine hK.out _ _ ?_ (fun hHeld41 => ?_)
                · (first | exact ((And.left hHeld40).step HB8.out).r)
                clear hHeld40 hK K
                try simp only [List.getElem_toArray, List.getElem_cons_zero, List.getElem_cons_succ, Act.put, List.setIfInBounds_toArray, List.set_cons_zero, List.set_cons_succ]
                refine wpAnyH_take (i := 35) (oi := _) (v := ?vr2n35_78) rfl (by kernel_rfl) (by kernel_rfl) (by kernel_rfl) (fun _ _ _ h => h) (Or.inl ⟨by kernel_rfl, ?hr2n35_78⟩) hHeld41 ?_
                case hr2n35_78 => (intro w hSw; (try dsimp only at hSw); go_simp; try (with_reducible rfl))
                try simp only [List.getElem_toArray, List.getElem_cons_zero, List.getElem_cons_succ, Act.put, List.setIfInBounds_toArray, List.set_cons_zero, List.set_cons_succ]
                refine wpAnyH_take (i := 36) (oi := _) (v := ?vr2n36_79) rfl (by kernel_rfl) (by kernel_rfl) (by kernel_rfl) (fun _ _ _ h => h) (Or.inl ⟨by kernel_rfl, ?hr2n36_79⟩) hHeld41 ?_
                case hr2n36_79 => (intro w hSw; (try dsimp only at hSw); go_simp; try (with_reducible rfl))
                try simp only [List.getElem_toArray, List.getElem_cons_zero, List.getElem_cons_succ, Act.put, List.setIfInBounds_toArray, List.set_cons_zero, List.set_cons_succ]
                refine wpAnyH_done (by kernel_rfl) ?_ _
                refine NoPanic.normal ?_
                (go_wp2_with fail; go_meet; exact ⟨by rw [HAH.out, ← str_append, ← str_append, ← str_append, ← str_append, ← str_append], And.left hHeld41⟩)
              refine AllReadyH.cons (o := _) rfl (fun K hK => ?_) AllReadyH.nil
              go_simp
              (go_at_call 30; with_reducible refine (TA3.out _).mono ?_; rintro e v7 ⟨rfl, hb0⟩; have HB7 := Lib.hid hb0; clear hb0; have HY7 := Lib.hid (HY6.out.step HB7.out))
              refine hK.out _ _ ?_ (fun hHeld42 => ?_)
              · (first | exact ((And.left hHeld39).step HB7.out).r)
              clear hHeld39 hK K
              try simp only [List.getElem_toArray, List.getElem_cons_zero, List.getElem_cons_succ, Act.put, List.setIfInBounds_toArray, List.set_cons_zero, List.set_cons_succ]
              refine wpAnyH_ready (rs := [29]) (by kernel_rfl) (by simp) ?_
              refine AllReadyH.cons (o := _) rfl (fun K hK => ?_) AllReadyH.nil
              (have hcv8 := byt_conv HY7.out (n := 2) rfl 2)
              go_simp
              (clear hcv8)
              refine hK.out _ _ ?_ (fun hHeld43 => ?_)
              · (first | exact hHeld42)
              clear hHeld42 hK K
              try simp only [List.getElem_toArray, List.getElem_cons_zero, List.getElem_cons_succ, Act.put, List.setIfInBounds_toArray, List.set_cons_zero, List.set_cons_succ]
              refine wpAnyH_take (i := 30) (oi := _) (v := ?vr2n30_80) rfl (by kernel_rfl) (by kernel_rfl) (by kernel_rfl) (fun _ _ _ h => h) (Or.inl ⟨by kernel_rfl, ?hr2n30_80⟩) hHeld43 ?_
              case hr2n30_80 => (intro w hSw; (try dsimp only at hSw); go_simp; try (with_reducible rfl))
              try simp only [List.getElem_toArray, List.getElem_cons_zero, List.getElem_cons_succ, Act.put, List.setIfInBounds_toArray, List.set_cons_zero, List.set_cons_succ]
              refine wpAnyH_take (i := 35) (oi := _) (v := ?vr2n35_81) rfl (by kernel_rfl) (by kernel_rfl) (by kernel_rfl) (fun _ _ _ h => h) (Or.inl ⟨by kernel_rfl, ?hr2n35_81⟩) hHeld43 ?_
              case hr2n35_81 => (intro w hSw; (try dsimp only at hSw); go_simp; try (with_reducible rfl))
              try simp only [List.getElem_toArray, List.getElem_cons_zero, List.getElem_cons_succ, Act.put, List.setIfInBounds_toArray, List.set_cons_zero, List.set_cons_succ]
              refine wpAnyH_take (i := 36) (oi := _) (v := ?vr2n36_82) rfl (by kernel_rfl) (by kernel_rfl) (by kernel_rfl) (fun _ _ _ h => h) (Or.inl ⟨by kernel_rfl, ?hr2n36_82⟩) hHeld43 ?_
              case hr2n36_82 => (intro w hSw; (try dsimp only at hSw); go_simp; try (with_reducible rfl))
              try simp only [List.getElem_toArray, List.getElem_cons_zero, List.getElem_cons_succ, Act.put, List.setIfInBounds_toArray, List.set_cons_zero, List.set_cons_succ]
              refine wpAnyH_done (by kernel_rfl) ?_ _
              refine NoPanic.normal ?_
              (go_wp2_with fail; go_meet; exact ⟨by rw [HAH.out, ← str_append, ← str_append, ← str_append, ← str_append, ← str_append], And.left hHeld43⟩)
            refine AllReadyH.cons (o := _) rfl (fun K hK => ?_) AllReadyH.nil
            (have hcv6 := byt_conv HY5.out (n := 2) rfl 2)
            go_simp
            (clear hcv6)
            refine hK.out _ _ ?_ (fun hHeld44 => ?_)
            · (first | exact hHeld38)
            clear hHeld38 hK K
            try simp only [List.getElem_toArray, List.getElem_cons_zero, List.getElem_cons_succ, Act.put, List.setIfInBounds_toArray, List.set_cons_zero, List.set_cons_succ]
            refine wpAnyH_ready (rs := [17]) (by kernel_rfl) (by simp) ?_
            refine AllReadyH.cons (o := _) rfl (fun K hK => ?_) AllReadyH.nil
            go_simp
            (go_at_call 28; with_reducible refine (HQ2.out _).mono ?_; rintro e v7 ⟨rfl, hb0⟩; have HB7 := Lib.hid hb0; clear hb0)
            refine hK.out _ _ ?_ (fun hHeld45 => ?_)
            · (first | exact ((And.left hHeld44).step HB7.out).r)
            clear hHeld44 hK K
            try simp only [List.getElem_toArray, List.getElem_cons_zero, List.getElem_cons_succ, Act.put, List.setIfInBounds_toArray, List.set_cons_zero, List.set_cons_succ]
            refine wpAnyH_take (i := 18) (oi := _) (v := ?vr2n18_83) rfl (by kernel_rfl) (by kernel_rfl) (by kernel_rfl) (fun _ _ _ h => h) (Or.inl ⟨by kernel_rfl, ?hr2n18_83⟩) hHeld45 ?_
            case hr2n18_83 => (intro w hSw; (try dsimp only at hSw); go_simp; try (with_reducible rfl))
            try simp only [List.getElem_toArray, List.getElem_cons_zero, List.getElem_cons_succ, Act.put, List.setIfInBounds_toArray, List.set_cons_zero, List.set_cons_succ]
            refine wpAnyH_take (i := 30) (oi := _) (v := ?vr2n30_84) rfl (by kernel_rfl) (by kernel_rfl) (by kernel_rfl) (fun _ _ _ h => h) (Or.inl ⟨by kernel_rfl, ?hr2n30_84⟩) hHeld45 ?_
            case hr2n30_84 => (intro w hSw; (try dsimp only at hSw); go_simp; try (with_reducible rfl))
            try simp only [List.getElem_toArray, List.getElem_cons_zero, List.getElem_cons_succ, Act.put, List.setIfInBounds_toArray, List.set_cons_zero, List.set_cons_succ]
            refine wpAnyH_ready (rs := [34]) (by kernel_rfl) (by simp) ?_
            refine AllReadyH.cons (o := _) rfl (fun K hK => ?_) AllReadyH.nil
            go_simp
            (go_at_call 30; with_reducible refine (TA3.out _).mono ?_; rintro e v8 ⟨rfl, hb0⟩; have HB8 := Lib.hid hb0; clear hb0)
            refine hK.out _ _ ?_ (fun hHeld46 => ?_)
            · (first | exact ((And.left hHeld45).step HB8.out).r)
            clear hHeld45 hK K
            try simp only [List.getElem_toArray, List.getElem_cons_zero, List.getElem_cons_succ, Act.put, List.setIfInBounds_toArray, List.set_cons_zero, List.set_cons_succ]
            refine wpAnyH_take (i := 35) (oi := _) (v := ?vr2n35_85) rfl (by kernel_rfl) (by kernel_rfl) (by kernel_rfl) (fun _ _ _ h => h) (Or.inl ⟨by kernel_rfl, ?hr2n35_85⟩) hHeld46 ?_
            case hr2n35_85 => (intro w hSw; (try dsimp only at hSw); go_simp; try (with_reducible rfl))
            try simp only [List.getElem_toArray, List.getElem_cons_zero, List.getElem_cons_succ, Act.put, List.setIfInBounds_toArray, List.set_cons_zero, List.set_cons_succ]
            refine wpAnyH_take (i := 36) (oi := _) (v := ?vr2n36_86) rfl (by kernel_rfl) (by kernel_rfl) (by kernel_rfl) (fun _ _ _ h => h) (Or.inl ⟨by kernel_rfl, ?hr2n36_86⟩) hHeld46 ?_
            case hr2n36_86 => (intro w hSw; (try dsimp only at hSw); go_simp; try (with_reducible rfl))
            try simp only [List.getElem_toArray, List.getElem_cons_zero, List.getElem_cons_succ, Act.put, List.setIfInBounds_toArray, List.set_cons_zero, List.set_cons_succ]
            refine wpAnyH_done (by kernel_rfl) ?_ _
            refine NoPanic.normal ?_
            (go_wp2_with fail; go_meet; exact ⟨by rw [HAH.out, ← str_append, ← str_append, ← str_append, ← str_append, ← str_append], And.left hHeld46⟩)
          refine AllReadyH.cons (o := _) rfl (fun K hK => ?_) AllReadyH.nil
          (have hcv5 := byt_conv HY4.out (n := 2) rfl 2)
          go_simp
          (clear hcv5)
          refine hK.out _ _ ?_ (fun hHeld47 => ?_)
          · (first | exact hHeld37)
          clear hHeld37 hK K
          try simp only [List.getElem_toArray, List.getElem_cons_zero, List.getElem_cons_succ, Act.put, List.setIfInBounds_toArray, List.set_cons_zero, List.set_cons_succ]
          refine wpAnyH_ready (rs := [12]) (by kernel_rfl) (by simp) ?_
          refine AllReadyH.cons (o := _) rfl (fun K hK => ?_) AllReadyH.nil
          go_simp
          (go_at_call 28; with_reducible refine (HQ1.out _).mono ?_; rintro e v6 ⟨rfl, hb0⟩; have HB6 := Lib.hid hb0; clear hb0)
          refine hK.out _ _ ?_ (fun hHeld48 => ?_)
          · (first | exact ((And.left hHeld47).step HB6.out).r)
          clear hHeld47 hK K
          try simp only [List.getElem_toArray, List.getElem_cons_zero, List.getElem_cons_succ, Act.put, List.setIfInBounds_toArray, List.set_cons_zero, List.set_cons_succ]
          refine wpAnyH_take (i := 13) (oi := _) (v := ?vr2n13_87) rfl (by kernel_rfl) (by kernel_rfl) (by kernel_rfl) (fun _ _ _ h => h) (Or.inl ⟨by kernel_rfl, ?hr2n13_87⟩) hHeld48 ?_
          case hr2n13_87 => (intro w hSw; (try dsimp only at hSw); go_simp; try (with_reducible rfl))
          try simp only [List.getElem_toArray, List.getElem_cons_zero, List.getElem_cons_succ, Act.put, List.setIfInBounds_toArray, List.set_cons_zero, List.set_cons_succ]
          refine wpAnyH_ready (rs := [17]) (by kernel_rfl) (by simp) ?_
          refine AllReadyH.cons (o := _) rfl (fun K hK => ?_) AllReadyH.nil
          go_simp
          (go_at_call 28; with_reducible refine (HQ2.out _).mono ?_; rintro e v7 ⟨rfl, hb0⟩; have HB7 := Lib.hid hb0; clear hb0)
          refine hK.out _ _ ?_ (fun hHeld49 => ?_)
          · (first | exact ((And.left hHeld48).step HB7.out).r)
          clear hHeld48 hK K
          try simp only [List.getElem_toArray, List.getElem_cons_zero, List.getElem_cons_succ, Act.put, List.setIfInBounds_toArray, List.set_cons_zero, List.set_cons_succ]
          refine wpAnyH_take (i := 18) (oi := _) (v := ?vr2n18_88) rfl (by kernel_rfl) (by kernel_rfl) (by kernel_rfl) (fun _ _ _ h => h) (Or.inl ⟨by kernel_rfl, ?hr2n18_88⟩) hHeld49 ?_
          case hr2n18_88 => (intro w hSw; (try dsimp only at hSw); go_simp; try (with_reducible rfl))
          try simp only [List.getElem_toArray, List.getElem_cons_zero, List.getElem_cons_succ, Act.put, List.setIfInBounds_toArray, List.set_cons_zero, List.set_cons_succ]
          refine wpAnyH_take (i := 30) (oi := _) (v := ?vr2n30_89) rfl (by kernel_rfl) (by kernel_rfl) (by kernel_rfl) (fun _ _ _ h => h) (Or.inl ⟨by kernel_rfl, ?hr2n30_89⟩) hHeld49 ?_
          case hr2n30_89 => (intro w hSw; (try dsimp only at hSw); go_simp; try (with_reducible rfl))
          try simp only [List.getElem_toArray, List.getElem_cons_zero, List.getElem_cons_succ, Act.put, List.setIfInBounds_toArray, List.set_cons_zero, List.set_cons_succ]
          refine wpAnyH_ready (rs := [34]) (by kernel_rfl) (by simp) ?_
          refine AllReadyH.cons (o := _) rfl (fun K hK => ?_) AllReadyH.nil
          go_simp
          (go_at_call 30; with_reducible refine (TA3.out _).mono ?_; rintro e v8 ⟨rfl, hb0⟩; have HB8 := Lib.hid hb0; clear hb0)
          refine hK.out _ _ ?_ (fun hHeld50 => ?_)
          · (first | exact ((And.left hHeld49).step HB8.out).r)
          clear hHeld49 hK K
          try simp only [List.getElem_toArray, List.getElem_cons_zero, List.getElem_cons_succ, Act.put, List.setIfInBounds_toArray, List.set_cons_zero, List.set_cons_succ]
          refine wpAnyH_take (i := 35) (oi := _) (v := ?vr2n35_90) rfl (by kernel_rfl) (by kernel_rfl) (by kernel_rfl) (fun _ _ _ h => h) (Or.inl ⟨by kernel_rfl, ?hr2n35_90⟩) hHeld50 ?_
          case hr2n35_90 => (intro w hSw; (try dsimp only at hSw); go_simp; try (with_reducible rfl))
          try simp only [List.getElem_toArray, List.getElem_cons_zero, List.getElem_cons_succ, Act.put, List.setIfInBounds_toArray, List.set_cons_zero, List.set_cons_succ]
          refine wpAnyH_take (i := 36) (oi := _) (v := ?vr2n36_91) rfl (by kernel_rfl) (by kernel_rfl) (by kernel_rfl) (fun _ _ _ h => h) (Or.inl ⟨by kernel_rfl, ?hr2n36_91⟩) hHeld50 ?_
          case hr2n36_91 => (intro w hSw; (try dsimp only at hSw); go_simp; try (with_reducible rfl))
          try simp only [List.getElem_toArray, List.getElem_cons_zero, List.getElem_cons_succ, Act.put, List.setIfInBounds_toArray, List.set_cons_zero, List.set_cons_succ]
          refine wpAnyH_done (by kernel_rfl) ?_ _
          refine NoPanic.normal ?_
          (go_wp2_with fail; go_meet; exact ⟨by rw [HAH.out, ← str_append, ← str_append, ← str_append, ← str_append, ← str_append], And.left hHeld50⟩)
        refine AllReadyH.cons (o := _) rfl (fun K hK => ?_) AllReadyH.nil
        (have hcv4 := byt_conv HY3.out (n := 2) rfl 2)
        go_simp
        (clear hcv4)
        refine hK.out _ _ ?_ (fun hHeld51 => ?_)
        · (first | exact hHeld36)
        clear hHeld36 hK K
        try simp only [List.getElem_toArray, List.getElem_cons_zero, List.getElem_cons_succ, Act.put, List.setIfInBounds_toArray, List.set_cons_zero, List.set_cons_succ]
        refine wpAnyH_ready (rs := [7]) (by kernel_rfl) (by simp) ?_
        refine AllReadyH.cons (o := _) rfl (fun K hK => ?_) AllReadyH.nil
        go_simp
        (go_at_call 30; with_reducible refine (TA2.out _).mono ?_; rintro e v5 ⟨rfl, hb0⟩; have HB5 := Lib.hid hb0; clear hb0)
        refine hK.out _ _ ?_ (fun hHeld52 => ?_)
        · (first | exact ((And.left hHeld51).step HB5.out).r)
        clear hHeld51 hK K
        try simp only [List.getElem_toArray, List.getElem_cons_zero, List.getElem_cons_succ, Act.put, List.setIfInBounds_toArray, List.set_cons_zero, List.set_cons_succ]
        refine wpAnyH_take (i := 8) (oi := _) (v := ?vr2n8_92) rfl (by kernel_rfl) (by kernel_rfl) (by kernel_rfl) (fun _ _ _ h => h) (Or.inl ⟨by kernel_rfl, ?hr2n8_92⟩) hHeld52 ?_
        case hr2n8_92 => (intro w hSw; (try dsimp only at hSw); go_simp; try (with_reducible rfl))
        try simp only [List.getElem_toArray, List.getElem_cons_zero, List.getElem_cons_succ, Act.put, List.setIfInBounds_toArray, List.set_cons_zero, List.set_cons_succ]
        refine wpAnyH_ready (rs := [12]) (by kernel_rfl) (by simp) ?_
        refine AllReadyH.cons (o := _) rfl (fun K hK => ?_) AllReadyH.nil
        go_simp
        (go_at_call 28; with_reducible refine (HQ1.out _).mono ?_; rintro e v6 ⟨rfl, hb0⟩; have HB6 := Lib.hid hb0; clear hb0)
        refine hK.out _ _ ?_ (fun hHeld53 => ?_)
        · (first | exact ((And.left hHeld52).step HB6.out).r)
        clear hHeld52 hK K
        try simp only [List.getElem_toArray, List.getElem_cons_zero, List.getElem_cons_succ, Act.put, List.setIfInBounds_toArray, List.set_cons_zero, List.set_cons_succ]
        refine wpAnyH_take (i := 13) (oi := _) (v := ?vr2n13_93) rfl (by kernel_rfl) (by kernel_rfl) (by kernel_rfl) (fun _ _ _ h => h) (Or.inl ⟨by kernel_rfl, ?hr2n13_93⟩) hHeld53 ?_
        case hr2n13_93 => (intro w hSw; (try dsimp only at hSw); go_simp; try (with_reducible rfl))
        try simp only [List.getElem_toArray, List.getElem_cons_zero, List.getElem_cons_succ, Act.put, List.setIfInBounds_toArray, List.set_cons_zero, List.set_cons_succ]
        refine wpAnyH_ready (rs := [17]) (by kernel_rfl) (by simp) ?_
        refine AllReadyH.cons (o := _) rfl (fun K hK => ?_) AllReadyH.nil
        go_simp
        (go_at_call 28; with_reducible refine (HQ2.out _).mono ?_; rintro e v7 ⟨rfl, hb0⟩; have HB7 := Lib.hid hb0; clear hb0)
        refine hK.out _ _ ?_ (fun hHeld54 => ?_)
        · (first | exact ((And.left hHeld53).step HB7.out).r)
        clear hHeld53 hK K
        try simp only [List.getElem_toArray, List.getElem_cons_zero, List.getElem_cons_succ, Act.put, List.setIfInBounds_toArray, List.set_cons_zero, List.set_cons_succ]
        refine wpAnyH_take (i := 18) (oi := _) (v := ?vr2n18_94) rfl (by kernel_rfl) (by kernel_rfl) (by kernel_rfl) (fun _ _ _ h => h) (Or.inl ⟨by kernel_rfl, ?hr2n18_94⟩) hHeld54 ?_
        case hr2n18_94 => (intro w hSw; (try dsimp only at hSw); go_simp; try (with_reducible rfl))
        try simp only [List.getElem_toArray, List.getElem_cons_zero, List.getElem_cons_succ, Act.put, List.setIfInBounds_toArray, List.set_cons_zero, List.set_cons_succ]
        refine wpAnyH_take (i := 30) (oi := _) (v := ?vr2n30_95) rfl (by kernel_rfl) (by kernel_rfl) (by kernel_rfl) (fun _ _ _ h => h) (Or.inl ⟨by kernel_rfl, ?hr2n30_95⟩) hHeld54 ?_
        case hr2n30_95 => (intro w hSw; (try dsimp only at hSw); go_simp; try (with_reducible rfl))
        try simp only [List.getElem_toArray, List.getElem_cons_zero, List.getElem_cons_succ, Act.put, List.setIfInBounds_toArray, List.set_cons_zero, List.set_cons_succ]
        refine wpAnyH_ready (rs := [34]) (by kernel_rfl) (by simp) ?_
        refine AllReadyH.cons (o := _) rfl (fun K hK => ?_) AllReadyH.nil
        go_simp
        (go_at_call 30; with_reducible refine (TA3.out _).mono ?_; rintro e v8 ⟨rfl, hb0⟩; have HB8 := Lib.hid hb0; clear hb0)
        refine hK.out _ _ ?_ (fun hHeld55 => ?_)
        · (first | exact ((And.left hHeld54).step HB8.out).r)
        clear hHeld54 hK K
        try simp only [List.getElem_toArray, List.getElem_cons_zero, List.getElem_cons_succ, Act.put, List.setIfInBounds_toArray, List.set_cons_zero, List.set_cons_succ]
        refine wpAnyH_take (i := 35) (oi := _) (v := ?vr2n35_96) rfl (by kernel_rfl) (by kernel_rfl) (by kernel_rfl) (fun _ _ _ h => h) (Or.inl ⟨by kernel_rfl, ?hr2n35_96⟩) hHeld55 ?_
        case hr2n35_96 => (intro w hSw; (try dsimp only at hSw); go_simp; try (with_reducible rfl))
        try simp only [List.getElem_toArray, List.getElem_cons_zero, List.getElem_cons_succ, Act.put, List.setIfInBounds_toArray, List.set_cons_zero, List.set_cons_succ]
        refine wpAnyH_take (i := 36) (oi := _) (v := ?vr2n36_97) rfl (by kernel_rfl) (by kernel_rfl) (by kernel_rfl) (fun _ _ _ h => h) (Or.inl ⟨by kernel_rfl, ?hr2n36_97⟩) hHeld55 ?_
        case hr2n36_97 => (intro w hSw; (try dsimp only at hSw); go_simp; try (with_reducible rfl))
        try simp only [List.getElem_toArray, List.getElem_cons_zero, List.getElem_cons_succ, Act.put, List.setIfInBounds_toArray, List.set_cons_zero, List.set_cons_succ]
        refine wpAnyH_done (by kernel_rfl) ?_ _
        refine NoPanic.normal ?_
        (go_wp2_with fail; go_meet; exact ⟨by rw [HAH.out, ← str_append, ← str_append, ← str_append, ← str_append, ← str_append], And.left hHeld55⟩)
      refine AllReadyH.cons (o := _) rfl (fun K hK => ?_) AllReadyH.nil
      go_simp
      (have HY2 := Lib.hid (byt_litD w2 5 [y1, y2] #[.int .u8 (n3 : Int), .int .u8 fl] V67.out))
      refine hK.out _ _ ?_ (fun hHeld56 => ?_)
      · (first | exact (SgQ.allocD (And.left hHeld) _).r)
      clear hHeld hK K
      try simp only [List.getElem_toArray, List.getElem_cons_zero, List.getElem_cons_succ, Act.put, List.setIfInBounds_toArray, List.set_cons_zero, List.set_cons_succ]
      refine wpAnyH_ready (rs := [3, 29]) (by kernel_rfl) (by simp) ?_
      refine AllReadyH.cons (o := _) rfl (fun K hK => ?_) ?_
      · skip
        go_simp
        (go_at_call 30; with_reducible refine (TA1.out _).mono ?_; rintro e v3 ⟨rfl, hb0⟩; have HB3 := Lib.hid hb0; clear hb0; have HY3 := Lib.hid (HY2.out.step HB3.out))
        refine hK.out _ _ ?_ (fun hHeld57 => ?_)
        · (first | exact ((And.left hHeld56).step HB3.out).r)
        clear hHeld56 hK K
        try simp only [List.getElem_toArray, List.getElem_cons_zero, List.getElem_cons_succ, Act.put, List.setIfInBounds_toArray, List.set_cons_zero, List.set_cons_succ]
        refine wpAnyH_ready (rs := [7, 29]) (by kernel_rfl) (by simp) ?_
        refine AllReadyH.cons (o := _) rfl (fun K hK => ?_) ?_
        · skip
          go_simp
          (go_at_call 30; with_reducible refine (TA2.out _).mono ?_; rintro e v4 ⟨rfl, hb0⟩; have HB4 := Lib.hid hb0; clear hb0; have HY4 := Lib.hid (HY3.out.step HB4.out))
          refine hK.out _ _ ?_ (fun hHeld58 => ?_)
          · (first | exact ((And.left hHeld57).step HB4.out).r)
          clear hHeld57 hK K
          try simp only [List.getElem_toArray, List.getElem_cons_zero, List.getElem_cons_succ, Act.put, List.setIfInBounds_toArray, List.set_cons_zero, List.set_cons_succ]
          refine wpAnyH_take (i := 8) (oi := _) (v := ?vr2n8_98) rfl (by kernel_rfl) (by kernel_rfl) (by kernel_rfl) (fun _ _ _ h => h) (Or.inl ⟨by kernel_rfl, ?hr2n8_98⟩) hHeld58 ?_
          case hr2n8_98 => (intro w hSw; (try dsimp only at hSw); go_simp; try (with_reducible rfl))
          try simp only [List.getElem_toArray, List.getElem_cons_zero, List.getElem_cons_succ, Act.put, List.setIfInBounds_toArray, List.set_cons_zero, List.set_cons_succ]
          refine wpAnyH_ready (rs := [12, 29]) (by kernel_rfl) (by simp) ?_
          refine AllReadyH.cons (o := _) rfl (fun K hK => ?_) ?_
          · skip
            go_simp
            (go_at_call 28; with_reducible refine (HQ1.out _).mono ?_; rintro e v5 ⟨rfl, hb0⟩; have HB5 := Lib.hid hb0; clear hb0; have HY5 := Lib.hid (HY4.out.step HB5.out))
            refine hK.out _ _ ?_ (fun hHeld59 => ?_)
            · (first | exact ((And.left hHeld58).step HB5.out).r)
            clear hHeld58 hK K
            try simp only [List.getElem_toArray, List.getElem_cons_zero, List.getElem_cons_succ, Act.put, List.setIfInBounds_toArray, List.set_cons_zero, List.set_cons_succ]
            refine wpAnyH_take (i := 13) (oi := _) (v := ?vr2n13_99) rfl (by kernel_rfl) (by kernel_rfl) (by kernel_rfl) (fun _ _ _ h => h) (Or.inl ⟨by kernel_rfl, ?hr2n13_99⟩) hHeld59 ?_
            case hr2n13_99 => (intro w hSw; (try dsimp only at hSw); go_simp; try (with_reducible rfl))
            try simp only [List.getElem_toArray, List.getElem_cons_zero, List.getElem_cons_succ, Act.put, List.setIfInBounds_toArray, List.set_cons_zero, List.set_cons_succ]
            refine wpAnyH_ready (rs := [17, 29]) (by kernel_rfl) (by simp) ?_
            refine AllReadyH.cons (o := _) rfl (fun K hK => ?_) ?_
            · skip
              go_simp
              (go_at_call 28; with_reducible refine (HQ2.out _).mono ?_; rintro e v6 ⟨rfl, hb0⟩; have HB6 := Lib.hid hb0; clear hb0; have HY6 := Lib.hid (HY5.out.step HB6.out))
              refine hK.out _ _ ?_ (fun hHeld60 => ?_)
              · (first | exact ((And.left hHeld59).step HB6.out).r)
              clear hHeld59 hK K
              try simp only [List.getElem_toArray, List.getElem_cons_zero, List.getElem_cons_succ, Act.put, List.setIfInBounds_toArray, List.set_cons_zero, List.set_cons_succ]
              refine wpAnyH_take (i := 18) (oi := _) (v := ?vr2n18_100) rfl (by kernel_rfl) (by kernel_rfl) (by kernel_rfl) (fun _ _ _ h => h) (Or.inl ⟨by kernel_rfl, ?hr2n18_100⟩) hHeld60 ?_
              case hr2n18_100 => (intro w hSw; (try dsimp only at hSw); go_simp; try (with_reducible rfl))
              try simp only [List.getElem_toArray, List.getElem_cons_zero, List.getElem_cons_succ, Act.put, List.setIfInBounds_toArray, List.set_cons_zero, List.set_cons_succ]
              refine wpAnyH_ready (rs := [29, 34]) (by kernel_rfl) (by simp) ?_
              refine AllReadyH.cons (o := _) rfl (fun K hK => ?_) ?_
              · skip
                (have hcv7 := byt_conv HY6.out (n := 2) rfl 2)
                go_simp
                (clear hcv7)
                refine hK.out _ _ ?_ (fun hHeld61 => ?_)
                · (first | exact hHeld60)
                clear hHeld60 hK K
                try simp only [List.getElem_toArray, List.getElem_cons_zero, List.getElem_cons_succ, Act.put, List.setIfInBounds_toArray, List.set_cons_zero, List.set_cons_succ]
                refine wpAnyH_take (i := 30) (oi := _) (v := ?vr2n30_101) rfl (by kernel_rfl) (by kernel_rfl) (by kernel_rfl) (fun _ _ _ h => h) (Or.inl ⟨by kernel_rfl, ?hr2n30_101⟩) hHeld61 ?_
                case hr2n30_101 => (intro w hSw; (try dsimp only at hSw); go_simp; try (with_reducible rfl))
                try simp only [List.getElem_toArray, List.getElem_cons_zero, List.getElem_cons_succ, Act.put, List.setIfInBounds_toArray, List.set_cons_zero, List.set_cons_succ]
                refine wpAnyH_ready (rs := [34]) (by kernel_rfl) (by simp) ?_
                refine AllReadyH.cons (o := _) rfl (fun K hK => ?_) AllReadyH.nil
                go_simp
                (go_at_call 30; with_reducible refine (TA3.out _).mono ?_; rintro e v8 ⟨rfl, hb0⟩; have HB8 := Lib.hid hb0; clear hb0)
                refine hK.out _ _ ?_ (fun hHeld62 => ?_)
                · (first | exact ((And.left hHeld61).step HB8.out).r)
                clear hHeld61 hK K
                try simp only [List.getElem_toArray, List.getElem_cons_zero, List.getElem_cons_succ, Act.put, List.setIfInBounds_toArray, List.set_cons_zero, List.set_cons_succ]
                refine wpAnyH_take (i := 35) (oi := _) (v := ?vr2n35_102) rfl (by kernel_rfl) (by kernel_rfl) (by kernel_rfl) (fun _ _ _ h => h) (Or.inl ⟨by kernel_rfl, ?hr2n35_102⟩) hHeld62 ?_
                case hr2n35_102 => (intro w hSw; (try dsimp only at hSw); go_simp; try (with_reducible rfl))
                try simp only [List.getElem_toArray, List.getElem_cons_zero, List.getElem_cons_succ, Act.put, List.setIfInBounds_toArray, List.set_cons_zero, List.set_cons_succ]
                refine wpAnyH_take (i := 36) (oi := _) (v := ?vr2n36_103) rfl (by kernel_rfl) (by kernel_rfl) (by kernel_rfl) (fun _ _ _ h => h) (Or.inl ⟨by kernel_rfl, ?hr2n36_103⟩) hHeld62 ?_
                case hr2n36_103 => (intro w hSw; (try dsimp only at hSw); go_simp; try (with_reducible rfl))
                try simp only [List.getElem_toArray, List.getElem_cons_zero, List.getElem_cons_succ, Act.put, List.setIfInBounds_toArray, List.set_cons_zero, List.set_cons_succ]
                refine wpAnyH_done (by kernel_rfl) ?_ _
                refine NoPanic.normal ?_
                (go_wp2_with fail; go_meet; exact ⟨by rw [HAH.out, ← str_append, ← str_append, ← str_append, ← str_append, ← str_append], And.left hHeld62⟩)
              refine AllReadyH.cons (o := _) rfl (fun K hK => ?_) AllReadyH.nil
              go_simp
              (go_at_call 30; with_reducible refine (TA3.out _).mono ?_; rintro e v7 ⟨rfl, hb0⟩; have HB7 := Lib.hid hb0; clear hb0; have HY7 := Lib.hid (HY6.out.step HB7.out))
              refine hK.out _ _ ?_ (fun hHeld63 => ?_)
              · (first | exact ((And.left hHeld60).step HB7.out).r)
              clear hHeld60 hK K
              try simp only [List.getElem_toArray, List.getElem_cons_zero, List.getElem_cons_succ, Act.put, List.setIfInBounds_toArray, List.set_cons_zero, List.set_cons_succ]
              refine wpAnyH_ready (rs := [29]) (by kernel_rfl) (by simp) ?_
              refine AllReadyH.cons (o := _) rfl (fun K hK => ?_) AllReadyH.nil
              (have hcv8 := byt_conv HY7.out (n := 2) rfl 2)
              go_simp
              (clear hcv8)
              refine hK.out _ _ ?_ (fun hHeld64 => ?_)
              · (first | exact hHeld63)
              clear hHeld63 hK K
              try simp only [List.getElem_toArray, List.getElem_cons_zero, List.getElem_cons_succ, Act.put, List.setIfInBounds_toArray, List.set_cons_zero, List.set_cons_succ]
              refine wpAnyH_take (i := 30) (oi := _) (v := ?vr2n30_104) rfl (by kernel_rfl) (by kernel_rfl) (by kernel_rfl) (fun _ _ _ h => h) (Or.inl ⟨by kernel_rfl, ?hr2n30_104⟩) hHeld64 ?_
              case hr2n30_104 => (intro w hSw; (try dsimp only at hSw); go_simp; try (with_reducible rfl))
              try simp only [List.getElem_toArray, List.getElem_cons_zero, List.getElem_cons_succ, Act.put, List.setIfInBounds_toArray, List.set_cons_zero, List.set_cons_succ]
              refine wpAnyH_take (i := 35) (oi := _) (v := ?vr2n35_105) rfl (by kernel_rfl) (by kernel_rfl) (by kernel_rfl) (fun _ _ _ h => h) (Or.inl ⟨by kernel_rfl, ?hr2n35_105⟩) hHeld64 ?_
              case hr2n35_105 => (intro w hSw; (try dsimp only at hSw); go_simp; try (with_reducible rfl))
              try simp only [List.getElem_toArray, List.getElem_cons_zero, List.getElem_cons_succ, Act.put, List.setIfInBounds_toArray, List.set_cons_zero, List.set_cons_succ]
              refine wpAnyH_take (i := 36) (oi := _) (v := ?vr2n36_106) rfl (by kernel_rfl) (by kernel_rfl) (by kernel_rfl) (fun _ _ _ h => h) (Or.inl ⟨by kernel_rfl, ?hr2n36_106⟩) hHeld64 ?_
              case hr2n36_106 => (intro w hSw; (try dsimp only at hSw); go_simp; try (with_reducible rfl))
              try simp only [List.getElem_toArray, List.getElem_cons_zero, List.getElem_cons_succ, Act.put, List.setIfInBounds_toArray, List.set_cons_zero, List.set_cons_succ]
              refine wpAnyH_done (by kernel_rfl) ?_ _
              refine NoPanic.normal ?_
              (go_wp2_with fail; go_meet; exact ⟨by rw [HAH.out, ← str_append, ← str_append, ← str_append, ← str_append, ← str_append], And.left hHeld64⟩)
            refine AllReadyH.cons (o := _) rfl (fun K hK => ?_) AllReadyH.nil
            (have hcv6 := byt_conv HY5.out (n := 2) rfl 2)
            go_simp
            (clear hcv6)
            refine hK.out _ _ ?_ (fun hHeld65 => ?_)
            · (first | exact hHeld59)
            clear hHeld59 hK K
            try simp only [List.getElem_toArray, List.getElem_cons_zero, List.getElem_cons_succ, Act.put, List.setIfInBounds_toArray, List.set_cons_zero, List.set_cons_succ]
            refine wpAnyH_ready (rs := [17]) (by kernel_rfl) (by simp) ?_
            refine AllReadyH.cons (o := _) rfl (fun K hK => ?_) AllReadyH.nil
            go_simp
            (go_at_call 28; with_reducible refine (HQ2.out _).mono ?_; rintro e v7 ⟨rfl, hb0⟩; have HB7 := Lib.hid hb0; clear hb0)
            refine hK.out _ _ ?_ (fun hHeld66 => ?_)
            · (first | exact ((And.left hHeld65).step HB7.out).r)
            clear hHeld65 hK K
            try simp only [List.getElem_toArray, List.getElem_cons_zero, List.getElem_cons_succ, Act.put, List.setIfInBounds_toArray, List.set_cons_zero, List.set_cons_succ]
            refine wpAnyH_take (i := 18) (oi := _) (v := ?vr2n18_107) rfl (by kernel_rfl) (by kernel_rfl) (by kernel_rfl) (fun _ _ _ h => h) (Or.inl ⟨by kernel_rfl, ?hr2n18_107⟩) hHeld66 ?_
            case hr2n18_107 => (intro w hSw; (try dsimp only at hSw); go_simp; try (with_reducible rfl))
            try simp only [List.getElem_toArray, List.getElem_cons_zero, List.getElem_cons_succ, Act.put, List.setIfInBounds_toArray, List.set_cons_zero, List.set_cons_succ]
            refine wpAnyH_take (i := 30) (oi := _) (v := ?vr2n30_108) rfl (by kernel_rfl) (by kernel_rfl) (by kernel_rfl) (fun _ _ _ h => h) (Or.inl ⟨by kernel_rfl, ?hr2n30_108⟩) hHeld66 ?_
            case hr2n30_108 => (intro w hSw; (try dsimp only at hSw); go_simp; try (with_reducible rfl))
            try simp only [List.getElem_toArray, List.getElem_cons_zero, List.getElem_cons_succ, Act.put, List.setIfInBounds_toArray, List.set_cons_zero, List.set_cons_succ]
            refine wpAnyH_ready (rs := [34]) (by kernel_rfl) (by simp) ?_
            refine AllReadyH.cons (o := _) rfl (fun K hK => ?_) AllReadyH.nil
            go_simp
            (go_at_call 30; with_reducible refine (TA3.out _).mono ?_; rintro e v8 ⟨rfl, hb0⟩; have HB8 := Lib.hid hb0; clear hb0)
            refine hK.out _ _ ?_ (fun hHeld67 => ?_)
            · (first | exact ((And.left hHeld66).step HB8.out).r)
            clear hHeld66 hK K
            try simp only [List.getElem_toArray, List.getElem_cons_zero, List.getElem_cons_succ, Act.put, List.setIfInBounds_toArray, List.set_cons_zero, List.set_cons_succ]
            refine wpAnyH_take (i := 35) (oi := _) (v := ?vr2n35_109) rfl (by kernel_rfl) (by kernel_rfl) (by kernel_rfl) (fun _ _ _ h => h) (Or.inl ⟨by kernel_rfl, ?hr2n35_109⟩) hHeld67 ?_
            case hr2n35_109 => (intro w hSw; (try dsimp only at hSw); go_simp; try (with_reducible rfl))
            try simp only [List.getElem_toArray, List.getElem_cons_zero, List.getElem_cons_succ, Act.put, List.setIfInBounds_toArray, List.set_cons_zero, List.set_cons_succ]
            refine wpAnyH_take (i := 36) (oi := _) (v := ?vr2n36_110) rfl (by kernel_rfl) (by kernel_rfl) (by kernel_rfl) (fun _ _ _ h => h) (Or.inl ⟨by kernel_rfl, ?hr2n36_110⟩) hHeld67 ?_
            case hr2n36_110 => (intro w hSw; (try dsimp only at hSw); go_simp; try (with_reducible rfl))
            try simp only [List.getElem_toArray, List.getElem_cons_zero, List.getElem_cons_succ, Act.put, List.setIfInBounds_toArray, List.set_cons_zero, List.set_cons_succ]
            refine wpAnyH_done (by kernel_rfl) ?_ _
            refine NoPanic.normal ?_
            (go_wp2_with fail; go_meet; exact ⟨by rw [HAH.out, ← str_append, ← str_append, ← str_append, ← str_append, ← str_append], And.left hHeld67⟩)
          refine AllReadyH.cons (o := _) rfl (fun K hK => ?_) AllReadyH.nil
          (have hcv5 := byt_conv HY4.out (n := 2) rfl 2)
          go_simp
          (clear hcv5)
          refine hK.out _ _ ?_ (fun hHeld68 => ?_)
          · (first | exact hHeld58)
          clear hHeld58 hK K
          try simp only [List.getElem_toArray, List.getElem_cons_zero, List.getElem_cons_succ, Act.put, List.setIfInBounds_toArray, List.set_cons_zero, List.set_cons_succ]
          refine wpAnyH_ready (rs := [12]) (by kernel_rfl) (by simp) ?_
          refine AllReadyH.cons (o := _) rfl (fun K hK => ?_) AllReadyH.nil
          go_simp
          (go_at_call 28; with_reducible refine (HQ1.out _).mono ?_; rintro e v6 ⟨rfl, hb0⟩; have HB6 := Lib.hid hb0; clear hb0)
          refine hK.out _ _ ?_ (fun hHeld69 => ?_)
          · (first | exact ((And.left hHeld68).step HB6.out).r)
          clear hHeld68 hK K
          try simp only [List.getElem_toArray, List.getElem_cons_zero, List.getElem_cons_succ, Act.put, List.setIfInBounds_toArray, List.set_cons_zero, List.set_cons_succ]
          refine wpAnyH_take (i := 13) (oi := _) (v := ?vr2n13_111) rfl (by kernel_rfl) (by kernel_rfl) (by kernel_rfl) (fun _ _ _ h => h) (Or.inl ⟨by kernel_rfl, ?hr2n13_111⟩) hHeld69 ?_
          case hr2n13_111 => (intro w hSw; (try dsimp only at hSw); go_simp; try (with_reducible rfl))
          try simp only [List.getElem_toArray, List.getElem_cons_zero, List.getElem_cons_succ, Act.put, List.setIfInBounds_toArray, List.set_cons_zero, List.set_cons_succ]
          refine wpAnyH_ready (rs := [17]) (by kernel_rfl) (by simp) ?_
          refine AllReadyH.cons (o := _) rfl (fun K hK => ?_) AllReadyH.nil
          go_simp
          (go_at_call 28; with_reducible refine (HQ2.out _).mono ?_; rintro e v7 ⟨rfl, hb0⟩; have HB7 := Lib.hid hb0; clear hb0)
          refine hK.out _ _ ?_ (fun hHeld70 => ?_)
          · (first | exact ((And.left hHeld69).step HB7.out).r)
          clear hHeld69 hK K
          try simp only [List.getElem_toArray, List.getElem_cons_zero, List.getElem_cons_succ, Act.put, List.setIfInBounds_toArray, List.set_cons_zero, List.set_cons_succ]
          refine wpAnyH_take (i := 18) (oi := _) (v := ?vr2n18_112) rfl (by kernel_rfl) (by kernel_rfl) (by kernel_rfl) (fun _ _ _ h => h) (Or.inl ⟨by kernel_rfl, ?hr2n18_112⟩) hHeld70 ?_
          case hr2n18_112 => (intro w hSw; (try dsimp only at hSw); go_simp; try (with_reducible rfl))
          try simp only [List.getElem_toArray, List.getElem_cons_zero, List.getElem_cons_succ, Act.put, List.setIfInBounds_toArray, List.set_cons_zero, List.set_cons_succ]
          refine wpAnyH_take (i := 30) (oi := _) (v := ?vr2n30_113) rfl (by kernel_rfl) (by kernel_rfl) (by kernel_rfl) (fun _ _ _ h => h) (Or.inl ⟨by kernel_rfl, ?hr2n30_113⟩) hHeld70 ?_
          case hr2n30_113 => (intro w hSw; (try dsimp only at hSw); go_simp; try (with_reducible rfl))
          try simp only [List.getElem_toArray, List.getElem_cons_zero, List.getElem_cons_succ, Act.put, List.setIfInBounds_toArray, List.set_cons_zero, List.set_cons_succ]
          refine wpAnyH_ready (rs := [34]) (by kernel_rfl) (by simp) ?_
          refine AllReadyH.cons (o := _) rfl (fun K hK => ?_) AllReadyH.nil
          go_simp
          (go_at_call 30; with_reducible refine (TA3.out _).mono ?_; rintro e v8 ⟨rfl, hb0⟩; have HB8 := Lib.hid hb0; clear hb0)
          refine hK.out _ _ ?_ (fun hHeld71 => ?_)
          · (first | exact ((And.left hHeld70).step HB8.out).r)
          clear hHeld70 hK K
          try simp only [List.getElem_toArray, List.getElem_cons_zero, List.getElem_cons_succ, Act.put, List.setIfInBounds_toArray, List.set_cons_zero, List.set_cons_succ]
          refine wpAnyH_take (i := 35) (oi := _) (v := ?vr2n35_114) rfl (by kernel_rfl) (by kernel_rfl) (by kernel_rfl) (fun _ _ _ h => h) (Or.inl ⟨by kernel_rfl, ?hr2n35_114⟩) hHeld71 ?_
          case hr2n35_114 => (intro w hSw; (try dsimp only at hSw); go_simp; try (with_reducible rfl))
          try simp only [List.getElem_toArray, List.getElem_cons_zero, List.getElem_cons_succ, Act.put, List.setIfInBounds_toArray, List.set_cons_zero, List.set_cons_succ]
          refine wpAnyH_take (i := 36) (oi := _) (v := ?vr2n36_115) rfl (by kernel_rfl) (by kernel_rfl) (by kernel_rfl) (fun _ _ _ h => h) (Or.inl ⟨by kernel_rfl, ?hr2n36_115⟩) hHeld71 ?_
          case hr2n36_115 => (intro w hSw; (try dsimp only at hSw); go_simp; try (with_reducible rfl))
          try simp only [List.getElem_toArray, List.getElem_cons_zero, List.getElem_cons_succ, Act.put, List.setIfInBounds_toArray, List.set_cons_zero, List.set_cons_succ]
          refine wpAnyH_done (by kernel_rfl) ?_ _
          refine NoPanic.normal ?_
          (go_wp2_with fail; go_meet; exact ⟨by rw [HAH.out, ← str_append, ← str_append, ← str_append, ← str_append, ← str_append], And.left hHeld71⟩)
        refine AllReadyH.cons (o := _) rfl (fun K hK => ?_) AllReadyH.nil
        (have hcv4 := byt_conv HY3.out (n := 2) rfl 2)
        go_simp
        (clear hcv4)
        refine hK.out _ _ ?_ (fun hHeld72 => ?_)
        · (first | exact hHeld57)
        clear hHeld57 hK K
        try simp only [List.getElem_toArray, List.getElem_cons_zero, List.getElem_cons_succ, Act.put, List.setIfInBounds_toArray, List.set_cons_zero, List.set_cons_succ]
        refine wpAnyH_ready (rs := [7]) (by kernel_rfl) (by simp) ?_
        refine AllReadyH.cons (o := _) rfl (fun K hK => ?_) AllReadyH.nil
        go_simp
        (go_at_call 30; with_reducible refine (TA2.out _).mono ?_; rintro e v5 ⟨rfl, hb0⟩; have HB5 := Lib.hid hb0; clear hb0)
        refine hK.out _ _ ?_ (fun hHeld73 => ?_)
        · (first | exact ((And.left hHeld72).step HB5.out).r)
        clear hHeld72 hK K
        try simp only [List.getElem_toArray, List.getElem_cons_zero, List.getElem_cons_succ, Act.put, List.setIfInBounds_toArray, List.set_cons_zero, List.set_cons_succ]
        refine wpAnyH_take (i := 8) (oi := _) (v := ?vr2n8_116) rfl (by kernel_rfl) (by kernel_rfl) (by kernel_rfl) (fun _ _ _ h => h) (Or.inl ⟨by kernel_rfl, ?hr2n8_116⟩) hHeld73 ?_
        case hr2n8_116 => (intro w hSw; (try dsimp only at hSw); go_simp; try (with_reducible rfl))
        try simp only [List.getElem_toArray, List.getElem_cons_zero, List.getElem_cons_succ, Act.put, List.setIfInBounds_toArray, List.set_cons_zero, List.set_cons_succ]
        refine wpAnyH_ready (rs := [12]) (by kernel_rfl) (by simp) ?_
        refine AllReadyH.cons (o := _) rfl (fun K hK => ?_) AllReadyH.nil
        go_simp
        (go_at_call 28; with_reducible refine (HQ1.out _).mono ?_; rintro e v6 ⟨rfl, hb0⟩; have HB6 := Lib.hid hb0; clear hb0)
        refine hK.out _ _ ?_ (fun hHeld74 => ?_)
        · (first | exact ((And.left hHeld73).step HB6.out).r)
        clear hHeld73 hK K
        try simp only [List.getElem_toArray, List.getElem_cons_zero, List.getElem_cons_succ, Act.put, List.setIfInBounds_toArray, List.set_cons_zero, List.set_cons_succ]
        refine wpAnyH_take (i := 13) (oi := _) (v := ?vr2n13_117) rfl (by kernel_rfl) (by kernel_rfl) (by kernel_rfl) (fun _ _ _ h => h) (Or.inl ⟨by kernel_rfl, ?hr2n13_117⟩) hHeld74 ?_
        case hr2n13_117 => (intro w hSw; (try dsimp only at hSw); go_simp; try (with_reducible rfl))
        try simp only [List.getElem_toArray, List.getElem_cons_zero, List.getElem_cons_succ, Act.put, List.setIfInBounds_toArray, List.set_cons_zero, List.set_cons_succ]
        refine wpAnyH_ready (rs := [17]) (by kernel_rfl) (by simp) ?_
        refine AllReadyH.cons (o := _) rfl (fun K hK => ?_) AllReadyH.nil
        go_simp
        (go_at_call 28; with_reducible refine (HQ2.out _).mono ?_; rintro e v7 ⟨rfl, hb0⟩; have HB7 := Lib.hid hb0; clear hb0)
        refine hK.out _ _ ?_ (fun hHeld75 => ?_)
        · (first | exact ((And.left hHeld74).step HB7.out).r)
        clear hHeld74 hK K
        try simp only [List.getElem_toArray, List.getElem_cons_zero, List.getElem_cons_succ, Act.put, List.setIfInBounds_toArray, List.set_cons_zero, List.set_cons_succ]
        refine wpAnyH_take (i := 18) (oi := _) (v := ?vr2n18_118) rfl (by kernel_rfl) (by kernel_rfl) (by kernel_rfl) (fun _ _ _ h => h) (Or.inl ⟨by kernel_rfl, ?hr2n18_118⟩) hHeld75 ?_
        case hr2n18_118 => (intro w hSw; (try dsimp only at hSw); go_simp; try (with_reducible rfl))
        try simp only [List.getElem_toArray, List.getElem_cons_zero, List.getElem_cons_succ, Act.put, List.setIfInBounds_toArray, List.set_cons_zero, List.set_cons_succ]
        refine wpAnyH_take (i := 30) (oi := _) (v := ?vr2n30_119) rfl (by kernel_rfl) (by kernel_rfl) (by kernel_rfl) (fun _ _ _ h => h) (Or.inl ⟨by kernel_rfl, ?hr2n30_119⟩) hHeld75 ?_
        case hr2n30_119 => (intro w hSw; (try dsimp only at hSw); go_simp; try (with_reducible rfl))
        try simp only [List.getElem_toArray, List.getElem_cons_zero, List.getElem_cons_succ, Act.put, List.setIfInBounds_toArray, List.set_cons_zero, List.set_cons_succ]
        refine wpAnyH_ready (rs := [34]) (by kernel_rfl) (by simp) ?_
        refine AllReadyH.cons (o := _) rfl (fun K hK => ?_) AllReadyH.nil
        go_simp
        (go_at_call 30; with_reducible refine (TA3.out _).mono ?_; rintro e v8 ⟨rfl, hb0⟩; have HB8 := Lib.hid hb0; clear hb0)
        refine hK.out _ _ ?_ (fun hHeld76 => ?_)
        · (first | exact ((And.left hHeld75).step HB8.out).r)
        clear hHeld75 hK K
        try simp only [List.getElem_toArray, List.getElem_cons_zero, List.getElem_cons_succ, Act.put, List.setIfInBounds_toArray, List.set_cons_zero, List.set_cons_succ]
        refine wpAnyH_take (i := 35) (oi := _) (v := ?vr2n35_120) rfl (by kernel_rfl) (by kernel_rfl) (by kernel_rfl) (fun _ _ _ h => h) (Or.inl ⟨by kernel_rfl, ?hr2n35_120⟩) hHeld76 ?_
        case hr2n35_120 => (intro w hSw; (try dsimp only at hSw); go_simp; try (with_reducible rfl))
        try simp only [List.getElem_toArray, List.getElem_cons_zero, List.getElem_cons_succ, Act.put, List.setIfInBounds_toArray, List.set_cons_zero, List.set_cons_succ]
        refine wpAnyH_take (i := 36) (oi := _) (v := ?vr2n36_121) rfl (by kernel_rfl) (by kernel_rfl) (by kernel_rfl) (fun _ _ _ h => h) (Or.inl ⟨by kernel_rfl, ?hr2n36_121⟩) hHeld76 ?_
        case hr2n36_121 => (intro w hSw; (try dsimp only at hSw); go_simp; try (with_reducible rfl))
        try simp only [List.getElem_toArray, List.getElem_cons_zero, List.getElem_cons_succ, Act.put, List.setIfInBounds_toArray, List.set_cons_zero, List.set_cons_succ]
        refine wpAnyH_done (by kernel_rfl) ?_ _
        refine NoPanic.normal ?_
        (go_wp2_with fail; go_meet; exact ⟨by rw [HAH.out, ← str_append, ← str_append, ← str_append, ← str_append, ← str_append], And.left hHeld76⟩)
      refine AllReadyH.cons (o := _) rfl (fun K hK => ?_) AllReadyH.nil
      (have hcv3 := byt_conv HY2.out (n := 2) rfl 2)
      go_simp
      (clear hcv3)
      refine hK.out _ _ ?_ (fun hHeld77 => ?_)
      · (first | exact hHeld56)
      clear hHeld56 hK K
      try simp only [List.getElem_toArray, List.getElem_cons_zero, List.getElem_cons_succ, Act.put, List.setIfInBounds_toArray, List.set_cons_zero, List.set_cons_succ]
      refine wpAnyH_ready (rs := [3]) (by kernel_rfl) (by simp) ?_
      refine AllReadyH.cons (o := _) rfl (fun K hK => ?_) AllReadyH.nil
      go_simp
      (go_at_call 30; with_reducible refine (TA1.out _).mono ?_; rintro e v4 ⟨rfl, hb0⟩; have HB4 := Lib.hid hb0; clear hb0)
      refine hK.out _ _ ?_ (fun hHeld78 => ?_)
      · (first | exact ((And.left hHeld77).step HB4.out).r)
      clear hHeld77 hK K
      try simp only [List.getElem_toArray, List.getElem_cons_zero, List.getElem_cons_succ, Act.put, List.setIfInBounds_toArray, List.set_cons_zero, List.set_cons_succ]
      refine wpAnyH_ready (rs := [7]) (by kernel_rfl) (by simp) ?_
      refine AllReadyH.cons (o := _) rfl (fun K hK => ?_) AllReadyH.nil
      go_simp
      (go_at_call 30; with_reducible refine (TA2.out _).mono ?_; rintro e v5 ⟨rfl, hb0⟩; have HB5 := Lib.hid hb0; clear hb0)
      refine hK.out _ _ ?_ (fun hHeld79 => ?_)
      · (first | exact ((And.left hHeld78).step HB5.out).r)
      clear hHeld78 hK K
      try simp only [List.getElem_toArray, List.getElem_cons_zero, List.getElem_cons_succ, Act.put, List.setIfInBounds_toArray, List.set_cons_zero, List.set_cons_succ]
      refine wpAnyH_take (i := 8) (oi := _) (v := ?vr2n8_122) rfl (by kernel_rfl) (by kernel_rfl) (by kernel_rfl) (fun _ _ _ h => h) (Or.inl ⟨by kernel_rfl, ?hr2n8_122⟩) hHeld79 ?_
      case hr2n8_122 => (intro w hSw; (try dsimp only at hSw); go_simp; try (with_reducible rfl))
      try simp only [List.getElem_toArray, List.getElem_cons_zero, List.getElem_cons_succ, Act.put, List.setIfInBounds_toArray, List.set_cons_zero, List.set_cons_succ]
      refine wpAnyH_ready (rs := [12]) (by kernel_rfl) (by simp) ?_
      refine AllReadyH.cons (o := _) rfl (fun K hK => ?_) AllReadyH.nil
      go_simp
      (go_at_call 28; with_reducible refine (HQ1.out _).mono ?_; rintro e v6 ⟨rfl, hb0⟩; have HB6 := Lib.hid hb0; clear hb0)
      refine hK.out _ _ ?_ (fun hHeld80 => ?_)
      · (first | exact ((And.left hHeld79).step HB6.out).r)
      clear hHeld79 hK K
      try simp only [List.getElem_toArray, List.getElem_cons_zero, List.getElem_cons_succ, Act.put, List.setIfInBounds_toArray, List.set_cons_zero, List.set_cons_succ]
      refine wpAnyH_take (i := 13) (oi := _) (v := ?vr2n13_123) rfl (by kernel_rfl) (by kernel_rfl) (by kernel_rfl) (fun _ _ _ h => h) (Or.inl ⟨by kernel_rfl, ?hr2n13_123⟩) hHeld80 ?_
      case hr2n13_123 => (intro w hSw; (try dsimp only at hSw); go_simp; try (with_reducible rfl))
      try simp only [List.getElem_toArray, List.getElem_cons_zero, List.getElem_cons_succ, Act.put, List.setIfInBounds_toArray, List.set_cons_zero, List.set_cons_succ]
      refine wpAnyH_ready (rs := [17]) (by kernel_rfl) (by simp) ?_
      refine AllReadyH.cons (o := _) rfl (fun K hK => ?_) AllReadyH.nil
      go_simp
      (go_at_call 28; with_reducible refine (HQ2.out _).mono ?_; rintro e v7 ⟨rfl, hb0⟩; have HB7 := Lib.hid hb0; clear hb0)
      refine hK.out _ _ ?_ (fun hHeld81 => ?_)
      · (first | exact ((And.left hHeld80).step HB7.out).r)
      clear hHeld80 hK K
      try simp only [List.getElem_toArray, List.getElem_cons_zero, List.getElem_cons_succ, Act.put, List.setIfInBounds_toArray, List.set_cons_zero, List.set_cons_succ]
      refine wpAnyH_take (i := 18) (oi := _) (v := ?vr2n18_124) rfl (by kernel_rfl) (by kernel_rfl) (by kernel_rfl) (fun _ _ _ h => h) (Or.inl ⟨by kernel_rfl, ?hr2n18_124⟩) hHeld81 ?_
      case hr2n18_124 => (intro w hSw; (try dsimp only at hSw); go_simp; try (with_reducible rfl))
      try simp only [List.getElem_toArray, List.getElem_cons_zero, List.getElem_cons_succ, Act.put, List.setIfInBounds_toArray, List.set_cons_zero, List.set_cons_succ]
      refine wpAnyH_take (i := 30) (oi := _) (v := ?vr2n30_125) rfl (by kernel_rfl) (by kernel_rfl) (by kernel_rfl) (fun _ _ _ h => h) (Or.inl ⟨by kernel_rfl, ?hr2n30_125⟩) hHeld81 ?_
      case hr2n30_125 => (intro w hSw; (try dsimp only at hSw); go_simp; try (with_reducible rfl))
      try simp only [List.getElem_toArray, List.getElem_cons_zero, List.getElem_cons_succ, Act.put, List.setIfInBounds_toArray, List.set_cons_zero, List.set_cons_succ]
      refine wpAnyH_ready (rs := [34]) (by kernel_rfl) (by simp) ?_
      refine AllReadyH.cons (o := _) rfl (fun K hK => ?_) AllReadyH.nil
      go_simp
      (go_at_call 30; with_reducible refine (TA3.out _).mono ?_; rintro e v8 ⟨rfl, hb0⟩; have HB8 := Lib.hid hb0; clear hb0)
      refine hK.out _ _ ?_ (fun hHeld82 => ?_)
      · (first | exact ((And.left hHeld81).step HB8.out).r)
      clear hHeld81 hK K
      try simp only [List.getElem_toArray, List.getElem_cons_zero, List.getElem_cons_succ, Act.put, List.setIfInBounds_toArray, List.set_cons_zero, List.set_cons_succ]
      refine wpAnyH_take (i := 35) (oi := _) (v := ?vr2n35_126) rfl (by kernel_rfl) (by kernel_rfl) (by kernel_rfl) (fun _ _ _ h => h) (Or.inl ⟨by kernel_rfl, ?hr2n35_126⟩) hHeld82 ?_
      case hr2n35_126 => (intro w hSw; (try dsimp only at hSw); go_simp; try (with_reducible rfl))
      try simp only [List.getElem_toArray, List.getElem_cons_zero, List.getElem_cons_succ, Act.put, List.setIfInBounds_toArray, List.set_cons_zero, List.set_cons_succ]
      refine wpAnyH_take (i := 36) (oi := _) (v := ?vr2n36_127) rfl (by kernel_rfl) (by kernel_rfl) (by kernel_rfl) (fun _ _ _ h => h) (Or.inl ⟨by kernel_rfl, ?hr2n36_127⟩) hHeld82 ?_
      case hr2n36_127 => (intro w hSw; (try dsimp only at hSw); go_simp; try (with_reducible rfl))
      try simp only [List.getElem_toArray, List.getElem_cons_zero, List.getElem_cons_succ, Act.put, List.setIfInBounds_toArray, List.set_cons_zero, List.set_cons_succ]
      refine wpAnyH_done (by kernel_rfl) ?_ _
      refine NoPanic.normal ?_
      (go_wp2_with fail; go_meet; exact ⟨by rw [HAH.out, ← str_append, ← str_append, ← str_append, ← str_append, ← str_append], And.left hHeld82⟩)
    case rest =>
      obtain ⟨rfl, hS⟩ := hcut
      have HS3 := Lib.hid hS
      have c7 := (sg_at HS3.out.s).d
      have df := HS3.out.f.ld_ip HL.out.f
      have dt := HS3.out.t.ld_ip HL.out.t
      have hs := fun w => sgSum_any (AH ++ [0, 0] ++ ([0, 0] ++ O ++ d)) f t HL.out (by simp only [List.length_append, List.length_cons, List.length_nil]; omega) w
      have hin2 : 0 ≤ sgS f t (AH ++ [0, 0] ++ ([0, 0] ++ O ++ d)) ∧ sgS f t (AH ++ [0, 0] ++ ([0, 0] ++ O ++ d)) ≤ 65535 := sumE_in _
      have e1 := HE.out
      generalize sgS f t (AH ++ [0, 0] ++ ([0, 0] ++ O ++ d)) = M at hs hin2 e1
      have hbM := fun w => sgBig_any M hin2 w
      have lM : (be M.toNat).length = 2 := rfl
      generalize be M.toNat = BM at hbM lM e1
      have hfin : ({ data := AH.toArray } : ByteArray) ++ { data := BM.toArray } ++ ({ data := #[0, 0] } ++ { data := O.toArray } ++ { data := d.toArray }) = { data := (AH ++ BM ++ ([0, 0] ++ O ++ d)).toArray } := by
        simp only [← str_append]
      simp only [← str_append] at hs
      have HSum := Lib.hid hs
      have HBM := Lib.hid hbM
      have HFIN := Lib.hid hfin
      have HE2 := Lib.hid e1
      have nb1 : ¬ 9223372036854775807 < 2 + O.length := by omega
      have nb2 : ¬ 9223372036854775807 < 2 + O.length + d.length := by omega
      have nb3 : ¬ 9223372036854775807 < 18 + (2 + O.length + d.length) := by omega
      clear hin2 hs hbM hS hfin e1 HE
      go_wp2_with fail
      refine (HSum.out _).mono ?_
      rintro e w5 ⟨rfl, hb5⟩
      have HBL5 := Lib.hid (Below.step HS3.out.bel hb5)
      clear hb5 df dt c7
      go_wp2_with fail
      refine (HBM.out _).mono ?_
      rintro e w6 ⟨rfl, hb6⟩
      have HBL6 := Lib.hid (Below.step HBL5.out hb6)
      clear hb6
      go_wp2
      go_ret2
      exact ⟨by rw [HE2.out]; exact congrArg (fun s => Ending.returned (.tuple #[.string s, .int .i64 0])) HFIN.out, HBL6.out⟩
end Go.Proofs.Ytccbgiapabkjbaa
