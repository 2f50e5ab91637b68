/- The walk through the law ArpKnown: it answers true. No condition. -/
import Derived.Test.YtpnhopgfoakgnaaAcH
namespace Go.Proofs.Ytpnhopgfoakgnaa
set_option linter.unusedVariables false
set_option linter.unusedSimpArgs false
set_option maxRecDepth 100000
open Go.RowKit Go.Proofs Go.Shelf
attribute [local go_sem ↓] ld_arp ld_mac ld_ip

theorem ubv_one (l : List UInt8) : ((l.map ubv).toArray).toList.all (·.oneCell') = true := by
  rw [List.all_eq_true]
  intro v hv
  obtain ⟨b, _, rfl⟩ := List.mem_map.1 (by simpa using hv)
  rfl
theorem six_size {l : List UInt8} (h : l.length = 6) : ((l.map ubv).toArray).size = 6 := by simp [h]
/-- a block that is neither the cache's nor its row's -/
structure Sep (w : World) (cb : Nat) (v : Value) (b : Nat) (T : TypeId) (C : Array Value) : Prop where
  blk : Blk w b T C
  ne : b ≠ cb
  own : v.ownBlock ≠ some b
theorem Sep.step {w w' : World} {cb : Nat} {v : Value} {b : Nat} {T : TypeId} {C : Array Value} (h : Sep w cb v b T C) (hb : Below w.heap.size w w') : Sep w' cb v b T C := ⟨h.blk.step hb, h.ne, h.own⟩
theorem Sep.ap {w w' : World} {cb : Nat} {v v' : Value} {b : Nat} {T : TypeId} {C : Array Value} (h : Sep w cb v b T C) (ha : Ap cb v.ownBlock w w') (hv : v'.ownBlock = v.ownBlock ∨ ∃ g', v'.ownBlock = some g' ∧ w.heap.size ≤ g') : Sep w' cb v' b T C := by
  refine ⟨h.blk.of_heap (ha.block b h.blk.lt h.ne (fun e => h.own e.symm)), h.ne, fun e => ?_⟩
  rcases hv with h1 | ⟨g, h1, h2⟩
  · exact h.own (by rw [← h1]; exact e)
  · rw [h1] at e
    have := Option.some.inj e
    have := h.blk.lt
    omega
theorem Sep.new {w w' : World} {B cb : Nat} {lim : Int} {v : Value} {L : List En} {b : Nat} {T : TypeId} {C : Array Value} (h : CaAt w B cb lim v L) (hb : Blk w' b T C) (hw : w.heap.size ≤ b) : Sep w' cb v b T C :=
  ⟨hb, fun e => by have := h.blk.lt; omega, fun e => by have := (h.lt b e).2.1; omega⟩
theorem CaAt.bel {w w' : World} {B cb : Nat} {lim : Int} {v : Value} {L : List En} (h : CaAt w B cb lim v L) (hB : B ≤ w.heap.size) (ha : Ap cb v.ownBlock w w') : Below B w w' := ha.below h.ge (fun g hg => (h.lt g hg).1) hB
def kI (k : Nat) : List UInt8 := [UInt8.ofNat k, 0, 0, 0]
def kM (k : Nat) : List UInt8 := [UInt8.ofNat k, 0, 0, 0, 0, 0]
def kn1 : List En := learnV [] [10, 0, 0, 1] [9, 0, 0, 0, 0, 0]
def kn2 : List En := tickV 2 kn1
def kn3 : List En := tickV 2 kn2
def lk : Nat → List En
  | 0 => kn3
  | k + 1 => learnV (lk k) (kI k) (kM k)
theorem kn1_good : Good 2 kn1 := good_learn (good_nil 2) (by decide) rfl
theorem kn2_good : Good 2 kn2 := good_tick kn1_good
theorem kn3_good : Good 2 kn3 := good_tick kn2_good
theorem lk_good : ∀ k, Good 2 (lk k)
  | 0 => kn3_good
  | k + 1 => good_learn (lk_good k) (by decide) rfl
theorem kn_find1 : findV kn2 [10, 0, 0, 1] = ([9, 0, 0, 0, 0, 0], true) := by kernel_rfl
theorem kn_find2 : (findV kn3 [10, 0, 0, 1]).2 = false := by kernel_rfl
theorem kn_find3 : (findV (lk 9) [0, 0, 0, 0]).2 = false := by kernel_rfl
theorem kn_find4 : (findV (lk 9) [1, 0, 0, 0]).2 = true := by kernel_rfl
theorem kn_len : (lk 9).length = 8 := by kernel_rfl
theorem k_ip (k : Nat) (h : k < 9) : arrV (kI k) = .agg #[.int .u8 (k : Int), .int .u8 0, .int .u8 0, .int .u8 0] := by
  have e : (UInt8.ofNat k).toNat = k := by rw [UInt8.toNat_ofNat']; exact Nat.mod_eq_of_lt (by omega)
  show Value.agg #[.int .u8 ((UInt8.ofNat k).toNat : Int), .int .u8 0, .int .u8 0, .int .u8 0] = _
  rw [e]
theorem k_mac (k : Nat) (h : k < 9) : arrV (kM k) = .agg #[.int .u8 (k : Int), .int .u8 0, .int .u8 0, .int .u8 0, .int .u8 0, .int .u8 0] := by
  have e : (UInt8.ofNat k).toNat = k := by rw [UInt8.toNat_ofNat']; exact Nat.mod_eq_of_lt (by omega)
  show Value.agg #[.int .u8 ((UInt8.ofNat k).toNat : Int), .int .u8 0, .int .u8 0, .int .u8 0, .int .u8 0, .int .u8 0] = _
  rw [e]
def anM : List UInt8 := [2, 0, 0, 0, 0, 2]
def anI : List UInt8 := [10, 0, 0, 2]
abbrev anLit : Array Value := #[.int .i64 2, .int .u8 2, .int .u8 0, .int .u8 0, .int .u8 0, .int .u8 0, .int .u8 2, .int .u8 10, .int .u8 0, .int .u8 0, .int .u8 2, .int .u8 2, .int .u8 0, .int .u8 0, .int .u8 0, .int .u8 0, .int .u8 1, .int .u8 10, .int .u8 0, .int .u8 0, .int .u8 1]
theorem an_L : ArL anM anI exM exI := ⟨rfl, rfl, rfl, rfl⟩
theorem ans1 (w : World) : Calls Try.prog 29 #[.agg arExC, .agg #[.int .u8 10, .int .u8 0, .int .u8 0, .int .u8 2], .agg #[.int .u8 2, .int .u8 0, .int .u8 0, .int .u8 0, .int .u8 0, .int .u8 2]] w fun e w' => e = .returned (.tuple #[.agg (arC 2 anM anI exM exI), .bool true]) ∧ Below w.heap.size w w' :=
  answer_yes exM exI z6 exTI anI anM arEx_L rfl rfl rfl w
theorem ans2 (w : World) : Calls Try.prog 29 #[.agg arExC, .agg #[.int .u8 10, .int .u8 0, .int .u8 0, .int .u8 3], .agg #[.int .u8 2, .int .u8 0, .int .u8 0, .int .u8 0, .int .u8 0, .int .u8 0]] w fun e w' => (∃ C : Array Value, C.size = 21 ∧ C.toList.all (·.oneCell') = true ∧ e = .returned (.tuple #[.agg C, .bool false])) ∧ Below w.heap.size w w' :=
  (answer_no 1 exM exI z6 exTI [10, 0, 0, 3] [2, 0, 0, 0, 0, 0] arEx_L rfl rfl rfl w).mono fun e w' h => ⟨⟨ar0C, rfl, rfl, h.1⟩, h.2⟩
theorem ans3 (w : World) : Calls Try.prog 29 #[.agg (arC 2 anM anI exM exI), arrV exI, .agg #[.int .u8 2, .int .u8 0, .int .u8 0, .int .u8 0, .int .u8 0, .int .u8 0]] w fun e w' => (∃ C : Array Value, C.size = 21 ∧ C.toList.all (·.oneCell') = true ∧ e = .returned (.tuple #[.agg C, .bool false])) ∧ Below w.heap.size w w' :=
  (answer_no 2 anM anI exM exI exI [2, 0, 0, 0, 0, 0] an_L rfl rfl rfl w).mono fun e w' h => ⟨⟨ar0C, rfl, rfl, h.1⟩, h.2⟩

set_option maxHeartbeats 8000000 in
theorem arpKnown_walk (w : World) : Calls Try.prog 13 #[] w fun e w' => e = .returned (.bool true) ∧ Below w.heap.size w w' := by
  have A1 := Lib.hid ans1
  have A2 := Lib.hid ans2
  have A3 := Lib.hid ans3
  have HEA : Hid (∀ w, (binOp .eql 42 (.agg (arC 2 anM anI exM exI)) (.agg anLit)).run Try.prog w = .ok (.bool true) w) := Lib.hid (fun w => by have h := run_ar_eql w 2 anM anI exM exI 2 anM anI exM exI an_L an_L; rw [arEq_self] at h; exact h)
  have HAL : Hid ((arC 2 anM anI exM exI).size = 21 ∧ (arC 2 anM anI exM exI).toList.all (·.oneCell') = true) := Lib.hid ⟨arC_size an_L, arC_one _ _ _ _ _⟩
  go_enter Try.func13, Try.ntmps13
  go_wp2_with fail
  refine (arex_any _).mono ?_
  rintro e w1 ⟨rfl, hb⟩
  have HB1 := Lib.hid hb
  clear hb
  go_wp2_with fail
  refine (A1.out _).mono ?_
  rintro e w2 ⟨rfl, hb⟩
  have HB2 := Lib.hid (Below.step HB1.out hb)
  clear hb HB1 A1
  obtain ⟨an, han⟩ : ∃ an, an = arC 2 anM anI exM exI := ⟨_, rfl⟩
  have HAN := Lib.hid (fun _ : Unit => han)
  rw [← han] at A3 HEA HAL ⊢
  clear han
  have tokA : True := trivial
  go_upto_region 2 with (have _t := tokA; refine wpList_store_blk rfl 42 _ _ rfl w2.heap.size an rfl rfl ar0C 42 (Blk.new w2 42 ar0C 0 0 (Or.inl (Nat.le_refl _))) (by rw [HAL.out.1]; rfl) (by rw [HAL.out.1]; exact size_ar) HAL.out.2 ?_; clear tokA)
  have HPA := Lib.hid ((Blk.new w2 42 ar0C 0 0 (Or.inl (Nat.le_refl _))).setAll (cs := an) (by rw [HAL.out.1]; rfl))
  have hal := (Below.refl w2.heap.size w2).alloc (Nat.le_refl _) (.cells ar0C 42)
  have HB3 := Lib.hid (Below.step HB2.out (Below.setCells hal (Nat.le_refl _) 0 an.toList))
  clear hal HB2
  generalize World.setCells _ _ _ _ = w3 at HPA HB3 ⊢
  generalize w2.heap.size = pa at HPA ⊢
  go_wp2_with fail
  refine (arex_any _).mono ?_
  rintro e w4 ⟨rfl, hb⟩
  have HPA4 := Lib.hid (HPA.out.step hb)
  have HB4 := Lib.hid (Below.step HB3.out hb)
  clear hb HPA HB3
  go_wp2_with fail
  refine (A2.out _).mono ?_
  rintro e w5 ⟨⟨C2, hC2, hC2b, rfl⟩, hb⟩
  have HPA5 := Lib.hid (HPA4.out.step hb)
  have HB5 := Lib.hid (Below.step HB4.out hb)
  have HC2 := Lib.hid (And.intro hC2 hC2b)
  clear hb HPA4 HB4 hC2 hC2b A2
  have tokA : True := trivial
  go_upto_region 3 with (have _t := tokA; refine wpList_store_blk rfl 42 _ _ rfl w5.heap.size C2 rfl rfl ar0C 42 (Blk.new w5 42 ar0C 0 0 (Or.inl (Nat.le_refl _))) (by rw [HC2.out.1]; rfl) (by rw [HC2.out.1]; exact size_ar) HC2.out.2 ?_; clear tokA)
  have hal := (Below.refl w5.heap.size w5).alloc (Nat.le_refl _) (.cells ar0C 42)
  have HBX := Lib.hid (Below.setCells hal (Nat.le_refl _) 0 C2.toList)
  have HB6 := Lib.hid (Below.step HB5.out HBX.out)
  have HPA6 := Lib.hid (HPA5.out.step HBX.out)
  clear hal HB5 HBX HPA5
  generalize World.setCells _ _ _ _ = w6 at HPA6 HB6 ⊢
  generalize w5.heap.size = p5
  have ld1 : (Ld 42 (.pointer (some ⟨pa, 0, none⟩))).run Try.prog w6 = .ok (.agg an) w6 := by rw [HAN.out ()]; exact Blk.ld_ar (by rw [← HAN.out ()]; exact HPA6.out) an_L
  have ld2 : (Ld 40 (.pointer (some ⟨pa, 17, none⟩))).run Try.prog w6 = .ok (arrV exI) w6 := Blk.ld_ti (m := anM) (i := anI) (tm := exM) (op := 2) (by rw [← HAN.out ()]; exact HPA6.out) an_L
  go_wp2_with fail
  refine (A3.out _).mono ?_
  rintro e w7 ⟨⟨C3, hC3, hC3b, rfl⟩, hb⟩
  have HPA7 := Lib.hid (HPA6.out.step hb)
  have HB7 := Lib.hid (Below.step HB6.out hb)
  have HC3 := Lib.hid (And.intro hC3 hC3b)
  clear hb HPA6 HB6 hC3 hC3b A3 ld1 ld2
  have tokA : True := trivial
  go_upto_region 4 with (have _t := tokA; refine wpList_store_blk rfl 42 _ _ rfl w7.heap.size C3 rfl rfl ar0C 42 (Blk.new w7 42 ar0C 0 0 (Or.inl (Nat.le_refl _))) (by rw [HC3.out.1]; rfl) (by rw [HC3.out.1]; exact size_ar) HC3.out.2 ?_; clear tokA)
  have hal := (Below.refl w7.heap.size w7).alloc (Nat.le_refl _) (.cells ar0C 42)
  have HBX := Lib.hid (Below.setCells hal (Nat.le_refl _) 0 C3.toList)
  have HB8 := Lib.hid (Below.step HB7.out HBX.out)
  have HPA8 := Lib.hid (HPA7.out.step HBX.out)
  clear hal HB7 HBX HPA7
  generalize World.setCells _ _ _ _ = w8 at HPA8 HB8 ⊢
  generalize w7.heap.size = p7
  go_wp2_with fail
  refine (new_any 2 (by decide) (by decide) _).mono ?_
  rintro e w9 ⟨rfl, hca, hb⟩
  have HLO : Hid (w.heap.size ≤ w8.heap.size) := Lib.hid HB8.out.size
  have HCA0 := Lib.hid hca
  have HS0 : Hid (Sep w9 w8.heap.size (.slice none 0 0) pa 42 an) := Lib.hid ⟨HPA8.out.step hb, fun e => by have := HPA8.out.lt; omega, by simp [Value.ownBlock]⟩
  have HB9 := Lib.hid (Below.step HB8.out hb)
  have HSZ := Lib.hid hb.size
  clear hb hca HPA8 HB8
  generalize w8.heap.size = cb at HCA0 HS0 HLO HSZ ⊢
  have HZ9 : Hid (cb ≤ w9.heap.size) := Lib.hid (Nat.le_of_lt HCA0.out.blk.lt)
  clear HSZ
  have tokA : True := trivial
  go_upto_region 6 with (have _t := tokA; refine wpList_store_blk rfl 38 _ _ rfl w9.heap.size (([9, 0, 0, 0, 0, 0] : List UInt8).map ubv).toArray rfl rfl mac0 38 (Blk.new w9 38 mac0 0 0 (Or.inl (Nat.le_refl _))) rfl size_mac rfl ?_; clear tokA)
  have hal := (Below.refl w9.heap.size w9).alloc (Nat.le_refl _) (.cells mac0 38)
  have HBX := Lib.hid (Below.setCells hal (Nat.le_refl _) 0 ((([9, 0, 0, 0, 0, 0] : List UInt8).map ubv).toArray).toList)
  have HSpm10 := Lib.hid (Sep.new HCA0.out ((Blk.new w9 38 mac0 0 0 (Or.inl (Nat.le_refl _))).setAll (cs := (([9, 0, 0, 0, 0, 0] : List UInt8).map ubv).toArray) rfl) (Nat.le_refl _))
  have HCA10 := Lib.hid (HCA0.out.step HBX.out)
  have HSpa10 := Lib.hid (HS0.out.step HBX.out)
  have HB10 := Lib.hid (Below.step HB9.out HBX.out)
  clear hal HBX HCA0 HS0 HB9
  generalize World.setCells _ _ _ _ = w10 at HCA10 HB10 HSpa10 HSpm10 ⊢
  generalize w9.heap.size = pm at HSpm10 ⊢
  have ldm := HSpm10.out.blk.ld_arr6 (l := [9, 0, 0, 0, 0, 0]) rfl
  go_wp2_with fail
  refine (learn_any HCA10.out (by decide) (good_nil 2) [10, 0, 0, 1] [9, 0, 0, 0, 0, 0] rfl rfl).mono ?_
  rintro e w11 ⟨rfl, v11, hca, hap, hv⟩
  have HSpa11 := Lib.hid (HSpa10.out.ap hap hv)
  have HSpm11 := Lib.hid (HSpm10.out.ap hap hv)
  have HB11 := Lib.hid (HB10.out.trans ((CaAt.bel HCA10.out (Nat.le_of_lt HCA10.out.blk.lt) hap).mono HLO.out))
  have HCA11 := Lib.hid hca
  clear hca hap hv HSpa10 HSpm10 HB10 HCA10
  clear ldm
  have HX : Hid (CaAt w11 cb cb 2 v11 kn1) := HCA11
  clear HCA11
  go_wp2_with fail
  refine (tick_any HX.out (by decide) (by decide) kn1_good).mono ?_
  rintro e w12 ⟨rfl, v12, hca, hap, hv⟩
  have hv := (Or.inl hv : v12.ownBlock = _ ∨ ∃ g', v12.ownBlock = some g' ∧ w11.heap.size ≤ g')
  have HSpa12 := Lib.hid (HSpa11.out.ap hap hv)
  have HSpm12 := Lib.hid (HSpm11.out.ap hap hv)
  have HB12 := Lib.hid (HB11.out.trans ((CaAt.bel HX.out (Nat.le_of_lt HX.out.blk.lt) hap).mono HLO.out))
  have HCA12 := Lib.hid hca
  clear hca hap hv HSpa11 HSpm11 HB11 HX
  have HX : Hid (CaAt w12 cb cb 2 v12 kn2) := HCA12
  clear HCA12
  go_wp2_with fail
  refine (find_any HX.out (by decide) kn2_good.len [10, 0, 0, 1] rfl).mono ?_
  rintro e w13 ⟨rfl, hb⟩
  have HCA13 := Lib.hid (HX.out.step hb)
  have HSpa13 := Lib.hid (HSpa12.out.step hb)
  have HSpm13 := Lib.hid (HSpm12.out.step hb)
  have HB13 := Lib.hid (Below.step HB12.out hb)
  clear hb HX HSpa12 HSpm12 HB12
  obtain ⟨x, hx⟩ : ∃ q, q = (findV kn2 [10, 0, 0, 1]).1 := ⟨_, rfl⟩
  have HLx : Hid (x.length = 6) := Lib.hid (by rw [hx]; exact find_len _ _)
  have hs2 : (findV kn2 [10, 0, 0, 1]).2 = true := by rw [kn_find1]
  rw [← hx, hs2]
  clear hs2
  have HXM : Hid (x = [9, 0, 0, 0, 0, 0]) := Lib.hid (by rw [hx, kn_find1])
  clear hx
  have tokA : True := trivial
  go_upto_region 9 with (have _t := tokA; refine wpList_store_blk rfl 38 _ _ rfl w13.heap.size (x.map ubv).toArray rfl rfl mac0 38 (Blk.new w13 38 mac0 0 0 (Or.inl (Nat.le_refl _))) (by rw [six_size HLx.out]; rfl) (by rw [six_size HLx.out]; exact size_mac) (ubv_one _) ?_; clear tokA)
  have hal := (Below.refl w13.heap.size w13).alloc (Nat.le_refl _) (.cells mac0 38)
  have HBX := Lib.hid (Below.setCells hal (Nat.le_refl _) 0 ((x.map ubv).toArray).toList)
  have HSpx14 := Lib.hid (Sep.new HCA13.out ((Blk.new w13 38 mac0 0 0 (Or.inl (Nat.le_refl _))).setAll (cs := (x.map ubv).toArray) (by rw [six_size HLx.out]; rfl)) (Nat.le_refl _))
  have HCA14 := Lib.hid (HCA13.out.step HBX.out)
  have HSpa14 := Lib.hid (HSpa13.out.step HBX.out)
  have HSpm14 := Lib.hid (HSpm13.out.step HBX.out)
  have HB14 := Lib.hid (Below.step HB13.out HBX.out)
  clear hal HBX HCA13 HSpa13 HSpm13 HB13
  generalize World.setCells _ _ _ _ = w14 at HCA14 HB14 HSpa14 HSpm14 HSpx14 ⊢
  generalize w13.heap.size = px at HSpx14 ⊢
  go_wp2_with fail
  refine (tick_any HCA14.out (by decide) (by decide) kn2_good).mono ?_
  rintro e w15 ⟨rfl, v15, hca, hap, hv⟩
  have hv := (Or.inl hv : v15.ownBlock = _ ∨ ∃ g', v15.ownBlock = some g' ∧ w14.heap.size ≤ g')
  have HSpa15 := Lib.hid (HSpa14.out.ap hap hv)
  have HSpm15 := Lib.hid (HSpm14.out.ap hap hv)
  have HSpx15 := Lib.hid (HSpx14.out.ap hap hv)
  have HB15 := Lib.hid (HB14.out.trans ((CaAt.bel HCA14.out (Nat.le_of_lt HCA14.out.blk.lt) hap).mono HLO.out))
  have HCA15 := Lib.hid hca
  clear hca hap hv HSpa14 HSpm14 HSpx14 HB14 HCA14
  have HX : Hid (CaAt w15 cb cb 2 v15 kn3) := HCA15
  clear HCA15
  go_wp2_with fail
  refine (find_any HX.out (by decide) kn3_good.len [10, 0, 0, 1] rfl).mono ?_
  rintro e w16 ⟨rfl, hb⟩
  have HCA16 := Lib.hid (HX.out.step hb)
  have HSpa16 := Lib.hid (HSpa15.out.step hb)
  have HSpm16 := Lib.hid (HSpm15.out.step hb)
  have HSpx16 := Lib.hid (HSpx15.out.step hb)
  have HB16 := Lib.hid (Below.step HB15.out hb)
  clear hb HX HSpa15 HSpm15 HSpx15 HB15
  obtain ⟨y, hy⟩ : ∃ q, q = (findV kn3 [10, 0, 0, 1]).1 := ⟨_, rfl⟩
  have HLy : Hid (y.length = 6) := Lib.hid (by rw [hy]; exact find_len _ _)
  have hs2 : (findV kn3 [10, 0, 0, 1]).2 = false := kn_find2
  rw [← hy, hs2]
  clear hs2
  clear hy
  have tokA : True := trivial
  go_upto_region 11 with (have _t := tokA; refine wpList_store_blk rfl 38 _ _ rfl w16.heap.size (y.map ubv).toArray rfl rfl mac0 38 (Blk.new w16 38 mac0 0 0 (Or.inl (Nat.le_refl _))) (by rw [six_size HLy.out]; rfl) (by rw [six_size HLy.out]; exact size_mac) (ubv_one _) ?_; clear tokA)
  have hal := (Below.refl w16.heap.size w16).alloc (Nat.le_refl _) (.cells mac0 38)
  have HBX := Lib.hid (Below.setCells hal (Nat.le_refl _) 0 ((y.map ubv).toArray).toList)
  have HSpy17 := Lib.hid (Sep.new HCA16.out ((Blk.new w16 38 mac0 0 0 (Or.inl (Nat.le_refl _))).setAll (cs := (y.map ubv).toArray) (by rw [six_size HLy.out]; rfl)) (Nat.le_refl _))
  have HCA17 := Lib.hid (HCA16.out.step HBX.out)
  have HSpa17 := Lib.hid (HSpa16.out.step HBX.out)
  have HSpm17 := Lib.hid (HSpm16.out.step HBX.out)
  have HSpx17 := Lib.hid (HSpx16.out.step HBX.out)
  have HB17 := Lib.hid (Below.step HB16.out HBX.out)
  clear hal HBX HCA16 HSpa16 HSpm16 HSpx16 HB16
  generalize World.setCells _ _ _ _ = w17 at HCA17 HB17 HSpa17 HSpm17 HSpx17 HSpy17 ⊢
  generalize w16.heap.size = py at HSpy17 ⊢
  clear HSpy17
  go_wp2
  go_loopw [14] (fun i wr => ∃ (k : Nat) (v : Value), k ≤ 9 ∧ i = .int .u8 k ∧ CaAt wr cb cb 2 v (lk k) ∧ Sep wr cb v pa 42 an ∧ Sep wr cb v pm 38 (([9, 0, 0, 0, 0, 0] : List UInt8).map ubv).toArray ∧ Sep wr cb v px 38 (x.map ubv).toArray ∧ Below w.heap.size w wr) (fun i _ => 9 - (intOf i).toNat)
  case atStart => exact ⟨0, _, by omega, rfl, HCA17.out, HSpa17.out, HSpm17.out, HSpx17.out, HB17.out⟩
  case round =>
    obtain ⟨k, v, hk, rfl, hca, hs1, hs2, hs3, hb⟩ := hrel
    clear HCA17 HB17 HSpa17 HSpm17 HSpx17
    have HCA := Lib.hid hca
    have HS1 := Lib.hid hs1
    have HS2 := Lib.hid hs2
    have HS3 := Lib.hid hs3
    have HB := Lib.hid hb
    clear hca hs1 hs2 hs3 hb
    by_cases hlt : k < 9
    · have hlt' : (k : Int) < 9 := by omega
      have LN := Lib.hid (learn_any HCA.out (by decide) (lk_good k) (kI k) (kM k) rfl rfl)
      rw [k_ip k hlt, k_mac k hlt] at LN
      have hw1 : IntKind.u8.wrap ((k : Int) + 1) = (k : Int) + 1 := IntWalk.u8_in _ ⟨by omega, by omega⟩
      go_wp2_with fail
      refine LN.out.mono ?_
      rintro e wn ⟨rfl, vn, hca, hap, hv⟩
      have HCN : Hid (CaAt wn cb cb 2 vn (lk (k + 1))) := Lib.hid hca
      have HN1 := Lib.hid (HS1.out.ap hap hv)
      have HN2 := Lib.hid (HS2.out.ap hap hv)
      have HN3 := Lib.hid (HS3.out.ap hap hv)
      have HBN := Lib.hid (HB.out.trans ((CaAt.bel HCA.out (Nat.le_of_lt HCA.out.blk.lt) hap).mono HLO.out))
      clear hca hap hv LN HCA HS1 HS2 HS3 HB
      go_wp2
      go_roundw
      case rel => exact ⟨k + 1, vn, by omega, by go_num, HCN.out, HN1.out, HN2.out, HN3.out, HBN.out⟩
      case measure => simp [intOf] <;> omega
    · obtain rfl : k = 9 := by omega
      have hlt' : ¬ (9 : Int) < 9 := by omega
      clear hlt
      obtain ⟨w50, hw50⟩ : ∃ wo : World, wo = wr := ⟨_, rfl⟩
      subst hw50
      go_wp2_with fail
      refine (find_any HCA.out (by decide) (lk_good 9).len [0, 0, 0, 0] rfl).mono ?_
      rintro e w61 ⟨rfl, hb⟩
      have HCA61 := Lib.hid (HCA.out.step hb)
      have HSpa61 := Lib.hid (HS1.out.step hb)
      have HSpm61 := Lib.hid (HS2.out.step hb)
      have HSpx61 := Lib.hid (HS3.out.step hb)
      have HB61 := Lib.hid (Below.step HB.out hb)
      clear hb HCA HS1 HS2 HS3 HB
      obtain ⟨z, hz⟩ : ∃ q, q = (findV (lk 9) [0, 0, 0, 0]).1 := ⟨_, rfl⟩
      have HLz : Hid (z.length = 6) := Lib.hid (by rw [hz]; exact find_len _ _)
      have hs2 : (findV (lk 9) [0, 0, 0, 0]).2 = false := kn_find3
      rw [← hz, hs2]
      clear hs2
      clear hz
      have tokA : True := trivial
      go_upto_region 16 with (have _t := tokA; refine wpList_store_blk rfl 38 _ _ rfl w61.heap.size (z.map ubv).toArray rfl rfl mac0 38 (Blk.new w61 38 mac0 0 0 (Or.inl (Nat.le_refl _))) (by rw [six_size HLz.out]; rfl) (by rw [six_size HLz.out]; exact size_mac) (ubv_one _) ?_; clear tokA)
      have hal := (Below.refl w61.heap.size w61).alloc (Nat.le_refl _) (.cells mac0 38)
      have HBX := Lib.hid (Below.setCells hal (Nat.le_refl _) 0 ((z.map ubv).toArray).toList)
      have HSpz62 := Lib.hid (Sep.new HCA61.out ((Blk.new w61 38 mac0 0 0 (Or.inl (Nat.le_refl _))).setAll (cs := (z.map ubv).toArray) (by rw [six_size HLz.out]; rfl)) (Nat.le_refl _))
      have HCA62 := Lib.hid (HCA61.out.step HBX.out)
      have HSpa62 := Lib.hid (HSpa61.out.step HBX.out)
      have HSpm62 := Lib.hid (HSpm61.out.step HBX.out)
      have HSpx62 := Lib.hid (HSpx61.out.step HBX.out)
      have HB62 := Lib.hid (Below.step HB61.out HBX.out)
      clear hal HBX HCA61 HSpa61 HSpm61 HSpx61 HB61
      generalize World.setCells _ _ _ _ = w62 at HCA62 HB62 HSpa62 HSpm62 HSpx62 HSpz62 ⊢
      generalize w61.heap.size = pz at HSpz62 ⊢
      go_wp2_with fail
      refine (find_any HCA62.out (by decide) (lk_good 9).len [1, 0, 0, 0] rfl).mono ?_
      rintro e w63 ⟨rfl, hb⟩
      have HCA63 := Lib.hid (HCA62.out.step hb)
      have HSpa63 := Lib.hid (HSpa62.out.step hb)
      have HSpm63 := Lib.hid (HSpm62.out.step hb)
      have HSpx63 := Lib.hid (HSpx62.out.step hb)
      have HSpz63 := Lib.hid (HSpz62.out.step hb)
      have HB63 := Lib.hid (Below.step HB62.out hb)
      clear hb HCA62 HSpa62 HSpm62 HSpx62 HSpz62 HB62
      obtain ⟨u, hu⟩ : ∃ q, q = (findV (lk 9) [1, 0, 0, 0]).1 := ⟨_, rfl⟩
      have HLu : Hid (u.length = 6) := Lib.hid (by rw [hu]; exact find_len _ _)
      have hs2 : (findV (lk 9) [1, 0, 0, 0]).2 = true := kn_find4
      rw [← hu, hs2]
      clear hs2
      clear hu
      have tokA : True := trivial
      go_upto_region 17 with (have _t := tokA; refine wpList_store_blk rfl 38 _ _ rfl w63.heap.size (u.map ubv).toArray rfl rfl mac0 38 (Blk.new w63 38 mac0 0 0 (Or.inl (Nat.le_refl _))) (by rw [six_size HLu.out]; rfl) (by rw [six_size HLu.out]; exact size_mac) (ubv_one _) ?_; clear tokA)
      have hal := (Below.refl w63.heap.size w63).alloc (Nat.le_refl _) (.cells mac0 38)
      have HBX := Lib.hid (Below.setCells hal (Nat.le_refl _) 0 ((u.map ubv).toArray).toList)
      have HSpu64 := Lib.hid (Sep.new HCA63.out ((Blk.new w63 38 mac0 0 0 (Or.inl (Nat.le_refl _))).setAll (cs := (u.map ubv).toArray) (by rw [six_size HLu.out]; rfl)) (Nat.le_refl _))
      have HCA64 := Lib.hid (HCA63.out.step HBX.out)
      have HSpa64 := Lib.hid (HSpa63.out.step HBX.out)
      have HSpm64 := Lib.hid (HSpm63.out.step HBX.out)
      have HSpx64 := Lib.hid (HSpx63.out.step HBX.out)
      have HSpz64 := Lib.hid (HSpz63.out.step HBX.out)
      have HB64 := Lib.hid (Below.step HB63.out HBX.out)
      clear hal HBX HCA63 HSpa63 HSpm63 HSpx63 HSpz63 HB63
      generalize World.setCells _ _ _ _ = w64 at HCA64 HB64 HSpa64 HSpm64 HSpx64 HSpz64 HSpu64 ⊢
      generalize w63.heap.size = pu at HSpu64 ⊢
      go_wp2_with fail
      refine (ar_no 3 z6 z4 z6 z4 _ rfl).mono ?_
      rintro e w65 ⟨rfl, hb⟩
      have HCA65 := Lib.hid (HCA64.out.step hb)
      have HSpa65 := Lib.hid (HSpa64.out.step hb)
      have HSpm65 := Lib.hid (HSpm64.out.step hb)
      have HSpx65 := Lib.hid (HSpx64.out.step hb)
      have HSpz65 := Lib.hid (HSpz64.out.step hb)
      have HSpu65 := Lib.hid (HSpu64.out.step hb)
      have HB65 := Lib.hid (Below.step HB64.out hb)
      clear hb HCA64 HSpa64 HSpm64 HSpx64 HSpz64 HSpu64 HB64
      go_wp2_with fail
      refine (arawake_any _).mono ?_
      rintro e w66 ⟨rfl, hb⟩
      have HCA66 := Lib.hid (HCA65.out.step hb)
      have HSpa66 := Lib.hid (HSpa65.out.step hb)
      have HSpm66 := Lib.hid (HSpm65.out.step hb)
      have HSpx66 := Lib.hid (HSpx65.out.step hb)
      have HSpz66 := Lib.hid (HSpz65.out.step hb)
      have HSpu66 := Lib.hid (HSpu65.out.step hb)
      have HB66 := Lib.hid (Below.step HB65.out hb)
      clear hb HCA65 HSpa65 HSpm65 HSpx65 HSpz65 HSpu65 HB65
      have lda : (Ld 42 (.pointer (some ⟨pa, 0, none⟩))).run Try.prog w66 = .ok (.agg an) w66 := by rw [HAN.out ()]; exact Blk.ld_ar (by rw [← HAN.out ()]; exact HSpa66.out.blk) an_L
      have ldm := HSpm66.out.blk.ld_arr6 (l := [9, 0, 0, 0, 0, 0]) rfl
      have ldx := HSpx66.out.blk.ld_arr6 HLx.out
      have he1 := HEA.out
      have he2 := fun w => run_mac_eql w x [9, 0, 0, 0, 0, 0] HLx.out rfl
      rw [HXM.out] at he2 ldx
      have he3 : (([9, 0, 0, 0, 0, 0] : List UInt8) == [9, 0, 0, 0, 0, 0]) = true := rfl
      rw [he3] at he2
      have LEN := Lib.hid (len_any HCA66.out (by decide))
      rw [kn_len] at LEN
      go_wp2_with fail
      refine LEN.out.mono ?_
      rintro e w90 ⟨rfl, hw⟩
      rw [hw]
      clear hw lda ldm ldx
      go_wp2
      go_ret
      exact ⟨rfl, HB66.out⟩
end Go.Proofs.Ytpnhopgfoakgnaa
