/- The walk through the law of layer 6 (ether) on whom a frame is for, without the document's own answer: it answers true. -/
import Derived.Test.YteinnindnijdiaaEtherLawsB
namespace Go.Proofs.Yteinnindnijdiaa
set_option linter.unusedVariables false
open Go.RowKit
attribute [local go_sem ↓] Go.wp_at_zero Go.wp_at_succ

/-- three blocks: a frame and two addresses -/
def FrMac2 (b c g : Nat) (q f0 f1 f2 f3 f4 f5 m0 m1 m2 m3 m4 m5 o0 o1 o2 o3 o4 o5 : UInt8) (ty : Int) (d : ByteArray) (w : World) : Prop :=
  Blk w b 26 (frV q q q q q q f0 f1 f2 f3 f4 f5 ty d).cells ∧ Blk w c 24 (macV m0 m1 m2 m3 m4 m5).cells ∧ Blk w g 24 (macV o0 o1 o2 o3 o4 o5).cells
theorem FrMac2.drew {b c g : Nat} {q f0 f1 f2 f3 f4 f5 m0 m1 m2 m3 m4 m5 o0 o1 o2 o3 o4 o5 : UInt8} {ty : Int} {d : ByteArray} {w : World} (h : FrMac2 b c g q f0 f1 f2 f3 f4 f5 m0 m1 m2 m3 m4 m5 o0 o1 o2 o3 o4 o5 ty d w) : FrMac2 b c g q f0 f1 f2 f3 f4 f5 m0 m1 m2 m3 m4 m5 o0 o1 o2 o3 o4 o5 ty d w.drew := h
theorem FrMac2.all {b c g : Nat} {q f0 f1 f2 f3 f4 f5 m0 m1 m2 m3 m4 m5 o0 o1 o2 o3 o4 o5 : UInt8} {ty : Int} {d : ByteArray} {w : World} (h : FrMac2 b c g q f0 f1 f2 f3 f4 f5 m0 m1 m2 m3 m4 m5 o0 o1 o2 o3 o4 o5 ty d w) : FrMac2 b c g q f0 f1 f2 f3 f4 f5 m0 m1 m2 m3 m4 m5 o0 o1 o2 o3 o4 o5 ty d w ∧ w.cell? ⟨b, 0, none⟩ = some (.int .u8 q.toNat) ∧ w.cell? ⟨b, 1, none⟩ = some (.int .u8 q.toNat) ∧ w.cell? ⟨b, 2, none⟩ = some (.int .u8 q.toNat) ∧ w.cell? ⟨b, 3, none⟩ = some (.int .u8 q.toNat) ∧ w.cell? ⟨b, 4, none⟩ = some (.int .u8 q.toNat) ∧ w.cell? ⟨b, 5, none⟩ = some (.int .u8 q.toNat) ∧ w.cell? ⟨b, 6, none⟩ = some (.int .u8 f0.toNat) ∧ w.cell? ⟨b, 7, none⟩ = some (.int .u8 f1.toNat) ∧ w.cell? ⟨b, 8, none⟩ = some (.int .u8 f2.toNat) ∧ w.cell? ⟨b, 9, none⟩ = some (.int .u8 f3.toNat) ∧ w.cell? ⟨b, 10, none⟩ = some (.int .u8 f4.toNat) ∧ w.cell? ⟨b, 11, none⟩ = some (.int .u8 f5.toNat) ∧ w.cell? ⟨b, 12, none⟩ = some (.int .i64 ty) ∧ w.cell? ⟨b, 13, none⟩ = some (.string d) ∧ w.cell? ⟨c, 0, none⟩ = some (.int .u8 m0.toNat) ∧ w.cell? ⟨c, 1, none⟩ = some (.int .u8 m1.toNat) ∧ w.cell? ⟨c, 2, none⟩ = some (.int .u8 m2.toNat) ∧ w.cell? ⟨c, 3, none⟩ = some (.int .u8 m3.toNat) ∧ w.cell? ⟨c, 4, none⟩ = some (.int .u8 m4.toNat) ∧ w.cell? ⟨c, 5, none⟩ = some (.int .u8 m5.toNat) ∧ w.cell? ⟨g, 0, none⟩ = some (.int .u8 o0.toNat) ∧ w.cell? ⟨g, 1, none⟩ = some (.int .u8 o1.toNat) ∧ w.cell? ⟨g, 2, none⟩ = some (.int .u8 o2.toNat) ∧ w.cell? ⟨g, 3, none⟩ = some (.int .u8 o3.toNat) ∧ w.cell? ⟨g, 4, none⟩ = some (.int .u8 o4.toNat) ∧ w.cell? ⟨g, 5, none⟩ = some (.int .u8 o5.toNat) := by
  obtain ⟨h1, h2, h3⟩ := h
  refine ⟨⟨h1, h2, h3⟩, ?_, ?_, ?_, ?_, ?_, ?_, ?_, ?_, ?_, ?_, ?_, ?_, ?_, ?_, ?_, ?_, ?_, ?_, ?_, ?_, ?_, ?_, ?_, ?_, ?_, ?_⟩
  all_goals first | (rw [h1.cell]; rfl) | (rw [h2.cell]; rfl) | (rw [h3.cell]; rfl)
theorem FrMac2.next {b c g : Nat} {q f0 f1 f2 f3 f4 f5 m0 m1 m2 m3 m4 m5 o0 o1 o2 o3 o4 o5 : UInt8} {ty : Int} {d : ByteArray} {w w' : World} {X : Prop} (k : Below w.heap.size w w') (h : FrMac2 b c g q f0 f1 f2 f3 f4 f5 m0 m1 m2 m3 m4 m5 o0 o1 o2 o3 o4 o5 ty d w ∧ X) : FrMac2 b c g q f0 f1 f2 f3 f4 f5 m0 m1 m2 m3 m4 m5 o0 o1 o2 o3 o4 o5 ty d w' ∧ w'.cell? ⟨b, 0, none⟩ = some (.int .u8 q.toNat) ∧ w'.cell? ⟨b, 1, none⟩ = some (.int .u8 q.toNat) ∧ w'.cell? ⟨b, 2, none⟩ = some (.int .u8 q.toNat) ∧ w'.cell? ⟨b, 3, none⟩ = some (.int .u8 q.toNat) ∧ w'.cell? ⟨b, 4, none⟩ = some (.int .u8 q.toNat) ∧ w'.cell? ⟨b, 5, none⟩ = some (.int .u8 q.toNat) ∧ w'.cell? ⟨b, 6, none⟩ = some (.int .u8 f0.toNat) ∧ w'.cell? ⟨b, 7, none⟩ = some (.int .u8 f1.toNat) ∧ w'.cell? ⟨b, 8, none⟩ = some (.int .u8 f2.toNat) ∧ w'.cell? ⟨b, 9, none⟩ = some (.int .u8 f3.toNat) ∧ w'.cell? ⟨b, 10, none⟩ = some (.int .u8 f4.toNat) ∧ w'.cell? ⟨b, 11, none⟩ = some (.int .u8 f5.toNat) ∧ w'.cell? ⟨b, 12, none⟩ = some (.int .i64 ty) ∧ w'.cell? ⟨b, 13, none⟩ = some (.string d) ∧ w'.cell? ⟨c, 0, none⟩ = some (.int .u8 m0.toNat) ∧ w'.cell? ⟨c, 1, none⟩ = some (.int .u8 m1.toNat) ∧ w'.cell? ⟨c, 2, none⟩ = some (.int .u8 m2.toNat) ∧ w'.cell? ⟨c, 3, none⟩ = some (.int .u8 m3.toNat) ∧ w'.cell? ⟨c, 4, none⟩ = some (.int .u8 m4.toNat) ∧ w'.cell? ⟨c, 5, none⟩ = some (.int .u8 m5.toNat) ∧ w'.cell? ⟨g, 0, none⟩ = some (.int .u8 o0.toNat) ∧ w'.cell? ⟨g, 1, none⟩ = some (.int .u8 o1.toNat) ∧ w'.cell? ⟨g, 2, none⟩ = some (.int .u8 o2.toNat) ∧ w'.cell? ⟨g, 3, none⟩ = some (.int .u8 o3.toNat) ∧ w'.cell? ⟨g, 4, none⟩ = some (.int .u8 o4.toNat) ∧ w'.cell? ⟨g, 5, none⟩ = some (.int .u8 o5.toNat) :=
  FrMac2.all ⟨h.1.1.step k, h.1.2.1.step k, h.1.2.2.step k⟩

set_option maxRecDepth 100000 in
set_option maxHeartbeats 1600000 in
theorem etherFor_walk (t0 t1 t2 t3 t4 t5 f0 f1 f2 f3 f4 f5 m0 m1 m2 m3 m4 m5 o0 o1 o2 o3 o4 o5 : UInt8) (ty : Int) (d : ByteArray) (w : World) :
    Calls Try.prog 6 #[frV t0 t1 t2 t3 t4 t5 f0 f1 f2 f3 f4 f5 ty d, macV m0 m1 m2 m3 m4 m5, macV o0 o1 o2 o3 o4 o5] w fun e w' => e = .returned (.bool true) ∧ Below w.heap.size w w' := by
  have hB : Below w.heap.size w (((w.alloc (.cells (frV t0 t1 t2 t3 t4 t5 f0 f1 f2 f3 f4 f5 ty d).cells 26)).alloc (.cells (macV m0 m1 m2 m3 m4 m5).cells 24)).alloc (.cells (macV o0 o1 o2 o3 o4 o5).cells 24)) := (((Below.refl _ _).alloc (Nat.le_refl _) _).alloc (by simp) _).alloc (by simp; omega) _
  have hK1 : Blk (((w.alloc (.cells (frV t0 t1 t2 t3 t4 t5 f0 f1 f2 f3 f4 f5 ty d).cells 26)).alloc (.cells (macV m0 m1 m2 m3 m4 m5).cells 24)).alloc (.cells (macV o0 o1 o2 o3 o4 o5).cells 24)) w.heap.size 26 (frV t0 t1 t2 t3 t4 t5 f0 f1 f2 f3 f4 f5 ty d).cells := ((Blk.new w _ _ 0 0 (Or.inl (Nat.le_refl _))).alloc _).alloc _
  have hK2 : Blk (((w.alloc (.cells (frV t0 t1 t2 t3 t4 t5 f0 f1 f2 f3 f4 f5 ty d).cells 26)).alloc (.cells (macV m0 m1 m2 m3 m4 m5).cells 24)).alloc (.cells (macV o0 o1 o2 o3 o4 o5).cells 24)) (w.heap.size + 1) 24 (macV m0 m1 m2 m3 m4 m5).cells := by
    have h := Blk.new (w.alloc (.cells (frV t0 t1 t2 t3 t4 t5 f0 f1 f2 f3 f4 f5 ty d).cells 26)) 24 (macV m0 m1 m2 m3 m4 m5).cells 0 0 (Or.inl (Nat.le_refl _))
    rw [size_alloc] at h
    exact h.alloc _
  have hK3 : Blk (((w.alloc (.cells (frV t0 t1 t2 t3 t4 t5 f0 f1 f2 f3 f4 f5 ty d).cells 26)).alloc (.cells (macV m0 m1 m2 m3 m4 m5).cells 24)).alloc (.cells (macV o0 o1 o2 o3 o4 o5).cells 24)) (w.heap.size + 1 + 1) 24 (macV o0 o1 o2 o3 o4 o5).cells := by
    have h := Blk.new ((w.alloc (.cells (frV t0 t1 t2 t3 t4 t5 f0 f1 f2 f3 f4 f5 ty d).cells 26)).alloc (.cells (macV m0 m1 m2 m3 m4 m5).cells 24)) 24 (macV o0 o1 o2 o3 o4 o5).cells 0 0 (Or.inl (Nat.le_refl _))
    rw [size_alloc, size_alloc] at h
    exact h
  obtain ⟨q, hq⟩ : ∃ q : UInt8, q = 255 := ⟨_, rfl⟩
  have hev : ∀ w, Calls Try.prog 22 #[] w fun e w' => e = .returned (macV q q q q q q) ∧ Below w.heap.size w w' := by
    subst hq
    intro w
    exact everybody_any w
  have hqi : ((q.toNat : Nat) : Int) = 255 := by subst hq; rfl
  have hf1 : ∀ w, Calls Try.prog 20 #[frV m0 m1 m2 m3 m4 m5 f0 f1 f2 f3 f4 f5 ty d, macV m0 m1 m2 m3 m4 m5] w fun e w' => e = .returned (.bool true) ∧ Below w.heap.size w w' := by
    intro w
    have h := for_any m0 m1 m2 m3 m4 m5 f0 f1 f2 f3 f4 f5 m0 m1 m2 m3 m4 m5 ty d w
    rw [macEq_self, Bool.true_or] at h
    exact h
  have hf2 := fun w => for_any m0 m1 m2 m3 m4 m5 f0 f1 f2 f3 f4 f5 o0 o1 o2 o3 o4 o5 ty d w
  have hg1 : ∀ w, Calls Try.prog 20 #[frV q q q q q q f0 f1 f2 f3 f4 f5 ty d, macV m0 m1 m2 m3 m4 m5] w fun e w' => e = .returned (.bool true) ∧ Below w.heap.size w w' := by
    intro w
    have h := for_any q q q q q q f0 f1 f2 f3 f4 f5 m0 m1 m2 m3 m4 m5 ty d w
    rw [hqi, macEq_self, Bool.or_true] at h
    exact h
  have hg2 : ∀ w, Calls Try.prog 20 #[frV q q q q q q f0 f1 f2 f3 f4 f5 ty d, macV o0 o1 o2 o3 o4 o5] w fun e w' => e = .returned (.bool true) ∧ Below w.heap.size w w' := by
    intro w
    have h := for_any q q q q q q f0 f1 f2 f3 f4 f5 o0 o1 o2 o3 o4 o5 ty d w
    rw [hqi, macEq_self, Bool.or_true] at h
    exact h
  have hmo := fun w => run_mac_eql w m0.toNat m1.toNat m2.toNat m3.toNat m4.toNat m5.toNat o0.toNat o1.toNat o2.toNat o3.toNat o4.toNat o5.toNat
  have hma := fun w => run_mac_eql w m0.toNat m1.toNat m2.toNat m3.toNat m4.toNat m5.toNat q.toNat q.toNat q.toNat q.toNat q.toNat q.toNat
  rw [hqi] at hma
  generalize macEq [(m0.toNat : Int), (m1.toNat : Int), (m2.toNat : Int), (m3.toNat : Int), (m4.toNat : Int), (m5.toNat : Int)] [255, 255, 255, 255, 255, 255] = ma at hf2 hma
  generalize hmov : macEq [(m0.toNat : Int), (m1.toNat : Int), (m2.toNat : Int), (m3.toNat : Int), (m4.toNat : Int), (m5.toNat : Int)] [(o0.toNat : Int), (o1.toNat : Int), (o2.toNat : Int), (o3.toNat : Int), (o4.toNat : Int), (o5.toNat : Int)] = mo at hf2 hmo
  rw [← hqi] at hma
  clear hmov
  have HE := Lib.hid hev
  have HF1 := Lib.hid hf1
  have HF2 := Lib.hid hf2
  have HG1 := Lib.hid hg1
  have HG2 := Lib.hid hg2
  have HB := Lib.hid hB
  have HK1 := Lib.hid hK1
  have HK2 := Lib.hid hK2
  have HK3 := Lib.hid hK3
  clear hB hK1 hK2 hK3 hf1 hf2 hg1 hg2 hev hqi hq
  cases mo
  all_goals
    go_enter Try.func6, Try.ntmps6
    go_wp2_with fail
    simp only [Value.cells] at HB HK1 HK2 HK3
    generalize ((w.alloc _).alloc _).alloc _ = W at HB HK1 HK2 HK3 ⊢
    refine (awake_any _).mono ?_
    rintro e w1 ⟨rfl, hb1⟩
    have HB1 := Lib.hid (Below.step HB.out hb1)
    have L1 := Lib.hid (HK1.out.step hb1)
    have L2 := Lib.hid (HK2.out.step hb1)
    have L3 := Lib.hid (HK3.out.step hb1)
    clear hb1 HB HK1 HK2 HK3
    have N1 := Lib.hid (L1.out.setPart (C' := (frV m0 m1 m2 m3 m4 m5 f0 f1 f2 f3 f4 f5 ty d).cells) 0 (macV m0 m1 m2 m3 m4 m5).cells.toList (by simp [Value.cells]) rfl)
    have N2 := Lib.hid (L2.out.setCells_other w.heap.size 0 (macV m0 m1 m2 m3 m4 m5).cells.toList (by omega))
    have N3 := Lib.hid (L3.out.setCells_other w.heap.size 0 (macV m0 m1 m2 m3 m4 m5).cells.toList (by omega))
    have NB := Lib.hid (Below.setCells HB1.out (Nat.le_refl _) 0 (macV m0 m1 m2 m3 m4 m5).cells.toList)
    have tokA : True := trivial
    go_wp2_with (first
      | (have _t := tokA; refine wpList_load_blk rfl 24 (.tmp 4) rfl (w.heap.size + 1) rfl (macV m0 m1 m2 m3 m4 m5).cells 24 _ L2.out Try.underlying24 rfl size_mac ?_; clear tokA)
      | (have _t := L1; refine wpList_store_part rfl 24 (.tmp 12) (.tmp 11) rfl w.heap.size 0 (macV m0 m1 m2 m3 m4 m5).cells rfl rfl (frV t0 t1 t2 t3 t4 t5 f0 f1 f2 f3 f4 f5 ty d).cells 26 L1.out ?_ size_mac rfl ?_; simp [Value.cells]; generalize w1.setCells _ _ _ = w2 at N1 N2 N3 NB ⊢; have tokB : True := trivial)
      | (have _t := tokB; refine wpList_load_blk rfl 26 (.tmp 3) rfl w.heap.size rfl (frV m0 m1 m2 m3 m4 m5 f0 f1 f2 f3 f4 f5 ty d).cells 26 _ N1.out Try.underlying26 rfl size_fr ?_)
      | (have _t := tokB; refine wpList_load_blk rfl 24 (.tmp 4) rfl (w.heap.size + 1) rfl (macV m0 m1 m2 m3 m4 m5).cells 24 _ N2.out Try.underlying24 rfl size_mac ?_))
    refine (HF1.out _).mono ?_
    rintro e w3 ⟨rfl, hb3⟩
    have P1 := Lib.hid (N1.out.step hb3)
    have P2 := Lib.hid (N2.out.step hb3)
    have P3 := Lib.hid (N3.out.step hb3)
    have PB := Lib.hid (Below.step NB.out hb3)
    clear hb3 N1 N2 N3 NB tokB L1 L2 L3 HB1
    go_wp2_with (first
      | (refine wpList_load_blk rfl 26 (.tmp 3) rfl w.heap.size rfl (frV m0 m1 m2 m3 m4 m5 f0 f1 f2 f3 f4 f5 ty d).cells 26 _ P1.out Try.underlying26 rfl size_fr ?_)
      | (refine wpList_load_blk rfl 24 (.tmp 5) rfl (w.heap.size + 1 + 1) rfl (macV o0 o1 o2 o3 o4 o5).cells 24 _ P3.out Try.underlying24 rfl size_mac ?_))
    refine (HF2.out _).mono ?_
    rintro e w4 ⟨rfl, hb4⟩
    have R1 := Lib.hid (P1.out.step hb4)
    have R2 := Lib.hid (P2.out.step hb4)
    have R3 := Lib.hid (P3.out.step hb4)
    have RB := Lib.hid (Below.step PB.out hb4)
    clear hb4 P1 P2 P3 PB
    go_wp2_with fail
    refine (HE.out _).mono ?_
    rintro e w5 ⟨rfl, hb5⟩
    have U1 := Lib.hid ((R1.out.step hb5).setPart (C' := (frV q q q q q q f0 f1 f2 f3 f4 f5 ty d).cells) 0 (macV q q q q q q).cells.toList (by simp [Value.cells]) rfl)
    have U2 := Lib.hid ((R2.out.step hb5).setCells_other w.heap.size 0 (macV q q q q q q).cells.toList (by omega))
    have U3 := Lib.hid ((R3.out.step hb5).setCells_other w.heap.size 0 (macV q q q q q q).cells.toList (by omega))
    have UB := Lib.hid (Below.setCells (Below.step RB.out hb5) (Nat.le_refl _) 0 (macV q q q q q q).cells.toList)
    have V1 := Lib.hid (R1.out.step hb5)
    clear hb5 R1 R2 R3 RB
    go_wp2_with (first
      | (have _t := V1; refine wpList_store_part rfl 24 (.tmp 20) (.tmp 19) rfl w.heap.size 0 (macV q q q q q q).cells rfl rfl (frV m0 m1 m2 m3 m4 m5 f0 f1 f2 f3 f4 f5 ty d).cells 26 V1.out ?_ size_mac rfl ?_; simp [Value.cells]; generalize w5.setCells _ _ _ = w6 at U1 U2 U3 UB ⊢; clear V1))
    have HK6 : Hid (FrMac2 w.heap.size (w.heap.size + 1) (w.heap.size + 1 + 1) q f0 f1 f2 f3 f4 f5 m0 m1 m2 m3 m4 m5 o0 o1 o2 o3 o4 o5 ty d w6) := ⟨U1.out, U2.out, U3.out⟩
    clear U1 U2 U3
  · go_region_held3 (fun w' => FrMac2 w.heap.size (w.heap.size + 1) (w.heap.size + 1 + 1) q f0 f1 f2 f3 f4 f5 m0 m1 m2 m3 m4 m5 o0 o1 o2 o3 o4 o5 ty d w' ∧ w'.cell? ⟨w.heap.size, 0, none⟩ = some (.int .u8 q.toNat) ∧ w'.cell? ⟨w.heap.size, 1, none⟩ = some (.int .u8 q.toNat) ∧ w'.cell? ⟨w.heap.size, 2, none⟩ = some (.int .u8 q.toNat) ∧ w'.cell? ⟨w.heap.size, 3, none⟩ = some (.int .u8 q.toNat) ∧ w'.cell? ⟨w.heap.size, 4, none⟩ = some (.int .u8 q.toNat) ∧ w'.cell? ⟨w.heap.size, 5, none⟩ = some (.int .u8 q.toNat) ∧ w'.cell? ⟨w.heap.size, 6, none⟩ = some (.int .u8 f0.toNat) ∧ w'.cell? ⟨w.heap.size, 7, none⟩ = some (.int .u8 f1.toNat) ∧ w'.cell? ⟨w.heap.size, 8, none⟩ = some (.int .u8 f2.toNat) ∧ w'.cell? ⟨w.heap.size, 9, none⟩ = some (.int .u8 f3.toNat) ∧ w'.cell? ⟨w.heap.size, 10, none⟩ = some (.int .u8 f4.toNat) ∧ w'.cell? ⟨w.heap.size, 11, none⟩ = some (.int .u8 f5.toNat) ∧ w'.cell? ⟨w.heap.size, 12, none⟩ = some (.int .i64 ty) ∧ w'.cell? ⟨w.heap.size, 13, none⟩ = some (.string d) ∧ w'.cell? ⟨w.heap.size + 1, 0, none⟩ = some (.int .u8 m0.toNat) ∧ w'.cell? ⟨w.heap.size + 1, 1, none⟩ = some (.int .u8 m1.toNat) ∧ w'.cell? ⟨w.heap.size + 1, 2, none⟩ = some (.int .u8 m2.toNat) ∧ w'.cell? ⟨w.heap.size + 1, 3, none⟩ = some (.int .u8 m3.toNat) ∧ w'.cell? ⟨w.heap.size + 1, 4, none⟩ = some (.int .u8 m4.toNat) ∧ w'.cell? ⟨w.heap.size + 1, 5, none⟩ = some (.int .u8 m5.toNat) ∧ w'.cell? ⟨w.heap.size + 1 + 1, 0, none⟩ = some (.int .u8 o0.toNat) ∧ w'.cell? ⟨w.heap.size + 1 + 1, 1, none⟩ = some (.int .u8 o1.toNat) ∧ w'.cell? ⟨w.heap.size + 1 + 1, 2, none⟩ = some (.int .u8 o2.toNat) ∧ w'.cell? ⟨w.heap.size + 1 + 1, 3, none⟩ = some (.int .u8 o3.toNat) ∧ w'.cell? ⟨w.heap.size + 1 + 1, 4, none⟩ = some (.int .u8 o4.toNat) ∧ w'.cell? ⟨w.heap.size + 1 + 1, 5, none⟩ = some (.int .u8 o5.toNat))
      (first | exact HK6.out.all | exact HK6.out.drew.all | exact FrMac2.next (by assumption) (by assumption))
      (first
        | (go_at_call 22; refine (HE.out _).mono ?_; rintro e w7 ⟨rfl, hb7⟩)
        | (go_at_call 20; first | ((with_reducible refine (HG1.out _).mono ?_); rintro e w8 ⟨rfl, hb8⟩) | ((with_reducible refine (HG2.out _).mono ?_); rintro e w9 ⟨rfl, hb9⟩)))
    go_wp2
    go_ret
    exact ⟨rfl, Below.step (Below.step (Below.step UB.out.drew hb7) hb8) hb9⟩
  · refine wp_region_noPanic ?_
    refine wp_region_held_drew (S := (fun w' => FrMac2 w.heap.size (w.heap.size + 1) (w.heap.size + 1 + 1) q f0 f1 f2 f3 f4 f5 m0 m1 m2 m3 m4 m5 o0 o1 o2 o3 o4 o5 ty d w' ∧ w'.cell? ⟨w.heap.size, 0, none⟩ = some (.int .u8 q.toNat) ∧ w'.cell? ⟨w.heap.size, 1, none⟩ = some (.int .u8 q.toNat) ∧ w'.cell? ⟨w.heap.size, 2, none⟩ = some (.int .u8 q.toNat) ∧ w'.cell? ⟨w.heap.size, 3, none⟩ = some (.int .u8 q.toNat) ∧ w'.cell? ⟨w.heap.size, 4, none⟩ = some (.int .u8 q.toNat) ∧ w'.cell? ⟨w.heap.size, 5, none⟩ = some (.int .u8 q.toNat) ∧ w'.cell? ⟨w.heap.size, 6, none⟩ = some (.int .u8 f0.toNat) ∧ w'.cell? ⟨w.heap.size, 7, none⟩ = some (.int .u8 f1.toNat) ∧ w'.cell? ⟨w.heap.size, 8, none⟩ = some (.int .u8 f2.toNat) ∧ w'.cell? ⟨w.heap.size, 9, none⟩ = some (.int .u8 f3.toNat) ∧ w'.cell? ⟨w.heap.size, 10, none⟩ = some (.int .u8 f4.toNat) ∧ w'.cell? ⟨w.heap.size, 11, none⟩ = some (.int .u8 f5.toNat) ∧ w'.cell? ⟨w.heap.size, 12, none⟩ = some (.int .i64 ty) ∧ w'.cell? ⟨w.heap.size, 13, none⟩ = some (.string d) ∧ w'.cell? ⟨w.heap.size + 1, 0, none⟩ = some (.int .u8 m0.toNat) ∧ w'.cell? ⟨w.heap.size + 1, 1, none⟩ = some (.int .u8 m1.toNat) ∧ w'.cell? ⟨w.heap.size + 1, 2, none⟩ = some (.int .u8 m2.toNat) ∧ w'.cell? ⟨w.heap.size + 1, 3, none⟩ = some (.int .u8 m3.toNat) ∧ w'.cell? ⟨w.heap.size + 1, 4, none⟩ = some (.int .u8 m4.toNat) ∧ w'.cell? ⟨w.heap.size + 1, 5, none⟩ = some (.int .u8 m5.toNat) ∧ w'.cell? ⟨w.heap.size + 1 + 1, 0, none⟩ = some (.int .u8 o0.toNat) ∧ w'.cell? ⟨w.heap.size + 1 + 1, 1, none⟩ = some (.int .u8 o1.toNat) ∧ w'.cell? ⟨w.heap.size + 1 + 1, 2, none⟩ = some (.int .u8 o2.toNat) ∧ w'.cell? ⟨w.heap.size + 1 + 1, 3, none⟩ = some (.int .u8 o3.toNat) ∧ w'.cell? ⟨w.heap.size + 1 + 1, 4, none⟩ = some (.int .u8 o4.toNat) ∧ w'.cell? ⟨w.heap.size + 1 + 1, 5, none⟩ = some (.int .u8 o5.toNat))) (by kernel_rfl) (by first | exact HK6.out.all | exact HK6.out.drew.all | exact FrMac2.next (by assumption) (by assumption)) (fun hHeld => ?_)
    refine wpAnyH_take (i := 0) (oi := _) (v := ?v0) rfl (by kernel_rfl) (by kernel_rfl) (by kernel_rfl) (fun _ _ _ h => h) (Or.inl ⟨by kernel_rfl, ?h0⟩) hHeld ?_
    case h0 => (intro w hSw; (try dsimp only at hSw); go_simp; try (with_reducible rfl))
    try simp only [List.getElem_toArray, List.getElem_cons_zero, List.getElem_cons_succ, Act.put, List.setIfInBounds_toArray, List.set_cons_zero, List.set_cons_succ]
    refine wpAnyH_take (i := 1) (oi := _) (v := ?v1) rfl (by kernel_rfl) (by kernel_rfl) (by kernel_rfl) (fun _ _ _ h => h) (Or.inl ⟨by kernel_rfl, ?h1⟩) hHeld ?_
    case h1 => (intro w hSw; (try dsimp only at hSw); go_simp; try (with_reducible rfl))
    try simp only [List.getElem_toArray, List.getElem_cons_zero, List.getElem_cons_succ, Act.put, List.setIfInBounds_toArray, List.set_cons_zero, List.set_cons_succ]
    refine wpAnyH_take (i := 2) (oi := _) (v := ?v2) rfl (by kernel_rfl) (by kernel_rfl) (by kernel_rfl) (fun _ _ _ h => h) (Or.inl ⟨by kernel_rfl, ?h2⟩) hHeld ?_
    case h2 => (intro w hSw; (try dsimp only at hSw); go_simp; try (with_reducible rfl))
    try simp only [List.getElem_toArray, List.getElem_cons_zero, List.getElem_cons_succ, Act.put, List.setIfInBounds_toArray, List.set_cons_zero, List.set_cons_succ]
    refine wpAnyH_take (i := 3) (oi := _) (v := ?v3) rfl (by kernel_rfl) (by kernel_rfl) (by kernel_rfl) (fun _ _ _ h => h) (Or.inl ⟨by kernel_rfl, ?h3⟩) hHeld ?_
    case h3 => (intro w hSw; (try dsimp only at hSw); go_simp; try (with_reducible rfl))
    try simp only [List.getElem_toArray, List.getElem_cons_zero, List.getElem_cons_succ, Act.put, List.setIfInBounds_toArray, List.set_cons_zero, List.set_cons_succ]
    refine wpAnyH_take (i := 4) (oi := _) (v := ?v4) rfl (by kernel_rfl) (by kernel_rfl) (by kernel_rfl) (fun _ _ _ h => h) (Or.inl ⟨by kernel_rfl, ?h4⟩) hHeld ?_
    case h4 => (intro w hSw; (try dsimp only at hSw); go_simp; try (with_reducible rfl))
    try simp only [List.getElem_toArray, List.getElem_cons_zero, List.getElem_cons_succ, Act.put, List.setIfInBounds_toArray, List.set_cons_zero, List.set_cons_succ]
    refine wpAnyH_take (i := 5) (oi := _) (v := ?v5) rfl (by kernel_rfl) (by kernel_rfl) (by kernel_rfl) (fun _ _ _ h => h) (Or.inl ⟨by kernel_rfl, ?h5⟩) hHeld ?_
    case h5 => (intro w hSw; (try dsimp only at hSw); go_simp; try (with_reducible rfl))
    try simp only [List.getElem_toArray, List.getElem_cons_zero, List.getElem_cons_succ, Act.put, List.setIfInBounds_toArray, List.set_cons_zero, List.set_cons_succ]
    refine wpAnyH_take (i := 6) (oi := _) (v := ?v6) rfl (by kernel_rfl) (by kernel_rfl) (by kernel_rfl) (fun _ _ _ h => h) (Or.inl ⟨by kernel_rfl, ?h6⟩) hHeld ?_
    case h6 => (intro w hSw; (try dsimp only at hSw); go_simp; try (with_reducible rfl))
    try simp only [List.getElem_toArray, List.getElem_cons_zero, List.getElem_cons_succ, Act.put, List.setIfInBounds_toArray, List.set_cons_zero, List.set_cons_succ]
    refine wpAnyH_take (i := 7) (oi := _) (v := undef) rfl (by kernel_rfl) (by kernel_rfl) (by kernel_rfl) (fun _ _ _ h => h) (Or.inr ⟨by kernel_rfl, rfl⟩) hHeld ?_
    try simp only [List.getElem_toArray, List.getElem_cons_zero, List.getElem_cons_succ, Act.put, List.setIfInBounds_toArray, List.set_cons_zero, List.set_cons_succ]
    refine wpAnyH_take (i := 8) (oi := _) (v := undef) rfl (by kernel_rfl) (by kernel_rfl) (by kernel_rfl) (fun _ _ _ h => h) (Or.inr ⟨by kernel_rfl, rfl⟩) hHeld ?_
    try simp only [List.getElem_toArray, List.getElem_cons_zero, List.getElem_cons_succ, Act.put, List.setIfInBounds_toArray, List.set_cons_zero, List.set_cons_succ]
    refine wpAnyH_take (i := 9) (oi := _) (v := undef) rfl (by kernel_rfl) (by kernel_rfl) (by kernel_rfl) (fun _ _ _ h => h) (Or.inr ⟨by kernel_rfl, rfl⟩) hHeld ?_
    try simp only [List.getElem_toArray, List.getElem_cons_zero, List.getElem_cons_succ, Act.put, List.setIfInBounds_toArray, List.set_cons_zero, List.set_cons_succ]
    refine wpAnyH_take (i := 10) (oi := _) (v := ?v10) rfl (by kernel_rfl) (by kernel_rfl) (by kernel_rfl) (fun _ _ _ h => h) (Or.inl ⟨by kernel_rfl, ?h10⟩) hHeld ?_
    case h10 => (intro w hSw; (try dsimp only at hSw); go_simp; try (with_reducible rfl))
    try simp only [List.getElem_toArray, List.getElem_cons_zero, List.getElem_cons_succ, Act.put, List.setIfInBounds_toArray, List.set_cons_zero, List.set_cons_succ]
    refine wpAnyH_take (i := 11) (oi := _) (v := ?v11) rfl (by kernel_rfl) (by kernel_rfl) (by kernel_rfl) (fun _ _ _ h => h) (Or.inl ⟨by kernel_rfl, ?h11⟩) hHeld ?_
    case h11 => (intro w hSw; (try dsimp only at hSw); go_simp; try (with_reducible rfl))
    try simp only [List.getElem_toArray, List.getElem_cons_zero, List.getElem_cons_succ, Act.put, List.setIfInBounds_toArray, List.set_cons_zero, List.set_cons_succ]
    refine wpAnyH_take (i := 12) (oi := _) (v := ?v12) rfl (by kernel_rfl) (by kernel_rfl) (by kernel_rfl) (fun _ _ _ h => h) (Or.inl ⟨by kernel_rfl, ?h12⟩) hHeld ?_
    case h12 => (intro w hSw; (try dsimp only at hSw); go_simp; try (with_reducible rfl))
    try simp only [List.getElem_toArray, List.getElem_cons_zero, List.getElem_cons_succ, Act.put, List.setIfInBounds_toArray, List.set_cons_zero, List.set_cons_succ]
    refine wpAnyH_take (i := 13) (oi := _) (v := ?v13) rfl (by kernel_rfl) (by kernel_rfl) (by kernel_rfl) (fun _ _ _ h => h) (Or.inl ⟨by kernel_rfl, ?h13⟩) hHeld ?_
    case h13 => (intro w hSw; (try dsimp only at hSw); go_simp; try (with_reducible rfl))
    try simp only [List.getElem_toArray, List.getElem_cons_zero, List.getElem_cons_succ, Act.put, List.setIfInBounds_toArray, List.set_cons_zero, List.set_cons_succ]
    refine wpAnyH_take (i := 14) (oi := _) (v := ?v14) rfl (by kernel_rfl) (by kernel_rfl) (by kernel_rfl) (fun _ _ _ h => h) (Or.inl ⟨by kernel_rfl, ?h14⟩) hHeld ?_
    case h14 => (intro w hSw; (try dsimp only at hSw); go_simp; try (with_reducible rfl))
    try simp only [List.getElem_toArray, List.getElem_cons_zero, List.getElem_cons_succ, Act.put, List.setIfInBounds_toArray, List.set_cons_zero, List.set_cons_succ]
    refine wpAnyH_take (i := 15) (oi := _) (v := ?v15) rfl (by kernel_rfl) (by kernel_rfl) (by kernel_rfl) (fun _ _ _ h => h) (Or.inl ⟨by kernel_rfl, ?h15⟩) hHeld ?_
    case h15 => (intro w hSw; (try dsimp only at hSw); go_simp; try (with_reducible rfl))
    try simp only [List.getElem_toArray, List.getElem_cons_zero, List.getElem_cons_succ, Act.put, List.setIfInBounds_toArray, List.set_cons_zero, List.set_cons_succ]
    refine wpAnyH_ready (rs := [16]) (by kernel_rfl) (by simp) ?_
    refine AllReadyH.cons (o := _) rfl (fun K hK => ?_) AllReadyH.nil
    go_simp
    (first | ((with_reducible refine (HG1.out _).mono ?_); rintro e w8 ⟨rfl, hb8⟩) | ((with_reducible refine (HG2.out _).mono ?_); rintro e w9 ⟨rfl, hb9⟩))
    refine hK.out _ _ ?_ (fun hHeld16 => ?_)
    · (first | exact HK6.out.all | exact HK6.out.drew.all | exact FrMac2.next (by assumption) (by assumption))
    clear hHeld hK K
    try simp only [List.getElem_toArray, List.getElem_cons_zero, List.getElem_cons_succ, Act.put, List.setIfInBounds_toArray, List.set_cons_zero, List.set_cons_succ]
    refine wpAnyH_take (i := 17) (oi := _) (v := ?v17) rfl (by kernel_rfl) (by kernel_rfl) (by kernel_rfl) (fun _ _ _ h => h) (Or.inl ⟨by kernel_rfl, ?h17⟩) hHeld16 ?_
    case h17 => (intro w hSw; (try dsimp only at hSw); go_simp; try (with_reducible rfl))
    try simp only [List.getElem_toArray, List.getElem_cons_zero, List.getElem_cons_succ, Act.put, List.setIfInBounds_toArray, List.set_cons_zero, List.set_cons_succ]
    refine wpAnyH_take (i := 18) (oi := _) (v := ?v18) rfl (by kernel_rfl) (by kernel_rfl) (by kernel_rfl) (fun _ _ _ h => h) (Or.inl ⟨by kernel_rfl, ?h18⟩) hHeld16 ?_
    case h18 => (intro w hSw; (try dsimp only at hSw); go_simp; try (with_reducible rfl))
    try simp only [List.getElem_toArray, List.getElem_cons_zero, List.getElem_cons_succ, Act.put, List.setIfInBounds_toArray, List.set_cons_zero, List.set_cons_succ]
    refine wpAnyH_take (i := 19) (oi := _) (v := ?v19) rfl (by kernel_rfl) (by kernel_rfl) (by kernel_rfl) (fun _ _ _ h => h) (Or.inl ⟨by kernel_rfl, ?h19⟩) hHeld16 ?_
    case h19 => (intro w hSw; (try dsimp only at hSw); go_simp; try (with_reducible rfl))
    try simp only [List.getElem_toArray, List.getElem_cons_zero, List.getElem_cons_succ, Act.put, List.setIfInBounds_toArray, List.set_cons_zero, List.set_cons_succ]
    refine wpAnyH_take (i := 20) (oi := _) (v := ?v20) rfl (by kernel_rfl) (by kernel_rfl) (by kernel_rfl) (fun _ _ _ h => h) (Or.inl ⟨by kernel_rfl, ?h20⟩) hHeld16 ?_
    case h20 => (intro w hSw; (try dsimp only at hSw); go_simp; try (with_reducible rfl))
    try simp only [List.getElem_toArray, List.getElem_cons_zero, List.getElem_cons_succ, Act.put, List.setIfInBounds_toArray, List.set_cons_zero, List.set_cons_succ]
    refine wpAnyH_ready (rs := [21]) (by kernel_rfl) (by simp) ?_
    refine AllReadyH.cons (o := _) rfl (fun K hK => ?_) AllReadyH.nil
    go_simp
    (first | ((with_reducible refine (HG1.out _).mono ?_); rintro e w8 ⟨rfl, hb8⟩) | ((with_reducible refine (HG2.out _).mono ?_); rintro e w9 ⟨rfl, hb9⟩))
    refine hK.out _ _ ?_ (fun hHeld21 => ?_)
    · (first | exact HK6.out.all | exact HK6.out.drew.all | exact FrMac2.next (by assumption) (by assumption))
    clear hHeld16 hK K
    try simp only [List.getElem_toArray, List.getElem_cons_zero, List.getElem_cons_succ, Act.put, List.setIfInBounds_toArray, List.set_cons_zero, List.set_cons_succ]
    refine wpAnyH_take (i := 22) (oi := _) (v := ?v22) rfl (by kernel_rfl) (by kernel_rfl) (by kernel_rfl) (fun _ _ _ h => h) (Or.inl ⟨by kernel_rfl, ?h22⟩) hHeld21 ?_
    case h22 => (intro w hSw; (try dsimp only at hSw); go_simp; try (with_reducible rfl))
    try simp only [List.getElem_toArray, List.getElem_cons_zero, List.getElem_cons_succ, Act.put, List.setIfInBounds_toArray, List.set_cons_zero, List.set_cons_succ]
    refine wpAnyH_take (i := 23) (oi := _) (v := ?v23) rfl (by kernel_rfl) (by kernel_rfl) (by kernel_rfl) (fun _ _ _ h => h) (Or.inl ⟨by kernel_rfl, ?h23⟩) hHeld21 ?_
    case h23 => (intro w hSw; (try dsimp only at hSw); go_simp; try (with_reducible rfl))
    try simp only [List.getElem_toArray, List.getElem_cons_zero, List.getElem_cons_succ, Act.put, List.setIfInBounds_toArray, List.set_cons_zero, List.set_cons_succ]
    refine wpAnyH_done (by kernel_rfl) ?_ _
    refine NoPanic.normal ?_
    go_wp2
    go_ret
    exact ⟨rfl, Below.step (Below.step UB.out.drew hb8) hb9⟩
end Go.Proofs.Yteinnindnijdiaa
