/- The walks through the laws of layer 6 (ether) on writing and on whom a frame is for: each answers true. -/
import Derived.Test.YteinnindnijdiaaEtherF
namespace Go.Proofs.Yteinnindnijdiaa
set_option linter.unusedVariables false
open Go.RowKit
attribute [local go_sem ↓] Go.wp_at_zero Go.wp_at_succ

/-- two blocks: a frame and an address -/
def FrMac (b c : Nat) (t0 t1 t2 t3 t4 t5 f0 f1 f2 f3 f4 f5 m0 m1 m2 m3 m4 m5 : UInt8) (ty : Int) (d : ByteArray) (w : World) : Prop :=
  Blk w b 26 (frV t0 t1 t2 t3 t4 t5 f0 f1 f2 f3 f4 f5 ty d).cells ∧ Blk w c 24 (macV m0 m1 m2 m3 m4 m5).cells
theorem FrMac.step {b c : Nat} {t0 t1 t2 t3 t4 t5 f0 f1 f2 f3 f4 f5 m0 m1 m2 m3 m4 m5 : UInt8} {ty : Int} {d : ByteArray} {w w' : World} (k : Below w.heap.size w w') (h : FrMac b c t0 t1 t2 t3 t4 t5 f0 f1 f2 f3 f4 f5 m0 m1 m2 m3 m4 m5 ty d w) : FrMac b c t0 t1 t2 t3 t4 t5 f0 f1 f2 f3 f4 f5 m0 m1 m2 m3 m4 m5 ty d w' := ⟨h.1.step k, h.2.step k⟩
theorem FrMac.drew {b c : Nat} {t0 t1 t2 t3 t4 t5 f0 f1 f2 f3 f4 f5 m0 m1 m2 m3 m4 m5 : UInt8} {ty : Int} {d : ByteArray} {w : World} (h : FrMac b c t0 t1 t2 t3 t4 t5 f0 f1 f2 f3 f4 f5 m0 m1 m2 m3 m4 m5 ty d w) : FrMac b c t0 t1 t2 t3 t4 t5 f0 f1 f2 f3 f4 f5 m0 m1 m2 m3 m4 m5 ty d w.drew := h
theorem FrMac.all {b c : Nat} {t0 t1 t2 t3 t4 t5 f0 f1 f2 f3 f4 f5 m0 m1 m2 m3 m4 m5 : UInt8} {ty : Int} {d : ByteArray} {w : World} (h : FrMac b c t0 t1 t2 t3 t4 t5 f0 f1 f2 f3 f4 f5 m0 m1 m2 m3 m4 m5 ty d w) : FrMac b c t0 t1 t2 t3 t4 t5 f0 f1 f2 f3 f4 f5 m0 m1 m2 m3 m4 m5 ty d w ∧ w.cell? ⟨b, 0, none⟩ = some (.int .u8 t0.toNat) ∧ w.cell? ⟨b, 1, none⟩ = some (.int .u8 t1.toNat) ∧ w.cell? ⟨b, 2, none⟩ = some (.int .u8 t2.toNat) ∧ w.cell? ⟨b, 3, none⟩ = some (.int .u8 t3.toNat) ∧ w.cell? ⟨b, 4, none⟩ = some (.int .u8 t4.toNat) ∧ w.cell? ⟨b, 5, none⟩ = some (.int .u8 t5.toNat) ∧ w.cell? ⟨b, 6, none⟩ = some (.int .u8 f0.toNat) ∧ w.cell? ⟨b, 7, none⟩ = some (.int .u8 f1.toNat) ∧ w.cell? ⟨b, 8, none⟩ = some (.int .u8 f2.toNat) ∧ w.cell? ⟨b, 9, none⟩ = some (.int .u8 f3.toNat) ∧ w.cell? ⟨b, 10, none⟩ = some (.int .u8 f4.toNat) ∧ w.cell? ⟨b, 11, none⟩ = some (.int .u8 f5.toNat) ∧ w.cell? ⟨b, 12, none⟩ = some (.int .i64 ty) ∧ w.cell? ⟨b, 13, none⟩ = some (.string d) ∧ w.cell? ⟨c, 0, none⟩ = some (.int .u8 m0.toNat) ∧ w.cell? ⟨c, 1, none⟩ = some (.int .u8 m1.toNat) ∧ w.cell? ⟨c, 2, none⟩ = some (.int .u8 m2.toNat) ∧ w.cell? ⟨c, 3, none⟩ = some (.int .u8 m3.toNat) ∧ w.cell? ⟨c, 4, none⟩ = some (.int .u8 m4.toNat) ∧ w.cell? ⟨c, 5, none⟩ = some (.int .u8 m5.toNat) := by
  obtain ⟨h1, h2⟩ := h
  refine ⟨⟨h1, h2⟩, ?_, ?_, ?_, ?_, ?_, ?_, ?_, ?_, ?_, ?_, ?_, ?_, ?_, ?_, ?_, ?_, ?_, ?_, ?_, ?_⟩
  all_goals first | (rw [h1.cell]; rfl) | (rw [h2.cell]; rfl)
theorem FrMac.next {b c : Nat} {t0 t1 t2 t3 t4 t5 f0 f1 f2 f3 f4 f5 m0 m1 m2 m3 m4 m5 : UInt8} {ty : Int} {d : ByteArray} {w w' : World} {X : Prop} (k : Below w.heap.size w w') (h : FrMac b c t0 t1 t2 t3 t4 t5 f0 f1 f2 f3 f4 f5 m0 m1 m2 m3 m4 m5 ty d w ∧ X) : FrMac b c t0 t1 t2 t3 t4 t5 f0 f1 f2 f3 f4 f5 m0 m1 m2 m3 m4 m5 ty d w' ∧ w'.cell? ⟨b, 0, none⟩ = some (.int .u8 t0.toNat) ∧ w'.cell? ⟨b, 1, none⟩ = some (.int .u8 t1.toNat) ∧ w'.cell? ⟨b, 2, none⟩ = some (.int .u8 t2.toNat) ∧ w'.cell? ⟨b, 3, none⟩ = some (.int .u8 t3.toNat) ∧ w'.cell? ⟨b, 4, none⟩ = some (.int .u8 t4.toNat) ∧ w'.cell? ⟨b, 5, none⟩ = some (.int .u8 t5.toNat) ∧ w'.cell? ⟨b, 6, none⟩ = some (.int .u8 f0.toNat) ∧ w'.cell? ⟨b, 7, none⟩ = some (.int .u8 f1.toNat) ∧ w'.cell? ⟨b, 8, none⟩ = some (.int .u8 f2.toNat) ∧ w'.cell? ⟨b, 9, none⟩ = some (.int .u8 f3.toNat) ∧ w'.cell? ⟨b, 10, none⟩ = some (.int .u8 f4.toNat) ∧ w'.cell? ⟨b, 11, none⟩ = some (.int .u8 f5.toNat) ∧ w'.cell? ⟨b, 12, none⟩ = some (.int .i64 ty) ∧ w'.cell? ⟨b, 13, none⟩ = some (.string d) ∧ w'.cell? ⟨c, 0, none⟩ = some (.int .u8 m0.toNat) ∧ w'.cell? ⟨c, 1, none⟩ = some (.int .u8 m1.toNat) ∧ w'.cell? ⟨c, 2, none⟩ = some (.int .u8 m2.toNat) ∧ w'.cell? ⟨c, 3, none⟩ = some (.int .u8 m3.toNat) ∧ w'.cell? ⟨c, 4, none⟩ = some (.int .u8 m4.toNat) ∧ w'.cell? ⟨c, 5, none⟩ = some (.int .u8 m5.toNat) :=
  (h.1.step k).all

set_option maxRecDepth 100000 in
set_option maxHeartbeats 2000000 in
theorem etherWrites_walk (t0 t1 t2 t3 t4 t5 f0 f1 f2 f3 f4 f5 m0 m1 m2 m3 m4 m5 : UInt8) (ty : Int) (l : List UInt8) (hl : l.length ≤ 9223372036854775807) (hty : -9223372036854775808 ≤ ty ∧ ty ≤ 9223372036854775807) (w : World) :
    Calls Try.prog 5 #[frV t0 t1 t2 t3 t4 t5 f0 f1 f2 f3 f4 f5 ty ⟨l.toArray⟩, macV m0 m1 m2 m3 m4 m5] w fun e w' => e = .returned (.bool true) ∧ Below w.heap.size w w' := by
  have hB : Below w.heap.size w ((w.alloc (.cells (frV t0 t1 t2 t3 t4 t5 f0 f1 f2 f3 f4 f5 ty ⟨l.toArray⟩).cells 26)).alloc (.cells (macV m0 m1 m2 m3 m4 m5).cells 24)) := ((Below.refl _ _).alloc (Nat.le_refl _) _).alloc (by simp) _
  have hK : FrMac w.heap.size (w.heap.size + 1) t0 t1 t2 t3 t4 t5 f0 f1 f2 f3 f4 f5 m0 m1 m2 m3 m4 m5 ty ⟨l.toArray⟩ ((w.alloc (.cells (frV t0 t1 t2 t3 t4 t5 f0 f1 f2 f3 f4 f5 ty ⟨l.toArray⟩).cells 26)).alloc (.cells (macV m0 m1 m2 m3 m4 m5).cells 24)) := by
    have h := Blk.new (w.alloc (.cells (frV t0 t1 t2 t3 t4 t5 f0 f1 f2 f3 f4 f5 ty ⟨l.toArray⟩).cells 26)) 24 (macV m0 m1 m2 m3 m4 m5).cells 0 0 (Or.inl (Nat.le_refl _))
    rw [size_alloc] at h
    exact ⟨(Blk.new w _ _ 0 0 (Or.inl (Nat.le_refl _))).alloc _, h⟩
  have hfor1 := fun w => for_any t0 t1 t2 t3 t4 t5 f0 f1 f2 f3 f4 f5 m0 m1 m2 m3 m4 m5 ty ⟨l.toArray⟩ w
  have hfor2 := fun w => refFor_any t0 t1 t2 t3 t4 t5 f0 f1 f2 f3 f4 f5 m0 m1 m2 m3 m4 m5 ty ⟨l.toArray⟩ w
  generalize (macEq [(t0.toNat : Int), (t1.toNat : Int), (t2.toNat : Int), (t3.toNat : Int), (t4.toNat : Int), (t5.toNat : Int)] [(m0.toNat : Int), (m1.toNat : Int), (m2.toNat : Int), (m3.toNat : Int), (m4.toNat : Int), (m5.toNat : Int)] || macEq [(t0.toNat : Int), (t1.toNat : Int), (t2.toNat : Int), (t3.toNat : Int), (t4.toNat : Int), (t5.toNat : Int)] [255, 255, 255, 255, 255, 255]) = fb at hfor1 hfor2
  have hwr1 := fun w => bytes_any t0 t1 t2 t3 t4 t5 f0 f1 f2 f3 f4 f5 ty l w hl hty
  have hwr2 := fun (w : World) (h : l.length ≤ 9223372036854775000) => refBytes_any t0 t1 t2 t3 t4 t5 f0 f1 f2 f3 f4 f5 ty l w h hty
  generalize (frBytes [t0, t1, t2, t3, t4, t5] [f0, f1, f2, f3, f4, f5] ty l).1 = fs at hwr1 hwr2
  generalize (frBytes [t0, t1, t2, t3, t4, t5] [f0, f1, f2, f3, f4, f5] ty l).2 = fe at hwr1 hwr2
  have HF1 := Lib.hid hfor1
  have HF2 := Lib.hid hfor2
  have HW1 := Lib.hid hwr1
  have HW2 := Lib.hid hwr2
  have HB := Lib.hid hB
  have HK := Lib.hid hK
  clear hB hK hfor1 hfor2 hwr1 hwr2
  have hself := macEq_self
  have hmq := fun w => run_mac_eql w 255 255 255 255 255 255 255 255 255 255 255 255
  go_enter Try.func5, Try.ntmps5
  go_wp2_with fail
  simp only [Value.cells] at HB HK
  generalize (w.alloc _).alloc _ = W at HB HK ⊢
  refine (awake_any _).mono ?_
  rintro e w1 ⟨rfl, hb1⟩
  have HB1 := Lib.hid (Below.step HB.out hb1)
  have HK1 := Lib.hid (HK.out.step hb1)
  clear hb1 HB HK
  have hcd := HK1.out.all.2.2.2.2.2.2.2.2.2.2.2.2.2.2.1
  by_cases hbig : 2000 < l.length
  · go_wp2
    go_ret
    exact ⟨rfl, HB1.out⟩
  · go_wp2_with (refine wpList_load_blk rfl 26 (.tmp 2) rfl _ rfl _ _ _ HK1.out.1 Try.underlying26 rfl size_fr ?_)
    refine (HW1.out _).mono ?_
    rintro e w2 ⟨rfl, hb2⟩
    have HB2 := Lib.hid (Below.step HB1.out hb2)
    have HK2 := Lib.hid (HK1.out.step hb2)
    clear hb2 hcd
    go_wp2_with (refine wpList_load_blk rfl 26 (.tmp 2) rfl _ rfl _ _ _ HK2.out.1 Try.underlying26 rfl size_fr ?_)
    refine (HW2.out _ (by omega)).mono ?_
    rintro e w3 ⟨rfl, hb3⟩
    have HB3 := Lib.hid (Below.step HB2.out hb3)
    have HK3 := Lib.hid (HK2.out.step hb3)
    clear hb3
    go_wp2_with fail
    go_region_held3 (fun w' => FrMac w.heap.size (w.heap.size + 1) t0 t1 t2 t3 t4 t5 f0 f1 f2 f3 f4 f5 m0 m1 m2 m3 m4 m5 ty ⟨l.toArray⟩ w' ∧ w'.cell? ⟨w.heap.size, 0, none⟩ = some (.int .u8 t0.toNat) ∧ w'.cell? ⟨w.heap.size, 1, none⟩ = some (.int .u8 t1.toNat) ∧ w'.cell? ⟨w.heap.size, 2, none⟩ = some (.int .u8 t2.toNat) ∧ w'.cell? ⟨w.heap.size, 3, none⟩ = some (.int .u8 t3.toNat) ∧ w'.cell? ⟨w.heap.size, 4, none⟩ = some (.int .u8 t4.toNat) ∧ w'.cell? ⟨w.heap.size, 5, none⟩ = some (.int .u8 t5.toNat) ∧ w'.cell? ⟨w.heap.size, 6, none⟩ = some (.int .u8 f0.toNat) ∧ w'.cell? ⟨w.heap.size, 7, none⟩ = some (.int .u8 f1.toNat) ∧ w'.cell? ⟨w.heap.size, 8, none⟩ = some (.int .u8 f2.toNat) ∧ w'.cell? ⟨w.heap.size, 9, none⟩ = some (.int .u8 f3.toNat) ∧ w'.cell? ⟨w.heap.size, 10, none⟩ = some (.int .u8 f4.toNat) ∧ w'.cell? ⟨w.heap.size, 11, none⟩ = some (.int .u8 f5.toNat) ∧ w'.cell? ⟨w.heap.size, 12, none⟩ = some (.int .i64 ty) ∧ w'.cell? ⟨w.heap.size, 13, none⟩ = some (.string ⟨l.toArray⟩) ∧ w'.cell? ⟨(w.heap.size + 1), 0, none⟩ = some (.int .u8 m0.toNat) ∧ w'.cell? ⟨(w.heap.size + 1), 1, none⟩ = some (.int .u8 m1.toNat) ∧ w'.cell? ⟨(w.heap.size + 1), 2, none⟩ = some (.int .u8 m2.toNat) ∧ w'.cell? ⟨(w.heap.size + 1), 3, none⟩ = some (.int .u8 m3.toNat) ∧ w'.cell? ⟨(w.heap.size + 1), 4, none⟩ = some (.int .u8 m4.toNat) ∧ w'.cell? ⟨(w.heap.size + 1), 5, none⟩ = some (.int .u8 m5.toNat))
      (first | exact HK3.out.all | exact HK3.out.drew.all | exact FrMac.next (by assumption) (by assumption))
      (first
        | (go_at_call 20; refine (HF1.out _).mono ?_; rintro e w4 ⟨rfl, hb4⟩)
        | (go_at_call 21; refine (HF2.out _).mono ?_; rintro e w5 ⟨rfl, hb5⟩)
        | (go_at_call 22; refine (everybody_any _).mono ?_; rintro e w6 ⟨rfl, hb6⟩))
    go_wp2
    go_ret
    exact ⟨rfl, Below.step (Below.step (Below.step HB3.out.drew hb4) hb5) hb6⟩
end Go.Proofs.Yteinnindnijdiaa
