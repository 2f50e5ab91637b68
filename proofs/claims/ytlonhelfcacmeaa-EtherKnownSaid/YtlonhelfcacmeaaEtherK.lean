/- The walk through the law EtherKnown: it answers true. -/
import Derived.Test.YtlonhelfcacmeaaEtherF
import Derived.Test.YtlonhelfcacmeaaRep
namespace Go.Proofs.Ytlonhelfcacmeaa
set_option linter.unusedVariables false
set_option linter.unusedSimpArgs false
set_option maxRecDepth 100000
open Go.RowKit
attribute [local go_sem ↓] Go.wp_at_zero Go.wp_at_succ

def rx (c : Nat) : List UInt8 := Lib.repeatL [120] c
theorem rep_x (c : Nat) (hc : c ≤ 1000) (w : World) : Calls Try.prog 16 #[.string ⟨#[120]⟩, .int .i64 (c : Int)] w fun e w' => e = .returned (.string ⟨(rx c).toArray⟩) ∧ Below w.heap.size w w' :=
  repeat_any ⟨#[120]⟩ c w (by omega) (by show 1 * c ≤ _; omega)
abbrev frZ : Array Value := #[.int .u8 0, .int .u8 0, .int .u8 0, .int .u8 0, .int .u8 0, .int .u8 0, .int .u8 0, .int .u8 0, .int .u8 0, .int .u8 0, .int .u8 0, .int .u8 0, .int .i64 0, .string ⟨#[]⟩]
abbrev frX : Array Value := #[.int .u8 120, .int .u8 120, .int .u8 120, .int .u8 120, .int .u8 120, .int .u8 120, .int .u8 120, .int .u8 120, .int .u8 120, .int .u8 120, .int .u8 120, .int .u8 120, .int .i64 30840, .string ⟨#[]⟩]
theorem k_read (c : Nat) (E : Int) (C : Array Value) (h : rdFr ⟨(rx c).toArray⟩ = (.agg C, E)) (hc : (rx c).length ≤ 1000) (w : World) :
    Calls Try.prog 9 #[.string ⟨(rx c).toArray⟩] w fun e w' => e = .returned (.tuple #[.agg C, .int .i64 E]) ∧ Below w.heap.size w w' := by
  have h2 := read_any ⟨(rx c).toArray⟩ w (by show (rx c).length ≤ _; omega)
  rw [h] at h2
  exact h2
theorem k_bytes (ty : Int) (l : List UInt8) (E : Int) (h : (frBytes [0, 0, 0, 0, 0, 0] [0, 0, 0, 0, 0, 0] ty l).2 = E) (hl : l.length ≤ 9223372036854775807) (hty : -9223372036854775808 ≤ ty ∧ ty ≤ 9223372036854775807) (w : World) :
    Calls Try.prog 11 #[.agg #[.int .u8 0, .int .u8 0, .int .u8 0, .int .u8 0, .int .u8 0, .int .u8 0, .int .u8 0, .int .u8 0, .int .u8 0, .int .u8 0, .int .u8 0, .int .u8 0, .int .i64 ty, .string ⟨l.toArray⟩]] w fun e w' => (∃ X : List UInt8, e = .returned (.tuple #[.string ⟨X.toArray⟩, .int .i64 E])) ∧ Below w.heap.size w w' :=
  (bytes_any 0 0 0 0 0 0 0 0 0 0 0 0 ty l w hl hty).mono fun e w' ⟨h1, hb⟩ => ⟨⟨(frBytes [0, 0, 0, 0, 0, 0] [0, 0, 0, 0, 0, 0] ty l).1, by rw [h1, h]⟩, hb⟩
theorem k_for1 (w : World) : Calls Try.prog 13 #[.agg exC, .agg #[.int .u8 1, .int .u8 2, .int .u8 3, .int .u8 4, .int .u8 5, .int .u8 6]] w fun e w' => e = .returned (.bool true) ∧ Below w.heap.size w w' :=
  for_any 1 2 3 4 5 6 10 11 12 13 14 15 1 2 3 4 5 6 2048 ⟨#[104, 105]⟩ w
theorem k_for2 (w : World) : Calls Try.prog 13 #[.agg exC, .agg #[.int .u8 10, .int .u8 11, .int .u8 12, .int .u8 13, .int .u8 14, .int .u8 15]] w fun e w' => e = .returned (.bool false) ∧ Below w.heap.size w w' :=
  for_any 1 2 3 4 5 6 10 11 12 13 14 15 10 11 12 13 14 15 2048 ⟨#[104, 105]⟩ w

theorem k_f0 (w : World) : (Instr.field 26 (.agg exC) 0).run Try.prog w = .ok (.agg #[.int .u8 1, .int .u8 2, .int .u8 3, .int .u8 4, .int .u8 5, .int .u8 6]) w := by kernel_rfl
theorem k_f1 (w : World) : (Instr.field 26 (.agg exC) 1).run Try.prog w = .ok (.agg #[.int .u8 10, .int .u8 11, .int .u8 12, .int .u8 13, .int .u8 14, .int .u8 15]) w := by kernel_rfl

set_option maxHeartbeats 4000000 in
theorem etherKnown_walk (w : World) : Calls Try.prog 7 #[] w fun e w' => e = .returned (.bool true) ∧ Below w.heap.size w w' := by
  have r13 := Lib.hid (fun w => rep_x 13 (by decide) w)
  have r601 := Lib.hid (fun w => rep_x 601 (by decide) w)
  have r587 := Lib.hid (fun w => rep_x 587 (by decide) w)
  have r586 := Lib.hid (fun w => rep_x 586 (by decide) w)
  have r14 := Lib.hid (fun w => rep_x 14 (by decide) w)
  have a1 := Lib.hid (fun w => k_read 13 7 frZ (by kernel_rfl) (by decide +kernel) w)
  have a2 := Lib.hid (fun w => k_read 601 3 frZ (by kernel_rfl) (by decide +kernel) w)
  have a3 := Lib.hid (fun w => k_read 14 0 frX (by kernel_rfl) (by decide +kernel) w)
  have b1 := Lib.hid (fun w => k_bytes 65536 [] 1 (by decide +kernel) (by decide) (by decide) w)
  have b2 := Lib.hid (fun w => k_bytes 0 (rx 587) 3 (by decide +kernel) (by decide +kernel) (by decide) w)
  have b3 := Lib.hid (fun w => k_bytes 0 (rx 586) 0 (by decide +kernel) (by decide +kernel) (by decide) w)
  have f0 := k_f0
  have f1 := k_f1
  go_enter Try.func7, Try.ntmps7
  go_wp2_with fail
  refine (r13.out _).mono ?_
  rintro e u1 ⟨rfl, hb⟩
  have HB1 := Lib.hid (hb)
  clear hb
  go_wp2_with fail
  refine (a1.out _).mono ?_
  rintro e u2 ⟨rfl, hb⟩
  have HB2 := Lib.hid (Below.step HB1.out hb)
  clear hb HB1
  have HN := Lib.hid (Blk.new u2 26 frZ 0 0 (Or.inl (Nat.le_refl _)))
  have HBs := Lib.hid (Below.setCells (HB2.out.alloc HB2.out.size (.cells frZ 26)) HB2.out.size 0 frZ.toList)
  have tok2 : True := trivial
  clear HB2
  go_wp2_with (have _t := tok2; refine wpList_store_blk rfl 26 _ _ rfl u2.heap.size frZ rfl rfl frZ 26 HN.out rfl size_fr rfl ?_; clear tok2 HN; generalize World.setCells _ _ _ _ = W2 at HBs ⊢)
  have HB2 := HBs
  clear HBs
  refine (r601.out _).mono ?_
  rintro e u3 ⟨rfl, hb⟩
  have HB3 := Lib.hid (Below.step HB2.out hb)
  clear hb HB2
  go_wp2_with fail
  refine (a2.out _).mono ?_
  rintro e u4 ⟨rfl, hb⟩
  have HB4 := Lib.hid (Below.step HB3.out hb)
  clear hb HB3
  have HN := Lib.hid (Blk.new u4 26 frZ 0 0 (Or.inl (Nat.le_refl _)))
  have HBs := Lib.hid (Below.setCells (HB4.out.alloc HB4.out.size (.cells frZ 26)) HB4.out.size 0 frZ.toList)
  have tok4 : True := trivial
  clear HB4
  go_wp2_with (have _t := tok4; refine wpList_store_blk rfl 26 _ _ rfl u4.heap.size frZ rfl rfl frZ 26 HN.out rfl size_fr rfl ?_; clear tok4 HN; generalize World.setCells _ _ _ _ = W4 at HBs ⊢)
  have HB4 := HBs
  clear HBs
  refine (b1.out _).mono ?_
  rintro e u5 ⟨⟨X1, rfl⟩, hb⟩
  have HB5 := Lib.hid (Below.step HB4.out hb)
  clear hb HB4
  go_wp2_with fail
  refine (r587.out _).mono ?_
  rintro e u6 ⟨rfl, hb⟩
  have HB6 := Lib.hid (Below.step HB5.out hb)
  clear hb HB5
  go_wp2_with fail
  refine (b2.out _).mono ?_
  rintro e u7 ⟨⟨X2, rfl⟩, hb⟩
  have HB7 := Lib.hid (Below.step HB6.out hb)
  clear hb HB6
  go_wp2_with fail
  refine (r586.out _).mono ?_
  rintro e u8 ⟨rfl, hb⟩
  have HB8 := Lib.hid (Below.step HB7.out hb)
  clear hb HB7
  go_wp2_with fail
  refine (b3.out _).mono ?_
  rintro e u9 ⟨⟨X3, rfl⟩, hb⟩
  have HB9 := Lib.hid (Below.step HB8.out hb)
  clear hb HB8
  go_wp2_with fail
  refine (r14.out _).mono ?_
  rintro e u10 ⟨rfl, hb⟩
  have HB10 := Lib.hid (Below.step HB9.out hb)
  clear hb HB9
  go_wp2_with fail
  refine (a3.out _).mono ?_
  rintro e u11 ⟨rfl, hb⟩
  have HB11 := Lib.hid (Below.step HB10.out hb)
  clear hb HB10
  have HN := Lib.hid (Blk.new u11 26 frZ 0 0 (Or.inl (Nat.le_refl _)))
  have HBs := Lib.hid (Below.setCells (HB11.out.alloc HB11.out.size (.cells frZ 26)) HB11.out.size 0 frX.toList)
  have HYs := Lib.hid (HN.out.setAll (cs := frX) rfl)
  have tok11 : True := trivial
  clear HB11
  go_upto_region 7 with (have _t := tok11; refine wpList_store_blk rfl 26 _ _ rfl u11.heap.size frX rfl rfl frZ 26 HN.out rfl size_fr rfl ?_; clear tok11 HN; generalize World.setCells _ _ _ _ = W11 at HBs HYs ⊢)
  have HB11 := HBs
  clear HBs
  generalize u11.heap.size = g at HYs ⊢
  have HY11 := HYs
  clear HYs
  go_wp2_with fail
  refine (awake_any _).mono ?_
  rintro e u12 ⟨rfl, hb⟩
  have HB12 := Lib.hid (Below.step HB11.out hb)
  have HY12 := Lib.hid (HY11.out.step hb)
  clear hb HB11 HY11
  have c13 : u12.cell? ⟨g, 13, none⟩ = some (.string ⟨#[]⟩) := by rw [HY12.out.cell]; rfl
  go_wp2_with fail
  refine (example_any _).mono ?_
  rintro e u13 ⟨rfl, hb⟩
  have HB13 := Lib.hid (Below.step HB12.out hb)
  clear hb HB12 c13
  go_wp2_with fail
  refine (example_any _).mono ?_
  rintro e u14 ⟨rfl, hb⟩
  have HB14 := Lib.hid (Below.step HB13.out hb)
  clear hb HB13
  go_wp2_with fail
  refine (k_for1 _).mono ?_
  rintro e u15 ⟨rfl, hb⟩
  have HB15 := Lib.hid (Below.step HB14.out hb)
  clear hb HB14
  go_wp2_with fail
  refine (example_any _).mono ?_
  rintro e u16 ⟨rfl, hb⟩
  have HB16 := Lib.hid (Below.step HB15.out hb)
  clear hb HB15
  go_wp2_with fail
  refine (example_any _).mono ?_
  rintro e u17 ⟨rfl, hb⟩
  have HB17 := Lib.hid (Below.step HB16.out hb)
  clear hb HB16
  go_wp2_with fail
  refine (k_for2 _).mono ?_
  rintro e u18 ⟨rfl, hb⟩
  have HB18 := Lib.hid (Below.step HB17.out hb)
  clear hb HB17
  go_wp2
  go_ret
  exact ⟨rfl, HB18.out⟩
end Go.Proofs.Ytlonhelfcacmeaa
