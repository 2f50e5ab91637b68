/- What package ether's functions compute, and the reference's. -/
import Derived.Test.YtlonhelfcacmeaaMemB
import Derived.Deep.RegionHeld3
import Derived.Deep.DeepCutAuto
import Derived.Deep.DrawnRows
namespace Go.Proofs.Ytlonhelfcacmeaa
set_option linter.unusedVariables false
open Go.RowKit
attribute [local go_sem ↓] Go.wp_at_zero Go.wp_at_succ

/-- a frame's value -/
abbrev frV (t0 t1 t2 t3 t4 t5 f0 f1 f2 f3 f4 f5 : UInt8) (ty : Int) (d : ByteArray) : Value :=
  .agg #[.int .u8 t0.toNat, .int .u8 t1.toNat, .int .u8 t2.toNat, .int .u8 t3.toNat, .int .u8 t4.toNat, .int .u8 t5.toNat,
    .int .u8 f0.toNat, .int .u8 f1.toNat, .int .u8 f2.toNat, .int .u8 f3.toNat, .int .u8 f4.toNat, .int .u8 f5.toNat, .int .i64 ty, .string d]

theorem bytes_arg (t0 t1 t2 t3 t4 t5 f0 f1 f2 f3 f4 f5 : UInt8) (ty : Int) (d : ByteArray) (w : World) (hd : d.size ≤ 9223372036854775807)
    (hty : -9223372036854775808 ≤ ty ∧ ty ≤ 9223372036854775807) (h : ty < 0 ∨ 65535 < ty) :
    Calls Try.prog 11 #[frV t0 t1 t2 t3 t4 t5 f0 f1 f2 f3 f4 f5 ty d] w fun e w' => e = .returned (.tuple #[.string ⟨([] : List UInt8).toArray⟩, .int .i64 1]) ∧ Below w.heap.size w w' := by
  obtain ⟨hta, htb⟩ := hty
  rcases h with h | h
  · go_enter Try.func11, Try.ntmps11
    go_wp2
    go_ret2
    exact ⟨rfl, (Below.refl _ _).alloc (Nat.le_refl _) _⟩
  · have h' : ¬ ty < 0 := by omega
    go_enter Try.func11, Try.ntmps11
    go_wp2
    go_ret2
    exact ⟨rfl, (Below.refl _ _).alloc (Nat.le_refl _) _⟩

theorem bytes_long (t0 t1 t2 t3 t4 t5 f0 f1 f2 f3 f4 f5 : UInt8) (ty : Int) (d : ByteArray) (w : World) (hd : d.size ≤ 9223372036854775807)
    (hta : 0 ≤ ty) (htb : ty ≤ 65535) (h : 586 < d.size) :
    Calls Try.prog 11 #[frV t0 t1 t2 t3 t4 t5 f0 f1 f2 f3 f4 f5 ty d] w fun e w' => e = .returned (.tuple #[.string ⟨([] : List UInt8).toArray⟩, .int .i64 3]) ∧ Below w.heap.size w w' := by
  go_enter Try.func11, Try.ntmps11
  go_wp2
  go_ret2
  exact ⟨rfl, (Below.refl _ _).alloc (Nat.le_refl _) _⟩

/-- what the loads of a frame's block give -/
def FrS (b : Nat) (t0 t1 t2 t3 t4 t5 f0 f1 f2 f3 f4 f5 : UInt8) (ty : Int) (d : ByteArray) (w : World) : Prop :=
  Blk w b 26 (frV t0 t1 t2 t3 t4 t5 f0 f1 f2 f3 f4 f5 ty d).cells

theorem FrS.all {b : Nat} {t0 t1 t2 t3 t4 t5 f0 f1 f2 f3 f4 f5 : UInt8} {ty : Int} {d : ByteArray} {w : World} (h : FrS b t0 t1 t2 t3 t4 t5 f0 f1 f2 f3 f4 f5 ty d w) :
    FrS b t0 t1 t2 t3 t4 t5 f0 f1 f2 f3 f4 f5 ty d w ∧
    (convert 46 9 (.slice (some ⟨b, 0, none⟩) 6 6)).run Try.prog w = .ok (.string ⟨#[t0, t1, t2, t3, t4, t5]⟩) w ∧
    (convert 46 9 (.slice (some ⟨b, 6, none⟩) 6 6)).run Try.prog w = .ok (.string ⟨#[f0, f1, f2, f3, f4, f5]⟩) w ∧
    w.cell? ⟨b, 12, none⟩ = some (.int .i64 ty) ∧ w.cell? ⟨b, 13, none⟩ = some (.string d) := by
  refine ⟨h, ?_, ?_, ?_, ?_⟩
  · refine run_back Try.prog w 46 9 5 b 0 6 [t0, t1, t2, t3, t4, t5] Try.underlying46 Try.underlying5 Try.underlying9 ?_
    intro j hj
    rw [addr_add, h.cell]
    match j, hj with
    | 0, _ | 1, _ | 2, _ | 3, _ | 4, _ | 5, _ => rfl
  · refine run_back Try.prog w 46 9 5 b 6 6 [f0, f1, f2, f3, f4, f5] Try.underlying46 Try.underlying5 Try.underlying9 ?_
    intro j hj
    rw [addr_add, h.cell]
    match j, hj with
    | 0, _ | 1, _ | 2, _ | 3, _ | 4, _ | 5, _ => rfl
  · rw [h.cell]; rfl
  · rw [h.cell]; rfl

set_option maxHeartbeats 1000000 in
theorem bytes_ok (t0 t1 t2 t3 t4 t5 f0 f1 f2 f3 f4 f5 : UInt8) (ty : Int) (l : List UInt8) (w : World)
    (hta : 0 ≤ ty) (htb : ty ≤ 65535) (h : l.length ≤ 586) :
    Calls Try.prog 11 #[frV t0 t1 t2 t3 t4 t5 f0 f1 f2 f3 f4 f5 ty ⟨l.toArray⟩] w fun e w' =>
      e = .returned (.tuple #[.string ⟨([t0, t1, t2, t3, t4, t5] ++ [f0, f1, f2, f3, f4, f5] ++ (litN ty 2).reverse ++ l).toArray⟩, .int .i64 0]) ∧ Below w.heap.size w w' := by
  have hlen := litN_len ty 2
  have hl1 : ¬ 9223372036854775807 < 12 + (litN ty 2).length := by omega
  have hl2 : ¬ 9223372036854775807 < 12 + (litN ty 2).length + l.length := by omega
  go_enter Try.func11, Try.ntmps11
  go_wp2
  have hB : Below w.heap.size w (w.alloc (.cells (frV t0 t1 t2 t3 t4 t5 f0 f1 f2 f3 f4 f5 ty ⟨l.toArray⟩).cells 26)) := (Below.refl _ _).alloc (Nat.le_refl _) _
  have hK : FrS w.heap.size t0 t1 t2 t3 t4 t5 f0 f1 f2 f3 f4 f5 ty ⟨l.toArray⟩ (w.alloc (.cells (frV t0 t1 t2 t3 t4 t5 f0 f1 f2 f3 f4 f5 ty ⟨l.toArray⟩).cells 26)) := Blk.new _ _ _ _ _ (Or.inl (Nat.le_refl _))
  simp only [Value.cells] at hB hK
  generalize w.alloc _ = W at hB hK ⊢
  have HB := Lib.hid hB
  have hlt := hK.lt
  have HK := Lib.hid hK
  have hu := IntWalk.u64_in ty ⟨hta, by omega⟩
  have hu2 : Hid (0 ≤ ty ∧ ty ≤ 18446744073709551615) := ⟨hta, by omega⟩
  clear hB hK
  go_region_held3 (fun w' => FrS w.heap.size t0 t1 t2 t3 t4 t5 f0 f1 f2 f3 f4 f5 ty ⟨l.toArray⟩ w' ∧
    (convert 46 9 (.slice (some ⟨w.heap.size, 0, none⟩) 6 6)).run Try.prog w' = .ok (.string ⟨#[t0, t1, t2, t3, t4, t5]⟩) w' ∧
    (convert 46 9 (.slice (some ⟨w.heap.size, 6, none⟩) 6 6)).run Try.prog w' = .ok (.string ⟨#[f0, f1, f2, f3, f4, f5]⟩) w' ∧
    w'.cell? ⟨w.heap.size, 12, none⟩ = some (.int .i64 ty) ∧ w'.cell? ⟨w.heap.size, 13, none⟩ = some (.string ⟨l.toArray⟩))
    (first | exact FrS.all HK.out | exact FrS.all (Blk.drew HK.out) | exact FrS.all (Blk.below (Blk.drew HK.out) hb1.out hlt))
    ((go_at_call 19; refine (big_any _ ty 2 hu2.out).mono ?_; rintro e w1 ⟨rfl, hb0⟩; have hb1 := Lib.hid hb0; clear hb0))
  go_wp2
  go_ret2
  refine ⟨?_, HB.out.drew.trans (hb1.out.mono (show w.heap.size ≤ W.heap.size from by omega))⟩
  rw [str_append, str_append]
  rfl

/-- a frame's bytes, or why it has none -/
def frBytes (t f : List UInt8) (ty : Int) (d : List UInt8) : List UInt8 × Int :=
  if ty < 0 ∨ 65535 < ty then ([], 1) else if 586 < d.length then ([], 3) else (t ++ f ++ (litN ty 2).reverse ++ d, 0)

theorem bytes_any (t0 t1 t2 t3 t4 t5 f0 f1 f2 f3 f4 f5 : UInt8) (ty : Int) (l : List UInt8) (w : World) (hl : l.length ≤ 9223372036854775807)
    (hty : -9223372036854775808 ≤ ty ∧ ty ≤ 9223372036854775807) :
    Calls Try.prog 11 #[frV t0 t1 t2 t3 t4 t5 f0 f1 f2 f3 f4 f5 ty ⟨l.toArray⟩] w fun e w' =>
      e = .returned (.tuple #[.string ⟨(frBytes [t0, t1, t2, t3, t4, t5] [f0, f1, f2, f3, f4, f5] ty l).1.toArray⟩, .int .i64 (frBytes [t0, t1, t2, t3, t4, t5] [f0, f1, f2, f3, f4, f5] ty l).2]) ∧ Below w.heap.size w w' := by
  unfold frBytes
  by_cases h1 : ty < 0 ∨ 65535 < ty
  · rw [if_pos h1]
    exact bytes_arg t0 t1 t2 t3 t4 t5 f0 f1 f2 f3 f4 f5 ty _ w hl hty h1
  · rw [if_neg h1]
    by_cases h2 : 586 < l.length
    · rw [if_pos h2]
      exact bytes_long t0 t1 t2 t3 t4 t5 f0 f1 f2 f3 f4 f5 ty _ w hl (by omega) (by omega) h2
    · rw [if_neg h2]
      exact bytes_ok t0 t1 t2 t3 t4 t5 f0 f1 f2 f3 f4 f5 ty l w (by omega) (by omega) (by omega)

theorem refBytes_arg (t0 t1 t2 t3 t4 t5 f0 f1 f2 f3 f4 f5 : UInt8) (ty : Int) (d : ByteArray) (w : World) (hd : d.size ≤ 9223372036854775807)
    (hty : -9223372036854775808 ≤ ty ∧ ty ≤ 9223372036854775807) (h : ty < 0 ∨ 65535 < ty) :
    Calls Try.prog 12 #[frV t0 t1 t2 t3 t4 t5 f0 f1 f2 f3 f4 f5 ty d] w fun e w' => e = .returned (.tuple #[.string ⟨([] : List UInt8).toArray⟩, .int .i64 1]) ∧ Below w.heap.size w w' := by
  obtain ⟨hta, htb⟩ := hty
  rcases h with h | h
  · go_enter Try.func12, Try.ntmps12
    go_wp2
    go_ret2
    exact ⟨rfl, (Below.refl _ _).alloc (Nat.le_refl _) _⟩
  · have h' : ¬ ty < 0 := by omega
    go_enter Try.func12, Try.ntmps12
    go_wp2
    go_ret2
    exact ⟨rfl, (Below.refl _ _).alloc (Nat.le_refl _) _⟩

/-- one byte put behind a text -/
theorem run_one_any (w : World) (v : UInt8) : (convert 46 9 (.slice (some ⟨w.heap.size, 0, none⟩) 1 1)).run Try.prog (w.alloc (.cells #[.int .u8 (v.toNat : Int)] 5)) =
    .ok (.string ⟨#[v]⟩) (w.alloc (.cells #[.int .u8 (v.toNat : Int)] 5)) :=
  run_one Try.prog w 46 9 5 v _ rfl Try.underlying46 Try.underlying5 Try.underlying9

theorem FrS.to {b : Nat} {t0 t1 t2 t3 t4 t5 f0 f1 f2 f3 f4 f5 : UInt8} {ty : Int} {d : ByteArray} {w : World} (h : FrS b t0 t1 t2 t3 t4 t5 f0 f1 f2 f3 f4 f5 ty d w) (k : Nat) (hk : k < 6) :
    w.cell? ⟨b, k, none⟩ = some (.int .u8 (([t0, t1, t2, t3, t4, t5] : List UInt8)[k]'hk).toNat) := by
  rw [h.cell]
  match k, hk with
  | 0, _ | 1, _ | 2, _ | 3, _ | 4, _ | 5, _ => rfl
theorem FrS.fr {b : Nat} {t0 t1 t2 t3 t4 t5 f0 f1 f2 f3 f4 f5 : UInt8} {ty : Int} {d : ByteArray} {w : World} (h : FrS b t0 t1 t2 t3 t4 t5 f0 f1 f2 f3 f4 f5 ty d w) (k : Nat) (hk : k < 6) :
    w.cell? ⟨b, 6 + k, none⟩ = some (.int .u8 (([f0, f1, f2, f3, f4, f5] : List UInt8)[k]'hk).toNat) := by
  rw [h.cell]
  match k, hk with
  | 0, _ | 1, _ | 2, _ | 3, _ | 4, _ | 5, _ => rfl
theorem FrS.ty {b : Nat} {t0 t1 t2 t3 t4 t5 f0 f1 f2 f3 f4 f5 : UInt8} {ty : Int} {d : ByteArray} {w : World} (h : FrS b t0 t1 t2 t3 t4 t5 f0 f1 f2 f3 f4 f5 ty d w) :
    w.cell? ⟨b, 12, none⟩ = some (.int .i64 ty) := by rw [h.cell]; rfl
theorem FrS.data {b : Nat} {t0 t1 t2 t3 t4 t5 f0 f1 f2 f3 f4 f5 : UInt8} {ty : Int} {d : ByteArray} {w : World} (h : FrS b t0 t1 t2 t3 t4 t5 f0 f1 f2 f3 f4 f5 ty d w) :
    w.cell? ⟨b, 13, none⟩ = some (.string d) := by rw [h.cell]; rfl

theorem take_snoc' (l : List UInt8) (k : Nat) (h : k < l.length) : (({ data := (l.take k).toArray } : ByteArray) ++ ({ data := #[l[k]] } : ByteArray)) = { data := (l.take (k + 1)).toArray } := by
  rw [str_snoc, take_snoc l k h]

set_option maxRecDepth 100000 in
set_option maxHeartbeats 1000000 in
theorem refBytes_ok (t0 t1 t2 t3 t4 t5 f0 f1 f2 f3 f4 f5 : UInt8) (ty : Int) (l : List UInt8) (w : World)
    (hta : 0 ≤ ty) (htb : ty ≤ 65535) (h : l.length ≤ 9223372036854775000) :
    Calls Try.prog 12 #[frV t0 t1 t2 t3 t4 t5 f0 f1 f2 f3 f4 f5 ty ⟨l.toArray⟩] w fun e w' =>
      e = .returned (.tuple #[.string ⟨(frBytes [t0, t1, t2, t3, t4, t5] [f0, f1, f2, f3, f4, f5] ty l).1.toArray⟩, .int .i64 (frBytes [t0, t1, t2, t3, t4, t5] [f0, f1, f2, f3, f4, f5] ty l).2]) ∧ Below w.heap.size w w' := by
  have hone := run_one_any
  go_enter Try.func12, Try.ntmps12
  go_wp2
  have hB : Below w.heap.size w (w.alloc (.cells (frV t0 t1 t2 t3 t4 t5 f0 f1 f2 f3 f4 f5 ty ⟨l.toArray⟩).cells 26)) := (Below.refl _ _).alloc (Nat.le_refl _) _
  have hK : FrS w.heap.size t0 t1 t2 t3 t4 t5 f0 f1 f2 f3 f4 f5 ty ⟨l.toArray⟩ (w.alloc (.cells (frV t0 t1 t2 t3 t4 t5 f0 f1 f2 f3 f4 f5 ty ⟨l.toArray⟩).cells 26)) := Blk.new _ _ _ _ _ (Or.inl (Nat.le_refl _))
  simp only [Value.cells] at hB hK
  generalize w.alloc _ = W at hB hK ⊢
  have HB := Lib.hid hB
  have HK := Lib.hid hK
  obtain ⟨T, hT⟩ : ∃ T : List UInt8, T = [t0, t1, t2, t3, t4, t5] := ⟨_, rfl⟩
  obtain ⟨F, hF⟩ : ∃ F : List UInt8, F = [f0, f1, f2, f3, f4, f5] := ⟨_, rfl⟩
  have hTl : T.length = 6 := by rw [hT]; rfl
  have hFl : F.length = 6 := by rw [hF]; rfl
  have HT := Lib.hid hT
  have HF := Lib.hid hF
  have HTl := Lib.hid hTl
  have HFl := Lib.hid hFl
  clear hB hK hT hF hTl hFl
  go_loopw [4, 5] (fun s i wr => ∃ k : Nat, k ≤ 6 ∧ i = .int .i64 k ∧ s = .string ⟨(T.take k).toArray⟩ ∧ FrS w.heap.size t0 t1 t2 t3 t4 t5 f0 f1 f2 f3 f4 f5 ty ⟨l.toArray⟩ wr ∧ Below w.heap.size w wr) (fun _ i _ => 6 - (intOf i).toNat)
  case atStart => exact ⟨0, by omega, rfl, rfl, HK.out, HB.out⟩
  case round =>
    obtain ⟨k, hk, rfl, rfl, hfs, hbel⟩ := hrel
    have HFS := Lib.hid hfs
    have HB1 := Lib.hid hbel
    by_cases hlt : k < 6
    · have hc := hfs.to k hlt
      have hTk : (([t0, t1, t2, t3, t4, t5] : List UInt8)[k]'hlt) = T[k]'(by rw [HTl.out]; exact hlt) := by simp [HT.out]
      rw [hTk] at hc
      have hsn := take_snoc' T k (by rw [HTl.out]; exact hlt)
      have HSN := Lib.hid hsn
      have hlen : (T.take k).length ≤ 6 := by rw [List.length_take, HTl.out]; omega
      clear hfs hbel hTk hsn
      go_wp2
      go_roundw
      case rel => exact ⟨k + 1, by omega, by go_num, by rw [HSN.out], HFS.out.alloc _, HB1.out.alloc HB1.out.size _⟩
      case measure => simp [intOf]; omega
    · have hkT : T.take k = T := List.take_of_length_le (by rw [HTl.out]; omega)
      clear hfs hbel
      obtain ⟨wo, rfl⟩ : ∃ wo : World, wo = wr := ⟨_, rfl⟩
      go_wp2
      rw [hkT]
      clear hkT
      go_loopw [4, 6] (fun s i wq => ∃ k : Nat, k ≤ 6 ∧ i = .int .i64 k ∧ s = .string ⟨(T ++ F.take k).toArray⟩ ∧ FrS w.heap.size t0 t1 t2 t3 t4 t5 f0 f1 f2 f3 f4 f5 ty ⟨l.toArray⟩ wq ∧ Below w.heap.size w wq) (fun _ i _ => 6 - (intOf i).toNat)
      case atStart => exact ⟨0, by omega, rfl, by simp, HFS.out, HB1.out⟩
      case round =>
        obtain ⟨q, hq, rfl, rfl, hfs, hbel⟩ := hrel
        have HFQ := Lib.hid hfs
        have HB2 := Lib.hid hbel
        have hlen : (T ++ F.take q).length ≤ 12 := by rw [List.length_append, List.length_take, HTl.out, HFl.out]; omega
        by_cases hlt2 : q < 6
        · have hc := hfs.fr q hlt2
          have hFk : (([f0, f1, f2, f3, f4, f5] : List UInt8)[q]'hlt2) = F[q]'(by rw [HFl.out]; exact hlt2) := by simp [HF.out]
          rw [hFk] at hc
          have HSN := Lib.hid (take_snoc F q (by rw [HFl.out]; exact hlt2))
          obtain ⟨S, hS⟩ : ∃ S, S = T ++ F.take q := ⟨_, rfl⟩
          have HS := Lib.hid hS
          rw [← hS] at hlen ⊢
          clear hfs hbel hFk hS
          go_wp2
          go_roundw
          case rel => exact ⟨q + 1, by omega, by go_num, by rw [str_snoc, HSN.out, HS.out, List.append_assoc], HFQ.out.alloc _, HB2.out.alloc HB2.out.size _⟩
          case measure => simp [intOf]; omega
        · have hkF : F.take q = F := List.take_of_length_le (by rw [HFl.out]; omega)
          rw [hkF] at hlen ⊢
          have hlen2 : 12 ≤ (T ++ F).length := by rw [List.length_append, HTl.out, HFl.out]
                                                  exact Nat.le_refl _
          have hct := hfs.ty
          obtain ⟨n, rfl⟩ := Int.eq_ofNat_of_zero_le hta
          have htwo := run_two Try.prog wr 46 9 5 (UInt8.ofNat (n / 256)) (UInt8.ofNat n) ((n : Int) / 256) ((n : Int) % 256) (div256 n (by omega)) (mod256 n) Try.underlying46 Try.underlying5 Try.underlying9
          have hcd : (wr.alloc (.cells #[.int .u8 ((n : Int) / 256), .int .u8 ((n : Int) % 256)] 5)).cell? ⟨w.heap.size, 13, none⟩ = some (.string ⟨l.toArray⟩) := (show FrS _ _ _ _ _ _ _ _ _ _ _ _ _ _ _ _ from hfs.alloc _).data
          have HL2 := Lib.hid (lit_two n)
          clear hfs hbel hkF hone
          obtain ⟨S, hS⟩ : ∃ S, S = T ++ F := ⟨_, rfl⟩
          have HS := Lib.hid hS
          rw [← hS] at hlen hlen2 ⊢
          clear hS
          by_cases hbig : 586 < l.length
          · go_wp2
            go_ret2
            refine ⟨?_, HB2.out.alloc HB2.out.size _⟩
            rw [frBytes, if_neg (by omega), if_pos hbig]
            rfl
          · go_wp2
            go_ret2
            refine ⟨?_, HB2.out.alloc HB2.out.size _⟩
            rw [frBytes, if_neg (by omega), if_neg hbig]
            rw [litN, if_pos (by omega), Int.toNat_natCast, show (2 : Int).toNat = 2 from rfl, HL2.out, ← HT.out, ← HF.out, ← HS.out]
            rw [str_append S [_, _], str_append]
            rfl

theorem refBytes_any (t0 t1 t2 t3 t4 t5 f0 f1 f2 f3 f4 f5 : UInt8) (ty : Int) (l : List UInt8) (w : World) (hl : l.length ≤ 9223372036854775000)
    (hty : -9223372036854775808 ≤ ty ∧ ty ≤ 9223372036854775807) :
    Calls Try.prog 12 #[frV t0 t1 t2 t3 t4 t5 f0 f1 f2 f3 f4 f5 ty ⟨l.toArray⟩] w fun e w' =>
      e = .returned (.tuple #[.string ⟨(frBytes [t0, t1, t2, t3, t4, t5] [f0, f1, f2, f3, f4, f5] ty l).1.toArray⟩, .int .i64 (frBytes [t0, t1, t2, t3, t4, t5] [f0, f1, f2, f3, f4, f5] ty l).2]) ∧ Below w.heap.size w w' := by
  by_cases h1 : ty < 0 ∨ 65535 < ty
  · have e : frBytes [t0, t1, t2, t3, t4, t5] [f0, f1, f2, f3, f4, f5] ty l = ([], 1) := by rw [frBytes, if_pos h1]
    rw [e]
    exact refBytes_arg t0 t1 t2 t3 t4 t5 f0 f1 f2 f3 f4 f5 ty _ w (Nat.le_trans hl (by omega)) hty h1
  · exact refBytes_ok t0 t1 t2 t3 t4 t5 f0 f1 f2 f3 f4 f5 ty l w (by omega) (by omega) hl
end Go.Proofs.Ytlonhelfcacmeaa
