/- What package ipv4's Bytes computes. -/
import Derived.Test.YticchchcobjpdaaPkMayR
import Derived.Deep.CutRange
namespace Go.Proofs.Yticchchcobjpdaa
set_option linter.unusedVariables false
set_option maxRecDepth 100000
open Go.RowKit
attribute [local go_sem ↓] Go.wp_at_zero Go.wp_at_succ
attribute [local go_sem ↓] ld_pk ld_ip

def pkPos (a : Int) (mo : Bool) : Int := a / 8 + (if mo then 8192 else 0)
def pkAhead (id pr tt a : Int) (mo : Bool) (n : Nat) : List UInt8 :=
  [69, 0] ++ (litN (20 + n) 2).reverse ++ (litN id 2).reverse ++ (litN (pkPos a mo) 2).reverse ++ [UInt8.ofNat tt.toNat, UInt8.ofNat pr.toNat]
def pkHead (id : Int) (f t : List UInt8) (pr tt a : Int) (mo : Bool) (n : Nat) : List UInt8 :=
  pkAhead id pr tt a mo n ++ (litN (sumE ⟨(pkAhead id pr tt a mo n ++ (f ++ t)).toArray⟩) 2).reverse ++ (f ++ t)
/-- a packet's bytes, or why it has none -/
def pkBytes (id : Int) (f t : List UInt8) (pr tt a : Int) (mo : Bool) (d : List UInt8) : List UInt8 × Int :=
  if mayB id pr tt a mo d.length = false then ([], 1) else if 566 < d.length then ([], 3) else (pkHead id f t pr tt a mo d.length ++ d, 0)

theorem or_more (x : Nat) (h : x < 8192) : bits .or .i64 (x : Int) 8192 = (x : Int) + 8192 := by
  have h1 : x ||| 8192 = x + 8192 := by
    have := Nat.two_pow_add_eq_or_of_lt (i := 13) (b := x) h 1
    rw [Nat.or_comm]
    simp only [Nat.mul_one] at this
    have e : (2 ^ 13 : Nat) = 8192 := by decide
    rw [e] at this
    omega
  have hx : (BitVec.ofInt 64 (x : Int)).toNat = x := by rw [BitVec.ofInt_natCast, BitVec.toNat_ofNat]; omega
  have hy : (BitVec.ofInt 64 8192).toNat = 8192 := rfl
  show IntKind.i64.wrap ((BitVec.ofInt 64 (x : Int) ||| BitVec.ofInt 64 8192).toNat : Int) = _
  rw [BitVec.toNat_or, hx, hy, h1, IntKind.wrap_i64]
  omega

theorem u8_in (x : Int) (h : 0 ≤ x ∧ x ≤ 255) : IntKind.u8.wrap x = x := by
  simp [IntKind.wrap, IntKind.bits, IntKind.signed]; omega
theorem u8_of (x : Int) (h : 0 ≤ x ∧ x ≤ 255) : x = ((UInt8.ofNat x.toNat).toNat : Int) := by
  rw [ofNat_toNat _ (by omega)]; omega

set_option maxHeartbeats 2000000 in
theorem pk_no (id : Int) (f t : List UInt8) (pr tt a : Int) (mo : Bool) (d : List UInt8) (hL : PkL f t) (hid : -9223372036854775808 ≤ id ∧ id ≤ 9223372036854775807) (hpr : -9223372036854775808 ≤ pr ∧ pr ≤ 9223372036854775807)
    (htt : -9223372036854775808 ≤ tt ∧ tt ≤ 9223372036854775807) (ha : -9223372036854775808 ≤ a ∧ a ≤ 9223372036854775807) (hd : d.length ≤ 9223372036854775807) (w : World) (h : mayB id pr tt a mo d.length = false ∨ (mayB id pr tt a mo d.length = true ∧ 566 < d.length)) :
    Calls Try.prog 13 #[.agg (pkC id f t pr tt a mo d)] w fun e w' => e = .returned (.tuple #[.string ⟨(pkBytes id f t pr tt a mo d).1.toArray⟩, .int .i64 (pkBytes id f t pr tt a mo d).2]) ∧ Below w.heap.size w w' := by
  have hK := Blk.new w 25 (pkC id f t pr tt a mo d) 0 0 (Or.inl (Nat.le_refl _))
  have HK := Lib.hid hK
  have HB := Lib.hid ((Below.refl _ w).alloc (Nat.le_refl _) (.cells (pkC id f t pr tt a mo d) 25))
  have dl := hK.ld_pk hL
  have HMay := Lib.hid (fun w => may_any id f t pr tt a mo d hL hid hpr htt ha hd w)
  have HL := Lib.hid hL
  clear hK hL hid hpr htt ha
  rcases h with h | ⟨h, h2⟩
  · have e : pkBytes id f t pr tt a mo d = ([], 1) := by rw [pkBytes, if_pos h]
    rw [e]
    have HM := Lib.hid h
    clear h e
    go_enter Try.func13, Try.ntmps13
    go_wp2_with fail
    refine (HMay.out _).mono ?_
    rintro e w1 ⟨rfl, hb1⟩
    rw [HM.out]
    have HB1 := Lib.hid (Below.step HB.out hb1)
    clear hb1
    go_wp2
    go_ret2
    exact ⟨rfl, HB1.out⟩
  · have e : pkBytes id f t pr tt a mo d = ([], 3) := by rw [pkBytes, if_neg (by rw [h]; decide), if_pos h2]
    rw [e]
    have HM := Lib.hid h
    clear h e
    go_enter Try.func13, Try.ntmps13
    go_wp2_with fail
    refine (HMay.out _).mono ?_
    rintro e w1 ⟨rfl, hb1⟩
    rw [HM.out]
    have c13 := (pk_at (HK.out.step hb1) HL.out).d
    have HB1 := Lib.hid (Below.step HB.out hb1)
    clear hb1
    go_wp2
    go_ret2
    exact ⟨rfl, HB1.out⟩

/-- what the loads of a packet's block give -/
theorem pk_S {w : World} {b : Nat} {e : TypeId} {id : Int} {f t : List UInt8} {pr tt a : Int} {mo : Bool} {d : List UInt8} (h : Blk w b e (pkC id f t pr tt a mo d)) (hL : PkL f t) :
    w.cell? ⟨b, 0, none⟩ = some (.int .i64 id) ∧ w.cell? ⟨b, 9, none⟩ = some (.int .i64 pr) ∧ w.cell? ⟨b, 10, none⟩ = some (.int .i64 tt) ∧ w.cell? ⟨b, 13, none⟩ = some (.string ⟨d.toArray⟩) :=
  ⟨(pk_at h hL).id, (pk_at h hL).pr, (pk_at h hL).tt, (pk_at h hL).d⟩

/-- the packet's block, and what was there before, are as they were -/
def PkS (w0 : World) (b : Nat) (id : Int) (f t : List UInt8) (pr tt a : Int) (mo : Bool) (d : List UInt8) (w : World) : Prop :=
  Blk w b 25 (pkC id f t pr tt a mo d) ∧ Below w0.heap.size w0 w
/-- what is held over the calls of a region -/
theorem pk_all {w0 w : World} {b : Nat} {id : Int} {f t : List UInt8} {pr tt a : Int} {mo : Bool} {d : List UInt8} (hL : PkL f t) (h : PkS w0 b id f t pr tt a mo d w) :
    PkS w0 b id f t pr tt a mo d w ∧ w.cell? ⟨b, 0, none⟩ = some (.int .i64 id) ∧ w.cell? ⟨b, 9, none⟩ = some (.int .i64 pr) ∧ w.cell? ⟨b, 10, none⟩ = some (.int .i64 tt) ∧ w.cell? ⟨b, 13, none⟩ = some (.string ⟨d.toArray⟩) :=
  ⟨h, pk_S h.1 hL⟩
theorem pk_keep {w0 w w' : World} {b : Nat} {id : Int} {f t : List UInt8} {pr tt a : Int} {mo : Bool} {d : List UInt8} {P : Prop} (hL : PkL f t) (h : PkS w0 b id f t pr tt a mo d w ∧ P) (k : Below w.heap.size w w') :
    PkS w0 b id f t pr tt a mo d w' ∧ w'.cell? ⟨b, 0, none⟩ = some (.int .i64 id) ∧ w'.cell? ⟨b, 9, none⟩ = some (.int .i64 pr) ∧ w'.cell? ⟨b, 10, none⟩ = some (.int .i64 tt) ∧ w'.cell? ⟨b, 13, none⟩ = some (.string ⟨d.toArray⟩) :=
  pk_all hL ⟨h.1.1.step k, Below.step h.1.2 k⟩
theorem pk_alloc {w0 w : World} {o : Obj} {b : Nat} {id : Int} {f t : List UInt8} {pr tt a : Int} {mo : Bool} {d : List UInt8} {P : Prop} (hL : PkL f t) (h : PkS w0 b id f t pr tt a mo d w ∧ P) :
    PkS w0 b id f t pr tt a mo d (w.alloc o) ∧ (w.alloc o).cell? ⟨b, 0, none⟩ = some (.int .i64 id) ∧ (w.alloc o).cell? ⟨b, 9, none⟩ = some (.int .i64 pr) ∧ (w.alloc o).cell? ⟨b, 10, none⟩ = some (.int .i64 tt) ∧ (w.alloc o).cell? ⟨b, 13, none⟩ = some (.string ⟨d.toArray⟩) :=
  pk_all hL ⟨h.1.1.alloc o, h.1.2.alloc h.1.2.size o⟩

theorem pk_allocD {w0 w : World} {o : Obj} {b : Nat} {id : Int} {f t : List UInt8} {pr tt a : Int} {mo : Bool} {d : List UInt8} {P : Prop} (hL : PkL f t) (h : PkS w0 b id f t pr tt a mo d w.drew ∧ P) :
    PkS w0 b id f t pr tt a mo d (w.alloc o).drew ∧ (w.alloc o).drew.cell? ⟨b, 0, none⟩ = some (.int .i64 id) ∧ (w.alloc o).drew.cell? ⟨b, 9, none⟩ = some (.int .i64 pr) ∧ (w.alloc o).drew.cell? ⟨b, 10, none⟩ = some (.int .i64 tt) ∧ (w.alloc o).drew.cell? ⟨b, 13, none⟩ = some (.string ⟨d.toArray⟩) :=
  pk_all hL ⟨h.1.1.alloc o, h.1.2.alloc h.1.2.size o⟩

/-- two bytes in a block of their own -/
def TwoAt (tt pr : Int) (k : Nat) (w : World) : Prop :=
  w.cell? ⟨k, 0, none⟩ = some (.int .u8 tt) ∧ w.cell? ⟨k, 1, none⟩ = some (.int .u8 pr) ∧ k < w.heap.size
theorem two_keep {tt pr : Int} {k : Nat} {w w' : World} (h : TwoAt tt pr k w) (hb : Below w.heap.size w w') : TwoAt tt pr k w' :=
  ⟨(hb.cell (p := ⟨k, 0, none⟩) h.2.2).trans h.1, (hb.cell (p := ⟨k, 1, none⟩) h.2.2).trans h.2.1, Nat.lt_of_lt_of_le h.2.2 hb.size⟩
theorem two_keep2 {tt pr : Int} {k : Nat} {w w' : World} (h : RowKit.Hid (TwoAt tt pr k w)) (hb : Below w.heap.size w w') : TwoAt tt pr k w' := two_keep h hb
theorem two_after {tt pr : Int} {w w' : World} {e : TypeId} {fr : Nat × Nat} (hb : Below (w.alloc (.cells #[.int .u8 tt, .int .u8 pr] e fr)).heap.size (w.alloc (.cells #[.int .u8 tt, .int .u8 pr] e fr)) w') : TwoAt tt pr w.heap.size w' :=
  two_keep ⟨by rw [World.cell?_alloc_mark]; rfl, by rw [World.cell?_alloc_mark]; rfl, by show _ < (w.heap.push _).size; rw [Array.size_push]; exact Nat.lt_succ_self _⟩ hb
theorem two_after2 {tt pr : Int} {w w' : World} {e : TypeId} {fr : Nat × Nat} (hb : Below (w.alloc (.cells #[.int .u8 tt, .int .u8 pr] e fr)).drew.heap.size (w.alloc (.cells #[.int .u8 tt, .int .u8 pr] e fr)).drew w') : TwoAt tt pr w.heap.size w' :=
  two_after (w := w.drew) hb
theorem two_new (tt pr : Int) (w : World) : TwoAt tt pr w.heap.size (w.alloc (.cells #[.int .u8 tt, .int .u8 pr] 5)) :=
  ⟨by rw [World.cell?_alloc_mark]; rfl, by rw [World.cell?_alloc_mark]; rfl, by show _ < (w.heap.push _).size; rw [Array.size_push]; exact Nat.lt_succ_self _⟩
theorem two_conv {tt pr : Int} {k : Nat} {w : World} (ht : 0 ≤ tt ∧ tt ≤ 255) (hp : 0 ≤ pr ∧ pr ≤ 255) (h : TwoAt tt pr k w) :
    (convert 47 9 (.slice (some ⟨k, 0, none⟩) 2 2)).run Try.prog w = .ok (.string ⟨#[UInt8.ofNat tt.toNat, UInt8.ofNat pr.toNat]⟩) w := by
  refine run_convert_bytes_back _ _ _ 5 _ 2 [UInt8.ofNat tt.toNat, UInt8.ofNat pr.toNat] Try.underlying47 Try.underlying5 Try.underlying9 ?_
  intro j hj
  rw [addr_add]
  match j, hj with
  | 0, _ => exact h.1.trans (congrArg (fun x => some (Value.int .u8 x)) (u8_of tt ht))
  | 1, _ => exact h.2.1.trans (congrArg (fun x => some (Value.int .u8 x)) (u8_of pr hp))

theorem pk_drew {w0 w : World} {b : Nat} {id : Int} {f t : List UInt8} {pr tt a : Int} {mo : Bool} {d : List UInt8} (h : PkS w0 b id f t pr tt a mo d w) : PkS w0 b id f t pr tt a mo d w.drew :=
  ⟨Blk.drew h.1, Below.drew h.2⟩
theorem pk_13 {w0 w : World} {b : Nat} {id : Int} {f t : List UInt8} {pr tt a : Int} {mo : Bool} {d : List UInt8} (hL : PkL f t) (h : PkS w0 b id f t pr tt a mo d w) :
    PkS w0 b id f t pr tt a mo d w ∧ w.cell? ⟨b, 13, none⟩ = some (.string ⟨d.toArray⟩) := ⟨h, (pk_at h.1 hL).d⟩
theorem pk_13k {w0 w w' : World} {b : Nat} {id : Int} {f t : List UInt8} {pr tt a : Int} {mo : Bool} {d : List UInt8} {P : Prop} (hL : PkL f t) (h : PkS w0 b id f t pr tt a mo d w ∧ P) (k : Below w.heap.size w w') :
    PkS w0 b id f t pr tt a mo d w' ∧ w'.cell? ⟨b, 13, none⟩ = some (.string ⟨d.toArray⟩) := pk_13 hL ⟨h.1.1.step k, Below.step h.1.2 k⟩
/-- the two addresses' slices, as strings -/
theorem pk_arr {w0 w : World} {b : Nat} {id : Int} {f t : List UInt8} {pr tt a : Int} {mo : Bool} {d : List UInt8} (hL : PkL f t) (h : PkS w0 b id f t pr tt a mo d w) :
    PkS w0 b id f t pr tt a mo d w ∧ (convert 47 9 (.slice (some ⟨b, 1, none⟩) 4 4)).run Try.prog w = .ok (.string ⟨f.toArray⟩) w ∧ (convert 47 9 (.slice (some ⟨b, 5, none⟩) 4 4)).run Try.prog w = .ok (.string ⟨t.toArray⟩) w := by
  have rf := run_back Try.prog w 47 9 5 b 1 4 f Try.underlying47 Try.underlying5 Try.underlying9 (by intro j hj; rw [addr_add]; exact pk_f h.1 hL j hj)
  have rt := run_back Try.prog w 47 9 5 b 5 4 t Try.underlying47 Try.underlying5 Try.underlying9 (by intro j hj; rw [addr_add]; exact pk_t h.1 hL j hj)
  rw [hL.f] at rf
  rw [hL.t] at rt
  exact ⟨h, rf, rt⟩
end Go.Proofs.Yticchchcobjpdaa
