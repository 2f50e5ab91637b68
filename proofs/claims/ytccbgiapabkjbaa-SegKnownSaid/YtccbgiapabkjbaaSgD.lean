/- What package seg's Read computes: the segment that bytes are, or why they are none. Condition: at most 1000000 bytes. -/
import Derived.Test.YtccbgiapabkjbaaSgO
import Derived.Deep.WholeRow
namespace Go.Proofs.Ytccbgiapabkjbaa
set_option linter.unusedVariables false
set_option linter.unusedSimpArgs false
set_option maxRecDepth 100000
open Go.RowKit
attribute [local go_sem ↓] Go.wp_at_zero Go.wp_at_succ
attribute [local go_sem ↓] ld_sg ld_ip

theorem sg_bit (n k : Nat) (h : n ≤ 65535) (hk : k < 16) : bits .and .i64 (n : Int) ((2 ^ k : Nat) : Int) = if n / 2 ^ k % 2 = 1 then ((2 ^ k : Nat) : Int) else 0 := by
  have hp : 2 ^ k < 65536 := Nat.lt_of_lt_of_le (Nat.pow_lt_pow_right (by omega) hk) (by decide)
  generalize hq : 2 ^ k = q at hp ⊢
  have hx : (BitVec.ofInt 64 (n : Int)).toNat = n := by rw [BitVec.ofInt_natCast, BitVec.toNat_ofNat]; omega
  have hy : (BitVec.ofInt 64 (q : Int)).toNat = q := by rw [BitVec.ofInt_natCast, BitVec.toNat_ofNat]; omega
  show IntKind.i64.wrap ((BitVec.ofInt 64 (n : Int) &&& BitVec.ofInt 64 (q : Int)).toNat : Int) = _
  have ha : n &&& q = if n / q % 2 = 1 then q else 0 := by
    subst hq
    apply Nat.eq_of_testBit_eq
    intro i
    rw [Nat.testBit_and, Nat.testBit_two_pow]
    by_cases hi : k = i
    · subst hi
      by_cases hb : n / 2 ^ k % 2 = 1
      · rw [if_pos hb, Nat.testBit_two_pow_self, Nat.testBit_eq_decide_div_mod_eq]
        simp [hb]
      · rw [if_neg hb, Nat.testBit_eq_decide_div_mod_eq]
        simp [hb]
    · by_cases hb : n / 2 ^ k % 2 = 1
      · rw [if_pos hb, Nat.testBit_two_pow]
        simp [hi]
      · rw [if_neg hb]
        simp [hi]
  rw [BitVec.toNat_and, hx, hy, ha]
  by_cases hb : n / q % 2 = 1
  · rw [if_pos hb, if_pos hb]
    exact IntWalk.i64_in _ (by omega)
  · rw [if_neg hb, if_neg hb]
    exact IntWalk.i64_in _ (by omega)
theorem sg_bit1 (n : Nat) (h : n ≤ 65535) : bits .and .i64 (n : Int) 2 = if n / 2 % 2 = 1 then 2 else 0 := sg_bit n 1 h (by omega)
theorem and_31 (b : UInt8) : bits .and .u8 (b.toNat : Int) 31 = ((b.toNat % 32 : Nat) : Int) := by
  have h := b.toNat_lt
  have := bits_mask .u8 8 (by decide) wraps_u8 5 (by omega) (b.toNat : Int) (by omega) (by omega)
  rw [show ((31 : Int)) = 2 ^ 5 - 1 by decide, this]
  omega

/-- the head's size -/
def s12 (l : List UInt8) : Nat := (bat ⟨l.toArray⟩ 12).toNat
def shz (l : List UInt8) : Nat := 4 * (s12 l / 16)
def sgOp (l : List UInt8) : List UInt8 := (l.take (shz l)).drop 20
def sgMss (l : List UInt8) : Option Nat := opts (sgOp l).length (sgOp l) 0
/-- why bytes are no segment, or 0 -/
def srE (f t l : List UInt8) : Int :=
  if l.length < 20 then 7 else if shz l < 20 then 8 else if l.length < shz l then 7 else if 566 < l.length then 3 else if ¬ sgS f t l = 0 then 9 else if sgMss l = none then 8 else 0
def sgFl (l : List UInt8) : Nat := (bat ⟨l.toArray⟩ 13).toNat % 32
def sgMs (l : List UInt8) : Nat := if sgFl l / 2 % 2 = 1 then (sgMss l).getD 0 else 0
def sg0 : Array Value := sgC 0 0 0 0 0 0 0 []
def srV (f t l : List UInt8) : Array Value :=
  if srE f t l = 0 then sgC (num l 0 2 : Nat) (num l 2 2 : Nat) (num l 4 4 : Nat) (num l 8 4 : Nat) (sgFl l : Nat) (num l 14 2 : Nat) (sgMs l : Nat) (l.drop (shz l)) else sg0

theorem num_cl (l : List UInt8) (b a n : Nat) (w : World) (hs : l.length ≤ 1000000) (h1 : 1 ≤ n) (h8 : n ≤ 8) (hk : a + n ≤ l.length) (hc : w.cell? ⟨b, 0, none⟩ = some (.string ⟨l.toArray⟩)) :
    Calls Try.prog 23 #[.int .i64 (a : Int), .int .i64 (n : Int), .pointer (some ⟨b, 0, none⟩)] w fun e w' => e = .returned (.int .u64 (num l a n : Nat)) ∧ Below w.heap.size w w' := by
  have HR := Lib.hid (fun w => readBig_any w ⟨l.toArray⟩ a n (by show l.length ≤ _; omega) (by omega) (by omega))
  rw [rd_num l a n h1 h8 hk] at HR
  generalize num l a n = N at HR ⊢
  go_enter Try.func23, Try.ntmps23
  go_wp2_with fail
  refine (HR.out _).mono ?_
  rintro e w1 ⟨rfl, hb⟩
  have HB := Lib.hid hb
  clear hb
  go_wp2
  go_ret
  exact ⟨rfl, HB.out⟩

noncomputable def St (ty : TypeId) (p v : Value) : Sem Unit := Instr.storeAt ty p v
theorem st_sg (p v : Value) : Instr.storeAt 29 p v = St 29 p v := rfl
attribute [local go_sem ↓] st_sg
abbrev sgRow (fr tp sq ak fl wi ms : Int) (d : List UInt8) : List Value := [.int .i64 fr, .int .i64 tp, .int .u32 sq, .int .u32 ak, .int .i64 fl, .int .i64 wi, .int .i64 ms, .string ⟨d.toArray⟩]
theorem sgRow_one (fr tp sq ak fl wi ms : Int) (d : List UInt8) : (sgRow fr tp sq ak fl wi ms d).all (·.oneCell') = true := rfl
theorem sg0_lit : sg0 = #[.int .i64 0, .int .i64 0, .int .u32 0, .int .u32 0, .int .i64 0, .int .i64 0, .int .i64 0, .string ⟨#[]⟩] := rfl
theorem st_new (w : World) (fr tp sq ak fl wi ms : Int) (d : List UInt8) : (St 29 (.pointer (some ⟨w.heap.size, 0, none⟩)) (.agg (sgRow fr tp sq ak fl wi ms d).toArray)).run Try.prog (w.alloc (.cells sg0 29)) = .ok () (w.alloc (.cells (sgRow fr tp sq ak fl wi ms d).toArray 29)) := by
  have := run_storeVar_new (P := Try.prog) w 29 sg0 (sgRow fr tp sq ak fl wi ms d).toArray (by exact size_sg) rfl (by simpa using sgRow_one fr tp sq ak fl wi ms d)
  unfold St
  simp only [Instr.storeAt, Instr.sureAddr, Sem.run_bind, Sem.run_pure, Result.andThen_ok]
  exact this
theorem st_blk {w : World} {b : Nat} {e : TypeId} {C : Array Value} (h : Blk w b e C) (hC : C.size = 8) (fr tp sq ak fl wi ms : Int) (d : List UInt8) :
    (St 29 (.pointer (some ⟨b, 0, none⟩)) (.agg (sgRow fr tp sq ak fl wi ms d).toArray)).run Try.prog w = .ok () (w.setCells b 0 (sgRow fr tp sq ak fl wi ms d)) := by
  have := run_storeAt_mid (P := Try.prog) w b 0 29 (sgRow fr tp sq ak fl wi ms d).toArray (by have := h.there; rw [hC] at this; exact this) (by exact size_sg) (by simpa using sgRow_one fr tp sq ak fl wi ms d)
  exact this

/-- what stays while a segment is read -/
structure SrS (w0 : World) (l f t : List UInt8) (w : World) : Prop where
  str : Blk w w0.heap.size 9 #[.string ⟨l.toArray⟩]
  f : Blk w (w0.heap.size + 1) 23 (f.map ubv).toArray
  t : Blk w (w0.heap.size + 1 + 1) 23 (t.map ubv).toArray
  res : Blk w (w0.heap.size + 1 + 1 + 1) 29 sg0
  none : Blk w (w0.heap.size + 1 + 1 + 1 + 1) 29 sg0
  bel : Below w0.heap.size w0 w
section
variable {w0 w w' : World} {l f t : List UInt8}
theorem SrS.cell (h : SrS w0 l f t w) : w.cell? ⟨w0.heap.size, 0, Option.none⟩ = some (.string ⟨l.toArray⟩) := by rw [h.str.cell]; rfl
theorem SrS.drew (h : SrS w0 l f t w) : SrS w0 l f t w.drew := ⟨h.str.drew, h.f.drew, h.t.drew, h.res.drew, h.none.drew, h.bel.drew⟩
theorem SrS.step (h : SrS w0 l f t w) (k : Below w.heap.size w w') : SrS w0 l f t w' := ⟨h.str.step k, h.f.step k, h.t.step k, h.res.step k, h.none.step k, Below.step h.bel k⟩
theorem SrS.alloc (h : SrS w0 l f t w) (o : Obj) : SrS w0 l f t (w.alloc o) := ⟨h.str.alloc o, h.f.alloc o, h.t.alloc o, h.res.alloc o, h.none.alloc o, h.bel.alloc h.bel.size o⟩
theorem SrS.allocD (h : SrS w0 l f t w.drew) (o : Obj) : SrS w0 l f t (w.alloc o).drew := ⟨h.str.alloc o, h.f.alloc o, h.t.alloc o, h.res.alloc o, h.none.alloc o, h.bel.alloc h.bel.size o⟩
theorem SrS.setC (h : SrS w0 l f t w) {g : Nat} (hg : w0.heap.size + 1 + 1 + 1 + 1 < g) (o : Nat) (vs : List Value) : SrS w0 l f t (w.setCells g o vs) :=
  ⟨h.str.setCells_other g o vs (by omega), h.f.setCells_other g o vs (by omega), h.t.setCells_other g o vs (by omega), h.res.setCells_other g o vs (by omega), h.none.setCells_other g o vs (by omega), Below.setCells h.bel (by omega) o vs⟩
theorem SrS.set1 (h : SrS w0 l f t w) {g : Nat} (hg : w0.heap.size + 1 + 1 + 1 + 1 < g) (o : Nat) (v : Value) : SrS w0 l f t (w.setCell ⟨g, o, Option.none⟩ v) :=
  ⟨h.str.set_other _ _ (by show _ ≠ g; omega), h.f.set_other _ _ (by show _ ≠ g; omega), h.t.set_other _ _ (by show _ ≠ g; omega), h.res.set_other _ _ (by show _ ≠ g; omega), h.none.set_other _ _ (by show _ ≠ g; omega), Below.setCell (p := ⟨g, o, Option.none⟩) h.bel (by show _ ≤ g; omega) v⟩
theorem SrS.q (h : SrS w0 l f t w) : SrS w0 l f t w ∧ w.cell? ⟨w0.heap.size, 0, Option.none⟩ = some (.string ⟨l.toArray⟩) := ⟨h, h.cell⟩
end
theorem srs_new (w : World) (l f t : List UInt8) : SrS w l f t (((((w.alloc (.cells #[.string ⟨l.toArray⟩] 9)).alloc (.cells (f.map ubv).toArray 23)).alloc (.cells (t.map ubv).toArray 23)).alloc (.cells sg0 29)).alloc (.cells sg0 29)) := by
  have b0 := Blk.new w 9 #[.string ⟨l.toArray⟩] 0 0 (Or.inl (Nat.le_refl _))
  obtain ⟨w1, hw1⟩ : ∃ w1, w1 = w.alloc (.cells #[.string ⟨l.toArray⟩] 9) := ⟨_, rfl⟩
  have e1 : w1.heap.size = w.heap.size + 1 := by rw [hw1, size_alloc]
  have l1 : Below w.heap.size w w1 := by rw [hw1]; exact (Below.refl _ w).alloc (Nat.le_refl _) _
  rw [← hw1] at b0 ⊢
  have b1 := Blk.new w1 23 (f.map ubv).toArray 0 0 (Or.inl (Nat.le_refl _))
  obtain ⟨w2, hw2⟩ : ∃ w2, w2 = w1.alloc (.cells (f.map ubv).toArray 23) := ⟨_, rfl⟩
  have e2 : w2.heap.size = w.heap.size + 1 + 1 := by rw [hw2, size_alloc, e1]
  have l2 : Below w.heap.size w w2 := by rw [hw2]; exact l1.alloc l1.size _
  have b0' := b0.alloc (.cells (f.map ubv).toArray 23)
  rw [← hw2] at b0' b1 ⊢
  have b2 := Blk.new w2 23 (t.map ubv).toArray 0 0 (Or.inl (Nat.le_refl _))
  obtain ⟨w3, hw3⟩ : ∃ w3, w3 = w2.alloc (.cells (t.map ubv).toArray 23) := ⟨_, rfl⟩
  have e3 : w3.heap.size = w.heap.size + 1 + 1 + 1 := by rw [hw3, size_alloc, e2]
  have l3 : Below w.heap.size w w3 := by rw [hw3]; exact l2.alloc l2.size _
  have b0'' := b0'.alloc (.cells (t.map ubv).toArray 23)
  have b1' := b1.alloc (.cells (t.map ubv).toArray 23)
  rw [← hw3] at b0'' b1' b2 ⊢
  have b3 := Blk.new w3 29 sg0 0 0 (Or.inl (Nat.le_refl _))
  obtain ⟨w4, hw4⟩ : ∃ w4, w4 = w3.alloc (.cells sg0 29) := ⟨_, rfl⟩
  have e4 : w4.heap.size = w.heap.size + 1 + 1 + 1 + 1 := by rw [hw4, size_alloc, e3]
  have l4 : Below w.heap.size w w4 := by rw [hw4]; exact l3.alloc l3.size _
  have x0 := b0''.alloc (.cells sg0 29)
  have x1 := b1'.alloc (.cells sg0 29)
  have x2 := b2.alloc (.cells sg0 29)
  rw [← hw4] at x0 x1 x2 b3 ⊢
  have b4 := Blk.new w4 29 sg0 0 0 (Or.inl (Nat.le_refl _))
  rw [e1] at x1
  rw [e2] at x2
  rw [e3] at b3
  rw [e4] at b4
  exact ⟨x0.alloc _, x1.alloc _, x2.alloc _, b3.alloc _, b4, l4.alloc l4.size _⟩

set_option maxHeartbeats 4000000 in
theorem sgRead_any (l f t : List UInt8) (hL : IpL f t) (w : World) (hs : l.length ≤ 1000000) :
    Calls Try.prog 11 #[.string ⟨l.toArray⟩, arrV f, arrV t] w fun e w' => e = .returned (.tuple #[.agg (srV f t l), .int .i64 (srE f t l)]) ∧ Below w.heap.size w w' := by
  obtain ⟨W, hW⟩ : ∃ W, W = ((((w.alloc (.cells #[.string ⟨l.toArray⟩] 9)).alloc (.cells (f.map ubv).toArray 23)).alloc (.cells (t.map ubv).toArray 23)).alloc (.cells sg0 29)).alloc (.cells sg0 29) := ⟨_, rfl⟩
  have hS := srs_new w l f t
  rw [← hW] at hS
  have HS := Lib.hid hS
  have HL := Lib.hid hL
  have hst0 : (St 29 (.pointer (some ⟨w.heap.size + 1 + 1 + 1 + 1, 0, none⟩)) (.agg sg0)).run Try.prog W = .ok () W := by
    have := st_new ((((w.alloc (.cells #[.string ⟨l.toArray⟩] 9)).alloc (.cells (f.map ubv).toArray 23)).alloc (.cells (t.map ubv).toArray 23)).alloc (.cells sg0 29)) 0 0 0 0 0 0 0 []
    rw [size_alloc, size_alloc, size_alloc, size_alloc] at this
    rw [hW]
    exact this
  rw [hW] at hst0
  rw [sg0_lit] at hW hst0
  have c0 := hS.cell
  have dn := hS.none.ld_sg
  clear hS hL
  by_cases h1 : (l.length : Int) < 20
  · go_enter Try.func11, Try.ntmps11
    go_upto_region 2 with fail
    rw [← hW]
    clear hW hst0
    have hE : srE f t l = 7 := by rw [srE, if_pos (by omega)]
    have hV : srV f t l = sg0 := by rw [srV, hE]; rfl
    go_wp2_with (refine wpList_store_blk rfl 29 _ _ rfl (w.heap.size + 1 + 1 + 1) sg0 rfl rfl sg0 29 HS.out.res rfl size_sg rfl ?_)
    exact bodyPost_ret (results_blk Try.results11 _ _ (w.heap.size + 1 + 1 + 1) _ _ _ rfl (HS.out.res.setAll rfl) Try.underlying29 rfl size_sg) rfl ⟨by rw [hV, hE]; rfl, Below.setCells HS.out.bel (by omega) _ _⟩
  have h20 : 20 ≤ (l.length : Int) := by omega
  have H1 := Lib.hid (show ¬ l.length < 20 by omega)
  have l12 : (12 : Int) < (l.length : Int) := by omega
  have l13 : (13 : Int) < (l.length : Int) := by omega
  have g12 := bat_get ⟨l.toArray⟩ 12 (by show 12 < l.length; clear h1; omega)
  have hu12 := (bat ⟨l.toArray⟩ 12).toNat_lt
  obtain ⟨q, hq⟩ : ∃ q, q = s12 l / 16 := ⟨_, rfl⟩
  have hq15 : (q : Int) ≤ 15 := by unfold s12 at hq; omega
  have hsh : ((bat ⟨l.toArray⟩ 12).toNat : Int) / 16 = (q : Int) := by rw [hq]; unfold s12; omega
  have hwq : IntKind.i64.wrap (q : Int) = (q : Int) := IntWalk.i64_in _ (by omega)
  have hw4 : IntKind.i64.wrap ((q : Int) * 4) = (q : Int) * 4 := IntWalk.i64_in _ (by omega)
  have HZ := Lib.hid (show shz l = 4 * q by rw [shz, hq])
  clear hq h1
  generalize bat ⟨l.toArray⟩ 12 = u12 at g12 hu12 hsh
  by_cases h3 : (q : Int) * 4 < 20
  · go_enter Try.func11, Try.ntmps11
    go_upto_region 2 with fail
    rw [← hW]
    clear hW hst0
    have hE : srE f t l = 8 := by rw [srE, if_neg H1.out, if_pos (by rw [HZ.out]; omega)]
    have hV : srV f t l = sg0 := by rw [srV, hE]; rfl
    go_wp2_with (refine wpList_store_blk rfl 29 _ _ rfl (w.heap.size + 1 + 1 + 1) sg0 rfl rfl sg0 29 HS.out.res rfl size_sg rfl ?_)
    exact bodyPost_ret (results_blk Try.results11 _ _ (w.heap.size + 1 + 1 + 1) _ _ _ rfl (HS.out.res.setAll rfl) Try.underlying29 rfl size_sg) rfl ⟨by rw [hV, hE]; rfl, Below.setCells HS.out.bel (by omega) _ _⟩
  have h3' : 20 ≤ (q : Int) * 4 := by omega
  have H2 := Lib.hid (show ¬ shz l < 20 by rw [HZ.out]; omega)
  clear h3
  by_cases h4 : (l.length : Int) < (q : Int) * 4
  · go_enter Try.func11, Try.ntmps11
    go_upto_region 2 with fail
    rw [← hW]
    clear hW hst0
    have hE : srE f t l = 7 := by rw [srE, if_neg H1.out, if_neg H2.out, if_pos (by rw [HZ.out]; omega)]
    have hV : srV f t l = sg0 := by rw [srV, hE]; rfl
    go_wp2_with (refine wpList_store_blk rfl 29 _ _ rfl (w.heap.size + 1 + 1 + 1) sg0 rfl rfl sg0 29 HS.out.res rfl size_sg rfl ?_)
    exact bodyPost_ret (results_blk Try.results11 _ _ (w.heap.size + 1 + 1 + 1) _ _ _ rfl (HS.out.res.setAll rfl) Try.underlying29 rfl size_sg) rfl ⟨by rw [hV, hE]; rfl, Below.setCells HS.out.bel (by omega) _ _⟩
  have h4' : (q : Int) * 4 ≤ (l.length : Int) := by omega
  have H3 := Lib.hid (show ¬ l.length < shz l by rw [HZ.out]; omega)
  clear h4
  by_cases h5 : 566 < (l.length : Int)
  · go_enter Try.func11, Try.ntmps11
    go_upto_region 2 with fail
    rw [← hW]
    clear hW hst0
    have hE : srE f t l = 3 := by rw [srE, if_neg H1.out, if_neg H2.out, if_neg H3.out, if_pos (by omega)]
    have hV : srV f t l = sg0 := by rw [srV, hE]; rfl
    go_wp2_with (refine wpList_store_blk rfl 29 _ _ rfl (w.heap.size + 1 + 1 + 1) sg0 rfl rfl sg0 29 HS.out.res rfl size_sg rfl ?_)
    exact bodyPost_ret (results_blk Try.results11 _ _ (w.heap.size + 1 + 1 + 1) _ _ _ rfl (HS.out.res.setAll rfl) Try.underlying29 rfl size_sg) rfl ⟨by rw [hV, hE]; rfl, Below.setCells HS.out.bel (by omega) _ _⟩
  have h5' : (l.length : Int) ≤ 566 := by omega
  have H4 := Lib.hid (show ¬ 566 < l.length by omega)
  clear h5
  have hsum := fun w => sgSum_any l f t HL.out (by omega) w
  obtain ⟨M, hM⟩ : ∃ M, M = sgS f t l := ⟨_, rfl⟩
  rw [← hM] at hsum
  have HMS := Lib.hid hM
  have HSUM := Lib.hid hsum
  have df := HS.out.f.ld_ip HL.out.f
  have dt := HS.out.t.ld_ip HL.out.t
  clear hM hsum
  go_enter Try.func11, Try.ntmps11
  go_upto_region 2 with fail
  rw [← hW]
  clear hW hst0
  go_wp2_with fail
  refine (HSUM.out _).mono ?_
  rintro e w1 ⟨rfl, hb1⟩
  have HS1 := Lib.hid (HS.out.step hb1)
  clear hb1 c0 dn df dt
  have c0 := HS1.out.cell
  have dn := HS1.out.none.ld_sg
  by_cases h6 : ¬ M = 0
  · have h6' : (M != 0) = true := by simpa using h6
    have hE : srE f t l = 9 := by rw [srE, if_neg H1.out, if_neg H2.out, if_neg H3.out, if_neg H4.out, if_pos (by rw [← HMS.out]; exact h6)]
    have hV : srV f t l = sg0 := by rw [srV, hE]; rfl
    go_wp2_with (refine wpList_store_blk rfl 29 _ _ rfl (w.heap.size + 1 + 1 + 1) sg0 rfl rfl sg0 29 HS1.out.res rfl size_sg rfl ?_)
    exact bodyPost_ret (results_blk Try.results11 _ _ (w.heap.size + 1 + 1 + 1) _ _ _ rfl (HS1.out.res.setAll rfl) Try.underlying29 rfl size_sg) rfl ⟨by rw [hV, hE]; rfl, Below.setCells HS1.out.bel (by omega) _ _⟩
  have h6' : M = 0 := by simpa using h6
  have H5 := Lib.hid (show ¬ ¬ sgS f t l = 0 by rw [← HMS.out]; exact h6)
  rw [h6']
  clear h6 h6' HMS HSUM
  have hex : (⟨l.toArray⟩ : ByteArray).extract 20 (q * 4) = ⟨(sgOp l).toArray⟩ := by
    rw [ext_list', sgOp, HZ.out, List.drop_take, Nat.mul_comm]
  have hmz : ((q : Int) * 4).toNat = q * 4 := by omega
  have hop := fun w => size_any (sgOp l) (by rw [sgOp, List.length_drop, List.length_take]; omega) w
  obtain ⟨r, hr⟩ : ∃ r, r = opts (sgOp l).length (sgOp l) 0 := ⟨_, rfl⟩
  rw [← hr] at hop
  have HR := Lib.hid (show sgMss l = r from hr.symm)
  have hrle : ∀ m, r = some m → m ≤ 65535 := fun m h => opts_le _ _ _ _ (by omega) (hr.symm.trans h)
  have HRL := Lib.hid hrle
  have HOP := Lib.hid hop
  clear hr hop hrle
  generalize sgOp l = P at hex HOP
  go_wp2_with fail
  refine (HOP.out _).mono ?_
  rintro e w2 ⟨rfl, hb2⟩
  have HS2 := Lib.hid (HS1.out.step hb2)
  clear hb2 c0 dn HOP
  have c0 := HS2.out.cell
  have dn := HS2.out.none.ld_sg
  cases r with
  | none =>
    unfold optV
    have hE : srE f t l = 8 := by rw [srE, if_neg H1.out, if_neg H2.out, if_neg H3.out, if_neg H4.out, if_neg H5.out, if_pos HR.out]
    have hV : srV f t l = sg0 := by rw [srV, hE]; rfl
    go_wp2_with (refine wpList_store_blk rfl 29 _ _ rfl (w.heap.size + 1 + 1 + 1) sg0 rfl rfl sg0 29 HS2.out.res rfl size_sg rfl ?_)
    exact bodyPost_ret (results_blk Try.results11 _ _ (w.heap.size + 1 + 1 + 1) _ _ _ rfl (HS2.out.res.setAll rfl) Try.underlying29 rfl size_sg) rfl ⟨by rw [hV, hE]; rfl, Below.setCells HS2.out.bel (by omega) _ _⟩
  | some m =>
    unfold optV
    have hE : srE f t l = 0 := by rw [srE, if_neg H1.out, if_neg H2.out, if_neg H3.out, if_neg H4.out, if_neg H5.out, if_neg (by rw [HR.out]; simp)]
    have hm : m ≤ 65535 := HRL.out m rfl
    have HE := Lib.hid hE
    clear hE
    have HT1 := Lib.hid (fun w' hc => num_cl l w.heap.size 0 2 w' hs (by omega) (by omega) (by omega) hc)
    have HT2 := Lib.hid (fun w' hc => num_cl l w.heap.size 2 2 w' hs (by omega) (by omega) (by omega) hc)
    have HT3 := Lib.hid (fun w' hc => num_cl l w.heap.size 4 4 w' hs (by omega) (by omega) (by omega) hc)
    have HT4 := Lib.hid (fun w' hc => num_cl l w.heap.size 8 4 w' hs (by omega) (by omega) (by omega) hc)
    have HT5 := Lib.hid (fun w' hc => num_cl l w.heap.size 14 2 w' hs (by omega) (by omega) (by omega) hc)
    have b1 := num_two_lt l 0
    have b2 := num_two_lt l 2
    have b3 := num_four_lt l 4
    have b4 := num_four_lt l 8
    have b5 := num_two_lt l 14
    have hVV : srV f t l = sgC (num l 0 2 : Nat) (num l 2 2 : Nat) (num l 4 4 : Nat) (num l 8 4 : Nat) (sgFl l : Nat) (num l 14 2 : Nat) (sgMs l : Nat) (l.drop (shz l)) := by rw [srV, if_pos HE.out]
    have hms : sgMs l = if sgFl l / 2 % 2 = 1 then m else 0 := by rw [sgMs, HR.out]; rfl
    rw [hms] at hVV
    generalize num l 0 2 = n1 at HT1 b1 hVV
    generalize num l 2 2 = n2 at HT2 b2 hVV
    generalize num l 4 4 = n3 at HT3 b3 hVV
    generalize num l 8 4 = n4 at HT4 b4 hVV
    generalize num l 14 2 = n5 at HT5 b5 hVV
    have g13 := bat_get ⟨l.toArray⟩ 13 (by show 13 < l.length; omega)
    have hand : bits .and .u8 (((bat ⟨l.toArray⟩ 13).toNat : Nat) : Int) 31 = ((sgFl l : Nat) : Int) := and_31 _
    have hfl : sgFl l ≤ 31 := by unfold sgFl; omega
    generalize bat ⟨l.toArray⟩ 13 = u13 at g13 hand
    generalize sgFl l = fl at hand hfl hVV
    obtain ⟨d, hd⟩ : ∃ d, d = l.drop (shz l) := ⟨_, rfl⟩
    have hexd : (⟨l.toArray⟩ : ByteArray).extract (q * 4) l.length = ⟨d.toArray⟩ := by rw [ext_tail, hd, HZ.out, Nat.mul_comm]
    rw [← hd] at hVV
    clear hd hms
    have kw1 : IntKind.i64.wrap (n1 : Int) = (n1 : Int) := IntWalk.i64_in _ (by omega)
    have kw2 : IntKind.i64.wrap (n2 : Int) = (n2 : Int) := IntWalk.i64_in _ (by omega)
    have kw3 : IntKind.u32.wrap (n3 : Int) = (n3 : Int) := by simp [IntKind.wrap, IntKind.bits, IntKind.signed]; omega
    have kw4 : IntKind.u32.wrap (n4 : Int) = (n4 : Int) := by simp [IntKind.wrap, IntKind.bits, IntKind.signed]; omega
    have kw5 : IntKind.i64.wrap (n5 : Int) = (n5 : Int) := IntWalk.i64_in _ (by omega)
    have kw6 : IntKind.i64.wrap (fl : Int) = (fl : Int) := IntWalk.i64_in _ (by omega)
    have HV := Lib.hid hVV
    clear hVV HRL HR
    have hq0 : (0 : Int) ≤ (q : Int) * 4 := by omega
    have hsz := HS2.out.none.lt
    have HSZ := Lib.hid hsz
    clear hsz
    go_upto_region 17 with fail
    go_cut [13] from 57 to 79 (fun x wx => ∃ g, x = .pointer (some ⟨g, 0, none⟩) ∧ Blk wx g 29 (sgC n1 n2 n3 n4 fl n5 0 d) ∧ SrS w l f t wx ∧ w.heap.size + 1 + 1 + 1 + 1 < g)
    case first =>
      refine wp_region_noPanic ?_
      refine wp_region_held_drew (S := (fun w' => SrS w l f t w' ∧ w'.cell? ⟨w.heap.size, 0, none⟩ = some (.string ⟨l.toArray⟩))) (by kernel_rfl) (by first | exact HS2.out.drew.q) (fun hHeld => ?_)
      refine wpAnyH_take (i := 0) (oi := _) (v := ?vr1n0_1) rfl (by kernel_rfl) (by kernel_rfl) (by kernel_rfl) (fun _ _ _ h => h) (Or.inl ⟨by kernel_rfl, ?hr1n0_1⟩) hHeld ?_
      case hr1n0_1 => (intro w hSw; (try dsimp only at hSw); go_simp; try (with_reducible rfl))
      try simp only [List.getElem_toArray, List.getElem_cons_zero, List.getElem_cons_succ, Act.put, List.setIfInBounds_toArray, List.set_cons_zero, List.set_cons_succ]
      refine wpAnyH_take (i := 3) (oi := _) (v := ?vr1n3_2) rfl (by kernel_rfl) (by kernel_rfl) (by kernel_rfl) (fun _ _ _ h => h) (Or.inl ⟨by kernel_rfl, ?hr1n3_2⟩) hHeld ?_
      case hr1n3_2 => (intro w hSw; (try dsimp only at hSw); go_simp; try (with_reducible rfl))
      try simp only [List.getElem_toArray, List.getElem_cons_zero, List.getElem_cons_succ, Act.put, List.setIfInBounds_toArray, List.set_cons_zero, List.set_cons_succ]
      refine wpAnyH_take (i := 6) (oi := _) (v := ?vr1n6_3) rfl (by kernel_rfl) (by kernel_rfl) (by kernel_rfl) (fun _ _ _ h => h) (Or.inl ⟨by kernel_rfl, ?hr1n6_3⟩) hHeld ?_
      case hr1n6_3 => (intro w hSw; (try dsimp only at hSw); go_simp; try (with_reducible rfl))
      try simp only [List.getElem_toArray, List.getElem_cons_zero, List.getElem_cons_succ, Act.put, List.setIfInBounds_toArray, List.set_cons_zero, List.set_cons_succ]
      refine wpAnyH_take (i := 9) (oi := _) (v := ?vr1n9_4) rfl (by kernel_rfl) (by kernel_rfl) (by kernel_rfl) (fun _ _ _ h => h) (Or.inl ⟨by kernel_rfl, ?hr1n9_4⟩) hHeld ?_
      case hr1n9_4 => (intro w hSw; (try dsimp only at hSw); go_simp; try (with_reducible rfl))
      try simp only [List.getElem_toArray, List.getElem_cons_zero, List.getElem_cons_succ, Act.put, List.setIfInBounds_toArray, List.set_cons_zero, List.set_cons_succ]
      refine wpAnyH_take (i := 12) (oi := _) (v := ?vr1n12_5) rfl (by kernel_rfl) (by kernel_rfl) (by kernel_rfl) (fun _ _ _ h => h) (Or.inl ⟨by kernel_rfl, ?hr1n12_5⟩) hHeld ?_
      case hr1n12_5 => (intro w hSw; (try dsimp only at hSw); go_simp; try (with_reducible rfl))
      try simp only [List.getElem_toArray, List.getElem_cons_zero, List.getElem_cons_succ, Act.put, List.setIfInBounds_toArray, List.set_cons_zero, List.set_cons_succ]
      refine wpAnyH_take (i := 13) (oi := _) (v := ?vr1n13_6) rfl (by kernel_rfl) (by kernel_rfl) (by kernel_rfl) (fun _ _ _ h => h) (Or.inl ⟨by kernel_rfl, ?hr1n13_6⟩) hHeld ?_
      case hr1n13_6 => (intro w hSw; (try dsimp only at hSw); go_simp; try (with_reducible rfl))
      try simp only [List.getElem_toArray, List.getElem_cons_zero, List.getElem_cons_succ, Act.put, List.setIfInBounds_toArray, List.set_cons_zero, List.set_cons_succ]
      refine wpAnyH_take (i := 14) (oi := _) (v := ?vr1n14_7) rfl (by kernel_rfl) (by kernel_rfl) (by kernel_rfl) (fun _ _ _ h => h) (Or.inl ⟨by kernel_rfl, ?hr1n14_7⟩) hHeld ?_
      case hr1n14_7 => (intro w hSw; (try dsimp only at hSw); go_simp; try (with_reducible rfl))
      try simp only [List.getElem_toArray, List.getElem_cons_zero, List.getElem_cons_succ, Act.put, List.setIfInBounds_toArray, List.set_cons_zero, List.set_cons_succ]
      refine wpAnyH_take (i := 15) (oi := _) (v := ?vr1n15_8) rfl (by kernel_rfl) (by kernel_rfl) (by kernel_rfl) (fun _ _ _ h => h) (Or.inl ⟨by kernel_rfl, ?hr1n15_8⟩) hHeld ?_
      case hr1n15_8 => (intro w hSw; (try dsimp only at hSw); go_simp; try (with_reducible rfl))
      try simp only [List.getElem_toArray, List.getElem_cons_zero, List.getElem_cons_succ, Act.put, List.setIfInBounds_toArray, List.set_cons_zero, List.set_cons_succ]
      refine wpAnyH_take (i := 16) (oi := _) (v := ?vr1n16_9) rfl (by kernel_rfl) (by kernel_rfl) (by kernel_rfl) (fun _ _ _ h => h) (Or.inl ⟨by kernel_rfl, ?hr1n16_9⟩) hHeld ?_
      case hr1n16_9 => (intro w hSw; (try dsimp only at hSw); go_simp; try (with_reducible rfl))
      try simp only [List.getElem_toArray, List.getElem_cons_zero, List.getElem_cons_succ, Act.put, List.setIfInBounds_toArray, List.set_cons_zero, List.set_cons_succ]
      refine wpAnyH_take (i := 19) (oi := _) (v := ?vr1n19_10) rfl (by kernel_rfl) (by kernel_rfl) (by kernel_rfl) (fun _ _ _ h => h) (Or.inl ⟨by kernel_rfl, ?hr1n19_10⟩) hHeld ?_
      case hr1n19_10 => (intro w hSw; (try dsimp only at hSw); go_simp; try (with_reducible rfl))
      try simp only [List.getElem_toArray, List.getElem_cons_zero, List.getElem_cons_succ, Act.put, List.setIfInBounds_toArray, List.set_cons_zero, List.set_cons_succ]
      refine wpAnyH_take (i := 20) (oi := _) (v := ?vr1n20_11) rfl (by kernel_rfl) (by kernel_rfl) (by kernel_rfl) (fun _ _ _ h => h) (Or.inl ⟨by kernel_rfl, ?hr1n20_11⟩) hHeld ?_
      case hr1n20_11 => (intro w hSw; (try dsimp only at hSw); go_simp; try (with_reducible rfl))
      try simp only [List.getElem_toArray, List.getElem_cons_zero, List.getElem_cons_succ, Act.put, List.setIfInBounds_toArray, List.set_cons_zero, List.set_cons_succ]
      refine wpAnyH_take (i := 21) (oi := _) (v := ?vr1n21_12) rfl (by kernel_rfl) (by kernel_rfl) (by kernel_rfl) (fun _ _ _ h => h) (Or.inl ⟨by kernel_rfl, ?hr1n21_12⟩) hHeld ?_
      case hr1n21_12 => (intro w hSw; (try dsimp only at hSw); go_simp; try (with_reducible rfl))
      try simp only [List.getElem_toArray, List.getElem_cons_zero, List.getElem_cons_succ, Act.put, List.setIfInBounds_toArray, List.set_cons_zero, List.set_cons_succ]
      refine wpAnyH_ready (rs := [1, 23]) (by kernel_rfl) (by simp) ?_
      refine AllReadyH.cons (o := _) rfl (fun K hK => ?_) ?_
      · skip
        go_simp
        (go_at_call 23; refine (HT1.out _ (And.right hHeld)).mono ?_; rintro e v2 ⟨rfl, hb0⟩; have HB2 := Lib.hid hb0; clear hb0; have HSX2 : RowKit.Hid (SrS w l f t v2) := (And.left hHeld).step HB2.out)
        refine hK.out _ _ ?_ (fun hHeld1 => ?_)
        · (first | exact ((And.left hHeld).step HB2.out).q)
        clear hHeld hK K
        try simp only [List.getElem_toArray, List.getElem_cons_zero, List.getElem_cons_succ, Act.put, List.setIfInBounds_toArray, List.set_cons_zero, List.set_cons_succ]
        refine wpAnyH_take (i := 2) (oi := _) (v := ?vr1n2_13) rfl (by kernel_rfl) (by kernel_rfl) (by kernel_rfl) (fun _ _ _ h => h) (Or.inl ⟨by kernel_rfl, ?hr1n2_13⟩) hHeld1 ?_
        case hr1n2_13 => (intro w hSw; (try dsimp only at hSw); go_simp; try (with_reducible rfl))
        try simp only [List.getElem_toArray, List.getElem_cons_zero, List.getElem_cons_succ, Act.put, List.setIfInBounds_toArray, List.set_cons_zero, List.set_cons_succ]
        refine wpAnyH_ready (rs := [4, 23]) (by kernel_rfl) (by simp) ?_
        refine AllReadyH.cons (o := _) rfl (fun K hK => ?_) ?_
        · skip
          go_simp
          (go_at_call 23; refine (HT2.out _ (And.right hHeld1)).mono ?_; rintro e v3 ⟨rfl, hb0⟩; have HB3 := Lib.hid hb0; clear hb0; have HSX3 : RowKit.Hid (SrS w l f t v3) := (And.left hHeld1).step HB3.out)
          refine hK.out _ _ ?_ (fun hHeld2 => ?_)
          · (first | exact ((And.left hHeld1).step HB3.out).q)
          clear hHeld1 hK K
          try simp only [List.getElem_toArray, List.getElem_cons_zero, List.getElem_cons_succ, Act.put, List.setIfInBounds_toArray, List.set_cons_zero, List.set_cons_succ]
          refine wpAnyH_take (i := 5) (oi := _) (v := ?vr1n5_14) rfl (by kernel_rfl) (by kernel_rfl) (by kernel_rfl) (fun _ _ _ h => h) (Or.inl ⟨by kernel_rfl, ?hr1n5_14⟩) hHeld2 ?_
          case hr1n5_14 => (intro w hSw; (try dsimp only at hSw); go_simp; try (with_reducible rfl))
          try simp only [List.getElem_toArray, List.getElem_cons_zero, List.getElem_cons_succ, Act.put, List.setIfInBounds_toArray, List.set_cons_zero, List.set_cons_succ]
          refine wpAnyH_ready (rs := [7, 23]) (by kernel_rfl) (by simp) ?_
          refine AllReadyH.cons (o := _) rfl (fun K hK => ?_) ?_
          · skip
            go_simp
            (go_at_call 23; refine (HT3.out _ (And.right hHeld2)).mono ?_; rintro e v4 ⟨rfl, hb0⟩; have HB4 := Lib.hid hb0; clear hb0; have HSX4 : RowKit.Hid (SrS w l f t v4) := (And.left hHeld2).step HB4.out)
            refine hK.out _ _ ?_ (fun hHeld3 => ?_)
            · (first | exact ((And.left hHeld2).step HB4.out).q)
            clear hHeld2 hK K
            try simp only [List.getElem_toArray, List.getElem_cons_zero, List.getElem_cons_succ, Act.put, List.setIfInBounds_toArray, List.set_cons_zero, List.set_cons_succ]
            refine wpAnyH_take (i := 8) (oi := _) (v := ?vr1n8_15) rfl (by kernel_rfl) (by kernel_rfl) (by kernel_rfl) (fun _ _ _ h => h) (Or.inl ⟨by kernel_rfl, ?hr1n8_15⟩) hHeld3 ?_
            case hr1n8_15 => (intro w hSw; (try dsimp only at hSw); go_simp; try (with_reducible rfl))
            try simp only [List.getElem_toArray, List.getElem_cons_zero, List.getElem_cons_succ, Act.put, List.setIfInBounds_toArray, List.set_cons_zero, List.set_cons_succ]
            refine wpAnyH_ready (rs := [10, 23]) (by kernel_rfl) (by simp) ?_
            refine AllReadyH.cons (o := _) rfl (fun K hK => ?_) ?_
            · skip
              go_simp
              (go_at_call 23; refine (HT4.out _ (And.right hHeld3)).mono ?_; rintro e v5 ⟨rfl, hb0⟩; have HB5 := Lib.hid hb0; clear hb0; have HSX5 : RowKit.Hid (SrS w l f t v5) := (And.left hHeld3).step HB5.out)
              refine hK.out _ _ ?_ (fun hHeld4 => ?_)
              · (first | exact ((And.left hHeld3).step HB5.out).q)
              clear hHeld3 hK K
              try simp only [List.getElem_toArray, List.getElem_cons_zero, List.getElem_cons_succ, Act.put, List.setIfInBounds_toArray, List.set_cons_zero, List.set_cons_succ]
              refine wpAnyH_take (i := 11) (oi := _) (v := ?vr1n11_16) rfl (by kernel_rfl) (by kernel_rfl) (by kernel_rfl) (fun _ _ _ h => h) (Or.inl ⟨by kernel_rfl, ?hr1n11_16⟩) hHeld4 ?_
              case hr1n11_16 => (intro w hSw; (try dsimp only at hSw); go_simp; try (with_reducible rfl))
              try simp only [List.getElem_toArray, List.getElem_cons_zero, List.getElem_cons_succ, Act.put, List.setIfInBounds_toArray, List.set_cons_zero, List.set_cons_succ]
              refine wpAnyH_ready (rs := [17, 23]) (by kernel_rfl) (by simp) ?_
              refine AllReadyH.cons (o := _) rfl (fun K hK => ?_) ?_
              · skip
                go_simp
                (go_at_call 23; refine (HT5.out _ (And.right hHeld4)).mono ?_; rintro e v6 ⟨rfl, hb0⟩; have HB6 := Lib.hid hb0; clear hb0; have HSX6 : RowKit.Hid (SrS w l f t v6) := (And.left hHeld4).step HB6.out)
                refine hK.out _ _ ?_ (fun hHeld5 => ?_)
                · (first | exact ((And.left hHeld4).step HB6.out).q)
                clear hHeld4 hK K
                try simp only [List.getElem_toArray, List.getElem_cons_zero, List.getElem_cons_succ, Act.put, List.setIfInBounds_toArray, List.set_cons_zero, List.set_cons_succ]
                refine wpAnyH_take (i := 18) (oi := _) (v := ?vr1n18_17) rfl (by kernel_rfl) (by kernel_rfl) (by kernel_rfl) (fun _ _ _ h => h) (Or.inl ⟨by kernel_rfl, ?hr1n18_17⟩) hHeld5 ?_
                case hr1n18_17 => (intro w hSw; (try dsimp only at hSw); go_simp; try (with_reducible rfl))
                try simp only [List.getElem_toArray, List.getElem_cons_zero, List.getElem_cons_succ, Act.put, List.setIfInBounds_toArray, List.set_cons_zero, List.set_cons_succ]
                refine wpAnyH_take (i := 22) (oi := _) (v := ?vr1n22_18) rfl (by kernel_rfl) (by kernel_rfl) (by kernel_rfl) (fun _ _ _ h => h) (Or.inl ⟨by kernel_rfl, ?hr1n22_18⟩) hHeld5 ?_
                case hr1n22_18 => (intro w hSw; (try dsimp only at hSw); go_simp; try (with_reducible rfl))
                try simp only [List.getElem_toArray, List.getElem_cons_zero, List.getElem_cons_succ, Act.put, List.setIfInBounds_toArray, List.set_cons_zero, List.set_cons_succ]
                refine wpAnyH_ready (rs := [23]) (by kernel_rfl) (by simp) ?_
                refine AllReadyH.cons (o := _) rfl (fun K hK => ?_) AllReadyH.nil
                go_simp
                (have HK7 : RowKit.Hid (Blk (v6.alloc (.cells #[.int .i64 0, .int .i64 0, .int .u32 0, .int .u32 0, .int .i64 0, .int .i64 0, .int .i64 0, .string ⟨#[]⟩] 29)) v6.heap.size 29 sg0) := Blk.new v6 29 sg0 0 0 (Or.inl (Nat.le_refl _)); have HG7 : RowKit.Hid (w.heap.size + 1 + 1 + 1 + 1 < v6.heap.size) := (And.left hHeld5).none.lt)
                refine hK.out _ _ ?_ (fun hHeld6 => ?_)
                · (first | exact ((And.left hHeld5).alloc _).q)
                clear hHeld5 hK K
                try simp only [List.getElem_toArray, List.getElem_cons_zero, List.getElem_cons_succ, Act.put, List.setIfInBounds_toArray, List.set_cons_zero, List.set_cons_succ]
                refine wpAnyH_ready (rs := [24]) (by kernel_rfl) (by simp) ?_
                refine AllReadyH.cons (o := _) rfl (fun K hK => ?_) AllReadyH.nil
                (have hst := st_new v6 (n1 : Int) (n2 : Int) (n3 : Int) (n4 : Int) (fl : Int) (n5 : Int) 0 d; rw [sg0_lit] at hst)
                go_simp
                refine hK.out _ _ ?_ (fun hHeld7 => ?_)
                · (first | exact (HSX6.out.alloc _).q)
                clear hHeld6 hK K
                try simp only [List.getElem_toArray, List.getElem_cons_zero, List.getElem_cons_succ, Act.put, List.setIfInBounds_toArray, List.set_cons_zero, List.set_cons_succ]
                refine wpAnyH_done (by kernel_rfl) ?_ _
                refine NoPanic.normal ?_
                go_wp2_with fail
                go_meet
                exact ⟨v6.heap.size, rfl, Blk.new v6 29 _ 0 0 (Or.inl (Nat.le_refl _)), (And.left hHeld7), HG7.out⟩
              refine AllReadyH.cons (o := _) rfl (fun K hK => ?_) AllReadyH.nil
              go_simp
              (have HK6 : RowKit.Hid (Blk (v5.alloc (.cells #[.int .i64 0, .int .i64 0, .int .u32 0, .int .u32 0, .int .i64 0, .int .i64 0, .int .i64 0, .string ⟨#[]⟩] 29)) v5.heap.size 29 sg0) := Blk.new v5 29 sg0 0 0 (Or.inl (Nat.le_refl _)); have HG6 : RowKit.Hid (w.heap.size + 1 + 1 + 1 + 1 < v5.heap.size) := (And.left hHeld4).none.lt)
              refine hK.out _ _ ?_ (fun hHeld8 => ?_)
              · (first | exact ((And.left hHeld4).alloc _).q)
              clear hHeld4 hK K
              try simp only [List.getElem_toArray, List.getElem_cons_zero, List.getElem_cons_succ, Act.put, List.setIfInBounds_toArray, List.set_cons_zero, List.set_cons_succ]
              refine wpAnyH_ready (rs := [17]) (by kernel_rfl) (by simp) ?_
              refine AllReadyH.cons (o := _) rfl (fun K hK => ?_) AllReadyH.nil
              go_simp
              (go_at_call 23; refine (HT5.out _ (And.right hHeld8)).mono ?_; rintro e v7 ⟨rfl, hb0⟩; have HB7 := Lib.hid hb0; clear hb0; have HK7 := Lib.hid (HK6.out.step HB7.out); have HSX7 : RowKit.Hid (SrS w l f t v7) := (And.left hHeld8).step HB7.out)
              refine hK.out _ _ ?_ (fun hHeld9 => ?_)
              · (first | exact ((And.left hHeld8).step HB7.out).q)
              clear hHeld8 hK K
              try simp only [List.getElem_toArray, List.getElem_cons_zero, List.getElem_cons_succ, Act.put, List.setIfInBounds_toArray, List.set_cons_zero, List.set_cons_succ]
              refine wpAnyH_take (i := 18) (oi := _) (v := ?vr1n18_19) rfl (by kernel_rfl) (by kernel_rfl) (by kernel_rfl) (fun _ _ _ h => h) (Or.inl ⟨by kernel_rfl, ?hr1n18_19⟩) hHeld9 ?_
              case hr1n18_19 => (intro w hSw; (try dsimp only at hSw); go_simp; try (with_reducible rfl))
              try simp only [List.getElem_toArray, List.getElem_cons_zero, List.getElem_cons_succ, Act.put, List.setIfInBounds_toArray, List.set_cons_zero, List.set_cons_succ]
              refine wpAnyH_take (i := 22) (oi := _) (v := ?vr1n22_20) rfl (by kernel_rfl) (by kernel_rfl) (by kernel_rfl) (fun _ _ _ h => h) (Or.inl ⟨by kernel_rfl, ?hr1n22_20⟩) hHeld9 ?_
              case hr1n22_20 => (intro w hSw; (try dsimp only at hSw); go_simp; try (with_reducible rfl))
              try simp only [List.getElem_toArray, List.getElem_cons_zero, List.getElem_cons_succ, Act.put, List.setIfInBounds_toArray, List.set_cons_zero, List.set_cons_succ]
              refine wpAnyH_ready (rs := [24]) (by kernel_rfl) (by simp) ?_
              refine AllReadyH.cons (o := _) rfl (fun K hK => ?_) AllReadyH.nil
              (have hst := st_blk HK7.out rfl (n1 : Int) (n2 : Int) (n3 : Int) (n4 : Int) (fl : Int) (n5 : Int) 0 d)
              go_simp
              refine hK.out _ _ ?_ (fun hHeld10 => ?_)
              · (first | exact ((And.left hHeld9).setC HG6.out _ _).q)
              clear hHeld9 hK K
              try simp only [List.getElem_toArray, List.getElem_cons_zero, List.getElem_cons_succ, Act.put, List.setIfInBounds_toArray, List.set_cons_zero, List.set_cons_succ]
              refine wpAnyH_done (by kernel_rfl) ?_ _
              refine NoPanic.normal ?_
              go_wp2_with fail
              go_meet
              exact ⟨v5.heap.size, rfl, HK7.out.setAll (cs := (sgRow (n1 : Int) (n2 : Int) (n3 : Int) (n4 : Int) (fl : Int) (n5 : Int) 0 d).toArray) rfl, (And.left hHeld10), HG6.out⟩
            refine AllReadyH.cons (o := _) rfl (fun K hK => ?_) AllReadyH.nil
            go_simp
            (have HK5 : RowKit.Hid (Blk (v4.alloc (.cells #[.int .i64 0, .int .i64 0, .int .u32 0, .int .u32 0, .int .i64 0, .int .i64 0, .int .i64 0, .string ⟨#[]⟩] 29)) v4.heap.size 29 sg0) := Blk.new v4 29 sg0 0 0 (Or.inl (Nat.le_refl _)); have HG5 : RowKit.Hid (w.heap.size + 1 + 1 + 1 + 1 < v4.heap.size) := (And.left hHeld3).none.lt)
            refine hK.out _ _ ?_ (fun hHeld11 => ?_)
            · (first | exact ((And.left hHeld3).alloc _).q)
            clear hHeld3 hK K
            try simp only [List.getElem_toArray, List.getElem_cons_zero, List.getElem_cons_succ, Act.put, List.setIfInBounds_toArray, List.set_cons_zero, List.set_cons_succ]
            refine wpAnyH_ready (rs := [10]) (by kernel_rfl) (by simp) ?_
            refine AllReadyH.cons (o := _) rfl (fun K hK => ?_) AllReadyH.nil
            go_simp
            (go_at_call 23; refine (HT4.out _ (And.right hHeld11)).mono ?_; rintro e v6 ⟨rfl, hb0⟩; have HB6 := Lib.hid hb0; clear hb0; have HK6 := Lib.hid (HK5.out.step HB6.out); have HSX6 : RowKit.Hid (SrS w l f t v6) := (And.left hHeld11).step HB6.out)
            refine hK.out _ _ ?_ (fun hHeld12 => ?_)
            · (first | exact ((And.left hHeld11).step HB6.out).q)
            clear hHeld11 hK K
            try simp only [List.getElem_toArray, List.getElem_cons_zero, List.getElem_cons_succ, Act.put, List.setIfInBounds_toArray, List.set_cons_zero, List.set_cons_succ]
            refine wpAnyH_take (i := 11) (oi := _) (v := ?vr1n11_21) rfl (by kernel_rfl) (by kernel_rfl) (by kernel_rfl) (fun _ _ _ h => h) (Or.inl ⟨by kernel_rfl, ?hr1n11_21⟩) hHeld12 ?_
            case hr1n11_21 => (intro w hSw; (try dsimp only at hSw); go_simp; try (with_reducible rfl))
            try simp only [List.getElem_toArray, List.getElem_cons_zero, List.getElem_cons_succ, Act.put, List.setIfInBounds_toArray, List.set_cons_zero, List.set_cons_succ]
            refine wpAnyH_ready (rs := [17]) (by kernel_rfl) (by simp) ?_
            refine AllReadyH.cons (o := _) rfl (fun K hK => ?_) AllReadyH.nil
            go_simp
            (go_at_call 23; refine (HT5.out _ (And.right hHeld12)).mono ?_; rintro e v7 ⟨rfl, hb0⟩; have HB7 := Lib.hid hb0; clear hb0; have HK7 := Lib.hid (HK6.out.step HB7.out); have HSX7 : RowKit.Hid (SrS w l f t v7) := (And.left hHeld12).step HB7.out)
            refine hK.out _ _ ?_ (fun hHeld13 => ?_)
            · (first | exact ((And.left hHeld12).step HB7.out).q)
            clear hHeld12 hK K
            try simp only [List.getElem_toArray, List.getElem_cons_zero, List.getElem_cons_succ, Act.put, List.setIfInBounds_toArray, List.set_cons_zero, List.set_cons_succ]
            refine wpAnyH_take (i := 18) (oi := _) (v := ?vr1n18_22) rfl (by kernel_rfl) (by kernel_rfl) (by kernel_rfl) (fun _ _ _ h => h) (Or.inl ⟨by kernel_rfl, ?hr1n18_22⟩) hHeld13 ?_
            case hr1n18_22 => (intro w hSw; (try dsimp only at hSw); go_simp; try (with_reducible rfl))
            try simp only [List.getElem_toArray, List.getElem_cons_zero, List.getElem_cons_succ, Act.put, List.setIfInBounds_toArray, List.set_cons_zero, List.set_cons_succ]
            refine wpAnyH_take (i := 22) (oi := _) (v := ?vr1n22_23) rfl (by kernel_rfl) (by kernel_rfl) (by kernel_rfl) (fun _ _ _ h => h) (Or.inl ⟨by kernel_rfl, ?hr1n22_23⟩) hHeld13 ?_
            case hr1n22_23 => (intro w hSw; (try dsimp only at hSw); go_simp; try (with_reducible rfl))
            try simp only [List.getElem_toArray, List.getElem_cons_zero, List.getElem_cons_succ, Act.put, List.setIfInBounds_toArray, List.set_cons_zero, List.set_cons_succ]
            refine wpAnyH_ready (rs := [24]) (by kernel_rfl) (by simp) ?_
            refine AllReadyH.cons (o := _) rfl (fun K hK => ?_) AllReadyH.nil
            (have hst := st_blk HK7.out rfl (n1 : Int) (n2 : Int) (n3 : Int) (n4 : Int) (fl : Int) (n5 : Int) 0 d)
            go_simp
            refine hK.out _ _ ?_ (fun hHeld14 => ?_)
            · (first | exact ((And.left hHeld13).setC HG5.out _ _).q)
            clear hHeld13 hK K
            try simp only [List.getElem_toArray, List.getElem_cons_zero, List.getElem_cons_succ, Act.put, List.setIfInBounds_toArray, List.set_cons_zero, List.set_cons_succ]
            refine wpAnyH_done (by kernel_rfl) ?_ _
            refine NoPanic.normal ?_
            go_wp2_with fail
            go_meet
            exact ⟨v4.heap.size, rfl, HK7.out.setAll (cs := (sgRow (n1 : Int) (n2 : Int) (n3 : Int) (n4 : Int) (fl : Int) (n5 : Int) 0 d).toArray) rfl, (And.left hHeld14), HG5.out⟩
          refine AllReadyH.cons (o := _) rfl (fun K hK => ?_) AllReadyH.nil
          go_simp
          (have HK4 : RowKit.Hid (Blk (v3.alloc (.cells #[.int .i64 0, .int .i64 0, .int .u32 0, .int .u32 0, .int .i64 0, .int .i64 0, .int .i64 0, .string ⟨#[]⟩] 29)) v3.heap.size 29 sg0) := Blk.new v3 29 sg0 0 0 (Or.inl (Nat.le_refl _)); have HG4 : RowKit.Hid (w.heap.size + 1 + 1 + 1 + 1 < v3.heap.size) := (And.left hHeld2).none.lt)
          refine hK.out _ _ ?_ (fun hHeld15 => ?_)
          · (first | exact ((And.left hHeld2).alloc _).q)
          clear hHeld2 hK K
          try simp only [List.getElem_toArray, List.getElem_cons_zero, List.getElem_cons_succ, Act.put, List.setIfInBounds_toArray, List.set_cons_zero, List.set_cons_succ]
          refine wpAnyH_ready (rs := [7]) (by kernel_rfl) (by simp) ?_
          refine AllReadyH.cons (o := _) rfl (fun K hK => ?_) AllReadyH.nil
          go_simp
          (go_at_call 23; refine (HT3.out _ (And.right hHeld15)).mono ?_; rintro e v5 ⟨rfl, hb0⟩; have HB5 := Lib.hid hb0; clear hb0; have HK5 := Lib.hid (HK4.out.step HB5.out); have HSX5 : RowKit.Hid (SrS w l f t v5) := (And.left hHeld15).step HB5.out)
          refine hK.out _ _ ?_ (fun hHeld16 => ?_)
          · (first | exact ((And.left hHeld15).step HB5.out).q)
          clear hHeld15 hK K
          try simp only [List.getElem_toArray, List.getElem_cons_zero, List.getElem_cons_succ, Act.put, List.setIfInBounds_toArray, List.set_cons_zero, List.set_cons_succ]
          refine wpAnyH_take (i := 8) (oi := _) (v := ?vr1n8_24) rfl (by kernel_rfl) (by kernel_rfl) (by kernel_rfl) (fun _ _ _ h => h) (Or.inl ⟨by kernel_rfl, ?hr1n8_24⟩) hHeld16 ?_
          case hr1n8_24 => (intro w hSw; (try dsimp only at hSw); go_simp; try (with_reducible rfl))
          try simp only [List.getElem_toArray, List.getElem_cons_zero, List.getElem_cons_succ, Act.put, List.setIfInBounds_toArray, List.set_cons_zero, List.set_cons_succ]
          refine wpAnyH_ready (rs := [10]) (by kernel_rfl) (by simp) ?_
          refine AllReadyH.cons (o := _) rfl (fun K hK => ?_) AllReadyH.nil
          go_simp
          (go_at_call 23; refine (HT4.out _ (And.right hHeld16)).mono ?_; rintro e v6 ⟨rfl, hb0⟩; have HB6 := Lib.hid hb0; clear hb0; have HK6 := Lib.hid (HK5.out.step HB6.out); have HSX6 : RowKit.Hid (SrS w l f t v6) := (And.left hHeld16).step HB6.out)
          refine hK.out _ _ ?_ (fun hHeld17 => ?_)
          · (first | exact ((And.left hHeld16).step HB6.out).q)
          clear hHeld16 hK K
          try simp only [List.getElem_toArray, List.getElem_cons_zero, List.getElem_cons_succ, Act.put, List.setIfInBounds_toArray, List.set_cons_zero, List.set_cons_succ]
          refine wpAnyH_take (i := 11) (oi := _) (v := ?vr1n11_25) rfl (by kernel_rfl) (by kernel_rfl) (by kernel_rfl) (fun _ _ _ h => h) (Or.inl ⟨by kernel_rfl, ?hr1n11_25⟩) hHeld17 ?_
          case hr1n11_25 => (intro w hSw; (try dsimp only at hSw); go_simp; try (with_reducible rfl))
          try simp only [List.getElem_toArray, List.getElem_cons_zero, List.getElem_cons_succ, Act.put, List.setIfInBounds_toArray, List.set_cons_zero, List.set_cons_succ]
          refine wpAnyH_ready (rs := [17]) (by kernel_rfl) (by simp) ?_
          refine AllReadyH.cons (o := _) rfl (fun K hK => ?_) AllReadyH.nil
          go_simp
          (go_at_call 23; refine (HT5.out _ (And.right hHeld17)).mono ?_; rintro e v7 ⟨rfl, hb0⟩; have HB7 := Lib.hid hb0; clear hb0; have HK7 := Lib.hid (HK6.out.step HB7.out); have HSX7 : RowKit.Hid (SrS w l f t v7) := (And.left hHeld17).step HB7.out)
          refine hK.out _ _ ?_ (fun hHeld18 => ?_)
          · (first | exact ((And.left hHeld17).step HB7.out).q)
          clear hHeld17 hK K
          try simp only [List.getElem_toArray, List.getElem_cons_zero, List.getElem_cons_succ, Act.put, List.setIfInBounds_toArray, List.set_cons_zero, List.set_cons_succ]
          refine wpAnyH_take (i := 18) (oi := _) (v := ?vr1n18_26) rfl (by kernel_rfl) (by kernel_rfl) (by kernel_rfl) (fun _ _ _ h => h) (Or.inl ⟨by kernel_rfl, ?hr1n18_26⟩) hHeld18 ?_
          case hr1n18_26 => (intro w hSw; (try dsimp only at hSw); go_simp; try (with_reducible rfl))
          try simp only [List.getElem_toArray, List.getElem_cons_zero, List.getElem_cons_succ, Act.put, List.setIfInBounds_toArray, List.set_cons_zero, List.set_cons_succ]
          refine wpAnyH_take (i := 22) (oi := _) (v := ?vr1n22_27) rfl (by kernel_rfl) (by kernel_rfl) (by kernel_rfl) (fun _ _ _ h => h) (Or.inl ⟨by kernel_rfl, ?hr1n22_27⟩) hHeld18 ?_
          case hr1n22_27 => (intro w hSw; (try dsimp only at hSw); go_simp; try (with_reducible rfl))
          try simp only [List.getElem_toArray, List.getElem_cons_zero, List.getElem_cons_succ, Act.put, List.setIfInBounds_toArray, List.set_cons_zero, List.set_cons_succ]
          refine wpAnyH_ready (rs := [24]) (by kernel_rfl) (by simp) ?_
          refine AllReadyH.cons (o := _) rfl (fun K hK => ?_) AllReadyH.nil
          (have hst := st_blk HK7.out rfl (n1 : Int) (n2 : Int) (n3 : Int) (n4 : Int) (fl : Int) (n5 : Int) 0 d)
          go_simp
          refine hK.out _ _ ?_ (fun hHeld19 => ?_)
          · (first | exact ((And.left hHeld18).setC HG4.out _ _).q)
          clear hHeld18 hK K
          try simp only [List.getElem_toArray, List.getElem_cons_zero, List.getElem_cons_succ, Act.put, List.setIfInBounds_toArray, List.set_cons_zero, List.set_cons_succ]
          refine wpAnyH_done (by kernel_rfl) ?_ _
          refine NoPanic.normal ?_
          go_wp2_with fail
          go_meet
          exact ⟨v3.heap.size, rfl, HK7.out.setAll (cs := (sgRow (n1 : Int) (n2 : Int) (n3 : Int) (n4 : Int) (fl : Int) (n5 : Int) 0 d).toArray) rfl, (And.left hHeld19), HG4.out⟩
        refine AllReadyH.cons (o := _) rfl (fun K hK => ?_) AllReadyH.nil
        go_simp
        (have HK3 : RowKit.Hid (Blk (v2.alloc (.cells #[.int .i64 0, .int .i64 0, .int .u32 0, .int .u32 0, .int .i64 0, .int .i64 0, .int .i64 0, .string ⟨#[]⟩] 29)) v2.heap.size 29 sg0) := Blk.new v2 29 sg0 0 0 (Or.inl (Nat.le_refl _)); have HG3 : RowKit.Hid (w.heap.size + 1 + 1 + 1 + 1 < v2.heap.size) := (And.left hHeld1).none.lt)
        refine hK.out _ _ ?_ (fun hHeld20 => ?_)
        · (first | exact ((And.left hHeld1).alloc _).q)
        clear hHeld1 hK K
        try simp only [List.getElem_toArray, List.getElem_cons_zero, List.getElem_cons_succ, Act.put, List.setIfInBounds_toArray, List.set_cons_zero, List.set_cons_succ]
        refine wpAnyH_ready (rs := [4]) (by kernel_rfl) (by simp) ?_
        refine AllReadyH.cons (o := _) rfl (fun K hK => ?_) AllReadyH.nil
        go_simp
        (go_at_call 23; refine (HT2.out _ (And.right hHeld20)).mono ?_; rintro e v4 ⟨rfl, hb0⟩; have HB4 := Lib.hid hb0; clear hb0; have HK4 := Lib.hid (HK3.out.step HB4.out); have HSX4 : RowKit.Hid (SrS w l f t v4) := (And.left hHeld20).step HB4.out)
        refine hK.out _ _ ?_ (fun hHeld21 => ?_)
        · (first | exact ((And.left hHeld20).step HB4.out).q)
        clear hHeld20 hK K
        try simp only [List.getElem_toArray, List.getElem_cons_zero, List.getElem_cons_succ, Act.put, List.setIfInBounds_toArray, List.set_cons_zero, List.set_cons_succ]
        refine wpAnyH_take (i := 5) (oi := _) (v := ?vr1n5_28) rfl (by kernel_rfl) (by kernel_rfl) (by kernel_rfl) (fun _ _ _ h => h) (Or.inl ⟨by kernel_rfl, ?hr1n5_28⟩) hHeld21 ?_
        case hr1n5_28 => (intro w hSw; (try dsimp only at hSw); go_simp; try (with_reducible rfl))
        try simp only [List.getElem_toArray, List.getElem_cons_zero, List.getElem_cons_succ, Act.put, List.setIfInBounds_toArray, List.set_cons_zero, List.set_cons_succ]
        refine wpAnyH_ready (rs := [7]) (by kernel_rfl) (by simp) ?_
        refine AllReadyH.cons (o := _) rfl (fun K hK => ?_) AllReadyH.nil
        go_simp
        (go_at_call 23; refine (HT3.out _ (And.right hHeld21)).mono ?_; rintro e v5 ⟨rfl, hb0⟩; have HB5 := Lib.hid hb0; clear hb0; have HK5 := Lib.hid (HK4.out.step HB5.out); have HSX5 : RowKit.Hid (SrS w l f t v5) := (And.left hHeld21).step HB5.out)
        refine hK.out _ _ ?_ (fun hHeld22 => ?_)
        · (first | exact ((And.left hHeld21).step HB5.out).q)
        clear hHeld21 hK K
        try simp only [List.getElem_toArray, List.getElem_cons_zero, List.getElem_cons_succ, Act.put, List.setIfInBounds_toArray, List.set_cons_zero, List.set_cons_succ]
        refine wpAnyH_take (i := 8) (oi := _) (v := ?vr1n8_29) rfl (by kernel_rfl) (by kernel_rfl) (by kernel_rfl) (fun _ _ _ h => h) (Or.inl ⟨by kernel_rfl, ?hr1n8_29⟩) hHeld22 ?_
        case hr1n8_29 => (intro w hSw; (try dsimp only at hSw); go_simp; try (with_reducible rfl))
        try simp only [List.getElem_toArray, List.getElem_cons_zero, List.getElem_cons_succ, Act.put, List.setIfInBounds_toArray, List.set_cons_zero, List.set_cons_succ]
        refine wpAnyH_ready (rs := [10]) (by kernel_rfl) (by simp) ?_
        refine AllReadyH.cons (o := _) rfl (fun K hK => ?_) AllReadyH.nil
        go_simp
        (go_at_call 23; refine (HT4.out _ (And.right hHeld22)).mono ?_; rintro e v6 ⟨rfl, hb0⟩; have HB6 := Lib.hid hb0; clear hb0; have HK6 := Lib.hid (HK5.out.step HB6.out); have HSX6 : RowKit.Hid (SrS w l f t v6) := (And.left hHeld22).step HB6.out)
        refine hK.out _ _ ?_ (fun hHeld23 => ?_)
        · (first | exact ((And.left hHeld22).step HB6.out).q)
        clear hHeld22 hK K
        try simp only [List.getElem_toArray, List.getElem_cons_zero, List.getElem_cons_succ, Act.put, List.setIfInBounds_toArray, List.set_cons_zero, List.set_cons_succ]
        refine wpAnyH_take (i := 11) (oi := _) (v := ?vr1n11_30) rfl (by kernel_rfl) (by kernel_rfl) (by kernel_rfl) (fun _ _ _ h => h) (Or.inl ⟨by kernel_rfl, ?hr1n11_30⟩) hHeld23 ?_
        case hr1n11_30 => (intro w hSw; (try dsimp only at hSw); go_simp; try (with_reducible rfl))
        try simp only [List.getElem_toArray, List.getElem_cons_zero, List.getElem_cons_succ, Act.put, List.setIfInBounds_toArray, List.set_cons_zero, List.set_cons_succ]
        refine wpAnyH_ready (rs := [17]) (by kernel_rfl) (by simp) ?_
        refine AllReadyH.cons (o := _) rfl (fun K hK => ?_) AllReadyH.nil
        go_simp
        (go_at_call 23; refine (HT5.out _ (And.right hHeld23)).mono ?_; rintro e v7 ⟨rfl, hb0⟩; have HB7 := Lib.hid hb0; clear hb0; have HK7 := Lib.hid (HK6.out.step HB7.out); have HSX7 : RowKit.Hid (SrS w l f t v7) := (And.left hHeld23).step HB7.out)
        refine hK.out _ _ ?_ (fun hHeld24 => ?_)
        · (first | exact ((And.left hHeld23).step HB7.out).q)
        clear hHeld23 hK K
        try simp only [List.getElem_toArray, List.getElem_cons_zero, List.getElem_cons_succ, Act.put, List.setIfInBounds_toArray, List.set_cons_zero, List.set_cons_succ]
        refine wpAnyH_take (i := 18) (oi := _) (v := ?vr1n18_31) rfl (by kernel_rfl) (by kernel_rfl) (by kernel_rfl) (fun _ _ _ h => h) (Or.inl ⟨by kernel_rfl, ?hr1n18_31⟩) hHeld24 ?_
        case hr1n18_31 => (intro w hSw; (try dsimp only at hSw); go_simp; try (with_reducible rfl))
        try simp only [List.getElem_toArray, List.getElem_cons_zero, List.getElem_cons_succ, Act.put, List.setIfInBounds_toArray, List.set_cons_zero, List.set_cons_succ]
        refine wpAnyH_take (i := 22) (oi := _) (v := ?vr1n22_32) rfl (by kernel_rfl) (by kernel_rfl) (by kernel_rfl) (fun _ _ _ h => h) (Or.inl ⟨by kernel_rfl, ?hr1n22_32⟩) hHeld24 ?_
        case hr1n22_32 => (intro w hSw; (try dsimp only at hSw); go_simp; try (with_reducible rfl))
        try simp only [List.getElem_toArray, List.getElem_cons_zero, List.getElem_cons_succ, Act.put, List.setIfInBounds_toArray, List.set_cons_zero, List.set_cons_succ]
        refine wpAnyH_ready (rs := [24]) (by kernel_rfl) (by simp) ?_
        refine AllReadyH.cons (o := _) rfl (fun K hK => ?_) AllReadyH.nil
        (have hst := st_blk HK7.out rfl (n1 : Int) (n2 : Int) (n3 : Int) (n4 : Int) (fl : Int) (n5 : Int) 0 d)
        go_simp
        refine hK.out _ _ ?_ (fun hHeld25 => ?_)
        · (first | exact ((And.left hHeld24).setC HG3.out _ _).q)
        clear hHeld24 hK K
        try simp only [List.getElem_toArray, List.getElem_cons_zero, List.getElem_cons_succ, Act.put, List.setIfInBounds_toArray, List.set_cons_zero, List.set_cons_succ]
        refine wpAnyH_done (by kernel_rfl) ?_ _
        refine NoPanic.normal ?_
        go_wp2_with fail
        go_meet
        exact ⟨v2.heap.size, rfl, HK7.out.setAll (cs := (sgRow (n1 : Int) (n2 : Int) (n3 : Int) (n4 : Int) (fl : Int) (n5 : Int) 0 d).toArray) rfl, (And.left hHeld25), HG3.out⟩
      refine AllReadyH.cons (o := _) rfl (fun K hK => ?_) AllReadyH.nil
      go_simp
      (have HK2 : RowKit.Hid (Blk (w2.alloc (.cells #[.int .i64 0, .int .i64 0, .int .u32 0, .int .u32 0, .int .i64 0, .int .i64 0, .int .i64 0, .string ⟨#[]⟩] 29)).drew w2.heap.size 29 sg0) := Blk.new w2 29 sg0 0 0 (Or.inl (Nat.le_refl _)); have HG2 : RowKit.Hid (w.heap.size + 1 + 1 + 1 + 1 < w2.heap.size) := (And.left hHeld).none.lt)
      refine hK.out _ _ ?_ (fun hHeld26 => ?_)
      · (first | exact (SrS.allocD (And.left hHeld) _).q)
      clear hHeld hK K
      try simp only [List.getElem_toArray, List.getElem_cons_zero, List.getElem_cons_succ, Act.put, List.setIfInBounds_toArray, List.set_cons_zero, List.set_cons_succ]
      refine wpAnyH_ready (rs := [1]) (by kernel_rfl) (by simp) ?_
      refine AllReadyH.cons (o := _) rfl (fun K hK => ?_) AllReadyH.nil
      go_simp
      (go_at_call 23; refine (HT1.out _ (And.right hHeld26)).mono ?_; rintro e v3 ⟨rfl, hb0⟩; have HB3 := Lib.hid hb0; clear hb0; have HK3 := Lib.hid (HK2.out.step HB3.out); have HSX3 : RowKit.Hid (SrS w l f t v3) := (And.left hHeld26).step HB3.out)
      refine hK.out _ _ ?_ (fun hHeld27 => ?_)
      · (first | exact ((And.left hHeld26).step HB3.out).q)
      clear hHeld26 hK K
      try simp only [List.getElem_toArray, List.getElem_cons_zero, List.getElem_cons_succ, Act.put, List.setIfInBounds_toArray, List.set_cons_zero, List.set_cons_succ]
      refine wpAnyH_take (i := 2) (oi := _) (v := ?vr1n2_33) rfl (by kernel_rfl) (by kernel_rfl) (by kernel_rfl) (fun _ _ _ h => h) (Or.inl ⟨by kernel_rfl, ?hr1n2_33⟩) hHeld27 ?_
      case hr1n2_33 => (intro w hSw; (try dsimp only at hSw); go_simp; try (with_reducible rfl))
      try simp only [List.getElem_toArray, List.getElem_cons_zero, List.getElem_cons_succ, Act.put, List.setIfInBounds_toArray, List.set_cons_zero, List.set_cons_succ]
      refine wpAnyH_ready (rs := [4]) (by kernel_rfl) (by simp) ?_
      refine AllReadyH.cons (o := _) rfl (fun K hK => ?_) AllReadyH.nil
      go_simp
      (go_at_call 23; refine (HT2.out _ (And.right hHeld27)).mono ?_; rintro e v4 ⟨rfl, hb0⟩; have HB4 := Lib.hid hb0; clear hb0; have HK4 := Lib.hid (HK3.out.step HB4.out); have HSX4 : RowKit.Hid (SrS w l f t v4) := (And.left hHeld27).step HB4.out)
      refine hK.out _ _ ?_ (fun hHeld28 => ?_)
      · (first | exact ((And.left hHeld27).step HB4.out).q)
      clear hHeld27 hK K
      try simp only [List.getElem_toArray, List.getElem_cons_zero, List.getElem_cons_succ, Act.put, List.setIfInBounds_toArray, List.set_cons_zero, List.set_cons_succ]
      refine wpAnyH_take (i := 5) (oi := _) (v := ?vr1n5_34) rfl (by kernel_rfl) (by kernel_rfl) (by kernel_rfl) (fun _ _ _ h => h) (Or.inl ⟨by kernel_rfl, ?hr1n5_34⟩) hHeld28 ?_
      case hr1n5_34 => (intro w hSw; (try dsimp only at hSw); go_simp; try (with_reducible rfl))
      try simp only [List.getElem_toArray, List.getElem_cons_zero, List.getElem_cons_succ, Act.put, List.setIfInBounds_toArray, List.set_cons_zero, List.set_cons_succ]
      refine wpAnyH_ready (rs := [7]) (by kernel_rfl) (by simp) ?_
      refine AllReadyH.cons (o := _) rfl (fun K hK => ?_) AllReadyH.nil
      go_simp
      (go_at_call 23; refine (HT3.out _ (And.right hHeld28)).mono ?_; rintro e v5 ⟨rfl, hb0⟩; have HB5 := Lib.hid hb0; clear hb0; have HK5 := Lib.hid (HK4.out.step HB5.out); have HSX5 : RowKit.Hid (SrS w l f t v5) := (And.left hHeld28).step HB5.out)
      refine hK.out _ _ ?_ (fun hHeld29 => ?_)
      · (first | exact ((And.left hHeld28).step HB5.out).q)
      clear hHeld28 hK K
      try simp only [List.getElem_toArray, List.getElem_cons_zero, List.getElem_cons_succ, Act.put, List.setIfInBounds_toArray, List.set_cons_zero, List.set_cons_succ]
      refine wpAnyH_take (i := 8) (oi := _) (v := ?vr1n8_35) rfl (by kernel_rfl) (by kernel_rfl) (by kernel_rfl) (fun _ _ _ h => h) (Or.inl ⟨by kernel_rfl, ?hr1n8_35⟩) hHeld29 ?_
      case hr1n8_35 => (intro w hSw; (try dsimp only at hSw); go_simp; try (with_reducible rfl))
      try simp only [List.getElem_toArray, List.getElem_cons_zero, List.getElem_cons_succ, Act.put, List.setIfInBounds_toArray, List.set_cons_zero, List.set_cons_succ]
      refine wpAnyH_ready (rs := [10]) (by kernel_rfl) (by simp) ?_
      refine AllReadyH.cons (o := _) rfl (fun K hK => ?_) AllReadyH.nil
      go_simp
      (go_at_call 23; refine (HT4.out _ (And.right hHeld29)).mono ?_; rintro e v6 ⟨rfl, hb0⟩; have HB6 := Lib.hid hb0; clear hb0; have HK6 := Lib.hid (HK5.out.step HB6.out); have HSX6 : RowKit.Hid (SrS w l f t v6) := (And.left hHeld29).step HB6.out)
      refine hK.out _ _ ?_ (fun hHeld30 => ?_)
      · (first | exact ((And.left hHeld29).step HB6.out).q)
      clear hHeld29 hK K
      try simp only [List.getElem_toArray, List.getElem_cons_zero, List.getElem_cons_succ, Act.put, List.setIfInBounds_toArray, List.set_cons_zero, List.set_cons_succ]
      refine wpAnyH_take (i := 11) (oi := _) (v := ?vr1n11_36) rfl (by kernel_rfl) (by kernel_rfl) (by kernel_rfl) (fun _ _ _ h => h) (Or.inl ⟨by kernel_rfl, ?hr1n11_36⟩) hHeld30 ?_
      case hr1n11_36 => (intro w hSw; (try dsimp only at hSw); go_simp; try (with_reducible rfl))
      try simp only [List.getElem_toArray, List.getElem_cons_zero, List.getElem_cons_succ, Act.put, List.setIfInBounds_toArray, List.set_cons_zero, List.set_cons_succ]
      refine wpAnyH_ready (rs := [17]) (by kernel_rfl) (by simp) ?_
      refine AllReadyH.cons (o := _) rfl (fun K hK => ?_) AllReadyH.nil
      go_simp
      (go_at_call 23; refine (HT5.out _ (And.right hHeld30)).mono ?_; rintro e v7 ⟨rfl, hb0⟩; have HB7 := Lib.hid hb0; clear hb0; have HK7 := Lib.hid (HK6.out.step HB7.out); have HSX7 : RowKit.Hid (SrS w l f t v7) := (And.left hHeld30).step HB7.out)
      refine hK.out _ _ ?_ (fun hHeld31 => ?_)
      · (first | exact ((And.left hHeld30).step HB7.out).q)
      clear hHeld30 hK K
      try simp only [List.getElem_toArray, List.getElem_cons_zero, List.getElem_cons_succ, Act.put, List.setIfInBounds_toArray, List.set_cons_zero, List.set_cons_succ]
      refine wpAnyH_take (i := 18) (oi := _) (v := ?vr1n18_37) rfl (by kernel_rfl) (by kernel_rfl) (by kernel_rfl) (fun _ _ _ h => h) (Or.inl ⟨by kernel_rfl, ?hr1n18_37⟩) hHeld31 ?_
      case hr1n18_37 => (intro w hSw; (try dsimp only at hSw); go_simp; try (with_reducible rfl))
      try simp only [List.getElem_toArray, List.getElem_cons_zero, List.getElem_cons_succ, Act.put, List.setIfInBounds_toArray, List.set_cons_zero, List.set_cons_succ]
      refine wpAnyH_take (i := 22) (oi := _) (v := ?vr1n22_38) rfl (by kernel_rfl) (by kernel_rfl) (by kernel_rfl) (fun _ _ _ h => h) (Or.inl ⟨by kernel_rfl, ?hr1n22_38⟩) hHeld31 ?_
      case hr1n22_38 => (intro w hSw; (try dsimp only at hSw); go_simp; try (with_reducible rfl))
      try simp only [List.getElem_toArray, List.getElem_cons_zero, List.getElem_cons_succ, Act.put, List.setIfInBounds_toArray, List.set_cons_zero, List.set_cons_succ]
      refine wpAnyH_ready (rs := [24]) (by kernel_rfl) (by simp) ?_
      refine AllReadyH.cons (o := _) rfl (fun K hK => ?_) AllReadyH.nil
      (have hst := st_blk HK7.out rfl (n1 : Int) (n2 : Int) (n3 : Int) (n4 : Int) (fl : Int) (n5 : Int) 0 d)
      go_simp
      refine hK.out _ _ ?_ (fun hHeld32 => ?_)
      · (first | exact ((And.left hHeld31).setC HG2.out _ _).q)
      clear hHeld31 hK K
      try simp only [List.getElem_toArray, List.getElem_cons_zero, List.getElem_cons_succ, Act.put, List.setIfInBounds_toArray, List.set_cons_zero, List.set_cons_succ]
      refine wpAnyH_done (by kernel_rfl) ?_ _
      refine NoPanic.normal ?_
      go_wp2_with fail
      go_meet
      exact ⟨w2.heap.size, rfl, HK7.out.setAll (cs := (sgRow (n1 : Int) (n2 : Int) (n3 : Int) (n4 : Int) (fl : Int) (n5 : Int) 0 d).toArray) rfl, (And.left hHeld32), HG2.out⟩
    case rest =>
      obtain ⟨g, rfl, hK, hS, hgt⟩ := hcut
      have HS3 := Lib.hid hS
      have HK := Lib.hid hK
      have HG := Lib.hid hgt
      have cf := (sg_at hK).fl
      have c6 := (sg_at hK).ms
      have f6 := hK.free 6 (by show 6 < 8; decide)
      have dk := hK.ld_sg
      clear hK hS hgt
      have hand2 := sg_bit1 fl (by omega)
      by_cases hc : fl / 2 % 2 = 1
      · rw [if_pos hc] at hand2
        have HK6 : RowKit.Hid (Blk (wc.setCell ⟨g, 6, none⟩ (.int .i64 (m : Int))) g 29 (sgC n1 n2 n3 n4 fl n5 m d)) := HK.out.set 6 (.int .i64 (m : Int))
        have HS6 := Lib.hid (HS3.out.set1 HG.out 6 (.int .i64 (m : Int)))
        clear dk
        go_upto_region 20 with fail
        generalize World.setCell _ _ _ = W6 at HK6 HS6 ⊢
        have dk := HK6.out.ld_sg
        go_wp2_with (refine wpList_store_blk rfl 29 _ _ rfl (w.heap.size + 1 + 1 + 1) (sgC n1 n2 n3 n4 fl n5 m d) rfl rfl sg0 29 HS6.out.res rfl size_sg rfl ?_)
        exact bodyPost_ret (results_blk Try.results11 _ _ (w.heap.size + 1 + 1 + 1) _ _ _ rfl (HS6.out.res.setAll rfl) Try.underlying29 rfl size_sg) rfl ⟨by rw [HV.out, HE.out, if_pos hc]; rfl, Below.setCells HS6.out.bel (by omega) _ _⟩
      · rw [if_neg hc] at hand2
        go_wp2_with (refine wpList_store_blk rfl 29 _ _ rfl (w.heap.size + 1 + 1 + 1) (sgC n1 n2 n3 n4 fl n5 0 d) rfl rfl sg0 29 HS3.out.res rfl size_sg rfl ?_)
        exact bodyPost_ret (results_blk Try.results11 _ _ (w.heap.size + 1 + 1 + 1) _ _ _ rfl (HS3.out.res.setAll rfl) Try.underlying29 rfl size_sg) rfl ⟨by rw [HV.out, HE.out, if_neg hc]; rfl, Below.setCells HS3.out.bel (by omega) _ _⟩
end Go.Proofs.Ytccbgiapabkjbaa
