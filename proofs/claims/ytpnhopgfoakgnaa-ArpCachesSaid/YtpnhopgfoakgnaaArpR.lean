/- What package arp's Read computes. -/
import Derived.Test.YtpnhopgfoakgnaaArp
import Derived.Test.YtpnhopgfoakgnaaBaseC
import Derived.Lib.LazyBuf
import Derived.Deep.MidRow
namespace Go.Proofs.Ytpnhopgfoakgnaa
set_option linter.unusedVariables false
open Go.RowKit
attribute [local go_sem ↓] Go.wp_at_zero Go.wp_at_succ

theorem rdTwo (s : ByteArray) (a : Nat) (h : a + 2 ≤ s.size) : rdBig s (a : Int) 2 = (((bat s a).toNat * 256 + (bat s (a + 1)).toNat : Nat) : Int) := by
  have h1 : rdOk s a 2 = true := by simp [rdOk]; omega
  rw [rdBig, if_pos h1, Int.toNat_natCast]
  have : pieceL s a (2 : Int).toNat = [bat s a, bat s (a + 1)] := by
    show pieceL s a 2 = _
    unfold pieceL
    rw [take_from s a 2 h]
    rfl
  rw [this]
  simp [bigv]

def arH : List UInt8 := [0, 1, 8, 0, 6, 4]
def hdB (l : List UInt8) : Bool := l.take 6 == arH

theorem hasPre_any (l : List UInt8) (w : World) (h : 28 ≤ l.length) (hs : l.length ≤ 9223372036854775807) :
    Calls Try.prog 66 #[.string ⟨l.toArray⟩, .string ⟨#[0, 1, 8, 0, 6, 4]⟩] w fun e w' => e = .returned (.bool (hdB l)) ∧ w = w' := by
  have h1 : 6 ≤ (l.length : Int) := by omega
  have he : (⟨l.toArray⟩ : ByteArray).extract 0 6 = ⟨(l.take 6).toArray⟩ := by rw [ext_list']; rfl
  go_enter Try.func66, Try.ntmps66
  go_wp2
  go_ret
  exact ⟨rfl, rfl⟩

theorem cutPre1_yes (l r : List UInt8) (w : World) (h : 28 ≤ l.length) (hs : l.length ≤ 9223372036854775807) (hh : hdB l = true) (hr : l = arH ++ r) :
    Calls Try.prog 61 #[.string ⟨l.toArray⟩, .string ⟨#[0, 1, 8, 0, 6, 4]⟩] w fun e w' => e = .returned (.tuple #[.string ⟨r.toArray⟩, .bool true]) ∧ w = w' := by
  have hk := fun w => hasPre_any l w h hs
  rw [hh] at hk
  have HK := Lib.hid hk
  have he : (⟨l.toArray⟩ : ByteArray).extract 6 l.length = ⟨r.toArray⟩ := by
    rw [hr]; exact ext_from arH r 6 _ rfl (by rw [List.length_append]; rfl)
  have h6 : 6 ≤ (l.length : Int) := by omega
  clear hk hr hh
  go_enter Try.func61, Try.ntmps61
  go_wp2_with fail
  refine (HK.out _).mono ?_
  rintro e w1 ⟨rfl, rfl⟩
  go_wp2
  go_ret2
  exact ⟨rfl, rfl⟩

theorem cutPre1_no (l : List UInt8) (w : World) (h : 28 ≤ l.length) (hs : l.length ≤ 9223372036854775807) (hh : hdB l = false) :
    Calls Try.prog 61 #[.string ⟨l.toArray⟩, .string ⟨#[0, 1, 8, 0, 6, 4]⟩] w fun e w' => e = .returned (.tuple #[.string ⟨l.toArray⟩, .bool false]) ∧ w = w' := by
  have hk := fun w => hasPre_any l w h hs
  rw [hh] at hk
  have HK := Lib.hid hk
  clear hk hh
  go_enter Try.func61, Try.ntmps61
  go_wp2_with fail
  refine (HK.out _).mono ?_
  rintro e w1 ⟨rfl, rfl⟩
  go_wp2
  go_ret2
  exact ⟨rfl, rfl⟩

theorem cutPre_yes (l r : List UInt8) (w : World) (h : 28 ≤ l.length) (hs : l.length ≤ 9223372036854775807) (hh : hdB l = true) (hr : l = arH ++ r) :
    Calls Try.prog 45 #[.string ⟨l.toArray⟩, .string ⟨#[0, 1, 8, 0, 6, 4]⟩] w fun e w' => e = .returned (.tuple #[.string ⟨r.toArray⟩, .bool true]) ∧ w = w' := by
  have HK := Lib.hid (fun w => cutPre1_yes l r w h hs hh hr)
  clear hr hh
  go_enter Try.func45, Try.ntmps45
  go_wp2_with fail
  refine (HK.out _).mono ?_
  rintro e w1 ⟨rfl, rfl⟩
  go_wp2
  go_ret2
  exact ⟨rfl, rfl⟩

theorem cutPre_no (l : List UInt8) (w : World) (h : 28 ≤ l.length) (hs : l.length ≤ 9223372036854775807) (hh : hdB l = false) :
    Calls Try.prog 45 #[.string ⟨l.toArray⟩, .string ⟨#[0, 1, 8, 0, 6, 4]⟩] w fun e w' => e = .returned (.tuple #[.string ⟨l.toArray⟩, .bool false]) ∧ w = w' := by
  have HK := Lib.hid (fun w => cutPre1_no l w h hs hh)
  clear hh
  go_enter Try.func45, Try.ntmps45
  go_wp2_with fail
  refine (HK.out _).mono ?_
  rintro e w1 ⟨rfl, rfl⟩
  go_wp2
  go_ret2
  exact ⟨rfl, rfl⟩

abbrev ar0C : Array Value := #[.int .i64 0, .int .u8 0, .int .u8 0, .int .u8 0, .int .u8 0, .int .u8 0, .int .u8 0, .int .u8 0, .int .u8 0, .int .u8 0, .int .u8 0, .int .u8 0, .int .u8 0, .int .u8 0, .int .u8 0, .int .u8 0, .int .u8 0, .int .u8 0, .int .u8 0, .int .u8 0, .int .u8 0]
def z6 : List UInt8 := [0, 0, 0, 0, 0, 0]
def z4 : List UInt8 := [0, 0, 0, 0]
abbrev arNC (n : Int) : Array Value := #[.int .i64 n, .int .u8 0, .int .u8 0, .int .u8 0, .int .u8 0, .int .u8 0, .int .u8 0, .int .u8 0, .int .u8 0, .int .u8 0, .int .u8 0, .int .u8 0, .int .u8 0, .int .u8 0, .int .u8 0, .int .u8 0, .int .u8 0, .int .u8 0, .int .u8 0, .int .u8 0, .int .u8 0]
theorem arN_eq (n : Int) : arNC n = arC n z6 z4 z6 z4 := rfl
theorem ar0_eq : ar0C = arC 0 z6 z4 z6 z4 := rfl
theorem size_ar : (Try.prog.info? 42).map (·.size) = some 21 := by kernel_rfl
theorem size_u8 : (Try.prog.info? 5).map (·.size) = some 1 := by kernel_rfl

theorem arr_short (s : ByteArray) (w : World) (h : s.size < 28) :
    Calls Try.prog 24 #[.string s] w fun e w' => e = .returned (.tuple #[.agg ar0C, .int .i64 7]) ∧ Below w.heap.size w w' := by
  have HN := Lib.hid (Blk.new w 42 ar0C 0 0 (Or.inl (Nat.le_refl _)))
  go_enter Try.func24, Try.ntmps24
  go_wp2_with (refine wpList_store_blk rfl 42 _ _ rfl w.heap.size ar0C rfl rfl ar0C 42 HN.out rfl size_ar rfl ?_)
  exact bodyPost_ret (results_blk Try.results24 _ _ w.heap.size _ _ _ rfl (HN.out.setAll rfl) Try.underlying42 rfl size_ar) rfl ⟨rfl, Below.setCells ((Below.refl _ _).alloc (Nat.le_refl _) _) (Nat.le_refl _) _ _⟩

theorem arr_form (l : List UInt8) (w : World) (h : 28 ≤ l.length) (hs : l.length ≤ 9223372036854775807) (hh : hdB l = false) :
    Calls Try.prog 24 #[.string ⟨l.toArray⟩] w fun e w' => e = .returned (.tuple #[.agg ar0C, .int .i64 8]) ∧ Below w.heap.size w w' := by
  have HC := Lib.hid (fun w => cutPre_no l w h hs hh)
  have h1 : 28 ≤ (l.length : Int) := by omega
  clear hh
  have HN := Lib.hid (Blk.new w 42 ar0C 0 0 (Or.inl (Nat.le_refl _)))
  go_enter Try.func24, Try.ntmps24
  go_wp2_with fail
  refine (HC.out _).mono ?_
  rintro e w1 ⟨rfl, rfl⟩
  go_wp2_with (refine wpList_store_blk rfl 42 _ _ rfl w.heap.size ar0C rfl rfl ar0C 42 HN.out rfl size_ar rfl ?_)
  exact bodyPost_ret (results_blk Try.results24 _ _ w.heap.size _ _ _ rfl (HN.out.setAll rfl) Try.underlying42 rfl size_ar) rfl ⟨rfl, Below.setCells ((Below.refl _ _).alloc (Nat.le_refl _) _) (Nat.le_refl _) _ _⟩

/-- the number ahead of what is left -/
theorem rd_op (p q : UInt8) (r : List UInt8) (w : World) (hr : r.length ≤ 9223372036854775000) :
    Calls Try.prog 43 #[.string ⟨(p :: q :: r).toArray⟩, .int .i64 0, .int .i64 2] w fun e w' => e = .returned (.tuple #[.int .u64 ((p.toNat * 256 + q.toNat : Nat) : Int), .bool true]) ∧ Below w.heap.size w w' := by
  have hz : (⟨(p :: q :: r).toArray⟩ : ByteArray).size = r.length + 2 := rfl
  have h := readBig_any w ⟨(p :: q :: r).toArray⟩ 0 2 (by omega) (by omega) (by omega)
  have e1 : rdOk ⟨(p :: q :: r).toArray⟩ 0 2 = true := by simp [rdOk, hz]; omega
  have e2 : rdBig ⟨(p :: q :: r).toArray⟩ 0 2 = ((p.toNat * 256 + q.toNat : Nat) : Int) := rdTwo ⟨(p :: q :: r).toArray⟩ 0 (by omega)
  rw [e1, e2] at h
  exact h

theorem arr_kind (l : List UInt8) (p q : UInt8) (r : List UInt8) (w : World) (h : 28 ≤ l.length) (hs : l.length ≤ 9223372036854775000) (hh : hdB l = true) (hl : l = arH ++ (p :: q :: r))
    (hk : knB ((p.toNat * 256 + q.toNat : Nat) : Int) = false) :
    Calls Try.prog 24 #[.string ⟨l.toArray⟩] w fun e w' => e = .returned (.tuple #[.agg ar0C, .int .i64 10]) ∧ Below w.heap.size w w' := by
  have HC := Lib.hid (fun w => cutPre_yes l _ w h (by omega) hh hl)
  have hrl : r.length ≤ 9223372036854775000 := by
    have := congrArg List.length hl
    simp only [List.length_append, List.length_cons] at this
    omega
  have HR := Lib.hid (fun w => rd_op p q r w hrl)
  have hkn := fun w => known_any ((p.toNat * 256 + q.toNat : Nat) : Int) w
  rw [hk] at hkn
  have hN : ((p.toNat * 256 + q.toNat : Nat) : Int) ≤ 65535 := by have := p.toNat_lt; have := q.toNat_lt; omega
  have h1 : 28 ≤ (l.length : Int) := by omega
  obtain ⟨N, hNd⟩ : ∃ N : Nat, N = p.toNat * 256 + q.toNat := ⟨_, rfl⟩
  rw [← hNd] at hN hkn
  have HRN := Lib.hid (hNd ▸ HR.out)
  have HK := Lib.hid hkn
  clear hh hl hk hkn hNd HR
  have HN := Lib.hid (Blk.new w 42 ar0C 0 0 (Or.inl (Nat.le_refl _)))
  go_enter Try.func24, Try.ntmps24
  go_wp2_with fail
  refine (HC.out _).mono ?_
  rintro e w1 ⟨rfl, rfl⟩
  go_wp2_with fail
  refine (HRN.out _).mono ?_
  rintro e w1 ⟨rfl, hb1⟩
  have hR0 := (Blk.new w 42 ar0C 0 0 (Or.inl (Nat.le_refl _))).step hb1
  have HB := Lib.hid (Below.step ((Below.refl _ w).alloc (Nat.le_refl _) (.cells ar0C 42)) hb1)
  have HR0 := Lib.hid hR0
  have hlt := hR0.lt
  clear hb1 hR0
  have hN1 := Blk.new w1 42 ar0C 0 0 (Or.inl (Nat.le_refl _))
  have hK2 := hN1.setAll (cs := arNC N) rfl
  have hR2 := (HR0.out.alloc (.cells ar0C 42)).setCells_other w1.heap.size 0 (arNC N).toList (by omega)
  have hB2 := Below.setCells (HB.out.alloc HB.out.size (.cells ar0C 42)) HB.out.size 0 (arNC N).toList
  have HN1 := Lib.hid hN1
  have HK2 := Lib.hid hK2
  have HR2 := Lib.hid hR2
  have HB2 := Lib.hid hB2
  have tokA : True := trivial
  clear hN1 hK2 hR2 hB2
  go_wp2_with (have _t := tokA; refine wpList_store_blk rfl 42 _ _ rfl w1.heap.size (arNC N) rfl rfl ar0C 42 HN1.out rfl size_ar rfl ?_; clear tokA; generalize World.setCells _ _ _ _ = W2 at HK2 HR2 HB2 ⊢; have hc0 : W2.cell? ⟨w1.heap.size, 0, none⟩ = some (.int .i64 N) := (by rw [HK2.out.cell]; rfl))
  refine (HK.out _).mono ?_
  rintro e w3 ⟨rfl, rfl⟩
  go_wp2_with (refine wpList_store_blk rfl 42 _ _ rfl w.heap.size ar0C rfl rfl ar0C 42 HR2.out rfl size_ar rfl ?_)
  exact bodyPost_ret (results_blk Try.results24 _ _ w.heap.size _ _ _ rfl (HR2.out.setAll rfl) Try.underlying42 rfl size_ar) rfl ⟨rfl, Below.setCells HB2.out (Nat.le_refl _) _ _⟩

theorem seg_put (A M B M' : List Value) (o : Nat) (hA : A.length = o) (h : M'.length = M.length) : (A ++ M ++ B).take o ++ M' ++ (A ++ M ++ B).drop (o + M'.length) = A ++ M' ++ B := by
  subst hA
  rw [h, ← List.drop_drop, List.append_assoc A M B, List.take_left, List.drop_left, List.drop_left]

theorem arC_m' {op : Int} {m i tm ti m' : List UInt8} (hm : m'.length = m.length) :
    (arC op m i tm ti).toList.take 1 ++ m'.map ubv ++ (arC op m i tm ti).toList.drop (1 + (m'.map ubv).length) = (arC op m' i tm ti).toList := by
  have := seg_put [Value.int .i64 op] (m.map ubv) ((i ++ tm ++ ti).map ubv) (m'.map ubv) 1 rfl (by simp [hm])
  simpa [arC] using this
theorem arC_i' {op : Int} {m i tm ti i' : List UInt8} (h : ArL m i tm ti) (hm : i'.length = i.length) :
    (arC op m i tm ti).toList.take 7 ++ i'.map ubv ++ (arC op m i tm ti).toList.drop (7 + (i'.map ubv).length) = (arC op m i' tm ti).toList := by
  have := seg_put (Value.int .i64 op :: m.map ubv) (i.map ubv) ((tm ++ ti).map ubv) (i'.map ubv) 7 (by simp [h.m]) (by simp [hm])
  simpa [arC] using this
theorem arC_tm' {op : Int} {m i tm ti t' : List UInt8} (h : ArL m i tm ti) (hm : t'.length = tm.length) :
    (arC op m i tm ti).toList.take 11 ++ t'.map ubv ++ (arC op m i tm ti).toList.drop (11 + (t'.map ubv).length) = (arC op m i t' ti).toList := by
  have := seg_put (Value.int .i64 op :: (m ++ i).map ubv) (tm.map ubv) (ti.map ubv) (t'.map ubv) 11 (by simp [h.m, h.i]) (by simp [hm])
  simpa [arC] using this
theorem arC_ti' {op : Int} {m i tm ti t' : List UInt8} (h : ArL m i tm ti) (hm : t'.length = ti.length) :
    (arC op m i tm ti).toList.take 17 ++ t'.map ubv ++ (arC op m i tm ti).toList.drop (17 + (t'.map ubv).length) = (arC op m i tm t').toList := by
  have := seg_put (Value.int .i64 op :: (m ++ i ++ tm).map ubv) (ti.map ubv) [] (t'.map ubv) 17 (by simp [h.m, h.i, h.tm]) (by simp [hm])
  simpa [arC] using this
theorem arC_one (op : Int) (m i tm ti : List UInt8) : (arC op m i tm ti).toList.all (·.oneCell') = true := by
  rw [arC, List.all_cons]
  rw [List.all_map]
  simp only [Bool.and_eq_true, List.all_eq_true]
  exact ⟨rfl, fun _ _ => rfl⟩

set_option maxRecDepth 100000 in
set_option maxHeartbeats 1000000 in
theorem arr_ok (l : List UInt8) (p q : UInt8) (m i tm ti z : List UInt8) (hL : ArL m i tm ti) (w : World) (hs : l.length ≤ 9223372036854775000) (hh : hdB l = true)
    (hl : l = arH ++ (p :: q :: (m ++ (i ++ (tm ++ (ti ++ z)))))) (hk : knB ((p.toNat * 256 + q.toNat : Nat) : Int) = true) :
    Calls Try.prog 24 #[.string ⟨l.toArray⟩] w fun e w' => e = .returned (.tuple #[.agg (arC ((p.toNat * 256 + q.toNat : Nat) : Int) m i tm ti), .int .i64 0]) ∧ Below w.heap.size w w' := by
  have hll : l.length = 28 + z.length := by
    rw [hl]
    simp only [List.length_append, List.length_cons, hL.m, hL.i, hL.tm, hL.ti, arH, List.length_nil]
    omega
  have HC := Lib.hid (fun w => cutPre_yes l _ w (by omega) (by omega) hh hl)
  have HR := Lib.hid (fun w => rd_op p q (m ++ (i ++ (tm ++ (ti ++ z)))) w (by
    simp only [List.length_append, hL.m, hL.i, hL.tm, hL.ti]
    omega))
  have hkn := fun w => known_any ((p.toNat * 256 + q.toNat : Nat) : Int) w
  rw [hk] at hkn
  have hN : ((p.toNat * 256 + q.toNat : Nat) : Int) ≤ 65535 := by have := p.toNat_lt; have := q.toNat_lt; omega
  have h1 : 28 ≤ (l.length : Int) := by omega
  obtain ⟨R5, hR5⟩ : ∃ R, R = z := ⟨_, rfl⟩
  obtain ⟨R4, hR4⟩ : ∃ R, R = ti ++ R5 := ⟨_, rfl⟩
  obtain ⟨R3, hR3⟩ : ∃ R, R = tm ++ R4 := ⟨_, rfl⟩
  obtain ⟨R2, hR2⟩ : ∃ R, R = i ++ R3 := ⟨_, rfl⟩
  obtain ⟨R1, hR1⟩ : ∃ R, R = m ++ R2 := ⟨_, rfl⟩
  obtain ⟨P0, hP0⟩ : ∃ R, R = p :: q :: R1 := ⟨_, rfl⟩
  have l5 : R5.length = z.length := by rw [hR5]
  have l4 : R4.length = 4 + R5.length := by rw [hR4, List.length_append, hL.ti]
  have l3 : R3.length = 6 + R4.length := by rw [hR3, List.length_append, hL.tm]
  have l2 : R2.length = 4 + R3.length := by rw [hR2, List.length_append, hL.i]
  have l1 : R1.length = 6 + R2.length := by rw [hR1, List.length_append, hL.m]
  have l0 : P0.length = 2 + R1.length := by rw [hP0]; simp only [List.length_cons]; omega
  have e0 : (⟨P0.toArray⟩ : ByteArray).extract 2 P0.length = ⟨R1.toArray⟩ := by rw [hP0]; exact ext_from [p, q] R1 2 _ rfl (by rw [← hP0]; exact l0)
  have e1 : (⟨R1.toArray⟩ : ByteArray).extract 6 R1.length = ⟨R2.toArray⟩ := by rw [hR1]; exact ext_from m R2 6 _ hL.m (by rw [← hR1]; exact l1)
  have e2 : (⟨R2.toArray⟩ : ByteArray).extract 4 R2.length = ⟨R3.toArray⟩ := by rw [hR2]; exact ext_from i R3 4 _ hL.i (by rw [← hR2]; exact l2)
  have e3 : (⟨R3.toArray⟩ : ByteArray).extract 6 R3.length = ⟨R4.toArray⟩ := by rw [hR3]; exact ext_from tm R4 6 _ hL.tm (by rw [← hR3]; exact l3)
  have e4 : (⟨R4.toArray⟩ : ByteArray).extract 4 R4.length = ⟨R5.toArray⟩ := by rw [hR4]; exact ext_from ti R5 4 _ hL.ti (by rw [← hR4]; exact l4)
  have t1 := Lib.hid (show R1.take 6 = m by rw [hR1, ← hL.m, List.take_left])
  have t2 := Lib.hid (show R2.take 4 = i by rw [hR2, ← hL.i, List.take_left])
  have t3 := Lib.hid (show R3.take 6 = tm by rw [hR3, ← hL.tm, List.take_left])
  have t4 := Lib.hid (show R4.take 4 = ti by rw [hR4, ← hL.ti, List.take_left])
  rw [← hR5, ← hR4, ← hR3, ← hR2, ← hR1, ← hP0] at HC HR
  have b0 : 2 ≤ (P0.length : Int) := by omega
  have b1 : 6 ≤ (R1.length : Int) := by omega
  have b2 : 4 ≤ (R2.length : Int) := by omega
  have b3 : 6 ≤ (R3.length : Int) := by omega
  have b4 : 4 ≤ (R4.length : Int) := by omega
  have b5 : (P0.length : Int) ≤ 9223372036854775000 := by omega
  have n1 := Lib.hid (show Nat.min (⟨R1.toArray⟩ : ByteArray).size 6 = 6 from Nat.min_eq_right (by show 6 ≤ R1.length; omega))
  have n2 := Lib.hid (show Nat.min (⟨R2.toArray⟩ : ByteArray).size 4 = 4 from Nat.min_eq_right (by show 4 ≤ R2.length; omega))
  have n3 := Lib.hid (show Nat.min (⟨R3.toArray⟩ : ByteArray).size 6 = 6 from Nat.min_eq_right (by show 6 ≤ R3.length; omega))
  have n4 := Lib.hid (show Nat.min (⟨R4.toArray⟩ : ByteArray).size 4 = 4 from Nat.min_eq_right (by show 4 ≤ R4.length; omega))
  obtain ⟨N, hNd⟩ : ∃ N : Nat, N = p.toNat * 256 + q.toNat := ⟨_, rfl⟩
  rw [← hNd] at hN hkn ⊢
  have HRN := Lib.hid (hNd ▸ HR.out)
  have HK := Lib.hid hkn
  clear hh hl hk hkn hNd HR hR5 hR4 hR3 hR2 hR1 hP0 l0 l1 l2 l3 l4 l5 hll
  go_enter Try.func24, Try.ntmps24
  go_wp2_with fail
  refine (HC.out _).mono ?_
  rintro e w1 ⟨rfl, rfl⟩
  go_wp2_with fail
  refine (HRN.out _).mono ?_
  rintro e w1 ⟨rfl, hb1⟩
  have hR0 := (Blk.new w 42 ar0C 0 0 (Or.inl (Nat.le_refl _))).step hb1
  have HB := Lib.hid (Below.step ((Below.refl _ w).alloc (Nat.le_refl _) (.cells ar0C 42)) hb1)
  have HR0 := Lib.hid hR0
  have hlt := hR0.lt
  clear hb1 hR0
  have hN1 := Blk.new w1 42 ar0C 0 0 (Or.inl (Nat.le_refl _))
  have hK2 := hN1.setAll (cs := arNC N) rfl
  have hR2 := (HR0.out.alloc (.cells ar0C 42)).setCells_other w1.heap.size 0 (arNC N).toList (by omega)
  have hB2 := Below.setCells (HB.out.alloc HB.out.size (.cells ar0C 42)) HB.out.size 0 (arNC N).toList
  have HN1 := Lib.hid hN1
  have HK2 := Lib.hid hK2
  have HR2 := Lib.hid hR2
  have HB2 := Lib.hid hB2
  have tokA : True := trivial
  clear hN1 hK2 hR2 hB2
  go_wp2_with (have _t := tokA; refine wpList_store_blk rfl 42 _ _ rfl w1.heap.size (arNC N) rfl rfl ar0C 42 HN1.out rfl size_ar rfl ?_; clear tokA; generalize World.setCells _ _ _ _ = W2 at HK2 HR2 HB2 ⊢; have hc0 : W2.cell? ⟨w1.heap.size, 0, none⟩ = some (.int .i64 N) := (by rw [HK2.out.cell]; rfl))
  refine (HK.out _).mono ?_
  rintro e w3 ⟨rfl, rfl⟩
  clear hc0
  have hlt2 := HK2.out.lt
  go_wp2
  go_region
  go_wp2
  have hS3 := (Blk.new W2 84 #[.slice (some ⟨w1.heap.size, 1, none⟩) 6 6, .slice (some ⟨w1.heap.size, 7, none⟩) 4 4, .slice (some ⟨w1.heap.size, 11, none⟩) 6 6, .slice (some ⟨w1.heap.size, 17, none⟩) 4 4] 0 0 (Or.inl (Nat.le_refl _))).drew
  have hK3 := (HK2.out.alloc (.cells #[.slice (some ⟨w1.heap.size, 1, none⟩) 6 6, .slice (some ⟨w1.heap.size, 7, none⟩) 4 4, .slice (some ⟨w1.heap.size, 11, none⟩) 6 6, .slice (some ⟨w1.heap.size, 17, none⟩) 4 4] 84)).drew
  have hR3 := (HR2.out.alloc (.cells #[.slice (some ⟨w1.heap.size, 1, none⟩) 6 6, .slice (some ⟨w1.heap.size, 7, none⟩) 4 4, .slice (some ⟨w1.heap.size, 11, none⟩) 6 6, .slice (some ⟨w1.heap.size, 17, none⟩) 4 4] 84)).drew
  have hB3 := (HB2.out.alloc HB2.out.size (.cells #[.slice (some ⟨w1.heap.size, 1, none⟩) 6 6, .slice (some ⟨w1.heap.size, 7, none⟩) 4 4, .slice (some ⟨w1.heap.size, 11, none⟩) 6 6, .slice (some ⟨w1.heap.size, 17, none⟩) 4 4] 84)).drew
  rw [arN_eq] at hK3
  have HS3 := Lib.hid hS3
  have HK3 := Lib.hid hK3
  have HR3 := Lib.hid hR3
  have HB3 := Lib.hid hB3
  clear hS3 hK3 hR3 hB3 HK2 HR2 HB2 HN1
  generalize (W2.alloc _).drew = W3 at HS3 HK3 HR3 HB3 ⊢
  have hww : w.heap.size ≤ w1.heap.size := by omega
  refine wp_loop_rounds 5 ?_
  rw [rounds_succ]
  have cs1 : W3.cell? ⟨W2.heap.size, 0, none⟩ = some (.slice (some ⟨w1.heap.size, 1, none⟩) 6 6) := by rw [HS3.out.cell]; rfl
  have hv1 : ((⟨R1.toArray⟩ : ByteArray).data.toList.take 6).map ubv = m.map ubv := by show (R1.take 6).map ubv = _; rw [t1.out]
  have hth1 := HK3.out.thereAt 1 6 (by rw [arC_size ⟨rfl, rfl, rfl, rfl⟩]; omega)
  have hK4 : Blk (W3.setCells w1.heap.size 1 (((⟨R1.toArray⟩ : ByteArray).data.toList.take 6).map ubv)) w1.heap.size 42 (arC N m z4 z6 z4) := by
    rw [hv1]
    exact HK3.out.setPart 1 _ (by rw [List.length_map, arC_size ⟨rfl, rfl, rfl, rfl⟩, hL.m]; omega) (arC_m' (by rw [hL.m]; rfl))
  have hR4 := HR3.out.setCells_other w1.heap.size 1 (((⟨R1.toArray⟩ : ByteArray).data.toList.take 6).map ubv) (by omega)
  have hS4 := HS3.out.setCells_other w1.heap.size 1 (((⟨R1.toArray⟩ : ByteArray).data.toList.take 6).map ubv) (by omega)
  have hB4 := Below.setCells HB3.out hww 1 (((⟨R1.toArray⟩ : ByteArray).data.toList.take 6).map ubv)
  have HK4 := Lib.hid hK4
  have HR4 := Lib.hid hR4
  have HS4 := Lib.hid hS4
  have HB4 := Lib.hid hB4
  have HT4 := Lib.hid hth1
  have tok1 : True := trivial
  clear hK4 hR4 hS4 hB4 hth1 hv1
  go_wp2_with (have _t := tok1; refine wpList_copy_str rfl (.tmp 53) (.tmp 54) 84 9 rfl 5 w1.heap.size 1 6 6 6 ⟨R1.toArray⟩ rfl rfl Try.underlying84 size_u8 n1.out HT4.out ?_; clear tok1; generalize World.setCells _ _ _ _ = W4 at HK4 HR4 HS4 HB4 ⊢)
  clear cs1 HK3 HR3 HS3 HB3 HT4
  rw [rounds_succ]
  have cs2 : W4.cell? ⟨W2.heap.size, 1, none⟩ = some (.slice (some ⟨w1.heap.size, 7, none⟩) 4 4) := by rw [HS4.out.cell]; rfl
  have hv2 : ((⟨R2.toArray⟩ : ByteArray).data.toList.take 4).map ubv = i.map ubv := by show (R2.take 4).map ubv = _; rw [t2.out]
  have hth2 := HK4.out.thereAt 7 4 (by rw [arC_size ⟨hL.m, rfl, rfl, rfl⟩]; omega)
  have hK5 : Blk (W4.setCells w1.heap.size 7 (((⟨R2.toArray⟩ : ByteArray).data.toList.take 4).map ubv)) w1.heap.size 42 (arC N m i z6 z4) := by
    rw [hv2]
    exact HK4.out.setPart 7 _ (by rw [List.length_map, arC_size ⟨hL.m, rfl, rfl, rfl⟩, hL.i]; omega) (arC_i' (⟨hL.m, rfl, rfl, rfl⟩ : ArL _ _ _ _) (by rw [hL.i]; rfl))
  have hR5 := HR4.out.setCells_other w1.heap.size 7 (((⟨R2.toArray⟩ : ByteArray).data.toList.take 4).map ubv) (by omega)
  have hS5 := HS4.out.setCells_other w1.heap.size 7 (((⟨R2.toArray⟩ : ByteArray).data.toList.take 4).map ubv) (by omega)
  have hB5 := Below.setCells HB4.out hww 7 (((⟨R2.toArray⟩ : ByteArray).data.toList.take 4).map ubv)
  have HK5 := Lib.hid hK5
  have HR5 := Lib.hid hR5
  have HS5 := Lib.hid hS5
  have HB5 := Lib.hid hB5
  have HT5 := Lib.hid hth2
  have tok2 : True := trivial
  clear hK5 hR5 hS5 hB5 hth2 hv2
  go_wp2_with (have _t := tok2; refine wpList_copy_str rfl (.tmp 53) (.tmp 54) 84 9 rfl 5 w1.heap.size 7 4 4 4 ⟨R2.toArray⟩ rfl rfl Try.underlying84 size_u8 n2.out HT5.out ?_; clear tok2; generalize World.setCells _ _ _ _ = W5 at HK5 HR5 HS5 HB5 ⊢)
  clear cs2 HK4 HR4 HS4 HB4 HT5
  rw [rounds_succ]
  have cs3 : W5.cell? ⟨W2.heap.size, 2, none⟩ = some (.slice (some ⟨w1.heap.size, 11, none⟩) 6 6) := by rw [HS5.out.cell]; rfl
  have hv3 : ((⟨R3.toArray⟩ : ByteArray).data.toList.take 6).map ubv = tm.map ubv := by show (R3.take 6).map ubv = _; rw [t3.out]
  have hth3 := HK5.out.thereAt 11 6 (by rw [arC_size ⟨hL.m, hL.i, rfl, rfl⟩]; omega)
  have hK6 : Blk (W5.setCells w1.heap.size 11 (((⟨R3.toArray⟩ : ByteArray).data.toList.take 6).map ubv)) w1.heap.size 42 (arC N m i tm z4) := by
    rw [hv3]
    exact HK5.out.setPart 11 _ (by rw [List.length_map, arC_size ⟨hL.m, hL.i, rfl, rfl⟩, hL.tm]; omega) (arC_tm' (⟨hL.m, hL.i, rfl, rfl⟩ : ArL _ _ _ _) (by rw [hL.tm]; rfl))
  have hR6 := HR5.out.setCells_other w1.heap.size 11 (((⟨R3.toArray⟩ : ByteArray).data.toList.take 6).map ubv) (by omega)
  have hS6 := HS5.out.setCells_other w1.heap.size 11 (((⟨R3.toArray⟩ : ByteArray).data.toList.take 6).map ubv) (by omega)
  have hB6 := Below.setCells HB5.out hww 11 (((⟨R3.toArray⟩ : ByteArray).data.toList.take 6).map ubv)
  have HK6 := Lib.hid hK6
  have HR6 := Lib.hid hR6
  have HS6 := Lib.hid hS6
  have HB6 := Lib.hid hB6
  have HT6 := Lib.hid hth3
  have tok3 : True := trivial
  clear hK6 hR6 hS6 hB6 hth3 hv3
  go_wp2_with (have _t := tok3; refine wpList_copy_str rfl (.tmp 53) (.tmp 54) 84 9 rfl 5 w1.heap.size 11 6 6 6 ⟨R3.toArray⟩ rfl rfl Try.underlying84 size_u8 n3.out HT6.out ?_; clear tok3; generalize World.setCells _ _ _ _ = W6 at HK6 HR6 HS6 HB6 ⊢)
  clear cs3 HK5 HR5 HS5 HB5 HT6
  rw [rounds_succ]
  have cs4 : W6.cell? ⟨W2.heap.size, 3, none⟩ = some (.slice (some ⟨w1.heap.size, 17, none⟩) 4 4) := by rw [HS6.out.cell]; rfl
  have hv4 : ((⟨R4.toArray⟩ : ByteArray).data.toList.take 4).map ubv = ti.map ubv := by show (R4.take 4).map ubv = _; rw [t4.out]
  have hth4 := HK6.out.thereAt 17 4 (by rw [arC_size ⟨hL.m, hL.i, hL.tm, rfl⟩]; omega)
  have hK7 : Blk (W6.setCells w1.heap.size 17 (((⟨R4.toArray⟩ : ByteArray).data.toList.take 4).map ubv)) w1.heap.size 42 (arC N m i tm ti) := by
    rw [hv4]
    exact HK6.out.setPart 17 _ (by rw [List.length_map, arC_size ⟨hL.m, hL.i, hL.tm, rfl⟩, hL.ti]; omega) (arC_ti' (⟨hL.m, hL.i, hL.tm, rfl⟩ : ArL _ _ _ _) (by rw [hL.ti]; rfl))
  have hR7 := HR6.out.setCells_other w1.heap.size 17 (((⟨R4.toArray⟩ : ByteArray).data.toList.take 4).map ubv) (by omega)
  have hS7 := HS6.out.setCells_other w1.heap.size 17 (((⟨R4.toArray⟩ : ByteArray).data.toList.take 4).map ubv) (by omega)
  have hB7 := Below.setCells HB6.out hww 17 (((⟨R4.toArray⟩ : ByteArray).data.toList.take 4).map ubv)
  have HK7 := Lib.hid hK7
  have HR7 := Lib.hid hR7
  have HS7 := Lib.hid hS7
  have HB7 := Lib.hid hB7
  have HT7 := Lib.hid hth4
  have tok4 : True := trivial
  clear hK7 hR7 hS7 hB7 hth4 hv4
  go_wp2_with (have _t := tok4; refine wpList_copy_str rfl (.tmp 53) (.tmp 54) 84 9 rfl 5 w1.heap.size 17 4 4 4 ⟨R4.toArray⟩ rfl rfl Try.underlying84 size_u8 n4.out HT7.out ?_; clear tok4; generalize World.setCells _ _ _ _ = W7 at HK7 HR7 HS7 HB7 ⊢)
  clear cs4 HK6 HR6 HS6 HB6 HT7
  rw [rounds_succ]
  go_wp2_with (first
    | (refine wpList_load_blk rfl 42 _ rfl w1.heap.size rfl (arC N m i tm ti) 42 _ HK7.out Try.underlying42 rfl (by rw [arC_size hL]; exact size_ar) ?_)
    | (refine wpList_store_blk rfl 42 _ _ rfl w.heap.size (arC N m i tm ti) rfl rfl ar0C 42 HR7.out (by rw [arC_size hL]; rfl) (by rw [arC_size hL]; exact size_ar) (arC_one _ _ _ _ _) ?_))
  exact bodyPost_ret (results_blk Try.results24 _ _ w.heap.size _ _ _ rfl (HR7.out.setAll (by rw [arC_size hL]; rfl)) Try.underlying42 rfl (by rw [arC_size hL]; exact size_ar)) rfl ⟨rfl, Below.setCells HB7.out (Nat.le_refl _) _ _⟩
end Go.Proofs.Ytpnhopgfoakgnaa
