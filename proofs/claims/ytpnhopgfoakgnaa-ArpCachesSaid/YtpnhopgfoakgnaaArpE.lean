/- What package arp's Answer computes. -/
import Derived.Test.YtpnhopgfoakgnaaArpA
namespace Go.Proofs.Ytpnhopgfoakgnaa
set_option linter.unusedVariables false
open Go.RowKit
attribute [local go_sem ↓] Go.wp_at_zero Go.wp_at_succ
attribute [local go_sem ↓] ld_arp ld_mac ld_ip

/-- an array of bytes as a value -/
abbrev arrV (l : List UInt8) : Value := .agg (l.map ubv).toArray

theorem run_ip_neq (w : World) (x y : List UInt8) (h : x.length = 4) (h' : y.length = 4) : (binOp .neq 40 (arrV x) (arrV y)).run Try.prog w = .ok (.bool (!(x == y))) w := by
  rw [run_neq_struct, run_eq_arr w 9998 40 4 Try.underlying40 x y h h']
  rfl
theorem run_ip_eql (w : World) (x y : List UInt8) (h : x.length = 4) (h' : y.length = 4) : (binOp .eql 40 (arrV x) (arrV y)).run Try.prog w = .ok (.bool (x == y)) w := by
  rw [run_eql_struct, run_eq_arr w 9998 40 4 Try.underlying40 x y h h']
  rfl
theorem run_mac_eql (w : World) (x y : List UInt8) (h : x.length = 6) (h' : y.length = 6) : (binOp .eql 38 (arrV x) (arrV y)).run Try.prog w = .ok (.bool (x == y)) w := by
  rw [run_eql_struct, run_eq_arr w 9998 38 6 Try.underlying38 x y h h']
  rfl

theorem size_ip : (Try.prog.info? 40).map (·.size) = some 4 := by kernel_rfl
theorem size_mac : (Try.prog.info? 38).map (·.size) = some 6 := by kernel_rfl

theorem Blk.ld_row {w : World} {b : Nat} {e : TypeId} {C : Array Value} (h : Blk w b e C) (ty : TypeId) (n o : Nat) (hu : Try.prog.underlying ty = some (.array n 5)) (hi : (Try.prog.info? ty).map (·.size) = some n) (l : List UInt8) (hl : l.length = n)
    (hc : ∀ j (hj : j < l.length), C[o + j]? = some (ubv l[j])) : (Ld ty (.pointer (some ⟨b, o, none⟩))).run Try.prog w = .ok (arrV l) w := by
  refine h.ld ty _ hu rfl o (l.map ubv) ?_ (by rw [List.length_map, hl]; exact hi)
  apply List.ext_getElem?
  intro j
  rw [List.getElem?_take, List.length_map]
  by_cases hj : j < l.length
  · rw [if_pos hj, List.getElem?_drop, List.getElem?_map, List.getElem?_eq_getElem hj]
    have := hc j hj
    simpa using this
  · rw [if_neg hj, List.getElem?_map, List.getElem?_eq_none (by omega)]
    rfl

theorem Blk.ld_m {w : World} {b : Nat} {e : TypeId} {op : Int} {m i tm ti : List UInt8} (h : Blk w b e (arC op m i tm ti)) (hL : ArL m i tm ti) : (Ld 38 (.pointer (some ⟨b, 1, none⟩))).run Try.prog w = .ok (arrV m) w :=
  h.ld_row _ 6 1 Try.underlying38 size_mac m hL.m (arC_m hL)
theorem Blk.ld_i {w : World} {b : Nat} {e : TypeId} {op : Int} {m i tm ti : List UInt8} (h : Blk w b e (arC op m i tm ti)) (hL : ArL m i tm ti) : (Ld 40 (.pointer (some ⟨b, 7, none⟩))).run Try.prog w = .ok (arrV i) w :=
  h.ld_row _ 4 7 Try.underlying40 size_ip i hL.i (arC_i hL)
theorem Blk.ld_tm {w : World} {b : Nat} {e : TypeId} {op : Int} {m i tm ti : List UInt8} (h : Blk w b e (arC op m i tm ti)) (hL : ArL m i tm ti) : (Ld 38 (.pointer (some ⟨b, 11, none⟩))).run Try.prog w = .ok (arrV tm) w :=
  h.ld_row _ 6 11 Try.underlying38 size_mac tm hL.tm (arC_tm hL)
theorem Blk.ld_ti {w : World} {b : Nat} {e : TypeId} {op : Int} {m i tm ti : List UInt8} (h : Blk w b e (arC op m i tm ti)) (hL : ArL m i tm ti) : (Ld 40 (.pointer (some ⟨b, 17, none⟩))).run Try.prog w = .ok (arrV ti) w :=
  h.ld_row _ 4 17 Try.underlying40 size_ip ti hL.ti (arC_ti hL)
theorem Blk.ld_arr4 {w : World} {b : Nat} {e : TypeId} {l : List UInt8} (h : Blk w b e (l.map ubv).toArray) (hl : l.length = 4) : (Ld 40 (.pointer (some ⟨b, 0, none⟩))).run Try.prog w = .ok (arrV l) w :=
  h.ld_row _ 4 0 Try.underlying40 size_ip l hl (fun j hj => by rw [Nat.zero_add, List.getElem?_toArray, List.getElem?_map, List.getElem?_eq_getElem hj]; rfl)
theorem Blk.ld_arr6 {w : World} {b : Nat} {e : TypeId} {l : List UInt8} (h : Blk w b e (l.map ubv).toArray) (hl : l.length = 6) : (Ld 38 (.pointer (some ⟨b, 0, none⟩))).run Try.prog w = .ok (arrV l) w :=
  h.ld_row _ 6 0 Try.underlying38 size_mac l hl (fun j hj => by rw [Nat.zero_add, List.getElem?_toArray, List.getElem?_map, List.getElem?_eq_getElem hj]; rfl)

/-- the packet that is made of its parts, under a name of its own -/
noncomputable def Bld (a b c d e : Value) : Sem Value := Instr.build 42 #[(0, a), (1, b), (2, c), (3, d), (4, e)]
theorem bld_arp (a b c d e : Value) : Instr.build 42 #[(0, a), (1, b), (2, c), (3, d), (4, e)] = Bld a b c d e := rfl

theorem run_bld (op : Int) (m i tm ti : List UInt8) (hL : ArL m i tm ti) (w : World) : (Bld (.int .i64 op) (arrV m) (arrV i) (arrV tm) (arrV ti)).run Try.prog w = .ok (.agg (arC op m i tm ti)) w := by
  obtain ⟨m0, m1, m2, m3, m4, m5, rfl⟩ := list6 hL.m
  obtain ⟨i0, i1, i2, i3, rfl⟩ := list4 hL.i
  obtain ⟨n0, n1, n2, n3, n4, n5, rfl⟩ := list6 hL.tm
  obtain ⟨j0, j1, j2, j3, rfl⟩ := list4 hL.ti
  unfold Bld
  simp only [arC, List.map_cons, List.map_nil, List.cons_append, List.nil_append, ubv, arrV]
  kernel_rfl

/-- the making of a packet of its parts, as a step of the walk -/
theorem wp_bld_ar {ops : Array Oper} {rest : List Oper} {o : Oper} {a : Act} {w : World} {Q : Exit → Act → World → Prop} (hgd : o.guard = none) (x0 x1 x2 x3 x4 : Operand)
    (ho : o.op = .build 42 #[(0, x0), (1, x1), (2, x2), (3, x3), (4, x4)]) (op : Int) (m i tm ti : List UInt8) (hL : ArL m i tm ti)
    (h0 : a.eval x0 = .int .i64 op) (h1 : a.eval x1 = arrV m) (h2 : a.eval x2 = arrV i) (h3 : a.eval x3 = arrV tm) (h4 : a.eval x4 = arrV ti)
    (h : wpList Try.prog ops Q rest (a.put o.dst (.agg (arC op m i tm ti))) w) : wpList Try.prog ops Q (o :: rest) a w := by
  refine wpList_plain hgd fun K hK => ?_
  have hr := run_bld op m i tm ti hL w
  rw [← bld_arp] at hr
  unfold Oper.wp execOp
  simp only [ho, Sem.run_bind, Sem.run_pure, Result.andThen_ok, List.map_toArray, List.map_cons, List.map_nil, h0, h1, h2, h3, h4, hr]
  exact hK _ _ h

set_option maxRecDepth 100000 in
set_option maxHeartbeats 1000000 in
theorem answer_yes (m i tm ti ip mac : List UInt8) (hL : ArL m i tm ti) (hip : ip.length = 4) (hmac : mac.length = 6) (h : (ti == ip) = true) (w : World) :
    Calls Try.prog 29 #[.agg (arC 1 m i tm ti), arrV ip, arrV mac] w fun e w' => e = .returned (.tuple #[.agg (arC 2 mac ip m i), .bool true]) ∧ Below w.heap.size w w' := by
  have HK := Lib.hid ((((Blk.new w 42 (arC 1 m i tm ti) 0 0 (Or.inl (Nat.le_refl _))).alloc (.cells (ip.map ubv).toArray 40)).alloc (.cells (mac.map ubv).toArray 38)).alloc (.cells ar0C 42))
  have hI := ((Blk.new (w.alloc (.cells (arC 1 m i tm ti) 42)) 40 (ip.map ubv).toArray 0 0 (Or.inl (Nat.le_refl _))).alloc (.cells (mac.map ubv).toArray 38)).alloc (.cells ar0C 42)
  have hM := (Blk.new ((w.alloc (.cells (arC 1 m i tm ti) 42)).alloc (.cells (ip.map ubv).toArray 40)) 38 (mac.map ubv).toArray 0 0 (Or.inl (Nat.le_refl _))).alloc (.cells ar0C 42)
  have hR := Blk.new (((w.alloc (.cells (arC 1 m i tm ti) 42)).alloc (.cells (ip.map ubv).toArray 40)).alloc (.cells (mac.map ubv).toArray 38)) 42 ar0C 0 0 (Or.inl (Nat.le_refl _))
  have hB := ((((Below.refl w.heap.size w).alloc (Nat.le_refl _) (.cells (arC 1 m i tm ti) 42)).alloc (by simp) (.cells (ip.map ubv).toArray 40)).alloc (by simp; omega) (.cells (mac.map ubv).toArray 38)).alloc (by simp; omega) (.cells ar0C 42)
  simp only [size_alloc] at hI hM hR
  have q := fun w => run_ip_neq w ti ip hL.ti hip
  rw [h] at q
  have c0 : ((((w.alloc (.cells (arC 1 m i tm ti) 42)).alloc (.cells (ip.map ubv).toArray 40)).alloc (.cells (mac.map ubv).toArray 38)).alloc (.cells ar0C 42)).cell? ⟨w.heap.size, 0, none⟩ = some (.int .i64 1) := by rw [HK.out.cell]; exact arC_op _ _ _ _ _
  have d1 := HK.out.ld_m hL
  have d2 := HK.out.ld_i hL
  have d3 := HK.out.ld_ti hL
  have d4 := hI.ld_arr4 hip
  have d5 := hM.ld_arr6 hmac
  have HL2 := Lib.hid (show ArL mac ip m i from ⟨hmac, hip, hL.m, hL.i⟩)
  have HR2 := Lib.hid (hR.setAll (cs := arC 2 mac ip m i) (by rw [arC_size HL2.out]; rfl))
  have HB2 := Lib.hid (Below.setCells hB (show w.heap.size ≤ w.heap.size + 1 + 1 + 1 by omega) 0 (arC 2 mac ip m i).toList)
  have HR := Lib.hid hR
  have HB := Lib.hid hB
  have HL := Lib.hid hL
  clear hI hM hR hB h hL hip hmac
  go_enter Try.func29, Try.ntmps29
  have tokA : True := trivial
  go_wp2_with (first
    | (refine wp_bld_ar rfl _ _ _ _ _ rfl 2 mac ip m i HL2.out rfl rfl rfl rfl rfl ?_)
    | (have _t := tokA; refine wpList_store_blk rfl 42 _ _ rfl (w.heap.size + 1 + 1 + 1) (arC 2 mac ip m i) rfl rfl ar0C 42 HR.out (by rw [arC_size HL2.out]; rfl) (by rw [arC_size HL2.out]; exact size_ar) (arC_one _ _ _ _ _) ?_; clear tokA))
  exact bodyPost_ret (results_blk Try.results29 _ _ (w.heap.size + 1 + 1 + 1) _ _ _ rfl HR2.out Try.underlying42 rfl (by rw [arC_size HL2.out]; exact size_ar)) rfl ⟨rfl, HB2.out⟩

set_option maxRecDepth 100000 in
set_option maxHeartbeats 1000000 in
theorem answer_no (op : Int) (m i tm ti ip mac : List UInt8) (hL : ArL m i tm ti) (hip : ip.length = 4) (hmac : mac.length = 6) (h : (op == 1 && ti == ip) = false) (w : World) :
    Calls Try.prog 29 #[.agg (arC op m i tm ti), arrV ip, arrV mac] w fun e w' => e = .returned (.tuple #[.agg ar0C, .bool false]) ∧ Below w.heap.size w w' := by
  have HK := Lib.hid ((((Blk.new w 42 (arC op m i tm ti) 0 0 (Or.inl (Nat.le_refl _))).alloc (.cells (ip.map ubv).toArray 40)).alloc (.cells (mac.map ubv).toArray 38)).alloc (.cells ar0C 42))
  have hI := ((Blk.new (w.alloc (.cells (arC op m i tm ti) 42)) 40 (ip.map ubv).toArray 0 0 (Or.inl (Nat.le_refl _))).alloc (.cells (mac.map ubv).toArray 38)).alloc (.cells ar0C 42)
  have hR := Blk.new (((w.alloc (.cells (arC op m i tm ti) 42)).alloc (.cells (ip.map ubv).toArray 40)).alloc (.cells (mac.map ubv).toArray 38)) 42 ar0C 0 0 (Or.inl (Nat.le_refl _))
  have hB := ((((Below.refl w.heap.size w).alloc (Nat.le_refl _) (.cells (arC op m i tm ti) 42)).alloc (by simp) (.cells (ip.map ubv).toArray 40)).alloc (by simp; omega) (.cells (mac.map ubv).toArray 38)).alloc (by simp; omega) (.cells ar0C 42)
  simp only [size_alloc] at hI hR
  have c0 : ((((w.alloc (.cells (arC op m i tm ti) 42)).alloc (.cells (ip.map ubv).toArray 40)).alloc (.cells (mac.map ubv).toArray 38)).alloc (.cells ar0C 42)).cell? ⟨w.heap.size, 0, none⟩ = some (.int .i64 op) := by rw [HK.out.cell]; exact arC_op _ _ _ _ _
  have d3 := HK.out.ld_ti hL
  have d4 := hI.ld_arr4 hip
  have q := fun w => run_ip_neq w ti ip hL.ti hip
  have HR := Lib.hid hR
  have HR2 := Lib.hid (hR.setAll (cs := ar0C) rfl)
  have HB2 := Lib.hid (Below.setCells hB (show w.heap.size ≤ w.heap.size + 1 + 1 + 1 by omega) 0 ar0C.toList)
  have hh : (op != 1) = true ∨ ((op != 1) = false ∧ (ti == ip) = false) := by
    cases h1 : (op == 1)
    · left; simp [bne, h1]
    · right; rw [h1] at h; exact ⟨by simp [bne, h1], by simpa using h⟩
  clear hI hR hB hL hip hmac h
  rcases hh with h1 | ⟨h1, h2⟩
  · clear q
    go_enter Try.func29, Try.ntmps29
    go_wp2_with (refine wpList_store_blk rfl 42 _ _ rfl (w.heap.size + 1 + 1 + 1) ar0C rfl rfl ar0C 42 HR.out rfl size_ar rfl ?_)
    exact bodyPost_ret (results_blk Try.results29 _ _ (w.heap.size + 1 + 1 + 1) _ _ _ rfl HR2.out Try.underlying42 rfl size_ar) rfl ⟨rfl, HB2.out⟩
  · rw [h2] at q
    clear h2
    go_enter Try.func29, Try.ntmps29
    go_wp2_with (refine wpList_store_blk rfl 42 _ _ rfl (w.heap.size + 1 + 1 + 1) ar0C rfl rfl ar0C 42 HR.out rfl size_ar rfl ?_)
    exact bodyPost_ret (results_blk Try.results29 _ _ (w.heap.size + 1 + 1 + 1) _ _ _ rfl HR2.out Try.underlying42 rfl size_ar) rfl ⟨rfl, HB2.out⟩
end Go.Proofs.Ytpnhopgfoakgnaa
