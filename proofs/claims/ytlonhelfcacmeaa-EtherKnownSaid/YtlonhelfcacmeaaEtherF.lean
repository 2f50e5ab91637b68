/- Whom a frame is for: what package ether says and what the reference says. -/
import Derived.Test.YtlonhelfcacmeaaEtherW
namespace Go.Proofs.Ytlonhelfcacmeaa
set_option linter.unusedVariables false
open Go.RowKit
attribute [local go_sem ↓] Go.wp_at_zero Go.wp_at_succ
attribute [local go_sem ↓] run_fr_eql run_fr_neq

/-- an address as a value -/
abbrev macV (m0 m1 m2 m3 m4 m5 : UInt8) : Value := .agg #[.int .u8 m0.toNat, .int .u8 m1.toNat, .int .u8 m2.toNat, .int .u8 m3.toNat, .int .u8 m4.toNat, .int .u8 m5.toNat]
abbrev allV : Value := .agg #[.int .u8 255, .int .u8 255, .int .u8 255, .int .u8 255, .int .u8 255, .int .u8 255]

theorem size_mac : (Try.prog.info? 24).map (·.size) = some 6 := by kernel_rfl

theorem everybody_any (w : World) : Calls Try.prog 15 #[] w fun e w' => e = .returned allV ∧ Below w.heap.size w w' := by
  go_enter Try.func15, Try.ntmps15
  go_wp2
  exact bodyPost_ret (results_cell1 Try.results15 _ _ w.heap.size _ _ _ rfl (Blk.new w _ _ 0 0 (Or.inl (Nat.le_refl _))) Try.underlying24 rfl size_mac) rfl ⟨rfl, (Below.refl _ _).alloc (Nat.le_refl _) _⟩

theorem for_cells {t0 t1 t2 t3 t4 t5 f0 f1 f2 f3 f4 f5 m0 m1 m2 m3 m4 m5 : UInt8} {ty : Int} {d : ByteArray} {w : World} {b c : Nat} {e e' : TypeId} (h : Blk w b e (frV t0 t1 t2 t3 t4 t5 f0 f1 f2 f3 f4 f5 ty d).cells) (k : Blk w c e' (macV m0 m1 m2 m3 m4 m5).cells) : w.cell? ⟨b, 0, none⟩ = some (.int .u8 t0.toNat) ∧ w.cell? ⟨b, 1, none⟩ = some (.int .u8 t1.toNat) ∧ w.cell? ⟨b, 2, none⟩ = some (.int .u8 t2.toNat) ∧ w.cell? ⟨b, 3, none⟩ = some (.int .u8 t3.toNat) ∧ w.cell? ⟨b, 4, none⟩ = some (.int .u8 t4.toNat) ∧ w.cell? ⟨b, 5, none⟩ = some (.int .u8 t5.toNat) ∧ w.cell? ⟨c, 0, none⟩ = some (.int .u8 m0.toNat) ∧ w.cell? ⟨c, 1, none⟩ = some (.int .u8 m1.toNat) ∧ w.cell? ⟨c, 2, none⟩ = some (.int .u8 m2.toNat) ∧ w.cell? ⟨c, 3, none⟩ = some (.int .u8 m3.toNat) ∧ w.cell? ⟨c, 4, none⟩ = some (.int .u8 m4.toNat) ∧ w.cell? ⟨c, 5, none⟩ = some (.int .u8 m5.toNat) := by
  refine ⟨?_, ?_, ?_, ?_, ?_, ?_, ?_, ?_, ?_, ?_, ?_, ?_⟩
  all_goals first | (rw [h.cell]; rfl) | (rw [k.cell]; rfl)

set_option maxRecDepth 100000 in
set_option maxHeartbeats 1000000 in
theorem for_any (t0 t1 t2 t3 t4 t5 f0 f1 f2 f3 f4 f5 m0 m1 m2 m3 m4 m5 : UInt8) (ty : Int) (d : ByteArray) (w : World) :
    Calls Try.prog 13 #[frV t0 t1 t2 t3 t4 t5 f0 f1 f2 f3 f4 f5 ty d, macV m0 m1 m2 m3 m4 m5] w fun e w' =>
      e = .returned (.bool (macEq [(t0.toNat : Int), (t1.toNat : Int), (t2.toNat : Int), (t3.toNat : Int), (t4.toNat : Int), (t5.toNat : Int)] [(m0.toNat : Int), (m1.toNat : Int), (m2.toNat : Int), (m3.toNat : Int), (m4.toNat : Int), (m5.toNat : Int)] || macEq [(t0.toNat : Int), (t1.toNat : Int), (t2.toNat : Int), (t3.toNat : Int), (t4.toNat : Int), (t5.toNat : Int)] [255, 255, 255, 255, 255, 255])) ∧ Below w.heap.size w w' := by
  have hB : Below w.heap.size w ((w.alloc (.cells (frV t0 t1 t2 t3 t4 t5 f0 f1 f2 f3 f4 f5 ty d).cells 26)).alloc (.cells (macV m0 m1 m2 m3 m4 m5).cells 24)) := ((Below.refl _ _).alloc (Nat.le_refl _) _).alloc (by simp) _
  have hK : Blk ((w.alloc (.cells (frV t0 t1 t2 t3 t4 t5 f0 f1 f2 f3 f4 f5 ty d).cells 26)).alloc (.cells (macV m0 m1 m2 m3 m4 m5).cells 24)) w.heap.size 26 (frV t0 t1 t2 t3 t4 t5 f0 f1 f2 f3 f4 f5 ty d).cells := (Blk.new w _ _ 0 0 (Or.inl (Nat.le_refl _))).alloc _
  have hL : Blk ((w.alloc (.cells (frV t0 t1 t2 t3 t4 t5 f0 f1 f2 f3 f4 f5 ty d).cells 26)).alloc (.cells (macV m0 m1 m2 m3 m4 m5).cells 24)) (w.heap.size + 1) 24 (macV m0 m1 m2 m3 m4 m5).cells := by
    have h := Blk.new (w.alloc (.cells (frV t0 t1 t2 t3 t4 t5 f0 f1 f2 f3 f4 f5 ty d).cells 26)) 24 (macV m0 m1 m2 m3 m4 m5).cells 0 0 (Or.inl (Nat.le_refl _))
    rwa [size_alloc] at h
  cases h1 : macEq [(t0.toNat : Int), (t1.toNat : Int), (t2.toNat : Int), (t3.toNat : Int), (t4.toNat : Int), (t5.toNat : Int)] [(m0.toNat : Int), (m1.toNat : Int), (m2.toNat : Int), (m3.toNat : Int), (m4.toNat : Int), (m5.toNat : Int)]
  all_goals
    have hq := fun w => run_mac_eql w t0.toNat t1.toNat t2.toNat t3.toNat t4.toNat t5.toNat m0.toNat m1.toNat m2.toNat m3.toNat m4.toNat m5.toNat
    rw [h1] at hq
    have hq2 := fun w => run_mac_eql w t0.toNat t1.toNat t2.toNat t3.toNat t4.toNat t5.toNat 255 255 255 255 255 255
    clear h1
    have HB := Lib.hid hB
    have HK := Lib.hid hK
    have HL := Lib.hid hL
    clear hB hK hL
    go_enter Try.func13, Try.ntmps13
    go_wp2
    simp only [Value.cells] at HB HK HL
    generalize (w.alloc _).alloc _ = W at HB HK HL ⊢
    have hlt := HL.out.lt
    have hlt0 := HK.out.lt
  · go_region_held3 (fun w' => w'.cell? ⟨w.heap.size, 0, none⟩ = some (.int .u8 t0.toNat) ∧ w'.cell? ⟨w.heap.size, 1, none⟩ = some (.int .u8 t1.toNat) ∧ w'.cell? ⟨w.heap.size, 2, none⟩ = some (.int .u8 t2.toNat) ∧ w'.cell? ⟨w.heap.size, 3, none⟩ = some (.int .u8 t3.toNat) ∧ w'.cell? ⟨w.heap.size, 4, none⟩ = some (.int .u8 t4.toNat) ∧ w'.cell? ⟨w.heap.size, 5, none⟩ = some (.int .u8 t5.toNat) ∧ w'.cell? ⟨(w.heap.size + 1), 0, none⟩ = some (.int .u8 m0.toNat) ∧ w'.cell? ⟨(w.heap.size + 1), 1, none⟩ = some (.int .u8 m1.toNat) ∧ w'.cell? ⟨(w.heap.size + 1), 2, none⟩ = some (.int .u8 m2.toNat) ∧ w'.cell? ⟨(w.heap.size + 1), 3, none⟩ = some (.int .u8 m3.toNat) ∧ w'.cell? ⟨(w.heap.size + 1), 4, none⟩ = some (.int .u8 m4.toNat) ∧ w'.cell? ⟨(w.heap.size + 1), 5, none⟩ = some (.int .u8 m5.toNat))
      (first | exact for_cells HK.out HL.out | exact for_cells (Blk.drew HK.out) (Blk.drew HL.out) | exact for_cells ((Blk.drew HK.out).below hb4.out hlt0) ((Blk.drew HL.out).below hb4.out hlt))
      ((go_at_call 15; refine (everybody_any _).mono ?_; rintro e w4 ⟨rfl, hb0⟩; have hb4 := Lib.hid hb0; clear hb0))
    go_wp2
    go_ret
    exact ⟨by simp, HB.out.drew.trans (hb4.out.mono (show w.heap.size ≤ W.heap.size from by omega))⟩
  · obtain ⟨x0, x1, x2, x3, x4, x5, y0, y1, y2, y3, y4, y5⟩ := for_cells HK.out HL.out
    go_quiet (fail)
    go_wp2
    go_ret
    exact ⟨by simp, Below.drewN HB.out _⟩

/-- the first k bytes are the same -/
def samB (T M : List UInt8) (k : Nat) : Bool := T.take k == M.take k
theorem samB_zero (T M : List UInt8) : samB T M 0 = true := by simp [samB]
theorem toNat_beq (a b : UInt8) : ((a.toNat : Int) == (b.toNat : Int)) = (a == b) := by
  rw [Bool.eq_iff_iff, beq_iff_eq, beq_iff_eq]
  constructor
  · intro h; exact UInt8.toNat_inj.1 (by omega)
  · intro h; rw [h]
theorem samB_step (T M : List UInt8) (k : Nat) (h1 : k < T.length) (h2 : k < M.length) : samB T M (k + 1) = (samB T M k && ((T[k].toNat : Int) == (M[k].toNat : Int))) := by
  rw [toNat_beq]
  unfold samB
  rw [take_snoc T k h1, take_snoc M k h2, Bool.eq_iff_iff, Bool.and_eq_true, beq_iff_eq, beq_iff_eq, beq_iff_eq]
  constructor
  · intro h
    have := List.append_inj h (by rw [List.length_take, List.length_take]; omega)
    exact ⟨this.1, by simpa using this.2⟩
  · rintro ⟨h, h'⟩
    rw [h, h']
theorem samB_six (a b c d e f a' b' c' d' e' f' : UInt8) :
    samB [a, b, c, d, e, f] [a', b', c', d', e', f'] 6 = macEq [(a.toNat : Int), (b.toNat : Int), (c.toNat : Int), (d.toNat : Int), (e.toNat : Int), (f.toNat : Int)] [(a'.toNat : Int), (b'.toNat : Int), (c'.toNat : Int), (d'.toNat : Int), (e'.toNat : Int), (f'.toNat : Int)] := by
  unfold samB macEq
  simp only [List.take_succ_cons, List.take_zero, List.cons_beq_cons, toNat_beq]
  simp

theorem FrS.mk {b : Nat} {t0 t1 t2 t3 t4 t5 f0 f1 f2 f3 f4 f5 : UInt8} {ty : Int} {d : ByteArray} {w : World} (h : Blk w b 26 (frV t0 t1 t2 t3 t4 t5 f0 f1 f2 f3 f4 f5 ty d).cells) : FrS b t0 t1 t2 t3 t4 t5 f0 f1 f2 f3 f4 f5 ty d w := h

theorem mac_cell {w : World} {b : Nat} {e : TypeId} {m0 m1 m2 m3 m4 m5 : UInt8} (h : Blk w b e (macV m0 m1 m2 m3 m4 m5).cells) (k : Nat) (hk : k < 6) :
    w.cell? ⟨b, k, none⟩ = some (.int .u8 (([m0, m1, m2, m3, m4, m5] : List UInt8)[k]'hk).toNat) := by
  rw [h.cell]
  match k, hk with
  | 0, _ | 1, _ | 2, _ | 3, _ | 4, _ | 5, _ => rfl

set_option maxRecDepth 100000 in
set_option maxHeartbeats 1000000 in
theorem refFor_any (t0 t1 t2 t3 t4 t5 f0 f1 f2 f3 f4 f5 m0 m1 m2 m3 m4 m5 : UInt8) (ty : Int) (d : ByteArray) (w : World) :
    Calls Try.prog 14 #[frV t0 t1 t2 t3 t4 t5 f0 f1 f2 f3 f4 f5 ty d, macV m0 m1 m2 m3 m4 m5] w fun e w' =>
      e = .returned (.bool (macEq [(t0.toNat : Int), (t1.toNat : Int), (t2.toNat : Int), (t3.toNat : Int), (t4.toNat : Int), (t5.toNat : Int)] [(m0.toNat : Int), (m1.toNat : Int), (m2.toNat : Int), (m3.toNat : Int), (m4.toNat : Int), (m5.toNat : Int)] || macEq [(t0.toNat : Int), (t1.toNat : Int), (t2.toNat : Int), (t3.toNat : Int), (t4.toNat : Int), (t5.toNat : Int)] [255, 255, 255, 255, 255, 255])) ∧ Below w.heap.size w w' := by
  have hB : Below w.heap.size w ((w.alloc (.cells (frV t0 t1 t2 t3 t4 t5 f0 f1 f2 f3 f4 f5 ty d).cells 26)).alloc (.cells (macV m0 m1 m2 m3 m4 m5).cells 24)) := ((Below.refl _ _).alloc (Nat.le_refl _) _).alloc (by simp) _
  have hK : Blk ((w.alloc (.cells (frV t0 t1 t2 t3 t4 t5 f0 f1 f2 f3 f4 f5 ty d).cells 26)).alloc (.cells (macV m0 m1 m2 m3 m4 m5).cells 24)) w.heap.size 26 (frV t0 t1 t2 t3 t4 t5 f0 f1 f2 f3 f4 f5 ty d).cells := (Blk.new w _ _ 0 0 (Or.inl (Nat.le_refl _))).alloc _
  have hL : Blk ((w.alloc (.cells (frV t0 t1 t2 t3 t4 t5 f0 f1 f2 f3 f4 f5 ty d).cells 26)).alloc (.cells (macV m0 m1 m2 m3 m4 m5).cells 24)) (w.heap.size + 1) 24 (macV m0 m1 m2 m3 m4 m5).cells := by
    have h := Blk.new (w.alloc (.cells (frV t0 t1 t2 t3 t4 t5 f0 f1 f2 f3 f4 f5 ty d).cells 26)) 24 (macV m0 m1 m2 m3 m4 m5).cells 0 0 (Or.inl (Nat.le_refl _))
    rwa [size_alloc] at h
  obtain ⟨T, hT⟩ : ∃ T : List UInt8, T = [t0, t1, t2, t3, t4, t5] := ⟨_, rfl⟩
  obtain ⟨M, hM⟩ : ∃ M : List UInt8, M = [m0, m1, m2, m3, m4, m5] := ⟨_, rfl⟩
  obtain ⟨A, hA⟩ : ∃ A : List UInt8, A = [255, 255, 255, 255, 255, 255] := ⟨_, rfl⟩
  have HTl := Lib.hid (show T.length = 6 by rw [hT]; rfl)
  have HMl := Lib.hid (show M.length = 6 by rw [hM]; rfl)
  have HAl := Lib.hid (show A.length = 6 by rw [hA]; rfl)
  have hAk : ∀ k (h : k < A.length), (A[k].toNat : Int) = 255 := by
    subst hA
    intro k h
    match k, h with
    | 0, _ | 1, _ | 2, _ | 3, _ | 4, _ | 5, _ => rfl
  have HAk := Lib.hid hAk
  have HT := Lib.hid hT
  have HM := Lib.hid hM
  have HA := Lib.hid hA
  have HB := Lib.hid hB
  have HK := Lib.hid hK
  have HL := Lib.hid hL
  clear hT hM hA hB hK hL hAk
  go_enter Try.func14, Try.ntmps14
  go_wp2
  simp only [Value.cells] at HB HK HL
  generalize (w.alloc _).alloc _ = W at HB HK HL ⊢
  go_loopw [5, 6, 7] (fun x y i wr => ∃ k : Nat, k ≤ 6 ∧ i = .int .i64 k ∧ x = .bool (samB T M k) ∧ y = .bool (samB T A k) ∧ Blk wr w.heap.size 26 (frV t0 t1 t2 t3 t4 t5 f0 f1 f2 f3 f4 f5 ty d).cells ∧ Blk wr (w.heap.size + 1) 24 (macV m0 m1 m2 m3 m4 m5).cells ∧ Below w.heap.size w wr) (fun _ _ i _ => 6 - (intOf i).toNat)
  case atStart => exact ⟨0, by omega, rfl, by rw [samB_zero], by rw [samB_zero], HK.out, HL.out, HB.out⟩
  case round =>
    obtain ⟨k, hk, rfl, rfl, rfl, hbk, hbl, hbel⟩ := hrel
    have H1 := Lib.hid hbk
    have H2 := Lib.hid hbl
    have H3 := Lib.hid hbel
    by_cases hlt : k < 6
    · have c1 := (FrS.mk hbk).to k hlt
      have hTk : (([t0, t1, t2, t3, t4, t5] : List UInt8)[k]'hlt) = T[k]'(by rw [HTl.out]; exact hlt) := by simp [HT.out]
      rw [hTk] at c1
      have c2 := mac_cell hbl k hlt
      have hMk : (([m0, m1, m2, m3, m4, m5] : List UInt8)[k]'hlt) = M[k]'(by rw [HMl.out]; exact hlt) := by simp [HM.out]
      rw [hMk] at c2
      have S1 := Lib.hid (samB_step T M k (by rw [HTl.out]; exact hlt) (by rw [HMl.out]; exact hlt))
      have S2 := Lib.hid (samB_step T A k (by rw [HTl.out]; exact hlt) (by rw [HAl.out]; exact hlt))
      have hA255 := Lib.hid (HAk.out k (by rw [HAl.out]; exact hlt))
      generalize ((T[k]'(by rw [HTl.out]; exact hlt)).toNat : Int) = tk at c1 S1 S2
      generalize ((M[k]'(by rw [HMl.out]; exact hlt)).toNat : Int) = mk at c2 S1
      have hi0 : (0 : Int) ≤ (k : Int) := by omega
      have hi6 : (k : Int) < 6 := by omega
      clear hbk hbl hbel hTk hMk
      cases e1 : samB T M k <;> cases e2 : samB T A k
      all_goals
        have E1 := Lib.hid e1
        have E2 := Lib.hid e2
        clear e1 e2
        go_wp2
        go_quiet (fail)
        go_wp2
        go_roundw
        case rel =>
          refine ⟨k + 1, by omega, by go_num, ?_, ?_, Blk.drewN H1.out _, Blk.drewN H2.out _, Below.drewN H3.out _⟩
          · rw [S1.out, E1.out]; simp
          · rw [S2.out, E2.out, hA255.out]; simp
        case measure => simp [intOf]; omega
    · have hk6 := Lib.hid (show k = 6 by omega)
      have hn : ¬ k < 6 := hlt
      clear hbk hbl hbel
      cases e1 : samB T M k
      all_goals
        have E1 := Lib.hid e1
        clear e1
        go_wp2
        go_ret
        refine ⟨ret_bool ?_, H3.out⟩
        rw [← samB_six, ← HT.out, ← HM.out]
        have E1' := E1.out
        rw [hk6.out] at E1'
        rw [E1']
        first | rfl | (simp; rw [hk6.out, HT.out, HA.out]; exact samB_six _ _ _ _ _ _ _ _ _ _ _ _)
end Go.Proofs.Ytlonhelfcacmeaa
