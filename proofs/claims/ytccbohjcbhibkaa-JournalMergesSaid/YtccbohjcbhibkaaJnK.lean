/- full and one of the law: the chapter's record. No condition. -/
import Derived.Test.YtccbohjcbhibkaaJnI
namespace Go.Proofs.Ytccbohjcbhibkaa
set_option linter.unusedVariables false
set_option linter.unusedSimpArgs false
set_option maxRecDepth 100000
open Go.RowKit
attribute [local go_sem ↓] Go.wp_at_zero Go.wp_at_succ ix_dat ld_rec

def full (b : UInt8) : List UInt8 := List.replicate 64 b
theorem made_u8 (w : World) (n : Nat) : Byt (w.alloc (.cells (madeCells #[Value.int .u8 0] n) 5)) 5 w.heap.size (List.replicate n 0) := by
  refine ⟨_, Blk.new w 5 _ 0 0 (Or.inl (Nat.le_refl _)), fun j hj => ?_⟩
  have hj' : j < n := by simpa using hj
  have e1 : j % 1 = 0 := Nat.mod_one j
  simp [madeCells, hj', e1]
set_option maxHeartbeats 1000000 in
theorem full_any (b : UInt8) (w : World) : Calls Try.prog 24 #[.int .u8 (b.toNat : Int)] w fun e w' => e = .returned (sv (full b)) ∧ Below w.heap.size w w' := by
  obtain ⟨i0, hi, hz0, hz1, hz2⟩ := info_parts info_u8
  have hmk := fun w => run_make (P := Try.prog) w 75 5 i0 (.int .u8 0) Try.underlying75 hi hz0 .i64 .i64 64 64 (by omega) (by omega) (by rw [hz2]; omega) (by omega)
  rw [hz1] at hmk
  have e64 : (64 : Int).toNat = 64 := rfl
  simp only [e64] at hmk
  have HMD := Lib.hid (made_u8 w 64)
  have HBM := Lib.hid ((Below.refl _ w).alloc (Nat.le_refl _) (.cells (madeCells #[Value.int .u8 0] 64) 5))
  clear hi hz0 hz1 hz2 e64
  go_enter Try.func24, Try.ntmps24
  go_upto_region 2 with fail
  generalize World.alloc _ _ = w1 at HMD HBM ⊢
  clear hmk
  go_wp2
  go_loopw [4] (fun i wr => ∃ k : Nat, k ≤ 64 ∧ i = .int .i64 k ∧ Byt wr 5 w.heap.size (List.replicate k b ++ List.replicate (64 - k) 0) ∧ Below w.heap.size w wr) (fun i _ => 64 - (intOf i).toNat)
  case atStart => exact ⟨0, by omega, rfl, HMD.out, HBM.out⟩
  case round =>
    obtain ⟨k, hk, rfl, hby, hbel⟩ := hrel
    have HB := Lib.hid hbel
    by_cases hlt : k < 64
    · have hlt' : (k : Int) < 64 := by omega
      have hl : (List.replicate k b ++ List.replicate (64 - k) 0).length = 64 := by simp; omega
      have hc := hby.cell k (by rw [hl]; exact hlt)
      have hf := hby.free k (by rw [hl]; exact hlt)
      have hy2 := hby.set k (by rw [hl]; exact hlt) b
      have hset : (List.replicate k b ++ List.replicate (64 - k) 0).set k b = List.replicate (k + 1) b ++ List.replicate (64 - (k + 1)) 0 := by
        rw [List.set_append_right _ _ (by simp), List.length_replicate, Nat.sub_self]
        have e : 64 - k = (64 - (k + 1)) + 1 := by omega
        rw [e, List.replicate_succ, List.set_cons_zero, List.replicate_succ' (n := k), List.append_assoc]
        rfl
      rw [hset] at hy2
      have HY2 := Lib.hid hy2
      have HB2 := Lib.hid (Below.setCell (p := ⟨w.heap.size, k, none⟩) HB.out (Nat.le_refl _) (.int .u8 (b.toNat : Int)))
      clear hby hbel hy2 hset
      go_wp2
      go_roundw
      case rel => exact ⟨k + 1, by omega, by go_num, HY2.out, HB2.out⟩
      case measure => simp [intOf]; omega
    · have hk64 : k = 64 := by omega
      subst hk64
      have hcv := byt_conv hby (n := 64) (by simp) 64
      have e : List.replicate 64 b ++ List.replicate (64 - 64) 0 = full b := by simp [full]
      rw [e] at hcv
      clear hby hbel e
      go_wp2
      go_ret
      exact ⟨rfl, HB.out⟩
/-- the chapter's record, with a text for its sector -/
def oneX (x : List UInt8) : Rc := ⟨2, 7, 3, [], x, [], []⟩
theorem one_any (w : World) : Calls Try.prog 27 #[] w fun e w' => e = .returned (.agg (rcC (oneX (full 9)))) ∧ Below w.heap.size w w' := by
  have FU := Lib.hid (fun w => (full_any 9 w : Calls Try.prog 24 #[.int .u8 9] w fun e w' => e = .returned (sv (full 9)) ∧ Below w.heap.size w w'))
  generalize full 9 = x at FU ⊢
  have hk0 := Blk.new w 29 zrec 0 0 (Or.inl (Nat.le_refl _))
  have hb0 := (Below.refl _ w).alloc (Nat.le_refl _) (.cells zrec 29)
  go_enter Try.func27, Try.ntmps27
  go_upto_region 1 with fail
  generalize World.alloc _ _ = w1 at hk0 hb0 ⊢
  have HK0 := Lib.hid hk0
  have HB0 := Lib.hid hb0
  clear hk0 hb0
  go_wp2_with fail
  refine (FU.out _).mono ?_
  rintro e w2 ⟨rfl, hb⟩
  have HK2 := Lib.hid (HK0.out.step hb)
  have HB2 := Lib.hid (Below.step HB0.out hb)
  have HX := Lib.hid (HK2.out.setAll (cs := rcC (oneX x)) rfl)
  clear hb
  have tokA : True := trivial
  go_wp2_with (have _t := tokA; refine wpList_store_blk rfl 29 _ _ rfl w.heap.size (rcC (oneX x)) rfl rfl zrec 29 HK2.out rfl size_rec (rcC_one _) ?_; clear tokA)
  exact bodyPost_ret (results_cell1 Try.results27 _ _ w.heap.size _ _ _ rfl HX.out Try.underlying29 rfl size_rec) rfl ⟨rfl, Below.setCells HB2.out (Nat.le_refl _) _ _⟩
end Go.Proofs.Ytccbohjcbhibkaa
