/- A segment's cells, its length, whether it may be, and the sum of its bytes between two addresses: what packages seg's and the reference's small functions compute. -/
import Derived.Test.YtccbgiapabkjbaaSumP
import Derived.Test.YtccbgiapabkjbaaSumR
import Derived.Test.YtccbgiapabkjbaaBaseC
import Derived.Deep.RegionHeld3
import Derived.Deep.DeepCutAuto
import Derived.Deep.CutRange
import Derived.Deep.DrawnRows
import Derived.Deep.MidRow
import Derived.BigRegion
import Derived.BigQuiet
namespace Go.Proofs.Ytccbgiapabkjbaa
set_option linter.unusedVariables false
set_option linter.unusedSimpArgs false
set_option maxRecDepth 100000
open Go.RowKit
attribute [local go_sem ↓] Go.wp_at_zero Go.wp_at_succ

/-- a segment's cells -/
def sgC (fr tp sq ak fl wi ms : Int) (d : List UInt8) : Array Value :=
  #[.int .i64 fr, .int .i64 tp, .int .u32 sq, .int .u32 ak, .int .i64 fl, .int .i64 wi, .int .i64 ms, .string ⟨d.toArray⟩]
theorem sgC_size (fr tp sq ak fl wi ms : Int) (d : List UInt8) : (sgC fr tp sq ak fl wi ms d).size = 8 := rfl
theorem sgC_one (fr tp sq ak fl wi ms : Int) (d : List UInt8) : (sgC fr tp sq ak fl wi ms d).toList.all (·.oneCell') = true := rfl
/-- what the cells of a segment's block hold -/
structure SgAt (w : World) (b : Nat) (fr tp sq ak fl wi ms : Int) (d : List UInt8) : Prop where
  fr : w.cell? ⟨b, 0, none⟩ = some (.int .i64 fr)
  tp : w.cell? ⟨b, 1, none⟩ = some (.int .i64 tp)
  sq : w.cell? ⟨b, 2, none⟩ = some (.int .u32 sq)
  ak : w.cell? ⟨b, 3, none⟩ = some (.int .u32 ak)
  fl : w.cell? ⟨b, 4, none⟩ = some (.int .i64 fl)
  wi : w.cell? ⟨b, 5, none⟩ = some (.int .i64 wi)
  ms : w.cell? ⟨b, 6, none⟩ = some (.int .i64 ms)
  d : w.cell? ⟨b, 7, none⟩ = some (.string ⟨d.toArray⟩)
theorem sg_at {w : World} {b : Nat} {e : TypeId} {fr tp sq ak fl wi ms : Int} {d : List UInt8} (h : Blk w b e (sgC fr tp sq ak fl wi ms d)) : SgAt w b fr tp sq ak fl wi ms d := by
  refine ⟨?_, ?_, ?_, ?_, ?_, ?_, ?_, ?_⟩ <;> (rw [h.cell]; rfl)

theorem size_sg : (Try.prog.info? 29).map (·.size) = some 8 := by kernel_rfl
theorem size_ip : (Try.prog.info? 23).map (·.size) = some 4 := by kernel_rfl
theorem ld_sg (v : Value) : Instr.loadAt 29 v = Ld 29 v := rfl
theorem ld_ip (v : Value) : Instr.loadAt 23 v = Ld 23 v := rfl
theorem Blk.ld_sg {w : World} {b : Nat} {e : TypeId} {fr tp sq ak fl wi ms : Int} {d : List UInt8} (h : Blk w b e (sgC fr tp sq ak fl wi ms d)) :
    (Ld 29 (.pointer (some ⟨b, 0, none⟩))).run Try.prog w = .ok (.agg (sgC fr tp sq ak fl wi ms d)) w := by
  have := h.ld 29 _ Try.underlying29 rfl 0 (sgC fr tp sq ak fl wi ms d).toList (by rw [List.drop_zero, List.take_of_length_le (Nat.le_refl _)]) size_sg
  simpa using this
theorem Blk.ld_ip {w : World} {b : Nat} {e : TypeId} {f : List UInt8} (h : Blk w b e (f.map ubv).toArray) (hf : f.length = 4) :
    (Ld 23 (.pointer (some ⟨b, 0, none⟩))).run Try.prog w = .ok (arrV f) w :=
  h.ld_row 23 4 0 Try.underlying23 size_ip f hf (fun j hj => by simp [List.getElem?_eq_getElem hj])
attribute [local go_sem ↓] ld_sg ld_ip

/-- has a number two bytes? -/
def sgTwo (n : Int) : Bool := decide (0 ≤ n ∧ n ≤ 65535)
theorem sgTwo_yes {n : Int} (h : sgTwo n = true) : 0 ≤ n ∧ n ≤ 65535 := by simpa [sgTwo] using h
theorem seg_two (w : World) (n : Int) : Calls Try.prog 44 #[.int .i64 n] w fun e w' => e = .returned (.bool (sgTwo n)) ∧ w' = w := by
  unfold sgTwo
  by_cases h : 0 ≤ n
  · go_enter Try.func44, Try.ntmps44
    go_wp2
    go_ret
    exact ⟨by simp [h], rfl⟩
  · have h' : decide (0 ≤ n ∧ n ≤ 65535) = false := decide_eq_false (by omega)
    rw [h']
    clear h'
    go_enter Try.func44, Try.ntmps44
    go_wp2
    go_ret
    exact ⟨rfl, rfl⟩
theorem ref_small (w : World) (n : Int) : Calls Try.prog 31 #[.int .i64 n] w fun e w' => e = .returned (.bool (sgTwo n)) ∧ w' = w := by
  unfold sgTwo
  by_cases h : 0 ≤ n
  · go_enter Try.func31, Try.ntmps31
    go_wp2
    go_ret
    exact ⟨by simp [h], rfl⟩
  · have h' : decide (0 ≤ n ∧ n ≤ 65535) = false := decide_eq_false (by omega)
    rw [h']
    clear h'
    go_enter Try.func31, Try.ntmps31
    go_wp2
    go_ret
    exact ⟨rfl, rfl⟩

/-- has a segment a flag? -/
def sgF (fl k : Int) : Bool := bits .and .i64 fl k != 0
/-- how long a segment is -/
def sgLen (fl : Int) (n : Nat) : Int := n + (if sgF fl 2 then 1 else 0) + (if sgF fl 1 then 1 else 0)
theorem sgLen_cl (F : FuncId) (fr tp sq ak fl wi ms : Int) (d : List UInt8) (hd : d.length ≤ 9223372036854775000) (x y : Int) (b1 b2 : Bool) (w : World)
    (hF : F = 15 ∨ F = 16) (hx : bits .and .i64 fl 2 = x) (hy : bits .and .i64 fl 1 = y) (h1 : (x != 0) = b1) (h2 : (y != 0) = b2) :
    Calls Try.prog F #[.agg (sgC fr tp sq ak fl wi ms d)] w fun e w' => e = .returned (.int .i64 ((d.length : Int) + (if b1 then 1 else 0) + (if b2 then 1 else 0))) ∧ Below w.heap.size w w' := by
  have hK := Blk.new w 29 (sgC fr tp sq ak fl wi ms d) 0 0 (Or.inl (Nat.le_refl _))
  have c4 := (sg_at hK).fl
  have c7 := (sg_at hK).d
  have HB := Lib.hid ((Below.refl _ w).alloc (Nat.le_refl _) (.cells (sgC fr tp sq ak fl wi ms d) 29))
  clear hK
  have w1 : IntKind.i64.wrap ((d.length : Int) + 1) = (d.length : Int) + 1 := IntWalk.i64_in _ (by omega)
  have w2 : IntKind.i64.wrap ((d.length : Int) + 1 + 1) = (d.length : Int) + 1 + 1 := IntWalk.i64_in _ (by omega)
  rcases hF with rfl | rfl
  · cases b1 <;> cases b2
    all_goals
      go_enter Try.func15, Try.ntmps15
      go_wp2
      go_ret
      exact ⟨by simp, HB.out⟩
  · cases b1 <;> cases b2
    all_goals
      go_enter Try.func16, Try.ntmps16
      go_wp2
      go_ret
      exact ⟨by simp, HB.out⟩
theorem sgLen_any (w : World) (fr tp sq ak fl wi ms : Int) (d : List UInt8) (hd : d.length ≤ 9223372036854775000) :
    Calls Try.prog 15 #[.agg (sgC fr tp sq ak fl wi ms d)] w fun e w' => e = .returned (.int .i64 (sgLen fl d.length)) ∧ Below w.heap.size w w' :=
  sgLen_cl _ fr tp sq ak fl wi ms d hd _ _ _ _ w (Or.inl rfl) rfl rfl rfl rfl
theorem refLen_any (w : World) (fr tp sq ak fl wi ms : Int) (d : List UInt8) (hd : d.length ≤ 9223372036854775000) :
    Calls Try.prog 16 #[.agg (sgC fr tp sq ak fl wi ms d)] w fun e w' => e = .returned (.int .i64 (sgLen fl d.length)) ∧ Below w.heap.size w w' :=
  sgLen_cl _ fr tp sq ak fl wi ms d hd _ _ _ _ w (Or.inr rfl) rfl rfl rfl rfl

/-- may a segment be? -/
def sgMay (fr tp fl wi ms : Int) : Bool := sgTwo fr && (sgTwo tp && (sgTwo wi && (sgTwo ms && (decide (0 ≤ fl) && (decide (fl ≤ 31) && (decide (ms = 0) || sgF fl 2))))))
theorem two_v {w : World} {x : Int} {v : Bool} (hv : sgTwo x = v) : Calls Try.prog 44 #[.int .i64 x] w fun e w' => e = .returned (.bool v) ∧ w' = w := by
  subst hv
  exact seg_two _ _
theorem small_v {w : World} {x : Int} {v : Bool} (hv : sgTwo x = v) : Calls Try.prog 31 #[.int .i64 x] w fun e w' => e = .returned (.bool v) ∧ w' = w := by
  subst hv
  exact ref_small _ _

set_option maxHeartbeats 2000000 in
theorem sgMay_any (w : World) (fr tp sq ak fl wi ms : Int) (d : List UInt8) :
    Calls Try.prog 29 #[.agg (sgC fr tp sq ak fl wi ms d)] w fun e w' => e = .returned (.bool (sgMay fr tp fl wi ms)) ∧ Below w.heap.size w w' := by
  have hK := Blk.new w 29 (sgC fr tp sq ak fl wi ms d) 0 0 (Or.inl (Nat.le_refl _))
  obtain ⟨c0, c1, -, -, c4, c5, c6, -⟩ := sg_at hK
  have HB := Lib.hid ((Below.refl _ w).alloc (Nat.le_refl _) (.cells (sgC fr tp sq ak fl wi ms d) 29))
  clear hK
  obtain ⟨V, hV⟩ : ∃ V, V = sgMay fr tp fl wi ms := ⟨_, rfl⟩
  rw [← hV]
  unfold sgMay sgF at hV
  have HV := Lib.hid hV
  clear hV
  go_enter Try.func29, Try.ntmps29
  go_upto_region 1 with fail
  generalize World.alloc _ _ = w1 at c0 c1 c4 c5 c6 HB ⊢
  cases e0 : sgTwo fr
  · go_wp2_with (go_at_call 44; refine (two_v (by assumption)).mono ?_; rintro e wv ⟨rfl, rfl⟩)
    go_ret
    exact ⟨congrArg (fun b => Ending.returned (.bool b)) (HV.out.trans (by simp [e0] <;> (intros; omega))).symm, HB.out⟩
  cases e1 : sgTwo tp
  · go_wp2_with (go_at_call 44; refine (two_v (by assumption)).mono ?_; rintro e wv ⟨rfl, rfl⟩)
    go_ret
    exact ⟨congrArg (fun b => Ending.returned (.bool b)) (HV.out.trans (by simp [e0, e1] <;> (intros; omega))).symm, HB.out⟩
  cases e2 : sgTwo wi
  · go_wp2_with (go_at_call 44; refine (two_v (by assumption)).mono ?_; rintro e wv ⟨rfl, rfl⟩)
    go_ret
    exact ⟨congrArg (fun b => Ending.returned (.bool b)) (HV.out.trans (by simp [e0, e1, e2] <;> (intros; omega))).symm, HB.out⟩
  cases e3 : sgTwo ms
  · go_wp2_with (go_at_call 44; refine (two_v (by assumption)).mono ?_; rintro e wv ⟨rfl, rfl⟩)
    go_ret
    exact ⟨congrArg (fun b => Ending.returned (.bool b)) (HV.out.trans (by simp [e0, e1, e2, e3] <;> (intros; omega))).symm, HB.out⟩
  by_cases e4 : 0 ≤ fl
  rotate_left
  · have e4' : fl < 0 := by omega
    go_wp2_with (go_at_call 44; refine (two_v (by assumption)).mono ?_; rintro e wv ⟨rfl, rfl⟩)
    go_ret
    exact ⟨congrArg (fun b => Ending.returned (.bool b)) (HV.out.trans (by simp [e0, e1, e2, e3, e4] <;> (intros; omega))).symm, HB.out⟩
  by_cases e5 : fl ≤ 31
  rotate_left
  · have e5' : fl > 31 := by omega
    go_wp2_with (go_at_call 44; refine (two_v (by assumption)).mono ?_; rintro e wv ⟨rfl, rfl⟩)
    go_ret
    exact ⟨congrArg (fun b => Ending.returned (.bool b)) (HV.out.trans (by simp [e0, e1, e2, e3, e4, e5] <;> (intros; omega))).symm, HB.out⟩
  by_cases e6 : ms = 0
  · have e3' : sgTwo 0 = true := by decide
    go_wp2_with (go_at_call 44; refine (two_v (by assumption)).mono ?_; rintro e wv ⟨rfl, rfl⟩)
    go_ret
    exact ⟨congrArg (fun b => Ending.returned (.bool b)) (HV.out.trans (by simp [e0, e1, e2, e3, e4, e5, e6] <;> (intros; omega))).symm, HB.out⟩
  by_cases e7 : bits .and .i64 fl 2 = 0
  · have e7' : (bits .and .i64 fl 2 != 0) = false := by simp [e7]
    go_wp2_with (go_at_call 44; refine (two_v (by assumption)).mono ?_; rintro e wv ⟨rfl, rfl⟩)
    go_ret
    exact ⟨congrArg (fun b => Ending.returned (.bool b)) (HV.out.trans (by simp [e0, e1, e2, e3, e4, e5, e6, e7])).symm, HB.out⟩
  · have e7' : (bits .and .i64 fl 2 != 0) = true := by simp [e7]
    go_wp2_with (go_at_call 44; refine (two_v (by assumption)).mono ?_; rintro e wv ⟨rfl, rfl⟩)
    go_ret
    exact ⟨congrArg (fun b => Ending.returned (.bool b)) (HV.out.trans (by simp [e0, e1, e2, e3, e4, e5, e6, e7])).symm, HB.out⟩
end Go.Proofs.Ytccbgiapabkjbaa
