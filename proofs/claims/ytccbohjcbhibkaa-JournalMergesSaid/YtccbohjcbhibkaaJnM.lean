/- Records compared; what the chapter's twelve sectors are read as. No condition. -/
import Derived.Test.YtccbohjcbhibkaaJnL
import Derived.Laws.StructEq
namespace Go.Proofs.Ytccbohjcbhibkaa
set_option linter.unusedVariables false
set_option linter.unusedSimpArgs false
set_option maxRecDepth 100000
open Go.RowKit Go.Sort

def rcEq (r s : Rc) : Bool := r.ep == s.ep && (r.sq == s.sq && (r.rw == s.rw && (r.d0 == s.d0 && (r.d1 == s.d1 && (r.d2 == s.d2 && r.d3 == s.d3)))))
theorem run_part_str {P : Program} (w : World) (e : TypeId) (cs : Array Value) (off : Nat) (v : Value) (he : P.underlying e = some .string) (h : cs[off]? = some v) : (part e cs off).run P w = .ok v w := by
  have hagg : (isAgg e).run P w = .ok false w := by
    unfold isAgg
    rw [Sem.run_bind, run_underlying he w]
    rfl
  simp [part, Sem.run_bind, hagg, h]
theorem beq_sv (x y : List UInt8) : ((⟨x.toArray⟩ : ByteArray).toList == (⟨y.toArray⟩ : ByteArray).toList) = (x == y) := by
  rw [ByteArray.toList_eq, ByteArray.toList_eq]
theorem run_eqs_loop {P : Program} (w : World) (d : Nat) (e : TypeId) (he : P.underlying e = some .string) (xs ys : Array Value) (f g : Nat → List UInt8) :
    ∀ (k i : Nat), (∀ j, i ≤ j → j < i + k → xs[j]? = some (sv (f j)) ∧ ys[j]? = some (sv (g j))) →
    (forIn (m := Sem) (List.range' i k) ((none, ()) : Option Bool × Unit) (fun j r => do
      let a ← part e xs (j * 1)
      let b ← part e ys (j * 1)
      let c ← Op.equalIn (d + 1) e a b
      if (!c) = true then pure (ForInStep.done (some false, ())) else pure (ForInStep.yield (none, ())))).run P w =
      .ok (if (List.range' i k).all (fun j => f j == g j) then (none, ()) else (some false, ())) w
  | 0, i, _ => by simp
  | k + 1, i, h => by
    have h0 := h i (Nat.le_refl _) (by omega)
    have ih := run_eqs_loop w d e he xs ys f g k (i + 1) (fun j h1 h2 => h j (by omega) (by omega))
    rw [List.range'_succ, List.forIn_cons]
    simp only [Sem.run_bind, Nat.mul_one]
    rw [run_part_str w e xs i _ he h0.1]
    simp only [Result.andThen_ok]
    rw [run_part_str w e ys i _ he h0.2]
    simp only [Result.andThen_ok]
    rw [run_equalIn_string w d e _ _ he, beq_sv]
    simp only [Result.andThen_ok]
    by_cases hfg : f i = g i
    · have h1 : (f i == g i) = true := beq_iff_eq.2 hfg
      rw [h1]
      simp only [Nat.mul_one] at ih
      simp only [Bool.not_true, Bool.false_eq_true, if_false, Sem.run_pure, Result.andThen_ok, List.all_cons, h1, Bool.true_and]
      exact ih
    · have h1 : (f i == g i) = false := beq_eq_false_iff_ne.2 hfg
      rw [h1]
      simp [h1]
theorem size_str : (Try.prog.info? 9).map (·.size) = some 1 := by kernel_rfl
theorem run_dat_eq (w : World) (d : Nat) (r s : Rc) : (Op.equalIn (d + 2) 27 (.agg (rcD r)) (.agg (rcD s))).run Try.prog w = .ok (r.d0 == s.d0 && (r.d1 == s.d1 && (r.d2 == s.d2 && r.d3 == s.d3))) w := by
  have hsz : ∀ w, (sizeOf 9).run Try.prog w = .ok 1 w := by
    intro w
    cases hq : Try.prog.info? 9 with
    | none => have h := size_str; simp [hq] at h
    | some i =>
      have : i.size = 1 := by have h := size_str; simpa [hq] using h
      simp [sizeOf, typeInfo, hq, this]
  rw [Op.equalIn]
  simp only [Sem.run_bind, run_underlying Try.underlying27, Result.andThen_ok, hsz]
  rw [Std.Legacy.Range.forIn_eq_forIn_range']
  have hl := run_eqs_loop w d 9 Try.underlying9 (rcD r) (rcD s) (dk r) (dk s) 4 0 (fun j _ h2 => by
    obtain rfl | rfl | rfl | rfl : j = 0 ∨ j = 1 ∨ j = 2 ∨ j = 3 := by omega
    all_goals exact ⟨rfl, rfl⟩)
  have e2 : List.range' [:4].start [:4].size [:4].step = List.range' 0 4 := by simp [Std.Legacy.Range.size]
  rw [e2, hl]
  have e3 : (List.range' 0 4).all (fun j => dk r j == dk s j) = (r.d0 == s.d0 && (r.d1 == s.d1 && (r.d2 == s.d2 && r.d3 == s.d3))) := by
    simp [List.range', dk]
  rw [e3]
  cases (r.d0 == s.d0 && (r.d1 == s.d1 && (r.d2 == s.d2 && r.d3 == s.d3))) <;> simp
theorem run_rc_equal (w : World) (r s : Rc) : (Op.equalIn 10000 29 (.agg (rcC r)) (.agg (rcC s))).run Try.prog w = .ok (rcEq r s) w := by
  have hd := run_dat_eq w 9997 r s
  unfold rcEq
  unfold rcD at hd
  generalize (r.d0 == s.d0 && (r.d1 == s.d1 && (r.d2 == s.d2 && r.d3 == s.d3))) = x at hd ⊢
  unfold rcC
  by_cases h0 : r.ep = s.ep <;> by_cases h1 : r.sq = s.sq <;> by_cases h2 : r.rw = s.rw <;> cases x <;> (go_simp; try simp [hd, h0, h1, h2])
theorem run_rc_eql (w : World) (r s : Rc) : (binOp .eql 29 (.agg (rcC r)) (.agg (rcC s))).run Try.prog w = .ok (.bool (rcEq r s)) w := by
  rw [run_eql_struct, run_rc_equal]
  rfl
theorem run_rc_neq (w : World) (r s : Rc) : (binOp .neq 29 (.agg (rcC r)) (.agg (rcC s))).run Try.prog w = .ok (.bool (!rcEq r s)) w := by
  rw [run_neq_struct, run_rc_equal]
  rfl
theorem rcEq_self (r : Rc) : rcEq r r = true := by simp [rcEq]
theorem srt_one (r : Rc) : srt #[r] = #[r] := by
  unfold srt insertionSort
  rw [insOuter, if_neg (by simp)]
theorem srt_none : srt #[] = #[] := by
  unfold srt insertionSort
  rw [insOuter, if_neg (by simp)]
/-- the chapter's sectors: six that are none, and a record's -/
def W12 : List (List UInt8) := [[], [], [], [], [], []] ++ sixV 1 (oneX (full 9))
theorem recs_2 : recsK 1 2 W12 8 = [oneX (full 9)] := by kernel_rfl
theorem recs_3 : recsK 1 3 W12 8 = [] := by kernel_rfl
theorem read_2 : readV 1 2 W12 = [oneX (full 9)] := by
  unfold readV
  rw [recs_2, srt_one]
theorem read_3 : readV 1 3 W12 = [] := by
  unfold readV
  rw [recs_3, srt_none]
theorem one_data : Data (oneX (full 9)) := by
  intro k
  unfold dk oneX
  split <;> decide
theorem W12_len : W12.length = 12 := by decide +kernel
theorem W12_max : ∀ s ∈ W12, s.length ≤ maxLen := by decide +kernel
end Go.Proofs.Ytccbohjcbhibkaa
