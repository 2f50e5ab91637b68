/- A packet's cells, and whether it may be. No condition beyond what each lemma says. -/
import Derived.Test.YticchchcobjpdaaSumP
import Derived.Test.YticchchcobjpdaaBaseC
import Derived.Deep.RegionHeld3
import Derived.Deep.DeepCutAuto
import Derived.Deep.DrawnRows
import Derived.Deep.MidRow
namespace Go.Proofs.Yticchchcobjpdaa
set_option linter.unusedVariables false
set_option maxRecDepth 100000
open Go.RowKit
attribute [local go_sem ↓] Go.wp_at_zero Go.wp_at_succ

/-- a packet's cells -/
def pkC (id : Int) (f t : List UInt8) (pr tt a : Int) (mo : Bool) (d : List UInt8) : Array Value :=
  (Value.int .i64 id :: ((f ++ t).map ubv ++ [Value.int .i64 pr, Value.int .i64 tt, Value.int .i64 a, Value.bool mo, Value.string ⟨d.toArray⟩])).toArray
/-- the two addresses are as long as addresses are -/
structure PkL (f t : List UInt8) : Prop where
  f : f.length = 4
  t : t.length = 4

theorem pkC_size {id : Int} {f t : List UInt8} {pr tt a : Int} {mo : Bool} {d : List UInt8} (h : PkL f t) : (pkC id f t pr tt a mo d).size = 14 := by
  simp [pkC, h.f, h.t]
theorem pkC_one (id : Int) (f t : List UInt8) (pr tt a : Int) (mo : Bool) (d : List UInt8) : (pkC id f t pr tt a mo d).toList.all (·.oneCell') = true := by
  rw [pkC, List.all_cons, List.all_append, List.all_map]
  simp only [Bool.and_eq_true, List.all_eq_true]
  refine ⟨rfl, fun _ _ => rfl, ?_⟩
  intro x hx
  simp only [List.mem_cons, List.not_mem_nil, or_false] at hx
  rcases hx with rfl | rfl | rfl | rfl | rfl <;> rfl

theorem pk_explicit {f t : List UInt8} (h : PkL f t) : ∃ f0 f1 f2 f3 t0 t1 t2 t3, f = [f0, f1, f2, f3] ∧ t = [t0, t1, t2, t3] := by
  obtain ⟨f0, f1, f2, f3, rfl⟩ := list4 h.f
  obtain ⟨t0, t1, t2, t3, rfl⟩ := list4 h.t
  exact ⟨_, _, _, _, _, _, _, _, rfl, rfl⟩

/-- what the cells of a packet's block hold -/
structure PkAt (w : World) (b : Nat) (id : Int) (f t : List UInt8) (pr tt a : Int) (mo : Bool) (d : List UInt8) : Prop where
  id : w.cell? ⟨b, 0, none⟩ = some (.int .i64 id)
  pr : w.cell? ⟨b, 9, none⟩ = some (.int .i64 pr)
  tt : w.cell? ⟨b, 10, none⟩ = some (.int .i64 tt)
  a : w.cell? ⟨b, 11, none⟩ = some (.int .i64 a)
  mo : w.cell? ⟨b, 12, none⟩ = some (.bool mo)
  d : w.cell? ⟨b, 13, none⟩ = some (.string ⟨d.toArray⟩)

theorem pk_at {w : World} {b : Nat} {e : TypeId} {id : Int} {f t : List UInt8} {pr tt a : Int} {mo : Bool} {d : List UInt8} (h : Blk w b e (pkC id f t pr tt a mo d)) (hL : PkL f t) : PkAt w b id f t pr tt a mo d := by
  obtain ⟨f0, f1, f2, f3, t0, t1, t2, t3, rfl, rfl⟩ := pk_explicit hL
  refine ⟨?_, ?_, ?_, ?_, ?_, ?_⟩ <;> (rw [h.cell]; rfl)
theorem pk_f {w : World} {b : Nat} {e : TypeId} {id : Int} {f t : List UInt8} {pr tt a : Int} {mo : Bool} {d : List UInt8} (h : Blk w b e (pkC id f t pr tt a mo d)) (hL : PkL f t) (j : Nat) (hj : j < f.length) : w.cell? ⟨b, 1 + j, none⟩ = some (.int .u8 (f[j].toNat : Int)) := by
  rw [h.cell]
  obtain ⟨f0, f1, f2, f3, t0, t1, t2, t3, rfl, rfl⟩ := pk_explicit hL
  have hj4 : j < 4 := hj
  match j, hj4 with
  | 0, _ | 1, _ | 2, _ | 3, _ => rfl
theorem pk_t {w : World} {b : Nat} {e : TypeId} {id : Int} {f t : List UInt8} {pr tt a : Int} {mo : Bool} {d : List UInt8} (h : Blk w b e (pkC id f t pr tt a mo d)) (hL : PkL f t) (j : Nat) (hj : j < t.length) : w.cell? ⟨b, 5 + j, none⟩ = some (.int .u8 (t[j].toNat : Int)) := by
  rw [h.cell]
  obtain ⟨f0, f1, f2, f3, t0, t1, t2, t3, rfl, rfl⟩ := pk_explicit hL
  have hj4 : j < 4 := hj
  match j, hj4 with
  | 0, _ | 1, _ | 2, _ | 3, _ => rfl

theorem size_pk : (Try.prog.info? 25).map (·.size) = some 14 := by kernel_rfl
theorem size_ip : (Try.prog.info? 23).map (·.size) = some 4 := by kernel_rfl
theorem ld_pk (v : Value) : Instr.loadAt 25 v = Ld 25 v := rfl
theorem ld_ip (v : Value) : Instr.loadAt 23 v = Ld 23 v := rfl

theorem Blk.ld_pk {w : World} {b : Nat} {e : TypeId} {id : Int} {f t : List UInt8} {pr tt a : Int} {mo : Bool} {d : List UInt8} (h : Blk w b e (pkC id f t pr tt a mo d)) (hL : PkL f t) :
    (Ld 25 (.pointer (some ⟨b, 0, none⟩))).run Try.prog w = .ok (.agg (pkC id f t pr tt a mo d)) w := by
  have hz : (pkC id f t pr tt a mo d).toList.length = 14 := by rw [← Array.size_eq_length_toList]; exact pkC_size hL
  have := h.ld 25 _ Try.underlying25 rfl 0 (pkC id f t pr tt a mo d).toList (by rw [List.drop_zero, List.take_of_length_le (Nat.le_refl _)]) (by rw [hz]; exact size_pk)
  simpa using this

/-- two packets, compared -/
def pkEq (id : Int) (f t : List UInt8) (pr tt a : Int) (mo : Bool) (d : List UInt8) (id' : Int) (f' t' : List UInt8) (pr' tt' a' : Int) (mo' : Bool) (d' : List UInt8) : Bool :=
  id == id' && (f == f' && (t == t' && (pr == pr' && (tt == tt' && (a == a' && (mo == mo' && d == d'))))))
theorem pkEq_self (id : Int) (f t : List UInt8) (pr tt a : Int) (mo : Bool) (d : List UInt8) : pkEq id f t pr tt a mo d id f t pr tt a mo d = true := by simp [pkEq]

set_option maxHeartbeats 2000000 in
theorem run_pk_equal (w : World) (id : Int) (f t : List UInt8) (pr tt a : Int) (mo : Bool) (d : List UInt8) (id' : Int) (f' t' : List UInt8) (pr' tt' a' : Int) (mo' : Bool) (d' : List UInt8) (h : PkL f t) (h' : PkL f' t') :
    (Op.equalIn 10000 25 (.agg (pkC id f t pr tt a mo d)) (.agg (pkC id' f' t' pr' tt' a' mo' d'))).run Try.prog w = .ok (pkEq id f t pr tt a mo d id' f' t' pr' tt' a' mo' d') w := by
  have e1 := run_eq_arr w 9997 23 4 Try.underlying23 f f' h.f h'.f
  have e2 := run_eq_arr w 9997 23 4 Try.underlying23 t t' h.t h'.t
  unfold pkEq
  generalize (f == f') = x1 at e1 ⊢
  generalize (t == t') = x2 at e2 ⊢
  obtain ⟨f0, f1, f2, f3, t0, t1, t2, t3, rfl, rfl⟩ := pk_explicit h
  obtain ⟨g0, g1, g2, g3, u0, u1, u2, u3, rfl, rfl⟩ := pk_explicit h'
  simp only [pkC, arrV, List.map_cons, List.map_nil, List.cons_append, List.nil_append, ubv] at e1 e2 ⊢
  by_cases k1 : id = id' <;> cases x1 <;> cases x2 <;> (go_simp; try simp [e1, e2, k1])
  by_cases k2 : pr = pr' <;> by_cases k3 : tt = tt' <;> by_cases k4 : a = a' <;> by_cases k5 : mo = mo' <;> by_cases k6 : d = d' <;> simp [k2, k3, k4, k5, k6]

theorem run_pk_eql (w : World) (id : Int) (f t : List UInt8) (pr tt a : Int) (mo : Bool) (d : List UInt8) (id' : Int) (f' t' : List UInt8) (pr' tt' a' : Int) (mo' : Bool) (d' : List UInt8) (h : PkL f t) (h' : PkL f' t') :
    (binOp .eql 25 (.agg (pkC id f t pr tt a mo d)) (.agg (pkC id' f' t' pr' tt' a' mo' d'))).run Try.prog w = .ok (.bool (pkEq id f t pr tt a mo d id' f' t' pr' tt' a' mo' d')) w := by
  rw [run_eql_struct, run_pk_equal w id f t pr tt a mo d id' f' t' pr' tt' a' mo' d' h h']
  rfl

/-- whether a packet may be -/
def mayB (id pr tt a : Int) (mo : Bool) (n : Nat) : Bool :=
  decide (0 ≤ id ∧ id ≤ 65535 ∧ 0 ≤ pr ∧ pr ≤ 255 ∧ 0 ≤ tt ∧ tt ≤ 255 ∧ 0 ≤ a ∧ a ≤ 65528 ∧ a % 8 = 0 ∧ a + n ≤ 65515) && (!mo || decide (0 < n ∧ n % 8 = 0))
end Go.Proofs.Yticchchcobjpdaa
