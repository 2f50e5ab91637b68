/- 'copy(dst, s)' from a string into cells that are there, and small lemmas. No condition beyond what each lemma says. -/
import Derived.Test.YticchchcobjpdaaBase
import Derived.Laws.IdiomCopy
namespace Go.Proofs.Yticchchcobjpdaa
set_option linter.unusedVariables false
open Go.RowKit

theorem run_copy_str (P : Program) (w : World) (dT sT ty elem : TypeId) (b o dLen dCap n : Nat) (s : ByteArray)
    (hu : P.underlying dT = some (.slice elem)) (hs : (P.info? elem).map (·.size) = some 1) (hn : Nat.min s.size dLen = n) (ht : w.there b o n) :
    (Builtin.copy_ #[dT, sT] ty #[.slice (some ⟨b, o, none⟩) dLen dCap, .string s]).run P w = .ok (goInt n) (w.setCells b o ((s.data.toList.take n).map ubv)) := by
  have hl : ((s.data.toList.take n).map ubv).length = n := by
    rw [List.length_map, List.length_take]
    have : s.data.toList.length = s.size := by simp
    have : n ≤ s.size := by rw [← hn]; exact Nat.min_le_left _ _
    omega
  have hst := run_storeCells_cells (P := P) b o ((s.data.toList.take n).map ubv) 0 w (fun j hj => (ht j (by omega)).1) (fun j hj => (ht j (by omega)).2) (by
    intro v hv
    obtain ⟨x, _, rfl⟩ := List.mem_map.1 hv
    rfl)
  simp only [Nat.add_zero] at hst
  have htk : List.take n (List.map (fun b : UInt8 => Value.int IntKind.u8 (b.toNat : Int)) s.data.toList) = (s.data.toList.take n).map ubv := by
    rw [List.map_take]
  cases hq : P.info? elem with
  | none => simp [hq] at hs
  | some i =>
    simp [Builtin.copy_, run_underlying hu, Builtin.lenOf, Builtin.firstCells, sizeOf, typeInfo, hq, hn]
    rw [htk, hst]
    simp [Result.andThen]

/-- the same as a step of the walk -/
theorem wpList_copy_str {P : Program} {ops : Array Oper} {rest : List Oper} {op : Oper} {a : Act} {w : World} {Q : Exit → Act → World → Prop} (hgd : op.guard = none) (d x : Operand) (dT sT : TypeId)
    (ho : op.op = .call { callee := .builtin .copy, args := #[d, x], argTypes := #[dT, sT] }) (elem : TypeId) (b o dLen dCap n : Nat) (s : ByteArray)
    (hd : a.eval d = .slice (some ⟨b, o, none⟩) dLen dCap) (hx : a.eval x = .string s)
    (hu : P.underlying dT = some (.slice elem)) (hs : (P.info? elem).map (·.size) = some 1) (hn : Nat.min s.size dLen = n) (ht : w.there b o n)
    (h : wpList P ops Q rest (a.put op.dst (goInt n)) (w.setCells b o ((s.data.toList.take n).map ubv))) : wpList P ops Q (op :: rest) a w := by
  refine wpList_plain hgd fun K hK => ?_
  have hr := run_copy_str P w dT sT op.type elem b o dLen dCap n s hu hs hn ht
  unfold Oper.wp execOp
  simp only [ho, resolve, invoke, builtin, Sem.run_bind, Sem.run_pure, Result.andThen_ok, List.map_toArray, List.map_cons, List.map_nil, hd, hx, hr]
  exact hK _ _ h

theorem Blk.thereAt {w : World} {b : Nat} {e : TypeId} {C : Array Value} (h : Blk w b e C) (o n : Nat) (hf : o + n ≤ C.size) : w.there b o n := by
  intro j hj
  exact ⟨by rw [h.cell]; simp; omega, h.free _ (by omega)⟩

theorem ext_list' (l : List UInt8) (i j : Nat) : (⟨l.toArray⟩ : ByteArray).extract i j = ⟨((l.drop i).take (j - i)).toArray⟩ := by
  apply ByteArray.ext
  apply Array.toList_inj.1
  rw [extract_list]

/-- a text without what is ahead -/
theorem ext_from (a b : List UInt8) (n m : Nat) (h : a.length = n) (hm : m = n + b.length) : (⟨(a ++ b).toArray⟩ : ByteArray).extract n m = ⟨b.toArray⟩ := by
  rw [ext_list', ← h, List.drop_left, List.take_of_length_le (by omega)]
/-- what is ahead in a text -/
theorem ext_to (a b : List UInt8) (n : Nat) (h : a.length = n) : (⟨(a ++ b).toArray⟩ : ByteArray).extract 0 n = ⟨a.toArray⟩ := by
  rw [ext_list', List.drop_zero, Nat.sub_zero, ← h, List.take_left]

theorem info_size {P : Program} {e : TypeId} {z : Value} {n b : Nat} (h : (P.info? e).map (fun i => (i.zero, i.size, i.bytes)) = some (some z, n, b)) : (P.info? e).map (·.size) = some n := by
  cases hq : P.info? e with
  | none => simp [hq] at h
  | some i => simp [hq] at h ⊢; exact h.2.1
end Go.Proofs.Yticchchcobjpdaa
