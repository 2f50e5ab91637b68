/- More small lemmas for the walks: whole blocks loaded where a guard says yes. -/
import Derived.Test.YteinnindnijdiaaBase
namespace Go.Proofs.Yteinnindnijdiaa
set_option linter.unusedVariables false
open Go.RowKit

/-- 'load' of a whole block, under a guard that says yes -/
theorem wpList_load_blk_g {P : Program} {ops : Array Oper} {rest : List Oper} {op : Oper} {a : Act} {w : World} {Q : Exit → Act → World → Prop} (hw : Region.wanted op (yielded ops a.tmps) = true) (ty : TypeId) (x : Operand) (ho : op.op = .load ty x)
    (b : Nat) (hx : a.eval x = .pointer (some ⟨b, 0, none⟩)) (C : Array Value) (e : TypeId) (d : TypeDesc) (hc : Blk w b e C)
    (hu : P.underlying ty = some d) (hd : d.isRow = true) (hi : (P.info? ty).map (·.size) = some C.size)
    (h : wpList P ops Q rest (a.put op.dst (.agg C)) w) : wpList P ops Q (op :: rest) a w := by
  refine wpList_step fun K hK => ?_
  rw [if_pos hw]
  refine wp_load_mid ty x ho b 0 hx C.toList d hc.range hu hd (by simpa using hi) (hK _ _ ?_)
  simpa using h

end Go.Proofs.Yteinnindnijdiaa
