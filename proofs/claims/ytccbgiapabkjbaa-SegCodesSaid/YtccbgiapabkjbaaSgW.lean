/- The parameters of this layer's laws by their cells: a segment, an address. No condition. -/
import Derived.Test.YtccbgiapabkjbaaLaw
import Derived.Test.YtccbgiapabkjbaaSg
namespace Go.Proofs.Ytccbgiapabkjbaa
set_option linter.unusedVariables false
set_option maxRecDepth 100000
open Go.ChangeShapes Go.WideShapes Go.ChangeAt Go.RowKit

def sgTs : List TypeId := [3, 3, 27, 27, 3, 3, 3, 9]
theorem row_sg {w : World} {r : Reach} {base : Nat} {v : Value} (h : Value.okWide Try.prog w r base 29 v) :
    ∃ (fr tp sq ak fl wi ms : Int) (d : List UInt8), v = .agg (sgC fr tp sq ak fl wi ms d) ∧ (0 ≤ sq ∧ sq ≤ 4294967295) ∧ (0 ≤ ak ∧ ak ≤ 4294967295) ∧ (-9223372036854775808 ≤ ms ∧ ms ≤ 9223372036854775807) ∧ d.length ≤ 9223372036854775807 := by
  obtain ⟨cs, rfl, hsz, hc⟩ := row_of (ts := sgTs) Try.underlying29 rfl (by kernel_rfl) (by kernel_rfl) h
  obtain ⟨L⟩ := cs
  match L, hsz, hc with
  | [c0, c1, c2, c3, c4, c5, c6, c7], hsz, hc =>
    obtain ⟨fr, rfl, _⟩ := cell_int (hc 0 (by decide) c0 rfl)
    obtain ⟨tp, rfl, _⟩ := cell_int (hc 1 (by decide) c1 rfl)
    obtain ⟨sq, rfl, hsq⟩ := cell_u32 (hc 2 (by decide) c2 rfl)
    obtain ⟨ak, rfl, hak⟩ := cell_u32 (hc 3 (by decide) c3 rfl)
    obtain ⟨fl, rfl, _⟩ := cell_int (hc 4 (by decide) c4 rfl)
    obtain ⟨wi, rfl, _⟩ := cell_int (hc 5 (by decide) c5 rfl)
    obtain ⟨ms, rfl, hms⟩ := cell_int (hc 6 (by decide) c6 rfl)
    obtain ⟨d, rfl, hd⟩ := cell_str (hc 7 (by decide) c7 rfl)
    exact ⟨fr, tp, sq, ak, fl, wi, ms, d, rfl, hsq, hak, hms, hd⟩

def ipTs : List TypeId := [5, 5, 5, 5]
theorem row_ip {w : World} {r : Reach} {base : Nat} {v : Value} (h : Value.okWide Try.prog w r base 23 v) : ∃ f : List UInt8, v = arrV f ∧ f.length = 4 := by
  obtain ⟨cs, rfl, hsz, hc⟩ := row_of (ts := ipTs) Try.underlying23 rfl (by kernel_rfl) (by kernel_rfl) h
  obtain ⟨L⟩ := cs
  match L, hsz, hc with
  | [c0, c1, c2, c3], hsz, hc =>
    obtain ⟨b0, rfl⟩ := cell_u8 (hc 0 (by decide) c0 rfl)
    obtain ⟨b1, rfl⟩ := cell_u8 (hc 1 (by decide) c1 rfl)
    obtain ⟨b2, rfl⟩ := cell_u8 (hc 2 (by decide) c2 rfl)
    obtain ⟨b3, rfl⟩ := cell_u8 (hc 3 (by decide) c3 rfl)
    exact ⟨[b0, b1, b2, b3], rfl, rfl⟩
end Go.Proofs.Ytccbgiapabkjbaa
