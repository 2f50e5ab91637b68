/- The parameters of this layer's laws by their cells: a packet. No condition. -/
import Derived.Test.YticchchcobjpdaaLaw
import Derived.Test.YticchchcobjpdaaPk
namespace Go.Proofs.Yticchchcobjpdaa
set_option linter.unusedVariables false
set_option maxRecDepth 100000
open Go.ChangeShapes Go.WideShapes Go.ChangeAt Go.RowKit

theorem cell_bool' {w : World} {r : Reach} {base : Nat} {v : Value} (h : Cell.okWide Try.prog w r base 4 v) : ∃ b : Bool, v = .bool b := by
  simp only [Cell.okWide, Try.underlying4] at h
  cases v <;> simp [Cell.ok, Try.underlying4] at h
  exact ⟨_, rfl⟩

theorem bytes_of : ∀ cs : List Value, (∀ x ∈ cs, ∃ b : UInt8, x = ubv b) → ∃ l : List UInt8, cs = l.map ubv
  | [], _ => ⟨[], rfl⟩
  | c :: r, h => by
    obtain ⟨b, hb⟩ := h c (by simp)
    obtain ⟨l, hl⟩ := bytes_of r (fun x hx => h x (by simp [hx]))
    exact ⟨b :: l, by rw [hb, hl]; rfl⟩

def pkTs : List TypeId := [3, 5, 5, 5, 5, 5, 5, 5, 5, 3, 3, 3, 4, 9]
theorem row_pk {w : World} {r : Reach} {base : Nat} {v : Value} (h : Value.okWide Try.prog w r base 25 v) :
    ∃ (id : Int) (f t : List UInt8) (pr tt a : Int) (mo : Bool) (d : List UInt8), v = .agg (pkC id f t pr tt a mo d) ∧ PkL f t ∧ (-9223372036854775808 ≤ id ∧ id ≤ 9223372036854775807) ∧ (-9223372036854775808 ≤ pr ∧ pr ≤ 9223372036854775807) ∧
      (-9223372036854775808 ≤ tt ∧ tt ≤ 9223372036854775807) ∧ (-9223372036854775808 ≤ a ∧ a ≤ 9223372036854775807) ∧ d.length ≤ 9223372036854775807 := by
  obtain ⟨cs, rfl, hsz, hc⟩ := row_of (ts := pkTs) Try.underlying25 rfl (by kernel_rfl) (by kernel_rfl) h
  obtain ⟨L⟩ := cs
  match L, hsz, hc with
  | [c0, c1, c2, c3, c4, c5, c6, c7, c8, c9, c10, c11, c12, c13], hsz, hc =>
    obtain ⟨id, rfl, hid⟩ := cell_int (hc 0 (by decide) c0 rfl)
    obtain ⟨b1, rfl⟩ := cell_u8 (hc 1 (by decide) c1 rfl)
    obtain ⟨b2, rfl⟩ := cell_u8 (hc 2 (by decide) c2 rfl)
    obtain ⟨b3, rfl⟩ := cell_u8 (hc 3 (by decide) c3 rfl)
    obtain ⟨b4, rfl⟩ := cell_u8 (hc 4 (by decide) c4 rfl)
    obtain ⟨b5, rfl⟩ := cell_u8 (hc 5 (by decide) c5 rfl)
    obtain ⟨b6, rfl⟩ := cell_u8 (hc 6 (by decide) c6 rfl)
    obtain ⟨b7, rfl⟩ := cell_u8 (hc 7 (by decide) c7 rfl)
    obtain ⟨b8, rfl⟩ := cell_u8 (hc 8 (by decide) c8 rfl)
    obtain ⟨pr, rfl, hpr⟩ := cell_int (hc 9 (by decide) c9 rfl)
    obtain ⟨tt, rfl, htt⟩ := cell_int (hc 10 (by decide) c10 rfl)
    obtain ⟨a, rfl, ha⟩ := cell_int (hc 11 (by decide) c11 rfl)
    obtain ⟨mo, rfl⟩ := cell_bool' (hc 12 (by decide) c12 rfl)
    obtain ⟨d, rfl, hd⟩ := cell_str (hc 13 (by decide) c13 rfl)
    exact ⟨id, [b1, b2, b3, b4], [b5, b6, b7, b8], pr, tt, a, mo, d, rfl, ⟨rfl, rfl⟩, hid, hpr, htt, ha, hd⟩
end Go.Proofs.Yticchchcobjpdaa
