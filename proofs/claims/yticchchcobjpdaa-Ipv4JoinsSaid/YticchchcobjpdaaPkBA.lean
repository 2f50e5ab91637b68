/- What package ipv4's Bytes computes of any packet. -/
import Derived.Test.YticchchcobjpdaaPkBF
import Derived.Test.YticchchcobjpdaaPkBT
namespace Go.Proofs.Yticchchcobjpdaa
set_option linter.unusedVariables false
set_option maxRecDepth 100000
open Go.RowKit
attribute [local go_sem ↓] Go.wp_at_zero Go.wp_at_succ
attribute [local go_sem ↓] ld_pk ld_ip

theorem pk_any (id : Int) (f t : List UInt8) (pr tt a : Int) (mo : Bool) (d : List UInt8) (hL : PkL f t) (hid : -9223372036854775808 ≤ id ∧ id ≤ 9223372036854775807) (hpr : -9223372036854775808 ≤ pr ∧ pr ≤ 9223372036854775807)
    (htt : -9223372036854775808 ≤ tt ∧ tt ≤ 9223372036854775807) (ha : -9223372036854775808 ≤ a ∧ a ≤ 9223372036854775807) (hd : d.length ≤ 9223372036854775807) (w : World) :
    Calls Try.prog 13 #[.agg (pkC id f t pr tt a mo d)] w fun e w' => e = .returned (.tuple #[.string ⟨(pkBytes id f t pr tt a mo d).1.toArray⟩, .int .i64 (pkBytes id f t pr tt a mo d).2]) ∧ Below w.heap.size w w' := by
  by_cases h : mayB id pr tt a mo d.length = false
  · exact pk_no id f t pr tt a mo d hL hid hpr htt ha hd w (Or.inl h)
  · have h1 : mayB id pr tt a mo d.length = true := by simpa using h
    by_cases h2 : 566 < d.length
    · exact pk_no id f t pr tt a mo d hL hid hpr htt ha hd w (Or.inr ⟨h1, h2⟩)
    · have e : pkBytes id f t pr tt a mo d = (pkHead id f t pr tt a mo d.length ++ d, 0) := by rw [pkBytes, if_neg h, if_neg h2]
      rw [e]
      cases mo
      · exact pk_ok_f id f t pr tt a d hL hid hpr htt ha w h1 (by omega)
      · exact pk_ok_t id f t pr tt a d hL hid hpr htt ha w h1 (by omega)
end Go.Proofs.Yticchchcobjpdaa
